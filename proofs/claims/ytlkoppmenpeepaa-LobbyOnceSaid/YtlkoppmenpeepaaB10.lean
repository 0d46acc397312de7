import Derived.Test.YtlkoppmenpeepaaB12
import Derived.Test.YtlkoppmenpeepaaSepH
namespace Go.Proofs.Ytlkoppmenpeepaa.B
open Go.RowKit Go.Maps Go.Sort Go.Shelf Go.Proofs.Ytlkoppmenpeepaa.Sep Go.Proofs.Ytlkoppmenpeepaa.P
set_option linter.unusedVariables false
set_option linter.unusedSimpArgs false
/-- Ninety-one numbers, by their places. -/
def arr (c : Nat → Int) : List Value := (List.range 91).map fun i => .int .i64 (c i)
theorem arr_len (c : Nat → Int) : (arr c).length = 91 := by simp [arr]
theorem arr_at {c : Nat → Int} {i : Nat} (h : i < 91) : (arr c)[i]? = some (.int .i64 (c i)) := by
  unfold arr; rw [List.getElem?_map, List.getElem?_range h]; rfl
theorem arr_put {c : Nat → Int} {n : Nat} (v : Int) : putAt (arr c) n [.int .i64 v] = arr fun i => if i = n then v else c i := by
  apply List.ext_getElem?
  intro i
  show ((arr c).set n _)[i]? = _
  rw [List.getElem?_set]
  by_cases hi : i < 91
  · by_cases hn : n = i
    · subst hn; rw [if_pos rfl, if_pos (by rw [arr_len]; exact hi), arr_at hi, if_pos rfl]
    · rw [if_neg hn, arr_at hi, arr_at hi, if_neg (fun e => hn e.symm)]
  · have h1 : (arr c)[i]? = none := List.getElem?_eq_none (by rw [arr_len]; omega)
    have h2 : (arr fun i => if i = n then v else c i)[i]? = none := List.getElem?_eq_none (by rw [arr_len]; omega)
    rw [h1, h2]
    split
    · split
      · rename_i h; rw [arr_len] at h; omega
      · rfl
    · rfl
/-- How many have a number. -/
def cnt (n : Nat) (l : List Wt) : Int := ((l.countP fun w => decide (w.num = (n : Int)) : Nat) : Int)
theorem cnt_nil (n : Nat) : cnt n [] = 0 := rfl
theorem cnt_append (n : Nat) (l m : List Wt) : cnt n (l ++ m) = cnt n l + cnt n m := by simp [cnt, List.countP_append]
theorem cnt_one (n : Nat) (x : Wt) : cnt n [x] = if x.num = (n : Int) then 1 else 0 := by
  by_cases h : x.num = (n : Int) <;> simp [cnt, List.countP_cons, h]
theorem cnt_off (n : Nat) (p : Wt → Bool) (l : List Wt) : cnt n l = cnt n (out p l) + cnt n (left p l) := by
  induction l with
  | nil => rfl
  | cons x l ih =>
    have e1 : cnt n (x :: l) = cnt n [x] + cnt n l := cnt_append n [x] l
    cases h : p x
    · have e2 : out p (x :: l) = out p l := by simp [out, h]
      have e3 : left p (x :: l) = x :: left p l := by simp [left, h]
      have e4 : cnt n (x :: left p l) = cnt n [x] + cnt n (left p l) := cnt_append n [x] _
      rw [e1, e2, e3, e4, ih]; omega
    · have e2 : out p (x :: l) = x :: out p l := by simp [out, h]
      have e3 : left p (x :: l) = left p l := by simp [left, h]
      have e4 : cnt n (x :: out p l) = cnt n [x] + cnt n (out p l) := cnt_append n [x] _
      rw [e1, e2, e3, e4, ih]; omega
theorem arr_zero : (List.replicate 91 (.int .i64 0) : List Value) = arr fun _ => 0 := by
  unfold arr; rw [List.map_const', List.length_range]
theorem arr_all (c : Nat → Int) : (arr c).extract 0 (0 + 91) = arr c := by
  rw [List.extract_eq_take_drop, List.drop_zero, List.take_of_length_le (by rw [arr_len]; omega)]
theorem cnt_nonneg (n : Nat) (l : List Wt) : 0 ≤ cnt n l := by unfold cnt; omega
theorem cnt_take {l : List Wt} {j : Nat} {x : Wt} (h : l[j]? = some x) (n : Nat) : cnt n (l.take (j + 1)) = cnt n (l.take j) + if x.num = (n : Int) then 1 else 0 := by
  rw [take_snoc h, cnt_append, cnt_one]
theorem cnt_take_le (l : List Wt) (j n : Nat) : cnt n (l.take j) ≤ cnt n l := by
  have := cnt_append n (l.take j) (l.drop j)
  rw [List.take_append_drop] at this
  have := cnt_nonneg n (l.drop j)
  omega
theorem cnt_mem {l : List Wt} {x : Wt} (h : x ∈ l) {n : Nat} (e : x.num = (n : Int)) : 1 ≤ cnt n l := by
  obtain ⟨j, hj, rfl⟩ := List.getElem_of_mem h
  have h1 := cnt_take (List.getElem?_eq_getElem hj) n
  rw [if_pos e] at h1
  have := cnt_take_le l (j + 1) n
  have := cnt_nonneg n (l.take j)
  omega
theorem cnt_none {l : List Wt} {n : Nat} (h : cnt n l = 0) {x : Wt} (hx : x ∈ l) : x.num ≠ (n : Int) := fun e => by have := cnt_mem hx e; omega
theorem cnt_zero {l : List Wt} {n : Nat} (h : ∀ x ∈ l, x.num ≠ (n : Int)) : cnt n l = 0 := by
  induction l with
  | nil => rfl
  | cons x l ih =>
    have e1 : cnt n (x :: l) = cnt n [x] + cnt n l := cnt_append n [x] l
    rw [e1, cnt_one, if_neg (h x (by simp)), ih fun y hy => h y (by simp [hy])]; rfl
theorem out_left_len (p : Wt → Bool) (l : List Wt) : (out p l).length + (left p l).length = l.length := by
  unfold out left
  induction l with
  | nil => rfl
  | cons x l ih => cases h : p x <;> simp [h] <;> omega
/-- Who waits, and how often each number came in and went out. -/
def Inv (k : Nat) (l : List Wt) (ci co : Nat → Int) : Prop :=
  (∀ x ∈ l, (1 ≤ x.num ∧ x.num ≤ 90) ∧ 1 ≤ x.holder ∧ x.holder ≤ 6) ∧ (∀ n, cnt n l ≤ 1) ∧ (∀ n, ci n = co n + cnt n l) ∧ ∀ n, 0 ≤ co n ∧ ci n ≤ (k : Int)
theorem Inv.nil : Inv 0 [] (fun _ => 0) (fun _ => 0) := ⟨by simp, fun n => by simp [cnt], fun n => by simp [cnt], fun n => by simp⟩
theorem Inv.up {k : Nat} {l : List Wt} {ci co : Nat → Int} (h : Inv k l ci co) : Inv (k + 1) l ci co := ⟨h.1, h.2.1, h.2.2.1, fun n => by have := h.2.2.2 n; omega⟩
theorem Inv.put {k : Nat} {l : List Wt} {ci co : Nat → Int} (h : Inv k l ci co) {x : Wt} (h1 : 1 ≤ x.num ∧ x.num ≤ 90) (h2 : 1 ≤ x.holder ∧ x.holder ≤ 6) {m : Nat} (hm : x.num = (m : Int)) (hc : ci m = co m) {c2 : Nat → Int} (e1 : c2 m = ci m + 1) (e2 : ∀ i, i ≠ m → c2 i = ci i) : Inv (k + 1) (l ++ [x]) c2 co := by
  have h0 := h.2.2.1 m
  have key : ∀ n, c2 n = ci n + if x.num = (n : Int) then 1 else 0 := by
    intro n
    by_cases e : n = m
    · subst e; rw [e1, if_pos hm]
    · rw [e2 n e, if_neg (by omega)]; omega
  refine ⟨fun y hy => ?_, fun n => ?_, fun n => ?_, fun n => ?_⟩
  · rcases List.mem_append.1 hy with hy | hy
    · exact h.1 y hy
    · have : y = x := by simpa using hy
      subst this; exact ⟨h1, h2⟩
  · rw [cnt_append, cnt_one]
    have := h.2.1 n
    by_cases e : x.num = (n : Int)
    · have : n = m := by omega
      subst this
      rw [if_pos e]; omega
    · rw [if_neg e]; omega
  · rw [cnt_append, cnt_one, key, h.2.2.1 n]; omega
  · have := h.2.2.2 n
    rw [key]
    split <;> omega
theorem Inv.part {k : Nat} {l : List Wt} {ci co : Nat → Int} (h : Inv k l ci co) (p : Wt → Bool) : Inv k (out p l ++ left p l) ci co :=
  ⟨fun x hx => h.1 x (by rcases List.mem_append.1 hx with hx | hx <;> exact (List.mem_filter.1 hx).1), fun n => by rw [cnt_append, ← cnt_off]; exact h.2.1 n, fun n => by rw [cnt_append, ← cnt_off]; exact h.2.2.1 n, h.2.2.2⟩
theorem Inv.off {k : Nat} {o l : List Wt} {ci co c2 : Nat → Int} (h : Inv k (o ++ l) ci co) (hc : ∀ n, c2 n = co n + cnt n o) : Inv k l ci c2 :=
  ⟨fun x hx => h.1 x (by simp [hx]), fun n => by have := h.2.1 n; rw [cnt_append] at this; have := cnt_nonneg n o; omega, fun n => by have := h.2.2.1 n; rw [cnt_append] at this; rw [hc]; omega,
   fun n => by have := h.2.2.2 n; have := cnt_nonneg n o; rw [hc]; omega⟩
theorem one_out {k : Nat} {l : List Wt} {ci co : Nat → Int} (h : Inv k l ci co) {m : Nat} (hb : (!(out (byNum (m : Int)) l).isEmpty) = true) : out (byNum (m : Int)) l = [hd (out (byNum (m : Int)) l)] := by
  have h1 := h.2.1 m
  have h2 : cnt m l = ((out (byNum (m : Int)) l).length : Int) := by
    unfold cnt out; rw [List.countP_eq_length_filter]; rfl
  have h3 : (out (byNum (m : Int)) l).length ≤ 1 := by omega
  generalize out (byNum (m : Int)) l = o at *
  match o with
  | [] => simp at hb
  | [x] => rfl
  | _ :: _ :: _ => simp at h3
theorem add_split {k : Nat} {l : List Wt} {ci co : Nat → Int} (h : Inv k l ci co) (hf : Fine l) {x : Wt} (h1 : 1 ≤ x.num ∧ x.num ≤ 90) (h2 : 7 ≤ x.waiter ∧ x.waiter ≤ 12) (h3 : 1 ≤ x.holder ∧ x.holder ≤ 6) {m : Nat} (hm : x.num = (m : Int)) :
    (addCode x l = 0 ∧ add x l = l ++ [x] ∧ ci m = co m ∧ l.length < 64 ∧ 0 ≤ ci m ∧ ci m ≤ (k : Int)) ∨ (addCode x l = 2 ∧ add x l = l ∧ ci m ≠ co m) ∨ (addCode x l = 7 ∧ add x l = l ∧ ci m = co m ∧ 64 ≤ l.length) := by
  have ok : okW x := ⟨isIdB_iff.2 (by omega), isIdB_iff.2 (by omega), isIdB_iff.2 (by omega), by omega⟩
  have c0 := h.2.2.1 m
  have c1 := h.2.2.2 m
  cases hh : has x l with
  | true =>
    have e : addCode x l = 2 := by unfold addCode; rw [if_neg (by simpa using ok), hh, if_pos rfl]
    refine .inr (.inl ⟨e, by unfold add; rw [if_neg (by rw [e]; decide)], ?_⟩)
    obtain ⟨y, hy, e2⟩ := List.any_eq_true.1 hh
    have : 1 ≤ cnt m l := cnt_mem hy (by have := of_decide_eq_true e2; omega)
    omega
  | false =>
    have hz : cnt m l = 0 := cnt_zero fun y hy e2 => by
      have := List.any_eq_false.1 hh y hy
      simp at this; omega
    by_cases h64 : 64 ≤ l.length
    · have e : addCode x l = 7 := by unfold addCode; rw [if_neg (by simpa using ok), hh, if_neg (by simp), if_pos h64]
      exact .inr (.inr ⟨e, by unfold add; rw [if_neg (by rw [e]; decide)], by omega, h64⟩)
    · obtain ⟨a1, a2⟩ := add_yes ok hh (by omega)
      exact .inl ⟨a1, a2, by omega, by omega, by omega, by omega⟩
theorem told_step {o : List Wt} {j m : Nat} {x : Wt} {co c2 c3 : Nat → Int} (hc : ∀ n, c2 n = co n + cnt n (o.take j)) (hx : o[j]? = some x) (hm : x.num = (m : Int)) (e1 : c3 m = c2 m + 1) (e2 : ∀ i, i ≠ m → c3 i = c2 i) : ∀ n, c3 n = co n + cnt n (o.take (j + 1)) := by
  intro n
  rw [cnt_take hx]
  have := hc n
  by_cases e : n = m
  · subst e; rw [if_pos hm]; omega
  · rw [if_neg (by omega), e2 n e]; omega
theorem told_bounds {k j : Nat} {o l : List Wt} {ci co c2 : Nat → Int} {x : Wt} (h : Inv k (o ++ l) ci co) (hx : o[j]? = some x) (hc : ∀ n, c2 n = co n + cnt n (o.take j)) :
    (1 ≤ x.num ∧ x.num ≤ 90) ∧ ∀ m : Nat, x.num = (m : Int) → ci m = c2 m + 1 ∧ 0 ≤ c2 m ∧ ci m ≤ (k : Int) := by
  have hmem : x ∈ o ++ l := List.mem_append_left _ (List.mem_of_getElem? hx)
  refine ⟨(h.1 x hmem).1, fun m hm => ?_⟩
  have h1 := h.2.1 m
  have h2 := h.2.2.1 m
  have h3 := h.2.2.2 m
  have h4 := hc m
  have h5 := cnt_take hx m
  rw [if_pos hm] at h5
  rw [cnt_append] at h1 h2
  have h6 := cnt_take_le o (j + 1) m
  have h7 := cnt_nonneg m l
  have h8 := cnt_nonneg m (o.take j)
  omega
def Ends (h : Nat) (l : List Wt) (ci c : Nat → Int) : Prop :=
  (∀ x ∈ l, (1 ≤ x.num ∧ x.num ≤ 90) ∧ (h : Int) ≤ x.holder ∧ x.holder ≤ 6) ∧ (∀ n, ci n = c n + cnt n l) ∧ ∀ n, 0 ≤ c n ∧ ci n ≤ 200
theorem Inv.last {k : Nat} {l : List Wt} {ci co : Nat → Int} (h : Inv k l ci co) (hk : k ≤ 200) : Ends 1 l ci co :=
  ⟨fun x hx => by have := h.1 x hx; omega, h.2.2.1, fun n => by have := h.2.2.2 n; omega⟩
theorem Ends.step {h : Nat} {l : List Wt} {ci c c2 : Nat → Int} (e : Ends h l ci c) (hc : ∀ n, c2 n = c n + cnt n (out (byHolder (h : Int)) l)) : Ends (h + 1) (left (byHolder (h : Int)) l) ci c2 :=
  ⟨fun x hx => by
    obtain ⟨h1, h2⟩ := List.mem_filter.1 hx
    have := e.1 x h1
    simp only [byHolder, Bool.not_eq_true', decide_eq_false_iff_not] at h2
    omega, fun n => by have := e.2.1 n; rw [cnt_off n (byHolder (h : Int)) l] at this; rw [hc]; omega, fun n => by have := e.2.2 n; have := cnt_nonneg n (out (byHolder (h : Int)) l); rw [hc]; omega⟩
theorem Ends.bounds {h j : Nat} {l : List Wt} {ci c c2 : Nat → Int} {x : Wt} (e : Ends h l ci c) (hx : (out (byHolder (h : Int)) l)[j]? = some x) (hc : ∀ n, c2 n = c n + cnt n ((out (byHolder (h : Int)) l).take j)) :
    ((1 ≤ x.num ∧ x.num ≤ 90) ∧ x.holder = (h : Int)) ∧ ∀ m : Nat, x.num = (m : Int) → 0 ≤ c2 m ∧ c2 m ≤ 200 := by
  obtain ⟨h1, h2⟩ := List.mem_filter.1 (List.mem_of_getElem? hx)
  refine ⟨⟨(e.1 x h1).1, of_decide_eq_true h2⟩, fun m hm => ?_⟩
  have h3 := e.2.1 m
  have h4 := e.2.2 m
  have h5 := hc m
  have h6 := cnt_take_le (out (byHolder (h : Int)) l) j m
  have h7 := cnt_nonneg m ((out (byHolder (h : Int)) l).take j)
  have h8 := cnt_off m (byHolder (h : Int)) l
  have h9 := cnt_nonneg m (left (byHolder (h : Int)) l)
  omega
theorem Ends.none {h : Nat} {l : List Wt} {ci c : Nat → Int} (e : Ends h l ci c) (hh : 7 ≤ h) : l = [] ∧ ci = c := by
  have hl : l = [] := by
    cases l with
    | nil => rfl
    | cons x l => have := e.1 x (by simp); omega
  subst hl
  exact ⟨rfl, funext fun n => by rw [e.2.1 n]; simp [cnt]⟩
theorem items_same (c : Nat → Int) (w : World) : ∀ is : List Nat, (∀ i ∈ is, i < 91) → (Op.eqItems 9999 3 (Try.prog.cellsOf 3) (arr c).toArray (arr c).toArray is).run Try.prog w = .ok true w := by
  intro is h
  have hc : Try.prog.cellsOf 3 = 1 := by kernel_rfl
  have a3 := Try.isAgg3 w
  induction is with
  | nil => simp [Op.eqItems]
  | cons i is ih =>
    have hp : (part 3 (arr c).toArray (i * Try.prog.cellsOf 3)).run Try.prog w = .ok (.int .i64 (c i)) w := by
      rw [hc, Nat.mul_one]
      have := arr_at (c := c) (h i (by simp))
      simp [part, a3, Result.andThen, this]
    have he := run_equalIn_int (P := Try.prog) w 9998 3 .i64 .i64 (c i) (c i) Try.underlying3
    simp only [Op.eqItems, Sem.run_bind, hp, Result.andThen_ok, he]
    simpa using ih fun j hj => h j (by simp [hj])
theorem eqArr (c : Nat → Int) (w : World) : (Op.equalIn 10000 54 (.agg (arr c).toArray) (.agg (arr c).toArray)).run Try.prog w = .ok true w := by
  obtain ⟨i, hi⟩ : ∃ i, Try.prog.info? 3 = some i := Option.isSome_iff_exists.1 (by kernel_rfl)
  rw [show (10000 : Nat) = 9999 + 1 from rfl, run_equalIn_array w 9999 _ _ Try.underlying54 hi]
  exact items_same c w _ fun i h => List.mem_range.1 h
theorem run_arr_eq {o : Oper} {E : Env} {a b : Operand} (c : Nat → Int) (ho : o.op = .binOp .eql 54 a b 54) (hx : evalE E a = .agg (arr c).toArray) (hy : evalE E b = .agg (arr c).toArray) :
    ∀ w, (execOp (evalE E) o).run Try.prog w = .ok (.value (.bool true)) w := by
  intro w
  have hm : Try.prog.eqGuardType Try.prog.depth 54 = false := by kernel_rfl
  have g : ∀ op a b u v, (eqGuard op 54 a b (.agg u) (.agg v)).run Try.prog w = .ok () w := fun op a b u v => run_eqGuard_agg w op 54 a b _ _ hm
  simp [execOp, ho, hx, hy, run_eql_struct, eqArr, g]

set_option maxRecDepth 100000 in
set_option maxHeartbeats 8000000 in
theorem once_true (W : World) (hW : W.drawn = 0) (L : List Chunk) (w : World) (A : Option Addr) (n c : Nat) (ds : List Dd) (hr : Knows L fun w => Reads w 5 A n (deeds ds)) (hl : ds.length = n) (hn : n ≤ 140737488351232) (s : St W L w) :
    Calls Try.prog 4 #[.slice A n c] w fun e w' => e = .returned (.bool true) ∧ St W L w' := by
  refine enter_args (l := [.slice A n c]) Try.func4 rfl rfl (Nat.le_of_ble_eq_true rfl) ?_
  intro a ha; replace ha : Has a 202 [(0, .slice A n c)] := ha
  refine wp_seq ?_
  refine wp_region_lit ?_
  refine st_val (.bool false) ha (by kernel_rfl) (by kernel_rfl) ?_
  clear ha; intro a ha
  refine wpList_nil ?_
  refine then_normal ?_
  refine wp_seq ?_
  refine wp_seq ?_
  refine wp_region_lit ?_
  refine st_call ha (by kernel_rfl) (by kernel_rfl) (works_true W hW _ w s) ?_
  rintro _ w ⟨rfl, s⟩
  replace s : St W (L) w := s
  refine ⟨_, rfl, ?_⟩; clear ha; intro a ha
  refine st_val (.bool false) ha (by kernel_rfl) (by kernel_rfl) ?_
  clear ha; intro a ha
  refine wpList_nil ?_
  refine then_normal ?_
  refine wp_false ha rfl (by kernel_rfl) ?_
  refine wp_skip ?_
  refine then_normal ?_
  refine wp_seq ?_
  refine wp_region_lit ?_
  refine st_call ha (by kernel_rfl) (by kernel_rfl) (new_lob W _ w s) ?_
  rintro _ w ⟨g1, rfl, s⟩
  replace s : St W (Lob g1 [] :: L) w := s
  refine ⟨_, rfl, ?_⟩; clear ha; intro a ha
  refine st_val (.pointer (some ⟨g1, 0, none⟩)) ha (by kernel_rfl) (by kernel_rfl) ?_
  clear ha; intro a ha
  refine wpList_nil ?_
  refine then_normal ?_
  refine wp_seq ?_
  refine wp_region_lit ?_
  refine st_ex ha (by kernel_rfl) (ex_alloc [.int .i64 0, .int .i64 0, .int .i64 0, .int .i64 0, .int .i64 0, .int .i64 0, .int .i64 0, .int .i64 0, .int .i64 0, .int .i64 0, .int .i64 0, .int .i64 0, .int .i64 0, .int .i64 0, .int .i64 0, .int .i64 0, .int .i64 0, .int .i64 0, .int .i64 0, .int .i64 0, .int .i64 0, .int .i64 0, .int .i64 0, .int .i64 0, .int .i64 0, .int .i64 0, .int .i64 0, .int .i64 0, .int .i64 0, .int .i64 0, .int .i64 0, .int .i64 0, .int .i64 0, .int .i64 0, .int .i64 0, .int .i64 0, .int .i64 0, .int .i64 0, .int .i64 0, .int .i64 0, .int .i64 0, .int .i64 0, .int .i64 0, .int .i64 0, .int .i64 0, .int .i64 0, .int .i64 0, .int .i64 0, .int .i64 0, .int .i64 0, .int .i64 0, .int .i64 0, .int .i64 0, .int .i64 0, .int .i64 0, .int .i64 0, .int .i64 0, .int .i64 0, .int .i64 0, .int .i64 0, .int .i64 0, .int .i64 0, .int .i64 0, .int .i64 0, .int .i64 0, .int .i64 0, .int .i64 0, .int .i64 0, .int .i64 0, .int .i64 0, .int .i64 0, .int .i64 0, .int .i64 0, .int .i64 0, .int .i64 0, .int .i64 0, .int .i64 0, .int .i64 0, .int .i64 0, .int .i64 0, .int .i64 0, .int .i64 0, .int .i64 0, .int .i64 0, .int .i64 0, .int .i64 0, .int .i64 0, .int .i64 0, .int .i64 0, .int .i64 0, .int .i64 0] s rfl (Try.zeroValue54 _) (by kernel_rfl)) ?_
  clear ha; rintro _ w a ⟨g2, rfl, s⟩ ha
  replace s : St W (.blk g2 [.int .i64 0, .int .i64 0, .int .i64 0, .int .i64 0, .int .i64 0, .int .i64 0, .int .i64 0, .int .i64 0, .int .i64 0, .int .i64 0, .int .i64 0, .int .i64 0, .int .i64 0, .int .i64 0, .int .i64 0, .int .i64 0, .int .i64 0, .int .i64 0, .int .i64 0, .int .i64 0, .int .i64 0, .int .i64 0, .int .i64 0, .int .i64 0, .int .i64 0, .int .i64 0, .int .i64 0, .int .i64 0, .int .i64 0, .int .i64 0, .int .i64 0, .int .i64 0, .int .i64 0, .int .i64 0, .int .i64 0, .int .i64 0, .int .i64 0, .int .i64 0, .int .i64 0, .int .i64 0, .int .i64 0, .int .i64 0, .int .i64 0, .int .i64 0, .int .i64 0, .int .i64 0, .int .i64 0, .int .i64 0, .int .i64 0, .int .i64 0, .int .i64 0, .int .i64 0, .int .i64 0, .int .i64 0, .int .i64 0, .int .i64 0, .int .i64 0, .int .i64 0, .int .i64 0, .int .i64 0, .int .i64 0, .int .i64 0, .int .i64 0, .int .i64 0, .int .i64 0, .int .i64 0, .int .i64 0, .int .i64 0, .int .i64 0, .int .i64 0, .int .i64 0, .int .i64 0, .int .i64 0, .int .i64 0, .int .i64 0, .int .i64 0, .int .i64 0, .int .i64 0, .int .i64 0, .int .i64 0, .int .i64 0, .int .i64 0, .int .i64 0, .int .i64 0, .int .i64 0, .int .i64 0, .int .i64 0, .int .i64 0, .int .i64 0, .int .i64 0, .int .i64 0] 54 :: Lob g1 [] :: L) w := s
  refine st_ex ha (by kernel_rfl) (ex_alloc [.int .i64 0, .int .i64 0, .int .i64 0, .int .i64 0, .int .i64 0, .int .i64 0, .int .i64 0, .int .i64 0, .int .i64 0, .int .i64 0, .int .i64 0, .int .i64 0, .int .i64 0, .int .i64 0, .int .i64 0, .int .i64 0, .int .i64 0, .int .i64 0, .int .i64 0, .int .i64 0, .int .i64 0, .int .i64 0, .int .i64 0, .int .i64 0, .int .i64 0, .int .i64 0, .int .i64 0, .int .i64 0, .int .i64 0, .int .i64 0, .int .i64 0, .int .i64 0, .int .i64 0, .int .i64 0, .int .i64 0, .int .i64 0, .int .i64 0, .int .i64 0, .int .i64 0, .int .i64 0, .int .i64 0, .int .i64 0, .int .i64 0, .int .i64 0, .int .i64 0, .int .i64 0, .int .i64 0, .int .i64 0, .int .i64 0, .int .i64 0, .int .i64 0, .int .i64 0, .int .i64 0, .int .i64 0, .int .i64 0, .int .i64 0, .int .i64 0, .int .i64 0, .int .i64 0, .int .i64 0, .int .i64 0, .int .i64 0, .int .i64 0, .int .i64 0, .int .i64 0, .int .i64 0, .int .i64 0, .int .i64 0, .int .i64 0, .int .i64 0, .int .i64 0, .int .i64 0, .int .i64 0, .int .i64 0, .int .i64 0, .int .i64 0, .int .i64 0, .int .i64 0, .int .i64 0, .int .i64 0, .int .i64 0, .int .i64 0, .int .i64 0, .int .i64 0, .int .i64 0, .int .i64 0, .int .i64 0, .int .i64 0, .int .i64 0, .int .i64 0, .int .i64 0] s rfl (Try.zeroValue54 _) (by kernel_rfl)) ?_
  clear ha; rintro _ w a ⟨g3, rfl, s⟩ ha
  replace s : St W (.blk g3 [.int .i64 0, .int .i64 0, .int .i64 0, .int .i64 0, .int .i64 0, .int .i64 0, .int .i64 0, .int .i64 0, .int .i64 0, .int .i64 0, .int .i64 0, .int .i64 0, .int .i64 0, .int .i64 0, .int .i64 0, .int .i64 0, .int .i64 0, .int .i64 0, .int .i64 0, .int .i64 0, .int .i64 0, .int .i64 0, .int .i64 0, .int .i64 0, .int .i64 0, .int .i64 0, .int .i64 0, .int .i64 0, .int .i64 0, .int .i64 0, .int .i64 0, .int .i64 0, .int .i64 0, .int .i64 0, .int .i64 0, .int .i64 0, .int .i64 0, .int .i64 0, .int .i64 0, .int .i64 0, .int .i64 0, .int .i64 0, .int .i64 0, .int .i64 0, .int .i64 0, .int .i64 0, .int .i64 0, .int .i64 0, .int .i64 0, .int .i64 0, .int .i64 0, .int .i64 0, .int .i64 0, .int .i64 0, .int .i64 0, .int .i64 0, .int .i64 0, .int .i64 0, .int .i64 0, .int .i64 0, .int .i64 0, .int .i64 0, .int .i64 0, .int .i64 0, .int .i64 0, .int .i64 0, .int .i64 0, .int .i64 0, .int .i64 0, .int .i64 0, .int .i64 0, .int .i64 0, .int .i64 0, .int .i64 0, .int .i64 0, .int .i64 0, .int .i64 0, .int .i64 0, .int .i64 0, .int .i64 0, .int .i64 0, .int .i64 0, .int .i64 0, .int .i64 0, .int .i64 0, .int .i64 0, .int .i64 0, .int .i64 0, .int .i64 0, .int .i64 0, .int .i64 0] 54 :: .blk g2 [.int .i64 0, .int .i64 0, .int .i64 0, .int .i64 0, .int .i64 0, .int .i64 0, .int .i64 0, .int .i64 0, .int .i64 0, .int .i64 0, .int .i64 0, .int .i64 0, .int .i64 0, .int .i64 0, .int .i64 0, .int .i64 0, .int .i64 0, .int .i64 0, .int .i64 0, .int .i64 0, .int .i64 0, .int .i64 0, .int .i64 0, .int .i64 0, .int .i64 0, .int .i64 0, .int .i64 0, .int .i64 0, .int .i64 0, .int .i64 0, .int .i64 0, .int .i64 0, .int .i64 0, .int .i64 0, .int .i64 0, .int .i64 0, .int .i64 0, .int .i64 0, .int .i64 0, .int .i64 0, .int .i64 0, .int .i64 0, .int .i64 0, .int .i64 0, .int .i64 0, .int .i64 0, .int .i64 0, .int .i64 0, .int .i64 0, .int .i64 0, .int .i64 0, .int .i64 0, .int .i64 0, .int .i64 0, .int .i64 0, .int .i64 0, .int .i64 0, .int .i64 0, .int .i64 0, .int .i64 0, .int .i64 0, .int .i64 0, .int .i64 0, .int .i64 0, .int .i64 0, .int .i64 0, .int .i64 0, .int .i64 0, .int .i64 0, .int .i64 0, .int .i64 0, .int .i64 0, .int .i64 0, .int .i64 0, .int .i64 0, .int .i64 0, .int .i64 0, .int .i64 0, .int .i64 0, .int .i64 0, .int .i64 0, .int .i64 0, .int .i64 0, .int .i64 0, .int .i64 0, .int .i64 0, .int .i64 0, .int .i64 0, .int .i64 0, .int .i64 0, .int .i64 0] 54 :: Lob g1 [] :: L) w := s
  refine wpList_nil ?_
  refine then_normal ?_
  refine wp_seq ?_
  refine wp_region_lit ?_
  refine st_val (.int .i64 0) ha (by kernel_rfl) (by kernel_rfl) ?_
  clear ha; intro a ha
  refine wpList_nil ?_
  refine then_normal ?_
  refine wp_seq ?_
  refine wp_seq ?_
  refine wp_region_lit ?_
  refine st_val (.int .i64 0) ha (by kernel_rfl) (by kernel_rfl) ?_
  clear ha; intro a ha
  refine wpList_nil ?_
  refine then_normal ?_
  refine wp_block ?_
  have ez : ([.int .i64 0, .int .i64 0, .int .i64 0, .int .i64 0, .int .i64 0, .int .i64 0, .int .i64 0, .int .i64 0, .int .i64 0, .int .i64 0, .int .i64 0, .int .i64 0, .int .i64 0, .int .i64 0, .int .i64 0, .int .i64 0, .int .i64 0, .int .i64 0, .int .i64 0, .int .i64 0, .int .i64 0, .int .i64 0, .int .i64 0, .int .i64 0, .int .i64 0, .int .i64 0, .int .i64 0, .int .i64 0, .int .i64 0, .int .i64 0, .int .i64 0, .int .i64 0, .int .i64 0, .int .i64 0, .int .i64 0, .int .i64 0, .int .i64 0, .int .i64 0, .int .i64 0, .int .i64 0, .int .i64 0, .int .i64 0, .int .i64 0, .int .i64 0, .int .i64 0, .int .i64 0, .int .i64 0, .int .i64 0, .int .i64 0, .int .i64 0, .int .i64 0, .int .i64 0, .int .i64 0, .int .i64 0, .int .i64 0, .int .i64 0, .int .i64 0, .int .i64 0, .int .i64 0, .int .i64 0, .int .i64 0, .int .i64 0, .int .i64 0, .int .i64 0, .int .i64 0, .int .i64 0, .int .i64 0, .int .i64 0, .int .i64 0, .int .i64 0, .int .i64 0, .int .i64 0, .int .i64 0, .int .i64 0, .int .i64 0, .int .i64 0, .int .i64 0, .int .i64 0, .int .i64 0, .int .i64 0, .int .i64 0, .int .i64 0, .int .i64 0, .int .i64 0, .int .i64 0, .int .i64 0, .int .i64 0, .int .i64 0, .int .i64 0, .int .i64 0, .int .i64 0] : List Value) = arr (fun _ => 0) := by kernel_rfl
  rw [ez] at s
  replace s : St W (.blk g3 (arr (fun _ => 0)) 54 :: .blk g2 (arr (fun _ => 0)) 54 :: Lob g1 [] :: L) w := s
  replace s := s.at_ (j := 1) rfl
  replace s : St W (.blk g2 (arr (fun _ => 0)) 54 :: .blk g3 (arr (fun _ => 0)) 54 :: Lob g1 [] :: L) w := s
  replace s := s.at_ (j := 2) rfl
  replace s : St W (Lob g1 [] :: .blk g2 (arr (fun _ => 0)) 54 :: .blk g3 (arr (fun _ => 0)) 54 :: L) w := s
  refine wp_loopG (G := (Nat × List Wt × (Nat → Int) × (Nat → Int))) (fun ⟨k, l, ci, co⟩ a w => Has a 202 [(0, .slice A n c), (3, .pointer (some ⟨g1, 0, none⟩)), (4, .pointer (some ⟨g2, 0, none⟩)), (5, .pointer (some ⟨g3, 0, none⟩)), (6, .int .i64 ((l.length : Nat) : Int)), (7, .int .i64 ((k : Nat) : Int))] ∧ St W (Lob g1 l :: .blk g2 (arr ci) 54 :: .blk g3 (arr co) 54 :: L) w ∧ (k ≤ 200 ∧ Fine l ∧ Inv k l ci co)) (fun ⟨k, l, ci, co⟩ => 200 - k) (0, [], (fun _ => 0), (fun _ => 0)) ?_ ?_
  · exact ⟨(Has.cons ha (by kernel_rfl) (by kernel_rfl) (Has.cons ha (by kernel_rfl) (by kernel_rfl) (Has.cons ha (by kernel_rfl) (by kernel_rfl) (Has.cons ha (by kernel_rfl) (by kernel_rfl) (Has.cons ha (by kernel_rfl) (by kernel_rfl) (Has.cons ha (by kernel_rfl) (by kernel_rfl) (Has.nil ha))))))), s, ⟨Nat.zero_le _, Fine.nil, Inv.nil⟩⟩
  · clear ha s; rintro ⟨k, l, ci, co⟩ a w ⟨ha, s, hp⟩
    refine wp_seq ?_
    refine wp_seq ?_
    refine wp_region_lit ?_
    refine st_val (.int .i64 ((k : Nat) : Int)) ha (by kernel_rfl) (by kernel_rfl) ?_
    clear ha; intro a ha
    refine st_val (.slice A n c) ha (by kernel_rfl) (by kernel_rfl) ?_
    clear ha; intro a ha
    refine st_val (.int .i64 ((n : Nat) : Int)) ha (by kernel_rfl) (by kernel_rfl) ?_
    clear ha; intro a ha
    refine st_val (.bool (decide (((k : Nat) : Int) < ((n : Nat) : Int)))) ha (by kernel_rfl) (by kernel_rfl) ?_
    clear ha; intro a ha
    refine st_val (.bool (decide (((k : Nat) : Int) < ((n : Nat) : Int)))) ha (by kernel_rfl) (by kernel_rfl) ?_
    clear ha; intro a ha
    rcases Bool.eq_false_or_eq_true (decide (((k : Nat) : Int) < ((n : Nat) : Int))) with hb | hb
    · rw [hb] at ha; replace hb : (((k : Nat) : Int) < ((n : Nat) : Int)) := of_decide_eq_true hb
      have hpf := hp.2.1
      have hI := hp.2.2
      have hll := hpf.2
      obtain ⟨d, hdd⟩ : ∃ d, ds[k]? = some d := ⟨_, List.getElem?_eq_getElem (by omega)⟩
      obtain ⟨ad, hA⟩ := Reads.addr (hr _ s.sat.tail.tail.tail) (by omega)
      subst hA
      refine st_val (.int .i64 ((k : Nat) : Int)) ha (by kernel_rfl) (by kernel_rfl) ?_
      clear ha; intro a ha
      refine st_val (.bool (decide (((k : Nat) : Int) < (200 : Int)))) ha (by kernel_rfl) (by kernel_rfl) ?_
      clear ha; intro a ha
      refine st_val (.bool (decide (((k : Nat) : Int) < (200 : Int)))) ha (by kernel_rfl) (by kernel_rfl) ?_
      clear ha; intro a ha
      refine wpList_nil ?_
      refine then_normal ?_
      refine wp_part (decide (((k : Nat) : Int) < (200 : Int))) ha rfl (by kernel_rfl) (fun hb => ?_) (fun hb => ?_)
      · rw [hb] at ha; replace hb : (((k : Nat) : Int) < (200 : Int)) := of_decide_eq_true hb
        refine wp_skip ?_
        refine then_normal ?_
        refine wp_seq ?_
        refine wp_block ?_
        refine wp_seq ?_
        refine wp_region_lit ?_
        refine st_val (.slice (some ad) n c) ha (by kernel_rfl) (by kernel_rfl) ?_
        clear ha; intro a ha
        refine st_val (.int .i64 ((k : Nat) : Int)) ha (by kernel_rfl) (by kernel_rfl) ?_
        clear ha; intro a ha
        refine st_val (.pointer (some (ad.add (k * 5)))) ha (by kernel_rfl) (run_indexAddr' (kd := .i64) (i := ((k : Nat) : Int)) (n := n) (c := c) k rfl Try.underlying22 Try.sizeOf30 (by kernel_rfl) (by kernel_rfl) rfl (by first | assumption | omega) _) ?_
        clear ha; intro a ha
        refine st_val (.pointer (some (ad.add (k * 5 + 1)))) ha (by kernel_rfl) (run_fieldAddr_at (i := k * 5) (off := 1) rfl Try.underlying30 rfl Try.sizeOf28 (by kernel_rfl) _) ?_
        clear ha; intro a ha
        refine st_val (.agg #[.int .i64 d.w.num, .string (str d.w.key), .int .i64 d.w.waiter, .int .i64 d.w.holder]) ha (by kernel_rfl) (run_loadAtN (i := k * 5 + 1) [.int .i64 d.w.num, .string (str d.w.key), .int .i64 d.w.waiter, .int .i64 d.w.holder] ((hr _ s.sat.tail.tail.tail)) rfl (by kernel_rfl) Try.isAgg28 Try.sizeOf28 (fun q_ hq_ => by rw [Nat.add_assoc, deeds_at hdd (by omega)]; match q_, hq_ with | 0, _ => rfl | 1, _ => rfl | 2, _ => rfl | 3, _ => rfl) rfl) ?_
        clear ha; intro a ha
        refine st_ex ha (by kernel_rfl) (ex_alloc [.int .i64 0, .string (str []), .int .i64 0, .int .i64 0] s rfl (Try.zeroValue28 _) (by kernel_rfl)) ?_
        clear ha; rintro _ w a ⟨g4, rfl, s⟩ ha
        replace s : St W (.blk g4 [.int .i64 0, .string (str []), .int .i64 0, .int .i64 0] 28 :: Lob g1 l :: .blk g2 (arr ci) 54 :: .blk g3 (arr co) 54 :: L) w := s
        refine st_exd ha (by kernel_rfl) (ex_store (of_ := 0) 0 [.int .i64 d.w.num, .string (str d.w.key), .int .i64 d.w.waiter, .int .i64 d.w.holder] s rfl rfl (by kernel_rfl) (by kernel_rfl) (Try.sizeOf28 _) rfl (by simp [Value.oneCell']) (Nat.le_of_ble_eq_true rfl)) ?_
        clear ha; rintro w a s ha
        replace s : St W (.blk g4 [.int .i64 d.w.num, .string (str d.w.key), .int .i64 d.w.waiter, .int .i64 d.w.holder] 28 :: Lob g1 l :: .blk g2 (arr ci) 54 :: .blk g3 (arr co) 54 :: L) w := s
        refine wpList_nil ?_
        refine then_normal ?_
        refine wp_seq ?_
        refine wp_region_lit ?_
        refine st_val (.pointer (some ⟨g4, 0, none⟩)) ha (by kernel_rfl) (by kernel_rfl) ?_
        clear ha; intro a ha
        refine st_val (.int .i64 d.w.num) ha (by kernel_rfl) (run_load1 (of_ := 0) (s.blkIs 0 rfl) rfl (by kernel_rfl) Try.isAgg3 rfl) ?_
        clear ha; intro a ha
        obtain ⟨m0, hm0⟩ : ∃ m0 : Nat, d.w.num % 90 = (m0 : Int) := ⟨(d.w.num % 90).toNat, by omega⟩
        have hm0b : m0 < 90 := by omega
        refine st_call ha (by kernel_rfl) (by kernel_rfl) (bring_to W _ w d.w.num 90 ((m0 : Nat) : Int) hm0 (by omega) (by omega) s) ?_
        rintro _ w ⟨rfl, s⟩
        replace s : St W (.blk g4 [.int .i64 d.w.num, .string (str d.w.key), .int .i64 d.w.waiter, .int .i64 d.w.holder] 28 :: Lob g1 l :: .blk g2 (arr ci) 54 :: .blk g3 (arr co) 54 :: L) w := s
        refine ⟨_, rfl, ?_⟩; clear ha; intro a ha
        refine st_val (.int .i64 ((m0 + 1 : Nat) : Int)) ha (by kernel_rfl) (run_arith ((1 : Int) + ((m0 : Nat) : Int)) (((m0 + 1 : Nat) : Int)) rfl (by kernel_rfl) (by kernel_rfl) (.inl ⟨rfl, rfl⟩) (by rw [wrap64_in (by omega)]; omega) _) ?_
        clear ha; intro a ha
        refine st_val (.pointer (some ⟨g4, 0, none⟩)) ha (by kernel_rfl) (by kernel_rfl) ?_
        clear ha; intro a ha
        refine st_exd ha (by kernel_rfl) (ex_store (of_ := 0) 0 [.int .i64 ((m0 + 1 : Nat) : Int)] s rfl rfl (by kernel_rfl) (by kernel_rfl) (Try.sizeOf3 _) rfl (by simp [Value.oneCell']) (Nat.le_of_ble_eq_true rfl)) ?_
        clear ha; rintro w a s ha
        replace s : St W (.blk g4 [.int .i64 ((m0 + 1 : Nat) : Int), .string (str d.w.key), .int .i64 d.w.waiter, .int .i64 d.w.holder] 28 :: Lob g1 l :: .blk g2 (arr ci) 54 :: .blk g3 (arr co) 54 :: L) w := s
        refine wpList_nil ?_
        refine then_normal ?_
        refine wp_seq ?_
        refine wp_region_lit ?_
        refine st_val (.pointer (some ⟨g4, 3, none⟩)) ha (by kernel_rfl) (by kernel_rfl) ?_
        clear ha; intro a ha
        refine st_val (.int .i64 d.w.holder) ha (by kernel_rfl) (run_load1 (of_ := 3) (s.blkIs 0 rfl) rfl (by kernel_rfl) Try.isAgg3 rfl) ?_
        clear ha; intro a ha
        obtain ⟨u, hu⟩ : ∃ u : Int, d.w.holder % 6 = u := ⟨_, rfl⟩
        have hub : 0 ≤ u ∧ u < 6 := by omega
        refine st_call ha (by kernel_rfl) (by kernel_rfl) (bring_to W _ w d.w.holder 6 u hu (by omega) (by omega) s) ?_
        rintro _ w ⟨rfl, s⟩
        replace s : St W (.blk g4 [.int .i64 ((m0 + 1 : Nat) : Int), .string (str d.w.key), .int .i64 d.w.waiter, .int .i64 d.w.holder] 28 :: Lob g1 l :: .blk g2 (arr ci) 54 :: .blk g3 (arr co) 54 :: L) w := s
        refine ⟨_, rfl, ?_⟩; clear ha; intro a ha
        refine st_val (.int .i64 ((1 : Int) + u)) ha (by kernel_rfl) (run_arith ((1 : Int) + u) ((1 : Int) + u) rfl (by kernel_rfl) (by kernel_rfl) (.inl ⟨rfl, rfl⟩) (by rw [wrap64_in (by omega)]) _) ?_
        clear ha; intro a ha
        refine st_val (.pointer (some ⟨g4, 3, none⟩)) ha (by kernel_rfl) (by kernel_rfl) ?_
        clear ha; intro a ha
        refine st_exd ha (by kernel_rfl) (ex_store (of_ := 3) 0 [.int .i64 ((1 : Int) + u)] s rfl rfl (by kernel_rfl) (by kernel_rfl) (Try.sizeOf3 _) rfl (by simp [Value.oneCell']) (Nat.le_of_ble_eq_true rfl)) ?_
        clear ha; rintro w a s ha
        replace s : St W (.blk g4 [.int .i64 ((m0 + 1 : Nat) : Int), .string (str d.w.key), .int .i64 d.w.waiter, .int .i64 ((1 : Int) + u)] 28 :: Lob g1 l :: .blk g2 (arr ci) 54 :: .blk g3 (arr co) 54 :: L) w := s
        refine wpList_nil ?_
        refine then_normal ?_
        refine wp_seq ?_
        refine wp_region_lit ?_
        refine st_val (.pointer (some ⟨g4, 2, none⟩)) ha (by kernel_rfl) (by kernel_rfl) ?_
        clear ha; intro a ha
        refine st_val (.int .i64 d.w.waiter) ha (by kernel_rfl) (run_load1 (of_ := 2) (s.blkIs 0 rfl) rfl (by kernel_rfl) Try.isAgg3 rfl) ?_
        clear ha; intro a ha
        obtain ⟨v, hv⟩ : ∃ v : Int, d.w.waiter % 6 = v := ⟨_, rfl⟩
        have hvb : 0 ≤ v ∧ v < 6 := by omega
        refine st_call ha (by kernel_rfl) (by kernel_rfl) (bring_to W _ w d.w.waiter 6 v hv (by omega) (by omega) s) ?_
        rintro _ w ⟨rfl, s⟩
        replace s : St W (.blk g4 [.int .i64 ((m0 + 1 : Nat) : Int), .string (str d.w.key), .int .i64 d.w.waiter, .int .i64 ((1 : Int) + u)] 28 :: Lob g1 l :: .blk g2 (arr ci) 54 :: .blk g3 (arr co) 54 :: L) w := s
        refine ⟨_, rfl, ?_⟩; clear ha; intro a ha
        refine st_val (.int .i64 ((7 : Int) + v)) ha (by kernel_rfl) (run_arith ((7 : Int) + v) ((7 : Int) + v) rfl (by kernel_rfl) (by kernel_rfl) (.inl ⟨rfl, rfl⟩) (by rw [wrap64_in (by omega)]) _) ?_
        clear ha; intro a ha
        refine st_val (.pointer (some ⟨g4, 2, none⟩)) ha (by kernel_rfl) (by kernel_rfl) ?_
        clear ha; intro a ha
        refine st_exd ha (by kernel_rfl) (ex_store (of_ := 2) 0 [.int .i64 ((7 : Int) + v)] s rfl rfl (by kernel_rfl) (by kernel_rfl) (Try.sizeOf3 _) rfl (by simp [Value.oneCell']) (Nat.le_of_ble_eq_true rfl)) ?_
        clear ha; rintro w a s ha
        replace s : St W (.blk g4 [.int .i64 ((m0 + 1 : Nat) : Int), .string (str d.w.key), .int .i64 ((7 : Int) + v), .int .i64 ((1 : Int) + u)] 28 :: Lob g1 l :: .blk g2 (arr ci) 54 :: .blk g3 (arr co) 54 :: L) w := s
        refine wpList_nil ?_
        refine then_normal ?_
        refine wp_seq ?_
        refine wp_region_lit ?_
        refine st_val (.slice none 0 0) ha (by kernel_rfl) (by kernel_rfl) ?_
        clear ha; intro a ha
        refine wpList_nil ?_
        refine then_normal ?_
        refine wp_between (fun a w => ∃ (o l2 : List Wt) (ci2 : Nat → Int) (A : Option Addr) (cc : Nat), Has a 202 [(0, .slice (some ad) n c), (3, .pointer (some ⟨g1, 0, none⟩)), (4, .pointer (some ⟨g2, 0, none⟩)), (5, .pointer (some ⟨g3, 0, none⟩)), (7, .int .i64 ((k : Nat) : Int)), (6, .int .i64 ((o.length + l2.length : Nat) : Int)), (9, .slice A o.length cc)] ∧ St W (Own 28 4 A o.length cc (ws o) :: Lob g1 l2 :: .blk g2 (arr ci2) 54 :: .blk g3 (arr co) 54 :: L) w ∧ Fine l2 ∧ Inv (k + 1) (o ++ l2) ci2 co ∧ o.length ≤ 64) ?_ ?_
        · skip
          refine wp_seq ?_
          refine wp_region_lit ?_
          refine st_val (.slice (some ad) n c) ha (by kernel_rfl) (by kernel_rfl) ?_
          clear ha; intro a ha
          refine st_val (.int .i64 ((k : Nat) : Int)) ha (by kernel_rfl) (by kernel_rfl) ?_
          clear ha; intro a ha
          refine st_val (.pointer (some (ad.add (k * 5)))) ha (by kernel_rfl) (run_indexAddr' (kd := .i64) (i := ((k : Nat) : Int)) (n := n) (c := c) k rfl Try.underlying22 Try.sizeOf30 (by kernel_rfl) (by kernel_rfl) rfl (by first | assumption | omega) _) ?_
          clear ha; intro a ha
          refine st_val (.pointer (some (ad.add (k * 5 + 0)))) ha (by kernel_rfl) (run_fieldAddr_at (i := k * 5) (off := 0) rfl Try.underlying30 rfl Try.sizeOf3 (by kernel_rfl) _) ?_
          clear ha; intro a ha
          refine st_val (.int .i64 d.k) ha (by kernel_rfl) (run_loadAt1 (i := k * 5 + 0) ((hr _ s.sat.tail.tail.tail.tail)) rfl (by kernel_rfl) Try.isAgg3 (by rw [deeds_at hdd (by omega)]; rfl)) ?_
          clear ha; intro a ha
          obtain ⟨r, hr⟩ : ∃ r : Int, d.k % 8 = r := ⟨_, rfl⟩
          have hrb : 0 ≤ r ∧ r < 8 := by omega
          refine st_call ha (by kernel_rfl) (by kernel_rfl) (bring_to W _ w d.k 8 r hr (by omega) (by omega) s) ?_
          rintro _ w ⟨rfl, s⟩
          replace s : St W (.blk g4 [.int .i64 ((m0 + 1 : Nat) : Int), .string (str d.w.key), .int .i64 ((7 : Int) + v), .int .i64 ((1 : Int) + u)] 28 :: Lob g1 l :: .blk g2 (arr ci) 54 :: .blk g3 (arr co) 54 :: L) w := s
          refine ⟨_, rfl, ?_⟩; clear ha; intro a ha
          refine wpList_nil ?_
          refine then_normal ?_
          refine wp_block ?_
          refine wp_seq ?_
          refine wp_region_lit ?_
          refine st_val (.bool (r == (5 : Int))) ha (by kernel_rfl) (by kernel_rfl) ?_
          clear ha; intro a ha
          refine st_val (.bool (r == (5 : Int))) ha (by kernel_rfl) (by kernel_rfl) ?_
          clear ha; intro a ha
          refine wpList_nil ?_
          refine then_normal ?_
          refine wp_part (r == (5 : Int)) ha rfl (by kernel_rfl) (fun hb => ?_) (fun hb => ?_)
          · rw [hb] at ha; have hb_ := hb; replace hb := eq_of_beq hb
            refine wp_seq ?_
            refine wp_region_lit ?_
            refine st_val (.pointer (some ⟨g1, 0, none⟩)) ha (by kernel_rfl) (by kernel_rfl) ?_
            clear ha; intro a ha
            refine st_val (.pointer (some ⟨g4, 0, none⟩)) ha (by kernel_rfl) (by kernel_rfl) ?_
            clear ha; intro a ha
            refine st_val (.int .i64 ((m0 + 1 : Nat) : Int)) ha (by kernel_rfl) (run_load1 (of_ := 0) (s.blkIs 0 rfl) rfl (by kernel_rfl) Try.isAgg3 rfl) ?_
            clear ha; intro a ha
            replace s := s.at_ (j := 1) rfl
            replace s : St W (Lob g1 l :: .blk g4 [.int .i64 ((m0 + 1 : Nat) : Int), .string (str d.w.key), .int .i64 ((7 : Int) + v), .int .i64 ((1 : Int) + u)] 28 :: .blk g2 (arr ci) 54 :: .blk g3 (arr co) 54 :: L) w := s
            refine st_call ha (by kernel_rfl) (by kernel_rfl) (take_lob W _ w g1 l ((m0 + 1 : Nat) : Int) hpf s) ?_
            rintro _ w ⟨rfl, s⟩
            replace s : St W (Lob g1 (left (byNum ((m0 + 1 : Nat) : Int)) l) :: .blk g4 [.int .i64 ((m0 + 1 : Nat) : Int), .string (str d.w.key), .int .i64 ((7 : Int) + v), .int .i64 ((1 : Int) + u)] 28 :: .blk g2 (arr ci) 54 :: .blk g3 (arr co) 54 :: L) w := s
            refine ⟨_, rfl, ?_⟩; clear ha; intro a ha
            refine st_val (.tuple #[.agg #[.int .i64 ((hd (out (byNum ((m0 + 1 : Nat) : Int)) l)).num), .string (str (hd (out (byNum ((m0 + 1 : Nat) : Int)) l)).key), .int .i64 ((hd (out (byNum ((m0 + 1 : Nat) : Int)) l)).waiter), .int .i64 ((hd (out (byNum ((m0 + 1 : Nat) : Int)) l)).holder)], .bool (!(out (byNum ((m0 + 1 : Nat) : Int)) l).isEmpty)]) ha (by kernel_rfl) (by kernel_rfl) ?_
            clear ha; intro a ha
            refine st_val (.agg #[.int .i64 ((hd (out (byNum ((m0 + 1 : Nat) : Int)) l)).num), .string (str (hd (out (byNum ((m0 + 1 : Nat) : Int)) l)).key), .int .i64 ((hd (out (byNum ((m0 + 1 : Nat) : Int)) l)).waiter), .int .i64 ((hd (out (byNum ((m0 + 1 : Nat) : Int)) l)).holder)]) ha (by kernel_rfl) (by kernel_rfl) ?_
            clear ha; intro a ha
            refine st_val (.bool (!(out (byNum ((m0 + 1 : Nat) : Int)) l).isEmpty)) ha (by kernel_rfl) (by kernel_rfl) ?_
            clear ha; intro a ha
            refine st_ex ha (by kernel_rfl) (ex_alloc [.int .i64 0, .string (str []), .int .i64 0, .int .i64 0] s rfl (Try.zeroValue28 _) (by kernel_rfl)) ?_
            clear ha; rintro _ w a ⟨g5, rfl, s⟩ ha
            replace s : St W (.blk g5 [.int .i64 0, .string (str []), .int .i64 0, .int .i64 0] 28 :: Lob g1 (left (byNum ((m0 + 1 : Nat) : Int)) l) :: .blk g4 [.int .i64 ((m0 + 1 : Nat) : Int), .string (str d.w.key), .int .i64 ((7 : Int) + v), .int .i64 ((1 : Int) + u)] 28 :: .blk g2 (arr ci) 54 :: .blk g3 (arr co) 54 :: L) w := s
            refine st_exd ha (by kernel_rfl) (ex_store (of_ := 0) 0 [.int .i64 ((hd (out (byNum ((m0 + 1 : Nat) : Int)) l)).num), .string (str (hd (out (byNum ((m0 + 1 : Nat) : Int)) l)).key), .int .i64 ((hd (out (byNum ((m0 + 1 : Nat) : Int)) l)).waiter), .int .i64 ((hd (out (byNum ((m0 + 1 : Nat) : Int)) l)).holder)] s rfl rfl (by kernel_rfl) (by kernel_rfl) (Try.sizeOf28 _) rfl (by simp [Value.oneCell']) (Nat.le_of_ble_eq_true rfl)) ?_
            clear ha; rintro w a s ha
            replace s : St W (.blk g5 [.int .i64 ((hd (out (byNum ((m0 + 1 : Nat) : Int)) l)).num), .string (str (hd (out (byNum ((m0 + 1 : Nat) : Int)) l)).key), .int .i64 ((hd (out (byNum ((m0 + 1 : Nat) : Int)) l)).waiter), .int .i64 ((hd (out (byNum ((m0 + 1 : Nat) : Int)) l)).holder)] 28 :: Lob g1 (left (byNum ((m0 + 1 : Nat) : Int)) l) :: .blk g4 [.int .i64 ((m0 + 1 : Nat) : Int), .string (str d.w.key), .int .i64 ((7 : Int) + v), .int .i64 ((1 : Int) + u)] 28 :: .blk g2 (arr ci) 54 :: .blk g3 (arr co) 54 :: L) w := s
            refine st_val (.bool (!(out (byNum ((m0 + 1 : Nat) : Int)) l).isEmpty)) ha (by kernel_rfl) (by kernel_rfl) ?_
            clear ha; intro a ha
            refine wpList_nil ?_
            refine then_normal ?_
            refine wp_seq ?_
            refine wp_region_lit ?_
            refine st_val (.bool (!(out (byNum ((m0 + 1 : Nat) : Int)) l).isEmpty)) ha (by kernel_rfl) (by kernel_rfl) ?_
            clear ha; intro a ha
            refine wpList_nil ?_
            refine then_normal ?_
            refine wp_part (!(out (byNum ((m0 + 1 : Nat) : Int)) l).isEmpty) ha rfl (by kernel_rfl) (fun hb => ?_) (fun hb => ?_)
            · rw [hb] at ha; skip
              refine wp_region_lit ?_
              refine st_val (.slice none 0 0) ha (by kernel_rfl) (by kernel_rfl) ?_
              clear ha; intro a ha
              refine st_val (.agg #[.int .i64 ((hd (out (byNum ((m0 + 1 : Nat) : Int)) l)).num), .string (str (hd (out (byNum ((m0 + 1 : Nat) : Int)) l)).key), .int .i64 ((hd (out (byNum ((m0 + 1 : Nat) : Int)) l)).waiter), .int .i64 ((hd (out (byNum ((m0 + 1 : Nat) : Int)) l)).holder)]) ha (by kernel_rfl) (run_loadN (of_ := 0) [.int .i64 ((hd (out (byNum ((m0 + 1 : Nat) : Int)) l)).num), .string (str (hd (out (byNum ((m0 + 1 : Nat) : Int)) l)).key), .int .i64 ((hd (out (byNum ((m0 + 1 : Nat) : Int)) l)).waiter), .int .i64 ((hd (out (byNum ((m0 + 1 : Nat) : Int)) l)).holder)] (s.blkIs 0 rfl) rfl (by kernel_rfl) Try.isAgg28 Try.sizeOf28 rfl (Nat.le_of_ble_eq_true rfl)) ?_
              clear ha; intro a ha
              refine st_ex ha (by kernel_rfl) (ex_buildSlice elt37 _ zs37 [.int .i64 ((hd (out (byNum ((m0 + 1 : Nat) : Int)) l)).num), .string (str (hd (out (byNum ((m0 + 1 : Nat) : Int)) l)).key), .int .i64 ((hd (out (byNum ((m0 + 1 : Nat) : Int)) l)).waiter), .int .i64 ((hd (out (byNum ((m0 + 1 : Nat) : Int)) l)).holder)] s rfl (by kernel_rfl) (by decide)) ?_
              clear ha; rintro _ w a ⟨g6, rfl, s⟩ ha
              replace s : St W (.blk g6 [.int .i64 ((hd (out (byNum ((m0 + 1 : Nat) : Int)) l)).num), .string (str (hd (out (byNum ((m0 + 1 : Nat) : Int)) l)).key), .int .i64 ((hd (out (byNum ((m0 + 1 : Nat) : Int)) l)).waiter), .int .i64 ((hd (out (byNum ((m0 + 1 : Nat) : Int)) l)).holder)] 28 :: .blk g5 [.int .i64 ((hd (out (byNum ((m0 + 1 : Nat) : Int)) l)).num), .string (str (hd (out (byNum ((m0 + 1 : Nat) : Int)) l)).key), .int .i64 ((hd (out (byNum ((m0 + 1 : Nat) : Int)) l)).waiter), .int .i64 ((hd (out (byNum ((m0 + 1 : Nat) : Int)) l)).holder)] 28 :: Lob g1 (left (byNum ((m0 + 1 : Nat) : Int)) l) :: .blk g4 [.int .i64 ((m0 + 1 : Nat) : Int), .string (str d.w.key), .int .i64 ((7 : Int) + v), .int .i64 ((1 : Int) + u)] 28 :: .blk g2 (arr ci) 54 :: .blk g3 (arr co) 54 :: L) w := s
              replace s := Own.none_ (e := 28) (k := 4) none s
              replace s : St W (Own 28 4 none 0 0 [] :: .blk g6 [.int .i64 ((hd (out (byNum ((m0 + 1 : Nat) : Int)) l)).num), .string (str (hd (out (byNum ((m0 + 1 : Nat) : Int)) l)).key), .int .i64 ((hd (out (byNum ((m0 + 1 : Nat) : Int)) l)).waiter), .int .i64 ((hd (out (byNum ((m0 + 1 : Nat) : Int)) l)).holder)] 28 :: .blk g5 [.int .i64 ((hd (out (byNum ((m0 + 1 : Nat) : Int)) l)).num), .string (str (hd (out (byNum ((m0 + 1 : Nat) : Int)) l)).key), .int .i64 ((hd (out (byNum ((m0 + 1 : Nat) : Int)) l)).waiter), .int .i64 ((hd (out (byNum ((m0 + 1 : Nat) : Int)) l)).holder)] 28 :: Lob g1 (left (byNum ((m0 + 1 : Nat) : Int)) l) :: .blk g4 [.int .i64 ((m0 + 1 : Nat) : Int), .string (str d.w.key), .int .i64 ((7 : Int) + v), .int .i64 ((1 : Int) + u)] 28 :: .blk g2 (arr ci) 54 :: .blk g3 (arr co) 54 :: L) w := s
              refine st_ex ha (by kernel_rfl) (ex_append (m := 1) (d' := 1) elt37 (by decide) 0 [.int .i64 ((hd (out (byNum ((m0 + 1 : Nat) : Int)) l)).num), .string (str (hd (out (byNum ((m0 + 1 : Nat) : Int)) l)).key), .int .i64 ((hd (out (byNum ((m0 + 1 : Nat) : Int)) l)).waiter), .int .i64 ((hd (out (byNum ((m0 + 1 : Nat) : Int)) l)).holder)] s rfl (by kernel_rfl) (by kernel_rfl) rfl (reads_blk (s.blkIs 1 rfl) rfl) (by simp [Value.oneCell']) (by simp only [maxLen]; omega) (by omega)) ?_
              clear ha; rintro _ w a ⟨A7, c8, rfl, hA_, s⟩ ha
              replace s : St W (Own 28 4 A7 (0 + 1) c8 ([] ++ [.int .i64 ((hd (out (byNum ((m0 + 1 : Nat) : Int)) l)).num), .string (str (hd (out (byNum ((m0 + 1 : Nat) : Int)) l)).key), .int .i64 ((hd (out (byNum ((m0 + 1 : Nat) : Int)) l)).waiter), .int .i64 ((hd (out (byNum ((m0 + 1 : Nat) : Int)) l)).holder)]) :: .blk g6 [.int .i64 ((hd (out (byNum ((m0 + 1 : Nat) : Int)) l)).num), .string (str (hd (out (byNum ((m0 + 1 : Nat) : Int)) l)).key), .int .i64 ((hd (out (byNum ((m0 + 1 : Nat) : Int)) l)).waiter), .int .i64 ((hd (out (byNum ((m0 + 1 : Nat) : Int)) l)).holder)] 28 :: .blk g5 [.int .i64 ((hd (out (byNum ((m0 + 1 : Nat) : Int)) l)).num), .string (str (hd (out (byNum ((m0 + 1 : Nat) : Int)) l)).key), .int .i64 ((hd (out (byNum ((m0 + 1 : Nat) : Int)) l)).waiter), .int .i64 ((hd (out (byNum ((m0 + 1 : Nat) : Int)) l)).holder)] 28 :: Lob g1 (left (byNum ((m0 + 1 : Nat) : Int)) l) :: .blk g4 [.int .i64 ((m0 + 1 : Nat) : Int), .string (str d.w.key), .int .i64 ((7 : Int) + v), .int .i64 ((1 : Int) + u)] 28 :: .blk g2 (arr ci) 54 :: .blk g3 (arr co) 54 :: L) w := s
              refine st_val (.slice A7 (0 + 1) c8) ha (by kernel_rfl) (by kernel_rfl) ?_
              clear ha; intro a ha
              refine wpList_nil ?_
              refine block_normal ?_
              refine then_normal ?_
              replace s := s.at_ (j := 6) rfl
              replace s : St W (.blk g3 (arr co) 54 :: Own 28 4 A7 (0 + 1) c8 ([] ++ [.int .i64 ((hd (out (byNum ((m0 + 1 : Nat) : Int)) l)).num), .string (str (hd (out (byNum ((m0 + 1 : Nat) : Int)) l)).key), .int .i64 ((hd (out (byNum ((m0 + 1 : Nat) : Int)) l)).waiter), .int .i64 ((hd (out (byNum ((m0 + 1 : Nat) : Int)) l)).holder)]) :: .blk g6 [.int .i64 ((hd (out (byNum ((m0 + 1 : Nat) : Int)) l)).num), .string (str (hd (out (byNum ((m0 + 1 : Nat) : Int)) l)).key), .int .i64 ((hd (out (byNum ((m0 + 1 : Nat) : Int)) l)).waiter), .int .i64 ((hd (out (byNum ((m0 + 1 : Nat) : Int)) l)).holder)] 28 :: .blk g5 [.int .i64 ((hd (out (byNum ((m0 + 1 : Nat) : Int)) l)).num), .string (str (hd (out (byNum ((m0 + 1 : Nat) : Int)) l)).key), .int .i64 ((hd (out (byNum ((m0 + 1 : Nat) : Int)) l)).waiter), .int .i64 ((hd (out (byNum ((m0 + 1 : Nat) : Int)) l)).holder)] 28 :: Lob g1 (left (byNum ((m0 + 1 : Nat) : Int)) l) :: .blk g4 [.int .i64 ((m0 + 1 : Nat) : Int), .string (str d.w.key), .int .i64 ((7 : Int) + v), .int .i64 ((1 : Int) + u)] 28 :: .blk g2 (arr ci) 54 :: L) w := s
              replace s := s.at_ (j := 6) rfl
              replace s : St W (.blk g2 (arr ci) 54 :: .blk g3 (arr co) 54 :: Own 28 4 A7 (0 + 1) c8 ([] ++ [.int .i64 ((hd (out (byNum ((m0 + 1 : Nat) : Int)) l)).num), .string (str (hd (out (byNum ((m0 + 1 : Nat) : Int)) l)).key), .int .i64 ((hd (out (byNum ((m0 + 1 : Nat) : Int)) l)).waiter), .int .i64 ((hd (out (byNum ((m0 + 1 : Nat) : Int)) l)).holder)]) :: .blk g6 [.int .i64 ((hd (out (byNum ((m0 + 1 : Nat) : Int)) l)).num), .string (str (hd (out (byNum ((m0 + 1 : Nat) : Int)) l)).key), .int .i64 ((hd (out (byNum ((m0 + 1 : Nat) : Int)) l)).waiter), .int .i64 ((hd (out (byNum ((m0 + 1 : Nat) : Int)) l)).holder)] 28 :: .blk g5 [.int .i64 ((hd (out (byNum ((m0 + 1 : Nat) : Int)) l)).num), .string (str (hd (out (byNum ((m0 + 1 : Nat) : Int)) l)).key), .int .i64 ((hd (out (byNum ((m0 + 1 : Nat) : Int)) l)).waiter), .int .i64 ((hd (out (byNum ((m0 + 1 : Nat) : Int)) l)).holder)] 28 :: Lob g1 (left (byNum ((m0 + 1 : Nat) : Int)) l) :: .blk g4 [.int .i64 ((m0 + 1 : Nat) : Int), .string (str d.w.key), .int .i64 ((7 : Int) + v), .int .i64 ((1 : Int) + u)] 28 :: L) w := s
              replace s := s.at_ (j := 5) rfl
              replace s : St W (Lob g1 (left (byNum ((m0 + 1 : Nat) : Int)) l) :: .blk g2 (arr ci) 54 :: .blk g3 (arr co) 54 :: Own 28 4 A7 (0 + 1) c8 ([] ++ [.int .i64 ((hd (out (byNum ((m0 + 1 : Nat) : Int)) l)).num), .string (str (hd (out (byNum ((m0 + 1 : Nat) : Int)) l)).key), .int .i64 ((hd (out (byNum ((m0 + 1 : Nat) : Int)) l)).waiter), .int .i64 ((hd (out (byNum ((m0 + 1 : Nat) : Int)) l)).holder)]) :: .blk g6 [.int .i64 ((hd (out (byNum ((m0 + 1 : Nat) : Int)) l)).num), .string (str (hd (out (byNum ((m0 + 1 : Nat) : Int)) l)).key), .int .i64 ((hd (out (byNum ((m0 + 1 : Nat) : Int)) l)).waiter), .int .i64 ((hd (out (byNum ((m0 + 1 : Nat) : Int)) l)).holder)] 28 :: .blk g5 [.int .i64 ((hd (out (byNum ((m0 + 1 : Nat) : Int)) l)).num), .string (str (hd (out (byNum ((m0 + 1 : Nat) : Int)) l)).key), .int .i64 ((hd (out (byNum ((m0 + 1 : Nat) : Int)) l)).waiter), .int .i64 ((hd (out (byNum ((m0 + 1 : Nat) : Int)) l)).holder)] 28 :: .blk g4 [.int .i64 ((m0 + 1 : Nat) : Int), .string (str d.w.key), .int .i64 ((7 : Int) + v), .int .i64 ((1 : Int) + u)] 28 :: L) w := s
              replace s := s.at_ (j := 3) rfl
              replace s : St W (Own 28 4 A7 (0 + 1) c8 ([] ++ [.int .i64 ((hd (out (byNum ((m0 + 1 : Nat) : Int)) l)).num), .string (str (hd (out (byNum ((m0 + 1 : Nat) : Int)) l)).key), .int .i64 ((hd (out (byNum ((m0 + 1 : Nat) : Int)) l)).waiter), .int .i64 ((hd (out (byNum ((m0 + 1 : Nat) : Int)) l)).holder)]) :: Lob g1 (left (byNum ((m0 + 1 : Nat) : Int)) l) :: .blk g2 (arr ci) 54 :: .blk g3 (arr co) 54 :: .blk g6 [.int .i64 ((hd (out (byNum ((m0 + 1 : Nat) : Int)) l)).num), .string (str (hd (out (byNum ((m0 + 1 : Nat) : Int)) l)).key), .int .i64 ((hd (out (byNum ((m0 + 1 : Nat) : Int)) l)).waiter), .int .i64 ((hd (out (byNum ((m0 + 1 : Nat) : Int)) l)).holder)] 28 :: .blk g5 [.int .i64 ((hd (out (byNum ((m0 + 1 : Nat) : Int)) l)).num), .string (str (hd (out (byNum ((m0 + 1 : Nat) : Int)) l)).key), .int .i64 ((hd (out (byNum ((m0 + 1 : Nat) : Int)) l)).waiter), .int .i64 ((hd (out (byNum ((m0 + 1 : Nat) : Int)) l)).holder)] 28 :: .blk g4 [.int .i64 ((m0 + 1 : Nat) : Int), .string (str d.w.key), .int .i64 ((7 : Int) + v), .int .i64 ((1 : Int) + u)] 28 :: L) w := s
              replace s : St W (Own 28 4 A7 (0 + 1) c8 ([] ++ [.int .i64 ((hd (out (byNum ((m0 + 1 : Nat) : Int)) l)).num), .string (str (hd (out (byNum ((m0 + 1 : Nat) : Int)) l)).key), .int .i64 ((hd (out (byNum ((m0 + 1 : Nat) : Int)) l)).waiter), .int .i64 ((hd (out (byNum ((m0 + 1 : Nat) : Int)) l)).holder)]) :: Lob g1 (left (byNum ((m0 + 1 : Nat) : Int)) l) :: .blk g2 (arr ci) 54 :: .blk g3 (arr co) 54 :: L) w := St.mid (A := [Own 28 4 A7 (0 + 1) c8 ([] ++ [.int .i64 ((hd (out (byNum ((m0 + 1 : Nat) : Int)) l)).num), .string (str (hd (out (byNum ((m0 + 1 : Nat) : Int)) l)).key), .int .i64 ((hd (out (byNum ((m0 + 1 : Nat) : Int)) l)).waiter), .int .i64 ((hd (out (byNum ((m0 + 1 : Nat) : Int)) l)).holder)]), Lob g1 (left (byNum ((m0 + 1 : Nat) : Int)) l), .blk g2 (arr ci) 54, .blk g3 (arr co) 54]) (B := [.blk g6 [.int .i64 ((hd (out (byNum ((m0 + 1 : Nat) : Int)) l)).num), .string (str (hd (out (byNum ((m0 + 1 : Nat) : Int)) l)).key), .int .i64 ((hd (out (byNum ((m0 + 1 : Nat) : Int)) l)).waiter), .int .i64 ((hd (out (byNum ((m0 + 1 : Nat) : Int)) l)).holder)] 28, .blk g5 [.int .i64 ((hd (out (byNum ((m0 + 1 : Nat) : Int)) l)).num), .string (str (hd (out (byNum ((m0 + 1 : Nat) : Int)) l)).key), .int .i64 ((hd (out (byNum ((m0 + 1 : Nat) : Int)) l)).waiter), .int .i64 ((hd (out (byNum ((m0 + 1 : Nat) : Int)) l)).holder)] 28, .blk g4 [.int .i64 ((m0 + 1 : Nat) : Int), .string (str d.w.key), .int .i64 ((7 : Int) + v), .int .i64 ((1 : Int) + u)] 28]) s
              have ho := one_out hI (m := m0 + 1) hb
              exact ⟨[hd (out (byNum ((m0 + 1 : Nat) : Int)) l)], left (byNum ((m0 + 1 : Nat) : Int)) l, ci, A7, c8, (Has.cons ha (by kernel_rfl) (by kernel_rfl) (Has.cons ha (by kernel_rfl) (by kernel_rfl) (Has.cons ha (by kernel_rfl) (by kernel_rfl) (Has.cons ha (by kernel_rfl) (by kernel_rfl) (Has.cons ha (by kernel_rfl) (by kernel_rfl) (Has.cons ha (by kernel_rfl) (by rw [← ho, out_left_len]; kernel_rfl) (Has.cons ha (by kernel_rfl) (by kernel_rfl) (Has.nil ha)))))))), s, hpf.left _, (by have h := hI.part (byNum ((m0 + 1 : Nat) : Int)); rw [ho] at h; exact h.up), by simp⟩
            · rw [hb] at ha; skip
              refine wp_skip ?_
              refine block_normal ?_
              refine then_normal ?_
              replace s := Own.none_ (e := 28) (k := 4) none s
              replace s : St W (Own 28 4 none 0 0 [] :: .blk g5 [.int .i64 ((hd (out (byNum ((m0 + 1 : Nat) : Int)) l)).num), .string (str (hd (out (byNum ((m0 + 1 : Nat) : Int)) l)).key), .int .i64 ((hd (out (byNum ((m0 + 1 : Nat) : Int)) l)).waiter), .int .i64 ((hd (out (byNum ((m0 + 1 : Nat) : Int)) l)).holder)] 28 :: Lob g1 (left (byNum ((m0 + 1 : Nat) : Int)) l) :: .blk g4 [.int .i64 ((m0 + 1 : Nat) : Int), .string (str d.w.key), .int .i64 ((7 : Int) + v), .int .i64 ((1 : Int) + u)] 28 :: .blk g2 (arr ci) 54 :: .blk g3 (arr co) 54 :: L) w := s
              replace s := s.at_ (j := 5) rfl
              replace s : St W (.blk g3 (arr co) 54 :: Own 28 4 none 0 0 [] :: .blk g5 [.int .i64 ((hd (out (byNum ((m0 + 1 : Nat) : Int)) l)).num), .string (str (hd (out (byNum ((m0 + 1 : Nat) : Int)) l)).key), .int .i64 ((hd (out (byNum ((m0 + 1 : Nat) : Int)) l)).waiter), .int .i64 ((hd (out (byNum ((m0 + 1 : Nat) : Int)) l)).holder)] 28 :: Lob g1 (left (byNum ((m0 + 1 : Nat) : Int)) l) :: .blk g4 [.int .i64 ((m0 + 1 : Nat) : Int), .string (str d.w.key), .int .i64 ((7 : Int) + v), .int .i64 ((1 : Int) + u)] 28 :: .blk g2 (arr ci) 54 :: L) w := s
              replace s := s.at_ (j := 5) rfl
              replace s : St W (.blk g2 (arr ci) 54 :: .blk g3 (arr co) 54 :: Own 28 4 none 0 0 [] :: .blk g5 [.int .i64 ((hd (out (byNum ((m0 + 1 : Nat) : Int)) l)).num), .string (str (hd (out (byNum ((m0 + 1 : Nat) : Int)) l)).key), .int .i64 ((hd (out (byNum ((m0 + 1 : Nat) : Int)) l)).waiter), .int .i64 ((hd (out (byNum ((m0 + 1 : Nat) : Int)) l)).holder)] 28 :: Lob g1 (left (byNum ((m0 + 1 : Nat) : Int)) l) :: .blk g4 [.int .i64 ((m0 + 1 : Nat) : Int), .string (str d.w.key), .int .i64 ((7 : Int) + v), .int .i64 ((1 : Int) + u)] 28 :: L) w := s
              replace s := s.at_ (j := 4) rfl
              replace s : St W (Lob g1 (left (byNum ((m0 + 1 : Nat) : Int)) l) :: .blk g2 (arr ci) 54 :: .blk g3 (arr co) 54 :: Own 28 4 none 0 0 [] :: .blk g5 [.int .i64 ((hd (out (byNum ((m0 + 1 : Nat) : Int)) l)).num), .string (str (hd (out (byNum ((m0 + 1 : Nat) : Int)) l)).key), .int .i64 ((hd (out (byNum ((m0 + 1 : Nat) : Int)) l)).waiter), .int .i64 ((hd (out (byNum ((m0 + 1 : Nat) : Int)) l)).holder)] 28 :: .blk g4 [.int .i64 ((m0 + 1 : Nat) : Int), .string (str d.w.key), .int .i64 ((7 : Int) + v), .int .i64 ((1 : Int) + u)] 28 :: L) w := s
              replace s := s.at_ (j := 3) rfl
              replace s : St W (Own 28 4 none 0 0 [] :: Lob g1 (left (byNum ((m0 + 1 : Nat) : Int)) l) :: .blk g2 (arr ci) 54 :: .blk g3 (arr co) 54 :: .blk g5 [.int .i64 ((hd (out (byNum ((m0 + 1 : Nat) : Int)) l)).num), .string (str (hd (out (byNum ((m0 + 1 : Nat) : Int)) l)).key), .int .i64 ((hd (out (byNum ((m0 + 1 : Nat) : Int)) l)).waiter), .int .i64 ((hd (out (byNum ((m0 + 1 : Nat) : Int)) l)).holder)] 28 :: .blk g4 [.int .i64 ((m0 + 1 : Nat) : Int), .string (str d.w.key), .int .i64 ((7 : Int) + v), .int .i64 ((1 : Int) + u)] 28 :: L) w := s
              replace s : St W (Own 28 4 none 0 0 [] :: Lob g1 (left (byNum ((m0 + 1 : Nat) : Int)) l) :: .blk g2 (arr ci) 54 :: .blk g3 (arr co) 54 :: L) w := St.mid (A := [Own 28 4 none 0 0 [], Lob g1 (left (byNum ((m0 + 1 : Nat) : Int)) l), .blk g2 (arr ci) 54, .blk g3 (arr co) 54]) (B := [.blk g5 [.int .i64 ((hd (out (byNum ((m0 + 1 : Nat) : Int)) l)).num), .string (str (hd (out (byNum ((m0 + 1 : Nat) : Int)) l)).key), .int .i64 ((hd (out (byNum ((m0 + 1 : Nat) : Int)) l)).waiter), .int .i64 ((hd (out (byNum ((m0 + 1 : Nat) : Int)) l)).holder)] 28, .blk g4 [.int .i64 ((m0 + 1 : Nat) : Int), .string (str d.w.key), .int .i64 ((7 : Int) + v), .int .i64 ((1 : Int) + u)] 28]) s
              have ho : out (byNum ((m0 + 1 : Nat) : Int)) l = [] := by simpa using hb
              exact ⟨[], left (byNum ((m0 + 1 : Nat) : Int)) l, ci, none, 0, (Has.cons ha (by kernel_rfl) (by kernel_rfl) (Has.cons ha (by kernel_rfl) (by kernel_rfl) (Has.cons ha (by kernel_rfl) (by kernel_rfl) (Has.cons ha (by kernel_rfl) (by kernel_rfl) (Has.cons ha (by kernel_rfl) (by kernel_rfl) (Has.cons ha (by kernel_rfl) (by rw [← out_left_len (byNum ((m0 + 1 : Nat) : Int)) l, ho]; kernel_rfl) (Has.cons ha (by kernel_rfl) (by kernel_rfl) (Has.nil ha)))))))), s, hpf.left _, (by have h := hI.part (byNum ((m0 + 1 : Nat) : Int)); rw [ho] at h; exact h.up), by simp⟩
          · rw [hb] at ha; have hb_ := hb; replace hb := ne_of_beq_false hb
            refine wp_seq ?_
            refine wp_region_lit ?_
            refine st_val (.bool (r == (6 : Int))) ha (by kernel_rfl) (by kernel_rfl) ?_
            clear ha; intro a ha
            refine st_val (.bool (r == (6 : Int))) ha (by kernel_rfl) (by kernel_rfl) ?_
            clear ha; intro a ha
            refine wpList_nil ?_
            refine then_normal ?_
            refine wp_part (r == (6 : Int)) ha rfl (by kernel_rfl) (fun hb => ?_) (fun hb => ?_)
            · rw [hb] at ha; have hb_ := hb; replace hb := eq_of_beq hb
              refine wp_region_lit ?_
              refine st_val (.pointer (some ⟨g1, 0, none⟩)) ha (by kernel_rfl) (by kernel_rfl) ?_
              clear ha; intro a ha
              refine st_val (.pointer (some ⟨g4, 3, none⟩)) ha (by kernel_rfl) (by kernel_rfl) ?_
              clear ha; intro a ha
              refine st_val (.int .i64 ((1 : Int) + u)) ha (by kernel_rfl) (run_load1 (of_ := 3) (s.blkIs 0 rfl) rfl (by kernel_rfl) Try.isAgg3 rfl) ?_
              clear ha; intro a ha
              replace s := s.at_ (j := 1) rfl
              replace s : St W (Lob g1 l :: .blk g4 [.int .i64 ((m0 + 1 : Nat) : Int), .string (str d.w.key), .int .i64 ((7 : Int) + v), .int .i64 ((1 : Int) + u)] 28 :: .blk g2 (arr ci) 54 :: .blk g3 (arr co) 54 :: L) w := s
              refine st_call ha (by kernel_rfl) (by kernel_rfl) (free_lob W _ w g1 l ((1 : Int) + u) hpf s) ?_
              rintro _ w ⟨A9, c10, rfl, s⟩
              replace s : St W (Own 28 4 A9 ((out (byHolder ((1 : Int) + u)) l).length) c10 (ws (out (byHolder ((1 : Int) + u)) l)) :: Lob g1 (left (byHolder ((1 : Int) + u)) l) :: .blk g4 [.int .i64 ((m0 + 1 : Nat) : Int), .string (str d.w.key), .int .i64 ((7 : Int) + v), .int .i64 ((1 : Int) + u)] 28 :: .blk g2 (arr ci) 54 :: .blk g3 (arr co) 54 :: L) w := s
              refine ⟨_, rfl, ?_⟩; clear ha; intro a ha
              refine st_val (.slice A9 ((out (byHolder ((1 : Int) + u)) l).length) c10) ha (by kernel_rfl) (by kernel_rfl) ?_
              clear ha; intro a ha
              refine wpList_nil ?_
              refine block_normal ?_
              refine then_normal ?_
              replace s := s.at_ (j := 4) rfl
              replace s : St W (.blk g3 (arr co) 54 :: Own 28 4 A9 ((out (byHolder ((1 : Int) + u)) l).length) c10 (ws (out (byHolder ((1 : Int) + u)) l)) :: Lob g1 (left (byHolder ((1 : Int) + u)) l) :: .blk g4 [.int .i64 ((m0 + 1 : Nat) : Int), .string (str d.w.key), .int .i64 ((7 : Int) + v), .int .i64 ((1 : Int) + u)] 28 :: .blk g2 (arr ci) 54 :: L) w := s
              replace s := s.at_ (j := 4) rfl
              replace s : St W (.blk g2 (arr ci) 54 :: .blk g3 (arr co) 54 :: Own 28 4 A9 ((out (byHolder ((1 : Int) + u)) l).length) c10 (ws (out (byHolder ((1 : Int) + u)) l)) :: Lob g1 (left (byHolder ((1 : Int) + u)) l) :: .blk g4 [.int .i64 ((m0 + 1 : Nat) : Int), .string (str d.w.key), .int .i64 ((7 : Int) + v), .int .i64 ((1 : Int) + u)] 28 :: L) w := s
              replace s := s.at_ (j := 3) rfl
              replace s : St W (Lob g1 (left (byHolder ((1 : Int) + u)) l) :: .blk g2 (arr ci) 54 :: .blk g3 (arr co) 54 :: Own 28 4 A9 ((out (byHolder ((1 : Int) + u)) l).length) c10 (ws (out (byHolder ((1 : Int) + u)) l)) :: .blk g4 [.int .i64 ((m0 + 1 : Nat) : Int), .string (str d.w.key), .int .i64 ((7 : Int) + v), .int .i64 ((1 : Int) + u)] 28 :: L) w := s
              replace s := s.at_ (j := 3) rfl
              replace s : St W (Own 28 4 A9 ((out (byHolder ((1 : Int) + u)) l).length) c10 (ws (out (byHolder ((1 : Int) + u)) l)) :: Lob g1 (left (byHolder ((1 : Int) + u)) l) :: .blk g2 (arr ci) 54 :: .blk g3 (arr co) 54 :: .blk g4 [.int .i64 ((m0 + 1 : Nat) : Int), .string (str d.w.key), .int .i64 ((7 : Int) + v), .int .i64 ((1 : Int) + u)] 28 :: L) w := s
              replace s : St W (Own 28 4 A9 ((out (byHolder ((1 : Int) + u)) l).length) c10 (ws (out (byHolder ((1 : Int) + u)) l)) :: Lob g1 (left (byHolder ((1 : Int) + u)) l) :: .blk g2 (arr ci) 54 :: .blk g3 (arr co) 54 :: L) w := St.mid (A := [Own 28 4 A9 ((out (byHolder ((1 : Int) + u)) l).length) c10 (ws (out (byHolder ((1 : Int) + u)) l)), Lob g1 (left (byHolder ((1 : Int) + u)) l), .blk g2 (arr ci) 54, .blk g3 (arr co) 54]) (B := [.blk g4 [.int .i64 ((m0 + 1 : Nat) : Int), .string (str d.w.key), .int .i64 ((7 : Int) + v), .int .i64 ((1 : Int) + u)] 28]) s
              exact ⟨out (byHolder ((1 : Int) + u)) l, left (byHolder ((1 : Int) + u)) l, ci, A9, c10, (Has.cons ha (by kernel_rfl) (by kernel_rfl) (Has.cons ha (by kernel_rfl) (by kernel_rfl) (Has.cons ha (by kernel_rfl) (by kernel_rfl) (Has.cons ha (by kernel_rfl) (by kernel_rfl) (Has.cons ha (by kernel_rfl) (by kernel_rfl) (Has.cons ha (by kernel_rfl) (by rw [out_left_len]; kernel_rfl) (Has.cons ha (by kernel_rfl) (by kernel_rfl) (Has.nil ha)))))))), s, hpf.left _, (hI.part _).up, Nat.le_trans (out_le _ _) hpf.2⟩
            · rw [hb] at ha; have hb_ := hb; replace hb := ne_of_beq_false hb
              refine wp_seq ?_
              refine wp_region_lit ?_
              refine st_val (.bool (r == (7 : Int))) ha (by kernel_rfl) (by kernel_rfl) ?_
              clear ha; intro a ha
              refine st_val (.bool (r == (7 : Int))) ha (by kernel_rfl) (by kernel_rfl) ?_
              clear ha; intro a ha
              refine wpList_nil ?_
              refine then_normal ?_
              refine wp_part (r == (7 : Int)) ha rfl (by kernel_rfl) (fun hb => ?_) (fun hb => ?_)
              · rw [hb] at ha; have hb_ := hb; replace hb := eq_of_beq hb
                refine wp_region_lit ?_
                refine st_val (.pointer (some ⟨g1, 0, none⟩)) ha (by kernel_rfl) (by kernel_rfl) ?_
                clear ha; intro a ha
                refine st_val (.pointer (some ⟨g4, 1, none⟩)) ha (by kernel_rfl) (by kernel_rfl) ?_
                clear ha; intro a ha
                refine st_val (.string (str d.w.key)) ha (by kernel_rfl) (run_load1 (of_ := 1) (s.blkIs 0 rfl) rfl (by kernel_rfl) Try.isAgg9 rfl) ?_
                clear ha; intro a ha
                refine st_val (.pointer (some ⟨g4, 3, none⟩)) ha (by kernel_rfl) (by kernel_rfl) ?_
                clear ha; intro a ha
                refine st_val (.int .i64 ((1 : Int) + u)) ha (by kernel_rfl) (run_load1 (of_ := 3) (s.blkIs 0 rfl) rfl (by kernel_rfl) Try.isAgg3 rfl) ?_
                clear ha; intro a ha
                replace s := s.at_ (j := 1) rfl
                replace s : St W (Lob g1 l :: .blk g4 [.int .i64 ((m0 + 1 : Nat) : Int), .string (str d.w.key), .int .i64 ((7 : Int) + v), .int .i64 ((1 : Int) + u)] 28 :: .blk g2 (arr ci) 54 :: .blk g3 (arr co) 54 :: L) w := s
                refine st_call ha (by kernel_rfl) (by kernel_rfl) (at_lob W _ w g1 l d.w.key ((1 : Int) + u) hpf s) ?_
                rintro _ w ⟨A11, c12, rfl, s⟩
                replace s : St W (Own 28 4 A11 ((out (byKey d.w.key ((1 : Int) + u)) l).length) c12 (ws (out (byKey d.w.key ((1 : Int) + u)) l)) :: Lob g1 (left (byKey d.w.key ((1 : Int) + u)) l) :: .blk g4 [.int .i64 ((m0 + 1 : Nat) : Int), .string (str d.w.key), .int .i64 ((7 : Int) + v), .int .i64 ((1 : Int) + u)] 28 :: .blk g2 (arr ci) 54 :: .blk g3 (arr co) 54 :: L) w := s
                refine ⟨_, rfl, ?_⟩; clear ha; intro a ha
                refine st_val (.slice A11 ((out (byKey d.w.key ((1 : Int) + u)) l).length) c12) ha (by kernel_rfl) (by kernel_rfl) ?_
                clear ha; intro a ha
                refine wpList_nil ?_
                refine block_normal ?_
                refine then_normal ?_
                replace s := s.at_ (j := 4) rfl
                replace s : St W (.blk g3 (arr co) 54 :: Own 28 4 A11 ((out (byKey d.w.key ((1 : Int) + u)) l).length) c12 (ws (out (byKey d.w.key ((1 : Int) + u)) l)) :: Lob g1 (left (byKey d.w.key ((1 : Int) + u)) l) :: .blk g4 [.int .i64 ((m0 + 1 : Nat) : Int), .string (str d.w.key), .int .i64 ((7 : Int) + v), .int .i64 ((1 : Int) + u)] 28 :: .blk g2 (arr ci) 54 :: L) w := s
                replace s := s.at_ (j := 4) rfl
                replace s : St W (.blk g2 (arr ci) 54 :: .blk g3 (arr co) 54 :: Own 28 4 A11 ((out (byKey d.w.key ((1 : Int) + u)) l).length) c12 (ws (out (byKey d.w.key ((1 : Int) + u)) l)) :: Lob g1 (left (byKey d.w.key ((1 : Int) + u)) l) :: .blk g4 [.int .i64 ((m0 + 1 : Nat) : Int), .string (str d.w.key), .int .i64 ((7 : Int) + v), .int .i64 ((1 : Int) + u)] 28 :: L) w := s
                replace s := s.at_ (j := 3) rfl
                replace s : St W (Lob g1 (left (byKey d.w.key ((1 : Int) + u)) l) :: .blk g2 (arr ci) 54 :: .blk g3 (arr co) 54 :: Own 28 4 A11 ((out (byKey d.w.key ((1 : Int) + u)) l).length) c12 (ws (out (byKey d.w.key ((1 : Int) + u)) l)) :: .blk g4 [.int .i64 ((m0 + 1 : Nat) : Int), .string (str d.w.key), .int .i64 ((7 : Int) + v), .int .i64 ((1 : Int) + u)] 28 :: L) w := s
                replace s := s.at_ (j := 3) rfl
                replace s : St W (Own 28 4 A11 ((out (byKey d.w.key ((1 : Int) + u)) l).length) c12 (ws (out (byKey d.w.key ((1 : Int) + u)) l)) :: Lob g1 (left (byKey d.w.key ((1 : Int) + u)) l) :: .blk g2 (arr ci) 54 :: .blk g3 (arr co) 54 :: .blk g4 [.int .i64 ((m0 + 1 : Nat) : Int), .string (str d.w.key), .int .i64 ((7 : Int) + v), .int .i64 ((1 : Int) + u)] 28 :: L) w := s
                replace s : St W (Own 28 4 A11 ((out (byKey d.w.key ((1 : Int) + u)) l).length) c12 (ws (out (byKey d.w.key ((1 : Int) + u)) l)) :: Lob g1 (left (byKey d.w.key ((1 : Int) + u)) l) :: .blk g2 (arr ci) 54 :: .blk g3 (arr co) 54 :: L) w := St.mid (A := [Own 28 4 A11 ((out (byKey d.w.key ((1 : Int) + u)) l).length) c12 (ws (out (byKey d.w.key ((1 : Int) + u)) l)), Lob g1 (left (byKey d.w.key ((1 : Int) + u)) l), .blk g2 (arr ci) 54, .blk g3 (arr co) 54]) (B := [.blk g4 [.int .i64 ((m0 + 1 : Nat) : Int), .string (str d.w.key), .int .i64 ((7 : Int) + v), .int .i64 ((1 : Int) + u)] 28]) s
                exact ⟨out (byKey d.w.key ((1 : Int) + u)) l, left (byKey d.w.key ((1 : Int) + u)) l, ci, A11, c12, (Has.cons ha (by kernel_rfl) (by kernel_rfl) (Has.cons ha (by kernel_rfl) (by kernel_rfl) (Has.cons ha (by kernel_rfl) (by kernel_rfl) (Has.cons ha (by kernel_rfl) (by kernel_rfl) (Has.cons ha (by kernel_rfl) (by kernel_rfl) (Has.cons ha (by kernel_rfl) (by rw [out_left_len]; kernel_rfl) (Has.cons ha (by kernel_rfl) (by kernel_rfl) (Has.nil ha)))))))), s, hpf.left _, (hI.part _).up, Nat.le_trans (out_le _ _) hpf.2⟩
              · rw [hb] at ha; have hb_ := hb; replace hb := ne_of_beq_false hb
                refine wp_seq ?_
                refine wp_region_lit ?_
                refine st_val (.pointer (some ⟨g1, 0, none⟩)) ha (by kernel_rfl) (by kernel_rfl) ?_
                clear ha; intro a ha
                refine st_val (.agg #[.int .i64 ((m0 + 1 : Nat) : Int), .string (str d.w.key), .int .i64 ((7 : Int) + v), .int .i64 ((1 : Int) + u)]) ha (by kernel_rfl) (run_loadN (of_ := 0) [.int .i64 ((m0 + 1 : Nat) : Int), .string (str d.w.key), .int .i64 ((7 : Int) + v), .int .i64 ((1 : Int) + u)] (s.blkIs 0 rfl) rfl (by kernel_rfl) Try.isAgg28 Try.sizeOf28 rfl (Nat.le_of_ble_eq_true rfl)) ?_
                clear ha; intro a ha
                replace s := s.at_ (j := 1) rfl
                replace s : St W (Lob g1 l :: .blk g4 [.int .i64 ((m0 + 1 : Nat) : Int), .string (str d.w.key), .int .i64 ((7 : Int) + v), .int .i64 ((1 : Int) + u)] 28 :: .blk g2 (arr ci) 54 :: .blk g3 (arr co) 54 :: L) w := s
                have hsp := add_split (x := (⟨((m0 + 1 : Nat) : Int), d.w.key, (7 : Int) + v, (1 : Int) + u⟩ : Wt)) hI hpf (by simp only; omega) (by simp only; omega) (by simp only; omega) (m := m0 + 1) rfl
                rcases hsp with ⟨ha1, ha2, hcm, hll, hbd⟩ | ⟨ha1, ha2, hcm⟩ | ⟨ha1, ha2, hcm, hll⟩
                · skip
                  refine st_call ha (by kernel_rfl) (by kernel_rfl) (add_is W _ w g1 l (⟨((m0 + 1 : Nat) : Int), d.w.key, (7 : Int) + v, (1 : Int) + u⟩ : Wt) 0 (l ++ [(⟨((m0 + 1 : Nat) : Int), d.w.key, (7 : Int) + v, (1 : Int) + u⟩ : Wt)]) ha1 ha2 hpf s) ?_
                  rintro _ w ⟨rfl, s⟩
                  replace s : St W (Lob g1 (l ++ [(⟨((m0 + 1 : Nat) : Int), d.w.key, (7 : Int) + v, (1 : Int) + u⟩ : Wt)]) :: .blk g4 [.int .i64 ((m0 + 1 : Nat) : Int), .string (str d.w.key), .int .i64 ((7 : Int) + v), .int .i64 ((1 : Int) + u)] 28 :: .blk g2 (arr ci) 54 :: .blk g3 (arr co) 54 :: L) w := s
                  refine ⟨_, rfl, ?_⟩; clear ha; intro a ha
                  refine st_val (.int .i64 0) ha (by kernel_rfl) (by kernel_rfl) ?_
                  clear ha; intro a ha
                  refine wpList_nil ?_
                  refine then_normal ?_
                  refine wp_seq ?_
                  refine wp_seq ?_
                  refine wp_region_head 15 (fun w => BlkIs g4 [.int .i64 ((m0 + 1 : Nat) : Int), .string (str d.w.key), .int .i64 ((7 : Int) + v), .int .i64 ((1 : Int) + u)] w ∧ BlkIs g2 (arr ci) w ∧ BlkIs g3 (arr co) w ∧ True) (by kernel_rfl) (by decide) ?_
                  replace s := s.drew; generalize _root_.Go.World.drew _ = w at s ⊢
                  have hS : (fun w => BlkIs g4 [.int .i64 ((m0 + 1 : Nat) : Int), .string (str d.w.key), .int .i64 ((7 : Int) + v), .int .i64 ((1 : Int) + u)] w ∧ BlkIs g2 (arr ci) w ∧ BlkIs g3 (arr co) w ∧ True) w := ⟨s.blkIs 1 rfl, s.blkIs 2 rfl, s.blkIs 3 rfl, trivial⟩
                  refine hd_val (i := 0) (.int .i64 0) ha rfl (by kernel_rfl) (fun _ _ _ h => h) (by kernel_rfl) (fun w hS => (by kernel_rfl)) hS ?_
                  clear ha; intro a ha
                  refine hd_val (i := 1) (.bool true) ha rfl (by kernel_rfl) (fun _ _ _ h => h) (by kernel_rfl) (fun w hS => (by kernel_rfl)) hS ?_
                  clear ha; intro a ha
                  refine hd_val (i := 2) (.pointer (some ⟨g4, 0, none⟩)) ha rfl (by kernel_rfl) (fun _ _ _ h => h) (by kernel_rfl) (fun w hS => (by kernel_rfl)) hS ?_
                  clear ha; intro a ha
                  refine hd_val (i := 3) (.int .i64 ((m0 + 1 : Nat) : Int)) ha rfl (by kernel_rfl) (fun _ _ _ h => h) (by kernel_rfl) (fun w hS => run_load1 (of_ := 0) hS.1 rfl (by kernel_rfl) Try.isAgg3 rfl) hS ?_
                  clear ha; intro a ha
                  refine hd_val (i := 4) (.pointer (some ⟨g2, m0 + 1, none⟩)) ha rfl (by kernel_rfl) (fun _ _ _ h => h) (by kernel_rfl) (fun w hS => (run_indexArr (kd := .i64) (i := ((m0 + 1 : Nat) : Int)) (m0 + 1) rfl Try.underlying54 Try.sizeOf3 (by kernel_rfl) (by kernel_rfl) rfl (by first | assumption | omega) _)) hS ?_
                  clear ha; intro a ha
                  refine hd_val (i := 5) (.int .i64 (ci (m0 + 1))) ha rfl (by kernel_rfl) (fun _ _ _ h => h) (by kernel_rfl) (fun w hS => run_load1 (of_ := m0 + 1) hS.2.1 rfl (by kernel_rfl) Try.isAgg3 (arr_at (by omega))) hS ?_
                  clear ha; intro a ha
                  refine hd_val (i := 6) (.pointer (some ⟨g4, 0, none⟩)) ha rfl (by kernel_rfl) (fun _ _ _ h => h) (by kernel_rfl) (fun w hS => (by kernel_rfl)) hS ?_
                  clear ha; intro a ha
                  refine hd_val (i := 7) (.int .i64 ((m0 + 1 : Nat) : Int)) ha rfl (by kernel_rfl) (fun _ _ _ h => h) (by kernel_rfl) (fun w hS => run_load1 (of_ := 0) hS.1 rfl (by kernel_rfl) Try.isAgg3 rfl) hS ?_
                  clear ha; intro a ha
                  refine hd_val (i := 8) (.pointer (some ⟨g3, m0 + 1, none⟩)) ha rfl (by kernel_rfl) (fun _ _ _ h => h) (by kernel_rfl) (fun w hS => (run_indexArr (kd := .i64) (i := ((m0 + 1 : Nat) : Int)) (m0 + 1) rfl Try.underlying54 Try.sizeOf3 (by kernel_rfl) (by kernel_rfl) rfl (by first | assumption | omega) _)) hS ?_
                  clear ha; intro a ha
                  refine hd_val (i := 9) (.int .i64 (co (m0 + 1))) ha rfl (by kernel_rfl) (fun _ _ _ h => h) (by kernel_rfl) (fun w hS => run_load1 (of_ := m0 + 1) hS.2.2.1 rfl (by kernel_rfl) Try.isAgg3 (arr_at (by omega))) hS ?_
                  clear ha; intro a ha
                  refine hd_val (i := 10) (.bool true) ha rfl (by kernel_rfl) (fun _ _ _ h => h) (by kernel_rfl) (fun w hS => (run_known (show ((ci (m0 + 1)) == (co (m0 + 1))) = true from beq_iff_eq.2 (by omega)) (by kernel_rfl))) hS ?_
                  clear ha; intro a ha
                  refine hd_val (i := 11) (.bool true) ha rfl (by kernel_rfl) (fun _ _ _ h => h) (by kernel_rfl) (fun w hS => (by kernel_rfl)) hS ?_
                  clear ha; intro a ha
                  refine hd_val (i := 12) (.int .i64 ((l.length : Nat) : Int)) ha rfl (by kernel_rfl) (fun _ _ _ h => h) (by kernel_rfl) (fun w hS => (by kernel_rfl)) hS ?_
                  clear ha; intro a ha
                  refine hd_val (i := 13) (.bool true) ha rfl (by kernel_rfl) (fun _ _ _ h => h) (by kernel_rfl) (fun w hS => (run_known (show (decide (((l.length : Nat) : Int) < (64 : Int))) = true from decide_eq_true (by omega)) (by kernel_rfl))) hS ?_
                  clear ha; intro a ha
                  refine hd_val (i := 14) (.bool true) ha rfl (by kernel_rfl) (fun _ _ _ h => h) (by kernel_rfl) (fun w hS => (by kernel_rfl)) hS ?_
                  clear ha; intro a ha
                  refine Head.done (by kernel_rfl) ?_
                  clear hS; simp only [List.drop_succ_cons, List.drop_zero]
                  refine st_val (.bool false) ha (by kernel_rfl) (by kernel_rfl) ?_
                  clear ha; intro a ha
                  refine wpList_nil ?_
                  refine then_normal ?_
                  refine wp_false ha rfl (by kernel_rfl) ?_
                  refine wp_skip ?_
                  refine then_normal ?_
                  refine wp_seq ?_
                  refine wp_region_lit ?_
                  refine st_val (.int .i64 0) ha (by kernel_rfl) (by kernel_rfl) ?_
                  clear ha; intro a ha
                  refine st_val (.bool true) ha (by kernel_rfl) (by kernel_rfl) ?_
                  clear ha; intro a ha
                  refine wpList_nil ?_
                  refine then_normal ?_
                  refine wp_true ha rfl (by kernel_rfl) ?_
                  refine wp_seq ?_
                  refine wp_region_lit ?_
                  refine st_val (.pointer (some ⟨g4, 0, none⟩)) ha (by kernel_rfl) (by kernel_rfl) ?_
                  clear ha; intro a ha
                  refine st_val (.int .i64 ((m0 + 1 : Nat) : Int)) ha (by kernel_rfl) (run_load1 (of_ := 0) (s.blkIs 1 rfl) rfl (by kernel_rfl) Try.isAgg3 rfl) ?_
                  clear ha; intro a ha
                  refine st_val (.pointer (some ⟨g2, m0 + 1, none⟩)) ha (by kernel_rfl) (run_indexArr (kd := .i64) (i := ((m0 + 1 : Nat) : Int)) (m0 + 1) rfl Try.underlying54 Try.sizeOf3 (by kernel_rfl) (by kernel_rfl) rfl (by first | assumption | omega) _) ?_
                  clear ha; intro a ha
                  refine st_val (.int .i64 (ci (m0 + 1))) ha (by kernel_rfl) (run_load1 (of_ := m0 + 1) (s.blkIs 2 rfl) rfl (by kernel_rfl) Try.isAgg3 (arr_at (by omega))) ?_
                  clear ha; intro a ha
                  refine st_val (.int .i64 ((ci (m0 + 1)) + (1 : Int))) ha (by kernel_rfl) (run_arith ((ci (m0 + 1)) + (1 : Int)) ((ci (m0 + 1)) + (1 : Int)) rfl (by kernel_rfl) (by kernel_rfl) (.inl ⟨rfl, rfl⟩) (by rw [wrap64_in (by omega)]) _) ?_
                  clear ha; intro a ha
                  refine st_val (.pointer (some ⟨g2, m0 + 1, none⟩)) ha (by kernel_rfl) (run_indexArr (kd := .i64) (i := ((m0 + 1 : Nat) : Int)) (m0 + 1) rfl Try.underlying54 Try.sizeOf3 (by kernel_rfl) (by kernel_rfl) rfl (by first | assumption | omega) _) ?_
                  clear ha; intro a ha
                  refine st_exd ha (by kernel_rfl) (ex_store_to (of_ := m0 + 1) 2 [.int .i64 ((ci (m0 + 1)) + (1 : Int))] s (arr_put _) rfl rfl (by kernel_rfl) (by kernel_rfl) (Try.sizeOf3 _) rfl (by simp [Value.oneCell']) (by rw [arr_len]; simp only [List.length_cons, List.length_nil]; omega)) ?_
                  clear ha; rintro w a s ha
                  replace s : St W (Lob g1 (l ++ [(⟨((m0 + 1 : Nat) : Int), d.w.key, (7 : Int) + v, (1 : Int) + u⟩ : Wt)]) :: .blk g4 [.int .i64 ((m0 + 1 : Nat) : Int), .string (str d.w.key), .int .i64 ((7 : Int) + v), .int .i64 ((1 : Int) + u)] 28 :: .blk g2 (arr (fun i_ => if i_ = m0 + 1 then ((ci (m0 + 1)) + (1 : Int)) else ci i_)) 54 :: .blk g3 (arr co) 54 :: L) w := s
                  obtain ⟨c13, hc13⟩ : ∃ c13 : Nat → Int, (fun i_ => if i_ = m0 + 1 then ((ci (m0 + 1)) + (1 : Int)) else ci i_) = c13 := ⟨_, rfl⟩
                  rw [hc13] at s
                  have hc13m : c13 (m0 + 1) = ((ci (m0 + 1)) + (1 : Int)) := by rw [← hc13]; simp only [if_true]
                  have hc13o : ∀ i, i ≠ m0 + 1 → c13 i = ci i := fun i h => by rw [← hc13]; simp only [if_neg h]
                  replace s : St W (Lob g1 (l ++ [(⟨((m0 + 1 : Nat) : Int), d.w.key, (7 : Int) + v, (1 : Int) + u⟩ : Wt)]) :: .blk g4 [.int .i64 ((m0 + 1 : Nat) : Int), .string (str d.w.key), .int .i64 ((7 : Int) + v), .int .i64 ((1 : Int) + u)] 28 :: .blk g2 (arr c13) 54 :: .blk g3 (arr co) 54 :: L) w := s
                  refine wpList_nil ?_
                  refine then_normal ?_
                  refine wp_region_lit ?_
                  refine st_val (.int .i64 ((l.length : Nat) : Int)) ha (by kernel_rfl) (by kernel_rfl) ?_
                  clear ha; intro a ha
                  refine st_val (.int .i64 ((l.length + 1 : Nat) : Int)) ha (by kernel_rfl) (run_arith (((l.length : Nat) : Int) + (1 : Int)) ((l.length + 1 : Nat) : Int) rfl (by kernel_rfl) (by kernel_rfl) (.inl ⟨rfl, rfl⟩) (by rw [wrap64_in (by omega)]; try omega) _) ?_
                  clear ha; intro a ha
                  refine st_val (.int .i64 ((l.length + 1 : Nat) : Int)) ha (by kernel_rfl) (by kernel_rfl) ?_
                  clear ha; intro a ha
                  refine wpList_nil ?_
                  refine block_normal ?_
                  refine then_normal ?_
                  replace s := Own.none_ (e := 28) (k := 4) none s
                  replace s : St W (Own 28 4 none 0 0 [] :: Lob g1 (l ++ [(⟨((m0 + 1 : Nat) : Int), d.w.key, (7 : Int) + v, (1 : Int) + u⟩ : Wt)]) :: .blk g4 [.int .i64 ((m0 + 1 : Nat) : Int), .string (str d.w.key), .int .i64 ((7 : Int) + v), .int .i64 ((1 : Int) + u)] 28 :: .blk g2 (arr c13) 54 :: .blk g3 (arr co) 54 :: L) w := s
                  replace s := s.at_ (j := 4) rfl
                  replace s : St W (.blk g3 (arr co) 54 :: Own 28 4 none 0 0 [] :: Lob g1 (l ++ [(⟨((m0 + 1 : Nat) : Int), d.w.key, (7 : Int) + v, (1 : Int) + u⟩ : Wt)]) :: .blk g4 [.int .i64 ((m0 + 1 : Nat) : Int), .string (str d.w.key), .int .i64 ((7 : Int) + v), .int .i64 ((1 : Int) + u)] 28 :: .blk g2 (arr c13) 54 :: L) w := s
                  replace s := s.at_ (j := 4) rfl
                  replace s : St W (.blk g2 (arr c13) 54 :: .blk g3 (arr co) 54 :: Own 28 4 none 0 0 [] :: Lob g1 (l ++ [(⟨((m0 + 1 : Nat) : Int), d.w.key, (7 : Int) + v, (1 : Int) + u⟩ : Wt)]) :: .blk g4 [.int .i64 ((m0 + 1 : Nat) : Int), .string (str d.w.key), .int .i64 ((7 : Int) + v), .int .i64 ((1 : Int) + u)] 28 :: L) w := s
                  replace s := s.at_ (j := 3) rfl
                  replace s : St W (Lob g1 (l ++ [(⟨((m0 + 1 : Nat) : Int), d.w.key, (7 : Int) + v, (1 : Int) + u⟩ : Wt)]) :: .blk g2 (arr c13) 54 :: .blk g3 (arr co) 54 :: Own 28 4 none 0 0 [] :: .blk g4 [.int .i64 ((m0 + 1 : Nat) : Int), .string (str d.w.key), .int .i64 ((7 : Int) + v), .int .i64 ((1 : Int) + u)] 28 :: L) w := s
                  replace s := s.at_ (j := 3) rfl
                  replace s : St W (Own 28 4 none 0 0 [] :: Lob g1 (l ++ [(⟨((m0 + 1 : Nat) : Int), d.w.key, (7 : Int) + v, (1 : Int) + u⟩ : Wt)]) :: .blk g2 (arr c13) 54 :: .blk g3 (arr co) 54 :: .blk g4 [.int .i64 ((m0 + 1 : Nat) : Int), .string (str d.w.key), .int .i64 ((7 : Int) + v), .int .i64 ((1 : Int) + u)] 28 :: L) w := s
                  replace s : St W (Own 28 4 none 0 0 [] :: Lob g1 (l ++ [(⟨((m0 + 1 : Nat) : Int), d.w.key, (7 : Int) + v, (1 : Int) + u⟩ : Wt)]) :: .blk g2 (arr c13) 54 :: .blk g3 (arr co) 54 :: L) w := St.mid (A := [Own 28 4 none 0 0 [], Lob g1 (l ++ [(⟨((m0 + 1 : Nat) : Int), d.w.key, (7 : Int) + v, (1 : Int) + u⟩ : Wt)]), .blk g2 (arr c13) 54, .blk g3 (arr co) 54]) (B := [.blk g4 [.int .i64 ((m0 + 1 : Nat) : Int), .string (str d.w.key), .int .i64 ((7 : Int) + v), .int .i64 ((1 : Int) + u)] 28]) s
                  exact ⟨[], l ++ [(⟨((m0 + 1 : Nat) : Int), d.w.key, (7 : Int) + v, (1 : Int) + u⟩ : Wt)], c13, none, 0, (Has.cons ha (by kernel_rfl) (by kernel_rfl) (Has.cons ha (by kernel_rfl) (by kernel_rfl) (Has.cons ha (by kernel_rfl) (by kernel_rfl) (Has.cons ha (by kernel_rfl) (by kernel_rfl) (Has.cons ha (by kernel_rfl) (by kernel_rfl) (Has.cons ha (by kernel_rfl) (by rw [show ([] : List Wt).length + (l ++ [(⟨((m0 + 1 : Nat) : Int), d.w.key, (7 : Int) + v, (1 : Int) + u⟩ : Wt)]).length = l.length + 1 from by simp]; kernel_rfl) (Has.cons ha (by kernel_rfl) (by kernel_rfl) (Has.nil ha)))))))), s, (ha2 ▸ hpf.add (⟨((m0 + 1 : Nat) : Int), d.w.key, (7 : Int) + v, (1 : Int) + u⟩ : Wt)), hI.put (x := (⟨((m0 + 1 : Nat) : Int), d.w.key, (7 : Int) + v, (1 : Int) + u⟩ : Wt)) (by simp only; omega) (by simp only; omega) (m := m0 + 1) rfl hcm hc13m hc13o, by simp⟩
                · skip
                  refine st_call ha (by kernel_rfl) (by kernel_rfl) (add_is W _ w g1 l (⟨((m0 + 1 : Nat) : Int), d.w.key, (7 : Int) + v, (1 : Int) + u⟩ : Wt) 2 l ha1 ha2 hpf s) ?_
                  rintro _ w ⟨rfl, s⟩
                  replace s : St W (Lob g1 l :: .blk g4 [.int .i64 ((m0 + 1 : Nat) : Int), .string (str d.w.key), .int .i64 ((7 : Int) + v), .int .i64 ((1 : Int) + u)] 28 :: .blk g2 (arr ci) 54 :: .blk g3 (arr co) 54 :: L) w := s
                  refine ⟨_, rfl, ?_⟩; clear ha; intro a ha
                  refine st_val (.int .i64 2) ha (by kernel_rfl) (by kernel_rfl) ?_
                  clear ha; intro a ha
                  refine wpList_nil ?_
                  refine then_normal ?_
                  refine wp_seq ?_
                  refine wp_seq ?_
                  refine wp_region_head 15 (fun w => BlkIs g4 [.int .i64 ((m0 + 1 : Nat) : Int), .string (str d.w.key), .int .i64 ((7 : Int) + v), .int .i64 ((1 : Int) + u)] w ∧ BlkIs g2 (arr ci) w ∧ BlkIs g3 (arr co) w ∧ True) (by kernel_rfl) (by decide) ?_
                  replace s := s.drew; generalize _root_.Go.World.drew _ = w at s ⊢
                  have hS : (fun w => BlkIs g4 [.int .i64 ((m0 + 1 : Nat) : Int), .string (str d.w.key), .int .i64 ((7 : Int) + v), .int .i64 ((1 : Int) + u)] w ∧ BlkIs g2 (arr ci) w ∧ BlkIs g3 (arr co) w ∧ True) w := ⟨s.blkIs 1 rfl, s.blkIs 2 rfl, s.blkIs 3 rfl, trivial⟩
                  refine hd_val (i := 0) (.int .i64 2) ha rfl (by kernel_rfl) (fun _ _ _ h => h) (by kernel_rfl) (fun w hS => (by kernel_rfl)) hS ?_
                  clear ha; intro a ha
                  refine hd_val (i := 1) (.bool false) ha rfl (by kernel_rfl) (fun _ _ _ h => h) (by kernel_rfl) (fun w hS => (by kernel_rfl)) hS ?_
                  clear ha; intro a ha
                  refine hd_val (i := 2) (.pointer (some ⟨g4, 0, none⟩)) ha rfl (by kernel_rfl) (fun _ _ _ h => h) (by kernel_rfl) (fun w hS => (by kernel_rfl)) hS ?_
                  clear ha; intro a ha
                  refine hd_val (i := 3) (.int .i64 ((m0 + 1 : Nat) : Int)) ha rfl (by kernel_rfl) (fun _ _ _ h => h) (by kernel_rfl) (fun w hS => run_load1 (of_ := 0) hS.1 rfl (by kernel_rfl) Try.isAgg3 rfl) hS ?_
                  clear ha; intro a ha
                  refine hd_val (i := 4) (.pointer (some ⟨g2, m0 + 1, none⟩)) ha rfl (by kernel_rfl) (fun _ _ _ h => h) (by kernel_rfl) (fun w hS => (run_indexArr (kd := .i64) (i := ((m0 + 1 : Nat) : Int)) (m0 + 1) rfl Try.underlying54 Try.sizeOf3 (by kernel_rfl) (by kernel_rfl) rfl (by first | assumption | omega) _)) hS ?_
                  clear ha; intro a ha
                  refine hd_val (i := 5) (.int .i64 (ci (m0 + 1))) ha rfl (by kernel_rfl) (fun _ _ _ h => h) (by kernel_rfl) (fun w hS => run_load1 (of_ := m0 + 1) hS.2.1 rfl (by kernel_rfl) Try.isAgg3 (arr_at (by omega))) hS ?_
                  clear ha; intro a ha
                  refine hd_val (i := 6) (.pointer (some ⟨g4, 0, none⟩)) ha rfl (by kernel_rfl) (fun _ _ _ h => h) (by kernel_rfl) (fun w hS => (by kernel_rfl)) hS ?_
                  clear ha; intro a ha
                  refine hd_val (i := 7) (.int .i64 ((m0 + 1 : Nat) : Int)) ha rfl (by kernel_rfl) (fun _ _ _ h => h) (by kernel_rfl) (fun w hS => run_load1 (of_ := 0) hS.1 rfl (by kernel_rfl) Try.isAgg3 rfl) hS ?_
                  clear ha; intro a ha
                  refine hd_val (i := 8) (.pointer (some ⟨g3, m0 + 1, none⟩)) ha rfl (by kernel_rfl) (fun _ _ _ h => h) (by kernel_rfl) (fun w hS => (run_indexArr (kd := .i64) (i := ((m0 + 1 : Nat) : Int)) (m0 + 1) rfl Try.underlying54 Try.sizeOf3 (by kernel_rfl) (by kernel_rfl) rfl (by first | assumption | omega) _)) hS ?_
                  clear ha; intro a ha
                  refine hd_val (i := 9) (.int .i64 (co (m0 + 1))) ha rfl (by kernel_rfl) (fun _ _ _ h => h) (by kernel_rfl) (fun w hS => run_load1 (of_ := m0 + 1) hS.2.2.1 rfl (by kernel_rfl) Try.isAgg3 (arr_at (by omega))) hS ?_
                  clear ha; intro a ha
                  refine hd_val (i := 10) (.bool false) ha rfl (by kernel_rfl) (fun _ _ _ h => h) (by kernel_rfl) (fun w hS => (run_known (show ((ci (m0 + 1)) == (co (m0 + 1))) = false from beq_eq_false_iff_ne.2 (by omega)) (by kernel_rfl))) hS ?_
                  clear ha; intro a ha
                  refine hd_val (i := 11) (.bool false) ha rfl (by kernel_rfl) (fun _ _ _ h => h) (by kernel_rfl) (fun w hS => (by kernel_rfl)) hS ?_
                  clear ha; intro a ha
                  refine hd_pass (i := 12) ha rfl (by kernel_rfl) (fun _ _ _ h => h) (by kernel_rfl) hS ?_
                  clear ha; intro a ha
                  refine hd_pass (i := 13) ha rfl (by kernel_rfl) (fun _ _ _ h => h) (by kernel_rfl) hS ?_
                  clear ha; intro a ha
                  refine hd_val (i := 14) (.bool false) ha rfl (by kernel_rfl) (fun _ _ _ h => h) (by kernel_rfl) (fun w hS => (by kernel_rfl)) hS ?_
                  clear ha; intro a ha
                  refine Head.done (by kernel_rfl) ?_
                  clear hS; simp only [List.drop_succ_cons, List.drop_zero]
                  refine st_val (.bool false) ha (by kernel_rfl) (by kernel_rfl) ?_
                  clear ha; intro a ha
                  refine wpList_nil ?_
                  refine then_normal ?_
                  refine wp_false ha rfl (by kernel_rfl) ?_
                  refine wp_skip ?_
                  refine then_normal ?_
                  refine wp_seq ?_
                  refine wp_region_lit ?_
                  refine st_val (.int .i64 2) ha (by kernel_rfl) (by kernel_rfl) ?_
                  clear ha; intro a ha
                  refine st_val (.bool false) ha (by kernel_rfl) (by kernel_rfl) ?_
                  clear ha; intro a ha
                  refine wpList_nil ?_
                  refine then_normal ?_
                  refine wp_false ha rfl (by kernel_rfl) ?_
                  refine wp_skip ?_
                  refine block_normal ?_
                  refine then_normal ?_
                  replace s := Own.none_ (e := 28) (k := 4) none s
                  replace s : St W (Own 28 4 none 0 0 [] :: Lob g1 l :: .blk g4 [.int .i64 ((m0 + 1 : Nat) : Int), .string (str d.w.key), .int .i64 ((7 : Int) + v), .int .i64 ((1 : Int) + u)] 28 :: .blk g2 (arr ci) 54 :: .blk g3 (arr co) 54 :: L) w := s
                  replace s := s.at_ (j := 4) rfl
                  replace s : St W (.blk g3 (arr co) 54 :: Own 28 4 none 0 0 [] :: Lob g1 l :: .blk g4 [.int .i64 ((m0 + 1 : Nat) : Int), .string (str d.w.key), .int .i64 ((7 : Int) + v), .int .i64 ((1 : Int) + u)] 28 :: .blk g2 (arr ci) 54 :: L) w := s
                  replace s := s.at_ (j := 4) rfl
                  replace s : St W (.blk g2 (arr ci) 54 :: .blk g3 (arr co) 54 :: Own 28 4 none 0 0 [] :: Lob g1 l :: .blk g4 [.int .i64 ((m0 + 1 : Nat) : Int), .string (str d.w.key), .int .i64 ((7 : Int) + v), .int .i64 ((1 : Int) + u)] 28 :: L) w := s
                  replace s := s.at_ (j := 3) rfl
                  replace s : St W (Lob g1 l :: .blk g2 (arr ci) 54 :: .blk g3 (arr co) 54 :: Own 28 4 none 0 0 [] :: .blk g4 [.int .i64 ((m0 + 1 : Nat) : Int), .string (str d.w.key), .int .i64 ((7 : Int) + v), .int .i64 ((1 : Int) + u)] 28 :: L) w := s
                  replace s := s.at_ (j := 3) rfl
                  replace s : St W (Own 28 4 none 0 0 [] :: Lob g1 l :: .blk g2 (arr ci) 54 :: .blk g3 (arr co) 54 :: .blk g4 [.int .i64 ((m0 + 1 : Nat) : Int), .string (str d.w.key), .int .i64 ((7 : Int) + v), .int .i64 ((1 : Int) + u)] 28 :: L) w := s
                  replace s : St W (Own 28 4 none 0 0 [] :: Lob g1 l :: .blk g2 (arr ci) 54 :: .blk g3 (arr co) 54 :: L) w := St.mid (A := [Own 28 4 none 0 0 [], Lob g1 l, .blk g2 (arr ci) 54, .blk g3 (arr co) 54]) (B := [.blk g4 [.int .i64 ((m0 + 1 : Nat) : Int), .string (str d.w.key), .int .i64 ((7 : Int) + v), .int .i64 ((1 : Int) + u)] 28]) s
                  exact ⟨[], l, ci, none, 0, (Has.cons ha (by kernel_rfl) (by kernel_rfl) (Has.cons ha (by kernel_rfl) (by kernel_rfl) (Has.cons ha (by kernel_rfl) (by kernel_rfl) (Has.cons ha (by kernel_rfl) (by kernel_rfl) (Has.cons ha (by kernel_rfl) (by kernel_rfl) (Has.cons ha (by kernel_rfl) (by rw [show ([] : List Wt).length + l.length = l.length from by simp]; kernel_rfl) (Has.cons ha (by kernel_rfl) (by kernel_rfl) (Has.nil ha)))))))), s, hpf, hI.up, by simp⟩
                · skip
                  refine st_call ha (by kernel_rfl) (by kernel_rfl) (add_is W _ w g1 l (⟨((m0 + 1 : Nat) : Int), d.w.key, (7 : Int) + v, (1 : Int) + u⟩ : Wt) 7 l ha1 ha2 hpf s) ?_
                  rintro _ w ⟨rfl, s⟩
                  replace s : St W (Lob g1 l :: .blk g4 [.int .i64 ((m0 + 1 : Nat) : Int), .string (str d.w.key), .int .i64 ((7 : Int) + v), .int .i64 ((1 : Int) + u)] 28 :: .blk g2 (arr ci) 54 :: .blk g3 (arr co) 54 :: L) w := s
                  refine ⟨_, rfl, ?_⟩; clear ha; intro a ha
                  refine st_val (.int .i64 7) ha (by kernel_rfl) (by kernel_rfl) ?_
                  clear ha; intro a ha
                  refine wpList_nil ?_
                  refine then_normal ?_
                  refine wp_seq ?_
                  refine wp_seq ?_
                  refine wp_region_head 15 (fun w => BlkIs g4 [.int .i64 ((m0 + 1 : Nat) : Int), .string (str d.w.key), .int .i64 ((7 : Int) + v), .int .i64 ((1 : Int) + u)] w ∧ BlkIs g2 (arr ci) w ∧ BlkIs g3 (arr co) w ∧ True) (by kernel_rfl) (by decide) ?_
                  replace s := s.drew; generalize _root_.Go.World.drew _ = w at s ⊢
                  have hS : (fun w => BlkIs g4 [.int .i64 ((m0 + 1 : Nat) : Int), .string (str d.w.key), .int .i64 ((7 : Int) + v), .int .i64 ((1 : Int) + u)] w ∧ BlkIs g2 (arr ci) w ∧ BlkIs g3 (arr co) w ∧ True) w := ⟨s.blkIs 1 rfl, s.blkIs 2 rfl, s.blkIs 3 rfl, trivial⟩
                  refine hd_val (i := 0) (.int .i64 7) ha rfl (by kernel_rfl) (fun _ _ _ h => h) (by kernel_rfl) (fun w hS => (by kernel_rfl)) hS ?_
                  clear ha; intro a ha
                  refine hd_val (i := 1) (.bool false) ha rfl (by kernel_rfl) (fun _ _ _ h => h) (by kernel_rfl) (fun w hS => (by kernel_rfl)) hS ?_
                  clear ha; intro a ha
                  refine hd_val (i := 2) (.pointer (some ⟨g4, 0, none⟩)) ha rfl (by kernel_rfl) (fun _ _ _ h => h) (by kernel_rfl) (fun w hS => (by kernel_rfl)) hS ?_
                  clear ha; intro a ha
                  refine hd_val (i := 3) (.int .i64 ((m0 + 1 : Nat) : Int)) ha rfl (by kernel_rfl) (fun _ _ _ h => h) (by kernel_rfl) (fun w hS => run_load1 (of_ := 0) hS.1 rfl (by kernel_rfl) Try.isAgg3 rfl) hS ?_
                  clear ha; intro a ha
                  refine hd_val (i := 4) (.pointer (some ⟨g2, m0 + 1, none⟩)) ha rfl (by kernel_rfl) (fun _ _ _ h => h) (by kernel_rfl) (fun w hS => (run_indexArr (kd := .i64) (i := ((m0 + 1 : Nat) : Int)) (m0 + 1) rfl Try.underlying54 Try.sizeOf3 (by kernel_rfl) (by kernel_rfl) rfl (by first | assumption | omega) _)) hS ?_
                  clear ha; intro a ha
                  refine hd_val (i := 5) (.int .i64 (ci (m0 + 1))) ha rfl (by kernel_rfl) (fun _ _ _ h => h) (by kernel_rfl) (fun w hS => run_load1 (of_ := m0 + 1) hS.2.1 rfl (by kernel_rfl) Try.isAgg3 (arr_at (by omega))) hS ?_
                  clear ha; intro a ha
                  refine hd_val (i := 6) (.pointer (some ⟨g4, 0, none⟩)) ha rfl (by kernel_rfl) (fun _ _ _ h => h) (by kernel_rfl) (fun w hS => (by kernel_rfl)) hS ?_
                  clear ha; intro a ha
                  refine hd_val (i := 7) (.int .i64 ((m0 + 1 : Nat) : Int)) ha rfl (by kernel_rfl) (fun _ _ _ h => h) (by kernel_rfl) (fun w hS => run_load1 (of_ := 0) hS.1 rfl (by kernel_rfl) Try.isAgg3 rfl) hS ?_
                  clear ha; intro a ha
                  refine hd_val (i := 8) (.pointer (some ⟨g3, m0 + 1, none⟩)) ha rfl (by kernel_rfl) (fun _ _ _ h => h) (by kernel_rfl) (fun w hS => (run_indexArr (kd := .i64) (i := ((m0 + 1 : Nat) : Int)) (m0 + 1) rfl Try.underlying54 Try.sizeOf3 (by kernel_rfl) (by kernel_rfl) rfl (by first | assumption | omega) _)) hS ?_
                  clear ha; intro a ha
                  refine hd_val (i := 9) (.int .i64 (co (m0 + 1))) ha rfl (by kernel_rfl) (fun _ _ _ h => h) (by kernel_rfl) (fun w hS => run_load1 (of_ := m0 + 1) hS.2.2.1 rfl (by kernel_rfl) Try.isAgg3 (arr_at (by omega))) hS ?_
                  clear ha; intro a ha
                  refine hd_val (i := 10) (.bool true) ha rfl (by kernel_rfl) (fun _ _ _ h => h) (by kernel_rfl) (fun w hS => (run_known (show ((ci (m0 + 1)) == (co (m0 + 1))) = true from beq_iff_eq.2 (by omega)) (by kernel_rfl))) hS ?_
                  clear ha; intro a ha
                  refine hd_val (i := 11) (.bool true) ha rfl (by kernel_rfl) (fun _ _ _ h => h) (by kernel_rfl) (fun w hS => (by kernel_rfl)) hS ?_
                  clear ha; intro a ha
                  refine hd_val (i := 12) (.int .i64 ((l.length : Nat) : Int)) ha rfl (by kernel_rfl) (fun _ _ _ h => h) (by kernel_rfl) (fun w hS => (by kernel_rfl)) hS ?_
                  clear ha; intro a ha
                  refine hd_val (i := 13) (.bool false) ha rfl (by kernel_rfl) (fun _ _ _ h => h) (by kernel_rfl) (fun w hS => (run_known (show (decide (((l.length : Nat) : Int) < (64 : Int))) = false from decide_eq_false (by omega)) (by kernel_rfl))) hS ?_
                  clear ha; intro a ha
                  refine hd_val (i := 14) (.bool false) ha rfl (by kernel_rfl) (fun _ _ _ h => h) (by kernel_rfl) (fun w hS => (by kernel_rfl)) hS ?_
                  clear ha; intro a ha
                  refine Head.done (by kernel_rfl) ?_
                  clear hS; simp only [List.drop_succ_cons, List.drop_zero]
                  refine st_val (.bool false) ha (by kernel_rfl) (by kernel_rfl) ?_
                  clear ha; intro a ha
                  refine wpList_nil ?_
                  refine then_normal ?_
                  refine wp_false ha rfl (by kernel_rfl) ?_
                  refine wp_skip ?_
                  refine then_normal ?_
                  refine wp_seq ?_
                  refine wp_region_lit ?_
                  refine st_val (.int .i64 7) ha (by kernel_rfl) (by kernel_rfl) ?_
                  clear ha; intro a ha
                  refine st_val (.bool false) ha (by kernel_rfl) (by kernel_rfl) ?_
                  clear ha; intro a ha
                  refine wpList_nil ?_
                  refine then_normal ?_
                  refine wp_false ha rfl (by kernel_rfl) ?_
                  refine wp_skip ?_
                  refine block_normal ?_
                  refine then_normal ?_
                  replace s := Own.none_ (e := 28) (k := 4) none s
                  replace s : St W (Own 28 4 none 0 0 [] :: Lob g1 l :: .blk g4 [.int .i64 ((m0 + 1 : Nat) : Int), .string (str d.w.key), .int .i64 ((7 : Int) + v), .int .i64 ((1 : Int) + u)] 28 :: .blk g2 (arr ci) 54 :: .blk g3 (arr co) 54 :: L) w := s
                  replace s := s.at_ (j := 4) rfl
                  replace s : St W (.blk g3 (arr co) 54 :: Own 28 4 none 0 0 [] :: Lob g1 l :: .blk g4 [.int .i64 ((m0 + 1 : Nat) : Int), .string (str d.w.key), .int .i64 ((7 : Int) + v), .int .i64 ((1 : Int) + u)] 28 :: .blk g2 (arr ci) 54 :: L) w := s
                  replace s := s.at_ (j := 4) rfl
                  replace s : St W (.blk g2 (arr ci) 54 :: .blk g3 (arr co) 54 :: Own 28 4 none 0 0 [] :: Lob g1 l :: .blk g4 [.int .i64 ((m0 + 1 : Nat) : Int), .string (str d.w.key), .int .i64 ((7 : Int) + v), .int .i64 ((1 : Int) + u)] 28 :: L) w := s
                  replace s := s.at_ (j := 3) rfl
                  replace s : St W (Lob g1 l :: .blk g2 (arr ci) 54 :: .blk g3 (arr co) 54 :: Own 28 4 none 0 0 [] :: .blk g4 [.int .i64 ((m0 + 1 : Nat) : Int), .string (str d.w.key), .int .i64 ((7 : Int) + v), .int .i64 ((1 : Int) + u)] 28 :: L) w := s
                  replace s := s.at_ (j := 3) rfl
                  replace s : St W (Own 28 4 none 0 0 [] :: Lob g1 l :: .blk g2 (arr ci) 54 :: .blk g3 (arr co) 54 :: .blk g4 [.int .i64 ((m0 + 1 : Nat) : Int), .string (str d.w.key), .int .i64 ((7 : Int) + v), .int .i64 ((1 : Int) + u)] 28 :: L) w := s
                  replace s : St W (Own 28 4 none 0 0 [] :: Lob g1 l :: .blk g2 (arr ci) 54 :: .blk g3 (arr co) 54 :: L) w := St.mid (A := [Own 28 4 none 0 0 [], Lob g1 l, .blk g2 (arr ci) 54, .blk g3 (arr co) 54]) (B := [.blk g4 [.int .i64 ((m0 + 1 : Nat) : Int), .string (str d.w.key), .int .i64 ((7 : Int) + v), .int .i64 ((1 : Int) + u)] 28]) s
                  exact ⟨[], l, ci, none, 0, (Has.cons ha (by kernel_rfl) (by kernel_rfl) (Has.cons ha (by kernel_rfl) (by kernel_rfl) (Has.cons ha (by kernel_rfl) (by kernel_rfl) (Has.cons ha (by kernel_rfl) (by kernel_rfl) (Has.cons ha (by kernel_rfl) (by kernel_rfl) (Has.cons ha (by kernel_rfl) (by rw [show ([] : List Wt).length + l.length = l.length from by simp]; kernel_rfl) (Has.cons ha (by kernel_rfl) (by kernel_rfl) (Has.nil ha)))))))), s, hpf, hI.up, by simp⟩
        · clear ha s; rintro a w ⟨o, l2, ci2, A, cc, ha, s, hpf2, hI2, hol⟩
          have hl2l := hpf2.2
          refine wp_seq ?_
          refine wp_seq ?_
          refine wp_region_lit ?_
          refine st_val (.int .i64 0) ha (by kernel_rfl) (by kernel_rfl) ?_
          clear ha; intro a ha
          refine wpList_nil ?_
          refine then_normal ?_
          refine wp_block ?_
          refine wp_loopG (G := (Nat × (Nat → Int))) (fun ⟨j, c2⟩ a w => Has a 202 [(0, .slice (some ad) n c), (3, .pointer (some ⟨g1, 0, none⟩)), (4, .pointer (some ⟨g2, 0, none⟩)), (5, .pointer (some ⟨g3, 0, none⟩)), (7, .int .i64 ((k : Nat) : Int)), (9, .slice A o.length cc), (6, .int .i64 ((o.length + l2.length - j : Nat) : Int)), (13, .int .i64 ((j : Nat) : Int))] ∧ St W (Own 28 4 A o.length cc (ws o) :: Lob g1 l2 :: .blk g2 (arr ci2) 54 :: .blk g3 (arr c2) 54 :: L) w ∧ (j ≤ o.length ∧ ∀ n, c2 n = co n + cnt n (o.take j))) (fun ⟨j, c2⟩ => o.length - j) (0, co) ?_ ?_
          · exact ⟨(Has.cons ha (by kernel_rfl) (by kernel_rfl) (Has.cons ha (by kernel_rfl) (by kernel_rfl) (Has.cons ha (by kernel_rfl) (by kernel_rfl) (Has.cons ha (by kernel_rfl) (by kernel_rfl) (Has.cons ha (by kernel_rfl) (by kernel_rfl) (Has.cons ha (by kernel_rfl) (by kernel_rfl) (Has.cons ha (by kernel_rfl) (by kernel_rfl) (Has.cons ha (by kernel_rfl) (by kernel_rfl) (Has.nil ha))))))))), s, ⟨Nat.zero_le _, fun n => by simp [cnt]⟩⟩
          · clear ha s; rintro ⟨j, c2⟩ a w ⟨ha, s, hp⟩
            refine wp_seq ?_
            refine wp_seq ?_
            refine wp_region_lit ?_
            refine st_val (.int .i64 ((j : Nat) : Int)) ha (by kernel_rfl) (by kernel_rfl) ?_
            clear ha; intro a ha
            refine st_val (.slice A o.length cc) ha (by kernel_rfl) (by kernel_rfl) ?_
            clear ha; intro a ha
            refine st_val (.int .i64 ((o.length : Nat) : Int)) ha (by kernel_rfl) (by kernel_rfl) ?_
            clear ha; intro a ha
            refine st_val (.bool (decide (((j : Nat) : Int) < ((o.length : Nat) : Int)))) ha (by kernel_rfl) (by kernel_rfl) ?_
            clear ha; intro a ha
            refine wpList_nil ?_
            refine then_normal ?_
            refine wp_part (decide (((j : Nat) : Int) < ((o.length : Nat) : Int))) ha rfl (by kernel_rfl) (fun hb => ?_) (fun hb => ?_)
            · rw [hb] at ha; replace hb : (((j : Nat) : Int) < ((o.length : Nat) : Int)) := of_decide_eq_true hb
              have hc2 := hp.2
              obtain ⟨x, hx⟩ : ∃ x, (o)[j]? = some x := ⟨_, List.getElem?_eq_getElem (by omega)⟩
              obtain ⟨ao14, hA⟩ := Own.addr (s.at_ (j := 0) rfl) (by omega)
              subst hA
              have hB := told_bounds hI2 hx hc2
              obtain ⟨hB, hB2⟩ := hB
              obtain ⟨m, hm⟩ : ∃ m : Nat, x.num = (m : Int) := ⟨x.num.toNat, by omega⟩
              replace hB2 := hB2 m hm
              refine wp_skip ?_
              refine then_normal ?_
              refine wp_seq ?_
              refine wp_block ?_
              refine wp_seq ?_
              refine wp_region_lit ?_
              refine st_val (.slice (some ao14) o.length cc) ha (by kernel_rfl) (by kernel_rfl) ?_
              clear ha; intro a ha
              refine st_val (.int .i64 ((j : Nat) : Int)) ha (by kernel_rfl) (by kernel_rfl) ?_
              clear ha; intro a ha
              refine st_val (.pointer (some (ao14.add (j * 4)))) ha (by kernel_rfl) (run_indexAddr' (kd := .i64) (i := ((j : Nat) : Int)) (n := o.length) (c := cc) j rfl Try.underlying37 Try.sizeOf28 (by kernel_rfl) (by kernel_rfl) rfl (by first | assumption | omega) _) ?_
              clear ha; intro a ha
              refine st_val (.pointer (some (ao14.add (j * 4 + 0)))) ha (by kernel_rfl) (run_fieldAddr_at (i := j * 4) (off := 0) rfl Try.underlying28 rfl Try.sizeOf3 (by kernel_rfl) _) ?_
              clear ha; intro a ha
              refine st_val (.int .i64 x.num) ha (by kernel_rfl) (run_loadAt1 (i := j * 4 + 0) ((Own.reads (s.at_ (j := 0) rfl).1)) rfl (by kernel_rfl) Try.isAgg3 (by rw [ws_at hx (by omega)]; rfl)) ?_
              clear ha; intro a ha
              refine st_val (.int .i64 x.num) ha (by kernel_rfl) (by kernel_rfl) ?_
              clear ha; intro a ha
              refine wpList_nil ?_
              refine then_normal ?_
              refine wp_seq ?_
              refine wp_seq ?_
              refine wp_region_lit ?_
              refine st_val (.int .i64 x.num) ha (by kernel_rfl) (by kernel_rfl) ?_
              clear ha; intro a ha
              refine st_val (.bool false) ha (by kernel_rfl) (run_known (show (decide (x.num < (1 : Int))) = false from decide_eq_false (by omega)) (by kernel_rfl)) ?_
              clear ha; intro a ha
              refine st_val (.bool false) ha (by kernel_rfl) (by kernel_rfl) ?_
              clear ha; intro a ha
              refine st_val (.int .i64 x.num) ha (by kernel_rfl) (by kernel_rfl) ?_
              clear ha; intro a ha
              refine st_val (.bool false) ha (by kernel_rfl) (run_known (show (decide (x.num > (90 : Int))) = false from decide_eq_false (by omega)) (by kernel_rfl)) ?_
              clear ha; intro a ha
              refine st_val (.bool false) ha (by kernel_rfl) (by kernel_rfl) ?_
              clear ha; intro a ha
              refine wpList_nil ?_
              refine then_normal ?_
              refine wp_false ha rfl (by kernel_rfl) ?_
              refine wp_skip ?_
              refine then_normal ?_
              refine wp_seq ?_
              refine wp_region_lit ?_
              refine st_val (.int .i64 x.num) ha (by kernel_rfl) (by kernel_rfl) ?_
              clear ha; intro a ha
              refine st_val (.pointer (some ⟨g3, m, none⟩)) ha (by kernel_rfl) (run_indexArr (kd := .i64) (i := x.num) m rfl Try.underlying54 Try.sizeOf3 (by kernel_rfl) (by kernel_rfl) hm (by first | assumption | omega) _) ?_
              clear ha; intro a ha
              refine st_val (.int .i64 (c2 m)) ha (by kernel_rfl) (run_load1 (of_ := m) (s.blkIs 3 rfl) rfl (by kernel_rfl) Try.isAgg3 (arr_at (by omega))) ?_
              clear ha; intro a ha
              refine st_val (.int .i64 ((c2 m) + (1 : Int))) ha (by kernel_rfl) (run_arith ((c2 m) + (1 : Int)) ((c2 m) + (1 : Int)) rfl (by kernel_rfl) (by kernel_rfl) (.inl ⟨rfl, rfl⟩) (by rw [wrap64_in (by omega)]) _) ?_
              clear ha; intro a ha
              refine st_val (.pointer (some ⟨g3, m, none⟩)) ha (by kernel_rfl) (run_indexArr (kd := .i64) (i := x.num) m rfl Try.underlying54 Try.sizeOf3 (by kernel_rfl) (by kernel_rfl) hm (by first | assumption | omega) _) ?_
              clear ha; intro a ha
              refine st_exd ha (by kernel_rfl) (ex_store_to (of_ := m) 3 [.int .i64 ((c2 m) + (1 : Int))] s (arr_put _) rfl rfl (by kernel_rfl) (by kernel_rfl) (Try.sizeOf3 _) rfl (by simp [Value.oneCell']) (by rw [arr_len]; simp only [List.length_cons, List.length_nil]; omega)) ?_
              clear ha; rintro w a s ha
              replace s : St W (Own 28 4 (some ao14) o.length cc (ws o) :: Lob g1 l2 :: .blk g2 (arr ci2) 54 :: .blk g3 (arr (fun i_ => if i_ = m then ((c2 m) + (1 : Int)) else c2 i_)) 54 :: L) w := s
              obtain ⟨c15, hc15⟩ : ∃ c15 : Nat → Int, (fun i_ => if i_ = m then ((c2 m) + (1 : Int)) else c2 i_) = c15 := ⟨_, rfl⟩
              rw [hc15] at s
              have hc15m : c15 m = ((c2 m) + (1 : Int)) := by rw [← hc15]; simp only [if_true]
              have hc15o : ∀ i, i ≠ m → c15 i = c2 i := fun i h => by rw [← hc15]; simp only [if_neg h]
              replace s : St W (Own 28 4 (some ao14) o.length cc (ws o) :: Lob g1 l2 :: .blk g2 (arr ci2) 54 :: .blk g3 (arr c15) 54 :: L) w := s
              refine wpList_nil ?_
              refine then_normal ?_
              refine wp_seq ?_
              refine wp_region_lit ?_
              refine st_val (.int .i64 ((o.length + l2.length - j : Nat) : Int)) ha (by kernel_rfl) (by kernel_rfl) ?_
              clear ha; intro a ha
              refine st_val (.int .i64 ((o.length + l2.length - j - 1 : Nat) : Int)) ha (by kernel_rfl) (run_arith (((o.length + l2.length - j : Nat) : Int) - (1 : Int)) ((o.length + l2.length - j - 1 : Nat) : Int) rfl (by kernel_rfl) (by kernel_rfl) (.inr (.inl ⟨rfl, rfl⟩)) (by rw [wrap64_in (by omega)]; try omega) _) ?_
              clear ha; intro a ha
              refine st_val (.int .i64 ((o.length + l2.length - j - 1 : Nat) : Int)) ha (by kernel_rfl) (by kernel_rfl) ?_
              clear ha; intro a ha
              refine wpList_nil ?_
              refine then_normal ?_
              refine wp_seq ?_
              refine wp_region_head 6 (fun w => BlkIs g3 (arr c15) w ∧ BlkIs g2 (arr ci2) w ∧ True) (by kernel_rfl) (by decide) ?_
              replace s := s.drew; generalize _root_.Go.World.drew _ = w at s ⊢
              have hS : (fun w => BlkIs g3 (arr c15) w ∧ BlkIs g2 (arr ci2) w ∧ True) w := ⟨s.blkIs 3 rfl, s.blkIs 2 rfl, trivial⟩
              refine hd_val (i := 0) (.int .i64 x.num) ha rfl (by kernel_rfl) (fun _ _ _ h => h) (by kernel_rfl) (fun w hS => (by kernel_rfl)) hS ?_
              clear ha; intro a ha
              refine hd_val (i := 1) (.pointer (some ⟨g3, m, none⟩)) ha rfl (by kernel_rfl) (fun _ _ _ h => h) (by kernel_rfl) (fun w hS => (run_indexArr (kd := .i64) (i := x.num) m rfl Try.underlying54 Try.sizeOf3 (by kernel_rfl) (by kernel_rfl) hm (by first | assumption | omega) _)) hS ?_
              clear ha; intro a ha
              refine hd_val (i := 2) (.int .i64 (c15 m)) ha rfl (by kernel_rfl) (fun _ _ _ h => h) (by kernel_rfl) (fun w hS => run_load1 (of_ := m) hS.1 rfl (by kernel_rfl) Try.isAgg3 (arr_at (by omega))) hS ?_
              clear ha; intro a ha
              refine hd_val (i := 3) (.int .i64 x.num) ha rfl (by kernel_rfl) (fun _ _ _ h => h) (by kernel_rfl) (fun w hS => (by kernel_rfl)) hS ?_
              clear ha; intro a ha
              refine hd_val (i := 4) (.pointer (some ⟨g2, m, none⟩)) ha rfl (by kernel_rfl) (fun _ _ _ h => h) (by kernel_rfl) (fun w hS => (run_indexArr (kd := .i64) (i := x.num) m rfl Try.underlying54 Try.sizeOf3 (by kernel_rfl) (by kernel_rfl) hm (by first | assumption | omega) _)) hS ?_
              clear ha; intro a ha
              refine hd_val (i := 5) (.int .i64 (ci2 m)) ha rfl (by kernel_rfl) (fun _ _ _ h => h) (by kernel_rfl) (fun w hS => run_load1 (of_ := m) hS.2.1 rfl (by kernel_rfl) Try.isAgg3 (arr_at (by omega))) hS ?_
              clear ha; intro a ha
              refine Head.done (by kernel_rfl) ?_
              clear hS; simp only [List.drop_succ_cons, List.drop_zero]
              refine st_val (.bool false) ha (by kernel_rfl) (run_known (show ((c15 m) != (ci2 m)) = false from by rw [bne_eq_false_iff_eq]; omega) (by kernel_rfl)) ?_
              clear ha; intro a ha
              refine wpList_nil ?_
              refine then_normal ?_
              refine wp_false ha rfl (by kernel_rfl) ?_
              refine wp_skip ?_
              refine block_normal ?_
              refine then_normal ?_
              refine wp_region_lit ?_
              refine st_val (.int .i64 ((j : Nat) : Int)) ha (by kernel_rfl) (by kernel_rfl) ?_
              clear ha; intro a ha
              refine st_val (.int .i64 ((j + 1 : Nat) : Int)) ha (by kernel_rfl) (run_arith (((j : Nat) : Int) + (1 : Int)) ((j + 1 : Nat) : Int) rfl (by kernel_rfl) (by kernel_rfl) (.inl ⟨rfl, rfl⟩) (by rw [wrap64_in (by omega)]; try omega) _) ?_
              clear ha; intro a ha
              refine st_val (.int .i64 ((j + 1 : Nat) : Int)) ha (by kernel_rfl) (by kernel_rfl) ?_
              clear ha; intro a ha
              refine wpList_nil ?_
              refine then_normal ?_
              exact ⟨(j + 1, c15), (show o.length - (j + 1) < o.length - j by omega), (Has.cons ha (by kernel_rfl) (by kernel_rfl) (Has.cons ha (by kernel_rfl) (by kernel_rfl) (Has.cons ha (by kernel_rfl) (by kernel_rfl) (Has.cons ha (by kernel_rfl) (by kernel_rfl) (Has.cons ha (by kernel_rfl) (by kernel_rfl) (Has.cons ha (by kernel_rfl) (by kernel_rfl) (Has.cons ha (by kernel_rfl) (by kernel_rfl) (Has.cons ha (by kernel_rfl) (by kernel_rfl) (Has.nil ha))))))))), s, (show j + 1 ≤ o.length by omega), told_step hc2 hx hm hc15m hc15o⟩
            · rw [hb] at ha; replace hb : ¬ (((j : Nat) : Int) < ((o.length : Nat) : Int)) := of_decide_eq_false hb
              have hc2 := hp.2
              refine wp_exit ?_
              refine then_exit ?_
              refine then_exit ?_
              refine block_hit ?_
              refine then_normal ?_
              refine wp_seq ?_
              refine wp_region_lit ?_
              refine st_val (.pointer (some ⟨g1, 0, none⟩)) ha (by kernel_rfl) (by kernel_rfl) ?_
              clear ha; intro a ha
              replace s := s.at_ (j := 1) rfl
              replace s : St W (Lob g1 l2 :: Own 28 4 A o.length cc (ws o) :: .blk g2 (arr ci2) 54 :: .blk g3 (arr c2) 54 :: L) w := s
              refine st_call ha (by kernel_rfl) (by kernel_rfl) (len_lob W _ w g1 l2 hpf2 s) ?_
              rintro _ w ⟨rfl, s⟩
              replace s : St W (Lob g1 l2 :: Own 28 4 A o.length cc (ws o) :: .blk g2 (arr ci2) 54 :: .blk g3 (arr c2) 54 :: L) w := s
              refine ⟨_, rfl, ?_⟩; clear ha; intro a ha
              refine st_val (.int .i64 ((o.length + l2.length - j : Nat) : Int)) ha (by kernel_rfl) (by kernel_rfl) ?_
              clear ha; intro a ha
              refine st_val (.bool false) ha (by kernel_rfl) (run_known (show (((l2.length : Nat) : Int) != ((o.length + l2.length - j : Nat) : Int)) = false from by rw [bne_eq_false_iff_eq]; omega) (by kernel_rfl)) ?_
              clear ha; intro a ha
              refine wpList_nil ?_
              refine then_normal ?_
              refine wp_false ha rfl (by kernel_rfl) ?_
              refine wp_skip ?_
              refine block_normal ?_
              refine then_normal ?_
              refine wp_region_lit ?_
              refine st_val (.int .i64 ((k : Nat) : Int)) ha (by kernel_rfl) (by kernel_rfl) ?_
              clear ha; intro a ha
              refine st_val (.int .i64 ((k + 1 : Nat) : Int)) ha (by kernel_rfl) (run_arith (((k : Nat) : Int) + (1 : Int)) ((k + 1 : Nat) : Int) rfl (by kernel_rfl) (by kernel_rfl) (.inl ⟨rfl, rfl⟩) (by rw [wrap64_in (by omega)]; try omega) _) ?_
              clear ha; intro a ha
              refine st_val (.int .i64 ((k + 1 : Nat) : Int)) ha (by kernel_rfl) (by kernel_rfl) ?_
              clear ha; intro a ha
              refine wpList_nil ?_
              refine then_normal ?_
              replace s := s.at_ (j := 3) rfl
              replace s : St W (.blk g3 (arr c2) 54 :: Lob g1 l2 :: Own 28 4 A o.length cc (ws o) :: .blk g2 (arr ci2) 54 :: L) w := s
              replace s := s.at_ (j := 3) rfl
              replace s : St W (.blk g2 (arr ci2) 54 :: .blk g3 (arr c2) 54 :: Lob g1 l2 :: Own 28 4 A o.length cc (ws o) :: L) w := s
              replace s := s.at_ (j := 2) rfl
              replace s : St W (Lob g1 l2 :: .blk g2 (arr ci2) 54 :: .blk g3 (arr c2) 54 :: Own 28 4 A o.length cc (ws o) :: L) w := s
              replace s : St W (Lob g1 l2 :: .blk g2 (arr ci2) 54 :: .blk g3 (arr c2) 54 :: L) w := St.mid (A := [Lob g1 l2, .blk g2 (arr ci2) 54, .blk g3 (arr c2) 54]) (B := [Own 28 4 A o.length cc (ws o)]) s
              have h6 : o.length + l2.length - j = l2.length := by omega
              exact ⟨(k + 1, l2, ci2, c2), (show 200 - (k + 1) < 200 - k by omega), (Has.cons ha (by kernel_rfl) (by kernel_rfl) (Has.cons ha (by kernel_rfl) (by kernel_rfl) (Has.cons ha (by kernel_rfl) (by kernel_rfl) (Has.cons ha (by kernel_rfl) (by kernel_rfl) (Has.cons ha (by kernel_rfl) (Eq.trans (b := .int .i64 ((o.length + l2.length - j : Nat) : Int)) (by kernel_rfl) (by rw [h6])) (Has.cons ha (by kernel_rfl) (by kernel_rfl) (Has.nil ha))))))), s, (show k + 1 ≤ 200 by omega), hpf2, hI2.off (by rw [List.take_of_length_le (by omega)] at hc2; exact hc2)⟩
      · rw [hb] at ha; replace hb : ¬ (((k : Nat) : Int) < (200 : Int)) := of_decide_eq_false hb
        have hpf := hp.2.1
        have hI := hp.2.2
        refine wp_exit ?_
        refine then_exit ?_
        refine then_exit ?_
        refine block_hit ?_
        refine then_normal ?_
        refine wp_seq ?_
        refine wp_seq ?_
        refine wp_region_lit ?_
        refine st_val (.int .i64 1) ha (by kernel_rfl) (by kernel_rfl) ?_
        clear ha; intro a ha
        refine wpList_nil ?_
        refine then_normal ?_
        refine wp_block ?_
        have hI3 := hI.last hp.1
        refine wp_loopG (G := (Nat × List Wt × (Nat → Int))) (fun ⟨h, l, cz⟩ a w => Has a 202 [(3, .pointer (some ⟨g1, 0, none⟩)), (4, .pointer (some ⟨g2, 0, none⟩)), (5, .pointer (some ⟨g3, 0, none⟩)), (15, .int .i64 ((h : Nat) : Int))] ∧ St W (Lob g1 l :: .blk g2 (arr ci) 54 :: .blk g3 (arr cz) 54 :: L) w ∧ (h ≤ 7 ∧ Fine l ∧ Ends h l ci cz)) (fun ⟨h, l, cz⟩ => 7 - h) (1, l, co) ?_ ?_
        · exact ⟨(Has.cons ha (by kernel_rfl) (by kernel_rfl) (Has.cons ha (by kernel_rfl) (by kernel_rfl) (Has.cons ha (by kernel_rfl) (by kernel_rfl) (Has.cons ha (by kernel_rfl) (by kernel_rfl) (Has.nil ha))))), s, ⟨by omega, hpf, hI3⟩⟩
        · clear ha s; rintro ⟨h, l, cz⟩ a w ⟨ha, s, hp⟩
          refine wp_seq ?_
          refine wp_seq ?_
          refine wp_region_lit ?_
          refine st_val (.int .i64 ((h : Nat) : Int)) ha (by kernel_rfl) (by kernel_rfl) ?_
          clear ha; intro a ha
          refine st_val (.bool (decide (((h : Nat) : Int) < (7 : Int)))) ha (by kernel_rfl) (by kernel_rfl) ?_
          clear ha; intro a ha
          refine wpList_nil ?_
          refine then_normal ?_
          refine wp_part (decide (((h : Nat) : Int) < (7 : Int))) ha rfl (by kernel_rfl) (fun hb => ?_) (fun hb => ?_)
          · rw [hb] at ha; replace hb : (((h : Nat) : Int) < (7 : Int)) := of_decide_eq_true hb
            have hpf := hp.2.1
            have hE := hp.2.2
            have hll := hpf.2
            refine wp_skip ?_
            refine then_normal ?_
            refine wp_seq ?_
            refine wp_block ?_
            refine wp_seq ?_
            refine wp_region_lit ?_
            refine st_val (.pointer (some ⟨g1, 0, none⟩)) ha (by kernel_rfl) (by kernel_rfl) ?_
            clear ha; intro a ha
            refine st_val (.int .i64 ((h : Nat) : Int)) ha (by kernel_rfl) (by kernel_rfl) ?_
            clear ha; intro a ha
            refine st_call ha (by kernel_rfl) (by kernel_rfl) (free_lob W _ w g1 l ((h : Nat) : Int) hpf s) ?_
            rintro _ w ⟨A16, c17, rfl, s⟩
            replace s : St W (Own 28 4 A16 ((out (byHolder ((h : Nat) : Int)) l).length) c17 (ws (out (byHolder ((h : Nat) : Int)) l)) :: Lob g1 (left (byHolder ((h : Nat) : Int)) l) :: .blk g2 (arr ci) 54 :: .blk g3 (arr cz) 54 :: L) w := s
            refine ⟨_, rfl, ?_⟩; clear ha; intro a ha
            refine st_val (.slice A16 ((out (byHolder ((h : Nat) : Int)) l).length) c17) ha (by kernel_rfl) (by kernel_rfl) ?_
            clear ha; intro a ha
            refine wpList_nil ?_
            refine then_normal ?_
            refine wp_seq ?_
            refine wp_region_lit ?_
            refine st_val (.int .i64 0) ha (by kernel_rfl) (by kernel_rfl) ?_
            clear ha; intro a ha
            refine wpList_nil ?_
            refine then_normal ?_
            refine wp_block ?_
            have hol : (out (byHolder ((h : Nat) : Int)) l).length ≤ 64 := Nat.le_trans (out_le _ _) hll
            refine wp_loopG (G := (Nat × (Nat → Int))) (fun ⟨j, c2⟩ a w => Has a 202 [(3, .pointer (some ⟨g1, 0, none⟩)), (4, .pointer (some ⟨g2, 0, none⟩)), (5, .pointer (some ⟨g3, 0, none⟩)), (15, .int .i64 ((h : Nat) : Int)), (16, .slice A16 ((out (byHolder ((h : Nat) : Int)) l).length) c17), (17, .int .i64 ((j : Nat) : Int))] ∧ St W (Own 28 4 A16 ((out (byHolder ((h : Nat) : Int)) l).length) c17 (ws (out (byHolder ((h : Nat) : Int)) l)) :: Lob g1 (left (byHolder ((h : Nat) : Int)) l) :: .blk g2 (arr ci) 54 :: .blk g3 (arr c2) 54 :: L) w ∧ (j ≤ (out (byHolder ((h : Nat) : Int)) l).length ∧ ∀ n, c2 n = cz n + cnt n ((out (byHolder ((h : Nat) : Int)) l).take j))) (fun ⟨j, c2⟩ => (out (byHolder ((h : Nat) : Int)) l).length - j) (0, cz) ?_ ?_
            · exact ⟨(Has.cons ha (by kernel_rfl) (by kernel_rfl) (Has.cons ha (by kernel_rfl) (by kernel_rfl) (Has.cons ha (by kernel_rfl) (by kernel_rfl) (Has.cons ha (by kernel_rfl) (by kernel_rfl) (Has.cons ha (by kernel_rfl) (by kernel_rfl) (Has.cons ha (by kernel_rfl) (by kernel_rfl) (Has.nil ha))))))), s, ⟨Nat.zero_le _, fun n => by simp [cnt]⟩⟩
            · clear ha s; rintro ⟨j, c2⟩ a w ⟨ha, s, hp⟩
              refine wp_seq ?_
              refine wp_seq ?_
              refine wp_region_lit ?_
              refine st_val (.int .i64 ((j : Nat) : Int)) ha (by kernel_rfl) (by kernel_rfl) ?_
              clear ha; intro a ha
              refine st_val (.slice A16 ((out (byHolder ((h : Nat) : Int)) l).length) c17) ha (by kernel_rfl) (by kernel_rfl) ?_
              clear ha; intro a ha
              refine st_val (.int .i64 (((out (byHolder ((h : Nat) : Int)) l).length : Nat) : Int)) ha (by kernel_rfl) (by kernel_rfl) ?_
              clear ha; intro a ha
              refine st_val (.bool (decide (((j : Nat) : Int) < (((out (byHolder ((h : Nat) : Int)) l).length : Nat) : Int)))) ha (by kernel_rfl) (by kernel_rfl) ?_
              clear ha; intro a ha
              refine wpList_nil ?_
              refine then_normal ?_
              refine wp_part (decide (((j : Nat) : Int) < (((out (byHolder ((h : Nat) : Int)) l).length : Nat) : Int))) ha rfl (by kernel_rfl) (fun hb => ?_) (fun hb => ?_)
              · rw [hb] at ha; replace hb : (((j : Nat) : Int) < (((out (byHolder ((h : Nat) : Int)) l).length : Nat) : Int)) := of_decide_eq_true hb
                have hc2 := hp.2
                obtain ⟨x, hx⟩ : ∃ x, (out (byHolder ((h : Nat) : Int)) l)[j]? = some x := ⟨_, List.getElem?_eq_getElem (by omega)⟩
                obtain ⟨ao18, hA⟩ := Own.addr (s.at_ (j := 0) rfl) (by omega)
                subst hA
                have hB := hE.bounds hx hc2
                obtain ⟨hB, hB2⟩ := hB
                obtain ⟨m, hm⟩ : ∃ m : Nat, x.num = (m : Int) := ⟨x.num.toNat, by omega⟩
                replace hB2 := hB2 m hm
                refine wp_skip ?_
                refine then_normal ?_
                refine wp_seq ?_
                refine wp_block ?_
                refine wp_seq ?_
                refine wp_seq ?_
                refine wp_region_lit ?_
                refine st_val (.slice (some ao18) ((out (byHolder ((h : Nat) : Int)) l).length) c17) ha (by kernel_rfl) (by kernel_rfl) ?_
                clear ha; intro a ha
                refine st_val (.int .i64 ((j : Nat) : Int)) ha (by kernel_rfl) (by kernel_rfl) ?_
                clear ha; intro a ha
                refine st_val (.pointer (some (ao18.add (j * 4)))) ha (by kernel_rfl) (run_indexAddr' (kd := .i64) (i := ((j : Nat) : Int)) (n := ((out (byHolder ((h : Nat) : Int)) l).length)) (c := c17) j rfl Try.underlying37 Try.sizeOf28 (by kernel_rfl) (by kernel_rfl) rfl (by first | assumption | omega) _) ?_
                clear ha; intro a ha
                refine st_val (.pointer (some (ao18.add (j * 4 + 0)))) ha (by kernel_rfl) (run_fieldAddr_at (i := j * 4) (off := 0) rfl Try.underlying28 rfl Try.sizeOf3 (by kernel_rfl) _) ?_
                clear ha; intro a ha
                refine st_val (.int .i64 x.num) ha (by kernel_rfl) (run_loadAt1 (i := j * 4 + 0) ((Own.reads (s.at_ (j := 0) rfl).1)) rfl (by kernel_rfl) Try.isAgg3 (by rw [ws_at hx (by omega)]; rfl)) ?_
                clear ha; intro a ha
                refine st_val (.bool false) ha (by kernel_rfl) (run_known (show (decide (x.num < (1 : Int))) = false from decide_eq_false (by omega)) (by kernel_rfl)) ?_
                clear ha; intro a ha
                refine st_val (.bool false) ha (by kernel_rfl) (by kernel_rfl) ?_
                clear ha; intro a ha
                refine st_val (.slice (some ao18) ((out (byHolder ((h : Nat) : Int)) l).length) c17) ha (by kernel_rfl) (by kernel_rfl) ?_
                clear ha; intro a ha
                refine st_val (.int .i64 ((j : Nat) : Int)) ha (by kernel_rfl) (by kernel_rfl) ?_
                clear ha; intro a ha
                refine st_val (.pointer (some (ao18.add (j * 4)))) ha (by kernel_rfl) (run_indexAddr' (kd := .i64) (i := ((j : Nat) : Int)) (n := ((out (byHolder ((h : Nat) : Int)) l).length)) (c := c17) j rfl Try.underlying37 Try.sizeOf28 (by kernel_rfl) (by kernel_rfl) rfl (by first | assumption | omega) _) ?_
                clear ha; intro a ha
                refine st_val (.pointer (some (ao18.add (j * 4 + 0)))) ha (by kernel_rfl) (run_fieldAddr_at (i := j * 4) (off := 0) rfl Try.underlying28 rfl Try.sizeOf3 (by kernel_rfl) _) ?_
                clear ha; intro a ha
                refine st_val (.int .i64 x.num) ha (by kernel_rfl) (run_loadAt1 (i := j * 4 + 0) ((Own.reads (s.at_ (j := 0) rfl).1)) rfl (by kernel_rfl) Try.isAgg3 (by rw [ws_at hx (by omega)]; rfl)) ?_
                clear ha; intro a ha
                refine st_val (.bool false) ha (by kernel_rfl) (run_known (show (decide (x.num > (90 : Int))) = false from decide_eq_false (by omega)) (by kernel_rfl)) ?_
                clear ha; intro a ha
                refine st_val (.bool false) ha (by kernel_rfl) (by kernel_rfl) ?_
                clear ha; intro a ha
                refine st_val (.bool false) ha (by kernel_rfl) (by kernel_rfl) ?_
                clear ha; intro a ha
                refine st_val (.slice (some ao18) ((out (byHolder ((h : Nat) : Int)) l).length) c17) ha (by kernel_rfl) (by kernel_rfl) ?_
                clear ha; intro a ha
                refine st_val (.int .i64 ((j : Nat) : Int)) ha (by kernel_rfl) (by kernel_rfl) ?_
                clear ha; intro a ha
                refine st_val (.pointer (some (ao18.add (j * 4)))) ha (by kernel_rfl) (run_indexAddr' (kd := .i64) (i := ((j : Nat) : Int)) (n := ((out (byHolder ((h : Nat) : Int)) l).length)) (c := c17) j rfl Try.underlying37 Try.sizeOf28 (by kernel_rfl) (by kernel_rfl) rfl (by first | assumption | omega) _) ?_
                clear ha; intro a ha
                refine st_val (.pointer (some (ao18.add (j * 4 + 3)))) ha (by kernel_rfl) (run_fieldAddr_at (i := j * 4) (off := 3) rfl Try.underlying28 rfl Try.sizeOf3 (by kernel_rfl) _) ?_
                clear ha; intro a ha
                refine st_val (.int .i64 x.holder) ha (by kernel_rfl) (run_loadAt1 (i := j * 4 + 3) ((Own.reads (s.at_ (j := 0) rfl).1)) rfl (by kernel_rfl) Try.isAgg3 (by rw [ws_at hx (by omega)]; rfl)) ?_
                clear ha; intro a ha
                refine st_val (.int .i64 ((h : Nat) : Int)) ha (by kernel_rfl) (by kernel_rfl) ?_
                clear ha; intro a ha
                refine st_val (.bool false) ha (by kernel_rfl) (run_known (show (x.holder != ((h : Nat) : Int)) = false from by rw [bne_eq_false_iff_eq]; omega) (by kernel_rfl)) ?_
                clear ha; intro a ha
                refine st_val (.bool false) ha (by kernel_rfl) (by kernel_rfl) ?_
                clear ha; intro a ha
                refine wpList_nil ?_
                refine then_normal ?_
                refine wp_false ha rfl (by kernel_rfl) ?_
                refine wp_skip ?_
                refine then_normal ?_
                refine wp_region_lit ?_
                refine st_val (.slice (some ao18) ((out (byHolder ((h : Nat) : Int)) l).length) c17) ha (by kernel_rfl) (by kernel_rfl) ?_
                clear ha; intro a ha
                refine st_val (.int .i64 ((j : Nat) : Int)) ha (by kernel_rfl) (by kernel_rfl) ?_
                clear ha; intro a ha
                refine st_val (.pointer (some (ao18.add (j * 4)))) ha (by kernel_rfl) (run_indexAddr' (kd := .i64) (i := ((j : Nat) : Int)) (n := ((out (byHolder ((h : Nat) : Int)) l).length)) (c := c17) j rfl Try.underlying37 Try.sizeOf28 (by kernel_rfl) (by kernel_rfl) rfl (by first | assumption | omega) _) ?_
                clear ha; intro a ha
                refine st_val (.pointer (some (ao18.add (j * 4 + 0)))) ha (by kernel_rfl) (run_fieldAddr_at (i := j * 4) (off := 0) rfl Try.underlying28 rfl Try.sizeOf3 (by kernel_rfl) _) ?_
                clear ha; intro a ha
                refine st_val (.int .i64 x.num) ha (by kernel_rfl) (run_loadAt1 (i := j * 4 + 0) ((Own.reads (s.at_ (j := 0) rfl).1)) rfl (by kernel_rfl) Try.isAgg3 (by rw [ws_at hx (by omega)]; rfl)) ?_
                clear ha; intro a ha
                refine st_val (.pointer (some ⟨g3, m, none⟩)) ha (by kernel_rfl) (run_indexArr (kd := .i64) (i := x.num) m rfl Try.underlying54 Try.sizeOf3 (by kernel_rfl) (by kernel_rfl) hm (by first | assumption | omega) _) ?_
                clear ha; intro a ha
                refine st_val (.int .i64 (c2 m)) ha (by kernel_rfl) (run_load1 (of_ := m) (s.blkIs 3 rfl) rfl (by kernel_rfl) Try.isAgg3 (arr_at (by omega))) ?_
                clear ha; intro a ha
                refine st_val (.int .i64 ((c2 m) + (1 : Int))) ha (by kernel_rfl) (run_arith ((c2 m) + (1 : Int)) ((c2 m) + (1 : Int)) rfl (by kernel_rfl) (by kernel_rfl) (.inl ⟨rfl, rfl⟩) (by rw [wrap64_in (by omega)]) _) ?_
                clear ha; intro a ha
                refine st_val (.pointer (some ⟨g3, m, none⟩)) ha (by kernel_rfl) (run_indexArr (kd := .i64) (i := x.num) m rfl Try.underlying54 Try.sizeOf3 (by kernel_rfl) (by kernel_rfl) hm (by first | assumption | omega) _) ?_
                clear ha; intro a ha
                refine st_exd ha (by kernel_rfl) (ex_store_to (of_ := m) 3 [.int .i64 ((c2 m) + (1 : Int))] s (arr_put _) rfl rfl (by kernel_rfl) (by kernel_rfl) (Try.sizeOf3 _) rfl (by simp [Value.oneCell']) (by rw [arr_len]; simp only [List.length_cons, List.length_nil]; omega)) ?_
                clear ha; rintro w a s ha
                replace s : St W (Own 28 4 (some ao18) ((out (byHolder ((h : Nat) : Int)) l).length) c17 (ws (out (byHolder ((h : Nat) : Int)) l)) :: Lob g1 (left (byHolder ((h : Nat) : Int)) l) :: .blk g2 (arr ci) 54 :: .blk g3 (arr (fun i_ => if i_ = m then ((c2 m) + (1 : Int)) else c2 i_)) 54 :: L) w := s
                obtain ⟨c19, hc19⟩ : ∃ c19 : Nat → Int, (fun i_ => if i_ = m then ((c2 m) + (1 : Int)) else c2 i_) = c19 := ⟨_, rfl⟩
                rw [hc19] at s
                have hc19m : c19 m = ((c2 m) + (1 : Int)) := by rw [← hc19]; simp only [if_true]
                have hc19o : ∀ i, i ≠ m → c19 i = c2 i := fun i h => by rw [← hc19]; simp only [if_neg h]
                replace s : St W (Own 28 4 (some ao18) ((out (byHolder ((h : Nat) : Int)) l).length) c17 (ws (out (byHolder ((h : Nat) : Int)) l)) :: Lob g1 (left (byHolder ((h : Nat) : Int)) l) :: .blk g2 (arr ci) 54 :: .blk g3 (arr c19) 54 :: L) w := s
                refine wpList_nil ?_
                refine block_normal ?_
                refine then_normal ?_
                refine wp_region_lit ?_
                refine st_val (.int .i64 ((j : Nat) : Int)) ha (by kernel_rfl) (by kernel_rfl) ?_
                clear ha; intro a ha
                refine st_val (.int .i64 ((j + 1 : Nat) : Int)) ha (by kernel_rfl) (run_arith (((j : Nat) : Int) + (1 : Int)) ((j + 1 : Nat) : Int) rfl (by kernel_rfl) (by kernel_rfl) (.inl ⟨rfl, rfl⟩) (by rw [wrap64_in (by omega)]; try omega) _) ?_
                clear ha; intro a ha
                refine st_val (.int .i64 ((j + 1 : Nat) : Int)) ha (by kernel_rfl) (by kernel_rfl) ?_
                clear ha; intro a ha
                refine wpList_nil ?_
                refine then_normal ?_
                exact ⟨(j + 1, c19), (show (out (byHolder ((h : Nat) : Int)) l).length - (j + 1) < (out (byHolder ((h : Nat) : Int)) l).length - j by omega), (Has.cons ha (by kernel_rfl) (by kernel_rfl) (Has.cons ha (by kernel_rfl) (by kernel_rfl) (Has.cons ha (by kernel_rfl) (by kernel_rfl) (Has.cons ha (by kernel_rfl) (by kernel_rfl) (Has.cons ha (by kernel_rfl) (by kernel_rfl) (Has.cons ha (by kernel_rfl) (by kernel_rfl) (Has.nil ha))))))), s, (show j + 1 ≤ (out (byHolder ((h : Nat) : Int)) l).length by omega), told_step hc2 hx hm hc19m hc19o⟩
              · rw [hb] at ha; replace hb : ¬ (((j : Nat) : Int) < (((out (byHolder ((h : Nat) : Int)) l).length : Nat) : Int)) := of_decide_eq_false hb
                have hc2 := hp.2
                refine wp_exit ?_
                refine then_exit ?_
                refine then_exit ?_
                refine block_hit ?_
                refine block_normal ?_
                refine then_normal ?_
                refine wp_region_lit ?_
                refine st_val (.int .i64 ((h : Nat) : Int)) ha (by kernel_rfl) (by kernel_rfl) ?_
                clear ha; intro a ha
                refine st_val (.int .i64 ((h + 1 : Nat) : Int)) ha (by kernel_rfl) (run_arith (((h : Nat) : Int) + (1 : Int)) ((h + 1 : Nat) : Int) rfl (by kernel_rfl) (by kernel_rfl) (.inl ⟨rfl, rfl⟩) (by rw [wrap64_in (by omega)]; try omega) _) ?_
                clear ha; intro a ha
                refine st_val (.int .i64 ((h + 1 : Nat) : Int)) ha (by kernel_rfl) (by kernel_rfl) ?_
                clear ha; intro a ha
                refine wpList_nil ?_
                refine then_normal ?_
                replace s := s.at_ (j := 3) rfl
                replace s : St W (.blk g3 (arr c2) 54 :: Own 28 4 A16 ((out (byHolder ((h : Nat) : Int)) l).length) c17 (ws (out (byHolder ((h : Nat) : Int)) l)) :: Lob g1 (left (byHolder ((h : Nat) : Int)) l) :: .blk g2 (arr ci) 54 :: L) w := s
                replace s := s.at_ (j := 3) rfl
                replace s : St W (.blk g2 (arr ci) 54 :: .blk g3 (arr c2) 54 :: Own 28 4 A16 ((out (byHolder ((h : Nat) : Int)) l).length) c17 (ws (out (byHolder ((h : Nat) : Int)) l)) :: Lob g1 (left (byHolder ((h : Nat) : Int)) l) :: L) w := s
                replace s := s.at_ (j := 3) rfl
                replace s : St W (Lob g1 (left (byHolder ((h : Nat) : Int)) l) :: .blk g2 (arr ci) 54 :: .blk g3 (arr c2) 54 :: Own 28 4 A16 ((out (byHolder ((h : Nat) : Int)) l).length) c17 (ws (out (byHolder ((h : Nat) : Int)) l)) :: L) w := s
                replace s : St W (Lob g1 (left (byHolder ((h : Nat) : Int)) l) :: .blk g2 (arr ci) 54 :: .blk g3 (arr c2) 54 :: L) w := St.mid (A := [Lob g1 (left (byHolder ((h : Nat) : Int)) l), .blk g2 (arr ci) 54, .blk g3 (arr c2) 54]) (B := [Own 28 4 A16 ((out (byHolder ((h : Nat) : Int)) l).length) c17 (ws (out (byHolder ((h : Nat) : Int)) l))]) s
                exact ⟨(h + 1, left (byHolder ((h : Nat) : Int)) l, c2), (show 7 - (h + 1) < 7 - h by omega), (Has.cons ha (by kernel_rfl) (by kernel_rfl) (Has.cons ha (by kernel_rfl) (by kernel_rfl) (Has.cons ha (by kernel_rfl) (by kernel_rfl) (Has.cons ha (by kernel_rfl) (by kernel_rfl) (Has.nil ha))))), s, (show h + 1 ≤ 7 by omega), hpf.left _, hE.step (by rw [List.take_of_length_le (by omega)] at hc2; exact hc2)⟩
          · rw [hb] at ha; replace hb : ¬ (((h : Nat) : Int) < (7 : Int)) := of_decide_eq_false hb
            have hpf := hp.2.1
            have hE := hp.2.2
            obtain ⟨rfl, hcc⟩ := hE.none (by omega)
            subst hcc
            replace s : St W (Lob g1 [] :: .blk g2 (arr ci) 54 :: .blk g3 (arr ci) 54 :: L) w := s
            refine wp_exit ?_
            refine then_exit ?_
            refine then_exit ?_
            refine block_hit ?_
            refine then_normal ?_
            refine wp_seq ?_
            refine wp_region_lit ?_
            refine st_val (.pointer (some ⟨g1, 0, none⟩)) ha (by kernel_rfl) (by kernel_rfl) ?_
            clear ha; intro a ha
            refine st_call ha (by kernel_rfl) (by kernel_rfl) (len_is W _ w g1 [] 0 rfl hpf s) ?_
            rintro _ w ⟨rfl, s⟩
            replace s : St W (Lob g1 [] :: .blk g2 (arr ci) 54 :: .blk g3 (arr ci) 54 :: L) w := s
            refine ⟨_, rfl, ?_⟩; clear ha; intro a ha
            refine st_val (.bool true) ha (by kernel_rfl) (by kernel_rfl) ?_
            clear ha; intro a ha
            refine st_val (.bool true) ha (by kernel_rfl) (by kernel_rfl) ?_
            clear ha; intro a ha
            refine st_val (.agg (arr ci).toArray) ha (by kernel_rfl) (run_loadN (of_ := 0) (arr ci) (s.blkIs 1 rfl) rfl (by kernel_rfl) Try.isAgg54 Try.sizeOf54 (arr_all _) (by rw [arr_len]; omega)) ?_
            clear ha; intro a ha
            refine st_val (.agg (arr ci).toArray) ha (by kernel_rfl) (run_loadN (of_ := 0) (arr ci) (s.blkIs 2 rfl) rfl (by kernel_rfl) Try.isAgg54 Try.sizeOf54 (arr_all _) (by rw [arr_len]; omega)) ?_
            clear ha; intro a ha
            refine st_val (.bool true) ha (by kernel_rfl) (run_arr_eq ci rfl (by kernel_rfl) (by kernel_rfl) _) ?_
            clear ha; intro a ha
            refine st_val (.bool true) ha (by kernel_rfl) (by kernel_rfl) ?_
            clear ha; intro a ha
            refine st_val (.bool true) ha (by kernel_rfl) (by kernel_rfl) ?_
            clear ha; intro a ha
            refine wpList_nil ?_
            refine then_normal ?_
            refine wp_ret ?_
            refine ret_with (v := .bool true) ha (results_1 rfl ha (res_tmp (by kernel_rfl) (by kernel_rfl))) ?_
            replace s := s.tail.tail.tail
            replace s : St W (L) w := s
            exact ⟨rfl, s⟩
    · rw [hb] at ha; replace hb : ¬ (((k : Nat) : Int) < ((n : Nat) : Int)) := of_decide_eq_false hb
      have hpf := hp.2.1
      have hI := hp.2.2
      refine st_pass ha (by kernel_rfl) ?_
      clear ha; intro a ha
      refine st_pass ha (by kernel_rfl) ?_
      clear ha; intro a ha
      refine st_val (.bool false) ha (by kernel_rfl) (by kernel_rfl) ?_
      clear ha; intro a ha
      refine wpList_nil ?_
      refine then_normal ?_
      refine wp_false ha rfl (by kernel_rfl) ?_
      refine wp_exit ?_
      refine then_exit ?_
      refine then_exit ?_
      refine block_hit ?_
      refine then_normal ?_
      refine wp_seq ?_
      refine wp_seq ?_
      refine wp_region_lit ?_
      refine st_val (.int .i64 1) ha (by kernel_rfl) (by kernel_rfl) ?_
      clear ha; intro a ha
      refine wpList_nil ?_
      refine then_normal ?_
      refine wp_block ?_
      have hI3 := hI.last hp.1
      refine wp_loopG (G := (Nat × List Wt × (Nat → Int))) (fun ⟨h, l, cz⟩ a w => Has a 202 [(3, .pointer (some ⟨g1, 0, none⟩)), (4, .pointer (some ⟨g2, 0, none⟩)), (5, .pointer (some ⟨g3, 0, none⟩)), (15, .int .i64 ((h : Nat) : Int))] ∧ St W (Lob g1 l :: .blk g2 (arr ci) 54 :: .blk g3 (arr cz) 54 :: L) w ∧ (h ≤ 7 ∧ Fine l ∧ Ends h l ci cz)) (fun ⟨h, l, cz⟩ => 7 - h) (1, l, co) ?_ ?_
      · exact ⟨(Has.cons ha (by kernel_rfl) (by kernel_rfl) (Has.cons ha (by kernel_rfl) (by kernel_rfl) (Has.cons ha (by kernel_rfl) (by kernel_rfl) (Has.cons ha (by kernel_rfl) (by kernel_rfl) (Has.nil ha))))), s, ⟨by omega, hpf, hI3⟩⟩
      · clear ha s; rintro ⟨h, l, cz⟩ a w ⟨ha, s, hp⟩
        refine wp_seq ?_
        refine wp_seq ?_
        refine wp_region_lit ?_
        refine st_val (.int .i64 ((h : Nat) : Int)) ha (by kernel_rfl) (by kernel_rfl) ?_
        clear ha; intro a ha
        refine st_val (.bool (decide (((h : Nat) : Int) < (7 : Int)))) ha (by kernel_rfl) (by kernel_rfl) ?_
        clear ha; intro a ha
        refine wpList_nil ?_
        refine then_normal ?_
        refine wp_part (decide (((h : Nat) : Int) < (7 : Int))) ha rfl (by kernel_rfl) (fun hb => ?_) (fun hb => ?_)
        · rw [hb] at ha; replace hb : (((h : Nat) : Int) < (7 : Int)) := of_decide_eq_true hb
          have hpf := hp.2.1
          have hE := hp.2.2
          have hll := hpf.2
          refine wp_skip ?_
          refine then_normal ?_
          refine wp_seq ?_
          refine wp_block ?_
          refine wp_seq ?_
          refine wp_region_lit ?_
          refine st_val (.pointer (some ⟨g1, 0, none⟩)) ha (by kernel_rfl) (by kernel_rfl) ?_
          clear ha; intro a ha
          refine st_val (.int .i64 ((h : Nat) : Int)) ha (by kernel_rfl) (by kernel_rfl) ?_
          clear ha; intro a ha
          refine st_call ha (by kernel_rfl) (by kernel_rfl) (free_lob W _ w g1 l ((h : Nat) : Int) hpf s) ?_
          rintro _ w ⟨A20, c21, rfl, s⟩
          replace s : St W (Own 28 4 A20 ((out (byHolder ((h : Nat) : Int)) l).length) c21 (ws (out (byHolder ((h : Nat) : Int)) l)) :: Lob g1 (left (byHolder ((h : Nat) : Int)) l) :: .blk g2 (arr ci) 54 :: .blk g3 (arr cz) 54 :: L) w := s
          refine ⟨_, rfl, ?_⟩; clear ha; intro a ha
          refine st_val (.slice A20 ((out (byHolder ((h : Nat) : Int)) l).length) c21) ha (by kernel_rfl) (by kernel_rfl) ?_
          clear ha; intro a ha
          refine wpList_nil ?_
          refine then_normal ?_
          refine wp_seq ?_
          refine wp_region_lit ?_
          refine st_val (.int .i64 0) ha (by kernel_rfl) (by kernel_rfl) ?_
          clear ha; intro a ha
          refine wpList_nil ?_
          refine then_normal ?_
          refine wp_block ?_
          have hol : (out (byHolder ((h : Nat) : Int)) l).length ≤ 64 := Nat.le_trans (out_le _ _) hll
          refine wp_loopG (G := (Nat × (Nat → Int))) (fun ⟨j, c2⟩ a w => Has a 202 [(3, .pointer (some ⟨g1, 0, none⟩)), (4, .pointer (some ⟨g2, 0, none⟩)), (5, .pointer (some ⟨g3, 0, none⟩)), (15, .int .i64 ((h : Nat) : Int)), (16, .slice A20 ((out (byHolder ((h : Nat) : Int)) l).length) c21), (17, .int .i64 ((j : Nat) : Int))] ∧ St W (Own 28 4 A20 ((out (byHolder ((h : Nat) : Int)) l).length) c21 (ws (out (byHolder ((h : Nat) : Int)) l)) :: Lob g1 (left (byHolder ((h : Nat) : Int)) l) :: .blk g2 (arr ci) 54 :: .blk g3 (arr c2) 54 :: L) w ∧ (j ≤ (out (byHolder ((h : Nat) : Int)) l).length ∧ ∀ n, c2 n = cz n + cnt n ((out (byHolder ((h : Nat) : Int)) l).take j))) (fun ⟨j, c2⟩ => (out (byHolder ((h : Nat) : Int)) l).length - j) (0, cz) ?_ ?_
          · exact ⟨(Has.cons ha (by kernel_rfl) (by kernel_rfl) (Has.cons ha (by kernel_rfl) (by kernel_rfl) (Has.cons ha (by kernel_rfl) (by kernel_rfl) (Has.cons ha (by kernel_rfl) (by kernel_rfl) (Has.cons ha (by kernel_rfl) (by kernel_rfl) (Has.cons ha (by kernel_rfl) (by kernel_rfl) (Has.nil ha))))))), s, ⟨Nat.zero_le _, fun n => by simp [cnt]⟩⟩
          · clear ha s; rintro ⟨j, c2⟩ a w ⟨ha, s, hp⟩
            refine wp_seq ?_
            refine wp_seq ?_
            refine wp_region_lit ?_
            refine st_val (.int .i64 ((j : Nat) : Int)) ha (by kernel_rfl) (by kernel_rfl) ?_
            clear ha; intro a ha
            refine st_val (.slice A20 ((out (byHolder ((h : Nat) : Int)) l).length) c21) ha (by kernel_rfl) (by kernel_rfl) ?_
            clear ha; intro a ha
            refine st_val (.int .i64 (((out (byHolder ((h : Nat) : Int)) l).length : Nat) : Int)) ha (by kernel_rfl) (by kernel_rfl) ?_
            clear ha; intro a ha
            refine st_val (.bool (decide (((j : Nat) : Int) < (((out (byHolder ((h : Nat) : Int)) l).length : Nat) : Int)))) ha (by kernel_rfl) (by kernel_rfl) ?_
            clear ha; intro a ha
            refine wpList_nil ?_
            refine then_normal ?_
            refine wp_part (decide (((j : Nat) : Int) < (((out (byHolder ((h : Nat) : Int)) l).length : Nat) : Int))) ha rfl (by kernel_rfl) (fun hb => ?_) (fun hb => ?_)
            · rw [hb] at ha; replace hb : (((j : Nat) : Int) < (((out (byHolder ((h : Nat) : Int)) l).length : Nat) : Int)) := of_decide_eq_true hb
              have hc2 := hp.2
              obtain ⟨x, hx⟩ : ∃ x, (out (byHolder ((h : Nat) : Int)) l)[j]? = some x := ⟨_, List.getElem?_eq_getElem (by omega)⟩
              obtain ⟨ao22, hA⟩ := Own.addr (s.at_ (j := 0) rfl) (by omega)
              subst hA
              have hB := hE.bounds hx hc2
              obtain ⟨hB, hB2⟩ := hB
              obtain ⟨m, hm⟩ : ∃ m : Nat, x.num = (m : Int) := ⟨x.num.toNat, by omega⟩
              replace hB2 := hB2 m hm
              refine wp_skip ?_
              refine then_normal ?_
              refine wp_seq ?_
              refine wp_block ?_
              refine wp_seq ?_
              refine wp_seq ?_
              refine wp_region_lit ?_
              refine st_val (.slice (some ao22) ((out (byHolder ((h : Nat) : Int)) l).length) c21) ha (by kernel_rfl) (by kernel_rfl) ?_
              clear ha; intro a ha
              refine st_val (.int .i64 ((j : Nat) : Int)) ha (by kernel_rfl) (by kernel_rfl) ?_
              clear ha; intro a ha
              refine st_val (.pointer (some (ao22.add (j * 4)))) ha (by kernel_rfl) (run_indexAddr' (kd := .i64) (i := ((j : Nat) : Int)) (n := ((out (byHolder ((h : Nat) : Int)) l).length)) (c := c21) j rfl Try.underlying37 Try.sizeOf28 (by kernel_rfl) (by kernel_rfl) rfl (by first | assumption | omega) _) ?_
              clear ha; intro a ha
              refine st_val (.pointer (some (ao22.add (j * 4 + 0)))) ha (by kernel_rfl) (run_fieldAddr_at (i := j * 4) (off := 0) rfl Try.underlying28 rfl Try.sizeOf3 (by kernel_rfl) _) ?_
              clear ha; intro a ha
              refine st_val (.int .i64 x.num) ha (by kernel_rfl) (run_loadAt1 (i := j * 4 + 0) ((Own.reads (s.at_ (j := 0) rfl).1)) rfl (by kernel_rfl) Try.isAgg3 (by rw [ws_at hx (by omega)]; rfl)) ?_
              clear ha; intro a ha
              refine st_val (.bool false) ha (by kernel_rfl) (run_known (show (decide (x.num < (1 : Int))) = false from decide_eq_false (by omega)) (by kernel_rfl)) ?_
              clear ha; intro a ha
              refine st_val (.bool false) ha (by kernel_rfl) (by kernel_rfl) ?_
              clear ha; intro a ha
              refine st_val (.slice (some ao22) ((out (byHolder ((h : Nat) : Int)) l).length) c21) ha (by kernel_rfl) (by kernel_rfl) ?_
              clear ha; intro a ha
              refine st_val (.int .i64 ((j : Nat) : Int)) ha (by kernel_rfl) (by kernel_rfl) ?_
              clear ha; intro a ha
              refine st_val (.pointer (some (ao22.add (j * 4)))) ha (by kernel_rfl) (run_indexAddr' (kd := .i64) (i := ((j : Nat) : Int)) (n := ((out (byHolder ((h : Nat) : Int)) l).length)) (c := c21) j rfl Try.underlying37 Try.sizeOf28 (by kernel_rfl) (by kernel_rfl) rfl (by first | assumption | omega) _) ?_
              clear ha; intro a ha
              refine st_val (.pointer (some (ao22.add (j * 4 + 0)))) ha (by kernel_rfl) (run_fieldAddr_at (i := j * 4) (off := 0) rfl Try.underlying28 rfl Try.sizeOf3 (by kernel_rfl) _) ?_
              clear ha; intro a ha
              refine st_val (.int .i64 x.num) ha (by kernel_rfl) (run_loadAt1 (i := j * 4 + 0) ((Own.reads (s.at_ (j := 0) rfl).1)) rfl (by kernel_rfl) Try.isAgg3 (by rw [ws_at hx (by omega)]; rfl)) ?_
              clear ha; intro a ha
              refine st_val (.bool false) ha (by kernel_rfl) (run_known (show (decide (x.num > (90 : Int))) = false from decide_eq_false (by omega)) (by kernel_rfl)) ?_
              clear ha; intro a ha
              refine st_val (.bool false) ha (by kernel_rfl) (by kernel_rfl) ?_
              clear ha; intro a ha
              refine st_val (.bool false) ha (by kernel_rfl) (by kernel_rfl) ?_
              clear ha; intro a ha
              refine st_val (.slice (some ao22) ((out (byHolder ((h : Nat) : Int)) l).length) c21) ha (by kernel_rfl) (by kernel_rfl) ?_
              clear ha; intro a ha
              refine st_val (.int .i64 ((j : Nat) : Int)) ha (by kernel_rfl) (by kernel_rfl) ?_
              clear ha; intro a ha
              refine st_val (.pointer (some (ao22.add (j * 4)))) ha (by kernel_rfl) (run_indexAddr' (kd := .i64) (i := ((j : Nat) : Int)) (n := ((out (byHolder ((h : Nat) : Int)) l).length)) (c := c21) j rfl Try.underlying37 Try.sizeOf28 (by kernel_rfl) (by kernel_rfl) rfl (by first | assumption | omega) _) ?_
              clear ha; intro a ha
              refine st_val (.pointer (some (ao22.add (j * 4 + 3)))) ha (by kernel_rfl) (run_fieldAddr_at (i := j * 4) (off := 3) rfl Try.underlying28 rfl Try.sizeOf3 (by kernel_rfl) _) ?_
              clear ha; intro a ha
              refine st_val (.int .i64 x.holder) ha (by kernel_rfl) (run_loadAt1 (i := j * 4 + 3) ((Own.reads (s.at_ (j := 0) rfl).1)) rfl (by kernel_rfl) Try.isAgg3 (by rw [ws_at hx (by omega)]; rfl)) ?_
              clear ha; intro a ha
              refine st_val (.int .i64 ((h : Nat) : Int)) ha (by kernel_rfl) (by kernel_rfl) ?_
              clear ha; intro a ha
              refine st_val (.bool false) ha (by kernel_rfl) (run_known (show (x.holder != ((h : Nat) : Int)) = false from by rw [bne_eq_false_iff_eq]; omega) (by kernel_rfl)) ?_
              clear ha; intro a ha
              refine st_val (.bool false) ha (by kernel_rfl) (by kernel_rfl) ?_
              clear ha; intro a ha
              refine wpList_nil ?_
              refine then_normal ?_
              refine wp_false ha rfl (by kernel_rfl) ?_
              refine wp_skip ?_
              refine then_normal ?_
              refine wp_region_lit ?_
              refine st_val (.slice (some ao22) ((out (byHolder ((h : Nat) : Int)) l).length) c21) ha (by kernel_rfl) (by kernel_rfl) ?_
              clear ha; intro a ha
              refine st_val (.int .i64 ((j : Nat) : Int)) ha (by kernel_rfl) (by kernel_rfl) ?_
              clear ha; intro a ha
              refine st_val (.pointer (some (ao22.add (j * 4)))) ha (by kernel_rfl) (run_indexAddr' (kd := .i64) (i := ((j : Nat) : Int)) (n := ((out (byHolder ((h : Nat) : Int)) l).length)) (c := c21) j rfl Try.underlying37 Try.sizeOf28 (by kernel_rfl) (by kernel_rfl) rfl (by first | assumption | omega) _) ?_
              clear ha; intro a ha
              refine st_val (.pointer (some (ao22.add (j * 4 + 0)))) ha (by kernel_rfl) (run_fieldAddr_at (i := j * 4) (off := 0) rfl Try.underlying28 rfl Try.sizeOf3 (by kernel_rfl) _) ?_
              clear ha; intro a ha
              refine st_val (.int .i64 x.num) ha (by kernel_rfl) (run_loadAt1 (i := j * 4 + 0) ((Own.reads (s.at_ (j := 0) rfl).1)) rfl (by kernel_rfl) Try.isAgg3 (by rw [ws_at hx (by omega)]; rfl)) ?_
              clear ha; intro a ha
              refine st_val (.pointer (some ⟨g3, m, none⟩)) ha (by kernel_rfl) (run_indexArr (kd := .i64) (i := x.num) m rfl Try.underlying54 Try.sizeOf3 (by kernel_rfl) (by kernel_rfl) hm (by first | assumption | omega) _) ?_
              clear ha; intro a ha
              refine st_val (.int .i64 (c2 m)) ha (by kernel_rfl) (run_load1 (of_ := m) (s.blkIs 3 rfl) rfl (by kernel_rfl) Try.isAgg3 (arr_at (by omega))) ?_
              clear ha; intro a ha
              refine st_val (.int .i64 ((c2 m) + (1 : Int))) ha (by kernel_rfl) (run_arith ((c2 m) + (1 : Int)) ((c2 m) + (1 : Int)) rfl (by kernel_rfl) (by kernel_rfl) (.inl ⟨rfl, rfl⟩) (by rw [wrap64_in (by omega)]) _) ?_
              clear ha; intro a ha
              refine st_val (.pointer (some ⟨g3, m, none⟩)) ha (by kernel_rfl) (run_indexArr (kd := .i64) (i := x.num) m rfl Try.underlying54 Try.sizeOf3 (by kernel_rfl) (by kernel_rfl) hm (by first | assumption | omega) _) ?_
              clear ha; intro a ha
              refine st_exd ha (by kernel_rfl) (ex_store_to (of_ := m) 3 [.int .i64 ((c2 m) + (1 : Int))] s (arr_put _) rfl rfl (by kernel_rfl) (by kernel_rfl) (Try.sizeOf3 _) rfl (by simp [Value.oneCell']) (by rw [arr_len]; simp only [List.length_cons, List.length_nil]; omega)) ?_
              clear ha; rintro w a s ha
              replace s : St W (Own 28 4 (some ao22) ((out (byHolder ((h : Nat) : Int)) l).length) c21 (ws (out (byHolder ((h : Nat) : Int)) l)) :: Lob g1 (left (byHolder ((h : Nat) : Int)) l) :: .blk g2 (arr ci) 54 :: .blk g3 (arr (fun i_ => if i_ = m then ((c2 m) + (1 : Int)) else c2 i_)) 54 :: L) w := s
              obtain ⟨c23, hc23⟩ : ∃ c23 : Nat → Int, (fun i_ => if i_ = m then ((c2 m) + (1 : Int)) else c2 i_) = c23 := ⟨_, rfl⟩
              rw [hc23] at s
              have hc23m : c23 m = ((c2 m) + (1 : Int)) := by rw [← hc23]; simp only [if_true]
              have hc23o : ∀ i, i ≠ m → c23 i = c2 i := fun i h => by rw [← hc23]; simp only [if_neg h]
              replace s : St W (Own 28 4 (some ao22) ((out (byHolder ((h : Nat) : Int)) l).length) c21 (ws (out (byHolder ((h : Nat) : Int)) l)) :: Lob g1 (left (byHolder ((h : Nat) : Int)) l) :: .blk g2 (arr ci) 54 :: .blk g3 (arr c23) 54 :: L) w := s
              refine wpList_nil ?_
              refine block_normal ?_
              refine then_normal ?_
              refine wp_region_lit ?_
              refine st_val (.int .i64 ((j : Nat) : Int)) ha (by kernel_rfl) (by kernel_rfl) ?_
              clear ha; intro a ha
              refine st_val (.int .i64 ((j + 1 : Nat) : Int)) ha (by kernel_rfl) (run_arith (((j : Nat) : Int) + (1 : Int)) ((j + 1 : Nat) : Int) rfl (by kernel_rfl) (by kernel_rfl) (.inl ⟨rfl, rfl⟩) (by rw [wrap64_in (by omega)]; try omega) _) ?_
              clear ha; intro a ha
              refine st_val (.int .i64 ((j + 1 : Nat) : Int)) ha (by kernel_rfl) (by kernel_rfl) ?_
              clear ha; intro a ha
              refine wpList_nil ?_
              refine then_normal ?_
              exact ⟨(j + 1, c23), (show (out (byHolder ((h : Nat) : Int)) l).length - (j + 1) < (out (byHolder ((h : Nat) : Int)) l).length - j by omega), (Has.cons ha (by kernel_rfl) (by kernel_rfl) (Has.cons ha (by kernel_rfl) (by kernel_rfl) (Has.cons ha (by kernel_rfl) (by kernel_rfl) (Has.cons ha (by kernel_rfl) (by kernel_rfl) (Has.cons ha (by kernel_rfl) (by kernel_rfl) (Has.cons ha (by kernel_rfl) (by kernel_rfl) (Has.nil ha))))))), s, (show j + 1 ≤ (out (byHolder ((h : Nat) : Int)) l).length by omega), told_step hc2 hx hm hc23m hc23o⟩
            · rw [hb] at ha; replace hb : ¬ (((j : Nat) : Int) < (((out (byHolder ((h : Nat) : Int)) l).length : Nat) : Int)) := of_decide_eq_false hb
              have hc2 := hp.2
              refine wp_exit ?_
              refine then_exit ?_
              refine then_exit ?_
              refine block_hit ?_
              refine block_normal ?_
              refine then_normal ?_
              refine wp_region_lit ?_
              refine st_val (.int .i64 ((h : Nat) : Int)) ha (by kernel_rfl) (by kernel_rfl) ?_
              clear ha; intro a ha
              refine st_val (.int .i64 ((h + 1 : Nat) : Int)) ha (by kernel_rfl) (run_arith (((h : Nat) : Int) + (1 : Int)) ((h + 1 : Nat) : Int) rfl (by kernel_rfl) (by kernel_rfl) (.inl ⟨rfl, rfl⟩) (by rw [wrap64_in (by omega)]; try omega) _) ?_
              clear ha; intro a ha
              refine st_val (.int .i64 ((h + 1 : Nat) : Int)) ha (by kernel_rfl) (by kernel_rfl) ?_
              clear ha; intro a ha
              refine wpList_nil ?_
              refine then_normal ?_
              replace s := s.at_ (j := 3) rfl
              replace s : St W (.blk g3 (arr c2) 54 :: Own 28 4 A20 ((out (byHolder ((h : Nat) : Int)) l).length) c21 (ws (out (byHolder ((h : Nat) : Int)) l)) :: Lob g1 (left (byHolder ((h : Nat) : Int)) l) :: .blk g2 (arr ci) 54 :: L) w := s
              replace s := s.at_ (j := 3) rfl
              replace s : St W (.blk g2 (arr ci) 54 :: .blk g3 (arr c2) 54 :: Own 28 4 A20 ((out (byHolder ((h : Nat) : Int)) l).length) c21 (ws (out (byHolder ((h : Nat) : Int)) l)) :: Lob g1 (left (byHolder ((h : Nat) : Int)) l) :: L) w := s
              replace s := s.at_ (j := 3) rfl
              replace s : St W (Lob g1 (left (byHolder ((h : Nat) : Int)) l) :: .blk g2 (arr ci) 54 :: .blk g3 (arr c2) 54 :: Own 28 4 A20 ((out (byHolder ((h : Nat) : Int)) l).length) c21 (ws (out (byHolder ((h : Nat) : Int)) l)) :: L) w := s
              replace s : St W (Lob g1 (left (byHolder ((h : Nat) : Int)) l) :: .blk g2 (arr ci) 54 :: .blk g3 (arr c2) 54 :: L) w := St.mid (A := [Lob g1 (left (byHolder ((h : Nat) : Int)) l), .blk g2 (arr ci) 54, .blk g3 (arr c2) 54]) (B := [Own 28 4 A20 ((out (byHolder ((h : Nat) : Int)) l).length) c21 (ws (out (byHolder ((h : Nat) : Int)) l))]) s
              exact ⟨(h + 1, left (byHolder ((h : Nat) : Int)) l, c2), (show 7 - (h + 1) < 7 - h by omega), (Has.cons ha (by kernel_rfl) (by kernel_rfl) (Has.cons ha (by kernel_rfl) (by kernel_rfl) (Has.cons ha (by kernel_rfl) (by kernel_rfl) (Has.cons ha (by kernel_rfl) (by kernel_rfl) (Has.nil ha))))), s, (show h + 1 ≤ 7 by omega), hpf.left _, hE.step (by rw [List.take_of_length_le (by omega)] at hc2; exact hc2)⟩
        · rw [hb] at ha; replace hb : ¬ (((h : Nat) : Int) < (7 : Int)) := of_decide_eq_false hb
          have hpf := hp.2.1
          have hE := hp.2.2
          obtain ⟨rfl, hcc⟩ := hE.none (by omega)
          subst hcc
          replace s : St W (Lob g1 [] :: .blk g2 (arr ci) 54 :: .blk g3 (arr ci) 54 :: L) w := s
          refine wp_exit ?_
          refine then_exit ?_
          refine then_exit ?_
          refine block_hit ?_
          refine then_normal ?_
          refine wp_seq ?_
          refine wp_region_lit ?_
          refine st_val (.pointer (some ⟨g1, 0, none⟩)) ha (by kernel_rfl) (by kernel_rfl) ?_
          clear ha; intro a ha
          refine st_call ha (by kernel_rfl) (by kernel_rfl) (len_is W _ w g1 [] 0 rfl hpf s) ?_
          rintro _ w ⟨rfl, s⟩
          replace s : St W (Lob g1 [] :: .blk g2 (arr ci) 54 :: .blk g3 (arr ci) 54 :: L) w := s
          refine ⟨_, rfl, ?_⟩; clear ha; intro a ha
          refine st_val (.bool true) ha (by kernel_rfl) (by kernel_rfl) ?_
          clear ha; intro a ha
          refine st_val (.bool true) ha (by kernel_rfl) (by kernel_rfl) ?_
          clear ha; intro a ha
          refine st_val (.agg (arr ci).toArray) ha (by kernel_rfl) (run_loadN (of_ := 0) (arr ci) (s.blkIs 1 rfl) rfl (by kernel_rfl) Try.isAgg54 Try.sizeOf54 (arr_all _) (by rw [arr_len]; omega)) ?_
          clear ha; intro a ha
          refine st_val (.agg (arr ci).toArray) ha (by kernel_rfl) (run_loadN (of_ := 0) (arr ci) (s.blkIs 2 rfl) rfl (by kernel_rfl) Try.isAgg54 Try.sizeOf54 (arr_all _) (by rw [arr_len]; omega)) ?_
          clear ha; intro a ha
          refine st_val (.bool true) ha (by kernel_rfl) (run_arr_eq ci rfl (by kernel_rfl) (by kernel_rfl) _) ?_
          clear ha; intro a ha
          refine st_val (.bool true) ha (by kernel_rfl) (by kernel_rfl) ?_
          clear ha; intro a ha
          refine st_val (.bool true) ha (by kernel_rfl) (by kernel_rfl) ?_
          clear ha; intro a ha
          refine wpList_nil ?_
          refine then_normal ?_
          refine wp_ret ?_
          refine ret_with (v := .bool true) ha (results_1 rfl ha (res_tmp (by kernel_rfl) (by kernel_rfl))) ?_
          replace s := s.tail.tail.tail
          replace s : St W (L) w := s
          exact ⟨rfl, s⟩

end Go.Proofs.Ytlkoppmenpeepaa.B
