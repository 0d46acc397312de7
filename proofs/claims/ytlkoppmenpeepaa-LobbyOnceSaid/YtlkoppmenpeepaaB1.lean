import Derived.Test.YtlkoppmenpeepaaB0
namespace Go.Proofs.Ytlkoppmenpeepaa.B
open Go.RowKit Go.Maps Go.Sort Go.Shelf Go.Proofs.Ytlkoppmenpeepaa.Sep Go.Proofs.Ytlkoppmenpeepaa.P
set_option linter.unusedVariables false
set_option linter.unusedSimpArgs false
/-- Where the first one is that is wanted, and how many were asked. -/
def Found (p : Wt → Bool) (l : List Wt) (r : Int) (j : Nat) : Prop :=
  (∃ (k : Nat) (x : Wt), r = (k : Int) ∧ j = k + 1 ∧ l[k]? = some x ∧ p x = true ∧ ∀ y ∈ l.take k, p y = false) ∨ (r = -1 ∧ j = l.length ∧ ∀ y ∈ l, p y = false)
theorem Found.any {p : Wt → Bool} {l : List Wt} {r : Int} {j : Nat} (h : Found p l r j) : decide (r ≥ (0 : Int)) = l.any p := by
  rcases h with ⟨k, x, rfl, _, hx, hp, _⟩ | ⟨rfl, _, ha⟩
  · rw [decide_eq_true (by omega)]
    exact (List.any_eq_true.2 ⟨x, List.mem_of_getElem? hx, hp⟩).symm
  · rw [decide_eq_false (by omega)]
    symm
    rw [Bool.eq_false_iff]
    intro h
    obtain ⟨x, hx, hp⟩ := List.any_eq_true.1 h
    rw [ha x hx] at hp; cases hp
theorem mem_snoc {α : Type} {l : List α} {k : Nat} {x y : α} (h : l[k]? = some x) (hy : y ∈ l.take (k + 1)) : y ∈ l.take k ∨ y = x := by
  rw [take_snoc h] at hy
  rcases List.mem_append.1 hy with hy | hy
  · exact .inl hy
  · exact .inr (by simpa using hy)
theorem left_all {p : Wt → Bool} {l : List Wt} (h : ∀ y ∈ l, p y = false) : left p l = l := List.filter_eq_self.2 fun y hy => by rw [h y hy]; rfl
theorem left_snoc_no {p : Wt → Bool} {l : List Wt} {k : Nat} {x : Wt} (h : l[k]? = some x) (hp : p x = true) : left p (l.take (k + 1)) = left p (l.take k) := by
  rw [take_snoc h]; simp [left, hp]
theorem left_snoc_yes {p : Wt → Bool} {l : List Wt} {k : Nat} {x : Wt} (h : l[k]? = some x) (hp : p x = false) : left p (l.take (k + 1)) = left p (l.take k) ++ [x] := by
  rw [take_snoc h]; simp [left, hp]
theorem left_le (p : Wt → Bool) (l : List Wt) : (left p l).length ≤ l.length := List.length_filter_le _ _
theorem kept_at {a l : List Wt} {j : Nat} {x : Wt} (h : l[j]? = some x) (ha : a.length ≤ j) : (a ++ l.drop a.length)[j]? = some x := by
  rw [List.getElem?_append_right ha, List.getElem?_drop, ← h]; congr 1; omega
theorem putAt_ws (a b : List Wt) (x y : Wt) : putAt (ws (a ++ y :: b)) (a.length * 4) (wc x) = ws (a ++ x :: b) := by
  have e : ∀ z, ws (a ++ z :: b) = ws a ++ wc z ++ ws b := fun z => by simp [ws]
  have l1 : (ws a).length = a.length * 4 := ws_len a
  have l2 : ∀ z, (wc z).length = 4 := fun z => rfl
  have t1 : (ws a ++ wc y ++ ws b).take (ws a).length = ws a := by rw [List.append_assoc, List.take_left]
  have t2 : (ws a ++ wc y ++ ws b).drop ((ws a).length + 4) = ws b := by rw [show (ws a).length + 4 = (ws a ++ wc y).length by rw [List.length_append, l2], List.drop_left]
  rw [putAt_eq _ _ _ (by rw [e]; simp only [List.length_append, l1, l2]; omega), e, e, ← l1, t1, l2, t2]
theorem putAt_kept {a l : List Wt} {x : Wt} (h : a.length < l.length) : putAt (ws (a ++ l.drop a.length)) (a.length * 4) (wc x) = ws ((a ++ [x]) ++ l.drop (a.length + 1)) := by
  rw [List.drop_eq_getElem_cons h, putAt_ws]; simp
theorem take_ws (a b : List Wt) : (ws (a ++ b)).take (a.length * 4) = ws a := by
  rw [ws_append, ← ws_len a, List.take_left]

theorem index_any (W : World) (L : List Chunk) (w : World) (A : Option Addr) (n ca : Nat) (l : List Wt) (hr : Knows L fun w => Reads w 4 A n (ws l)) (hl : l.length = n) (hn : n ≤ 100) (gf : Nat) (bs : Array Value) (p : Wt → Bool) (Z : List Wt → Chunk) (eg : ∀ args w, (callFunc gf args).run Try.prog w = .ok (.enter gf args) w) (hask : Asks gf bs p Z) (s : St W (Z [] :: L) w) :
    Calls Try.prog 45 #[.slice A n ca, .func (.func gf) #[] bs] w fun e w' => ∃ r j, e = .returned (.int .i64 r) ∧ Found p l r j ∧ St W (Z (l.take j) :: L) w' := by
  refine enter_args (l := [.slice A n ca, .func (.func gf) #[] bs]) Try.func45 rfl rfl (Nat.le_of_ble_eq_true rfl) ?_
  intro a ha; replace ha : Has a 19 [(0, .slice A n ca), (1, .func (.func gf) #[] bs)] := ha
  refine wp_seq ?_
  refine wp_region_lit ?_
  refine st_val (.int .i64 0) ha (by kernel_rfl) (by kernel_rfl) ?_
  clear ha; intro a ha
  refine wpList_nil ?_
  refine then_normal ?_
  refine wp_seq ?_
  refine wp_seq ?_
  refine wp_region_lit ?_
  refine st_val (.slice A n ca) ha (by kernel_rfl) (by kernel_rfl) ?_
  clear ha; intro a ha
  refine st_val (.int .i64 ((n : Nat) : Int)) ha (by kernel_rfl) (by kernel_rfl) ?_
  clear ha; intro a ha
  refine st_val (.int .i64 0) ha (by kernel_rfl) (by kernel_rfl) ?_
  clear ha; intro a ha
  refine wpList_nil ?_
  refine then_normal ?_
  refine wp_block ?_
  refine wp_loopG (G := Nat) (fun k a w => Has a 19 [(0, .slice A n ca), (1, .func (.func gf) #[] bs), (7, .int .i64 ((n : Nat) : Int)), (8, .int .i64 ((k : Nat) : Int))] ∧ St W (Z (l.take k) :: L) w ∧ (k ≤ n ∧ ∀ y ∈ l.take k, p y = false)) (fun k => n - k) 0 ?_ ?_
  · exact ⟨(Has.cons ha (by kernel_rfl) (by kernel_rfl) (Has.cons ha (by kernel_rfl) (by kernel_rfl) (Has.cons ha (by kernel_rfl) (by kernel_rfl) (Has.cons ha (by kernel_rfl) (by kernel_rfl) (Has.nil ha))))), s, ⟨Nat.zero_le _, fun y hy => by simp at hy⟩⟩
  · clear ha s; rintro k a w ⟨ha, s, hp⟩
    refine wp_seq ?_
    refine wp_region_lit ?_
    refine st_val (.bool (decide (((k : Nat) : Int) < ((n : Nat) : Int)))) ha (by kernel_rfl) (by kernel_rfl) ?_
    clear ha; intro a ha
    refine wpList_nil ?_
    refine then_normal ?_
    refine wp_seq ?_
    refine wp_part (decide (((k : Nat) : Int) < ((n : Nat) : Int))) ha rfl (by kernel_rfl) (fun hb => ?_) (fun hb => ?_)
    · rw [hb] at ha; replace hb : (((k : Nat) : Int) < ((n : Nat) : Int)) := of_decide_eq_true hb
      obtain ⟨v, hv⟩ : ∃ v, l[k]? = some v := ⟨_, List.getElem?_eq_getElem (by omega)⟩
      obtain ⟨ad, hA⟩ := Reads.addr (hr _ s.sat.tail) (by omega)
      subst hA
      refine wp_skip ?_
      refine then_normal ?_
      refine wp_seq ?_
      refine wp_block ?_
      refine wp_seq ?_
      refine wp_region_lit ?_
      refine st_val (.int .i64 ((k : Nat) : Int)) ha (by kernel_rfl) (by kernel_rfl) ?_
      clear ha; intro a ha
      refine st_val (.int .i64 ((k : Nat) : Int)) ha (by kernel_rfl) (by kernel_rfl) ?_
      clear ha; intro a ha
      refine wpList_nil ?_
      refine then_normal ?_
      refine wp_seq ?_
      refine wp_region_lit ?_
      refine st_val (.func (.func gf) #[] bs) ha (by kernel_rfl) (by kernel_rfl) ?_
      clear ha; intro a ha
      refine st_val (.slice (some ad) n ca) ha (by kernel_rfl) (by kernel_rfl) ?_
      clear ha; intro a ha
      refine st_val (.int .i64 ((k : Nat) : Int)) ha (by kernel_rfl) (by kernel_rfl) ?_
      clear ha; intro a ha
      refine st_val (.pointer (some (ad.add (k * 4)))) ha (by kernel_rfl) (run_indexAddr' (kd := .i64) (i := ((k : Nat) : Int)) (n := n) (c := ca) k rfl Try.underlying37 Try.sizeOf28 (by kernel_rfl) (by kernel_rfl) rfl (by first | assumption | omega) _) ?_
      clear ha; intro a ha
      refine st_val (.agg #[.int .i64 v.num, .string (str v.key), .int .i64 v.waiter, .int .i64 v.holder]) ha (by kernel_rfl) (run_loadAtN (i := k * 4) [.int .i64 v.num, .string (str v.key), .int .i64 v.waiter, .int .i64 v.holder] ((hr _ s.sat.tail)) rfl (by kernel_rfl) Try.isAgg28 Try.sizeOf28 (fun q_ hq_ => ws_at hv hq_) rfl) ?_
      clear ha; intro a ha
      refine st_call ha (by kernel_rfl) (run_callv (bs := bs) rfl (by kernel_rfl) eg (by kernel_rfl)) (hask W _ w (l.take k) v (by rw [List.length_take]; omega) s) ?_
      rintro _ w ⟨rfl, s⟩
      replace s : St W (Z (l.take k ++ [v]) :: L) w := s
      refine ⟨_, rfl, ?_⟩; clear ha; intro a ha
      refine wpList_nil ?_
      refine then_normal ?_
      refine wp_part (p v) ha rfl (by kernel_rfl) (fun hb => ?_) (fun hb => ?_)
      · rw [hb] at ha; skip
        refine wp_seq ?_
        refine wp_region_lit ?_
        refine st_val (.int .i64 ((k : Nat) : Int)) ha (by kernel_rfl) (by kernel_rfl) ?_
        clear ha; intro a ha
        refine st_val (.int .i64 ((k : Nat) : Int)) ha (by kernel_rfl) (by kernel_rfl) ?_
        clear ha; intro a ha
        refine wpList_nil ?_
        refine then_normal ?_
        refine wp_ret ?_
        refine block_ret ?_
        refine then_ret ?_
        refine then_ret ?_
        refine block_ret ?_
        refine then_ret ?_
        refine ret_with (v := .int .i64 ((k : Nat) : Int)) ha (results_1 rfl ha (res_tmp (by kernel_rfl) (by kernel_rfl))) ?_
        rw [← take_snoc hv] at s
        exact ⟨_, k + 1, rfl, .inl ⟨k, v, rfl, rfl, hv, hb, hp.2⟩, s⟩
      · rw [hb] at ha; skip
        refine wp_skip ?_
        refine block_normal ?_
        refine then_normal ?_
        refine wp_region_lit ?_
        refine st_val (.int .i64 ((k + 1 : Nat) : Int)) ha (by kernel_rfl) (run_arith (((k : Nat) : Int) + (1 : Int)) ((k + 1 : Nat) : Int) rfl (by kernel_rfl) (by kernel_rfl) (.inl ⟨rfl, rfl⟩) (by rw [wrap64_in (by omega)]; try omega) _) ?_
        clear ha; intro a ha
        refine st_val (.int .i64 ((k + 1 : Nat) : Int)) ha (by kernel_rfl) (by kernel_rfl) ?_
        clear ha; intro a ha
        refine wpList_nil ?_
        refine then_normal ?_
        rw [← take_snoc hv] at s
        exact ⟨k + 1, by omega, (Has.cons ha (by kernel_rfl) (by kernel_rfl) (Has.cons ha (by kernel_rfl) (by kernel_rfl) (Has.cons ha (by kernel_rfl) (by kernel_rfl) (Has.cons ha (by kernel_rfl) (by kernel_rfl) (Has.nil ha))))), s, by omega, fun y hy => (mem_snoc hv hy).elim (hp.2 y) (fun e => e ▸ hb)⟩
    · rw [hb] at ha; replace hb : ¬ (((k : Nat) : Int) < ((n : Nat) : Int)) := of_decide_eq_false hb
      refine wp_exit ?_
      refine then_exit ?_
      refine then_exit ?_
      refine block_hit ?_
      refine then_normal ?_
      refine wp_seq ?_
      refine wp_region_lit ?_
      refine st_val (.int .i64 (-1)) ha (by kernel_rfl) (by kernel_rfl) ?_
      clear ha; intro a ha
      refine wpList_nil ?_
      refine then_normal ?_
      refine wp_ret ?_
      refine ret_with (v := .int .i64 (-1)) ha (results_1 rfl ha (res_tmp (by kernel_rfl) (by kernel_rfl))) ?_
      refine ⟨-1, k, rfl, .inr ⟨rfl, by omega, fun y hy => hp.2 y ?_⟩, s⟩
      rwa [List.take_of_length_le (by omega)]

theorem contains_any (W : World) (L : List Chunk) (w : World) (A : Option Addr) (n ca : Nat) (l : List Wt) (hr : Knows L fun w => Reads w 4 A n (ws l)) (hl : l.length = n) (hn : n ≤ 100) (gf : Nat) (bs : Array Value) (p : Wt → Bool) (Z : List Wt → Chunk) (eg : ∀ args w, (callFunc gf args).run Try.prog w = .ok (.enter gf args) w) (hask : Asks gf bs p Z) (s : St W (Z [] :: L) w) :
    Calls Try.prog 35 #[.slice A n ca, .func (.func gf) #[] bs] w fun e w' => ∃ j, e = .returned (.bool (l.any p)) ∧ St W (Z (l.take j) :: L) w' := by
  refine enter_args (l := [.slice A n ca, .func (.func gf) #[] bs]) Try.func35 rfl rfl (Nat.le_of_ble_eq_true rfl) ?_
  intro a ha; replace ha : Has a 9 [(0, .slice A n ca), (1, .func (.func gf) #[] bs)] := ha
  refine wp_seq ?_
  refine wp_region_lit ?_
  refine st_val (.bool false) ha (by kernel_rfl) (by kernel_rfl) ?_
  clear ha; intro a ha
  refine wpList_nil ?_
  refine then_normal ?_
  refine wp_seq ?_
  refine wp_region_lit ?_
  refine st_val (.slice A n ca) ha (by kernel_rfl) (by kernel_rfl) ?_
  clear ha; intro a ha
  refine st_val (.func (.func gf) #[] bs) ha (by kernel_rfl) (by kernel_rfl) ?_
  clear ha; intro a ha
  refine st_call ha (by kernel_rfl) (by kernel_rfl) (index_any W _ w A n ca l (fun w s => hr w s) hl hn gf bs p Z eg hask s) ?_
  rintro _ w ⟨r, j, rfl, hf, s⟩
  replace s : St W (Z (l.take j) :: L) w := s
  refine ⟨_, rfl, ?_⟩; clear ha; intro a ha
  refine st_val (.bool (decide (r ≥ (0 : Int)))) ha (by kernel_rfl) (by kernel_rfl) ?_
  clear ha; intro a ha
  refine st_val (.bool (decide (r ≥ (0 : Int)))) ha (by kernel_rfl) (by kernel_rfl) ?_
  clear ha; intro a ha
  refine wpList_nil ?_
  refine then_normal ?_
  refine wp_ret ?_
  refine ret_with (v := .bool (decide (r ≥ (0 : Int)))) ha (results_1 rfl ha (res_tmp (by kernel_rfl) (by kernel_rfl))) ?_
  exact ⟨j, by rw [hf.any], s⟩

theorem delete_any (W : World) (L : List Chunk) (w : World) (A : Option Addr) (n c : Nat) (l : List Wt) (hl : l.length = n) (hn : n ≤ 100) (gf : Nat) (bs : Array Value) (p : Wt → Bool) (Z : List Wt → Chunk) (eg : ∀ args w, (callFunc gf args).run Try.prog w = .ok (.enter gf args) w) (hask : Asks gf bs p Z) (s : St W (Z [] :: Own 28 4 A n c (ws l) :: L) w) :
    Calls Try.prog 43 #[.slice A n c, .func (.func gf) #[] bs] w fun e w' => e = .returned (.slice A (left p l).length c) ∧ St W (Z l :: Own 28 4 A (left p l).length c (ws (left p l)) :: L) w' := by
  refine enter_args (l := [.slice A n c, .func (.func gf) #[] bs]) Try.func43 rfl rfl (Nat.le_of_ble_eq_true rfl) ?_
  intro a ha; replace ha : Has a 42 [(0, .slice A n c), (1, .func (.func gf) #[] bs)] := ha
  refine wp_seq ?_
  refine wp_region_lit ?_
  refine st_val (.slice none 0 0) ha (by kernel_rfl) (by kernel_rfl) ?_
  clear ha; intro a ha
  refine wpList_nil ?_
  refine then_normal ?_
  refine wp_seq ?_
  refine wp_region_lit ?_
  refine st_val (.slice A n c) ha (by kernel_rfl) (by kernel_rfl) ?_
  clear ha; intro a ha
  refine st_val (.func (.func gf) #[] bs) ha (by kernel_rfl) (by kernel_rfl) ?_
  clear ha; intro a ha
  refine st_call ha (by kernel_rfl) (by kernel_rfl) (index_any W _ w A n c l (Knows.own (j := 0) rfl) hl hn gf bs p Z eg hask s) ?_
  rintro _ w ⟨r, j0, rfl, hf, s⟩
  replace s : St W (Z (l.take j0) :: Own 28 4 A n c (ws l) :: L) w := s
  refine ⟨_, rfl, ?_⟩; clear ha; intro a ha
  refine st_val (.int .i64 r) ha (by kernel_rfl) (by kernel_rfl) ?_
  clear ha; intro a ha
  refine wpList_nil ?_
  refine then_normal ?_
  refine wp_seq ?_
  refine wp_seq ?_
  refine wp_region_lit ?_
  refine st_val (.int .i64 r) ha (by kernel_rfl) (by kernel_rfl) ?_
  clear ha; intro a ha
  refine st_val (.bool (r == (-1 : Int))) ha (by kernel_rfl) (by kernel_rfl) ?_
  clear ha; intro a ha
  refine wpList_nil ?_
  refine then_normal ?_
  refine wp_part (r == (-1 : Int)) ha rfl (by kernel_rfl) (fun hb => ?_) (fun hb => ?_)
  · rw [hb] at ha; have hb_ := hb; replace hb := eq_of_beq hb
    have hall := (hf.resolve_left fun ⟨k, x, h, _⟩ => by omega)
    refine wp_seq ?_
    refine wp_region_lit ?_
    refine st_val (.slice A n c) ha (by kernel_rfl) (by kernel_rfl) ?_
    clear ha; intro a ha
    refine st_val (.slice A n c) ha (by kernel_rfl) (by kernel_rfl) ?_
    clear ha; intro a ha
    refine wpList_nil ?_
    refine then_normal ?_
    refine wp_ret ?_
    refine then_ret ?_
    refine ret_with (v := .slice A n c) ha (results_1 rfl ha (res_tmp (by kernel_rfl) (by kernel_rfl))) ?_
    obtain ⟨_, hj0, hall⟩ := hall
    rw [hj0, List.take_of_length_le (by omega)] at s
    rw [left_all hall]
    subst hl
    exact ⟨rfl, s⟩
  · rw [hb] at ha; have hb_ := hb; replace hb := ne_of_beq_false hb
    obtain ⟨k0, x0, hr0, hj0, hx0, hpx, hall⟩ := hf.resolve_right fun h => hb h.1
    subst hr0; subst hj0
    have hk0 : k0 < n := by have := (List.getElem?_eq_some_iff.1 hx0).1; omega
    obtain ⟨ad, hA⟩ := Own.addr (s.at_ (j := 1) rfl) (by omega)
    subst hA
    refine wp_skip ?_
    refine then_normal ?_
    refine wp_seq ?_
    refine wp_seq ?_
    refine wp_region_lit ?_
    refine st_val (.int .i64 ((k0 : Nat) : Int)) ha (by kernel_rfl) (by kernel_rfl) ?_
    clear ha; intro a ha
    refine st_val (.int .i64 ((k0 + 1 : Nat) : Int)) ha (by kernel_rfl) (run_arith (((k0 : Nat) : Int) + (1 : Int)) ((k0 + 1 : Nat) : Int) rfl (by kernel_rfl) (by kernel_rfl) (.inl ⟨rfl, rfl⟩) (by rw [wrap64_in (by omega)]; try omega) _) ?_
    clear ha; intro a ha
    refine st_val (.int .i64 ((k0 + 1 : Nat) : Int)) ha (by kernel_rfl) (by kernel_rfl) ?_
    clear ha; intro a ha
    refine wpList_nil ?_
    refine then_normal ?_
    refine wp_block ?_
    have hk1 : left p (l.take (k0 + 1)) = l.take k0 := by rw [left_snoc_no hx0 hpx, left_all hall]
    replace s : St W (Z (l.take (k0 + 1)) :: Own 28 4 (some ad) n c (ws (left p (l.take (k0 + 1)) ++ l.drop k0)) :: L) w := by rw [hk1, List.take_append_drop]; exact s
    refine wp_loopG (G := (Nat × Nat)) (fun ⟨i, j⟩ a w => Has a 42 [(0, .slice (some ad) n c), (1, .func (.func gf) #[] bs), (5, .int .i64 ((i : Nat) : Int)), (6, .int .i64 ((j : Nat) : Int))] ∧ St W (Z (l.take j) :: Own 28 4 (some ad) n c (ws (left p (l.take j) ++ l.drop i)) :: L) w ∧ (j ≤ n ∧ i = (left p (l.take j)).length)) (fun ⟨i, j⟩ => n - j) (k0, k0 + 1) ?_ ?_
    · exact ⟨(Has.cons ha (by kernel_rfl) (by kernel_rfl) (Has.cons ha (by kernel_rfl) (by kernel_rfl) (Has.cons ha (by kernel_rfl) (by kernel_rfl) (Has.cons ha (by kernel_rfl) (by kernel_rfl) (Has.nil ha))))), s, ⟨hk0, (show k0 = (left p (l.take (k0 + 1))).length by rw [hk1, List.length_take]; omega)⟩⟩
    · clear ha s; rintro ⟨i, j⟩ a w ⟨ha, s, hp⟩
      refine wp_seq ?_
      refine wp_seq ?_
      refine wp_region_lit ?_
      refine st_val (.int .i64 ((j : Nat) : Int)) ha (by kernel_rfl) (by kernel_rfl) ?_
      clear ha; intro a ha
      refine st_val (.slice (some ad) n c) ha (by kernel_rfl) (by kernel_rfl) ?_
      clear ha; intro a ha
      refine st_val (.int .i64 ((n : Nat) : Int)) ha (by kernel_rfl) (by kernel_rfl) ?_
      clear ha; intro a ha
      refine st_val (.bool (decide (((j : Nat) : Int) < ((n : Nat) : Int)))) ha (by kernel_rfl) (by kernel_rfl) ?_
      clear ha; intro a ha
      refine wpList_nil ?_
      refine then_normal ?_
      refine wp_part (decide (((j : Nat) : Int) < ((n : Nat) : Int))) ha rfl (by kernel_rfl) (fun hb => ?_) (fun hb => ?_)
      · rw [hb] at ha; replace hb : (((j : Nat) : Int) < ((n : Nat) : Int)) := of_decide_eq_true hb
        obtain ⟨v, hv⟩ : ∃ v, l[j]? = some v := ⟨_, List.getElem?_eq_getElem (by omega)⟩
        have hij : i ≤ j := by have := left_le p (l.take j); rw [List.length_take, ← hp.2] at this; omega
        refine wp_skip ?_
        refine then_normal ?_
        refine wp_seq ?_
        refine wp_block ?_
        refine wp_seq ?_
        refine wp_region_lit ?_
        refine st_val (.slice (some ad) n c) ha (by kernel_rfl) (by kernel_rfl) ?_
        clear ha; intro a ha
        refine st_val (.int .i64 ((j : Nat) : Int)) ha (by kernel_rfl) (by kernel_rfl) ?_
        clear ha; intro a ha
        refine st_val (.pointer (some (ad.add (j * 4)))) ha (by kernel_rfl) (run_indexAddr' (kd := .i64) (i := ((j : Nat) : Int)) (n := n) (c := c) j rfl Try.underlying37 Try.sizeOf28 (by kernel_rfl) (by kernel_rfl) rfl (by first | assumption | omega) _) ?_
        clear ha; intro a ha
        refine st_val (.agg #[.int .i64 v.num, .string (str v.key), .int .i64 v.waiter, .int .i64 v.holder]) ha (by kernel_rfl) (run_loadAtN (i := j * 4) [.int .i64 v.num, .string (str v.key), .int .i64 v.waiter, .int .i64 v.holder] ((Own.reads (s.at_ (j := 1) rfl).1)) rfl (by kernel_rfl) Try.isAgg28 Try.sizeOf28 (fun q_ hq_ => ws_at (show (left p (l.take j) ++ l.drop i)[j]? = some v from by rw [hp.2]; exact kept_at hv (by rw [← hp.2]; exact hij)) hq_) rfl) ?_
        clear ha; intro a ha
        refine st_ex ha (by kernel_rfl) (ex_alloc [.int .i64 0, .string (str []), .int .i64 0, .int .i64 0] s rfl (Try.zeroValue28 _) (by kernel_rfl)) ?_
        clear ha; rintro _ w a ⟨g1, rfl, s⟩ ha
        replace s : St W (.blk g1 [.int .i64 0, .string (str []), .int .i64 0, .int .i64 0] 28 :: Z (l.take j) :: Own 28 4 (some ad) n c (ws (left p (l.take j) ++ l.drop i)) :: L) w := s
        refine st_exd ha (by kernel_rfl) (ex_store (of_ := 0) 0 [.int .i64 v.num, .string (str v.key), .int .i64 v.waiter, .int .i64 v.holder] s rfl rfl (by kernel_rfl) (by kernel_rfl) (Try.sizeOf28 _) rfl (by simp [Value.oneCell']) (Nat.le_of_ble_eq_true rfl)) ?_
        clear ha; rintro w a s ha
        replace s : St W (.blk g1 [.int .i64 v.num, .string (str v.key), .int .i64 v.waiter, .int .i64 v.holder] 28 :: Z (l.take j) :: Own 28 4 (some ad) n c (ws (left p (l.take j) ++ l.drop i)) :: L) w := s
        refine wpList_nil ?_
        refine then_normal ?_
        refine wp_seq ?_
        refine wp_region_lit ?_
        refine st_val (.func (.func gf) #[] bs) ha (by kernel_rfl) (by kernel_rfl) ?_
        clear ha; intro a ha
        refine st_val (.agg #[.int .i64 v.num, .string (str v.key), .int .i64 v.waiter, .int .i64 v.holder]) ha (by kernel_rfl) (run_loadN (of_ := 0) [.int .i64 v.num, .string (str v.key), .int .i64 v.waiter, .int .i64 v.holder] (s.blkIs 0 rfl) rfl (by kernel_rfl) Try.isAgg28 Try.sizeOf28 rfl (Nat.le_of_ble_eq_true rfl)) ?_
        clear ha; intro a ha
        replace s := s.at_ (j := 1) rfl
        replace s : St W (Z (l.take j) :: .blk g1 [.int .i64 v.num, .string (str v.key), .int .i64 v.waiter, .int .i64 v.holder] 28 :: Own 28 4 (some ad) n c (ws (left p (l.take j) ++ l.drop i)) :: L) w := s
        refine st_call ha (by kernel_rfl) (run_callv (bs := bs) rfl (by kernel_rfl) eg (by kernel_rfl)) (hask W _ w (l.take j) v (by rw [List.length_take]; omega) s) ?_
        rintro _ w ⟨rfl, s⟩
        replace s : St W (Z (l.take j ++ [v]) :: .blk g1 [.int .i64 v.num, .string (str v.key), .int .i64 v.waiter, .int .i64 v.holder] 28 :: Own 28 4 (some ad) n c (ws (left p (l.take j) ++ l.drop i)) :: L) w := s
        refine ⟨_, rfl, ?_⟩; clear ha; intro a ha
        refine st_val (.bool (!(p v))) ha (by kernel_rfl) (by kernel_rfl) ?_
        clear ha; intro a ha
        refine wpList_nil ?_
        refine then_normal ?_
        refine wp_part (!(p v)) ha rfl (by kernel_rfl) (fun hb => ?_) (fun hb => ?_)
        · rw [hb] at ha; skip
          replace hb : p v = false := by simpa using hb
          refine wp_seq ?_
          refine wp_region_lit ?_
          refine st_val (.slice (some ad) n c) ha (by kernel_rfl) (by kernel_rfl) ?_
          clear ha; intro a ha
          refine st_val (.int .i64 ((i : Nat) : Int)) ha (by kernel_rfl) (by kernel_rfl) ?_
          clear ha; intro a ha
          refine st_val (.agg #[.int .i64 v.num, .string (str v.key), .int .i64 v.waiter, .int .i64 v.holder]) ha (by kernel_rfl) (run_loadN (of_ := 0) [.int .i64 v.num, .string (str v.key), .int .i64 v.waiter, .int .i64 v.holder] (s.blkIs 1 rfl) rfl (by kernel_rfl) Try.isAgg28 Try.sizeOf28 rfl (Nat.le_of_ble_eq_true rfl)) ?_
          clear ha; intro a ha
          refine st_val (.pointer (some (ad.add (i * 4)))) ha (by kernel_rfl) (run_indexAddr' (kd := .i64) (i := ((i : Nat) : Int)) (n := n) (c := c) i rfl Try.underlying37 Try.sizeOf28 (by kernel_rfl) (by kernel_rfl) rfl (by first | assumption | omega) _) ?_
          clear ha; intro a ha
          refine st_exd ha (by kernel_rfl) (ex_store_own (i := i * 4) 2 [.int .i64 v.num, .string (str v.key), .int .i64 v.waiter, .int .i64 v.holder] s (show putAt (ws (left p (l.take j) ++ l.drop i)) (i * 4) (wc v) = ws ((left p (l.take j) ++ [v]) ++ l.drop (i + 1)) from by rw [hp.2]; exact putAt_kept (by rw [← hp.2]; omega)) rfl rfl (by kernel_rfl) (by kernel_rfl) (Try.sizeOf28 _) rfl (by simp [Value.oneCell']) (by simp) (by rw [ws_len, List.length_append, List.length_drop, ← hp.2]; simp only [List.length_cons, List.length_nil]; omega)) ?_
          clear ha; rintro w a s ha
          replace s : St W (Z (l.take j ++ [v]) :: .blk g1 [.int .i64 v.num, .string (str v.key), .int .i64 v.waiter, .int .i64 v.holder] 28 :: Own 28 4 (some ad) n c (ws ((left p (l.take j) ++ [v]) ++ l.drop (i + 1))) :: L) w := s
          refine wpList_nil ?_
          refine then_normal ?_
          refine wp_region_lit ?_
          refine st_val (.int .i64 ((i : Nat) : Int)) ha (by kernel_rfl) (by kernel_rfl) ?_
          clear ha; intro a ha
          refine st_val (.int .i64 ((i + 1 : Nat) : Int)) ha (by kernel_rfl) (run_arith (((i : Nat) : Int) + (1 : Int)) ((i + 1 : Nat) : Int) rfl (by kernel_rfl) (by kernel_rfl) (.inl ⟨rfl, rfl⟩) (by rw [wrap64_in (by omega)]; try omega) _) ?_
          clear ha; intro a ha
          refine st_val (.int .i64 ((i + 1 : Nat) : Int)) ha (by kernel_rfl) (by kernel_rfl) ?_
          clear ha; intro a ha
          refine wpList_nil ?_
          refine block_normal ?_
          refine then_normal ?_
          refine wp_region_lit ?_
          refine st_val (.int .i64 ((j : Nat) : Int)) ha (by kernel_rfl) (by kernel_rfl) ?_
          clear ha; intro a ha
          refine st_val (.int .i64 ((j + 1 : Nat) : Int)) ha (by kernel_rfl) (run_arith (((j : Nat) : Int) + (1 : Int)) ((j + 1 : Nat) : Int) rfl (by kernel_rfl) (by kernel_rfl) (.inl ⟨rfl, rfl⟩) (by rw [wrap64_in (by omega)]; try omega) _) ?_
          clear ha; intro a ha
          refine st_val (.int .i64 ((j + 1 : Nat) : Int)) ha (by kernel_rfl) (by kernel_rfl) ?_
          clear ha; intro a ha
          refine wpList_nil ?_
          refine then_normal ?_
          replace s := s.at_ (j := 2) rfl
          replace s : St W (Own 28 4 (some ad) n c (ws ((left p (l.take j) ++ [v]) ++ l.drop (i + 1))) :: Z (l.take j ++ [v]) :: .blk g1 [.int .i64 v.num, .string (str v.key), .int .i64 v.waiter, .int .i64 v.holder] 28 :: L) w := s
          replace s := s.at_ (j := 1) rfl
          replace s : St W (Z (l.take j ++ [v]) :: Own 28 4 (some ad) n c (ws ((left p (l.take j) ++ [v]) ++ l.drop (i + 1))) :: .blk g1 [.int .i64 v.num, .string (str v.key), .int .i64 v.waiter, .int .i64 v.holder] 28 :: L) w := s
          replace s : St W (Z (l.take j ++ [v]) :: Own 28 4 (some ad) n c (ws ((left p (l.take j) ++ [v]) ++ l.drop (i + 1))) :: L) w := St.mid (A := [Z (l.take j ++ [v]), Own 28 4 (some ad) n c (ws ((left p (l.take j) ++ [v]) ++ l.drop (i + 1)))]) (B := [.blk g1 [.int .i64 v.num, .string (str v.key), .int .i64 v.waiter, .int .i64 v.holder] 28]) s
          rw [← take_snoc hv, ← left_snoc_yes hv hb] at s
          exact ⟨(i + 1, j + 1), (show n - (j + 1) < n - j by omega), (Has.cons ha (by kernel_rfl) (by kernel_rfl) (Has.cons ha (by kernel_rfl) (by kernel_rfl) (Has.cons ha (by kernel_rfl) (by kernel_rfl) (Has.cons ha (by kernel_rfl) (by kernel_rfl) (Has.nil ha))))), s, (show j + 1 ≤ n by omega), (show i + 1 = (left p (l.take (j + 1))).length by rw [left_snoc_yes hv hb, List.length_append, ← hp.2]; rfl)⟩
        · rw [hb] at ha; skip
          replace hb : p v = true := by simpa using hb
          refine wp_skip ?_
          refine block_normal ?_
          refine then_normal ?_
          refine wp_region_lit ?_
          refine st_val (.int .i64 ((j : Nat) : Int)) ha (by kernel_rfl) (by kernel_rfl) ?_
          clear ha; intro a ha
          refine st_val (.int .i64 ((j + 1 : Nat) : Int)) ha (by kernel_rfl) (run_arith (((j : Nat) : Int) + (1 : Int)) ((j + 1 : Nat) : Int) rfl (by kernel_rfl) (by kernel_rfl) (.inl ⟨rfl, rfl⟩) (by rw [wrap64_in (by omega)]; try omega) _) ?_
          clear ha; intro a ha
          refine st_val (.int .i64 ((j + 1 : Nat) : Int)) ha (by kernel_rfl) (by kernel_rfl) ?_
          clear ha; intro a ha
          refine wpList_nil ?_
          refine then_normal ?_
          replace s := s.at_ (j := 2) rfl
          replace s : St W (Own 28 4 (some ad) n c (ws (left p (l.take j) ++ l.drop i)) :: Z (l.take j ++ [v]) :: .blk g1 [.int .i64 v.num, .string (str v.key), .int .i64 v.waiter, .int .i64 v.holder] 28 :: L) w := s
          replace s := s.at_ (j := 1) rfl
          replace s : St W (Z (l.take j ++ [v]) :: Own 28 4 (some ad) n c (ws (left p (l.take j) ++ l.drop i)) :: .blk g1 [.int .i64 v.num, .string (str v.key), .int .i64 v.waiter, .int .i64 v.holder] 28 :: L) w := s
          replace s : St W (Z (l.take j ++ [v]) :: Own 28 4 (some ad) n c (ws (left p (l.take j) ++ l.drop i)) :: L) w := St.mid (A := [Z (l.take j ++ [v]), Own 28 4 (some ad) n c (ws (left p (l.take j) ++ l.drop i))]) (B := [.blk g1 [.int .i64 v.num, .string (str v.key), .int .i64 v.waiter, .int .i64 v.holder] 28]) s
          rw [← take_snoc hv, ← left_snoc_no hv hb] at s
          exact ⟨(i, j + 1), (show n - (j + 1) < n - j by omega), (Has.cons ha (by kernel_rfl) (by kernel_rfl) (Has.cons ha (by kernel_rfl) (by kernel_rfl) (Has.cons ha (by kernel_rfl) (by kernel_rfl) (Has.cons ha (by kernel_rfl) (by kernel_rfl) (Has.nil ha))))), s, (show j + 1 ≤ n by omega), (show i = (left p (l.take (j + 1))).length by rw [left_snoc_no hv hb, ← hp.2])⟩
      · rw [hb] at ha; replace hb : ¬ (((j : Nat) : Int) < ((n : Nat) : Int)) := of_decide_eq_false hb
        have hj : j = n := by omega
        have hpi := hp.2
        rw [hj, List.take_of_length_le (by omega)] at hpi
        rw [hj, List.take_of_length_le (by omega)] at s
        have hin : i ≤ n := by have := left_le p l; omega
        have hnc : n ≤ c := (Own.facts (s.at_ (j := 1) rfl).1).2.1
        replace s : St W (Z l :: Own 28 4 (some ad) n c (ws (left p l ++ l.drop i)) :: L) w := s
        refine wp_exit ?_
        refine then_exit ?_
        refine then_exit ?_
        refine block_hit ?_
        refine then_normal ?_
        refine wp_seq ?_
        refine wp_region_lit ?_
        refine st_val (.slice (some ad) n c) ha (by kernel_rfl) (by kernel_rfl) ?_
        clear ha; intro a ha
        refine st_val (.int .i64 ((i : Nat) : Int)) ha (by kernel_rfl) (by kernel_rfl) ?_
        clear ha; intro a ha
        refine st_val (.slice (slA (some ad) i c 4) (n - i) (c - i)) ha (by kernel_rfl) (run_slice (n := n) (c := c) i n c rfl Try.underlying37 Try.sizeOf28 (by kernel_rfl) (fun h => by cases h) bnd_none bnd_none (bnd_some .i64 (by kernel_rfl)) (by omega) (by omega) (by omega) _) ?_
        clear ha; intro a ha
        refine st_ex ha (by kernel_rfl) (ex_clear (i := i) elt37 1 s rfl rfl (by kernel_rfl) (by omega) Try.zeroValue28 rfl (by simp [Value.cells, Value.oneCell'])) ?_
        clear ha; rintro _ w a ⟨rfl, s⟩ ha
        replace s : St W (Z l :: Own 28 4 (some ad) i c ((ws (left p l ++ l.drop i)).take (i * 4)) :: L) w := s
        refine wpList_nil ?_
        refine then_normal ?_
        refine wp_seq ?_
        refine wp_region_lit ?_
        refine st_val (.slice (some ad) n c) ha (by kernel_rfl) (by kernel_rfl) ?_
        clear ha; intro a ha
        refine st_val (.int .i64 ((i : Nat) : Int)) ha (by kernel_rfl) (by kernel_rfl) ?_
        clear ha; intro a ha
        refine st_val (.slice (some ad) i c) ha (by kernel_rfl) (run_slice0 (n := n) (c := c) i c rfl Try.underlying37 Try.sizeOf28 (by kernel_rfl) (fun _ => rfl) bnd_none (bnd_some .i64 (by kernel_rfl)) bnd_none (by omega) (by omega) _) ?_
        clear ha; intro a ha
        refine st_val (.slice (some ad) i c) ha (by kernel_rfl) (by kernel_rfl) ?_
        clear ha; intro a ha
        refine wpList_nil ?_
        refine then_normal ?_
        refine wp_ret ?_
        refine ret_with (v := .slice (some ad) i c) ha (results_1 rfl ha (res_tmp (by kernel_rfl) (by kernel_rfl))) ?_
        subst hpi
        rw [take_ws] at s
        exact ⟨rfl, s⟩

end Go.Proofs.Ytlkoppmenpeepaa.B
