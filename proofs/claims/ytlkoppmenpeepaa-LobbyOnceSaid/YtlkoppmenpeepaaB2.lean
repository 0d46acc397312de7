import Derived.Test.YtlkoppmenpeepaaB1
namespace Go.Proofs.Ytlkoppmenpeepaa.B
open Go.RowKit Go.Maps Go.Sort Go.Shelf Go.Proofs.Ytlkoppmenpeepaa.Sep Go.Proofs.Ytlkoppmenpeepaa.P
set_option linter.unusedVariables false
set_option linter.unusedSimpArgs false
theorem oth_split {p : List Chunk} {q : Asrt} {L : List Chunk} {h : Hp} (hq : ∀ h, q h → SatH p h) (s : SatH (.oth q :: L) h) : SatH (p ++ L) h := by
  obtain ⟨h1, h2, a, s1, s2, x, y⟩ := s
  exact SatH.append_iff.2 ⟨h1, h2, a, s1, s2, hq _ x, y⟩
/-- What off's inner function keeps: the one that is asked, and the row of those that were wanted. -/
def Zoff (gw go gf : Nat) (bs : Array Value) (p : Wt → Bool) (Y : Chunk) (xs : List Wt) : Chunk := .oth fun h =>
  ∃ A c, SatH [.blk gw [.func (.func gf) #[] bs] 66, .blk go [.slice A (out p xs).length c] 37, Own 28 4 A (out p xs).length c (ws (out p xs)), Y] h
section
variable {W w : World} {L : List Chunk} {gw go gf : Nat} {bs : Array Value} {p : Wt → Bool} {Y : Chunk} {xs : List Wt}
theorem Zoff.open_ (s : St W (Zoff gw go gf bs p Y xs :: L) w) : ∃ A c, St W (.blk gw [.func (.func gf) #[] bs] 66 :: .blk go [.slice A (out p xs).length c] 37 :: Own 28 4 A (out p xs).length c (ws (out p xs)) :: Y :: L) w := by
  obtain ⟨⟨h1, h2, a, s1, s2, ⟨A, c, y⟩, z⟩, u⟩ := s
  exact ⟨A, c, SatH.append_iff.2 ⟨h1, h2, a, s1, s2, y, z⟩, u⟩
theorem Zoff.close {A : Option Addr} {n c : Nat} (hn : n = (out p xs).length) (s : St W (.blk gw [.func (.func gf) #[] bs] 66 :: .blk go [.slice A n c] 37 :: Own 28 4 A n c (ws (out p xs)) :: Y :: L) w) : St W (Zoff gw go gf bs p Y xs :: L) w := by
  subst hn
  obtain ⟨h1, h2, a, s1, s2, y, z⟩ := (SatH.append_iff (L := [_, _, _, _])).1 s.1
  exact ⟨⟨h1, h2, a, s1, s2, ⟨A, c, y⟩, z⟩, s.2⟩
end
theorem out_snoc (p : Wt → Bool) (xs : List Wt) (x : Wt) : out p (xs ++ [x]) = if p x then out p xs ++ [x] else out p xs := by
  unfold out; rw [List.filter_append]; cases h : p x <;> simp [h]
theorem out_le (p : Wt → Bool) (l : List Wt) : (out p l).length ≤ l.length := List.length_filter_le _ _

theorem off1_any (W : World) (L : List Chunk) (w : World) (x : Wt) (gw go : Nat) (gf : Nat) (bs : Array Value) (p : Wt → Bool) (Y : Chunk) (eg : ∀ args w, (callFunc gf args).run Try.prog w = .ok (.enter gf args) w) (hask : Asks gf bs p fun _ => Y) (xs : List Wt) (A : Option Addr) (c : Nat) (hx : xs.length ≤ 100) (s : St W (.blk gw [.func (.func gf) #[] bs] 66 :: .blk go [.slice A (out p xs).length c] 37 :: Own 28 4 A (out p xs).length c (ws (out p xs)) :: Y :: L) w) :
    Calls Try.prog 44 #[.agg #[.int .i64 x.num, .string (str x.key), .int .i64 x.waiter, .int .i64 x.holder], .pointer (some ⟨gw, 0, none⟩), .pointer (some ⟨go, 0, none⟩)] w fun e w' => ∃ A' c', e = .returned (.bool (p x)) ∧ St W (.blk gw [.func (.func gf) #[] bs] 66 :: .blk go [.slice A' (out p (xs ++ [x])).length c'] 37 :: Own 28 4 A' (out p (xs ++ [x])).length c' (ws (out p (xs ++ [x]))) :: Y :: L) w' := by
  have hol : (out p xs).length ≤ 100 := Nat.le_trans (out_le p xs) hx
  refine enter_args (l := [.agg #[.int .i64 x.num, .string (str x.key), .int .i64 x.waiter, .int .i64 x.holder], .pointer (some ⟨gw, 0, none⟩), .pointer (some ⟨go, 0, none⟩)]) Try.func44 rfl rfl (Nat.le_of_ble_eq_true rfl) ?_
  intro a ha; replace ha : Has a 15 [(0, .agg #[.int .i64 x.num, .string (str x.key), .int .i64 x.waiter, .int .i64 x.holder]), (1, .pointer (some ⟨gw, 0, none⟩)), (2, .pointer (some ⟨go, 0, none⟩))] := ha
  refine wp_seq ?_
  refine wp_region_lit ?_
  refine st_ex ha (by kernel_rfl) (ex_box [.int .i64 x.num, .string (str x.key), .int .i64 x.waiter, .int .i64 x.holder] s rfl (by kernel_rfl)) ?_
  clear ha; rintro _ w a ⟨g1, rfl, s⟩ ha
  replace s : St W (.blk g1 [.int .i64 x.num, .string (str x.key), .int .i64 x.waiter, .int .i64 x.holder] 28 :: .blk gw [.func (.func gf) #[] bs] 66 :: .blk go [.slice A ((out p xs).length) c] 37 :: Own 28 4 A ((out p xs).length) c (ws (out p xs)) :: Y :: L) w := s
  refine st_val (.bool false) ha (by kernel_rfl) (by kernel_rfl) ?_
  clear ha; intro a ha
  refine wpList_nil ?_
  refine then_normal ?_
  refine wp_seq ?_
  refine wp_region_lit ?_
  refine st_val (.func (.func gf) #[] bs) ha (by kernel_rfl) (run_load1 (of_ := 0) (s.blkIs 1 rfl) rfl (by kernel_rfl) Try.isAgg66 rfl) ?_
  clear ha; intro a ha
  refine st_val (.agg #[.int .i64 x.num, .string (str x.key), .int .i64 x.waiter, .int .i64 x.holder]) ha (by kernel_rfl) (run_loadN (of_ := 0) [.int .i64 x.num, .string (str x.key), .int .i64 x.waiter, .int .i64 x.holder] (s.blkIs 0 rfl) rfl (by kernel_rfl) Try.isAgg28 Try.sizeOf28 rfl (Nat.le_of_ble_eq_true rfl)) ?_
  clear ha; intro a ha
  replace s := s.at_ (j := 4) rfl
  replace s : St W (Y :: .blk g1 [.int .i64 x.num, .string (str x.key), .int .i64 x.waiter, .int .i64 x.holder] 28 :: .blk gw [.func (.func gf) #[] bs] 66 :: .blk go [.slice A ((out p xs).length) c] 37 :: Own 28 4 A ((out p xs).length) c (ws (out p xs)) :: L) w := s
  refine st_call ha (by kernel_rfl) (run_callv (bs := bs) rfl (by kernel_rfl) eg (by kernel_rfl)) (hask W _ w xs x hx s) ?_
  rintro _ w ⟨rfl, s⟩
  replace s : St W (Y :: .blk g1 [.int .i64 x.num, .string (str x.key), .int .i64 x.waiter, .int .i64 x.holder] 28 :: .blk gw [.func (.func gf) #[] bs] 66 :: .blk go [.slice A ((out p xs).length) c] 37 :: Own 28 4 A ((out p xs).length) c (ws (out p xs)) :: L) w := s
  refine ⟨_, rfl, ?_⟩; clear ha; intro a ha
  refine st_val (.bool (p x)) ha (by kernel_rfl) (by kernel_rfl) ?_
  clear ha; intro a ha
  refine wpList_nil ?_
  refine then_normal ?_
  refine wp_seq ?_
  refine wp_seq ?_
  refine wp_region_lit ?_
  refine st_val (.bool (p x)) ha (by kernel_rfl) (by kernel_rfl) ?_
  clear ha; intro a ha
  refine wpList_nil ?_
  refine then_normal ?_
  refine wp_part (p x) ha rfl (by kernel_rfl) (fun hb => ?_) (fun hb => ?_)
  · rw [hb] at ha; skip
    refine wp_region_lit ?_
    refine st_val (.slice A ((out p xs).length) c) ha (by kernel_rfl) (run_load1 (of_ := 0) (s.blkIs 3 rfl) rfl (by kernel_rfl) Try.isAgg37 rfl) ?_
    clear ha; intro a ha
    refine st_val (.agg #[.int .i64 x.num, .string (str x.key), .int .i64 x.waiter, .int .i64 x.holder]) ha (by kernel_rfl) (run_loadN (of_ := 0) [.int .i64 x.num, .string (str x.key), .int .i64 x.waiter, .int .i64 x.holder] (s.blkIs 1 rfl) rfl (by kernel_rfl) Try.isAgg28 Try.sizeOf28 rfl (Nat.le_of_ble_eq_true rfl)) ?_
    clear ha; intro a ha
    refine st_ex ha (by kernel_rfl) (ex_buildSlice elt37 _ zs37 [.int .i64 x.num, .string (str x.key), .int .i64 x.waiter, .int .i64 x.holder] s rfl (by kernel_rfl) (by decide)) ?_
    clear ha; rintro _ w a ⟨g2, rfl, s⟩ ha
    replace s : St W (.blk g2 [.int .i64 x.num, .string (str x.key), .int .i64 x.waiter, .int .i64 x.holder] 28 :: Y :: .blk g1 [.int .i64 x.num, .string (str x.key), .int .i64 x.waiter, .int .i64 x.holder] 28 :: .blk gw [.func (.func gf) #[] bs] 66 :: .blk go [.slice A ((out p xs).length) c] 37 :: Own 28 4 A ((out p xs).length) c (ws (out p xs)) :: L) w := s
    refine st_ex ha (by kernel_rfl) (ex_append (m := 1) (d' := 1) elt37 (by decide) 5 [.int .i64 x.num, .string (str x.key), .int .i64 x.waiter, .int .i64 x.holder] s rfl (by kernel_rfl) (by kernel_rfl) rfl (reads_blk (s.blkIs 0 rfl) rfl) (by simp [Value.oneCell']) (by simp only [maxLen]; omega) (by omega)) ?_
    clear ha; rintro _ w a ⟨A3, c4, rfl, hA_, s⟩ ha
    replace s : St W (.blk g2 [.int .i64 x.num, .string (str x.key), .int .i64 x.waiter, .int .i64 x.holder] 28 :: Y :: .blk g1 [.int .i64 x.num, .string (str x.key), .int .i64 x.waiter, .int .i64 x.holder] 28 :: .blk gw [.func (.func gf) #[] bs] 66 :: .blk go [.slice A ((out p xs).length) c] 37 :: Own 28 4 A3 ((out p xs).length + 1) c4 ((ws (out p xs)) ++ [.int .i64 x.num, .string (str x.key), .int .i64 x.waiter, .int .i64 x.holder]) :: L) w := s
    refine st_exd ha (by kernel_rfl) (ex_store (of_ := 0) 4 [.slice A3 ((out p xs).length + 1) c4] s rfl rfl (by kernel_rfl) (by kernel_rfl) (Try.sizeOf37 _) rfl (by simp [Value.oneCell']) (Nat.le_of_ble_eq_true rfl)) ?_
    clear ha; rintro w a s ha
    replace s : St W (.blk g2 [.int .i64 x.num, .string (str x.key), .int .i64 x.waiter, .int .i64 x.holder] 28 :: Y :: .blk g1 [.int .i64 x.num, .string (str x.key), .int .i64 x.waiter, .int .i64 x.holder] 28 :: .blk gw [.func (.func gf) #[] bs] 66 :: .blk go [.slice A3 ((out p xs).length + 1) c4] 37 :: Own 28 4 A3 ((out p xs).length + 1) c4 ((ws (out p xs)) ++ [.int .i64 x.num, .string (str x.key), .int .i64 x.waiter, .int .i64 x.holder]) :: L) w := s
    refine wpList_nil ?_
    refine then_normal ?_
    refine wp_seq ?_
    refine wp_region_lit ?_
    refine st_val (.bool true) ha (by kernel_rfl) (by kernel_rfl) ?_
    clear ha; intro a ha
    refine st_val (.bool true) ha (by kernel_rfl) (by kernel_rfl) ?_
    clear ha; intro a ha
    refine wpList_nil ?_
    refine then_normal ?_
    refine wp_ret ?_
    refine ret_with (v := .bool true) ha (results_1 rfl ha (res_tmp (by kernel_rfl) (by kernel_rfl))) ?_
    replace s := s.at_ (j := 1) rfl
    replace s : St W (Y :: .blk g2 [.int .i64 x.num, .string (str x.key), .int .i64 x.waiter, .int .i64 x.holder] 28 :: .blk g1 [.int .i64 x.num, .string (str x.key), .int .i64 x.waiter, .int .i64 x.holder] 28 :: .blk gw [.func (.func gf) #[] bs] 66 :: .blk go [.slice A3 ((out p xs).length + 1) c4] 37 :: Own 28 4 A3 ((out p xs).length + 1) c4 ((ws (out p xs)) ++ [.int .i64 x.num, .string (str x.key), .int .i64 x.waiter, .int .i64 x.holder]) :: L) w := s
    replace s := s.at_ (j := 5) rfl
    replace s : St W (Own 28 4 A3 ((out p xs).length + 1) c4 ((ws (out p xs)) ++ [.int .i64 x.num, .string (str x.key), .int .i64 x.waiter, .int .i64 x.holder]) :: Y :: .blk g2 [.int .i64 x.num, .string (str x.key), .int .i64 x.waiter, .int .i64 x.holder] 28 :: .blk g1 [.int .i64 x.num, .string (str x.key), .int .i64 x.waiter, .int .i64 x.holder] 28 :: .blk gw [.func (.func gf) #[] bs] 66 :: .blk go [.slice A3 ((out p xs).length + 1) c4] 37 :: L) w := s
    replace s := s.at_ (j := 5) rfl
    replace s : St W (.blk go [.slice A3 ((out p xs).length + 1) c4] 37 :: Own 28 4 A3 ((out p xs).length + 1) c4 ((ws (out p xs)) ++ [.int .i64 x.num, .string (str x.key), .int .i64 x.waiter, .int .i64 x.holder]) :: Y :: .blk g2 [.int .i64 x.num, .string (str x.key), .int .i64 x.waiter, .int .i64 x.holder] 28 :: .blk g1 [.int .i64 x.num, .string (str x.key), .int .i64 x.waiter, .int .i64 x.holder] 28 :: .blk gw [.func (.func gf) #[] bs] 66 :: L) w := s
    replace s := s.at_ (j := 5) rfl
    replace s : St W (.blk gw [.func (.func gf) #[] bs] 66 :: .blk go [.slice A3 ((out p xs).length + 1) c4] 37 :: Own 28 4 A3 ((out p xs).length + 1) c4 ((ws (out p xs)) ++ [.int .i64 x.num, .string (str x.key), .int .i64 x.waiter, .int .i64 x.holder]) :: Y :: .blk g2 [.int .i64 x.num, .string (str x.key), .int .i64 x.waiter, .int .i64 x.holder] 28 :: .blk g1 [.int .i64 x.num, .string (str x.key), .int .i64 x.waiter, .int .i64 x.holder] 28 :: L) w := s
    replace s : St W (.blk gw [.func (.func gf) #[] bs] 66 :: .blk go [.slice A3 ((out p xs).length + 1) c4] 37 :: Own 28 4 A3 ((out p xs).length + 1) c4 ((ws (out p xs)) ++ [.int .i64 x.num, .string (str x.key), .int .i64 x.waiter, .int .i64 x.holder]) :: Y :: L) w := St.mid (A := [.blk gw [.func (.func gf) #[] bs] 66, .blk go [.slice A3 ((out p xs).length + 1) c4] 37, Own 28 4 A3 ((out p xs).length + 1) c4 ((ws (out p xs)) ++ [.int .i64 x.num, .string (str x.key), .int .i64 x.waiter, .int .i64 x.holder]), Y]) (B := [.blk g2 [.int .i64 x.num, .string (str x.key), .int .i64 x.waiter, .int .i64 x.holder] 28, .blk g1 [.int .i64 x.num, .string (str x.key), .int .i64 x.waiter, .int .i64 x.holder] 28]) s
    exact ⟨A3, c4, congrArg _ (congrArg _ hb.symm), by rw [out_snoc, if_pos hb, List.length_append, ws_append]; exact s⟩
  · rw [hb] at ha; skip
    refine wp_skip ?_
    refine then_normal ?_
    refine wp_seq ?_
    refine wp_region_lit ?_
    refine st_val (.bool false) ha (by kernel_rfl) (by kernel_rfl) ?_
    clear ha; intro a ha
    refine st_val (.bool false) ha (by kernel_rfl) (by kernel_rfl) ?_
    clear ha; intro a ha
    refine wpList_nil ?_
    refine then_normal ?_
    refine wp_ret ?_
    refine ret_with (v := .bool false) ha (results_1 rfl ha (res_tmp (by kernel_rfl) (by kernel_rfl))) ?_
    replace s := s.at_ (j := 4) rfl
    replace s : St W (Own 28 4 A ((out p xs).length) c (ws (out p xs)) :: Y :: .blk g1 [.int .i64 x.num, .string (str x.key), .int .i64 x.waiter, .int .i64 x.holder] 28 :: .blk gw [.func (.func gf) #[] bs] 66 :: .blk go [.slice A ((out p xs).length) c] 37 :: L) w := s
    replace s := s.at_ (j := 4) rfl
    replace s : St W (.blk go [.slice A ((out p xs).length) c] 37 :: Own 28 4 A ((out p xs).length) c (ws (out p xs)) :: Y :: .blk g1 [.int .i64 x.num, .string (str x.key), .int .i64 x.waiter, .int .i64 x.holder] 28 :: .blk gw [.func (.func gf) #[] bs] 66 :: L) w := s
    replace s := s.at_ (j := 4) rfl
    replace s : St W (.blk gw [.func (.func gf) #[] bs] 66 :: .blk go [.slice A ((out p xs).length) c] 37 :: Own 28 4 A ((out p xs).length) c (ws (out p xs)) :: Y :: .blk g1 [.int .i64 x.num, .string (str x.key), .int .i64 x.waiter, .int .i64 x.holder] 28 :: L) w := s
    replace s : St W (.blk gw [.func (.func gf) #[] bs] 66 :: .blk go [.slice A ((out p xs).length) c] 37 :: Own 28 4 A ((out p xs).length) c (ws (out p xs)) :: Y :: L) w := St.mid (A := [.blk gw [.func (.func gf) #[] bs] 66, .blk go [.slice A ((out p xs).length) c] 37, Own 28 4 A ((out p xs).length) c (ws (out p xs)), Y]) (B := [.blk g1 [.int .i64 x.num, .string (str x.key), .int .i64 x.waiter, .int .i64 x.holder] 28]) s
    exact ⟨A, c, congrArg _ (congrArg _ hb.symm), by rw [out_snoc, if_neg (by rw [hb]; simp)]; exact s⟩

theorem asks44 (gw go : Nat) (gf : Nat) (bs : Array Value) (p : Wt → Bool) (Y : Chunk) (eg : ∀ args w, (callFunc gf args).run Try.prog w = .ok (.enter gf args) w) (hask : Asks gf bs p fun _ => Y) : Asks 44 #[.pointer (some ⟨gw, 0, none⟩), .pointer (some ⟨go, 0, none⟩)] p (Zoff gw go gf bs p Y) := fun V M w xs x hx s => by
  obtain ⟨A, c, s⟩ := Zoff.open_ s
  refine (off1_any V M w x gw go gf bs p Y eg hask xs A c hx s).mono ?_
  rintro e w' ⟨A', c', rfl, s⟩
  exact ⟨rfl, Zoff.close rfl s⟩

theorem off_any (W : World) (L : List Chunk) (w : World) (g : Nat) (A : Option Addr) (n c : Nat) (l : List Wt) (hl : l.length = n) (hn : n ≤ 100) (gf : Nat) (bs : Array Value) (p : Wt → Bool) (Y : Chunk) (eg : ∀ args w, (callFunc gf args).run Try.prog w = .ok (.enter gf args) w) (hask : Asks gf bs p fun _ => Y) (s : St W (.blk g [.bool true, .slice A n c] 62 :: Own 28 4 A n c (ws l) :: Y :: L) w) :
    Calls Try.prog 28 #[.pointer (some ⟨g, 0, none⟩), .func (.func gf) #[] bs] w fun e w' => ∃ A' c', e = .returned (.slice A' (out p l).length c') ∧ St W (Own 28 4 A' (out p l).length c' (ws (out p l)) :: .blk g [.bool true, .slice A (left p l).length c] 62 :: Own 28 4 A (left p l).length c (ws (left p l)) :: Y :: L) w' := by
  refine enter_args (l := [.pointer (some ⟨g, 0, none⟩), .func (.func gf) #[] bs]) Try.func28 rfl rfl (Nat.le_of_ble_eq_true rfl) ?_
  intro a ha; replace ha : Has a 18 [(0, .pointer (some ⟨g, 0, none⟩)), (1, .func (.func gf) #[] bs)] := ha
  refine wp_seq ?_
  refine wp_region_lit ?_
  refine st_ex ha (by kernel_rfl) (ex_box [.func (.func gf) #[] bs] s rfl (by kernel_rfl)) ?_
  clear ha; rintro _ w a ⟨g1, rfl, s⟩ ha
  replace s : St W (.blk g1 [.func (.func gf) #[] bs] 66 :: .blk g [.bool true, .slice A n c] 62 :: Own 28 4 A n c (ws l) :: Y :: L) w := s
  refine st_val (.slice none 0 0) ha (by kernel_rfl) (by kernel_rfl) ?_
  clear ha; intro a ha
  refine wpList_nil ?_
  refine then_normal ?_
  refine wp_seq ?_
  refine wp_seq ?_
  refine wp_region_lit ?_
  refine st_val (.pointer (some ⟨g, 0, none⟩)) ha (by kernel_rfl) (by kernel_rfl) ?_
  clear ha; intro a ha
  replace s := s.at_ (j := 1) rfl
  replace s : St W (.blk g [.bool true, .slice A n c] 62 :: .blk g1 [.func (.func gf) #[] bs] 66 :: Own 28 4 A n c (ws l) :: Y :: L) w := s
  refine st_call ha (by kernel_rfl) (by kernel_rfl) (none_any W _ w g true A n c s) ?_
  rintro _ w ⟨rfl, s⟩
  replace s : St W (.blk g [.bool true, .slice A n c] 62 :: .blk g1 [.func (.func gf) #[] bs] 66 :: Own 28 4 A n c (ws l) :: Y :: L) w := s
  refine ⟨_, rfl, ?_⟩; clear ha; intro a ha
  refine wpList_nil ?_
  refine then_normal ?_
  refine wp_false ha rfl (by kernel_rfl) ?_
  refine wp_skip ?_
  refine then_normal ?_
  refine wp_seq ?_
  refine wp_region_lit ?_
  refine st_ex ha (by kernel_rfl) (ex_alloc [.slice none 0 0] s rfl (Try.zeroValue37 _) (by kernel_rfl)) ?_
  clear ha; rintro _ w a ⟨g2, rfl, s⟩ ha
  replace s : St W (.blk g2 [.slice none 0 0] 37 :: .blk g [.bool true, .slice A n c] 62 :: .blk g1 [.func (.func gf) #[] bs] 66 :: Own 28 4 A n c (ws l) :: Y :: L) w := s
  refine wpList_nil ?_
  refine then_normal ?_
  refine wp_seq ?_
  refine wp_region_lit ?_
  refine st_val (.pointer (some ⟨g, 0, none⟩)) ha (by kernel_rfl) (by kernel_rfl) ?_
  clear ha; intro a ha
  refine st_val (.pointer (some ⟨g, 0, none⟩)) ha (by kernel_rfl) (by kernel_rfl) ?_
  clear ha; intro a ha
  refine st_val (.pointer (some ⟨g, 0, none⟩)) ha (by kernel_rfl) (by kernel_rfl) ?_
  clear ha; intro a ha
  refine st_val (.pointer (some ⟨g, 1, none⟩)) ha (by kernel_rfl) (by kernel_rfl) ?_
  clear ha; intro a ha
  refine st_val (.slice A n c) ha (by kernel_rfl) (run_load1 (of_ := 1) (s.blkIs 1 rfl) rfl (by kernel_rfl) Try.isAgg37 rfl) ?_
  clear ha; intro a ha
  refine st_val (.func (.func 44) #[] #[.pointer (some ⟨g1, 0, none⟩), .pointer (some ⟨g2, 0, none⟩)]) ha (by kernel_rfl) (by kernel_rfl) ?_
  clear ha; intro a ha
  replace s := Own.none_ (e := 28) (k := 4) none s
  replace s := s.at_ (j := 4) rfl
  replace s : St W (Own 28 4 A n c (ws l) :: Own 28 4 none 0 0 [] :: .blk g2 [.slice none 0 0] 37 :: .blk g [.bool true, .slice A n c] 62 :: .blk g1 [.func (.func gf) #[] bs] 66 :: Y :: L) w := s
  replace s := s.at_ (j := 5) rfl
  replace s : St W (Y :: Own 28 4 A n c (ws l) :: Own 28 4 none 0 0 [] :: .blk g2 [.slice none 0 0] 37 :: .blk g [.bool true, .slice A n c] 62 :: .blk g1 [.func (.func gf) #[] bs] 66 :: L) w := s
  replace s := s.at_ (j := 2) rfl
  replace s : St W (Own 28 4 none 0 0 [] :: Y :: Own 28 4 A n c (ws l) :: .blk g2 [.slice none 0 0] 37 :: .blk g [.bool true, .slice A n c] 62 :: .blk g1 [.func (.func gf) #[] bs] 66 :: L) w := s
  replace s := s.at_ (j := 3) rfl
  replace s : St W (.blk g2 [.slice none 0 0] 37 :: Own 28 4 none 0 0 [] :: Y :: Own 28 4 A n c (ws l) :: .blk g [.bool true, .slice A n c] 62 :: .blk g1 [.func (.func gf) #[] bs] 66 :: L) w := s
  replace s := s.at_ (j := 5) rfl
  replace s : St W (.blk g1 [.func (.func gf) #[] bs] 66 :: .blk g2 [.slice none 0 0] 37 :: Own 28 4 none 0 0 [] :: Y :: Own 28 4 A n c (ws l) :: .blk g [.bool true, .slice A n c] 62 :: L) w := s
  replace s := Zoff.close (gw := g1) (go := g2) (gf := gf) (bs := bs) (p := p) (Y := Y) (xs := []) rfl s
  replace s : St W (Zoff g1 g2 gf bs p Y [] :: Own 28 4 A n c (ws l) :: .blk g [.bool true, .slice A n c] 62 :: L) w := s
  refine st_call ha (by kernel_rfl) (by kernel_rfl) (delete_any W _ w A n c l hl hn 44 #[.pointer (some ⟨g1, 0, none⟩), .pointer (some ⟨g2, 0, none⟩)] p (Zoff g1 g2 gf bs p Y) enters44 (asks44 g1 g2 gf bs p Y eg hask) s) ?_
  rintro _ w ⟨rfl, s⟩
  replace s : St W (Zoff g1 g2 gf bs p Y l :: Own 28 4 A ((left p l).length) c (ws (left p l)) :: .blk g [.bool true, .slice A n c] 62 :: L) w := s
  obtain ⟨A3, c4, s⟩ := Zoff.open_ s
  replace s : St W (.blk g1 [.func (.func gf) #[] bs] 66 :: .blk g2 [.slice A3 ((out p l).length) c4] 37 :: Own 28 4 A3 ((out p l).length) c4 (ws (out p l)) :: Y :: Own 28 4 A ((left p l).length) c (ws (left p l)) :: .blk g [.bool true, .slice A n c] 62 :: L) w := s
  refine ⟨_, rfl, ?_⟩; clear ha; intro a ha
  refine st_val (.pointer (some ⟨g, 0, none⟩)) ha (by kernel_rfl) (by kernel_rfl) ?_
  clear ha; intro a ha
  refine st_val (.pointer (some ⟨g, 1, none⟩)) ha (by kernel_rfl) (by kernel_rfl) ?_
  clear ha; intro a ha
  refine st_exd ha (by kernel_rfl) (ex_store (of_ := 1) 5 [.slice A ((left p l).length) c] s rfl rfl (by kernel_rfl) (by kernel_rfl) (Try.sizeOf37 _) rfl (by simp [Value.oneCell']) (Nat.le_of_ble_eq_true rfl)) ?_
  clear ha; rintro w a s ha
  replace s : St W (.blk g1 [.func (.func gf) #[] bs] 66 :: .blk g2 [.slice A3 ((out p l).length) c4] 37 :: Own 28 4 A3 ((out p l).length) c4 (ws (out p l)) :: Y :: Own 28 4 A ((left p l).length) c (ws (left p l)) :: .blk g [.bool true, .slice A ((left p l).length) c] 62 :: L) w := s
  refine wpList_nil ?_
  refine then_normal ?_
  refine wp_seq ?_
  refine wp_region_lit ?_
  refine st_val (.slice A3 ((out p l).length) c4) ha (by kernel_rfl) (run_load1 (of_ := 0) (s.blkIs 1 rfl) rfl (by kernel_rfl) Try.isAgg37 rfl) ?_
  clear ha; intro a ha
  refine st_val (.slice A3 ((out p l).length) c4) ha (by kernel_rfl) (by kernel_rfl) ?_
  clear ha; intro a ha
  refine wpList_nil ?_
  refine then_normal ?_
  refine wp_ret ?_
  refine ret_with (v := .slice A3 ((out p l).length) c4) ha (results_1 rfl ha (res_tmp (by kernel_rfl) (by kernel_rfl))) ?_
  replace s := s.at_ (j := 3) rfl
  replace s : St W (Y :: .blk g1 [.func (.func gf) #[] bs] 66 :: .blk g2 [.slice A3 ((out p l).length) c4] 37 :: Own 28 4 A3 ((out p l).length) c4 (ws (out p l)) :: Own 28 4 A ((left p l).length) c (ws (left p l)) :: .blk g [.bool true, .slice A ((left p l).length) c] 62 :: L) w := s
  replace s := s.at_ (j := 4) rfl
  replace s : St W (Own 28 4 A ((left p l).length) c (ws (left p l)) :: Y :: .blk g1 [.func (.func gf) #[] bs] 66 :: .blk g2 [.slice A3 ((out p l).length) c4] 37 :: Own 28 4 A3 ((out p l).length) c4 (ws (out p l)) :: .blk g [.bool true, .slice A ((left p l).length) c] 62 :: L) w := s
  replace s := s.at_ (j := 5) rfl
  replace s : St W (.blk g [.bool true, .slice A ((left p l).length) c] 62 :: Own 28 4 A ((left p l).length) c (ws (left p l)) :: Y :: .blk g1 [.func (.func gf) #[] bs] 66 :: .blk g2 [.slice A3 ((out p l).length) c4] 37 :: Own 28 4 A3 ((out p l).length) c4 (ws (out p l)) :: L) w := s
  replace s := s.at_ (j := 5) rfl
  replace s : St W (Own 28 4 A3 ((out p l).length) c4 (ws (out p l)) :: .blk g [.bool true, .slice A ((left p l).length) c] 62 :: Own 28 4 A ((left p l).length) c (ws (left p l)) :: Y :: .blk g1 [.func (.func gf) #[] bs] 66 :: .blk g2 [.slice A3 ((out p l).length) c4] 37 :: L) w := s
  replace s : St W (Own 28 4 A3 ((out p l).length) c4 (ws (out p l)) :: .blk g [.bool true, .slice A ((left p l).length) c] 62 :: Own 28 4 A ((left p l).length) c (ws (left p l)) :: Y :: L) w := St.mid (A := [Own 28 4 A3 ((out p l).length) c4 (ws (out p l)), .blk g [.bool true, .slice A ((left p l).length) c] 62, Own 28 4 A ((left p l).length) c (ws (left p l)), Y]) (B := [.blk g1 [.func (.func gf) #[] bs] 66, .blk g2 [.slice A3 ((out p l).length) c4] 37]) s
  exact ⟨_, _, rfl, s⟩

end Go.Proofs.Ytlkoppmenpeepaa.B
