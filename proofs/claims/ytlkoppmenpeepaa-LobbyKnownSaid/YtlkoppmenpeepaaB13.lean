import Derived.Test.YtlkoppmenpeepaaB12
namespace Go.Proofs.Ytlkoppmenpeepaa.B
open Go.RowKit Go.Maps Go.Sort Go.Shelf Go.Proofs.Ytlkoppmenpeepaa.Sep Go.Proofs.Ytlkoppmenpeepaa.P
set_option linter.unusedVariables false
set_option linter.unusedSimpArgs false
def sq (i : Nat) : Wt := ⟨((i + 1 : Nat) : Int), [107], ((i + 101 : Nat) : Int), 1⟩
def seq (n : Nat) : List Wt := (List.range n).map sq
theorem seq_len (n : Nat) : (seq n).length = n := by simp [seq]
theorem seq_step (n : Nat) : seq (n + 1) = seq n ++ [sq n] := by unfold seq; rw [List.range_succ, List.map_append]; rfl
theorem seq_mem {n : Nat} {x : Wt} : x ∈ seq n ↔ ∃ i, i < n ∧ x = sq i := by simp [seq, List.mem_map, eq_comm]
theorem seq_ok {i : Nat} (h : i < 100) : okW (sq i) := ⟨isIdB_iff.2 (by simp only [sq]; omega), isIdB_iff.2 (by simp only [sq]; omega), isIdB_iff.2 (by simp only [sq]; omega), by simp only [sq]; omega⟩
theorem seq_fine {n : Nat} (h : n ≤ 64) : Fine (seq n) := ⟨fun x hx => by obtain ⟨i, hi, rfl⟩ := seq_mem.1 hx; exact seq_ok (by omega), by rw [seq_len]; exact h⟩
theorem seq_has {n : Nat} {x : Wt} (h : (n : Int) < x.num) : has x (seq n) = false := has_false fun y hy => by obtain ⟨i, hi, rfl⟩ := seq_mem.1 hy; simp only [sq]; omega
theorem seq_add {n : Nat} (h : n < 64) : addCode (sq n) (seq n) = 0 ∧ add (sq n) (seq n) = seq (n + 1) := by
  have := add_yes (seq_ok (show n < 100 by omega)) (seq_has (n := n) (by simp only [sq]; omega)) (by rw [seq_len]; exact h)
  exact ⟨this.1, by rw [this.2, seq_step]⟩
def w65 : Wt := ⟨65, [107], 1, 2⟩
def w64 : Wt := ⟨64, [107], 1, 2⟩
def wbig : Wt := ⟨9007199254740991, [], 9007199254740991, 2⟩
theorem add_65 : addCode w65 (seq 64) = 7 := by
  unfold addCode
  rw [if_neg (by decide), seq_has (by decide), if_neg (by decide), if_pos (by rw [seq_len]; omega)]
theorem add_64 : addCode w64 (seq 64) = 2 := by
  have h : has w64 (seq 64) = true := List.any_eq_true.2 ⟨sq 63, seq_mem.2 ⟨63, by omega, rfl⟩, by decide⟩
  unfold addCode
  rw [if_neg (by decide), if_pos h]
theorem add_no {x : Wt} {l : List Wt} {z : Int} (h : addCode x l = z) (hz : z ≠ 0) : add x l = l := by unfold add; rw [if_neg (by rw [h]; exact hz)]
theorem seq_63 : seq 64 = seq 63 ++ [sq 63] := seq_step 63
theorem out_none {p : Wt → Bool} {l : List Wt} (h : ∀ x ∈ l, p x = false) : out p l = [] ∧ left p l = l :=
  ⟨List.filter_eq_nil_iff.2 fun x hx => by rw [h x hx]; simp, left_all h⟩
theorem out_every {p : Wt → Bool} {l : List Wt} (h : ∀ x ∈ l, p x = true) : out p l = l ∧ left p l = [] :=
  ⟨List.filter_eq_self.2 h, List.filter_eq_nil_iff.2 fun x hx => by rw [h x hx]; simp⟩
theorem out_app (p : Wt → Bool) (l : List Wt) (x : Wt) : left p (l ++ [x]) = left p l ++ (if p x then [] else [x]) := by unfold left; rw [List.filter_append]; cases h : p x <;> simp [h]
theorem take_64 : out (byNum 64) (seq 64) = [sq 63] ∧ left (byNum 64) (seq 64) = seq 63 := by
  obtain ⟨h1, h2⟩ := out_none (p := byNum 64) (l := seq 63) fun x hx => by obtain ⟨i, hi, rfl⟩ := seq_mem.1 hx; unfold byNum sq; simp only; exact decide_eq_false (by omega)
  rw [seq_63, out_snoc, h1, out_app, h2]
  exact ⟨rfl, by rw [if_pos (show byNum 64 (sq 63) = true by decide)]; simp⟩
theorem add_big : addCode wbig (seq 63) = 0 ∧ add wbig (seq 63) = seq 63 ++ [wbig] := add_yes (by decide) (seq_has (by decide)) (by rw [seq_len]; omega)
theorem fine_big : Fine (seq 63 ++ [wbig]) := add_big.2 ▸ (seq_fine (by omega)).add wbig
theorem at_empty : out (byKey [] 2) (seq 63 ++ [wbig]) = [wbig] ∧ left (byKey [] 2) (seq 63 ++ [wbig]) = seq 63 := by
  obtain ⟨h1, h2⟩ := out_none (p := byKey [] 2) (l := seq 63) fun x hx => by obtain ⟨i, hi, rfl⟩ := seq_mem.1 hx; rfl
  rw [out_snoc, h1, out_app, h2]
  exact ⟨rfl, by rw [if_pos (show byKey [] 2 wbig = true by decide)]; simp⟩
theorem at_k : out (byKey [107] 2) (seq 63) = [] ∧ left (byKey [107] 2) (seq 63) = seq 63 := out_none fun x hx => by obtain ⟨i, hi, rfl⟩ := seq_mem.1 hx; rfl
theorem free_1 : out (byHolder 1) (seq 63) = seq 63 ∧ left (byHolder 1) (seq 63) = [] := out_every fun x hx => by obtain ⟨i, hi, rfl⟩ := seq_mem.1 hx; rfl

theorem off_nil (W : World) (L : List Chunk) (w : World) (gf : Nat) (bs : Array Value) (s : St W L w) :
    Calls Try.prog 28 #[.pointer none, .func (.func gf) #[] bs] w fun e w' => e = .returned (.slice none 0 0) ∧ St W L w' := by
  refine enter_args (l := [.pointer none, .func (.func gf) #[] bs]) Try.func28 rfl rfl (Nat.le_of_ble_eq_true rfl) ?_
  intro a ha; replace ha : Has a 18 [(0, .pointer none), (1, .func (.func gf) #[] bs)] := ha
  refine wp_seq ?_
  refine wp_region_lit ?_
  refine st_ex ha (by kernel_rfl) (ex_box [.func (.func gf) #[] bs] s rfl (by kernel_rfl)) ?_
  clear ha; rintro _ w a ⟨g1, rfl, s⟩ ha
  replace s : St W (.blk g1 [.func (.func gf) #[] bs] 66 :: L) w := s
  refine st_val (.slice none 0 0) ha (by kernel_rfl) (by kernel_rfl) ?_
  clear ha; intro a ha
  refine wpList_nil ?_
  refine then_normal ?_
  refine wp_seq ?_
  refine wp_seq ?_
  refine wp_region_lit ?_
  refine st_val (.pointer none) ha (by kernel_rfl) (by kernel_rfl) ?_
  clear ha; intro a ha
  refine st_call ha (by kernel_rfl) (by kernel_rfl) (none_nil W _ w s) ?_
  rintro _ w ⟨rfl, s⟩
  replace s : St W (.blk g1 [.func (.func gf) #[] bs] 66 :: L) w := s
  refine ⟨_, rfl, ?_⟩; clear ha; intro a ha
  refine wpList_nil ?_
  refine then_normal ?_
  refine wp_true ha rfl (by kernel_rfl) ?_
  refine wp_seq ?_
  refine wp_region_lit ?_
  refine st_val (.slice none 0 0) ha (by kernel_rfl) (by kernel_rfl) ?_
  clear ha; intro a ha
  refine wpList_nil ?_
  refine then_normal ?_
  refine wp_ret ?_
  refine then_ret ?_
  refine ret_with (v := .slice none 0 0) ha (results_1 rfl ha (res_tmp (by kernel_rfl) (by kernel_rfl))) ?_
  replace s := s.tail
  replace s : St W (L) w := s
  exact ⟨rfl, s⟩

theorem take_nil (W : World) (L : List Chunk) (w : World) (m : Int) (s : St W L w) :
    Calls Try.prog 11 #[.pointer none, .int .i64 m] w fun e w' => e = .returned (.tuple #[.agg #[.int .i64 0, .string (str []), .int .i64 0, .int .i64 0], .bool false]) ∧ St W L w' := by
  refine enter_args (l := [.pointer none, .int .i64 m]) Try.func11 rfl rfl (Nat.le_of_ble_eq_true rfl) ?_
  intro a ha; replace ha : Has a 17 [(0, .pointer none), (1, .int .i64 m)] := ha
  refine wp_seq ?_
  refine wp_region_lit ?_
  refine st_ex ha (by kernel_rfl) (ex_box [.int .i64 m] s rfl (by kernel_rfl)) ?_
  clear ha; rintro _ w a ⟨g1, rfl, s⟩ ha
  replace s : St W (.blk g1 [.int .i64 m] 3 :: L) w := s
  refine st_ex ha (by kernel_rfl) (ex_alloc [.int .i64 0, .string (str []), .int .i64 0, .int .i64 0] s rfl (Try.zeroValue28 _) (by kernel_rfl)) ?_
  clear ha; rintro _ w a ⟨g2, rfl, s⟩ ha
  replace s : St W (.blk g2 [.int .i64 0, .string (str []), .int .i64 0, .int .i64 0] 28 :: .blk g1 [.int .i64 m] 3 :: L) w := s
  refine st_val (.bool false) ha (by kernel_rfl) (by kernel_rfl) ?_
  clear ha; intro a ha
  refine wpList_nil ?_
  refine then_normal ?_
  refine wp_seq ?_
  refine wp_region_lit ?_
  refine st_val (.pointer none) ha (by kernel_rfl) (by kernel_rfl) ?_
  clear ha; intro a ha
  refine st_val (.func (.func 29) #[] #[.pointer (some ⟨g1, 0, none⟩)]) ha (by kernel_rfl) (by kernel_rfl) ?_
  clear ha; intro a ha
  refine st_call ha (by kernel_rfl) (by kernel_rfl) (off_nil W _ w 29 #[.pointer (some ⟨g1, 0, none⟩)] s) ?_
  rintro _ w ⟨rfl, s⟩
  replace s : St W (.blk g2 [.int .i64 0, .string (str []), .int .i64 0, .int .i64 0] 28 :: .blk g1 [.int .i64 m] 3 :: L) w := s
  refine ⟨_, rfl, ?_⟩; clear ha; intro a ha
  refine st_val (.slice none 0 0) ha (by kernel_rfl) (by kernel_rfl) ?_
  clear ha; intro a ha
  refine wpList_nil ?_
  refine then_normal ?_
  refine wp_seq ?_
  refine wp_seq ?_
  refine wp_region_lit ?_
  refine st_val (.slice none 0 0) ha (by kernel_rfl) (by kernel_rfl) ?_
  clear ha; intro a ha
  refine st_val (.int .i64 0) ha (by kernel_rfl) (by kernel_rfl) ?_
  clear ha; intro a ha
  refine st_val (.bool true) ha (by kernel_rfl) (by kernel_rfl) ?_
  clear ha; intro a ha
  refine wpList_nil ?_
  refine then_normal ?_
  refine wp_true ha rfl (by kernel_rfl) ?_
  refine wp_seq ?_
  refine wp_region_lit ?_
  refine st_val (.agg #[.int .i64 0, .string (str []), .int .i64 0, .int .i64 0]) ha (by kernel_rfl) (by kernel_rfl) ?_
  clear ha; intro a ha
  refine st_exd ha (by kernel_rfl) (ex_store (of_ := 0) 0 [.int .i64 0, .string (str []), .int .i64 0, .int .i64 0] s rfl rfl (by kernel_rfl) (by kernel_rfl) (Try.sizeOf28 _) rfl (by simp [Value.oneCell']) (Nat.le_of_ble_eq_true rfl)) ?_
  clear ha; rintro w a s ha
  replace s : St W (.blk g2 [.int .i64 0, .string (str []), .int .i64 0, .int .i64 0] 28 :: .blk g1 [.int .i64 m] 3 :: L) w := s
  refine st_val (.bool false) ha (by kernel_rfl) (by kernel_rfl) ?_
  clear ha; intro a ha
  refine wpList_nil ?_
  refine then_normal ?_
  refine wp_ret ?_
  refine then_ret ?_
  refine ret_with (v := .tuple #[.agg #[.int .i64 0, .string (str []), .int .i64 0, .int .i64 0], .bool false]) ha (results_2 rfl ha (res_cellN (s.blkIs 0 rfl) (by kernel_rfl) (by kernel_rfl) Try.isAgg28 Try.sizeOf28 rfl) (res_tmp (by kernel_rfl) (by kernel_rfl))) ?_
  replace s := s.tail.tail
  replace s : St W (L) w := s
  exact ⟨rfl, s⟩

theorem free_nil (W : World) (L : List Chunk) (w : World) (m : Int) (s : St W L w) :
    Calls Try.prog 16 #[.pointer none, .int .i64 m] w fun e w' => e = .returned (.slice none 0 0) ∧ St W L w' := by
  refine enter_args (l := [.pointer none, .int .i64 m]) Try.func16 rfl rfl (Nat.le_of_ble_eq_true rfl) ?_
  intro a ha; replace ha : Has a 8 [(0, .pointer none), (1, .int .i64 m)] := ha
  refine wp_seq ?_
  refine wp_region_lit ?_
  refine st_ex ha (by kernel_rfl) (ex_box [.int .i64 m] s rfl (by kernel_rfl)) ?_
  clear ha; rintro _ w a ⟨g1, rfl, s⟩ ha
  replace s : St W (.blk g1 [.int .i64 m] 3 :: L) w := s
  refine st_val (.slice none 0 0) ha (by kernel_rfl) (by kernel_rfl) ?_
  clear ha; intro a ha
  refine wpList_nil ?_
  refine then_normal ?_
  refine wp_seq ?_
  refine wp_region_lit ?_
  refine st_val (.pointer none) ha (by kernel_rfl) (by kernel_rfl) ?_
  clear ha; intro a ha
  refine st_val (.func (.func 32) #[] #[.pointer (some ⟨g1, 0, none⟩)]) ha (by kernel_rfl) (by kernel_rfl) ?_
  clear ha; intro a ha
  refine st_call ha (by kernel_rfl) (by kernel_rfl) (off_nil W _ w 32 #[.pointer (some ⟨g1, 0, none⟩)] s) ?_
  rintro _ w ⟨rfl, s⟩
  replace s : St W (.blk g1 [.int .i64 m] 3 :: L) w := s
  refine ⟨_, rfl, ?_⟩; clear ha; intro a ha
  refine st_val (.slice none 0 0) ha (by kernel_rfl) (by kernel_rfl) ?_
  clear ha; intro a ha
  refine wpList_nil ?_
  refine then_normal ?_
  refine wp_ret ?_
  refine ret_with (v := .slice none 0 0) ha (results_1 rfl ha (res_tmp (by kernel_rfl) (by kernel_rfl))) ?_
  replace s := s.tail
  replace s : St W (L) w := s
  exact ⟨rfl, s⟩

theorem at_nil (W : World) (L : List Chunk) (w : World) (k : List UInt8) (m : Int) (s : St W L w) :
    Calls Try.prog 13 #[.pointer none, .string (str k), .int .i64 m] w fun e w' => e = .returned (.slice none 0 0) ∧ St W L w' := by
  refine enter_args (l := [.pointer none, .string (str k), .int .i64 m]) Try.func13 rfl rfl (Nat.le_of_ble_eq_true rfl) ?_
  intro a ha; replace ha : Has a 10 [(0, .pointer none), (1, .string (str k)), (2, .int .i64 m)] := ha
  refine wp_seq ?_
  refine wp_region_lit ?_
  refine st_ex ha (by kernel_rfl) (ex_box [.string (str k)] s rfl (by kernel_rfl)) ?_
  clear ha; rintro _ w a ⟨g1, rfl, s⟩ ha
  replace s : St W (.blk g1 [.string (str k)] 9 :: L) w := s
  refine st_ex ha (by kernel_rfl) (ex_box [.int .i64 m] s rfl (by kernel_rfl)) ?_
  clear ha; rintro _ w a ⟨g2, rfl, s⟩ ha
  replace s : St W (.blk g2 [.int .i64 m] 3 :: .blk g1 [.string (str k)] 9 :: L) w := s
  refine st_val (.slice none 0 0) ha (by kernel_rfl) (by kernel_rfl) ?_
  clear ha; intro a ha
  refine wpList_nil ?_
  refine then_normal ?_
  refine wp_seq ?_
  refine wp_region_lit ?_
  refine st_val (.pointer none) ha (by kernel_rfl) (by kernel_rfl) ?_
  clear ha; intro a ha
  refine st_val (.func (.func 31) #[] #[.pointer (some ⟨g2, 0, none⟩), .pointer (some ⟨g1, 0, none⟩)]) ha (by kernel_rfl) (by kernel_rfl) ?_
  clear ha; intro a ha
  refine st_call ha (by kernel_rfl) (by kernel_rfl) (off_nil W _ w 31 #[.pointer (some ⟨g2, 0, none⟩), .pointer (some ⟨g1, 0, none⟩)] s) ?_
  rintro _ w ⟨rfl, s⟩
  replace s : St W (.blk g2 [.int .i64 m] 3 :: .blk g1 [.string (str k)] 9 :: L) w := s
  refine ⟨_, rfl, ?_⟩; clear ha; intro a ha
  refine st_val (.slice none 0 0) ha (by kernel_rfl) (by kernel_rfl) ?_
  clear ha; intro a ha
  refine wpList_nil ?_
  refine then_normal ?_
  refine wp_ret ?_
  refine ret_with (v := .slice none 0 0) ha (results_1 rfl ha (res_tmp (by kernel_rfl) (by kernel_rfl))) ?_
  replace s := s.tail.tail
  replace s : St W (L) w := s
  exact ⟨rfl, s⟩

theorem edges_nil (W : World) (L : List Chunk) (w : World) (s : St W L w) :
    Calls Try.prog 20 #[.pointer none] w fun e w' => e = .returned (.slice none 0 0) ∧ St W L w' := by
  refine enter_args (l := [.pointer none]) Try.func20 rfl rfl (Nat.le_of_ble_eq_true rfl) ?_
  intro a ha; replace ha : Has a 28 [(0, .pointer none)] := ha
  refine wp_seq ?_
  refine wp_region_lit ?_
  refine st_val (.slice none 0 0) ha (by kernel_rfl) (by kernel_rfl) ?_
  clear ha; intro a ha
  refine wpList_nil ?_
  refine then_normal ?_
  refine wp_seq ?_
  refine wp_seq ?_
  refine wp_region_lit ?_
  refine st_val (.pointer none) ha (by kernel_rfl) (by kernel_rfl) ?_
  clear ha; intro a ha
  refine st_call ha (by kernel_rfl) (by kernel_rfl) (none_nil W _ w s) ?_
  rintro _ w ⟨rfl, s⟩
  replace s : St W (L) w := s
  refine ⟨_, rfl, ?_⟩; clear ha; intro a ha
  refine wpList_nil ?_
  refine then_normal ?_
  refine wp_true ha rfl (by kernel_rfl) ?_
  refine wp_seq ?_
  refine wp_region_lit ?_
  refine st_val (.slice none 0 0) ha (by kernel_rfl) (by kernel_rfl) ?_
  clear ha; intro a ha
  refine wpList_nil ?_
  refine then_normal ?_
  refine wp_ret ?_
  refine then_ret ?_
  refine ret_with (v := .slice none 0 0) ha (results_1 rfl ha (res_tmp (by kernel_rfl) (by kernel_rfl))) ?_
  exact ⟨rfl, s⟩

theorem len_nil (W : World) (L : List Chunk) (w : World) (s : St W L w) :
    Calls Try.prog 23 #[.pointer none] w fun e w' => e = .returned (.int .i64 0) ∧ St W L w' := by
  refine enter_args (l := [.pointer none]) Try.func23 rfl rfl (Nat.le_of_ble_eq_true rfl) ?_
  intro a ha; replace ha : Has a 10 [(0, .pointer none)] := ha
  refine wp_seq ?_
  refine wp_region_lit ?_
  refine st_val (.int .i64 0) ha (by kernel_rfl) (by kernel_rfl) ?_
  clear ha; intro a ha
  refine wpList_nil ?_
  refine then_normal ?_
  refine wp_seq ?_
  refine wp_seq ?_
  refine wp_region_lit ?_
  refine st_val (.pointer none) ha (by kernel_rfl) (by kernel_rfl) ?_
  clear ha; intro a ha
  refine st_call ha (by kernel_rfl) (by kernel_rfl) (none_nil W _ w s) ?_
  rintro _ w ⟨rfl, s⟩
  replace s : St W (L) w := s
  refine ⟨_, rfl, ?_⟩; clear ha; intro a ha
  refine wpList_nil ?_
  refine then_normal ?_
  refine wp_true ha rfl (by kernel_rfl) ?_
  refine wp_seq ?_
  refine wp_region_lit ?_
  refine st_val (.int .i64 0) ha (by kernel_rfl) (by kernel_rfl) ?_
  clear ha; intro a ha
  refine wpList_nil ?_
  refine then_normal ?_
  refine wp_ret ?_
  refine then_ret ?_
  refine ret_with (v := .int .i64 0) ha (results_1 rfl ha (res_tmp (by kernel_rfl) (by kernel_rfl))) ?_
  exact ⟨rfl, s⟩

theorem add_nil (W : World) (L : List Chunk) (w : World) (x : Wt) (s : St W L w) :
    Calls Try.prog 18 #[.pointer none, .agg #[.int .i64 x.num, .string (str x.key), .int .i64 x.waiter, .int .i64 x.holder]] w fun e w' => e = .returned (.int .i64 1) ∧ St W L w' := by
  refine enter_args (l := [.pointer none, .agg #[.int .i64 x.num, .string (str x.key), .int .i64 x.waiter, .int .i64 x.holder]]) Try.func18 rfl rfl (Nat.le_of_ble_eq_true rfl) ?_
  intro a ha; replace ha : Has a 56 [(0, .pointer none), (1, .agg #[.int .i64 x.num, .string (str x.key), .int .i64 x.waiter, .int .i64 x.holder])] := ha
  refine wp_seq ?_
  refine wp_region_lit ?_
  refine st_ex ha (by kernel_rfl) (ex_box [.int .i64 x.num, .string (str x.key), .int .i64 x.waiter, .int .i64 x.holder] s rfl (by kernel_rfl)) ?_
  clear ha; rintro _ w a ⟨g1, rfl, s⟩ ha
  replace s : St W (.blk g1 [.int .i64 x.num, .string (str x.key), .int .i64 x.waiter, .int .i64 x.holder] 28 :: L) w := s
  refine st_val (.int .i64 0) ha (by kernel_rfl) (by kernel_rfl) ?_
  clear ha; intro a ha
  refine wpList_nil ?_
  refine then_normal ?_
  refine wp_seq ?_
  refine wp_block ?_
  refine wp_seq ?_
  refine wp_region_lit ?_
  refine st_val (.pointer none) ha (by kernel_rfl) (by kernel_rfl) ?_
  clear ha; intro a ha
  refine st_call ha (by kernel_rfl) (by kernel_rfl) (none_nil W _ w s) ?_
  rintro _ w ⟨rfl, s⟩
  replace s : St W (.blk g1 [.int .i64 x.num, .string (str x.key), .int .i64 x.waiter, .int .i64 x.holder] 28 :: L) w := s
  refine ⟨_, rfl, ?_⟩; clear ha; intro a ha
  refine st_val (.bool true) ha (by kernel_rfl) (by kernel_rfl) ?_
  clear ha; intro a ha
  refine wpList_nil ?_
  refine then_normal ?_
  refine wp_true ha rfl (by kernel_rfl) ?_
  refine wp_seq ?_
  refine wp_region_lit ?_
  refine st_val (.int .i64 1) ha (by kernel_rfl) (by kernel_rfl) ?_
  clear ha; intro a ha
  refine wpList_nil ?_
  refine then_normal ?_
  refine wp_ret ?_
  refine block_ret ?_
  refine then_ret ?_
  refine ret_with (v := .int .i64 1) ha (results_1 rfl ha (res_tmp (by kernel_rfl) (by kernel_rfl))) ?_
  replace s := s.tail
  replace s : St W (L) w := s
  exact ⟨rfl, s⟩

theorem off_zero (W : World) (L : List Chunk) (w : World) (g : Nat) (gf : Nat) (bs : Array Value) (s : St W (.blk g [.bool false, .slice none 0 0] 62 :: L) w) :
    Calls Try.prog 28 #[.pointer (some ⟨g, 0, none⟩), .func (.func gf) #[] bs] w fun e w' => e = .returned (.slice none 0 0) ∧ St W (.blk g [.bool false, .slice none 0 0] 62 :: L) w' := by
  refine enter_args (l := [.pointer (some ⟨g, 0, none⟩), .func (.func gf) #[] bs]) Try.func28 rfl rfl (Nat.le_of_ble_eq_true rfl) ?_
  intro a ha; replace ha : Has a 18 [(0, .pointer (some ⟨g, 0, none⟩)), (1, .func (.func gf) #[] bs)] := ha
  refine wp_seq ?_
  refine wp_region_lit ?_
  refine st_ex ha (by kernel_rfl) (ex_box [.func (.func gf) #[] bs] s rfl (by kernel_rfl)) ?_
  clear ha; rintro _ w a ⟨g1, rfl, s⟩ ha
  replace s : St W (.blk g1 [.func (.func gf) #[] bs] 66 :: .blk g [.bool false, .slice none 0 0] 62 :: L) w := s
  refine st_val (.slice none 0 0) ha (by kernel_rfl) (by kernel_rfl) ?_
  clear ha; intro a ha
  refine wpList_nil ?_
  refine then_normal ?_
  refine wp_seq ?_
  refine wp_seq ?_
  refine wp_region_lit ?_
  refine st_val (.pointer (some ⟨g, 0, none⟩)) ha (by kernel_rfl) (by kernel_rfl) ?_
  clear ha; intro a ha
  replace s := s.at_ (j := 1) rfl
  replace s : St W (.blk g [.bool false, .slice none 0 0] 62 :: .blk g1 [.func (.func gf) #[] bs] 66 :: L) w := s
  refine st_call ha (by kernel_rfl) (by kernel_rfl) (none_any W _ w g false none 0 0 s) ?_
  rintro _ w ⟨rfl, s⟩
  replace s : St W (.blk g [.bool false, .slice none 0 0] 62 :: .blk g1 [.func (.func gf) #[] bs] 66 :: L) w := s
  refine ⟨_, rfl, ?_⟩; clear ha; intro a ha
  refine wpList_nil ?_
  refine then_normal ?_
  refine wp_true ha rfl (by kernel_rfl) ?_
  refine wp_seq ?_
  refine wp_region_lit ?_
  refine st_val (.slice none 0 0) ha (by kernel_rfl) (by kernel_rfl) ?_
  clear ha; intro a ha
  refine wpList_nil ?_
  refine then_normal ?_
  refine wp_ret ?_
  refine then_ret ?_
  refine ret_with (v := .slice none 0 0) ha (results_1 rfl ha (res_tmp (by kernel_rfl) (by kernel_rfl))) ?_
  replace s : St W (.blk g [.bool false, .slice none 0 0] 62 :: L) w := St.mid (A := [.blk g [.bool false, .slice none 0 0] 62]) (B := [.blk g1 [.func (.func gf) #[] bs] 66]) s
  exact ⟨rfl, s⟩

theorem take_zero (W : World) (L : List Chunk) (w : World) (g : Nat) (m : Int) (s : St W (.blk g [.bool false, .slice none 0 0] 62 :: L) w) :
    Calls Try.prog 11 #[.pointer (some ⟨g, 0, none⟩), .int .i64 m] w fun e w' => e = .returned (.tuple #[.agg #[.int .i64 0, .string (str []), .int .i64 0, .int .i64 0], .bool false]) ∧ St W (.blk g [.bool false, .slice none 0 0] 62 :: L) w' := by
  refine enter_args (l := [.pointer (some ⟨g, 0, none⟩), .int .i64 m]) Try.func11 rfl rfl (Nat.le_of_ble_eq_true rfl) ?_
  intro a ha; replace ha : Has a 17 [(0, .pointer (some ⟨g, 0, none⟩)), (1, .int .i64 m)] := ha
  refine wp_seq ?_
  refine wp_region_lit ?_
  refine st_ex ha (by kernel_rfl) (ex_box [.int .i64 m] s rfl (by kernel_rfl)) ?_
  clear ha; rintro _ w a ⟨g1, rfl, s⟩ ha
  replace s : St W (.blk g1 [.int .i64 m] 3 :: .blk g [.bool false, .slice none 0 0] 62 :: L) w := s
  refine st_ex ha (by kernel_rfl) (ex_alloc [.int .i64 0, .string (str []), .int .i64 0, .int .i64 0] s rfl (Try.zeroValue28 _) (by kernel_rfl)) ?_
  clear ha; rintro _ w a ⟨g2, rfl, s⟩ ha
  replace s : St W (.blk g2 [.int .i64 0, .string (str []), .int .i64 0, .int .i64 0] 28 :: .blk g1 [.int .i64 m] 3 :: .blk g [.bool false, .slice none 0 0] 62 :: L) w := s
  refine st_val (.bool false) ha (by kernel_rfl) (by kernel_rfl) ?_
  clear ha; intro a ha
  refine wpList_nil ?_
  refine then_normal ?_
  refine wp_seq ?_
  refine wp_region_lit ?_
  refine st_val (.pointer (some ⟨g, 0, none⟩)) ha (by kernel_rfl) (by kernel_rfl) ?_
  clear ha; intro a ha
  refine st_val (.func (.func 29) #[] #[.pointer (some ⟨g1, 0, none⟩)]) ha (by kernel_rfl) (by kernel_rfl) ?_
  clear ha; intro a ha
  replace s := s.at_ (j := 2) rfl
  replace s : St W (.blk g [.bool false, .slice none 0 0] 62 :: .blk g2 [.int .i64 0, .string (str []), .int .i64 0, .int .i64 0] 28 :: .blk g1 [.int .i64 m] 3 :: L) w := s
  refine st_call ha (by kernel_rfl) (by kernel_rfl) (off_zero W _ w g 29 #[.pointer (some ⟨g1, 0, none⟩)] s) ?_
  rintro _ w ⟨rfl, s⟩
  replace s : St W (.blk g [.bool false, .slice none 0 0] 62 :: .blk g2 [.int .i64 0, .string (str []), .int .i64 0, .int .i64 0] 28 :: .blk g1 [.int .i64 m] 3 :: L) w := s
  refine ⟨_, rfl, ?_⟩; clear ha; intro a ha
  refine st_val (.slice none 0 0) ha (by kernel_rfl) (by kernel_rfl) ?_
  clear ha; intro a ha
  refine wpList_nil ?_
  refine then_normal ?_
  refine wp_seq ?_
  refine wp_seq ?_
  refine wp_region_lit ?_
  refine st_val (.slice none 0 0) ha (by kernel_rfl) (by kernel_rfl) ?_
  clear ha; intro a ha
  refine st_val (.int .i64 0) ha (by kernel_rfl) (by kernel_rfl) ?_
  clear ha; intro a ha
  refine st_val (.bool true) ha (by kernel_rfl) (by kernel_rfl) ?_
  clear ha; intro a ha
  refine wpList_nil ?_
  refine then_normal ?_
  refine wp_true ha rfl (by kernel_rfl) ?_
  refine wp_seq ?_
  refine wp_region_lit ?_
  refine st_val (.agg #[.int .i64 0, .string (str []), .int .i64 0, .int .i64 0]) ha (by kernel_rfl) (by kernel_rfl) ?_
  clear ha; intro a ha
  refine st_exd ha (by kernel_rfl) (ex_store (of_ := 0) 1 [.int .i64 0, .string (str []), .int .i64 0, .int .i64 0] s rfl rfl (by kernel_rfl) (by kernel_rfl) (Try.sizeOf28 _) rfl (by simp [Value.oneCell']) (Nat.le_of_ble_eq_true rfl)) ?_
  clear ha; rintro w a s ha
  replace s : St W (.blk g [.bool false, .slice none 0 0] 62 :: .blk g2 [.int .i64 0, .string (str []), .int .i64 0, .int .i64 0] 28 :: .blk g1 [.int .i64 m] 3 :: L) w := s
  refine st_val (.bool false) ha (by kernel_rfl) (by kernel_rfl) ?_
  clear ha; intro a ha
  refine wpList_nil ?_
  refine then_normal ?_
  refine wp_ret ?_
  refine then_ret ?_
  refine ret_with (v := .tuple #[.agg #[.int .i64 0, .string (str []), .int .i64 0, .int .i64 0], .bool false]) ha (results_2 rfl ha (res_cellN (s.blkIs 1 rfl) (by kernel_rfl) (by kernel_rfl) Try.isAgg28 Try.sizeOf28 rfl) (res_tmp (by kernel_rfl) (by kernel_rfl))) ?_
  replace s : St W (.blk g [.bool false, .slice none 0 0] 62 :: L) w := St.mid (A := [.blk g [.bool false, .slice none 0 0] 62]) (B := [.blk g2 [.int .i64 0, .string (str []), .int .i64 0, .int .i64 0] 28, .blk g1 [.int .i64 m] 3]) s
  exact ⟨rfl, s⟩

theorem free_zero (W : World) (L : List Chunk) (w : World) (g : Nat) (m : Int) (s : St W (.blk g [.bool false, .slice none 0 0] 62 :: L) w) :
    Calls Try.prog 16 #[.pointer (some ⟨g, 0, none⟩), .int .i64 m] w fun e w' => e = .returned (.slice none 0 0) ∧ St W (.blk g [.bool false, .slice none 0 0] 62 :: L) w' := by
  refine enter_args (l := [.pointer (some ⟨g, 0, none⟩), .int .i64 m]) Try.func16 rfl rfl (Nat.le_of_ble_eq_true rfl) ?_
  intro a ha; replace ha : Has a 8 [(0, .pointer (some ⟨g, 0, none⟩)), (1, .int .i64 m)] := ha
  refine wp_seq ?_
  refine wp_region_lit ?_
  refine st_ex ha (by kernel_rfl) (ex_box [.int .i64 m] s rfl (by kernel_rfl)) ?_
  clear ha; rintro _ w a ⟨g1, rfl, s⟩ ha
  replace s : St W (.blk g1 [.int .i64 m] 3 :: .blk g [.bool false, .slice none 0 0] 62 :: L) w := s
  refine st_val (.slice none 0 0) ha (by kernel_rfl) (by kernel_rfl) ?_
  clear ha; intro a ha
  refine wpList_nil ?_
  refine then_normal ?_
  refine wp_seq ?_
  refine wp_region_lit ?_
  refine st_val (.pointer (some ⟨g, 0, none⟩)) ha (by kernel_rfl) (by kernel_rfl) ?_
  clear ha; intro a ha
  refine st_val (.func (.func 32) #[] #[.pointer (some ⟨g1, 0, none⟩)]) ha (by kernel_rfl) (by kernel_rfl) ?_
  clear ha; intro a ha
  replace s := s.at_ (j := 1) rfl
  replace s : St W (.blk g [.bool false, .slice none 0 0] 62 :: .blk g1 [.int .i64 m] 3 :: L) w := s
  refine st_call ha (by kernel_rfl) (by kernel_rfl) (off_zero W _ w g 32 #[.pointer (some ⟨g1, 0, none⟩)] s) ?_
  rintro _ w ⟨rfl, s⟩
  replace s : St W (.blk g [.bool false, .slice none 0 0] 62 :: .blk g1 [.int .i64 m] 3 :: L) w := s
  refine ⟨_, rfl, ?_⟩; clear ha; intro a ha
  refine st_val (.slice none 0 0) ha (by kernel_rfl) (by kernel_rfl) ?_
  clear ha; intro a ha
  refine wpList_nil ?_
  refine then_normal ?_
  refine wp_ret ?_
  refine ret_with (v := .slice none 0 0) ha (results_1 rfl ha (res_tmp (by kernel_rfl) (by kernel_rfl))) ?_
  replace s : St W (.blk g [.bool false, .slice none 0 0] 62 :: L) w := St.mid (A := [.blk g [.bool false, .slice none 0 0] 62]) (B := [.blk g1 [.int .i64 m] 3]) s
  exact ⟨rfl, s⟩

theorem at_zero (W : World) (L : List Chunk) (w : World) (g : Nat) (k : List UInt8) (m : Int) (s : St W (.blk g [.bool false, .slice none 0 0] 62 :: L) w) :
    Calls Try.prog 13 #[.pointer (some ⟨g, 0, none⟩), .string (str k), .int .i64 m] w fun e w' => e = .returned (.slice none 0 0) ∧ St W (.blk g [.bool false, .slice none 0 0] 62 :: L) w' := by
  refine enter_args (l := [.pointer (some ⟨g, 0, none⟩), .string (str k), .int .i64 m]) Try.func13 rfl rfl (Nat.le_of_ble_eq_true rfl) ?_
  intro a ha; replace ha : Has a 10 [(0, .pointer (some ⟨g, 0, none⟩)), (1, .string (str k)), (2, .int .i64 m)] := ha
  refine wp_seq ?_
  refine wp_region_lit ?_
  refine st_ex ha (by kernel_rfl) (ex_box [.string (str k)] s rfl (by kernel_rfl)) ?_
  clear ha; rintro _ w a ⟨g1, rfl, s⟩ ha
  replace s : St W (.blk g1 [.string (str k)] 9 :: .blk g [.bool false, .slice none 0 0] 62 :: L) w := s
  refine st_ex ha (by kernel_rfl) (ex_box [.int .i64 m] s rfl (by kernel_rfl)) ?_
  clear ha; rintro _ w a ⟨g2, rfl, s⟩ ha
  replace s : St W (.blk g2 [.int .i64 m] 3 :: .blk g1 [.string (str k)] 9 :: .blk g [.bool false, .slice none 0 0] 62 :: L) w := s
  refine st_val (.slice none 0 0) ha (by kernel_rfl) (by kernel_rfl) ?_
  clear ha; intro a ha
  refine wpList_nil ?_
  refine then_normal ?_
  refine wp_seq ?_
  refine wp_region_lit ?_
  refine st_val (.pointer (some ⟨g, 0, none⟩)) ha (by kernel_rfl) (by kernel_rfl) ?_
  clear ha; intro a ha
  refine st_val (.func (.func 31) #[] #[.pointer (some ⟨g2, 0, none⟩), .pointer (some ⟨g1, 0, none⟩)]) ha (by kernel_rfl) (by kernel_rfl) ?_
  clear ha; intro a ha
  replace s := s.at_ (j := 2) rfl
  replace s : St W (.blk g [.bool false, .slice none 0 0] 62 :: .blk g2 [.int .i64 m] 3 :: .blk g1 [.string (str k)] 9 :: L) w := s
  refine st_call ha (by kernel_rfl) (by kernel_rfl) (off_zero W _ w g 31 #[.pointer (some ⟨g2, 0, none⟩), .pointer (some ⟨g1, 0, none⟩)] s) ?_
  rintro _ w ⟨rfl, s⟩
  replace s : St W (.blk g [.bool false, .slice none 0 0] 62 :: .blk g2 [.int .i64 m] 3 :: .blk g1 [.string (str k)] 9 :: L) w := s
  refine ⟨_, rfl, ?_⟩; clear ha; intro a ha
  refine st_val (.slice none 0 0) ha (by kernel_rfl) (by kernel_rfl) ?_
  clear ha; intro a ha
  refine wpList_nil ?_
  refine then_normal ?_
  refine wp_ret ?_
  refine ret_with (v := .slice none 0 0) ha (results_1 rfl ha (res_tmp (by kernel_rfl) (by kernel_rfl))) ?_
  replace s : St W (.blk g [.bool false, .slice none 0 0] 62 :: L) w := St.mid (A := [.blk g [.bool false, .slice none 0 0] 62]) (B := [.blk g2 [.int .i64 m] 3, .blk g1 [.string (str k)] 9]) s
  exact ⟨rfl, s⟩

theorem edges_zero (W : World) (L : List Chunk) (w : World) (g : Nat) (s : St W (.blk g [.bool false, .slice none 0 0] 62 :: L) w) :
    Calls Try.prog 20 #[.pointer (some ⟨g, 0, none⟩)] w fun e w' => e = .returned (.slice none 0 0) ∧ St W (.blk g [.bool false, .slice none 0 0] 62 :: L) w' := by
  refine enter_args (l := [.pointer (some ⟨g, 0, none⟩)]) Try.func20 rfl rfl (Nat.le_of_ble_eq_true rfl) ?_
  intro a ha; replace ha : Has a 28 [(0, .pointer (some ⟨g, 0, none⟩))] := ha
  refine wp_seq ?_
  refine wp_region_lit ?_
  refine st_val (.slice none 0 0) ha (by kernel_rfl) (by kernel_rfl) ?_
  clear ha; intro a ha
  refine wpList_nil ?_
  refine then_normal ?_
  refine wp_seq ?_
  refine wp_seq ?_
  refine wp_region_lit ?_
  refine st_val (.pointer (some ⟨g, 0, none⟩)) ha (by kernel_rfl) (by kernel_rfl) ?_
  clear ha; intro a ha
  refine st_call ha (by kernel_rfl) (by kernel_rfl) (none_any W _ w g false none 0 0 s) ?_
  rintro _ w ⟨rfl, s⟩
  replace s : St W (.blk g [.bool false, .slice none 0 0] 62 :: L) w := s
  refine ⟨_, rfl, ?_⟩; clear ha; intro a ha
  refine wpList_nil ?_
  refine then_normal ?_
  refine wp_true ha rfl (by kernel_rfl) ?_
  refine wp_seq ?_
  refine wp_region_lit ?_
  refine st_val (.slice none 0 0) ha (by kernel_rfl) (by kernel_rfl) ?_
  clear ha; intro a ha
  refine wpList_nil ?_
  refine then_normal ?_
  refine wp_ret ?_
  refine then_ret ?_
  refine ret_with (v := .slice none 0 0) ha (results_1 rfl ha (res_tmp (by kernel_rfl) (by kernel_rfl))) ?_
  exact ⟨rfl, s⟩

theorem len_zero (W : World) (L : List Chunk) (w : World) (g : Nat) (s : St W (.blk g [.bool false, .slice none 0 0] 62 :: L) w) :
    Calls Try.prog 23 #[.pointer (some ⟨g, 0, none⟩)] w fun e w' => e = .returned (.int .i64 0) ∧ St W (.blk g [.bool false, .slice none 0 0] 62 :: L) w' := by
  refine enter_args (l := [.pointer (some ⟨g, 0, none⟩)]) Try.func23 rfl rfl (Nat.le_of_ble_eq_true rfl) ?_
  intro a ha; replace ha : Has a 10 [(0, .pointer (some ⟨g, 0, none⟩))] := ha
  refine wp_seq ?_
  refine wp_region_lit ?_
  refine st_val (.int .i64 0) ha (by kernel_rfl) (by kernel_rfl) ?_
  clear ha; intro a ha
  refine wpList_nil ?_
  refine then_normal ?_
  refine wp_seq ?_
  refine wp_seq ?_
  refine wp_region_lit ?_
  refine st_val (.pointer (some ⟨g, 0, none⟩)) ha (by kernel_rfl) (by kernel_rfl) ?_
  clear ha; intro a ha
  refine st_call ha (by kernel_rfl) (by kernel_rfl) (none_any W _ w g false none 0 0 s) ?_
  rintro _ w ⟨rfl, s⟩
  replace s : St W (.blk g [.bool false, .slice none 0 0] 62 :: L) w := s
  refine ⟨_, rfl, ?_⟩; clear ha; intro a ha
  refine wpList_nil ?_
  refine then_normal ?_
  refine wp_true ha rfl (by kernel_rfl) ?_
  refine wp_seq ?_
  refine wp_region_lit ?_
  refine st_val (.int .i64 0) ha (by kernel_rfl) (by kernel_rfl) ?_
  clear ha; intro a ha
  refine wpList_nil ?_
  refine then_normal ?_
  refine wp_ret ?_
  refine then_ret ?_
  refine ret_with (v := .int .i64 0) ha (results_1 rfl ha (res_tmp (by kernel_rfl) (by kernel_rfl))) ?_
  exact ⟨rfl, s⟩

theorem add_zero (W : World) (L : List Chunk) (w : World) (g : Nat) (x : Wt) (s : St W (.blk g [.bool false, .slice none 0 0] 62 :: L) w) :
    Calls Try.prog 18 #[.pointer (some ⟨g, 0, none⟩), .agg #[.int .i64 x.num, .string (str x.key), .int .i64 x.waiter, .int .i64 x.holder]] w fun e w' => e = .returned (.int .i64 1) ∧ St W (.blk g [.bool false, .slice none 0 0] 62 :: L) w' := by
  refine enter_args (l := [.pointer (some ⟨g, 0, none⟩), .agg #[.int .i64 x.num, .string (str x.key), .int .i64 x.waiter, .int .i64 x.holder]]) Try.func18 rfl rfl (Nat.le_of_ble_eq_true rfl) ?_
  intro a ha; replace ha : Has a 56 [(0, .pointer (some ⟨g, 0, none⟩)), (1, .agg #[.int .i64 x.num, .string (str x.key), .int .i64 x.waiter, .int .i64 x.holder])] := ha
  refine wp_seq ?_
  refine wp_region_lit ?_
  refine st_ex ha (by kernel_rfl) (ex_box [.int .i64 x.num, .string (str x.key), .int .i64 x.waiter, .int .i64 x.holder] s rfl (by kernel_rfl)) ?_
  clear ha; rintro _ w a ⟨g1, rfl, s⟩ ha
  replace s : St W (.blk g1 [.int .i64 x.num, .string (str x.key), .int .i64 x.waiter, .int .i64 x.holder] 28 :: .blk g [.bool false, .slice none 0 0] 62 :: L) w := s
  refine st_val (.int .i64 0) ha (by kernel_rfl) (by kernel_rfl) ?_
  clear ha; intro a ha
  refine wpList_nil ?_
  refine then_normal ?_
  refine wp_seq ?_
  refine wp_block ?_
  refine wp_seq ?_
  refine wp_region_lit ?_
  refine st_val (.pointer (some ⟨g, 0, none⟩)) ha (by kernel_rfl) (by kernel_rfl) ?_
  clear ha; intro a ha
  replace s := s.at_ (j := 1) rfl
  replace s : St W (.blk g [.bool false, .slice none 0 0] 62 :: .blk g1 [.int .i64 x.num, .string (str x.key), .int .i64 x.waiter, .int .i64 x.holder] 28 :: L) w := s
  refine st_call ha (by kernel_rfl) (by kernel_rfl) (none_any W _ w g false none 0 0 s) ?_
  rintro _ w ⟨rfl, s⟩
  replace s : St W (.blk g [.bool false, .slice none 0 0] 62 :: .blk g1 [.int .i64 x.num, .string (str x.key), .int .i64 x.waiter, .int .i64 x.holder] 28 :: L) w := s
  refine ⟨_, rfl, ?_⟩; clear ha; intro a ha
  refine st_val (.bool true) ha (by kernel_rfl) (by kernel_rfl) ?_
  clear ha; intro a ha
  refine wpList_nil ?_
  refine then_normal ?_
  refine wp_true ha rfl (by kernel_rfl) ?_
  refine wp_seq ?_
  refine wp_region_lit ?_
  refine st_val (.int .i64 1) ha (by kernel_rfl) (by kernel_rfl) ?_
  clear ha; intro a ha
  refine wpList_nil ?_
  refine then_normal ?_
  refine wp_ret ?_
  refine block_ret ?_
  refine then_ret ?_
  refine ret_with (v := .int .i64 1) ha (results_1 rfl ha (res_tmp (by kernel_rfl) (by kernel_rfl))) ?_
  replace s : St W (.blk g [.bool false, .slice none 0 0] 62 :: L) w := St.mid (A := [.blk g [.bool false, .slice none 0 0] 62]) (B := [.blk g1 [.int .i64 x.num, .string (str x.key), .int .i64 x.waiter, .int .i64 x.holder] 28]) s
  exact ⟨rfl, s⟩

set_option maxRecDepth 100000 in
set_option maxHeartbeats 8000000 in
theorem known_true (W : World) (hW : W.drawn = 0) (L : List Chunk) (w : World) (s : St W L w) :
    Calls Try.prog 7 #[] w fun e w' => e = .returned (.bool true) ∧ St W L w' := by
  refine enter_args (l := []) Try.func7 rfl rfl (Nat.le_of_ble_eq_true rfl) ?_
  intro a ha; replace ha : Has a 161 [] := ha
  refine wp_seq ?_
  refine wp_region_lit ?_
  refine st_val (.bool false) ha (by kernel_rfl) (by kernel_rfl) ?_
  clear ha; intro a ha
  refine wpList_nil ?_
  refine then_normal ?_
  refine wp_seq ?_
  refine wp_region_lit ?_
  refine st_call ha (by kernel_rfl) (by kernel_rfl) (new_lob W _ w s) ?_
  rintro _ w ⟨g1, rfl, s⟩
  replace s : St W (Lob g1 [] :: L) w := s
  refine ⟨_, rfl, ?_⟩; clear ha; intro a ha
  refine st_val (.pointer (some ⟨g1, 0, none⟩)) ha (by kernel_rfl) (by kernel_rfl) ?_
  clear ha; intro a ha
  refine wpList_nil ?_
  refine then_normal ?_
  refine wp_seq ?_
  refine wp_region_lit ?_
  refine st_val (.int .i64 9007199254740991) ha (by kernel_rfl) (by kernel_rfl) ?_
  clear ha; intro a ha
  refine wpList_nil ?_
  refine then_normal ?_
  refine wp_seq ?_
  refine wp_region_lit ?_
  refine st_call ha (by kernel_rfl) (by kernel_rfl) (wait_any W _ w 0 1 2 [97] s) ?_
  rintro _ w ⟨rfl, s⟩
  replace s : St W (Lob g1 [] :: L) w := s
  refine ⟨_, rfl, ?_⟩; clear ha; intro a ha
  refine st_val (.int .i64 9007199254740991) ha (by kernel_rfl) (by kernel_rfl) ?_
  clear ha; intro a ha
  refine st_val (.int .i64 9007199254740992) ha (by kernel_rfl) (by kernel_rfl) ?_
  clear ha; intro a ha
  refine st_call ha (by kernel_rfl) (by kernel_rfl) (wait_any W _ w 9007199254740992 1 2 [97] s) ?_
  rintro _ w ⟨rfl, s⟩
  replace s : St W (Lob g1 [] :: L) w := s
  refine ⟨_, rfl, ?_⟩; clear ha; intro a ha
  refine st_call ha (by kernel_rfl) (by kernel_rfl) (wait_any W _ w 1 0 2 [97] s) ?_
  rintro _ w ⟨rfl, s⟩
  replace s : St W (Lob g1 [] :: L) w := s
  refine ⟨_, rfl, ?_⟩; clear ha; intro a ha
  refine st_val (.int .i64 9007199254740991) ha (by kernel_rfl) (by kernel_rfl) ?_
  clear ha; intro a ha
  refine st_val (.int .i64 9007199254740992) ha (by kernel_rfl) (by kernel_rfl) ?_
  clear ha; intro a ha
  refine st_call ha (by kernel_rfl) (by kernel_rfl) (wait_any W _ w 1 9007199254740992 2 [97] s) ?_
  rintro _ w ⟨rfl, s⟩
  replace s : St W (Lob g1 [] :: L) w := s
  refine ⟨_, rfl, ?_⟩; clear ha; intro a ha
  refine st_call ha (by kernel_rfl) (by kernel_rfl) (wait_any W _ w 1 1 0 [97] s) ?_
  rintro _ w ⟨rfl, s⟩
  replace s : St W (Lob g1 [] :: L) w := s
  refine ⟨_, rfl, ?_⟩; clear ha; intro a ha
  refine st_val (.int .i64 9007199254740991) ha (by kernel_rfl) (by kernel_rfl) ?_
  clear ha; intro a ha
  refine st_val (.int .i64 9007199254740992) ha (by kernel_rfl) (by kernel_rfl) ?_
  clear ha; intro a ha
  refine st_call ha (by kernel_rfl) (by kernel_rfl) (wait_any W _ w 1 1 9007199254740992 [97] s) ?_
  rintro _ w ⟨rfl, s⟩
  replace s : St W (Lob g1 [] :: L) w := s
  refine ⟨_, rfl, ?_⟩; clear ha; intro a ha
  refine st_call ha (by kernel_rfl) (by kernel_rfl) (wait_any W _ w 1 3 3 [97] s) ?_
  rintro _ w ⟨rfl, s⟩
  replace s : St W (Lob g1 [] :: L) w := s
  refine ⟨_, rfl, ?_⟩; clear ha; intro a ha
  refine st_val (.agg #[.int .i64 0, .string (str []), .int .i64 0, .int .i64 0]) ha (by kernel_rfl) (by kernel_rfl) ?_
  clear ha; intro a ha
  refine st_ex ha (by kernel_rfl) (ex_buildSlice elt37 _ zs37 [.int .i64 0, .string (str [97]), .int .i64 1, .int .i64 2, .int .i64 9007199254740992, .string (str [97]), .int .i64 1, .int .i64 2, .int .i64 1, .string (str [97]), .int .i64 0, .int .i64 2, .int .i64 1, .string (str [97]), .int .i64 9007199254740992, .int .i64 2, .int .i64 1, .string (str [97]), .int .i64 1, .int .i64 0, .int .i64 1, .string (str [97]), .int .i64 1, .int .i64 9007199254740992, .int .i64 1, .string (str [97]), .int .i64 3, .int .i64 3, .int .i64 0, .string (str []), .int .i64 0, .int .i64 0] s rfl (by kernel_rfl) (by decide)) ?_
  clear ha; rintro _ w a ⟨g2, rfl, s⟩ ha
  replace s : St W (.blk g2 [.int .i64 0, .string (str [97]), .int .i64 1, .int .i64 2, .int .i64 9007199254740992, .string (str [97]), .int .i64 1, .int .i64 2, .int .i64 1, .string (str [97]), .int .i64 0, .int .i64 2, .int .i64 1, .string (str [97]), .int .i64 9007199254740992, .int .i64 2, .int .i64 1, .string (str [97]), .int .i64 1, .int .i64 0, .int .i64 1, .string (str [97]), .int .i64 1, .int .i64 9007199254740992, .int .i64 1, .string (str [97]), .int .i64 3, .int .i64 3, .int .i64 0, .string (str []), .int .i64 0, .int .i64 0] 28 :: Lob g1 [] :: L) w := s
  refine st_val (.slice (some ⟨g2, 0, none⟩) 8 8) ha (by kernel_rfl) (by kernel_rfl) ?_
  clear ha; intro a ha
  refine wpList_nil ?_
  refine then_normal ?_
  refine wp_seq ?_
  refine wp_seq ?_
  refine wp_region_lit ?_
  refine st_val (.int .i64 0) ha (by kernel_rfl) (by kernel_rfl) ?_
  clear ha; intro a ha
  refine wpList_nil ?_
  refine then_normal ?_
  refine wp_block ?_
  refine wp_loop_rounds 9 ?_
  show Code.rounds _ _ _ 9 _ _
  rw [rounds_succ]
  refine wp_seq ?_
  refine wp_seq ?_
  refine wp_region_lit ?_
  refine st_val (.int .i64 0) ha (by kernel_rfl) (by kernel_rfl) ?_
  clear ha; intro a ha
  refine st_val (.slice (some ⟨g2, 0, none⟩) 8 8) ha (by kernel_rfl) (by kernel_rfl) ?_
  clear ha; intro a ha
  refine st_val (.int .i64 8) ha (by kernel_rfl) (by kernel_rfl) ?_
  clear ha; intro a ha
  refine st_val (.bool true) ha (by kernel_rfl) (by kernel_rfl) ?_
  clear ha; intro a ha
  refine wpList_nil ?_
  refine then_normal ?_
  refine wp_true ha rfl (by kernel_rfl) ?_
  refine wp_skip ?_
  refine then_normal ?_
  refine wp_seq ?_
  refine wp_block ?_
  refine wp_seq ?_
  refine wp_region_lit ?_
  refine st_val (.pointer (some ⟨g1, 0, none⟩)) ha (by kernel_rfl) (by kernel_rfl) ?_
  clear ha; intro a ha
  refine st_val (.slice (some ⟨g2, 0, none⟩) 8 8) ha (by kernel_rfl) (by kernel_rfl) ?_
  clear ha; intro a ha
  refine st_val (.int .i64 0) ha (by kernel_rfl) (by kernel_rfl) ?_
  clear ha; intro a ha
  refine st_val (.pointer (some ⟨g2, 0, none⟩)) ha (by kernel_rfl) (run_indexAddr (kd := .i64) (i := 0) (n := 8) (c := 8) 0 rfl Try.underlying37 Try.sizeOf28 (by kernel_rfl) (by kernel_rfl) rfl (by first | assumption | omega) _) ?_
  clear ha; intro a ha
  refine st_val (.agg #[.int .i64 0, .string (str [97]), .int .i64 1, .int .i64 2]) ha (by kernel_rfl) (run_loadN (of_ := 0) [.int .i64 0, .string (str [97]), .int .i64 1, .int .i64 2] (s.blkIs 0 rfl) rfl (by kernel_rfl) Try.isAgg28 Try.sizeOf28 rfl (Nat.le_of_ble_eq_true rfl)) ?_
  clear ha; intro a ha
  replace s := s.at_ (j := 1) rfl
  replace s : St W (Lob g1 [] :: .blk g2 [.int .i64 0, .string (str [97]), .int .i64 1, .int .i64 2, .int .i64 9007199254740992, .string (str [97]), .int .i64 1, .int .i64 2, .int .i64 1, .string (str [97]), .int .i64 0, .int .i64 2, .int .i64 1, .string (str [97]), .int .i64 9007199254740992, .int .i64 2, .int .i64 1, .string (str [97]), .int .i64 1, .int .i64 0, .int .i64 1, .string (str [97]), .int .i64 1, .int .i64 9007199254740992, .int .i64 1, .string (str [97]), .int .i64 3, .int .i64 3, .int .i64 0, .string (str []), .int .i64 0, .int .i64 0] 28 :: L) w := s
  refine st_call ha (by kernel_rfl) (by kernel_rfl) (add_is W _ w g1 [] ⟨0, [97], 1, 2⟩ 2 [] (by decide) (by decide) ⟨by decide, by decide⟩ s) ?_
  rintro _ w ⟨rfl, s⟩
  replace s : St W (Lob g1 [] :: .blk g2 [.int .i64 0, .string (str [97]), .int .i64 1, .int .i64 2, .int .i64 9007199254740992, .string (str [97]), .int .i64 1, .int .i64 2, .int .i64 1, .string (str [97]), .int .i64 0, .int .i64 2, .int .i64 1, .string (str [97]), .int .i64 9007199254740992, .int .i64 2, .int .i64 1, .string (str [97]), .int .i64 1, .int .i64 0, .int .i64 1, .string (str [97]), .int .i64 1, .int .i64 9007199254740992, .int .i64 1, .string (str [97]), .int .i64 3, .int .i64 3, .int .i64 0, .string (str []), .int .i64 0, .int .i64 0] 28 :: L) w := s
  refine ⟨_, rfl, ?_⟩; clear ha; intro a ha
  refine st_val (.bool false) ha (by kernel_rfl) (by kernel_rfl) ?_
  clear ha; intro a ha
  refine wpList_nil ?_
  refine then_normal ?_
  refine wp_false ha rfl (by kernel_rfl) ?_
  refine wp_skip ?_
  refine block_normal ?_
  refine then_normal ?_
  refine wp_region_lit ?_
  refine st_val (.int .i64 0) ha (by kernel_rfl) (by kernel_rfl) ?_
  clear ha; intro a ha
  refine st_val (.int .i64 1) ha (by kernel_rfl) (by kernel_rfl) ?_
  clear ha; intro a ha
  refine st_val (.int .i64 1) ha (by kernel_rfl) (by kernel_rfl) ?_
  clear ha; intro a ha
  refine wpList_nil ?_
  refine then_normal ?_
  show Code.rounds _ _ _ 8 _ _
  rw [rounds_succ]
  refine wp_seq ?_
  refine wp_seq ?_
  refine wp_region_lit ?_
  refine st_val (.int .i64 1) ha (by kernel_rfl) (by kernel_rfl) ?_
  clear ha; intro a ha
  refine st_val (.slice (some ⟨g2, 0, none⟩) 8 8) ha (by kernel_rfl) (by kernel_rfl) ?_
  clear ha; intro a ha
  refine st_val (.int .i64 8) ha (by kernel_rfl) (by kernel_rfl) ?_
  clear ha; intro a ha
  refine st_val (.bool true) ha (by kernel_rfl) (by kernel_rfl) ?_
  clear ha; intro a ha
  refine wpList_nil ?_
  refine then_normal ?_
  refine wp_true ha rfl (by kernel_rfl) ?_
  refine wp_skip ?_
  refine then_normal ?_
  refine wp_seq ?_
  refine wp_block ?_
  refine wp_seq ?_
  refine wp_region_lit ?_
  refine st_val (.pointer (some ⟨g1, 0, none⟩)) ha (by kernel_rfl) (by kernel_rfl) ?_
  clear ha; intro a ha
  refine st_val (.slice (some ⟨g2, 0, none⟩) 8 8) ha (by kernel_rfl) (by kernel_rfl) ?_
  clear ha; intro a ha
  refine st_val (.int .i64 1) ha (by kernel_rfl) (by kernel_rfl) ?_
  clear ha; intro a ha
  refine st_val (.pointer (some ⟨g2, 4, none⟩)) ha (by kernel_rfl) (run_indexAddr (kd := .i64) (i := 1) (n := 8) (c := 8) 1 rfl Try.underlying37 Try.sizeOf28 (by kernel_rfl) (by kernel_rfl) rfl (by first | assumption | omega) _) ?_
  clear ha; intro a ha
  refine st_val (.agg #[.int .i64 9007199254740992, .string (str [97]), .int .i64 1, .int .i64 2]) ha (by kernel_rfl) (run_loadN (of_ := 4) [.int .i64 9007199254740992, .string (str [97]), .int .i64 1, .int .i64 2] (s.blkIs 1 rfl) rfl (by kernel_rfl) Try.isAgg28 Try.sizeOf28 rfl (Nat.le_of_ble_eq_true rfl)) ?_
  clear ha; intro a ha
  refine st_call ha (by kernel_rfl) (by kernel_rfl) (add_is W _ w g1 [] ⟨9007199254740992, [97], 1, 2⟩ 2 [] (by decide) (by decide) ⟨by decide, by decide⟩ s) ?_
  rintro _ w ⟨rfl, s⟩
  replace s : St W (Lob g1 [] :: .blk g2 [.int .i64 0, .string (str [97]), .int .i64 1, .int .i64 2, .int .i64 9007199254740992, .string (str [97]), .int .i64 1, .int .i64 2, .int .i64 1, .string (str [97]), .int .i64 0, .int .i64 2, .int .i64 1, .string (str [97]), .int .i64 9007199254740992, .int .i64 2, .int .i64 1, .string (str [97]), .int .i64 1, .int .i64 0, .int .i64 1, .string (str [97]), .int .i64 1, .int .i64 9007199254740992, .int .i64 1, .string (str [97]), .int .i64 3, .int .i64 3, .int .i64 0, .string (str []), .int .i64 0, .int .i64 0] 28 :: L) w := s
  refine ⟨_, rfl, ?_⟩; clear ha; intro a ha
  refine st_val (.bool false) ha (by kernel_rfl) (by kernel_rfl) ?_
  clear ha; intro a ha
  refine wpList_nil ?_
  refine then_normal ?_
  refine wp_false ha rfl (by kernel_rfl) ?_
  refine wp_skip ?_
  refine block_normal ?_
  refine then_normal ?_
  refine wp_region_lit ?_
  refine st_val (.int .i64 1) ha (by kernel_rfl) (by kernel_rfl) ?_
  clear ha; intro a ha
  refine st_val (.int .i64 2) ha (by kernel_rfl) (by kernel_rfl) ?_
  clear ha; intro a ha
  refine st_val (.int .i64 2) ha (by kernel_rfl) (by kernel_rfl) ?_
  clear ha; intro a ha
  refine wpList_nil ?_
  refine then_normal ?_
  show Code.rounds _ _ _ 7 _ _
  rw [rounds_succ]
  refine wp_seq ?_
  refine wp_seq ?_
  refine wp_region_lit ?_
  refine st_val (.int .i64 2) ha (by kernel_rfl) (by kernel_rfl) ?_
  clear ha; intro a ha
  refine st_val (.slice (some ⟨g2, 0, none⟩) 8 8) ha (by kernel_rfl) (by kernel_rfl) ?_
  clear ha; intro a ha
  refine st_val (.int .i64 8) ha (by kernel_rfl) (by kernel_rfl) ?_
  clear ha; intro a ha
  refine st_val (.bool true) ha (by kernel_rfl) (by kernel_rfl) ?_
  clear ha; intro a ha
  refine wpList_nil ?_
  refine then_normal ?_
  refine wp_true ha rfl (by kernel_rfl) ?_
  refine wp_skip ?_
  refine then_normal ?_
  refine wp_seq ?_
  refine wp_block ?_
  refine wp_seq ?_
  refine wp_region_lit ?_
  refine st_val (.pointer (some ⟨g1, 0, none⟩)) ha (by kernel_rfl) (by kernel_rfl) ?_
  clear ha; intro a ha
  refine st_val (.slice (some ⟨g2, 0, none⟩) 8 8) ha (by kernel_rfl) (by kernel_rfl) ?_
  clear ha; intro a ha
  refine st_val (.int .i64 2) ha (by kernel_rfl) (by kernel_rfl) ?_
  clear ha; intro a ha
  refine st_val (.pointer (some ⟨g2, 8, none⟩)) ha (by kernel_rfl) (run_indexAddr (kd := .i64) (i := 2) (n := 8) (c := 8) 2 rfl Try.underlying37 Try.sizeOf28 (by kernel_rfl) (by kernel_rfl) rfl (by first | assumption | omega) _) ?_
  clear ha; intro a ha
  refine st_val (.agg #[.int .i64 1, .string (str [97]), .int .i64 0, .int .i64 2]) ha (by kernel_rfl) (run_loadN (of_ := 8) [.int .i64 1, .string (str [97]), .int .i64 0, .int .i64 2] (s.blkIs 1 rfl) rfl (by kernel_rfl) Try.isAgg28 Try.sizeOf28 rfl (Nat.le_of_ble_eq_true rfl)) ?_
  clear ha; intro a ha
  refine st_call ha (by kernel_rfl) (by kernel_rfl) (add_is W _ w g1 [] ⟨1, [97], 0, 2⟩ 2 [] (by decide) (by decide) ⟨by decide, by decide⟩ s) ?_
  rintro _ w ⟨rfl, s⟩
  replace s : St W (Lob g1 [] :: .blk g2 [.int .i64 0, .string (str [97]), .int .i64 1, .int .i64 2, .int .i64 9007199254740992, .string (str [97]), .int .i64 1, .int .i64 2, .int .i64 1, .string (str [97]), .int .i64 0, .int .i64 2, .int .i64 1, .string (str [97]), .int .i64 9007199254740992, .int .i64 2, .int .i64 1, .string (str [97]), .int .i64 1, .int .i64 0, .int .i64 1, .string (str [97]), .int .i64 1, .int .i64 9007199254740992, .int .i64 1, .string (str [97]), .int .i64 3, .int .i64 3, .int .i64 0, .string (str []), .int .i64 0, .int .i64 0] 28 :: L) w := s
  refine ⟨_, rfl, ?_⟩; clear ha; intro a ha
  refine st_val (.bool false) ha (by kernel_rfl) (by kernel_rfl) ?_
  clear ha; intro a ha
  refine wpList_nil ?_
  refine then_normal ?_
  refine wp_false ha rfl (by kernel_rfl) ?_
  refine wp_skip ?_
  refine block_normal ?_
  refine then_normal ?_
  refine wp_region_lit ?_
  refine st_val (.int .i64 2) ha (by kernel_rfl) (by kernel_rfl) ?_
  clear ha; intro a ha
  refine st_val (.int .i64 3) ha (by kernel_rfl) (by kernel_rfl) ?_
  clear ha; intro a ha
  refine st_val (.int .i64 3) ha (by kernel_rfl) (by kernel_rfl) ?_
  clear ha; intro a ha
  refine wpList_nil ?_
  refine then_normal ?_
  show Code.rounds _ _ _ 6 _ _
  rw [rounds_succ]
  refine wp_seq ?_
  refine wp_seq ?_
  refine wp_region_lit ?_
  refine st_val (.int .i64 3) ha (by kernel_rfl) (by kernel_rfl) ?_
  clear ha; intro a ha
  refine st_val (.slice (some ⟨g2, 0, none⟩) 8 8) ha (by kernel_rfl) (by kernel_rfl) ?_
  clear ha; intro a ha
  refine st_val (.int .i64 8) ha (by kernel_rfl) (by kernel_rfl) ?_
  clear ha; intro a ha
  refine st_val (.bool true) ha (by kernel_rfl) (by kernel_rfl) ?_
  clear ha; intro a ha
  refine wpList_nil ?_
  refine then_normal ?_
  refine wp_true ha rfl (by kernel_rfl) ?_
  refine wp_skip ?_
  refine then_normal ?_
  refine wp_seq ?_
  refine wp_block ?_
  refine wp_seq ?_
  refine wp_region_lit ?_
  refine st_val (.pointer (some ⟨g1, 0, none⟩)) ha (by kernel_rfl) (by kernel_rfl) ?_
  clear ha; intro a ha
  refine st_val (.slice (some ⟨g2, 0, none⟩) 8 8) ha (by kernel_rfl) (by kernel_rfl) ?_
  clear ha; intro a ha
  refine st_val (.int .i64 3) ha (by kernel_rfl) (by kernel_rfl) ?_
  clear ha; intro a ha
  refine st_val (.pointer (some ⟨g2, 12, none⟩)) ha (by kernel_rfl) (run_indexAddr (kd := .i64) (i := 3) (n := 8) (c := 8) 3 rfl Try.underlying37 Try.sizeOf28 (by kernel_rfl) (by kernel_rfl) rfl (by first | assumption | omega) _) ?_
  clear ha; intro a ha
  refine st_val (.agg #[.int .i64 1, .string (str [97]), .int .i64 9007199254740992, .int .i64 2]) ha (by kernel_rfl) (run_loadN (of_ := 12) [.int .i64 1, .string (str [97]), .int .i64 9007199254740992, .int .i64 2] (s.blkIs 1 rfl) rfl (by kernel_rfl) Try.isAgg28 Try.sizeOf28 rfl (Nat.le_of_ble_eq_true rfl)) ?_
  clear ha; intro a ha
  refine st_call ha (by kernel_rfl) (by kernel_rfl) (add_is W _ w g1 [] ⟨1, [97], 9007199254740992, 2⟩ 2 [] (by decide) (by decide) ⟨by decide, by decide⟩ s) ?_
  rintro _ w ⟨rfl, s⟩
  replace s : St W (Lob g1 [] :: .blk g2 [.int .i64 0, .string (str [97]), .int .i64 1, .int .i64 2, .int .i64 9007199254740992, .string (str [97]), .int .i64 1, .int .i64 2, .int .i64 1, .string (str [97]), .int .i64 0, .int .i64 2, .int .i64 1, .string (str [97]), .int .i64 9007199254740992, .int .i64 2, .int .i64 1, .string (str [97]), .int .i64 1, .int .i64 0, .int .i64 1, .string (str [97]), .int .i64 1, .int .i64 9007199254740992, .int .i64 1, .string (str [97]), .int .i64 3, .int .i64 3, .int .i64 0, .string (str []), .int .i64 0, .int .i64 0] 28 :: L) w := s
  refine ⟨_, rfl, ?_⟩; clear ha; intro a ha
  refine st_val (.bool false) ha (by kernel_rfl) (by kernel_rfl) ?_
  clear ha; intro a ha
  refine wpList_nil ?_
  refine then_normal ?_
  refine wp_false ha rfl (by kernel_rfl) ?_
  refine wp_skip ?_
  refine block_normal ?_
  refine then_normal ?_
  refine wp_region_lit ?_
  refine st_val (.int .i64 3) ha (by kernel_rfl) (by kernel_rfl) ?_
  clear ha; intro a ha
  refine st_val (.int .i64 4) ha (by kernel_rfl) (by kernel_rfl) ?_
  clear ha; intro a ha
  refine st_val (.int .i64 4) ha (by kernel_rfl) (by kernel_rfl) ?_
  clear ha; intro a ha
  refine wpList_nil ?_
  refine then_normal ?_
  show Code.rounds _ _ _ 5 _ _
  rw [rounds_succ]
  refine wp_seq ?_
  refine wp_seq ?_
  refine wp_region_lit ?_
  refine st_val (.int .i64 4) ha (by kernel_rfl) (by kernel_rfl) ?_
  clear ha; intro a ha
  refine st_val (.slice (some ⟨g2, 0, none⟩) 8 8) ha (by kernel_rfl) (by kernel_rfl) ?_
  clear ha; intro a ha
  refine st_val (.int .i64 8) ha (by kernel_rfl) (by kernel_rfl) ?_
  clear ha; intro a ha
  refine st_val (.bool true) ha (by kernel_rfl) (by kernel_rfl) ?_
  clear ha; intro a ha
  refine wpList_nil ?_
  refine then_normal ?_
  refine wp_true ha rfl (by kernel_rfl) ?_
  refine wp_skip ?_
  refine then_normal ?_
  refine wp_seq ?_
  refine wp_block ?_
  refine wp_seq ?_
  refine wp_region_lit ?_
  refine st_val (.pointer (some ⟨g1, 0, none⟩)) ha (by kernel_rfl) (by kernel_rfl) ?_
  clear ha; intro a ha
  refine st_val (.slice (some ⟨g2, 0, none⟩) 8 8) ha (by kernel_rfl) (by kernel_rfl) ?_
  clear ha; intro a ha
  refine st_val (.int .i64 4) ha (by kernel_rfl) (by kernel_rfl) ?_
  clear ha; intro a ha
  refine st_val (.pointer (some ⟨g2, 16, none⟩)) ha (by kernel_rfl) (run_indexAddr (kd := .i64) (i := 4) (n := 8) (c := 8) 4 rfl Try.underlying37 Try.sizeOf28 (by kernel_rfl) (by kernel_rfl) rfl (by first | assumption | omega) _) ?_
  clear ha; intro a ha
  refine st_val (.agg #[.int .i64 1, .string (str [97]), .int .i64 1, .int .i64 0]) ha (by kernel_rfl) (run_loadN (of_ := 16) [.int .i64 1, .string (str [97]), .int .i64 1, .int .i64 0] (s.blkIs 1 rfl) rfl (by kernel_rfl) Try.isAgg28 Try.sizeOf28 rfl (Nat.le_of_ble_eq_true rfl)) ?_
  clear ha; intro a ha
  refine st_call ha (by kernel_rfl) (by kernel_rfl) (add_is W _ w g1 [] ⟨1, [97], 1, 0⟩ 2 [] (by decide) (by decide) ⟨by decide, by decide⟩ s) ?_
  rintro _ w ⟨rfl, s⟩
  replace s : St W (Lob g1 [] :: .blk g2 [.int .i64 0, .string (str [97]), .int .i64 1, .int .i64 2, .int .i64 9007199254740992, .string (str [97]), .int .i64 1, .int .i64 2, .int .i64 1, .string (str [97]), .int .i64 0, .int .i64 2, .int .i64 1, .string (str [97]), .int .i64 9007199254740992, .int .i64 2, .int .i64 1, .string (str [97]), .int .i64 1, .int .i64 0, .int .i64 1, .string (str [97]), .int .i64 1, .int .i64 9007199254740992, .int .i64 1, .string (str [97]), .int .i64 3, .int .i64 3, .int .i64 0, .string (str []), .int .i64 0, .int .i64 0] 28 :: L) w := s
  refine ⟨_, rfl, ?_⟩; clear ha; intro a ha
  refine st_val (.bool false) ha (by kernel_rfl) (by kernel_rfl) ?_
  clear ha; intro a ha
  refine wpList_nil ?_
  refine then_normal ?_
  refine wp_false ha rfl (by kernel_rfl) ?_
  refine wp_skip ?_
  refine block_normal ?_
  refine then_normal ?_
  refine wp_region_lit ?_
  refine st_val (.int .i64 4) ha (by kernel_rfl) (by kernel_rfl) ?_
  clear ha; intro a ha
  refine st_val (.int .i64 5) ha (by kernel_rfl) (by kernel_rfl) ?_
  clear ha; intro a ha
  refine st_val (.int .i64 5) ha (by kernel_rfl) (by kernel_rfl) ?_
  clear ha; intro a ha
  refine wpList_nil ?_
  refine then_normal ?_
  show Code.rounds _ _ _ 4 _ _
  rw [rounds_succ]
  refine wp_seq ?_
  refine wp_seq ?_
  refine wp_region_lit ?_
  refine st_val (.int .i64 5) ha (by kernel_rfl) (by kernel_rfl) ?_
  clear ha; intro a ha
  refine st_val (.slice (some ⟨g2, 0, none⟩) 8 8) ha (by kernel_rfl) (by kernel_rfl) ?_
  clear ha; intro a ha
  refine st_val (.int .i64 8) ha (by kernel_rfl) (by kernel_rfl) ?_
  clear ha; intro a ha
  refine st_val (.bool true) ha (by kernel_rfl) (by kernel_rfl) ?_
  clear ha; intro a ha
  refine wpList_nil ?_
  refine then_normal ?_
  refine wp_true ha rfl (by kernel_rfl) ?_
  refine wp_skip ?_
  refine then_normal ?_
  refine wp_seq ?_
  refine wp_block ?_
  refine wp_seq ?_
  refine wp_region_lit ?_
  refine st_val (.pointer (some ⟨g1, 0, none⟩)) ha (by kernel_rfl) (by kernel_rfl) ?_
  clear ha; intro a ha
  refine st_val (.slice (some ⟨g2, 0, none⟩) 8 8) ha (by kernel_rfl) (by kernel_rfl) ?_
  clear ha; intro a ha
  refine st_val (.int .i64 5) ha (by kernel_rfl) (by kernel_rfl) ?_
  clear ha; intro a ha
  refine st_val (.pointer (some ⟨g2, 20, none⟩)) ha (by kernel_rfl) (run_indexAddr (kd := .i64) (i := 5) (n := 8) (c := 8) 5 rfl Try.underlying37 Try.sizeOf28 (by kernel_rfl) (by kernel_rfl) rfl (by first | assumption | omega) _) ?_
  clear ha; intro a ha
  refine st_val (.agg #[.int .i64 1, .string (str [97]), .int .i64 1, .int .i64 9007199254740992]) ha (by kernel_rfl) (run_loadN (of_ := 20) [.int .i64 1, .string (str [97]), .int .i64 1, .int .i64 9007199254740992] (s.blkIs 1 rfl) rfl (by kernel_rfl) Try.isAgg28 Try.sizeOf28 rfl (Nat.le_of_ble_eq_true rfl)) ?_
  clear ha; intro a ha
  refine st_call ha (by kernel_rfl) (by kernel_rfl) (add_is W _ w g1 [] ⟨1, [97], 1, 9007199254740992⟩ 2 [] (by decide) (by decide) ⟨by decide, by decide⟩ s) ?_
  rintro _ w ⟨rfl, s⟩
  replace s : St W (Lob g1 [] :: .blk g2 [.int .i64 0, .string (str [97]), .int .i64 1, .int .i64 2, .int .i64 9007199254740992, .string (str [97]), .int .i64 1, .int .i64 2, .int .i64 1, .string (str [97]), .int .i64 0, .int .i64 2, .int .i64 1, .string (str [97]), .int .i64 9007199254740992, .int .i64 2, .int .i64 1, .string (str [97]), .int .i64 1, .int .i64 0, .int .i64 1, .string (str [97]), .int .i64 1, .int .i64 9007199254740992, .int .i64 1, .string (str [97]), .int .i64 3, .int .i64 3, .int .i64 0, .string (str []), .int .i64 0, .int .i64 0] 28 :: L) w := s
  refine ⟨_, rfl, ?_⟩; clear ha; intro a ha
  refine st_val (.bool false) ha (by kernel_rfl) (by kernel_rfl) ?_
  clear ha; intro a ha
  refine wpList_nil ?_
  refine then_normal ?_
  refine wp_false ha rfl (by kernel_rfl) ?_
  refine wp_skip ?_
  refine block_normal ?_
  refine then_normal ?_
  refine wp_region_lit ?_
  refine st_val (.int .i64 5) ha (by kernel_rfl) (by kernel_rfl) ?_
  clear ha; intro a ha
  refine st_val (.int .i64 6) ha (by kernel_rfl) (by kernel_rfl) ?_
  clear ha; intro a ha
  refine st_val (.int .i64 6) ha (by kernel_rfl) (by kernel_rfl) ?_
  clear ha; intro a ha
  refine wpList_nil ?_
  refine then_normal ?_
  show Code.rounds _ _ _ 3 _ _
  rw [rounds_succ]
  refine wp_seq ?_
  refine wp_seq ?_
  refine wp_region_lit ?_
  refine st_val (.int .i64 6) ha (by kernel_rfl) (by kernel_rfl) ?_
  clear ha; intro a ha
  refine st_val (.slice (some ⟨g2, 0, none⟩) 8 8) ha (by kernel_rfl) (by kernel_rfl) ?_
  clear ha; intro a ha
  refine st_val (.int .i64 8) ha (by kernel_rfl) (by kernel_rfl) ?_
  clear ha; intro a ha
  refine st_val (.bool true) ha (by kernel_rfl) (by kernel_rfl) ?_
  clear ha; intro a ha
  refine wpList_nil ?_
  refine then_normal ?_
  refine wp_true ha rfl (by kernel_rfl) ?_
  refine wp_skip ?_
  refine then_normal ?_
  refine wp_seq ?_
  refine wp_block ?_
  refine wp_seq ?_
  refine wp_region_lit ?_
  refine st_val (.pointer (some ⟨g1, 0, none⟩)) ha (by kernel_rfl) (by kernel_rfl) ?_
  clear ha; intro a ha
  refine st_val (.slice (some ⟨g2, 0, none⟩) 8 8) ha (by kernel_rfl) (by kernel_rfl) ?_
  clear ha; intro a ha
  refine st_val (.int .i64 6) ha (by kernel_rfl) (by kernel_rfl) ?_
  clear ha; intro a ha
  refine st_val (.pointer (some ⟨g2, 24, none⟩)) ha (by kernel_rfl) (run_indexAddr (kd := .i64) (i := 6) (n := 8) (c := 8) 6 rfl Try.underlying37 Try.sizeOf28 (by kernel_rfl) (by kernel_rfl) rfl (by first | assumption | omega) _) ?_
  clear ha; intro a ha
  refine st_val (.agg #[.int .i64 1, .string (str [97]), .int .i64 3, .int .i64 3]) ha (by kernel_rfl) (run_loadN (of_ := 24) [.int .i64 1, .string (str [97]), .int .i64 3, .int .i64 3] (s.blkIs 1 rfl) rfl (by kernel_rfl) Try.isAgg28 Try.sizeOf28 rfl (Nat.le_of_ble_eq_true rfl)) ?_
  clear ha; intro a ha
  refine st_call ha (by kernel_rfl) (by kernel_rfl) (add_is W _ w g1 [] ⟨1, [97], 3, 3⟩ 2 [] (by decide) (by decide) ⟨by decide, by decide⟩ s) ?_
  rintro _ w ⟨rfl, s⟩
  replace s : St W (Lob g1 [] :: .blk g2 [.int .i64 0, .string (str [97]), .int .i64 1, .int .i64 2, .int .i64 9007199254740992, .string (str [97]), .int .i64 1, .int .i64 2, .int .i64 1, .string (str [97]), .int .i64 0, .int .i64 2, .int .i64 1, .string (str [97]), .int .i64 9007199254740992, .int .i64 2, .int .i64 1, .string (str [97]), .int .i64 1, .int .i64 0, .int .i64 1, .string (str [97]), .int .i64 1, .int .i64 9007199254740992, .int .i64 1, .string (str [97]), .int .i64 3, .int .i64 3, .int .i64 0, .string (str []), .int .i64 0, .int .i64 0] 28 :: L) w := s
  refine ⟨_, rfl, ?_⟩; clear ha; intro a ha
  refine st_val (.bool false) ha (by kernel_rfl) (by kernel_rfl) ?_
  clear ha; intro a ha
  refine wpList_nil ?_
  refine then_normal ?_
  refine wp_false ha rfl (by kernel_rfl) ?_
  refine wp_skip ?_
  refine block_normal ?_
  refine then_normal ?_
  refine wp_region_lit ?_
  refine st_val (.int .i64 6) ha (by kernel_rfl) (by kernel_rfl) ?_
  clear ha; intro a ha
  refine st_val (.int .i64 7) ha (by kernel_rfl) (by kernel_rfl) ?_
  clear ha; intro a ha
  refine st_val (.int .i64 7) ha (by kernel_rfl) (by kernel_rfl) ?_
  clear ha; intro a ha
  refine wpList_nil ?_
  refine then_normal ?_
  show Code.rounds _ _ _ 2 _ _
  rw [rounds_succ]
  refine wp_seq ?_
  refine wp_seq ?_
  refine wp_region_lit ?_
  refine st_val (.int .i64 7) ha (by kernel_rfl) (by kernel_rfl) ?_
  clear ha; intro a ha
  refine st_val (.slice (some ⟨g2, 0, none⟩) 8 8) ha (by kernel_rfl) (by kernel_rfl) ?_
  clear ha; intro a ha
  refine st_val (.int .i64 8) ha (by kernel_rfl) (by kernel_rfl) ?_
  clear ha; intro a ha
  refine st_val (.bool true) ha (by kernel_rfl) (by kernel_rfl) ?_
  clear ha; intro a ha
  refine wpList_nil ?_
  refine then_normal ?_
  refine wp_true ha rfl (by kernel_rfl) ?_
  refine wp_skip ?_
  refine then_normal ?_
  refine wp_seq ?_
  refine wp_block ?_
  refine wp_seq ?_
  refine wp_region_lit ?_
  refine st_val (.pointer (some ⟨g1, 0, none⟩)) ha (by kernel_rfl) (by kernel_rfl) ?_
  clear ha; intro a ha
  refine st_val (.slice (some ⟨g2, 0, none⟩) 8 8) ha (by kernel_rfl) (by kernel_rfl) ?_
  clear ha; intro a ha
  refine st_val (.int .i64 7) ha (by kernel_rfl) (by kernel_rfl) ?_
  clear ha; intro a ha
  refine st_val (.pointer (some ⟨g2, 28, none⟩)) ha (by kernel_rfl) (run_indexAddr (kd := .i64) (i := 7) (n := 8) (c := 8) 7 rfl Try.underlying37 Try.sizeOf28 (by kernel_rfl) (by kernel_rfl) rfl (by first | assumption | omega) _) ?_
  clear ha; intro a ha
  refine st_val (.agg #[.int .i64 0, .string (str []), .int .i64 0, .int .i64 0]) ha (by kernel_rfl) (run_loadN (of_ := 28) [.int .i64 0, .string (str []), .int .i64 0, .int .i64 0] (s.blkIs 1 rfl) rfl (by kernel_rfl) Try.isAgg28 Try.sizeOf28 rfl (Nat.le_of_ble_eq_true rfl)) ?_
  clear ha; intro a ha
  refine st_call ha (by kernel_rfl) (by kernel_rfl) (add_is W _ w g1 [] ⟨0, [], 0, 0⟩ 2 [] (by decide) (by decide) ⟨by decide, by decide⟩ s) ?_
  rintro _ w ⟨rfl, s⟩
  replace s : St W (Lob g1 [] :: .blk g2 [.int .i64 0, .string (str [97]), .int .i64 1, .int .i64 2, .int .i64 9007199254740992, .string (str [97]), .int .i64 1, .int .i64 2, .int .i64 1, .string (str [97]), .int .i64 0, .int .i64 2, .int .i64 1, .string (str [97]), .int .i64 9007199254740992, .int .i64 2, .int .i64 1, .string (str [97]), .int .i64 1, .int .i64 0, .int .i64 1, .string (str [97]), .int .i64 1, .int .i64 9007199254740992, .int .i64 1, .string (str [97]), .int .i64 3, .int .i64 3, .int .i64 0, .string (str []), .int .i64 0, .int .i64 0] 28 :: L) w := s
  refine ⟨_, rfl, ?_⟩; clear ha; intro a ha
  refine st_val (.bool false) ha (by kernel_rfl) (by kernel_rfl) ?_
  clear ha; intro a ha
  refine wpList_nil ?_
  refine then_normal ?_
  refine wp_false ha rfl (by kernel_rfl) ?_
  refine wp_skip ?_
  refine block_normal ?_
  refine then_normal ?_
  refine wp_region_lit ?_
  refine st_val (.int .i64 7) ha (by kernel_rfl) (by kernel_rfl) ?_
  clear ha; intro a ha
  refine st_val (.int .i64 8) ha (by kernel_rfl) (by kernel_rfl) ?_
  clear ha; intro a ha
  refine st_val (.int .i64 8) ha (by kernel_rfl) (by kernel_rfl) ?_
  clear ha; intro a ha
  refine wpList_nil ?_
  refine then_normal ?_
  show Code.rounds _ _ _ 1 _ _
  rw [rounds_succ]
  refine wp_seq ?_
  refine wp_seq ?_
  refine wp_region_lit ?_
  refine st_val (.int .i64 8) ha (by kernel_rfl) (by kernel_rfl) ?_
  clear ha; intro a ha
  refine st_val (.slice (some ⟨g2, 0, none⟩) 8 8) ha (by kernel_rfl) (by kernel_rfl) ?_
  clear ha; intro a ha
  refine st_val (.int .i64 8) ha (by kernel_rfl) (by kernel_rfl) ?_
  clear ha; intro a ha
  refine st_val (.bool false) ha (by kernel_rfl) (by kernel_rfl) ?_
  clear ha; intro a ha
  refine wpList_nil ?_
  refine then_normal ?_
  refine wp_false ha rfl (by kernel_rfl) ?_
  refine wp_exit ?_
  refine then_exit ?_
  refine then_exit ?_
  refine block_hit ?_
  refine then_normal ?_
  refine wp_seq ?_
  refine wp_seq ?_
  refine wp_region_lit ?_
  refine st_val (.int .i64 1) ha (by kernel_rfl) (by kernel_rfl) ?_
  clear ha; intro a ha
  refine wpList_nil ?_
  refine then_normal ?_
  refine wp_block ?_
  replace s : St W (Lob g1 [] :: L) w := St.mid (A := [Lob g1 []]) (B := [.blk g2 [.int .i64 0, .string (str [97]), .int .i64 1, .int .i64 2, .int .i64 9007199254740992, .string (str [97]), .int .i64 1, .int .i64 2, .int .i64 1, .string (str [97]), .int .i64 0, .int .i64 2, .int .i64 1, .string (str [97]), .int .i64 9007199254740992, .int .i64 2, .int .i64 1, .string (str [97]), .int .i64 1, .int .i64 0, .int .i64 1, .string (str [97]), .int .i64 1, .int .i64 9007199254740992, .int .i64 1, .string (str [97]), .int .i64 3, .int .i64 3, .int .i64 0, .string (str []), .int .i64 0, .int .i64 0] 28]) s
  replace s : St W (Lob g1 (seq 0) :: L) w := s
  refine wp_loopG (G := Nat) (fun k a w => Has a 161 [(1, .pointer (some ⟨g1, 0, none⟩)), (2, .int .i64 9007199254740991), (5, .int .i64 ((k + 1 : Nat) : Int))] ∧ St W (Lob g1 (seq k) :: L) w ∧ (k ≤ 64)) (fun k => 64 - k) 0 ?_ ?_
  · exact ⟨(Has.cons ha (by kernel_rfl) (by kernel_rfl) (Has.cons ha (by kernel_rfl) (by kernel_rfl) (Has.cons ha (by kernel_rfl) (by kernel_rfl) (Has.nil ha)))), s, Nat.zero_le _⟩
  · clear ha s; rintro k a w ⟨ha, s, hp⟩
    refine wp_seq ?_
    refine wp_seq ?_
    refine wp_region_lit ?_
    refine st_val (.int .i64 ((k + 1 : Nat) : Int)) ha (by kernel_rfl) (by kernel_rfl) ?_
    clear ha; intro a ha
    refine st_val (.bool (decide (((k + 1 : Nat) : Int) ≤ (64 : Int)))) ha (by kernel_rfl) (by kernel_rfl) ?_
    clear ha; intro a ha
    refine wpList_nil ?_
    refine then_normal ?_
    refine wp_part (decide (((k + 1 : Nat) : Int) ≤ (64 : Int))) ha rfl (by kernel_rfl) (fun hb => ?_) (fun hb => ?_)
    · rw [hb] at ha; replace hb : (((k + 1 : Nat) : Int) ≤ (64 : Int)) := of_decide_eq_true hb
      refine wp_skip ?_
      refine then_normal ?_
      refine wp_seq ?_
      refine wp_block ?_
      refine wp_seq ?_
      refine wp_region_lit ?_
      refine st_val (.pointer (some ⟨g1, 0, none⟩)) ha (by kernel_rfl) (by kernel_rfl) ?_
      clear ha; intro a ha
      refine st_val (.int .i64 ((k + 1 : Nat) : Int)) ha (by kernel_rfl) (by kernel_rfl) ?_
      clear ha; intro a ha
      refine st_val (.int .i64 ((k + 1 : Nat) : Int)) ha (by kernel_rfl) (by kernel_rfl) ?_
      clear ha; intro a ha
      refine st_val (.int .i64 ((k + 101 : Nat) : Int)) ha (by kernel_rfl) (run_arith (((k + 1 : Nat) : Int) + (100 : Int)) ((k + 101 : Nat) : Int) rfl (by kernel_rfl) (by kernel_rfl) (.inl ⟨rfl, rfl⟩) (by rw [wrap64_in (by omega)]; try omega) _) ?_
      clear ha; intro a ha
      refine st_call ha (by kernel_rfl) (by kernel_rfl) (wait_any W _ w ((k + 1 : Nat) : Int) ((k + 101 : Nat) : Int) 1 [107] s) ?_
      rintro _ w ⟨rfl, s⟩
      replace s : St W (Lob g1 (seq k) :: L) w := s
      refine ⟨_, rfl, ?_⟩; clear ha; intro a ha
      refine st_call ha (by kernel_rfl) (by kernel_rfl) (add_is W _ w g1 (seq k) (sq k) 0 (seq (k + 1)) (seq_add (by omega)).1 (seq_add (by omega)).2 (seq_fine (by omega)) s) ?_
      rintro _ w ⟨rfl, s⟩
      replace s : St W (Lob g1 (seq (k + 1)) :: L) w := s
      refine ⟨_, rfl, ?_⟩; clear ha; intro a ha
      refine st_val (.bool false) ha (by kernel_rfl) (by kernel_rfl) ?_
      clear ha; intro a ha
      refine wpList_nil ?_
      refine then_normal ?_
      refine wp_false ha rfl (by kernel_rfl) ?_
      refine wp_skip ?_
      refine block_normal ?_
      refine then_normal ?_
      refine wp_region_lit ?_
      refine st_val (.int .i64 ((k + 1 : Nat) : Int)) ha (by kernel_rfl) (by kernel_rfl) ?_
      clear ha; intro a ha
      refine st_val (.int .i64 ((k + 2 : Nat) : Int)) ha (by kernel_rfl) (run_arith (((k + 1 : Nat) : Int) + (1 : Int)) ((k + 2 : Nat) : Int) rfl (by kernel_rfl) (by kernel_rfl) (.inl ⟨rfl, rfl⟩) (by rw [wrap64_in (by omega)]; try omega) _) ?_
      clear ha; intro a ha
      refine st_val (.int .i64 ((k + 2 : Nat) : Int)) ha (by kernel_rfl) (by kernel_rfl) ?_
      clear ha; intro a ha
      refine wpList_nil ?_
      refine then_normal ?_
      exact ⟨k + 1, by omega, (Has.cons ha (by kernel_rfl) (by kernel_rfl) (Has.cons ha (by kernel_rfl) (by kernel_rfl) (Has.cons ha (by kernel_rfl) (by kernel_rfl) (Has.nil ha)))), s, by omega⟩
    · rw [hb] at ha; replace hb : ¬ (((k + 1 : Nat) : Int) ≤ (64 : Int)) := of_decide_eq_false hb
      obtain rfl : k = 64 := by omega
      replace s : St W (Lob g1 (seq 64) :: L) w := s
      refine wp_exit ?_
      refine then_exit ?_
      refine then_exit ?_
      refine block_hit ?_
      refine then_normal ?_
      refine wp_seq ?_
      refine wp_region_lit ?_
      refine st_val (.pointer (some ⟨g1, 0, none⟩)) ha (by kernel_rfl) (by kernel_rfl) ?_
      clear ha; intro a ha
      refine st_call ha (by kernel_rfl) (by kernel_rfl) (wait_any W _ w 65 1 2 [107] s) ?_
      rintro _ w ⟨rfl, s⟩
      replace s : St W (Lob g1 (seq 64) :: L) w := s
      refine ⟨_, rfl, ?_⟩; clear ha; intro a ha
      refine st_call ha (by kernel_rfl) (by kernel_rfl) (add_is W _ w g1 (seq 64) w65 7 (seq 64) add_65 (add_no add_65 (by decide)) (seq_fine (by omega)) s) ?_
      rintro _ w ⟨rfl, s⟩
      replace s : St W (Lob g1 (seq 64) :: L) w := s
      refine ⟨_, rfl, ?_⟩; clear ha; intro a ha
      refine st_val (.bool true) ha (by kernel_rfl) (by kernel_rfl) ?_
      clear ha; intro a ha
      refine st_val (.bool true) ha (by kernel_rfl) (by kernel_rfl) ?_
      clear ha; intro a ha
      refine st_val (.pointer (some ⟨g1, 0, none⟩)) ha (by kernel_rfl) (by kernel_rfl) ?_
      clear ha; intro a ha
      refine st_call ha (by kernel_rfl) (by kernel_rfl) (wait_any W _ w 64 1 2 [107] s) ?_
      rintro _ w ⟨rfl, s⟩
      replace s : St W (Lob g1 (seq 64) :: L) w := s
      refine ⟨_, rfl, ?_⟩; clear ha; intro a ha
      refine st_call ha (by kernel_rfl) (by kernel_rfl) (add_is W _ w g1 (seq 64) w64 2 (seq 64) add_64 (add_no add_64 (by decide)) (seq_fine (by omega)) s) ?_
      rintro _ w ⟨rfl, s⟩
      replace s : St W (Lob g1 (seq 64) :: L) w := s
      refine ⟨_, rfl, ?_⟩; clear ha; intro a ha
      refine st_val (.bool true) ha (by kernel_rfl) (by kernel_rfl) ?_
      clear ha; intro a ha
      refine st_val (.bool true) ha (by kernel_rfl) (by kernel_rfl) ?_
      clear ha; intro a ha
      refine st_val (.bool true) ha (by kernel_rfl) (by kernel_rfl) ?_
      clear ha; intro a ha
      refine st_val (.pointer (some ⟨g1, 0, none⟩)) ha (by kernel_rfl) (by kernel_rfl) ?_
      clear ha; intro a ha
      refine st_call ha (by kernel_rfl) (by kernel_rfl) (len_is W _ w g1 (seq 64) 64 (seq_len 64) (seq_fine (by omega)) s) ?_
      rintro _ w ⟨rfl, s⟩
      replace s : St W (Lob g1 (seq 64) :: L) w := s
      refine ⟨_, rfl, ?_⟩; clear ha; intro a ha
      refine st_val (.bool true) ha (by kernel_rfl) (by kernel_rfl) ?_
      clear ha; intro a ha
      refine st_val (.bool true) ha (by kernel_rfl) (by kernel_rfl) ?_
      clear ha; intro a ha
      refine st_val (.bool true) ha (by kernel_rfl) (by kernel_rfl) ?_
      clear ha; intro a ha
      refine wpList_nil ?_
      refine then_normal ?_
      refine wp_seq ?_
      refine wp_region_lit ?_
      refine st_val (.pointer (some ⟨g1, 0, none⟩)) ha (by kernel_rfl) (by kernel_rfl) ?_
      clear ha; intro a ha
      refine st_call ha (by kernel_rfl) (by kernel_rfl) (take_is W _ w g1 (seq 64) 64 (sq 63) true (seq 63) (by rw [take_64.1]; rfl) (by rw [take_64.1]; rfl) take_64.2 (seq_fine (by omega)) s) ?_
      rintro _ w ⟨rfl, s⟩
      replace s : St W (Lob g1 (seq 63) :: L) w := s
      refine ⟨_, rfl, ?_⟩; clear ha; intro a ha
      refine st_val (.tuple #[.agg #[.int .i64 64, .string (str [107]), .int .i64 164, .int .i64 1], .bool true]) ha (by kernel_rfl) (by kernel_rfl) ?_
      clear ha; intro a ha
      refine st_val (.agg #[.int .i64 64, .string (str [107]), .int .i64 164, .int .i64 1]) ha (by kernel_rfl) (by kernel_rfl) ?_
      clear ha; intro a ha
      refine st_val (.bool true) ha (by kernel_rfl) (by kernel_rfl) ?_
      clear ha; intro a ha
      refine st_ex ha (by kernel_rfl) (ex_alloc [.int .i64 0, .string (str []), .int .i64 0, .int .i64 0] s rfl (Try.zeroValue28 _) (by kernel_rfl)) ?_
      clear ha; rintro _ w a ⟨g3, rfl, s⟩ ha
      replace s : St W (.blk g3 [.int .i64 0, .string (str []), .int .i64 0, .int .i64 0] 28 :: Lob g1 (seq 63) :: L) w := s
      refine st_exd ha (by kernel_rfl) (ex_store (of_ := 0) 0 [.int .i64 64, .string (str [107]), .int .i64 164, .int .i64 1] s rfl rfl (by kernel_rfl) (by kernel_rfl) (Try.sizeOf28 _) rfl (by simp [Value.oneCell']) (Nat.le_of_ble_eq_true rfl)) ?_
      clear ha; rintro w a s ha
      replace s : St W (.blk g3 [.int .i64 64, .string (str [107]), .int .i64 164, .int .i64 1] 28 :: Lob g1 (seq 63) :: L) w := s
      refine st_val (.bool true) ha (by kernel_rfl) (by kernel_rfl) ?_
      clear ha; intro a ha
      refine wpList_nil ?_
      refine then_normal ?_
      refine wp_seq ?_
      refine wp_region_head 11 (fun w => BlkIs g3 [.int .i64 64, .string (str [107]), .int .i64 164, .int .i64 1] w ∧ True) (by kernel_rfl) (by decide) ?_
      replace s := s.drew; generalize _root_.Go.World.drew _ = w at s ⊢
      have hS : (fun w => BlkIs g3 [.int .i64 64, .string (str [107]), .int .i64 164, .int .i64 1] w ∧ True) w := ⟨s.blkIs 0 rfl, trivial⟩
      refine hd_val (i := 0) (.bool true) ha rfl (by kernel_rfl) (fun _ _ _ h => h) (by kernel_rfl) (fun w hS => (by kernel_rfl)) hS ?_
      clear ha; intro a ha
      refine hd_val (i := 1) (.bool true) ha rfl (by kernel_rfl) (fun _ _ _ h => h) (by kernel_rfl) (fun w hS => (by kernel_rfl)) hS ?_
      clear ha; intro a ha
      refine hd_val (i := 2) (.agg #[.int .i64 64, .string (str [107]), .int .i64 164, .int .i64 1]) ha rfl (by kernel_rfl) (fun _ _ _ h => h) (by kernel_rfl) (fun w hS => run_loadN (of_ := 0) [.int .i64 64, .string (str [107]), .int .i64 164, .int .i64 1] hS.1 rfl (by kernel_rfl) Try.isAgg28 Try.sizeOf28 rfl (Nat.le_of_ble_eq_true rfl)) hS ?_
      clear ha; intro a ha
      refine hd_call (i := 3) ha rfl (by kernel_rfl) (by kernel_rfl) (by kernel_rfl) (wait_any W _ w 64 164 1 [107] s) ?_
      clear hS; rintro _ w ⟨rfl, s⟩
      replace s : St W (.blk g3 [.int .i64 64, .string (str [107]), .int .i64 164, .int .i64 1] 28 :: Lob g1 (seq 63) :: L) w := s
      have hS : (fun w => BlkIs g3 [.int .i64 64, .string (str [107]), .int .i64 164, .int .i64 1] w ∧ True) w := ⟨s.blkIs 0 rfl, trivial⟩
      refine ⟨_, rfl, hS, ?_⟩; clear ha; intro a ha
      refine hd_val (i := 4) (.bool true) ha rfl (by kernel_rfl) (fun _ _ _ h => h) (by kernel_rfl) (fun w hS => (run_known (show (if BinOp.eql = .eql then decide ((⟨64, [107], 164, 1⟩ : Wt) = ⟨64, [107], 164, 1⟩) else decide ((⟨64, [107], 164, 1⟩ : Wt) ≠ ⟨64, [107], 164, 1⟩)) = true from by decide) (run_wt (x := ⟨64, [107], 164, 1⟩) (y := ⟨64, [107], 164, 1⟩) (.inl rfl) rfl (by kernel_rfl) (by kernel_rfl) _))) hS ?_
      clear ha; intro a ha
      refine hd_val (i := 5) (.bool true) ha rfl (by kernel_rfl) (fun _ _ _ h => h) (by kernel_rfl) (fun w hS => (by kernel_rfl)) hS ?_
      clear ha; intro a ha
      refine hd_val (i := 6) (.bool true) ha rfl (by kernel_rfl) (fun _ _ _ h => h) (by kernel_rfl) (fun w hS => (by kernel_rfl)) hS ?_
      clear ha; intro a ha
      refine hd_val (i := 7) (.pointer (some ⟨g1, 0, none⟩)) ha rfl (by kernel_rfl) (fun _ _ _ h => h) (by kernel_rfl) (fun w hS => (by kernel_rfl)) hS ?_
      clear ha; intro a ha
      refine hd_val (i := 8) (.int .i64 9007199254740991) ha rfl (by kernel_rfl) (fun _ _ _ h => h) (by kernel_rfl) (fun w hS => (by kernel_rfl)) hS ?_
      clear ha; intro a ha
      refine hd_val (i := 9) (.int .i64 9007199254740991) ha rfl (by kernel_rfl) (fun _ _ _ h => h) (by kernel_rfl) (fun w hS => (by kernel_rfl)) hS ?_
      clear ha; intro a ha
      refine hd_call (i := 10) ha rfl (by kernel_rfl) (by kernel_rfl) (by kernel_rfl) (wait_any W _ w 9007199254740991 9007199254740991 2 [] s) ?_
      clear hS; rintro _ w ⟨rfl, s⟩
      replace s : St W (.blk g3 [.int .i64 64, .string (str [107]), .int .i64 164, .int .i64 1] 28 :: Lob g1 (seq 63) :: L) w := s
      have hS : (fun w => BlkIs g3 [.int .i64 64, .string (str [107]), .int .i64 164, .int .i64 1] w ∧ True) w := ⟨s.blkIs 0 rfl, trivial⟩
      refine ⟨_, rfl, hS, ?_⟩; clear ha; intro a ha
      refine Head.done (by kernel_rfl) ?_
      clear hS; simp only [List.drop_succ_cons, List.drop_zero]
      replace s := s.at_ (j := 1) rfl
      replace s : St W (Lob g1 (seq 63) :: .blk g3 [.int .i64 64, .string (str [107]), .int .i64 164, .int .i64 1] 28 :: L) w := s
      refine st_call ha (by kernel_rfl) (by kernel_rfl) (add_is W _ w g1 (seq 63) wbig 0 (seq 63 ++ [wbig]) add_big.1 add_big.2 (seq_fine (by omega)) s) ?_
      rintro _ w ⟨rfl, s⟩
      replace s : St W (Lob g1 (seq 63 ++ [wbig]) :: .blk g3 [.int .i64 64, .string (str [107]), .int .i64 164, .int .i64 1] 28 :: L) w := s
      refine ⟨_, rfl, ?_⟩; clear ha; intro a ha
      refine st_val (.bool true) ha (by kernel_rfl) (by kernel_rfl) ?_
      clear ha; intro a ha
      refine st_val (.bool true) ha (by kernel_rfl) (by kernel_rfl) ?_
      clear ha; intro a ha
      refine st_val (.bool true) ha (by kernel_rfl) (by kernel_rfl) ?_
      clear ha; intro a ha
      refine st_val (.pointer (some ⟨g1, 0, none⟩)) ha (by kernel_rfl) (by kernel_rfl) ?_
      clear ha; intro a ha
      refine st_call ha (by kernel_rfl) (by kernel_rfl) (at_is W _ w g1 (seq 63 ++ [wbig]) [] 2 [wbig] (seq 63) at_empty.1 at_empty.2 fine_big s) ?_
      rintro _ w ⟨A4, c5, rfl, s⟩
      replace s : St W (Own 28 4 A4 1 c5 (ws [wbig]) :: Lob g1 (seq 63) :: .blk g3 [.int .i64 64, .string (str [107]), .int .i64 164, .int .i64 1] 28 :: L) w := s
      refine ⟨_, rfl, ?_⟩; clear ha; intro a ha
      refine st_val (.int .i64 1) ha (by kernel_rfl) (by kernel_rfl) ?_
      clear ha; intro a ha
      refine st_val (.bool true) ha (by kernel_rfl) (by kernel_rfl) ?_
      clear ha; intro a ha
      refine st_val (.bool true) ha (by kernel_rfl) (by kernel_rfl) ?_
      clear ha; intro a ha
      refine st_val (.bool true) ha (by kernel_rfl) (by kernel_rfl) ?_
      clear ha; intro a ha
      refine st_val (.pointer (some ⟨g1, 0, none⟩)) ha (by kernel_rfl) (by kernel_rfl) ?_
      clear ha; intro a ha
      replace s := s.at_ (j := 1) rfl
      replace s : St W (Lob g1 (seq 63) :: Own 28 4 A4 1 c5 (ws [wbig]) :: .blk g3 [.int .i64 64, .string (str [107]), .int .i64 164, .int .i64 1] 28 :: L) w := s
      refine st_call ha (by kernel_rfl) (by kernel_rfl) (at_is W _ w g1 (seq 63) [107] 2 [] (seq 63) at_k.1 at_k.2 (seq_fine (by omega)) s) ?_
      rintro _ w ⟨A6, c7, rfl, s⟩
      replace s : St W (Own 28 4 A6 0 c7 (ws []) :: Lob g1 (seq 63) :: Own 28 4 A4 1 c5 (ws [wbig]) :: .blk g3 [.int .i64 64, .string (str [107]), .int .i64 164, .int .i64 1] 28 :: L) w := s
      refine ⟨_, rfl, ?_⟩; clear ha; intro a ha
      refine st_val (.int .i64 0) ha (by kernel_rfl) (by kernel_rfl) ?_
      clear ha; intro a ha
      refine st_val (.bool true) ha (by kernel_rfl) (by kernel_rfl) ?_
      clear ha; intro a ha
      refine st_val (.bool true) ha (by kernel_rfl) (by kernel_rfl) ?_
      clear ha; intro a ha
      refine st_val (.bool true) ha (by kernel_rfl) (by kernel_rfl) ?_
      clear ha; intro a ha
      refine st_val (.pointer (some ⟨g1, 0, none⟩)) ha (by kernel_rfl) (by kernel_rfl) ?_
      clear ha; intro a ha
      replace s := s.at_ (j := 1) rfl
      replace s : St W (Lob g1 (seq 63) :: Own 28 4 A6 0 c7 (ws []) :: Own 28 4 A4 1 c5 (ws [wbig]) :: .blk g3 [.int .i64 64, .string (str [107]), .int .i64 164, .int .i64 1] 28 :: L) w := s
      refine st_call ha (by kernel_rfl) (by kernel_rfl) (free_is W _ w g1 (seq 63) 1 (seq 63) [] free_1.1 free_1.2 (seq_fine (by omega)) s) ?_
      rintro _ w ⟨A8, c9, rfl, s⟩
      skip
      replace s : St W (Own 28 4 A8 ((seq 63).length) c9 (ws (seq 63)) :: Lob g1 [] :: Own 28 4 A6 0 c7 (ws []) :: Own 28 4 A4 1 c5 (ws [wbig]) :: .blk g3 [.int .i64 64, .string (str [107]), .int .i64 164, .int .i64 1] 28 :: L) w := s
      refine ⟨_, rfl, ?_⟩; clear ha; intro a ha
      refine st_val (.int .i64 (((seq 63).length : Nat) : Int)) ha (by kernel_rfl) (by kernel_rfl) ?_
      clear ha; intro a ha
      refine st_val (.bool true) ha (by kernel_rfl) (run_known (show ((((seq 63).length : Nat) : Int) == (63 : Int)) = true from by rw [seq_len]; rfl) (by kernel_rfl)) ?_
      clear ha; intro a ha
      refine st_val (.bool true) ha (by kernel_rfl) (by kernel_rfl) ?_
      clear ha; intro a ha
      refine st_val (.bool true) ha (by kernel_rfl) (by kernel_rfl) ?_
      clear ha; intro a ha
      refine wpList_nil ?_
      refine then_normal ?_
      refine wp_seq ?_
      refine wp_region_lit ?_
      refine st_val (.pointer none) ha (by kernel_rfl) (by kernel_rfl) ?_
      clear ha; intro a ha
      refine wpList_nil ?_
      refine then_normal ?_
      refine wp_seq ?_
      refine wp_seq ?_
      refine wp_region_lit ?_
      refine st_val (.int .i64 0) ha (by kernel_rfl) (by kernel_rfl) ?_
      clear ha; intro a ha
      refine wpList_nil ?_
      refine then_normal ?_
      refine wp_block ?_
      refine wp_loop_rounds 3 ?_
      show Code.rounds _ _ _ 3 _ _
      rw [rounds_succ]
      refine wp_seq ?_
      refine wp_seq ?_
      refine wp_region_lit ?_
      refine st_val (.int .i64 0) ha (by kernel_rfl) (by kernel_rfl) ?_
      clear ha; intro a ha
      refine st_val (.bool true) ha (by kernel_rfl) (by kernel_rfl) ?_
      clear ha; intro a ha
      refine wpList_nil ?_
      refine then_normal ?_
      refine wp_true ha rfl (by kernel_rfl) ?_
      refine wp_skip ?_
      refine then_normal ?_
      refine wp_seq ?_
      refine wp_block ?_
      refine wp_seq ?_
      refine wp_region_lit ?_
      refine st_val (.pointer none) ha (by kernel_rfl) (by kernel_rfl) ?_
      clear ha; intro a ha
      refine st_call ha (by kernel_rfl) (by kernel_rfl) (take_nil W _ w 1 s) ?_
      rintro _ w ⟨rfl, s⟩
      replace s : St W (Own 28 4 A8 ((seq 63).length) c9 (ws (seq 63)) :: Lob g1 [] :: Own 28 4 A6 0 c7 (ws []) :: Own 28 4 A4 1 c5 (ws [wbig]) :: .blk g3 [.int .i64 64, .string (str [107]), .int .i64 164, .int .i64 1] 28 :: L) w := s
      refine ⟨_, rfl, ?_⟩; clear ha; intro a ha
      refine st_val (.tuple #[.agg #[.int .i64 0, .string (str []), .int .i64 0, .int .i64 0], .bool false]) ha (by kernel_rfl) (by kernel_rfl) ?_
      clear ha; intro a ha
      refine st_val (.agg #[.int .i64 0, .string (str []), .int .i64 0, .int .i64 0]) ha (by kernel_rfl) (by kernel_rfl) ?_
      clear ha; intro a ha
      refine st_val (.bool false) ha (by kernel_rfl) (by kernel_rfl) ?_
      clear ha; intro a ha
      refine st_ex ha (by kernel_rfl) (ex_alloc [.int .i64 0, .string (str []), .int .i64 0, .int .i64 0] s rfl (Try.zeroValue28 _) (by kernel_rfl)) ?_
      clear ha; rintro _ w a ⟨g10, rfl, s⟩ ha
      replace s : St W (.blk g10 [.int .i64 0, .string (str []), .int .i64 0, .int .i64 0] 28 :: Own 28 4 A8 ((seq 63).length) c9 (ws (seq 63)) :: Lob g1 [] :: Own 28 4 A6 0 c7 (ws []) :: Own 28 4 A4 1 c5 (ws [wbig]) :: .blk g3 [.int .i64 64, .string (str [107]), .int .i64 164, .int .i64 1] 28 :: L) w := s
      refine st_exd ha (by kernel_rfl) (ex_store (of_ := 0) 0 [.int .i64 0, .string (str []), .int .i64 0, .int .i64 0] s rfl rfl (by kernel_rfl) (by kernel_rfl) (Try.sizeOf28 _) rfl (by simp [Value.oneCell']) (Nat.le_of_ble_eq_true rfl)) ?_
      clear ha; rintro w a s ha
      replace s : St W (.blk g10 [.int .i64 0, .string (str []), .int .i64 0, .int .i64 0] 28 :: Own 28 4 A8 ((seq 63).length) c9 (ws (seq 63)) :: Lob g1 [] :: Own 28 4 A6 0 c7 (ws []) :: Own 28 4 A4 1 c5 (ws [wbig]) :: .blk g3 [.int .i64 64, .string (str [107]), .int .i64 164, .int .i64 1] 28 :: L) w := s
      refine st_val (.bool false) ha (by kernel_rfl) (by kernel_rfl) ?_
      clear ha; intro a ha
      refine wpList_nil ?_
      refine then_normal ?_
      refine wp_seq ?_
      refine wp_seq ?_
      refine wp_region_lit ?_
      refine st_val (.pointer none) ha (by kernel_rfl) (by kernel_rfl) ?_
      clear ha; intro a ha
      refine st_call ha (by kernel_rfl) (by kernel_rfl) (wait_any W _ w 1 1 2 [97] s) ?_
      rintro _ w ⟨rfl, s⟩
      replace s : St W (.blk g10 [.int .i64 0, .string (str []), .int .i64 0, .int .i64 0] 28 :: Own 28 4 A8 ((seq 63).length) c9 (ws (seq 63)) :: Lob g1 [] :: Own 28 4 A6 0 c7 (ws []) :: Own 28 4 A4 1 c5 (ws [wbig]) :: .blk g3 [.int .i64 64, .string (str [107]), .int .i64 164, .int .i64 1] 28 :: L) w := s
      refine ⟨_, rfl, ?_⟩; clear ha; intro a ha
      refine st_call ha (by kernel_rfl) (by kernel_rfl) (add_nil W _ w ⟨1, [97], 1, 2⟩ s) ?_
      rintro _ w ⟨rfl, s⟩
      replace s : St W (.blk g10 [.int .i64 0, .string (str []), .int .i64 0, .int .i64 0] 28 :: Own 28 4 A8 ((seq 63).length) c9 (ws (seq 63)) :: Lob g1 [] :: Own 28 4 A6 0 c7 (ws []) :: Own 28 4 A4 1 c5 (ws [wbig]) :: .blk g3 [.int .i64 64, .string (str [107]), .int .i64 164, .int .i64 1] 28 :: L) w := s
      refine ⟨_, rfl, ?_⟩; clear ha; intro a ha
      refine st_val (.bool false) ha (by kernel_rfl) (by kernel_rfl) ?_
      clear ha; intro a ha
      refine st_val (.bool false) ha (by kernel_rfl) (by kernel_rfl) ?_
      clear ha; intro a ha
      refine st_val (.bool false) ha (by kernel_rfl) (by kernel_rfl) ?_
      clear ha; intro a ha
      refine st_val (.bool false) ha (by kernel_rfl) (by kernel_rfl) ?_
      clear ha; intro a ha
      refine st_val (.bool false) ha (by kernel_rfl) (by kernel_rfl) ?_
      clear ha; intro a ha
      refine st_val (.pointer none) ha (by kernel_rfl) (by kernel_rfl) ?_
      clear ha; intro a ha
      refine st_call ha (by kernel_rfl) (by kernel_rfl) (free_nil W _ w 1 s) ?_
      rintro _ w ⟨rfl, s⟩
      replace s : St W (.blk g10 [.int .i64 0, .string (str []), .int .i64 0, .int .i64 0] 28 :: Own 28 4 A8 ((seq 63).length) c9 (ws (seq 63)) :: Lob g1 [] :: Own 28 4 A6 0 c7 (ws []) :: Own 28 4 A4 1 c5 (ws [wbig]) :: .blk g3 [.int .i64 64, .string (str [107]), .int .i64 164, .int .i64 1] 28 :: L) w := s
      refine ⟨_, rfl, ?_⟩; clear ha; intro a ha
      refine st_val (.int .i64 0) ha (by kernel_rfl) (by kernel_rfl) ?_
      clear ha; intro a ha
      refine st_val (.bool false) ha (by kernel_rfl) (by kernel_rfl) ?_
      clear ha; intro a ha
      refine st_val (.bool false) ha (by kernel_rfl) (by kernel_rfl) ?_
      clear ha; intro a ha
      refine st_val (.bool false) ha (by kernel_rfl) (by kernel_rfl) ?_
      clear ha; intro a ha
      refine st_val (.pointer none) ha (by kernel_rfl) (by kernel_rfl) ?_
      clear ha; intro a ha
      refine st_call ha (by kernel_rfl) (by kernel_rfl) (at_nil W _ w [97] 1 s) ?_
      rintro _ w ⟨rfl, s⟩
      replace s : St W (.blk g10 [.int .i64 0, .string (str []), .int .i64 0, .int .i64 0] 28 :: Own 28 4 A8 ((seq 63).length) c9 (ws (seq 63)) :: Lob g1 [] :: Own 28 4 A6 0 c7 (ws []) :: Own 28 4 A4 1 c5 (ws [wbig]) :: .blk g3 [.int .i64 64, .string (str [107]), .int .i64 164, .int .i64 1] 28 :: L) w := s
      refine ⟨_, rfl, ?_⟩; clear ha; intro a ha
      refine st_val (.int .i64 0) ha (by kernel_rfl) (by kernel_rfl) ?_
      clear ha; intro a ha
      refine st_val (.bool false) ha (by kernel_rfl) (by kernel_rfl) ?_
      clear ha; intro a ha
      refine st_val (.bool false) ha (by kernel_rfl) (by kernel_rfl) ?_
      clear ha; intro a ha
      refine st_val (.bool false) ha (by kernel_rfl) (by kernel_rfl) ?_
      clear ha; intro a ha
      refine st_val (.pointer none) ha (by kernel_rfl) (by kernel_rfl) ?_
      clear ha; intro a ha
      refine st_call ha (by kernel_rfl) (by kernel_rfl) (edges_nil W _ w s) ?_
      rintro _ w ⟨rfl, s⟩
      replace s : St W (.blk g10 [.int .i64 0, .string (str []), .int .i64 0, .int .i64 0] 28 :: Own 28 4 A8 ((seq 63).length) c9 (ws (seq 63)) :: Lob g1 [] :: Own 28 4 A6 0 c7 (ws []) :: Own 28 4 A4 1 c5 (ws [wbig]) :: .blk g3 [.int .i64 64, .string (str [107]), .int .i64 164, .int .i64 1] 28 :: L) w := s
      refine ⟨_, rfl, ?_⟩; clear ha; intro a ha
      refine st_val (.int .i64 0) ha (by kernel_rfl) (by kernel_rfl) ?_
      clear ha; intro a ha
      refine st_val (.bool false) ha (by kernel_rfl) (by kernel_rfl) ?_
      clear ha; intro a ha
      refine st_val (.bool false) ha (by kernel_rfl) (by kernel_rfl) ?_
      clear ha; intro a ha
      refine st_val (.bool false) ha (by kernel_rfl) (by kernel_rfl) ?_
      clear ha; intro a ha
      refine st_val (.pointer none) ha (by kernel_rfl) (by kernel_rfl) ?_
      clear ha; intro a ha
      refine st_call ha (by kernel_rfl) (by kernel_rfl) (len_nil W _ w s) ?_
      rintro _ w ⟨rfl, s⟩
      replace s : St W (.blk g10 [.int .i64 0, .string (str []), .int .i64 0, .int .i64 0] 28 :: Own 28 4 A8 ((seq 63).length) c9 (ws (seq 63)) :: Lob g1 [] :: Own 28 4 A6 0 c7 (ws []) :: Own 28 4 A4 1 c5 (ws [wbig]) :: .blk g3 [.int .i64 64, .string (str [107]), .int .i64 164, .int .i64 1] 28 :: L) w := s
      refine ⟨_, rfl, ?_⟩; clear ha; intro a ha
      refine st_val (.bool false) ha (by kernel_rfl) (by kernel_rfl) ?_
      clear ha; intro a ha
      refine st_val (.bool false) ha (by kernel_rfl) (by kernel_rfl) ?_
      clear ha; intro a ha
      refine wpList_nil ?_
      refine then_normal ?_
      refine wp_false ha rfl (by kernel_rfl) ?_
      refine wp_skip ?_
      refine then_normal ?_
      refine wp_region_lit ?_
      refine st_val (.agg #[.bool false, .slice none 0 0]) ha (by kernel_rfl) (by kernel_rfl) ?_
      clear ha; intro a ha
      refine st_ex ha (by kernel_rfl) (ex_box [.bool false, .slice none 0 0] s rfl (by kernel_rfl)) ?_
      clear ha; rintro _ w a ⟨g11, rfl, s⟩ ha
      replace s : St W (.blk g11 [.bool false, .slice none 0 0] 62 :: .blk g10 [.int .i64 0, .string (str []), .int .i64 0, .int .i64 0] 28 :: Own 28 4 A8 ((seq 63).length) c9 (ws (seq 63)) :: Lob g1 [] :: Own 28 4 A6 0 c7 (ws []) :: Own 28 4 A4 1 c5 (ws [wbig]) :: .blk g3 [.int .i64 64, .string (str [107]), .int .i64 164, .int .i64 1] 28 :: L) w := s
      refine st_val (.pointer (some ⟨g11, 0, none⟩)) ha (by kernel_rfl) (by kernel_rfl) ?_
      clear ha; intro a ha
      refine wpList_nil ?_
      refine block_normal ?_
      refine then_normal ?_
      refine wp_region_lit ?_
      refine st_val (.int .i64 0) ha (by kernel_rfl) (by kernel_rfl) ?_
      clear ha; intro a ha
      refine st_val (.int .i64 1) ha (by kernel_rfl) (by kernel_rfl) ?_
      clear ha; intro a ha
      refine st_val (.int .i64 1) ha (by kernel_rfl) (by kernel_rfl) ?_
      clear ha; intro a ha
      refine wpList_nil ?_
      refine then_normal ?_
      show Code.rounds _ _ _ 2 _ _
      rw [rounds_succ]
      refine wp_seq ?_
      refine wp_seq ?_
      refine wp_region_lit ?_
      refine st_val (.int .i64 1) ha (by kernel_rfl) (by kernel_rfl) ?_
      clear ha; intro a ha
      refine st_val (.bool true) ha (by kernel_rfl) (by kernel_rfl) ?_
      clear ha; intro a ha
      refine wpList_nil ?_
      refine then_normal ?_
      refine wp_true ha rfl (by kernel_rfl) ?_
      refine wp_skip ?_
      refine then_normal ?_
      refine wp_seq ?_
      refine wp_block ?_
      refine wp_seq ?_
      refine wp_region_lit ?_
      refine st_val (.pointer (some ⟨g11, 0, none⟩)) ha (by kernel_rfl) (by kernel_rfl) ?_
      clear ha; intro a ha
      refine st_call ha (by kernel_rfl) (by kernel_rfl) (take_zero W _ w g11 1 s) ?_
      rintro _ w ⟨rfl, s⟩
      replace s : St W (.blk g11 [.bool false, .slice none 0 0] 62 :: .blk g10 [.int .i64 0, .string (str []), .int .i64 0, .int .i64 0] 28 :: Own 28 4 A8 ((seq 63).length) c9 (ws (seq 63)) :: Lob g1 [] :: Own 28 4 A6 0 c7 (ws []) :: Own 28 4 A4 1 c5 (ws [wbig]) :: .blk g3 [.int .i64 64, .string (str [107]), .int .i64 164, .int .i64 1] 28 :: L) w := s
      refine ⟨_, rfl, ?_⟩; clear ha; intro a ha
      refine st_val (.tuple #[.agg #[.int .i64 0, .string (str []), .int .i64 0, .int .i64 0], .bool false]) ha (by kernel_rfl) (by kernel_rfl) ?_
      clear ha; intro a ha
      refine st_val (.agg #[.int .i64 0, .string (str []), .int .i64 0, .int .i64 0]) ha (by kernel_rfl) (by kernel_rfl) ?_
      clear ha; intro a ha
      refine st_val (.bool false) ha (by kernel_rfl) (by kernel_rfl) ?_
      clear ha; intro a ha
      refine st_ex ha (by kernel_rfl) (ex_alloc [.int .i64 0, .string (str []), .int .i64 0, .int .i64 0] s rfl (Try.zeroValue28 _) (by kernel_rfl)) ?_
      clear ha; rintro _ w a ⟨g12, rfl, s⟩ ha
      replace s : St W (.blk g12 [.int .i64 0, .string (str []), .int .i64 0, .int .i64 0] 28 :: .blk g11 [.bool false, .slice none 0 0] 62 :: .blk g10 [.int .i64 0, .string (str []), .int .i64 0, .int .i64 0] 28 :: Own 28 4 A8 ((seq 63).length) c9 (ws (seq 63)) :: Lob g1 [] :: Own 28 4 A6 0 c7 (ws []) :: Own 28 4 A4 1 c5 (ws [wbig]) :: .blk g3 [.int .i64 64, .string (str [107]), .int .i64 164, .int .i64 1] 28 :: L) w := s
      refine st_exd ha (by kernel_rfl) (ex_store (of_ := 0) 0 [.int .i64 0, .string (str []), .int .i64 0, .int .i64 0] s rfl rfl (by kernel_rfl) (by kernel_rfl) (Try.sizeOf28 _) rfl (by simp [Value.oneCell']) (Nat.le_of_ble_eq_true rfl)) ?_
      clear ha; rintro w a s ha
      replace s : St W (.blk g12 [.int .i64 0, .string (str []), .int .i64 0, .int .i64 0] 28 :: .blk g11 [.bool false, .slice none 0 0] 62 :: .blk g10 [.int .i64 0, .string (str []), .int .i64 0, .int .i64 0] 28 :: Own 28 4 A8 ((seq 63).length) c9 (ws (seq 63)) :: Lob g1 [] :: Own 28 4 A6 0 c7 (ws []) :: Own 28 4 A4 1 c5 (ws [wbig]) :: .blk g3 [.int .i64 64, .string (str [107]), .int .i64 164, .int .i64 1] 28 :: L) w := s
      refine st_val (.bool false) ha (by kernel_rfl) (by kernel_rfl) ?_
      clear ha; intro a ha
      refine wpList_nil ?_
      refine then_normal ?_
      refine wp_seq ?_
      refine wp_seq ?_
      refine wp_region_lit ?_
      refine st_val (.pointer (some ⟨g11, 0, none⟩)) ha (by kernel_rfl) (by kernel_rfl) ?_
      clear ha; intro a ha
      refine st_call ha (by kernel_rfl) (by kernel_rfl) (wait_any W _ w 1 1 2 [97] s) ?_
      rintro _ w ⟨rfl, s⟩
      replace s : St W (.blk g12 [.int .i64 0, .string (str []), .int .i64 0, .int .i64 0] 28 :: .blk g11 [.bool false, .slice none 0 0] 62 :: .blk g10 [.int .i64 0, .string (str []), .int .i64 0, .int .i64 0] 28 :: Own 28 4 A8 ((seq 63).length) c9 (ws (seq 63)) :: Lob g1 [] :: Own 28 4 A6 0 c7 (ws []) :: Own 28 4 A4 1 c5 (ws [wbig]) :: .blk g3 [.int .i64 64, .string (str [107]), .int .i64 164, .int .i64 1] 28 :: L) w := s
      refine ⟨_, rfl, ?_⟩; clear ha; intro a ha
      replace s := s.at_ (j := 1) rfl
      replace s : St W (.blk g11 [.bool false, .slice none 0 0] 62 :: .blk g12 [.int .i64 0, .string (str []), .int .i64 0, .int .i64 0] 28 :: .blk g10 [.int .i64 0, .string (str []), .int .i64 0, .int .i64 0] 28 :: Own 28 4 A8 ((seq 63).length) c9 (ws (seq 63)) :: Lob g1 [] :: Own 28 4 A6 0 c7 (ws []) :: Own 28 4 A4 1 c5 (ws [wbig]) :: .blk g3 [.int .i64 64, .string (str [107]), .int .i64 164, .int .i64 1] 28 :: L) w := s
      refine st_call ha (by kernel_rfl) (by kernel_rfl) (add_zero W _ w g11 ⟨1, [97], 1, 2⟩ s) ?_
      rintro _ w ⟨rfl, s⟩
      replace s : St W (.blk g11 [.bool false, .slice none 0 0] 62 :: .blk g12 [.int .i64 0, .string (str []), .int .i64 0, .int .i64 0] 28 :: .blk g10 [.int .i64 0, .string (str []), .int .i64 0, .int .i64 0] 28 :: Own 28 4 A8 ((seq 63).length) c9 (ws (seq 63)) :: Lob g1 [] :: Own 28 4 A6 0 c7 (ws []) :: Own 28 4 A4 1 c5 (ws [wbig]) :: .blk g3 [.int .i64 64, .string (str [107]), .int .i64 164, .int .i64 1] 28 :: L) w := s
      refine ⟨_, rfl, ?_⟩; clear ha; intro a ha
      refine st_val (.bool false) ha (by kernel_rfl) (by kernel_rfl) ?_
      clear ha; intro a ha
      refine st_val (.bool false) ha (by kernel_rfl) (by kernel_rfl) ?_
      clear ha; intro a ha
      refine st_val (.bool false) ha (by kernel_rfl) (by kernel_rfl) ?_
      clear ha; intro a ha
      refine st_val (.bool false) ha (by kernel_rfl) (by kernel_rfl) ?_
      clear ha; intro a ha
      refine st_val (.bool false) ha (by kernel_rfl) (by kernel_rfl) ?_
      clear ha; intro a ha
      refine st_val (.pointer (some ⟨g11, 0, none⟩)) ha (by kernel_rfl) (by kernel_rfl) ?_
      clear ha; intro a ha
      refine st_call ha (by kernel_rfl) (by kernel_rfl) (free_zero W _ w g11 1 s) ?_
      rintro _ w ⟨rfl, s⟩
      replace s : St W (.blk g11 [.bool false, .slice none 0 0] 62 :: .blk g12 [.int .i64 0, .string (str []), .int .i64 0, .int .i64 0] 28 :: .blk g10 [.int .i64 0, .string (str []), .int .i64 0, .int .i64 0] 28 :: Own 28 4 A8 ((seq 63).length) c9 (ws (seq 63)) :: Lob g1 [] :: Own 28 4 A6 0 c7 (ws []) :: Own 28 4 A4 1 c5 (ws [wbig]) :: .blk g3 [.int .i64 64, .string (str [107]), .int .i64 164, .int .i64 1] 28 :: L) w := s
      refine ⟨_, rfl, ?_⟩; clear ha; intro a ha
      refine st_val (.int .i64 0) ha (by kernel_rfl) (by kernel_rfl) ?_
      clear ha; intro a ha
      refine st_val (.bool false) ha (by kernel_rfl) (by kernel_rfl) ?_
      clear ha; intro a ha
      refine st_val (.bool false) ha (by kernel_rfl) (by kernel_rfl) ?_
      clear ha; intro a ha
      refine st_val (.bool false) ha (by kernel_rfl) (by kernel_rfl) ?_
      clear ha; intro a ha
      refine st_val (.pointer (some ⟨g11, 0, none⟩)) ha (by kernel_rfl) (by kernel_rfl) ?_
      clear ha; intro a ha
      refine st_call ha (by kernel_rfl) (by kernel_rfl) (at_zero W _ w g11 [97] 1 s) ?_
      rintro _ w ⟨rfl, s⟩
      replace s : St W (.blk g11 [.bool false, .slice none 0 0] 62 :: .blk g12 [.int .i64 0, .string (str []), .int .i64 0, .int .i64 0] 28 :: .blk g10 [.int .i64 0, .string (str []), .int .i64 0, .int .i64 0] 28 :: Own 28 4 A8 ((seq 63).length) c9 (ws (seq 63)) :: Lob g1 [] :: Own 28 4 A6 0 c7 (ws []) :: Own 28 4 A4 1 c5 (ws [wbig]) :: .blk g3 [.int .i64 64, .string (str [107]), .int .i64 164, .int .i64 1] 28 :: L) w := s
      refine ⟨_, rfl, ?_⟩; clear ha; intro a ha
      refine st_val (.int .i64 0) ha (by kernel_rfl) (by kernel_rfl) ?_
      clear ha; intro a ha
      refine st_val (.bool false) ha (by kernel_rfl) (by kernel_rfl) ?_
      clear ha; intro a ha
      refine st_val (.bool false) ha (by kernel_rfl) (by kernel_rfl) ?_
      clear ha; intro a ha
      refine st_val (.bool false) ha (by kernel_rfl) (by kernel_rfl) ?_
      clear ha; intro a ha
      refine st_val (.pointer (some ⟨g11, 0, none⟩)) ha (by kernel_rfl) (by kernel_rfl) ?_
      clear ha; intro a ha
      refine st_call ha (by kernel_rfl) (by kernel_rfl) (edges_zero W _ w g11 s) ?_
      rintro _ w ⟨rfl, s⟩
      replace s : St W (.blk g11 [.bool false, .slice none 0 0] 62 :: .blk g12 [.int .i64 0, .string (str []), .int .i64 0, .int .i64 0] 28 :: .blk g10 [.int .i64 0, .string (str []), .int .i64 0, .int .i64 0] 28 :: Own 28 4 A8 ((seq 63).length) c9 (ws (seq 63)) :: Lob g1 [] :: Own 28 4 A6 0 c7 (ws []) :: Own 28 4 A4 1 c5 (ws [wbig]) :: .blk g3 [.int .i64 64, .string (str [107]), .int .i64 164, .int .i64 1] 28 :: L) w := s
      refine ⟨_, rfl, ?_⟩; clear ha; intro a ha
      refine st_val (.int .i64 0) ha (by kernel_rfl) (by kernel_rfl) ?_
      clear ha; intro a ha
      refine st_val (.bool false) ha (by kernel_rfl) (by kernel_rfl) ?_
      clear ha; intro a ha
      refine st_val (.bool false) ha (by kernel_rfl) (by kernel_rfl) ?_
      clear ha; intro a ha
      refine st_val (.bool false) ha (by kernel_rfl) (by kernel_rfl) ?_
      clear ha; intro a ha
      refine st_val (.pointer (some ⟨g11, 0, none⟩)) ha (by kernel_rfl) (by kernel_rfl) ?_
      clear ha; intro a ha
      refine st_call ha (by kernel_rfl) (by kernel_rfl) (len_zero W _ w g11 s) ?_
      rintro _ w ⟨rfl, s⟩
      replace s : St W (.blk g11 [.bool false, .slice none 0 0] 62 :: .blk g12 [.int .i64 0, .string (str []), .int .i64 0, .int .i64 0] 28 :: .blk g10 [.int .i64 0, .string (str []), .int .i64 0, .int .i64 0] 28 :: Own 28 4 A8 ((seq 63).length) c9 (ws (seq 63)) :: Lob g1 [] :: Own 28 4 A6 0 c7 (ws []) :: Own 28 4 A4 1 c5 (ws [wbig]) :: .blk g3 [.int .i64 64, .string (str [107]), .int .i64 164, .int .i64 1] 28 :: L) w := s
      refine ⟨_, rfl, ?_⟩; clear ha; intro a ha
      refine st_val (.bool false) ha (by kernel_rfl) (by kernel_rfl) ?_
      clear ha; intro a ha
      refine st_val (.bool false) ha (by kernel_rfl) (by kernel_rfl) ?_
      clear ha; intro a ha
      refine wpList_nil ?_
      refine then_normal ?_
      refine wp_false ha rfl (by kernel_rfl) ?_
      refine wp_skip ?_
      refine then_normal ?_
      refine wp_region_lit ?_
      refine st_val (.agg #[.bool false, .slice none 0 0]) ha (by kernel_rfl) (by kernel_rfl) ?_
      clear ha; intro a ha
      refine st_ex ha (by kernel_rfl) (ex_box [.bool false, .slice none 0 0] s rfl (by kernel_rfl)) ?_
      clear ha; rintro _ w a ⟨g13, rfl, s⟩ ha
      replace s : St W (.blk g13 [.bool false, .slice none 0 0] 62 :: .blk g11 [.bool false, .slice none 0 0] 62 :: .blk g12 [.int .i64 0, .string (str []), .int .i64 0, .int .i64 0] 28 :: .blk g10 [.int .i64 0, .string (str []), .int .i64 0, .int .i64 0] 28 :: Own 28 4 A8 ((seq 63).length) c9 (ws (seq 63)) :: Lob g1 [] :: Own 28 4 A6 0 c7 (ws []) :: Own 28 4 A4 1 c5 (ws [wbig]) :: .blk g3 [.int .i64 64, .string (str [107]), .int .i64 164, .int .i64 1] 28 :: L) w := s
      refine st_val (.pointer (some ⟨g13, 0, none⟩)) ha (by kernel_rfl) (by kernel_rfl) ?_
      clear ha; intro a ha
      refine wpList_nil ?_
      refine block_normal ?_
      refine then_normal ?_
      refine wp_region_lit ?_
      refine st_val (.int .i64 1) ha (by kernel_rfl) (by kernel_rfl) ?_
      clear ha; intro a ha
      refine st_val (.int .i64 2) ha (by kernel_rfl) (by kernel_rfl) ?_
      clear ha; intro a ha
      refine st_val (.int .i64 2) ha (by kernel_rfl) (by kernel_rfl) ?_
      clear ha; intro a ha
      refine wpList_nil ?_
      refine then_normal ?_
      show Code.rounds _ _ _ 1 _ _
      rw [rounds_succ]
      refine wp_seq ?_
      refine wp_seq ?_
      refine wp_region_lit ?_
      refine st_val (.int .i64 2) ha (by kernel_rfl) (by kernel_rfl) ?_
      clear ha; intro a ha
      refine st_val (.bool false) ha (by kernel_rfl) (by kernel_rfl) ?_
      clear ha; intro a ha
      refine wpList_nil ?_
      refine then_normal ?_
      refine wp_false ha rfl (by kernel_rfl) ?_
      refine wp_exit ?_
      refine then_exit ?_
      refine then_exit ?_
      refine block_hit ?_
      refine then_normal ?_
      refine wp_seq ?_
      refine wp_region_lit ?_
      refine st_val (.bool true) ha (by kernel_rfl) (by kernel_rfl) ?_
      clear ha; intro a ha
      refine st_call ha (by kernel_rfl) (by kernel_rfl) (works_true W hW _ w s) ?_
      rintro _ w ⟨rfl, s⟩
      replace s : St W (.blk g13 [.bool false, .slice none 0 0] 62 :: .blk g11 [.bool false, .slice none 0 0] 62 :: .blk g12 [.int .i64 0, .string (str []), .int .i64 0, .int .i64 0] 28 :: .blk g10 [.int .i64 0, .string (str []), .int .i64 0, .int .i64 0] 28 :: Own 28 4 A8 ((seq 63).length) c9 (ws (seq 63)) :: Lob g1 [] :: Own 28 4 A6 0 c7 (ws []) :: Own 28 4 A4 1 c5 (ws [wbig]) :: .blk g3 [.int .i64 64, .string (str [107]), .int .i64 164, .int .i64 1] 28 :: L) w := s
      refine ⟨_, rfl, ?_⟩; clear ha; intro a ha
      refine st_val (.bool true) ha (by kernel_rfl) (by kernel_rfl) ?_
      clear ha; intro a ha
      refine st_val (.bool true) ha (by kernel_rfl) (by kernel_rfl) ?_
      clear ha; intro a ha
      refine st_val (.bool true) ha (by kernel_rfl) (by kernel_rfl) ?_
      clear ha; intro a ha
      refine st_val (.bool true) ha (by kernel_rfl) (by kernel_rfl) ?_
      clear ha; intro a ha
      refine st_val (.bool true) ha (by kernel_rfl) (by kernel_rfl) ?_
      clear ha; intro a ha
      refine st_val (.bool true) ha (by kernel_rfl) (by kernel_rfl) ?_
      clear ha; intro a ha
      refine st_val (.bool true) ha (by kernel_rfl) (by kernel_rfl) ?_
      clear ha; intro a ha
      refine st_val (.bool true) ha (by kernel_rfl) (by kernel_rfl) ?_
      clear ha; intro a ha
      refine st_val (.pointer (some ⟨g1, 0, none⟩)) ha (by kernel_rfl) (by kernel_rfl) ?_
      clear ha; intro a ha
      replace s := s.at_ (j := 5) rfl
      replace s : St W (Lob g1 [] :: .blk g13 [.bool false, .slice none 0 0] 62 :: .blk g11 [.bool false, .slice none 0 0] 62 :: .blk g12 [.int .i64 0, .string (str []), .int .i64 0, .int .i64 0] 28 :: .blk g10 [.int .i64 0, .string (str []), .int .i64 0, .int .i64 0] 28 :: Own 28 4 A8 ((seq 63).length) c9 (ws (seq 63)) :: Own 28 4 A6 0 c7 (ws []) :: Own 28 4 A4 1 c5 (ws [wbig]) :: .blk g3 [.int .i64 64, .string (str [107]), .int .i64 164, .int .i64 1] 28 :: L) w := s
      refine st_call ha (by kernel_rfl) (by kernel_rfl) (len_is W _ w g1 [] 0 rfl Fine.nil s) ?_
      rintro _ w ⟨rfl, s⟩
      replace s : St W (Lob g1 [] :: .blk g13 [.bool false, .slice none 0 0] 62 :: .blk g11 [.bool false, .slice none 0 0] 62 :: .blk g12 [.int .i64 0, .string (str []), .int .i64 0, .int .i64 0] 28 :: .blk g10 [.int .i64 0, .string (str []), .int .i64 0, .int .i64 0] 28 :: Own 28 4 A8 ((seq 63).length) c9 (ws (seq 63)) :: Own 28 4 A6 0 c7 (ws []) :: Own 28 4 A4 1 c5 (ws [wbig]) :: .blk g3 [.int .i64 64, .string (str [107]), .int .i64 164, .int .i64 1] 28 :: L) w := s
      refine ⟨_, rfl, ?_⟩; clear ha; intro a ha
      refine st_val (.bool true) ha (by kernel_rfl) (by kernel_rfl) ?_
      clear ha; intro a ha
      refine st_val (.bool true) ha (by kernel_rfl) (by kernel_rfl) ?_
      clear ha; intro a ha
      refine st_val (.bool true) ha (by kernel_rfl) (by kernel_rfl) ?_
      clear ha; intro a ha
      refine wpList_nil ?_
      refine then_normal ?_
      refine wp_ret ?_
      refine ret_with (v := .bool true) ha (results_1 rfl ha (res_tmp (by kernel_rfl) (by kernel_rfl))) ?_
      replace s := s.tail.tail.tail.tail.tail.tail.tail.tail.tail
      replace s : St W (L) w := s
      exact ⟨rfl, s⟩

end Go.Proofs.Ytlkoppmenpeepaa.B
