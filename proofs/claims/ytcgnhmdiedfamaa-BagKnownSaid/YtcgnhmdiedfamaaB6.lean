import Derived.Test.YtcgnhmdiedfamaaB5
namespace Go.Proofs.Ytcgnhmdiedfamaa.B
open Go.RowKit Go.Proofs.Ytcgnhmdiedfamaa.Sep
set_option linter.unusedVariables false
set_option linter.unusedSimpArgs false
theorem elt27' : Elt Try.prog 27 5 1 1 := ⟨by kernel_rfl, by kernel_rfl⟩
def Z16 : List Int := List.replicate 65536 0
theorem Z16_len : Z16.length = 65536 := List.length_replicate
theorem make16 {W : World} {L : List Chunk} {w : World} {g : Nat} (s : St W (.blk g ((Array.range (65536 * 1)).map ((#[.int .u8 0] : Array Value)[· % (#[.int .u8 0] : Array Value).size]!)).toList 5 :: L) w) : St W (Own 5 1 (some ⟨g, 0, none⟩) 65536 65536 (u8s Z16) :: L) w := by
  rw [made_one] at s
  have e : List.replicate 65536 (Value.int .u8 0) = u8s Z16 := by unfold u8s Z16; rw [List.map_replicate]
  rw [e] at s
  exact Own.close (by rw [u8_len, Z16_len]) (Nat.le_refl _) (by simp [maxLen]) (by rw [u8_len, Z16_len]; omega) (fun j u h => by rw [Nat.zero_add]; exact h) s
theorem u8s_snoc (l : List Int) (x : Int) : u8s (l ++ [x]) = u8s l ++ [.int .u8 x] := by simp [u8s]
def mm (i : Nat) : Msg := ⟨1, 1, [(i : Int) % 256]⟩
def many (k : Nat) : List Msg := (List.range k).map mm
theorem many_len (k : Nat) : (many k).length = k := by simp [many]
theorem many_succ (k : Nat) : many k ++ [mm k] = many (k + 1) := by simp [many, List.range_succ]
theorem many_at {k i : Nat} (h : i < k) : (many k)[i]? = some (mm i) := by simp [many, h]
theorem many_ok {k : Nat} (h : k ≤ 2048) : OkBag (many k) := ⟨fun m hm => by obtain ⟨i, _, rfl⟩ := List.mem_map.1 hm; simp [mm], by rw [many_len]; exact h⟩
theorem many_erase (k : Nat) : (many (k + 1)).eraseIdx k = many k := by
  rw [← many_succ, List.eraseIdx_append_of_length_le (by rw [many_len]; omega), many_len, Nat.sub_self]; simp
theorem many_code {k : Nat} (h : k < 2048) (i : Nat) : putCode (mm i) k = 0 := by unfold putCode; rw [if_pos ⟨by simp [mm], by simp [mm]⟩, if_neg (by simp [mm]), if_neg (by omega)]
theorem many_full {k : Nat} (h : 2048 ≤ k) (i : Nat) : putCode (mm i) k = 7 := by unfold putCode; rw [if_pos ⟨by simp [mm], by simp [mm]⟩, if_neg (by simp [mm]), if_pos h]
theorem many_put {k : Nat} (h : k < 2048) : bput (many k) (mm k) = many (k + 1) := by unfold bput; rw [many_len, if_pos (many_code h k), many_succ]
theorem bput_no {l : List Msg} {m : Msg} (h : putCode m l.length ≠ 0) : bput l m = l := by unfold bput; rw [if_neg h]
theorem code_long {f t : Int} {b : List Int} {n : Nat} (hf : 1 ≤ f ∧ f ≤ 4) (ht : 1 ≤ t ∧ t ≤ 4) (hb : 65536 < b.length) : putCode ⟨f, t, b⟩ n = 5 := by unfold putCode; rw [if_pos ⟨hf, ht⟩, if_pos hb]
theorem code_arg {f t : Int} {b : List Int} {n : Nat} (h : ¬ ((1 ≤ f ∧ f ≤ 4) ∧ (1 ≤ t ∧ t ≤ 4))) : putCode ⟨f, t, b⟩ n = 2 := by unfold putCode; rw [if_neg h]
theorem code_ok {f t : Int} {b : List Int} {n : Nat} (hf : 1 ≤ f ∧ f ≤ 4) (ht : 1 ≤ t ∧ t ≤ 4) (hb : b.length ≤ 65536) (hn : n < 2048) : putCode ⟨f, t, b⟩ n = 0 := by unfold putCode; rw [if_pos ⟨hf, ht⟩, if_neg (by simp only []; omega), if_neg (by omega)]
theorem put_is (W : World) (L : List Chunk) (w : World) (g : Nat) (l : List Msg) (f t : Int) (bs : List Int) (A0 : Option Addr) (n0 c0 : Nat) (r : Int) (l' : List Msg) (hn0 : n0 = bs.length) (hc : putCode ⟨f, t, bs⟩ l.length = r) (hl : l' = if r = 0 then l ++ [⟨f, t, bs⟩] else l) (hr : Knows L fun w => Reads w 1 A0 n0 (u8s bs)) (hn : n0 ≤ 140737488351232) (s : St W (Bag g l :: L) w) :
    Calls Try.prog 18 #[.pointer (some ⟨g, 0, none⟩), .agg #[.int .i64 f, .int .i64 t, .slice A0 n0 c0]] w fun e w' => e = .returned (.int .i64 r) ∧ St W (Bag g l' :: L) w' := by
  refine put_to W L w g l f t bs A0 n0 c0 r l' hn0 hc ?_ hr hn s
  subst hl hc; unfold bput; rfl
theorem u8_255 : IntKind.u8.wrap (2047 : Int) = 255 := by rw [wrap_u8]; rfl

theorem none_nil (W : World) (L : List Chunk) (w : World) (s : St W L w) :
    Calls Try.prog 30 #[.pointer none] w fun e w' => e = .returned (.bool true) ∧ St W L w' := by
  refine enter_args (l := [.pointer none]) Try.func30 rfl rfl (Nat.le_of_ble_eq_true rfl) ?_
  intro a ha; replace ha : Has a 12 [(0, .pointer none)] := ha
  refine wp_seq ?_
  refine wp_region_lit ?_
  refine st_val (.bool false) ha (by kernel_rfl) (by kernel_rfl) ?_
  clear ha; intro a ha
  refine wpList_nil ?_
  refine then_normal ?_
  refine wp_seq ?_
  refine wp_region_lit ?_
  refine st_val (.pointer none) ha (by kernel_rfl) (by kernel_rfl) ?_
  clear ha; intro a ha
  refine st_val (.bool true) ha (by kernel_rfl) (by kernel_rfl) ?_
  clear ha; intro a ha
  refine st_val (.bool true) ha (by kernel_rfl) (by kernel_rfl) ?_
  clear ha; intro a ha
  refine st_pass ha (by kernel_rfl) ?_
  clear ha; intro a ha
  refine st_pass ha (by kernel_rfl) ?_
  clear ha; intro a ha
  refine st_pass ha (by kernel_rfl) ?_
  clear ha; intro a ha
  refine st_pass ha (by kernel_rfl) ?_
  clear ha; intro a ha
  refine st_pass ha (by kernel_rfl) ?_
  clear ha; intro a ha
  refine st_val (.bool true) ha (by kernel_rfl) (by kernel_rfl) ?_
  clear ha; intro a ha
  refine st_val (.bool true) ha (by kernel_rfl) (by kernel_rfl) ?_
  clear ha; intro a ha
  refine wpList_nil ?_
  refine then_normal ?_
  refine wp_ret ?_
  refine ret_with (v := .bool true) ha (results_1 rfl ha (res_tmp (by kernel_rfl) (by kernel_rfl))) ?_
  exact ⟨rfl, s⟩

theorem there_nil (W : World) (L : List Chunk) (w : World) (i : Int) (s : St W L w) :
    Calls Try.prog 28 #[.pointer none, .int .i64 i] w fun e w' => e = .returned (.bool false) ∧ St W L w' := by
  refine enter_args (l := [.pointer none, .int .i64 i]) Try.func28 rfl rfl (Nat.le_of_ble_eq_true rfl) ?_
  intro a ha; replace ha : Has a 21 [(0, .pointer none), (1, .int .i64 i)] := ha
  refine wp_seq ?_
  refine wp_region_lit ?_
  refine st_val (.bool false) ha (by kernel_rfl) (by kernel_rfl) ?_
  clear ha; intro a ha
  refine wpList_nil ?_
  refine then_normal ?_
  refine wp_seq ?_
  refine wp_region_lit ?_
  refine st_val (.pointer none) ha (by kernel_rfl) (by kernel_rfl) ?_
  clear ha; intro a ha
  refine st_call ha (by kernel_rfl) (by kernel_rfl) (none_nil W _ w s) ?_
  rintro _ w ⟨rfl, s⟩
  replace s : St W (L) w := s
  refine ⟨_, rfl, ?_⟩; clear ha; intro a ha
  refine st_val (.bool false) ha (by kernel_rfl) (by kernel_rfl) ?_
  clear ha; intro a ha
  refine st_val (.bool false) ha (by kernel_rfl) (by kernel_rfl) ?_
  clear ha; intro a ha
  refine st_pass ha (by kernel_rfl) ?_
  clear ha; intro a ha
  refine st_pass ha (by kernel_rfl) ?_
  clear ha; intro a ha
  refine st_val (.bool false) ha (by kernel_rfl) (by kernel_rfl) ?_
  clear ha; intro a ha
  refine st_val (.bool false) ha (by kernel_rfl) (by kernel_rfl) ?_
  clear ha; intro a ha
  refine st_pass ha (by kernel_rfl) ?_
  clear ha; intro a ha
  refine st_pass ha (by kernel_rfl) ?_
  clear ha; intro a ha
  refine st_pass ha (by kernel_rfl) ?_
  clear ha; intro a ha
  refine st_pass ha (by kernel_rfl) ?_
  clear ha; intro a ha
  refine st_pass ha (by kernel_rfl) ?_
  clear ha; intro a ha
  refine st_pass ha (by kernel_rfl) ?_
  clear ha; intro a ha
  refine st_pass ha (by kernel_rfl) ?_
  clear ha; intro a ha
  refine st_val (.bool false) ha (by kernel_rfl) (by kernel_rfl) ?_
  clear ha; intro a ha
  refine st_val (.bool false) ha (by kernel_rfl) (by kernel_rfl) ?_
  clear ha; intro a ha
  refine wpList_nil ?_
  refine then_normal ?_
  refine wp_ret ?_
  refine ret_with (v := .bool false) ha (results_1 rfl ha (res_tmp (by kernel_rfl) (by kernel_rfl))) ?_
  exact ⟨rfl, s⟩

theorem look_nil (W : World) (L : List Chunk) (w : World) (i : Int) (s : St W L w) :
    Calls Try.prog 11 #[.pointer none, .int .i64 i] w fun e w' => e = .returned (.tuple #[.agg #[.int .i64 0, .int .i64 0, .slice none 0 0], .bool false]) ∧ St W L w' := by
  refine enter_args (l := [.pointer none, .int .i64 i]) Try.func11 rfl rfl (Nat.le_of_ble_eq_true rfl) ?_
  intro a ha; replace ha : Has a 19 [(0, .pointer none), (1, .int .i64 i)] := ha
  refine wp_seq ?_
  refine wp_region_lit ?_
  refine st_ex ha (by kernel_rfl) (ex_alloc [.int .i64 0, .int .i64 0, .slice none 0 0] s rfl (Try.zeroValue29 _) (by kernel_rfl)) ?_
  clear ha; rintro _ w a ⟨g1, rfl, s⟩ ha
  replace s : St W (.blk g1 [.int .i64 0, .int .i64 0, .slice none 0 0] 29 :: L) w := s
  refine st_val (.bool false) ha (by kernel_rfl) (by kernel_rfl) ?_
  clear ha; intro a ha
  refine wpList_nil ?_
  refine then_normal ?_
  refine wp_seq ?_
  refine wp_seq ?_
  refine wp_region_lit ?_
  refine st_val (.pointer none) ha (by kernel_rfl) (by kernel_rfl) ?_
  clear ha; intro a ha
  refine st_val (.int .i64 i) ha (by kernel_rfl) (by kernel_rfl) ?_
  clear ha; intro a ha
  refine st_call ha (by kernel_rfl) (by kernel_rfl) (there_nil W _ w i s) ?_
  rintro _ w ⟨rfl, s⟩
  replace s : St W (.blk g1 [.int .i64 0, .int .i64 0, .slice none 0 0] 29 :: L) w := s
  refine ⟨_, rfl, ?_⟩; clear ha; intro a ha
  refine st_val (.bool true) ha (by kernel_rfl) (by kernel_rfl) ?_
  clear ha; intro a ha
  refine wpList_nil ?_
  refine then_normal ?_
  refine wp_true ha rfl (by kernel_rfl) ?_
  refine wp_seq ?_
  refine wp_region_lit ?_
  refine st_val (.agg #[.int .i64 0, .int .i64 0, .slice none 0 0]) ha (by kernel_rfl) (by kernel_rfl) ?_
  clear ha; intro a ha
  refine st_exd ha (by kernel_rfl) (ex_store (of_ := 0) 0 [.int .i64 0, .int .i64 0, .slice none 0 0] s rfl rfl (by kernel_rfl) (by kernel_rfl) (Try.sizeOf29 _) rfl (by simp [Value.oneCell']) (Nat.le_of_ble_eq_true rfl)) ?_
  clear ha; rintro w a s ha
  replace s : St W (.blk g1 [.int .i64 0, .int .i64 0, .slice none 0 0] 29 :: L) w := s
  refine st_val (.bool false) ha (by kernel_rfl) (by kernel_rfl) ?_
  clear ha; intro a ha
  refine wpList_nil ?_
  refine then_normal ?_
  refine wp_ret ?_
  refine then_ret ?_
  refine ret_with (v := .tuple #[.agg #[.int .i64 0, .int .i64 0, .slice none 0 0], .bool false]) ha (results_2 rfl ha (res_cellN (s.blkIs 0 rfl) (by kernel_rfl) (by kernel_rfl) Try.isAgg29 Try.sizeOf29 rfl) (res_tmp (by kernel_rfl) (by kernel_rfl))) ?_
  replace s := s.tail
  replace s : St W (L) w := s
  exact ⟨rfl, s⟩

theorem take_nil (W : World) (L : List Chunk) (w : World) (i : Int) (s : St W L w) :
    Calls Try.prog 13 #[.pointer none, .int .i64 i] w fun e w' => e = .returned (.tuple #[.agg #[.int .i64 0, .int .i64 0, .slice none 0 0], .bool false]) ∧ St W L w' := by
  refine enter_args (l := [.pointer none, .int .i64 i]) Try.func13 rfl rfl (Nat.le_of_ble_eq_true rfl) ?_
  intro a ha; replace ha : Has a 38 [(0, .pointer none), (1, .int .i64 i)] := ha
  refine wp_seq ?_
  refine wp_region_lit ?_
  refine st_ex ha (by kernel_rfl) (ex_alloc [.int .i64 0, .int .i64 0, .slice none 0 0] s rfl (Try.zeroValue29 _) (by kernel_rfl)) ?_
  clear ha; rintro _ w a ⟨g1, rfl, s⟩ ha
  replace s : St W (.blk g1 [.int .i64 0, .int .i64 0, .slice none 0 0] 29 :: L) w := s
  refine st_val (.bool false) ha (by kernel_rfl) (by kernel_rfl) ?_
  clear ha; intro a ha
  refine wpList_nil ?_
  refine then_normal ?_
  refine wp_seq ?_
  refine wp_seq ?_
  refine wp_region_lit ?_
  refine st_val (.pointer none) ha (by kernel_rfl) (by kernel_rfl) ?_
  clear ha; intro a ha
  refine st_val (.int .i64 i) ha (by kernel_rfl) (by kernel_rfl) ?_
  clear ha; intro a ha
  refine st_call ha (by kernel_rfl) (by kernel_rfl) (there_nil W _ w i s) ?_
  rintro _ w ⟨rfl, s⟩
  replace s : St W (.blk g1 [.int .i64 0, .int .i64 0, .slice none 0 0] 29 :: L) w := s
  refine ⟨_, rfl, ?_⟩; clear ha; intro a ha
  refine st_val (.bool true) ha (by kernel_rfl) (by kernel_rfl) ?_
  clear ha; intro a ha
  refine wpList_nil ?_
  refine then_normal ?_
  refine wp_true ha rfl (by kernel_rfl) ?_
  refine wp_seq ?_
  refine wp_region_lit ?_
  refine st_val (.agg #[.int .i64 0, .int .i64 0, .slice none 0 0]) ha (by kernel_rfl) (by kernel_rfl) ?_
  clear ha; intro a ha
  refine st_exd ha (by kernel_rfl) (ex_store (of_ := 0) 0 [.int .i64 0, .int .i64 0, .slice none 0 0] s rfl rfl (by kernel_rfl) (by kernel_rfl) (Try.sizeOf29 _) rfl (by simp [Value.oneCell']) (Nat.le_of_ble_eq_true rfl)) ?_
  clear ha; rintro w a s ha
  replace s : St W (.blk g1 [.int .i64 0, .int .i64 0, .slice none 0 0] 29 :: L) w := s
  refine st_val (.bool false) ha (by kernel_rfl) (by kernel_rfl) ?_
  clear ha; intro a ha
  refine wpList_nil ?_
  refine then_normal ?_
  refine wp_ret ?_
  refine then_ret ?_
  refine ret_with (v := .tuple #[.agg #[.int .i64 0, .int .i64 0, .slice none 0 0], .bool false]) ha (results_2 rfl ha (res_cellN (s.blkIs 0 rfl) (by kernel_rfl) (by kernel_rfl) Try.isAgg29 Try.sizeOf29 rfl) (res_tmp (by kernel_rfl) (by kernel_rfl))) ?_
  replace s := s.tail
  replace s : St W (L) w := s
  exact ⟨rfl, s⟩

theorem double_nil (W : World) (L : List Chunk) (w : World) (i : Int) (s : St W L w) :
    Calls Try.prog 15 #[.pointer none, .int .i64 i] w fun e w' => e = .returned (.int .i64 1) ∧ St W L w' := by
  refine enter_args (l := [.pointer none, .int .i64 i]) Try.func15 rfl rfl (Nat.le_of_ble_eq_true rfl) ?_
  intro a ha; replace ha : Has a 22 [(0, .pointer none), (1, .int .i64 i)] := ha
  refine wp_seq ?_
  refine wp_region_lit ?_
  refine st_val (.int .i64 0) ha (by kernel_rfl) (by kernel_rfl) ?_
  clear ha; intro a ha
  refine wpList_nil ?_
  refine then_normal ?_
  refine wp_seq ?_
  refine wp_block ?_
  refine wp_seq ?_
  refine wp_region_lit ?_
  refine st_val (.pointer none) ha (by kernel_rfl) (by kernel_rfl) ?_
  clear ha; intro a ha
  refine st_call ha (by kernel_rfl) (by kernel_rfl) (none_nil W _ w s) ?_
  rintro _ w ⟨rfl, s⟩
  replace s : St W (L) w := s
  refine ⟨_, rfl, ?_⟩; clear ha; intro a ha
  refine st_val (.bool true) ha (by kernel_rfl) (by kernel_rfl) ?_
  clear ha; intro a ha
  refine wpList_nil ?_
  refine then_normal ?_
  refine wp_true ha rfl (by kernel_rfl) ?_
  refine wp_seq ?_
  refine wp_region_lit ?_
  refine st_val (.int .i64 1) ha (by kernel_rfl) (by kernel_rfl) ?_
  clear ha; intro a ha
  refine wpList_nil ?_
  refine then_normal ?_
  refine wp_ret ?_
  refine block_ret ?_
  refine then_ret ?_
  refine ret_with (v := .int .i64 1) ha (results_1 rfl ha (res_tmp (by kernel_rfl) (by kernel_rfl))) ?_
  exact ⟨rfl, s⟩

theorem len_nil (W : World) (L : List Chunk) (w : World) (s : St W L w) :
    Calls Try.prog 20 #[.pointer none] w fun e w' => e = .returned (.int .i64 0) ∧ St W L w' := by
  refine enter_args (l := [.pointer none]) Try.func20 rfl rfl (Nat.le_of_ble_eq_true rfl) ?_
  intro a ha; replace ha : Has a 10 [(0, .pointer none)] := ha
  refine wp_seq ?_
  refine wp_region_lit ?_
  refine st_val (.int .i64 0) ha (by kernel_rfl) (by kernel_rfl) ?_
  clear ha; intro a ha
  refine wpList_nil ?_
  refine then_normal ?_
  refine wp_seq ?_
  refine wp_seq ?_
  refine wp_region_lit ?_
  refine st_val (.pointer none) ha (by kernel_rfl) (by kernel_rfl) ?_
  clear ha; intro a ha
  refine st_call ha (by kernel_rfl) (by kernel_rfl) (none_nil W _ w s) ?_
  rintro _ w ⟨rfl, s⟩
  replace s : St W (L) w := s
  refine ⟨_, rfl, ?_⟩; clear ha; intro a ha
  refine wpList_nil ?_
  refine then_normal ?_
  refine wp_true ha rfl (by kernel_rfl) ?_
  refine wp_seq ?_
  refine wp_region_lit ?_
  refine st_val (.int .i64 0) ha (by kernel_rfl) (by kernel_rfl) ?_
  clear ha; intro a ha
  refine wpList_nil ?_
  refine then_normal ?_
  refine wp_ret ?_
  refine then_ret ?_
  refine ret_with (v := .int .i64 0) ha (results_1 rfl ha (res_tmp (by kernel_rfl) (by kernel_rfl))) ?_
  exact ⟨rfl, s⟩

theorem put_nil (W : World) (L : List Chunk) (w : World) (x y : Int) (B : Option Addr) (n c : Nat) (s : St W L w) :
    Calls Try.prog 18 #[.pointer none, .agg #[.int .i64 x, .int .i64 y, .slice B n c]] w fun e w' => e = .returned (.int .i64 1) ∧ St W L w' := by
  refine enter_args (l := [.pointer none, .agg #[.int .i64 x, .int .i64 y, .slice B n c]]) Try.func18 rfl rfl (Nat.le_of_ble_eq_true rfl) ?_
  intro a ha; replace ha : Has a 42 [(0, .pointer none), (1, .agg #[.int .i64 x, .int .i64 y, .slice B n c])] := ha
  refine wp_seq ?_
  refine wp_region_lit ?_
  refine st_ex ha (by kernel_rfl) (ex_box [.int .i64 x, .int .i64 y, .slice B n c] s rfl (by kernel_rfl)) ?_
  clear ha; rintro _ w a ⟨g1, rfl, s⟩ ha
  replace s : St W (.blk g1 [.int .i64 x, .int .i64 y, .slice B n c] 29 :: L) w := s
  refine st_val (.int .i64 0) ha (by kernel_rfl) (by kernel_rfl) ?_
  clear ha; intro a ha
  refine wpList_nil ?_
  refine then_normal ?_
  refine wp_seq ?_
  refine wp_block ?_
  refine wp_seq ?_
  refine wp_region_lit ?_
  refine st_val (.pointer none) ha (by kernel_rfl) (by kernel_rfl) ?_
  clear ha; intro a ha
  refine st_call ha (by kernel_rfl) (by kernel_rfl) (none_nil W _ w s) ?_
  rintro _ w ⟨rfl, s⟩
  replace s : St W (.blk g1 [.int .i64 x, .int .i64 y, .slice B n c] 29 :: L) w := s
  refine ⟨_, rfl, ?_⟩; clear ha; intro a ha
  refine st_val (.bool true) ha (by kernel_rfl) (by kernel_rfl) ?_
  clear ha; intro a ha
  refine wpList_nil ?_
  refine then_normal ?_
  refine wp_true ha rfl (by kernel_rfl) ?_
  refine wp_seq ?_
  refine wp_region_lit ?_
  refine st_val (.int .i64 1) ha (by kernel_rfl) (by kernel_rfl) ?_
  clear ha; intro a ha
  refine wpList_nil ?_
  refine then_normal ?_
  refine wp_ret ?_
  refine block_ret ?_
  refine then_ret ?_
  refine ret_with (v := .int .i64 1) ha (results_1 rfl ha (res_tmp (by kernel_rfl) (by kernel_rfl))) ?_
  replace s := s.tail
  replace s : St W (L) w := s
  exact ⟨rfl, s⟩

theorem none_zero (W : World) (L : List Chunk) (w : World) (g : Nat) (s : St W (.blk g [.bool false, .slice none 0 0] 52 :: L) w) :
    Calls Try.prog 30 #[.pointer (some ⟨g, 0, none⟩)] w fun e w' => e = .returned (.bool true) ∧ St W (.blk g [.bool false, .slice none 0 0] 52 :: L) w' := by
  refine enter_args (l := [.pointer (some ⟨g, 0, none⟩)]) Try.func30 rfl rfl (Nat.le_of_ble_eq_true rfl) ?_
  intro a ha; replace ha : Has a 12 [(0, .pointer (some ⟨g, 0, none⟩))] := ha
  refine wp_seq ?_
  refine wp_region_lit ?_
  refine st_val (.bool false) ha (by kernel_rfl) (by kernel_rfl) ?_
  clear ha; intro a ha
  refine wpList_nil ?_
  refine then_normal ?_
  refine wp_seq ?_
  refine wp_region_lit ?_
  refine st_val (.pointer (some ⟨g, 0, none⟩)) ha (by kernel_rfl) (by kernel_rfl) ?_
  clear ha; intro a ha
  refine st_val (.bool false) ha (by kernel_rfl) (by kernel_rfl) ?_
  clear ha; intro a ha
  refine st_val (.bool false) ha (by kernel_rfl) (by kernel_rfl) ?_
  clear ha; intro a ha
  refine st_val (.pointer (some ⟨g, 0, none⟩)) ha (by kernel_rfl) (by kernel_rfl) ?_
  clear ha; intro a ha
  refine st_val (.pointer (some ⟨g, 0, none⟩)) ha (by kernel_rfl) (by kernel_rfl) ?_
  clear ha; intro a ha
  refine st_val (.pointer (some ⟨g, 0, none⟩)) ha (by kernel_rfl) (by kernel_rfl) ?_
  clear ha; intro a ha
  refine st_val (.bool false) ha (by kernel_rfl) (run_load1 (of_ := 0) (s.blkIs 0 rfl) rfl (by kernel_rfl) Try.isAgg4 rfl) ?_
  clear ha; intro a ha
  refine st_val (.bool true) ha (by kernel_rfl) (by kernel_rfl) ?_
  clear ha; intro a ha
  refine st_val (.bool true) ha (by kernel_rfl) (by kernel_rfl) ?_
  clear ha; intro a ha
  refine st_val (.bool true) ha (by kernel_rfl) (by kernel_rfl) ?_
  clear ha; intro a ha
  refine wpList_nil ?_
  refine then_normal ?_
  refine wp_ret ?_
  refine ret_with (v := .bool true) ha (results_1 rfl ha (res_tmp (by kernel_rfl) (by kernel_rfl))) ?_
  exact ⟨rfl, s⟩

theorem there_zero (W : World) (L : List Chunk) (w : World) (g : Nat) (i : Int) (s : St W (.blk g [.bool false, .slice none 0 0] 52 :: L) w) :
    Calls Try.prog 28 #[.pointer (some ⟨g, 0, none⟩), .int .i64 i] w fun e w' => e = .returned (.bool false) ∧ St W (.blk g [.bool false, .slice none 0 0] 52 :: L) w' := by
  refine enter_args (l := [.pointer (some ⟨g, 0, none⟩), .int .i64 i]) Try.func28 rfl rfl (Nat.le_of_ble_eq_true rfl) ?_
  intro a ha; replace ha : Has a 21 [(0, .pointer (some ⟨g, 0, none⟩)), (1, .int .i64 i)] := ha
  refine wp_seq ?_
  refine wp_region_lit ?_
  refine st_val (.bool false) ha (by kernel_rfl) (by kernel_rfl) ?_
  clear ha; intro a ha
  refine wpList_nil ?_
  refine then_normal ?_
  refine wp_seq ?_
  refine wp_region_lit ?_
  refine st_val (.pointer (some ⟨g, 0, none⟩)) ha (by kernel_rfl) (by kernel_rfl) ?_
  clear ha; intro a ha
  refine st_call ha (by kernel_rfl) (by kernel_rfl) (none_zero W _ w g s) ?_
  rintro _ w ⟨rfl, s⟩
  replace s : St W (.blk g [.bool false, .slice none 0 0] 52 :: L) w := s
  refine ⟨_, rfl, ?_⟩; clear ha; intro a ha
  refine st_val (.bool false) ha (by kernel_rfl) (by kernel_rfl) ?_
  clear ha; intro a ha
  refine st_val (.bool false) ha (by kernel_rfl) (by kernel_rfl) ?_
  clear ha; intro a ha
  refine st_pass ha (by kernel_rfl) ?_
  clear ha; intro a ha
  refine st_pass ha (by kernel_rfl) ?_
  clear ha; intro a ha
  refine st_val (.bool false) ha (by kernel_rfl) (by kernel_rfl) ?_
  clear ha; intro a ha
  refine st_val (.bool false) ha (by kernel_rfl) (by kernel_rfl) ?_
  clear ha; intro a ha
  refine st_pass ha (by kernel_rfl) ?_
  clear ha; intro a ha
  refine st_pass ha (by kernel_rfl) ?_
  clear ha; intro a ha
  refine st_pass ha (by kernel_rfl) ?_
  clear ha; intro a ha
  refine st_pass ha (by kernel_rfl) ?_
  clear ha; intro a ha
  refine st_pass ha (by kernel_rfl) ?_
  clear ha; intro a ha
  refine st_pass ha (by kernel_rfl) ?_
  clear ha; intro a ha
  refine st_pass ha (by kernel_rfl) ?_
  clear ha; intro a ha
  refine st_val (.bool false) ha (by kernel_rfl) (by kernel_rfl) ?_
  clear ha; intro a ha
  refine st_val (.bool false) ha (by kernel_rfl) (by kernel_rfl) ?_
  clear ha; intro a ha
  refine wpList_nil ?_
  refine then_normal ?_
  refine wp_ret ?_
  refine ret_with (v := .bool false) ha (results_1 rfl ha (res_tmp (by kernel_rfl) (by kernel_rfl))) ?_
  exact ⟨rfl, s⟩

theorem look_zero (W : World) (L : List Chunk) (w : World) (g : Nat) (i : Int) (s : St W (.blk g [.bool false, .slice none 0 0] 52 :: L) w) :
    Calls Try.prog 11 #[.pointer (some ⟨g, 0, none⟩), .int .i64 i] w fun e w' => e = .returned (.tuple #[.agg #[.int .i64 0, .int .i64 0, .slice none 0 0], .bool false]) ∧ St W (.blk g [.bool false, .slice none 0 0] 52 :: L) w' := by
  refine enter_args (l := [.pointer (some ⟨g, 0, none⟩), .int .i64 i]) Try.func11 rfl rfl (Nat.le_of_ble_eq_true rfl) ?_
  intro a ha; replace ha : Has a 19 [(0, .pointer (some ⟨g, 0, none⟩)), (1, .int .i64 i)] := ha
  refine wp_seq ?_
  refine wp_region_lit ?_
  refine st_ex ha (by kernel_rfl) (ex_alloc [.int .i64 0, .int .i64 0, .slice none 0 0] s rfl (Try.zeroValue29 _) (by kernel_rfl)) ?_
  clear ha; rintro _ w a ⟨g1, rfl, s⟩ ha
  replace s : St W (.blk g1 [.int .i64 0, .int .i64 0, .slice none 0 0] 29 :: .blk g [.bool false, .slice none 0 0] 52 :: L) w := s
  refine st_val (.bool false) ha (by kernel_rfl) (by kernel_rfl) ?_
  clear ha; intro a ha
  refine wpList_nil ?_
  refine then_normal ?_
  refine wp_seq ?_
  refine wp_seq ?_
  refine wp_region_lit ?_
  refine st_val (.pointer (some ⟨g, 0, none⟩)) ha (by kernel_rfl) (by kernel_rfl) ?_
  clear ha; intro a ha
  refine st_val (.int .i64 i) ha (by kernel_rfl) (by kernel_rfl) ?_
  clear ha; intro a ha
  replace s := s.at_ (j := 1) rfl
  replace s : St W (.blk g [.bool false, .slice none 0 0] 52 :: .blk g1 [.int .i64 0, .int .i64 0, .slice none 0 0] 29 :: L) w := s
  refine st_call ha (by kernel_rfl) (by kernel_rfl) (there_zero W _ w g i s) ?_
  rintro _ w ⟨rfl, s⟩
  replace s : St W (.blk g [.bool false, .slice none 0 0] 52 :: .blk g1 [.int .i64 0, .int .i64 0, .slice none 0 0] 29 :: L) w := s
  refine ⟨_, rfl, ?_⟩; clear ha; intro a ha
  refine st_val (.bool true) ha (by kernel_rfl) (by kernel_rfl) ?_
  clear ha; intro a ha
  refine wpList_nil ?_
  refine then_normal ?_
  refine wp_true ha rfl (by kernel_rfl) ?_
  refine wp_seq ?_
  refine wp_region_lit ?_
  refine st_val (.agg #[.int .i64 0, .int .i64 0, .slice none 0 0]) ha (by kernel_rfl) (by kernel_rfl) ?_
  clear ha; intro a ha
  refine st_exd ha (by kernel_rfl) (ex_store (of_ := 0) 1 [.int .i64 0, .int .i64 0, .slice none 0 0] s rfl rfl (by kernel_rfl) (by kernel_rfl) (Try.sizeOf29 _) rfl (by simp [Value.oneCell']) (Nat.le_of_ble_eq_true rfl)) ?_
  clear ha; rintro w a s ha
  replace s : St W (.blk g [.bool false, .slice none 0 0] 52 :: .blk g1 [.int .i64 0, .int .i64 0, .slice none 0 0] 29 :: L) w := s
  refine st_val (.bool false) ha (by kernel_rfl) (by kernel_rfl) ?_
  clear ha; intro a ha
  refine wpList_nil ?_
  refine then_normal ?_
  refine wp_ret ?_
  refine then_ret ?_
  refine ret_with (v := .tuple #[.agg #[.int .i64 0, .int .i64 0, .slice none 0 0], .bool false]) ha (results_2 rfl ha (res_cellN (s.blkIs 1 rfl) (by kernel_rfl) (by kernel_rfl) Try.isAgg29 Try.sizeOf29 rfl) (res_tmp (by kernel_rfl) (by kernel_rfl))) ?_
  replace s : St W (.blk g [.bool false, .slice none 0 0] 52 :: L) w := St.mid (A := [.blk g [.bool false, .slice none 0 0] 52]) (B := [.blk g1 [.int .i64 0, .int .i64 0, .slice none 0 0] 29]) s
  exact ⟨rfl, s⟩

theorem take_zero (W : World) (L : List Chunk) (w : World) (g : Nat) (i : Int) (s : St W (.blk g [.bool false, .slice none 0 0] 52 :: L) w) :
    Calls Try.prog 13 #[.pointer (some ⟨g, 0, none⟩), .int .i64 i] w fun e w' => e = .returned (.tuple #[.agg #[.int .i64 0, .int .i64 0, .slice none 0 0], .bool false]) ∧ St W (.blk g [.bool false, .slice none 0 0] 52 :: L) w' := by
  refine enter_args (l := [.pointer (some ⟨g, 0, none⟩), .int .i64 i]) Try.func13 rfl rfl (Nat.le_of_ble_eq_true rfl) ?_
  intro a ha; replace ha : Has a 38 [(0, .pointer (some ⟨g, 0, none⟩)), (1, .int .i64 i)] := ha
  refine wp_seq ?_
  refine wp_region_lit ?_
  refine st_ex ha (by kernel_rfl) (ex_alloc [.int .i64 0, .int .i64 0, .slice none 0 0] s rfl (Try.zeroValue29 _) (by kernel_rfl)) ?_
  clear ha; rintro _ w a ⟨g1, rfl, s⟩ ha
  replace s : St W (.blk g1 [.int .i64 0, .int .i64 0, .slice none 0 0] 29 :: .blk g [.bool false, .slice none 0 0] 52 :: L) w := s
  refine st_val (.bool false) ha (by kernel_rfl) (by kernel_rfl) ?_
  clear ha; intro a ha
  refine wpList_nil ?_
  refine then_normal ?_
  refine wp_seq ?_
  refine wp_seq ?_
  refine wp_region_lit ?_
  refine st_val (.pointer (some ⟨g, 0, none⟩)) ha (by kernel_rfl) (by kernel_rfl) ?_
  clear ha; intro a ha
  refine st_val (.int .i64 i) ha (by kernel_rfl) (by kernel_rfl) ?_
  clear ha; intro a ha
  replace s := s.at_ (j := 1) rfl
  replace s : St W (.blk g [.bool false, .slice none 0 0] 52 :: .blk g1 [.int .i64 0, .int .i64 0, .slice none 0 0] 29 :: L) w := s
  refine st_call ha (by kernel_rfl) (by kernel_rfl) (there_zero W _ w g i s) ?_
  rintro _ w ⟨rfl, s⟩
  replace s : St W (.blk g [.bool false, .slice none 0 0] 52 :: .blk g1 [.int .i64 0, .int .i64 0, .slice none 0 0] 29 :: L) w := s
  refine ⟨_, rfl, ?_⟩; clear ha; intro a ha
  refine st_val (.bool true) ha (by kernel_rfl) (by kernel_rfl) ?_
  clear ha; intro a ha
  refine wpList_nil ?_
  refine then_normal ?_
  refine wp_true ha rfl (by kernel_rfl) ?_
  refine wp_seq ?_
  refine wp_region_lit ?_
  refine st_val (.agg #[.int .i64 0, .int .i64 0, .slice none 0 0]) ha (by kernel_rfl) (by kernel_rfl) ?_
  clear ha; intro a ha
  refine st_exd ha (by kernel_rfl) (ex_store (of_ := 0) 1 [.int .i64 0, .int .i64 0, .slice none 0 0] s rfl rfl (by kernel_rfl) (by kernel_rfl) (Try.sizeOf29 _) rfl (by simp [Value.oneCell']) (Nat.le_of_ble_eq_true rfl)) ?_
  clear ha; rintro w a s ha
  replace s : St W (.blk g [.bool false, .slice none 0 0] 52 :: .blk g1 [.int .i64 0, .int .i64 0, .slice none 0 0] 29 :: L) w := s
  refine st_val (.bool false) ha (by kernel_rfl) (by kernel_rfl) ?_
  clear ha; intro a ha
  refine wpList_nil ?_
  refine then_normal ?_
  refine wp_ret ?_
  refine then_ret ?_
  refine ret_with (v := .tuple #[.agg #[.int .i64 0, .int .i64 0, .slice none 0 0], .bool false]) ha (results_2 rfl ha (res_cellN (s.blkIs 1 rfl) (by kernel_rfl) (by kernel_rfl) Try.isAgg29 Try.sizeOf29 rfl) (res_tmp (by kernel_rfl) (by kernel_rfl))) ?_
  replace s : St W (.blk g [.bool false, .slice none 0 0] 52 :: L) w := St.mid (A := [.blk g [.bool false, .slice none 0 0] 52]) (B := [.blk g1 [.int .i64 0, .int .i64 0, .slice none 0 0] 29]) s
  exact ⟨rfl, s⟩

theorem double_zero (W : World) (L : List Chunk) (w : World) (g : Nat) (i : Int) (s : St W (.blk g [.bool false, .slice none 0 0] 52 :: L) w) :
    Calls Try.prog 15 #[.pointer (some ⟨g, 0, none⟩), .int .i64 i] w fun e w' => e = .returned (.int .i64 1) ∧ St W (.blk g [.bool false, .slice none 0 0] 52 :: L) w' := by
  refine enter_args (l := [.pointer (some ⟨g, 0, none⟩), .int .i64 i]) Try.func15 rfl rfl (Nat.le_of_ble_eq_true rfl) ?_
  intro a ha; replace ha : Has a 22 [(0, .pointer (some ⟨g, 0, none⟩)), (1, .int .i64 i)] := ha
  refine wp_seq ?_
  refine wp_region_lit ?_
  refine st_val (.int .i64 0) ha (by kernel_rfl) (by kernel_rfl) ?_
  clear ha; intro a ha
  refine wpList_nil ?_
  refine then_normal ?_
  refine wp_seq ?_
  refine wp_block ?_
  refine wp_seq ?_
  refine wp_region_lit ?_
  refine st_val (.pointer (some ⟨g, 0, none⟩)) ha (by kernel_rfl) (by kernel_rfl) ?_
  clear ha; intro a ha
  refine st_call ha (by kernel_rfl) (by kernel_rfl) (none_zero W _ w g s) ?_
  rintro _ w ⟨rfl, s⟩
  replace s : St W (.blk g [.bool false, .slice none 0 0] 52 :: L) w := s
  refine ⟨_, rfl, ?_⟩; clear ha; intro a ha
  refine st_val (.bool true) ha (by kernel_rfl) (by kernel_rfl) ?_
  clear ha; intro a ha
  refine wpList_nil ?_
  refine then_normal ?_
  refine wp_true ha rfl (by kernel_rfl) ?_
  refine wp_seq ?_
  refine wp_region_lit ?_
  refine st_val (.int .i64 1) ha (by kernel_rfl) (by kernel_rfl) ?_
  clear ha; intro a ha
  refine wpList_nil ?_
  refine then_normal ?_
  refine wp_ret ?_
  refine block_ret ?_
  refine then_ret ?_
  refine ret_with (v := .int .i64 1) ha (results_1 rfl ha (res_tmp (by kernel_rfl) (by kernel_rfl))) ?_
  exact ⟨rfl, s⟩

theorem len_zero (W : World) (L : List Chunk) (w : World) (g : Nat) (s : St W (.blk g [.bool false, .slice none 0 0] 52 :: L) w) :
    Calls Try.prog 20 #[.pointer (some ⟨g, 0, none⟩)] w fun e w' => e = .returned (.int .i64 0) ∧ St W (.blk g [.bool false, .slice none 0 0] 52 :: L) w' := by
  refine enter_args (l := [.pointer (some ⟨g, 0, none⟩)]) Try.func20 rfl rfl (Nat.le_of_ble_eq_true rfl) ?_
  intro a ha; replace ha : Has a 10 [(0, .pointer (some ⟨g, 0, none⟩))] := ha
  refine wp_seq ?_
  refine wp_region_lit ?_
  refine st_val (.int .i64 0) ha (by kernel_rfl) (by kernel_rfl) ?_
  clear ha; intro a ha
  refine wpList_nil ?_
  refine then_normal ?_
  refine wp_seq ?_
  refine wp_seq ?_
  refine wp_region_lit ?_
  refine st_val (.pointer (some ⟨g, 0, none⟩)) ha (by kernel_rfl) (by kernel_rfl) ?_
  clear ha; intro a ha
  refine st_call ha (by kernel_rfl) (by kernel_rfl) (none_zero W _ w g s) ?_
  rintro _ w ⟨rfl, s⟩
  replace s : St W (.blk g [.bool false, .slice none 0 0] 52 :: L) w := s
  refine ⟨_, rfl, ?_⟩; clear ha; intro a ha
  refine wpList_nil ?_
  refine then_normal ?_
  refine wp_true ha rfl (by kernel_rfl) ?_
  refine wp_seq ?_
  refine wp_region_lit ?_
  refine st_val (.int .i64 0) ha (by kernel_rfl) (by kernel_rfl) ?_
  clear ha; intro a ha
  refine wpList_nil ?_
  refine then_normal ?_
  refine wp_ret ?_
  refine then_ret ?_
  refine ret_with (v := .int .i64 0) ha (results_1 rfl ha (res_tmp (by kernel_rfl) (by kernel_rfl))) ?_
  exact ⟨rfl, s⟩

theorem put_zero (W : World) (L : List Chunk) (w : World) (g : Nat) (x y : Int) (B : Option Addr) (n c : Nat) (s : St W (.blk g [.bool false, .slice none 0 0] 52 :: L) w) :
    Calls Try.prog 18 #[.pointer (some ⟨g, 0, none⟩), .agg #[.int .i64 x, .int .i64 y, .slice B n c]] w fun e w' => e = .returned (.int .i64 1) ∧ St W (.blk g [.bool false, .slice none 0 0] 52 :: L) w' := by
  refine enter_args (l := [.pointer (some ⟨g, 0, none⟩), .agg #[.int .i64 x, .int .i64 y, .slice B n c]]) Try.func18 rfl rfl (Nat.le_of_ble_eq_true rfl) ?_
  intro a ha; replace ha : Has a 42 [(0, .pointer (some ⟨g, 0, none⟩)), (1, .agg #[.int .i64 x, .int .i64 y, .slice B n c])] := ha
  refine wp_seq ?_
  refine wp_region_lit ?_
  refine st_ex ha (by kernel_rfl) (ex_box [.int .i64 x, .int .i64 y, .slice B n c] s rfl (by kernel_rfl)) ?_
  clear ha; rintro _ w a ⟨g1, rfl, s⟩ ha
  replace s : St W (.blk g1 [.int .i64 x, .int .i64 y, .slice B n c] 29 :: .blk g [.bool false, .slice none 0 0] 52 :: L) w := s
  refine st_val (.int .i64 0) ha (by kernel_rfl) (by kernel_rfl) ?_
  clear ha; intro a ha
  refine wpList_nil ?_
  refine then_normal ?_
  refine wp_seq ?_
  refine wp_block ?_
  refine wp_seq ?_
  refine wp_region_lit ?_
  refine st_val (.pointer (some ⟨g, 0, none⟩)) ha (by kernel_rfl) (by kernel_rfl) ?_
  clear ha; intro a ha
  replace s := s.at_ (j := 1) rfl
  replace s : St W (.blk g [.bool false, .slice none 0 0] 52 :: .blk g1 [.int .i64 x, .int .i64 y, .slice B n c] 29 :: L) w := s
  refine st_call ha (by kernel_rfl) (by kernel_rfl) (none_zero W _ w g s) ?_
  rintro _ w ⟨rfl, s⟩
  replace s : St W (.blk g [.bool false, .slice none 0 0] 52 :: .blk g1 [.int .i64 x, .int .i64 y, .slice B n c] 29 :: L) w := s
  refine ⟨_, rfl, ?_⟩; clear ha; intro a ha
  refine st_val (.bool true) ha (by kernel_rfl) (by kernel_rfl) ?_
  clear ha; intro a ha
  refine wpList_nil ?_
  refine then_normal ?_
  refine wp_true ha rfl (by kernel_rfl) ?_
  refine wp_seq ?_
  refine wp_region_lit ?_
  refine st_val (.int .i64 1) ha (by kernel_rfl) (by kernel_rfl) ?_
  clear ha; intro a ha
  refine wpList_nil ?_
  refine then_normal ?_
  refine wp_ret ?_
  refine block_ret ?_
  refine then_ret ?_
  refine ret_with (v := .int .i64 1) ha (results_1 rfl ha (res_tmp (by kernel_rfl) (by kernel_rfl))) ?_
  replace s : St W (.blk g [.bool false, .slice none 0 0] 52 :: L) w := St.mid (A := [.blk g [.bool false, .slice none 0 0] 52]) (B := [.blk g1 [.int .i64 x, .int .i64 y, .slice B n c] 29]) s
  exact ⟨rfl, s⟩

set_option maxRecDepth 100000 in
theorem bagKnown_any (W : World) (L : List Chunk) (w : World) (s : St W L w) :
    Calls Try.prog 6 #[] w fun e w' => e = .returned (.bool true) ∧ St W L w' := by
  refine enter_args (l := []) Try.func6 rfl rfl (Nat.le_of_ble_eq_true rfl) ?_
  intro a ha; replace ha : Has a 246 [] := ha
  refine wp_seq ?_
  refine wp_region_lit ?_
  refine st_val (.bool false) ha (by kernel_rfl) (by kernel_rfl) ?_
  clear ha; intro a ha
  refine wpList_nil ?_
  refine then_normal ?_
  refine wp_seq ?_
  refine wp_region_lit ?_
  refine st_call ha (by kernel_rfl) (by kernel_rfl) (new_bag W _ w s) ?_
  rintro _ w ⟨g1, rfl, s⟩
  replace s : St W (Bag g1 [] :: L) w := s
  refine ⟨_, rfl, ?_⟩; clear ha; intro a ha
  refine st_val (.pointer (some ⟨g1, 0, none⟩)) ha (by kernel_rfl) (by kernel_rfl) ?_
  clear ha; intro a ha
  refine wpList_nil ?_
  refine then_normal ?_
  refine wp_seq ?_
  refine wp_region_lit ?_
  refine st_ex ha (by kernel_rfl) (ex_makeSlice (n := 65536) (c := 65536) (kx := .i64) (ky := .i64) elt27' #[.int .u8 0] (by kernel_rfl) s rfl rfl rfl (by omega) (by omega) (by omega) (by simp [roomBytes])) ?_
  clear ha; rintro _ w a ⟨g2, rfl, s⟩ ha
  replace s := make16 s
  replace s : St W (Own 5 1 (some ⟨g2, 0, none⟩) 65536 65536 (u8s Z16) :: Bag g1 [] :: L) w := s
  refine st_val (.agg #[.int .i64 4, .int .i64 4, .slice (some ⟨g2, 0, none⟩) 65536 65536]) ha (by kernel_rfl) (by kernel_rfl) ?_
  clear ha; intro a ha
  refine st_ex ha (by kernel_rfl) (ex_alloc [.int .i64 0, .int .i64 0, .slice none 0 0] s rfl (Try.zeroValue29 _) (by kernel_rfl)) ?_
  clear ha; rintro _ w a ⟨g3, rfl, s⟩ ha
  replace s : St W (.blk g3 [.int .i64 0, .int .i64 0, .slice none 0 0] 29 :: Own 5 1 (some ⟨g2, 0, none⟩) 65536 65536 (u8s Z16) :: Bag g1 [] :: L) w := s
  refine st_exd ha (by kernel_rfl) (ex_store (of_ := 0) 0 [.int .i64 4, .int .i64 4, .slice (some ⟨g2, 0, none⟩) 65536 65536] s rfl rfl (by kernel_rfl) (by kernel_rfl) (Try.sizeOf29 _) rfl (by simp [Value.oneCell']) (Nat.le_of_ble_eq_true rfl)) ?_
  clear ha; rintro w a s ha
  replace s : St W (.blk g3 [.int .i64 4, .int .i64 4, .slice (some ⟨g2, 0, none⟩) 65536 65536] 29 :: Own 5 1 (some ⟨g2, 0, none⟩) 65536 65536 (u8s Z16) :: Bag g1 [] :: L) w := s
  refine wpList_nil ?_
  refine then_normal ?_
  refine wp_seq ?_
  refine wp_region_lit ?_
  refine st_val (.pointer (some ⟨g1, 0, none⟩)) ha (by kernel_rfl) (by kernel_rfl) ?_
  clear ha; intro a ha
  refine st_val (.agg #[.int .i64 4, .int .i64 4, .slice (some ⟨g2, 0, none⟩) 65536 65536]) ha (by kernel_rfl) (run_loadN (of_ := 0) [.int .i64 4, .int .i64 4, .slice (some ⟨g2, 0, none⟩) 65536 65536] (s.blkIs 0 rfl) rfl (by kernel_rfl) Try.isAgg29 Try.sizeOf29 rfl (Nat.le_of_ble_eq_true rfl)) ?_
  clear ha; intro a ha
  replace s := s.at_ (j := 2) rfl
  replace s : St W (Bag g1 [] :: .blk g3 [.int .i64 4, .int .i64 4, .slice (some ⟨g2, 0, none⟩) 65536 65536] 29 :: Own 5 1 (some ⟨g2, 0, none⟩) 65536 65536 (u8s Z16) :: L) w := s
  refine st_call ha (by kernel_rfl) (by kernel_rfl) (put_is W _ w g1 [] 4 4 Z16 (some ⟨g2, 0, none⟩) 65536 65536 0 [⟨4, 4, Z16⟩] Z16_len.symm (code_ok (by omega) (by omega) (by rw [Z16_len]; omega) (by simp)) rfl (Knows.own (j := 1) rfl) (by omega) s) ?_
  rintro _ w ⟨rfl, s⟩
  replace s : St W (Bag g1 [⟨4, 4, Z16⟩] :: .blk g3 [.int .i64 4, .int .i64 4, .slice (some ⟨g2, 0, none⟩) 65536 65536] 29 :: Own 5 1 (some ⟨g2, 0, none⟩) 65536 65536 (u8s Z16) :: L) w := s
  refine ⟨_, rfl, ?_⟩; clear ha; intro a ha
  refine st_val (.int .i64 0) ha (by kernel_rfl) (by kernel_rfl) ?_
  clear ha; intro a ha
  refine wpList_nil ?_
  refine then_normal ?_
  refine wp_seq ?_
  refine wp_region_lit ?_
  refine st_val (.pointer (some ⟨g1, 0, none⟩)) ha (by kernel_rfl) (by kernel_rfl) ?_
  clear ha; intro a ha
  refine st_call ha (by kernel_rfl) (by kernel_rfl) (take_to W _ w g1 [⟨4, 4, Z16⟩] 0 4 4 Z16 65536 [] rfl Z16_len rfl ⟨by simp [Z16_len], by simp⟩ s) ?_
  rintro _ w ⟨A4, c5, rfl, s⟩
  replace s : St W (Own 5 1 A4 65536 c5 (u8s Z16) :: Bag g1 [] :: .blk g3 [.int .i64 4, .int .i64 4, .slice (some ⟨g2, 0, none⟩) 65536 65536] 29 :: Own 5 1 (some ⟨g2, 0, none⟩) 65536 65536 (u8s Z16) :: L) w := s
  refine ⟨_, rfl, ?_⟩; clear ha; intro a ha
  refine st_val (.tuple #[.agg #[.int .i64 4, .int .i64 4, .slice A4 65536 c5], .bool true]) ha (by kernel_rfl) (by kernel_rfl) ?_
  clear ha; intro a ha
  refine st_val (.agg #[.int .i64 4, .int .i64 4, .slice A4 65536 c5]) ha (by kernel_rfl) (by kernel_rfl) ?_
  clear ha; intro a ha
  refine st_val (.bool true) ha (by kernel_rfl) (by kernel_rfl) ?_
  clear ha; intro a ha
  refine st_ex ha (by kernel_rfl) (ex_alloc [.int .i64 0, .int .i64 0, .slice none 0 0] s rfl (Try.zeroValue29 _) (by kernel_rfl)) ?_
  clear ha; rintro _ w a ⟨g6, rfl, s⟩ ha
  replace s : St W (.blk g6 [.int .i64 0, .int .i64 0, .slice none 0 0] 29 :: Own 5 1 A4 65536 c5 (u8s Z16) :: Bag g1 [] :: .blk g3 [.int .i64 4, .int .i64 4, .slice (some ⟨g2, 0, none⟩) 65536 65536] 29 :: Own 5 1 (some ⟨g2, 0, none⟩) 65536 65536 (u8s Z16) :: L) w := s
  refine st_exd ha (by kernel_rfl) (ex_store (of_ := 0) 0 [.int .i64 4, .int .i64 4, .slice A4 65536 c5] s rfl rfl (by kernel_rfl) (by kernel_rfl) (Try.sizeOf29 _) rfl (by simp [Value.oneCell']) (Nat.le_of_ble_eq_true rfl)) ?_
  clear ha; rintro w a s ha
  replace s : St W (.blk g6 [.int .i64 4, .int .i64 4, .slice A4 65536 c5] 29 :: Own 5 1 A4 65536 c5 (u8s Z16) :: Bag g1 [] :: .blk g3 [.int .i64 4, .int .i64 4, .slice (some ⟨g2, 0, none⟩) 65536 65536] 29 :: Own 5 1 (some ⟨g2, 0, none⟩) 65536 65536 (u8s Z16) :: L) w := s
  refine st_val (.bool true) ha (by kernel_rfl) (by kernel_rfl) ?_
  clear ha; intro a ha
  refine wpList_nil ?_
  refine then_normal ?_
  refine wp_seq ?_
  refine wp_region_lit ?_
  refine st_val (.pointer (some ⟨g3, 2, none⟩)) ha (by kernel_rfl) (by kernel_rfl) ?_
  clear ha; intro a ha
  refine st_val (.slice (some ⟨g2, 0, none⟩) 65536 65536) ha (by kernel_rfl) (run_load1 (of_ := 2) (s.blkIs 3 rfl) rfl (by kernel_rfl) Try.isAgg27 rfl) ?_
  clear ha; intro a ha
  refine st_ex ha (by kernel_rfl) (ex_buildSlice elt27 _ zs27 [.int .u8 0] s rfl (by kernel_rfl) (by decide)) ?_
  clear ha; rintro _ w a ⟨g7, rfl, s⟩ ha
  replace s : St W (.blk g7 [.int .u8 0] 5 :: .blk g6 [.int .i64 4, .int .i64 4, .slice A4 65536 c5] 29 :: Own 5 1 A4 65536 c5 (u8s Z16) :: Bag g1 [] :: .blk g3 [.int .i64 4, .int .i64 4, .slice (some ⟨g2, 0, none⟩) 65536 65536] 29 :: Own 5 1 (some ⟨g2, 0, none⟩) 65536 65536 (u8s Z16) :: L) w := s
  refine st_ex ha (by kernel_rfl) (ex_append (d' := 1) elt27 (by decide) 5 [.int .u8 0] s rfl (by kernel_rfl) (by kernel_rfl) rfl (reads_blk (s.blkIs 0 rfl) rfl) (by simp [Value.oneCell']) (by simp only [maxLen]; omega) (by omega)) ?_
  clear ha; rintro _ w a ⟨A8, c9, rfl, hA_, s⟩ ha
  replace s : St W (.blk g7 [.int .u8 0] 5 :: .blk g6 [.int .i64 4, .int .i64 4, .slice A4 65536 c5] 29 :: Own 5 1 A4 65536 c5 (u8s Z16) :: Bag g1 [] :: .blk g3 [.int .i64 4, .int .i64 4, .slice (some ⟨g2, 0, none⟩) 65536 65536] 29 :: Own 5 1 A8 (65536 + 1) c9 ((u8s Z16) ++ [.int .u8 0]) :: L) w := s
  refine st_val (.pointer (some ⟨g3, 2, none⟩)) ha (by kernel_rfl) (by kernel_rfl) ?_
  clear ha; intro a ha
  refine st_exd ha (by kernel_rfl) (ex_store (of_ := 2) 4 [.slice A8 (65536 + 1) c9] s rfl rfl (by kernel_rfl) (by kernel_rfl) (Try.sizeOf27 _) rfl (by simp [Value.oneCell']) (Nat.le_of_ble_eq_true rfl)) ?_
  clear ha; rintro w a s ha
  replace s : St W (.blk g7 [.int .u8 0] 5 :: .blk g6 [.int .i64 4, .int .i64 4, .slice A4 65536 c5] 29 :: Own 5 1 A4 65536 c5 (u8s Z16) :: Bag g1 [] :: .blk g3 [.int .i64 4, .int .i64 4, .slice A8 (65536 + 1) c9] 29 :: Own 5 1 A8 (65536 + 1) c9 ((u8s Z16) ++ [.int .u8 0]) :: L) w := s
  refine wpList_nil ?_
  refine then_normal ?_
  refine wp_seq ?_
  refine wp_region_lit ?_
  refine st_val (.pointer (some ⟨g1, 0, none⟩)) ha (by kernel_rfl) (by kernel_rfl) ?_
  clear ha; intro a ha
  refine st_val (.agg #[.int .i64 4, .int .i64 4, .slice A8 (65536 + 1) c9]) ha (by kernel_rfl) (run_loadN (of_ := 0) [.int .i64 4, .int .i64 4, .slice A8 (65536 + 1) c9] (s.blkIs 4 rfl) rfl (by kernel_rfl) Try.isAgg29 Try.sizeOf29 rfl (Nat.le_of_ble_eq_true rfl)) ?_
  clear ha; intro a ha
  replace s := s.at_ (j := 3) rfl
  replace s : St W (Bag g1 [] :: .blk g7 [.int .u8 0] 5 :: .blk g6 [.int .i64 4, .int .i64 4, .slice A4 65536 c5] 29 :: Own 5 1 A4 65536 c5 (u8s Z16) :: .blk g3 [.int .i64 4, .int .i64 4, .slice A8 (65536 + 1) c9] 29 :: Own 5 1 A8 (65536 + 1) c9 ((u8s Z16) ++ [.int .u8 0]) :: L) w := s
  refine st_call ha (by kernel_rfl) (by kernel_rfl) (put_is W _ w g1 [] 4 4 (Z16 ++ [0]) A8 (65536 + 1) c9 5 [] (by rw [List.length_append, Z16_len]; rfl) (code_long (by omega) (by omega) (by rw [List.length_append, Z16_len]; simp)) rfl (by rw [u8s_snoc]; exact Knows.own (j := 4) rfl) (by omega) s) ?_
  rintro _ w ⟨rfl, s⟩
  replace s : St W (Bag g1 [] :: .blk g7 [.int .u8 0] 5 :: .blk g6 [.int .i64 4, .int .i64 4, .slice A4 65536 c5] 29 :: Own 5 1 A4 65536 c5 (u8s Z16) :: .blk g3 [.int .i64 4, .int .i64 4, .slice A8 (65536 + 1) c9] 29 :: Own 5 1 A8 (65536 + 1) c9 ((u8s Z16) ++ [.int .u8 0]) :: L) w := s
  refine ⟨_, rfl, ?_⟩; clear ha; intro a ha
  refine st_val (.int .i64 5) ha (by kernel_rfl) (by kernel_rfl) ?_
  clear ha; intro a ha
  refine wpList_nil ?_
  refine then_normal ?_
  refine wp_seq ?_
  refine wp_region_lit ?_
  refine st_val (.pointer (some ⟨g1, 0, none⟩)) ha (by kernel_rfl) (by kernel_rfl) ?_
  clear ha; intro a ha
  refine st_val (.pointer (some ⟨g3, 2, none⟩)) ha (by kernel_rfl) (by kernel_rfl) ?_
  clear ha; intro a ha
  refine st_val (.slice A8 (65536 + 1) c9) ha (by kernel_rfl) (run_load1 (of_ := 2) (s.blkIs 4 rfl) rfl (by kernel_rfl) Try.isAgg27 rfl) ?_
  clear ha; intro a ha
  refine st_val (.agg #[.int .i64 5, .int .i64 1, .slice A8 (65536 + 1) c9]) ha (by kernel_rfl) (by kernel_rfl) ?_
  clear ha; intro a ha
  refine st_call ha (by kernel_rfl) (by kernel_rfl) (put_is W _ w g1 [] 5 1 (Z16 ++ [0]) A8 (65536 + 1) c9 2 [] (by rw [List.length_append, Z16_len]; rfl) (code_arg (by omega)) rfl (by rw [u8s_snoc]; exact Knows.own (j := 4) rfl) (by omega) s) ?_
  rintro _ w ⟨rfl, s⟩
  replace s : St W (Bag g1 [] :: .blk g7 [.int .u8 0] 5 :: .blk g6 [.int .i64 4, .int .i64 4, .slice A4 65536 c5] 29 :: Own 5 1 A4 65536 c5 (u8s Z16) :: .blk g3 [.int .i64 4, .int .i64 4, .slice A8 (65536 + 1) c9] 29 :: Own 5 1 A8 (65536 + 1) c9 ((u8s Z16) ++ [.int .u8 0]) :: L) w := s
  refine ⟨_, rfl, ?_⟩; clear ha; intro a ha
  refine st_val (.int .i64 2) ha (by kernel_rfl) (by kernel_rfl) ?_
  clear ha; intro a ha
  refine wpList_nil ?_
  refine then_normal ?_
  refine wp_seq ?_
  refine wp_region_lit ?_
  refine st_val (.pointer (some ⟨g1, 0, none⟩)) ha (by kernel_rfl) (by kernel_rfl) ?_
  clear ha; intro a ha
  refine st_val (.agg #[.int .i64 1, .int .i64 0, .slice none 0 0]) ha (by kernel_rfl) (by kernel_rfl) ?_
  clear ha; intro a ha
  refine st_call ha (by kernel_rfl) (by kernel_rfl) (put_is W _ w g1 [] 1 0 [] none 0 0 2 [] rfl (code_arg (by omega)) rfl (Knows.reads_none _ _) (by omega) s) ?_
  rintro _ w ⟨rfl, s⟩
  replace s : St W (Bag g1 [] :: .blk g7 [.int .u8 0] 5 :: .blk g6 [.int .i64 4, .int .i64 4, .slice A4 65536 c5] 29 :: Own 5 1 A4 65536 c5 (u8s Z16) :: .blk g3 [.int .i64 4, .int .i64 4, .slice A8 (65536 + 1) c9] 29 :: Own 5 1 A8 (65536 + 1) c9 ((u8s Z16) ++ [.int .u8 0]) :: L) w := s
  refine ⟨_, rfl, ?_⟩; clear ha; intro a ha
  refine st_val (.int .i64 2) ha (by kernel_rfl) (by kernel_rfl) ?_
  clear ha; intro a ha
  refine wpList_nil ?_
  refine then_normal ?_
  refine wp_seq ?_
  refine wp_region_lit ?_
  refine st_val (.pointer (some ⟨g1, 0, none⟩)) ha (by kernel_rfl) (by kernel_rfl) ?_
  clear ha; intro a ha
  refine st_val (.agg #[.int .i64 (-1), .int .i64 1, .slice none 0 0]) ha (by kernel_rfl) (by kernel_rfl) ?_
  clear ha; intro a ha
  refine st_call ha (by kernel_rfl) (by kernel_rfl) (put_is W _ w g1 [] (-1) 1 [] none 0 0 2 [] rfl (code_arg (by omega)) rfl (Knows.reads_none _ _) (by omega) s) ?_
  rintro _ w ⟨rfl, s⟩
  replace s : St W (Bag g1 [] :: .blk g7 [.int .u8 0] 5 :: .blk g6 [.int .i64 4, .int .i64 4, .slice A4 65536 c5] 29 :: Own 5 1 A4 65536 c5 (u8s Z16) :: .blk g3 [.int .i64 4, .int .i64 4, .slice A8 (65536 + 1) c9] 29 :: Own 5 1 A8 (65536 + 1) c9 ((u8s Z16) ++ [.int .u8 0]) :: L) w := s
  refine ⟨_, rfl, ?_⟩; clear ha; intro a ha
  refine st_val (.int .i64 2) ha (by kernel_rfl) (by kernel_rfl) ?_
  clear ha; intro a ha
  refine wpList_nil ?_
  refine then_normal ?_
  refine wp_seq ?_
  refine wp_region_lit ?_
  refine st_val (.int .i64 0) ha (by kernel_rfl) (by kernel_rfl) ?_
  clear ha; intro a ha
  refine st_val (.bool true) ha (by kernel_rfl) (by kernel_rfl) ?_
  clear ha; intro a ha
  refine st_val (.bool true) ha (by kernel_rfl) (by kernel_rfl) ?_
  clear ha; intro a ha
  refine st_val (.bool true) ha (by kernel_rfl) (by kernel_rfl) ?_
  clear ha; intro a ha
  refine st_val (.bool true) ha (by kernel_rfl) (by kernel_rfl) ?_
  clear ha; intro a ha
  refine st_val (.bool true) ha (by kernel_rfl) (by kernel_rfl) ?_
  clear ha; intro a ha
  refine st_val (.pointer (some ⟨g6, 2, none⟩)) ha (by kernel_rfl) (by kernel_rfl) ?_
  clear ha; intro a ha
  refine st_val (.slice A4 65536 c5) ha (by kernel_rfl) (run_load1 (of_ := 2) (s.blkIs 2 rfl) rfl (by kernel_rfl) Try.isAgg27 rfl) ?_
  clear ha; intro a ha
  refine st_val (.int .i64 65536) ha (by kernel_rfl) (by kernel_rfl) ?_
  clear ha; intro a ha
  refine st_val (.bool true) ha (by kernel_rfl) (by kernel_rfl) ?_
  clear ha; intro a ha
  refine st_val (.bool true) ha (by kernel_rfl) (by kernel_rfl) ?_
  clear ha; intro a ha
  refine st_val (.bool true) ha (by kernel_rfl) (by kernel_rfl) ?_
  clear ha; intro a ha
  refine st_val (.int .i64 5) ha (by kernel_rfl) (by kernel_rfl) ?_
  clear ha; intro a ha
  refine st_val (.bool true) ha (by kernel_rfl) (by kernel_rfl) ?_
  clear ha; intro a ha
  refine st_val (.bool true) ha (by kernel_rfl) (by kernel_rfl) ?_
  clear ha; intro a ha
  refine st_val (.bool true) ha (by kernel_rfl) (by kernel_rfl) ?_
  clear ha; intro a ha
  refine st_val (.int .i64 2) ha (by kernel_rfl) (by kernel_rfl) ?_
  clear ha; intro a ha
  refine st_val (.bool true) ha (by kernel_rfl) (by kernel_rfl) ?_
  clear ha; intro a ha
  refine st_val (.bool true) ha (by kernel_rfl) (by kernel_rfl) ?_
  clear ha; intro a ha
  refine st_val (.bool true) ha (by kernel_rfl) (by kernel_rfl) ?_
  clear ha; intro a ha
  refine st_val (.int .i64 2) ha (by kernel_rfl) (by kernel_rfl) ?_
  clear ha; intro a ha
  refine st_val (.bool true) ha (by kernel_rfl) (by kernel_rfl) ?_
  clear ha; intro a ha
  refine st_val (.bool true) ha (by kernel_rfl) (by kernel_rfl) ?_
  clear ha; intro a ha
  refine st_val (.bool true) ha (by kernel_rfl) (by kernel_rfl) ?_
  clear ha; intro a ha
  refine st_val (.int .i64 2) ha (by kernel_rfl) (by kernel_rfl) ?_
  clear ha; intro a ha
  refine st_val (.bool true) ha (by kernel_rfl) (by kernel_rfl) ?_
  clear ha; intro a ha
  refine st_val (.bool true) ha (by kernel_rfl) (by kernel_rfl) ?_
  clear ha; intro a ha
  refine st_val (.bool true) ha (by kernel_rfl) (by kernel_rfl) ?_
  clear ha; intro a ha
  refine wpList_nil ?_
  refine then_normal ?_
  refine wp_seq ?_
  refine wp_seq ?_
  refine wp_region_lit ?_
  refine st_val (.int .i64 0) ha (by kernel_rfl) (by kernel_rfl) ?_
  clear ha; intro a ha
  refine wpList_nil ?_
  refine then_normal ?_
  refine wp_block ?_
  replace s := s.at_ (j := 5) rfl
  replace s : St W (Own 5 1 A8 (65536 + 1) c9 ((u8s Z16) ++ [.int .u8 0]) :: Bag g1 [] :: .blk g7 [.int .u8 0] 5 :: .blk g6 [.int .i64 4, .int .i64 4, .slice A4 65536 c5] 29 :: Own 5 1 A4 65536 c5 (u8s Z16) :: .blk g3 [.int .i64 4, .int .i64 4, .slice A8 (65536 + 1) c9] 29 :: L) w := s
  replace s := s.at_ (j := 5) rfl
  replace s : St W (.blk g3 [.int .i64 4, .int .i64 4, .slice A8 (65536 + 1) c9] 29 :: Own 5 1 A8 (65536 + 1) c9 ((u8s Z16) ++ [.int .u8 0]) :: Bag g1 [] :: .blk g7 [.int .u8 0] 5 :: .blk g6 [.int .i64 4, .int .i64 4, .slice A4 65536 c5] 29 :: Own 5 1 A4 65536 c5 (u8s Z16) :: L) w := s
  replace s := s.at_ (j := 5) rfl
  replace s : St W (Own 5 1 A4 65536 c5 (u8s Z16) :: .blk g3 [.int .i64 4, .int .i64 4, .slice A8 (65536 + 1) c9] 29 :: Own 5 1 A8 (65536 + 1) c9 ((u8s Z16) ++ [.int .u8 0]) :: Bag g1 [] :: .blk g7 [.int .u8 0] 5 :: .blk g6 [.int .i64 4, .int .i64 4, .slice A4 65536 c5] 29 :: L) w := s
  replace s := s.at_ (j := 5) rfl
  replace s : St W (.blk g6 [.int .i64 4, .int .i64 4, .slice A4 65536 c5] 29 :: Own 5 1 A4 65536 c5 (u8s Z16) :: .blk g3 [.int .i64 4, .int .i64 4, .slice A8 (65536 + 1) c9] 29 :: Own 5 1 A8 (65536 + 1) c9 ((u8s Z16) ++ [.int .u8 0]) :: Bag g1 [] :: .blk g7 [.int .u8 0] 5 :: L) w := s
  replace s := s.at_ (j := 4) rfl
  replace s : St W (Bag g1 [] :: .blk g6 [.int .i64 4, .int .i64 4, .slice A4 65536 c5] 29 :: Own 5 1 A4 65536 c5 (u8s Z16) :: .blk g3 [.int .i64 4, .int .i64 4, .slice A8 (65536 + 1) c9] 29 :: Own 5 1 A8 (65536 + 1) c9 ((u8s Z16) ++ [.int .u8 0]) :: .blk g7 [.int .u8 0] 5 :: L) w := s
  replace s : St W (Bag g1 [] :: .blk g6 [.int .i64 4, .int .i64 4, .slice A4 65536 c5] 29 :: Own 5 1 A4 65536 c5 (u8s Z16) :: .blk g3 [.int .i64 4, .int .i64 4, .slice A8 (65536 + 1) c9] 29 :: Own 5 1 A8 (65536 + 1) c9 ((u8s Z16) ++ [.int .u8 0]) :: L) w := St.mid (A := [Bag g1 [], .blk g6 [.int .i64 4, .int .i64 4, .slice A4 65536 c5] 29, Own 5 1 A4 65536 c5 (u8s Z16), .blk g3 [.int .i64 4, .int .i64 4, .slice A8 (65536 + 1) c9] 29, Own 5 1 A8 (65536 + 1) c9 ((u8s Z16) ++ [.int .u8 0])]) (B := [.blk g7 [.int .u8 0] 5]) s
  replace s : St W (Bag g1 (many 0) :: .blk g6 [.int .i64 4, .int .i64 4, .slice A4 65536 c5] 29 :: Own 5 1 A4 65536 c5 (u8s Z16) :: .blk g3 [.int .i64 4, .int .i64 4, .slice A8 (65536 + 1) c9] 29 :: Own 5 1 A8 (65536 + 1) c9 ((u8s Z16) ++ [.int .u8 0]) :: L) w := s
  refine wp_loopG (G := Nat) (fun k a w => Has a 246 [(1, .pointer (some ⟨g1, 0, none⟩)), (2, .pointer (some ⟨g3, 0, none⟩)), (10, .bool true), (11, .int .i64 ((k : Nat) : Int))] ∧ St W (Bag g1 (many k) :: .blk g6 [.int .i64 4, .int .i64 4, .slice A4 65536 c5] 29 :: Own 5 1 A4 65536 c5 (u8s Z16) :: .blk g3 [.int .i64 4, .int .i64 4, .slice A8 (65536 + 1) c9] 29 :: Own 5 1 A8 (65536 + 1) c9 ((u8s Z16) ++ [.int .u8 0]) :: L) w ∧ (k ≤ 2048)) (fun k => 2048 - k) 0 ?_ ?_
  · exact ⟨(Has.cons ha (by kernel_rfl) (by kernel_rfl) (Has.cons ha (by kernel_rfl) (by kernel_rfl) (Has.cons ha (by kernel_rfl) (by kernel_rfl) (Has.cons ha (by kernel_rfl) (by kernel_rfl) (Has.nil ha))))), s, Nat.zero_le _⟩
  · clear ha s; rintro k a w ⟨ha, s, hp⟩
    refine wp_seq ?_
    refine wp_seq ?_
    refine wp_region_lit ?_
    refine st_val (.int .i64 ((k : Nat) : Int)) ha (by kernel_rfl) (by kernel_rfl) ?_
    clear ha; intro a ha
    refine st_val (.bool (decide (((k : Nat) : Int) < (2048 : Int)))) ha (by kernel_rfl) (by kernel_rfl) ?_
    clear ha; intro a ha
    refine wpList_nil ?_
    refine then_normal ?_
    refine wp_part (decide (((k : Nat) : Int) < (2048 : Int))) ha rfl (by kernel_rfl) (fun hb => ?_) (fun hb => ?_)
    · rw [hb] at ha; replace hb : (((k : Nat) : Int) < (2048 : Int)) := of_decide_eq_true hb
      refine wp_skip ?_
      refine then_normal ?_
      refine wp_seq ?_
      refine wp_block ?_
      refine wp_seq ?_
      refine wp_region_lit ?_
      refine st_val (.pointer (some ⟨g1, 0, none⟩)) ha (by kernel_rfl) (by kernel_rfl) ?_
      clear ha; intro a ha
      refine st_val (.int .i64 ((k : Nat) : Int)) ha (by kernel_rfl) (by kernel_rfl) ?_
      clear ha; intro a ha
      refine st_val (.int .u8 ((k : Int) % 256)) ha (by kernel_rfl) (run_conv (p := ((k : Nat) : Int)) (((k : Nat) : Int) % 256) rfl (by kernel_rfl) Try.underlying3 Try.underlying5 (wrap_u8 _) _) ?_
      clear ha; intro a ha
      refine st_call ha (by kernel_rfl) (by kernel_rfl) (mail_any W _ w 1 1 ((k : Int) % 256) s) ?_
      rintro _ w ⟨A10, c11, rfl, s⟩
      replace s : St W (Own 5 1 A10 1 c11 (u8s [(k : Int) % 256]) :: Bag g1 (many k) :: .blk g6 [.int .i64 4, .int .i64 4, .slice A4 65536 c5] 29 :: Own 5 1 A4 65536 c5 (u8s Z16) :: .blk g3 [.int .i64 4, .int .i64 4, .slice A8 (65536 + 1) c9] 29 :: Own 5 1 A8 (65536 + 1) c9 ((u8s Z16) ++ [.int .u8 0]) :: L) w := s
      refine ⟨_, rfl, ?_⟩; clear ha; intro a ha
      replace s := s.at_ (j := 1) rfl
      replace s : St W (Bag g1 (many k) :: Own 5 1 A10 1 c11 (u8s [(k : Int) % 256]) :: .blk g6 [.int .i64 4, .int .i64 4, .slice A4 65536 c5] 29 :: Own 5 1 A4 65536 c5 (u8s Z16) :: .blk g3 [.int .i64 4, .int .i64 4, .slice A8 (65536 + 1) c9] 29 :: Own 5 1 A8 (65536 + 1) c9 ((u8s Z16) ++ [.int .u8 0]) :: L) w := s
      refine st_call ha (by kernel_rfl) (by kernel_rfl) (put_is W _ w g1 (many k) 1 1 [(k : Int) % 256] A10 1 c11 0 (many (k + 1)) rfl (code_ok (by omega) (by omega) (by simp) (by rw [many_len]; omega)) (by rw [if_pos rfl]; exact (many_succ k).symm) (Knows.own (j := 0) rfl) (by omega) s) ?_
      rintro _ w ⟨rfl, s⟩
      replace s : St W (Bag g1 (many (k + 1)) :: Own 5 1 A10 1 c11 (u8s [(k : Int) % 256]) :: .blk g6 [.int .i64 4, .int .i64 4, .slice A4 65536 c5] 29 :: Own 5 1 A4 65536 c5 (u8s Z16) :: .blk g3 [.int .i64 4, .int .i64 4, .slice A8 (65536 + 1) c9] 29 :: Own 5 1 A8 (65536 + 1) c9 ((u8s Z16) ++ [.int .u8 0]) :: L) w := s
      refine ⟨_, rfl, ?_⟩; clear ha; intro a ha
      refine st_val (.bool false) ha (by kernel_rfl) (by kernel_rfl) ?_
      clear ha; intro a ha
      refine wpList_nil ?_
      refine then_normal ?_
      refine wp_false ha rfl (by kernel_rfl) ?_
      refine wp_skip ?_
      refine block_normal ?_
      refine then_normal ?_
      refine wp_region_lit ?_
      refine st_val (.int .i64 ((k : Nat) : Int)) ha (by kernel_rfl) (by kernel_rfl) ?_
      clear ha; intro a ha
      refine st_val (.int .i64 ((k + 1 : Nat) : Int)) ha (by kernel_rfl) (run_arith (((k : Nat) : Int) + (1 : Int)) ((k + 1 : Nat) : Int) rfl (by kernel_rfl) (by kernel_rfl) (.inl ⟨rfl, rfl⟩) (by rw [wrap64_in (by omega)]; try omega) _) ?_
      clear ha; intro a ha
      refine st_val (.int .i64 ((k + 1 : Nat) : Int)) ha (by kernel_rfl) (by kernel_rfl) ?_
      clear ha; intro a ha
      refine wpList_nil ?_
      refine then_normal ?_
      replace s := s.at_ (j := 5) rfl
      replace s : St W (Own 5 1 A8 (65536 + 1) c9 ((u8s Z16) ++ [.int .u8 0]) :: Bag g1 (many (k + 1)) :: Own 5 1 A10 1 c11 (u8s [(k : Int) % 256]) :: .blk g6 [.int .i64 4, .int .i64 4, .slice A4 65536 c5] 29 :: Own 5 1 A4 65536 c5 (u8s Z16) :: .blk g3 [.int .i64 4, .int .i64 4, .slice A8 (65536 + 1) c9] 29 :: L) w := s
      replace s := s.at_ (j := 5) rfl
      replace s : St W (.blk g3 [.int .i64 4, .int .i64 4, .slice A8 (65536 + 1) c9] 29 :: Own 5 1 A8 (65536 + 1) c9 ((u8s Z16) ++ [.int .u8 0]) :: Bag g1 (many (k + 1)) :: Own 5 1 A10 1 c11 (u8s [(k : Int) % 256]) :: .blk g6 [.int .i64 4, .int .i64 4, .slice A4 65536 c5] 29 :: Own 5 1 A4 65536 c5 (u8s Z16) :: L) w := s
      replace s := s.at_ (j := 5) rfl
      replace s : St W (Own 5 1 A4 65536 c5 (u8s Z16) :: .blk g3 [.int .i64 4, .int .i64 4, .slice A8 (65536 + 1) c9] 29 :: Own 5 1 A8 (65536 + 1) c9 ((u8s Z16) ++ [.int .u8 0]) :: Bag g1 (many (k + 1)) :: Own 5 1 A10 1 c11 (u8s [(k : Int) % 256]) :: .blk g6 [.int .i64 4, .int .i64 4, .slice A4 65536 c5] 29 :: L) w := s
      replace s := s.at_ (j := 5) rfl
      replace s : St W (.blk g6 [.int .i64 4, .int .i64 4, .slice A4 65536 c5] 29 :: Own 5 1 A4 65536 c5 (u8s Z16) :: .blk g3 [.int .i64 4, .int .i64 4, .slice A8 (65536 + 1) c9] 29 :: Own 5 1 A8 (65536 + 1) c9 ((u8s Z16) ++ [.int .u8 0]) :: Bag g1 (many (k + 1)) :: Own 5 1 A10 1 c11 (u8s [(k : Int) % 256]) :: L) w := s
      replace s := s.at_ (j := 4) rfl
      replace s : St W (Bag g1 (many (k + 1)) :: .blk g6 [.int .i64 4, .int .i64 4, .slice A4 65536 c5] 29 :: Own 5 1 A4 65536 c5 (u8s Z16) :: .blk g3 [.int .i64 4, .int .i64 4, .slice A8 (65536 + 1) c9] 29 :: Own 5 1 A8 (65536 + 1) c9 ((u8s Z16) ++ [.int .u8 0]) :: Own 5 1 A10 1 c11 (u8s [(k : Int) % 256]) :: L) w := s
      replace s : St W (Bag g1 (many (k + 1)) :: .blk g6 [.int .i64 4, .int .i64 4, .slice A4 65536 c5] 29 :: Own 5 1 A4 65536 c5 (u8s Z16) :: .blk g3 [.int .i64 4, .int .i64 4, .slice A8 (65536 + 1) c9] 29 :: Own 5 1 A8 (65536 + 1) c9 ((u8s Z16) ++ [.int .u8 0]) :: L) w := St.mid (A := [Bag g1 (many (k + 1)), .blk g6 [.int .i64 4, .int .i64 4, .slice A4 65536 c5] 29, Own 5 1 A4 65536 c5 (u8s Z16), .blk g3 [.int .i64 4, .int .i64 4, .slice A8 (65536 + 1) c9] 29, Own 5 1 A8 (65536 + 1) c9 ((u8s Z16) ++ [.int .u8 0])]) (B := [Own 5 1 A10 1 c11 (u8s [(k : Int) % 256])]) s
      exact ⟨k + 1, by omega, (Has.cons ha (by kernel_rfl) (by kernel_rfl) (Has.cons ha (by kernel_rfl) (by kernel_rfl) (Has.cons ha (by kernel_rfl) (by kernel_rfl) (Has.cons ha (by kernel_rfl) (by kernel_rfl) (Has.nil ha))))), s, by omega⟩
    · rw [hb] at ha; replace hb : ¬ (((k : Nat) : Int) < (2048 : Int)) := of_decide_eq_false hb
      obtain rfl : k = 2048 := by omega
      replace s : St W (Bag g1 (many 2048) :: .blk g6 [.int .i64 4, .int .i64 4, .slice A4 65536 c5] 29 :: Own 5 1 A4 65536 c5 (u8s Z16) :: .blk g3 [.int .i64 4, .int .i64 4, .slice A8 (65536 + 1) c9] 29 :: Own 5 1 A8 (65536 + 1) c9 ((u8s Z16) ++ [.int .u8 0]) :: L) w := s
      refine wp_exit ?_
      refine then_exit ?_
      refine then_exit ?_
      refine block_hit ?_
      refine then_normal ?_
      refine wp_seq ?_
      refine wp_region_lit ?_
      refine st_val (.pointer (some ⟨g1, 0, none⟩)) ha (by kernel_rfl) (by kernel_rfl) ?_
      clear ha; intro a ha
      refine st_call ha (by kernel_rfl) (by kernel_rfl) (mail_any W _ w 1 1 0 s) ?_
      rintro _ w ⟨A12, c13, rfl, s⟩
      replace s : St W (Own 5 1 A12 1 c13 (u8s [0]) :: Bag g1 (many 2048) :: .blk g6 [.int .i64 4, .int .i64 4, .slice A4 65536 c5] 29 :: Own 5 1 A4 65536 c5 (u8s Z16) :: .blk g3 [.int .i64 4, .int .i64 4, .slice A8 (65536 + 1) c9] 29 :: Own 5 1 A8 (65536 + 1) c9 ((u8s Z16) ++ [.int .u8 0]) :: L) w := s
      refine ⟨_, rfl, ?_⟩; clear ha; intro a ha
      replace s := s.at_ (j := 1) rfl
      replace s : St W (Bag g1 (many 2048) :: Own 5 1 A12 1 c13 (u8s [0]) :: .blk g6 [.int .i64 4, .int .i64 4, .slice A4 65536 c5] 29 :: Own 5 1 A4 65536 c5 (u8s Z16) :: .blk g3 [.int .i64 4, .int .i64 4, .slice A8 (65536 + 1) c9] 29 :: Own 5 1 A8 (65536 + 1) c9 ((u8s Z16) ++ [.int .u8 0]) :: L) w := s
      refine st_call ha (by kernel_rfl) (by kernel_rfl) (put_is W _ w g1 (many 2048) 1 1 [0] A12 1 c13 7 (many 2048) rfl (by rw [many_len]; exact many_full (k := 2048) (by omega) 0) rfl (Knows.own (j := 0) rfl) (by omega) s) ?_
      rintro _ w ⟨rfl, s⟩
      replace s : St W (Bag g1 (many 2048) :: Own 5 1 A12 1 c13 (u8s [0]) :: .blk g6 [.int .i64 4, .int .i64 4, .slice A4 65536 c5] 29 :: Own 5 1 A4 65536 c5 (u8s Z16) :: .blk g3 [.int .i64 4, .int .i64 4, .slice A8 (65536 + 1) c9] 29 :: Own 5 1 A8 (65536 + 1) c9 ((u8s Z16) ++ [.int .u8 0]) :: L) w := s
      refine ⟨_, rfl, ?_⟩; clear ha; intro a ha
      refine st_val (.bool true) ha (by kernel_rfl) (by kernel_rfl) ?_
      clear ha; intro a ha
      refine st_val (.bool true) ha (by kernel_rfl) (by kernel_rfl) ?_
      clear ha; intro a ha
      refine st_val (.pointer (some ⟨g1, 0, none⟩)) ha (by kernel_rfl) (by kernel_rfl) ?_
      clear ha; intro a ha
      refine st_call ha (by kernel_rfl) (by kernel_rfl) (double_to W _ w g1 (many 2048) 0 (mm 0) 7 (many 2048) (many_at (by omega)) (by rw [many_len]; exact many_full (by omega) 0) (bput_no (by rw [many_len, many_full (by omega)]; omega)) (many_ok (by omega)) s) ?_
      rintro _ w ⟨rfl, s⟩
      replace s : St W (Bag g1 (many 2048) :: Own 5 1 A12 1 c13 (u8s [0]) :: .blk g6 [.int .i64 4, .int .i64 4, .slice A4 65536 c5] 29 :: Own 5 1 A4 65536 c5 (u8s Z16) :: .blk g3 [.int .i64 4, .int .i64 4, .slice A8 (65536 + 1) c9] 29 :: Own 5 1 A8 (65536 + 1) c9 ((u8s Z16) ++ [.int .u8 0]) :: L) w := s
      refine ⟨_, rfl, ?_⟩; clear ha; intro a ha
      refine st_val (.bool true) ha (by kernel_rfl) (by kernel_rfl) ?_
      clear ha; intro a ha
      refine st_val (.bool true) ha (by kernel_rfl) (by kernel_rfl) ?_
      clear ha; intro a ha
      refine st_val (.bool true) ha (by kernel_rfl) (by kernel_rfl) ?_
      clear ha; intro a ha
      refine st_val (.pointer (some ⟨g1, 0, none⟩)) ha (by kernel_rfl) (by kernel_rfl) ?_
      clear ha; intro a ha
      refine st_call ha (by kernel_rfl) (by kernel_rfl) (double_bag_out W _ w g1 (many 2048) 2048 (by rw [many_len]; omega) s) ?_
      rintro _ w ⟨rfl, s⟩
      replace s : St W (Bag g1 (many 2048) :: Own 5 1 A12 1 c13 (u8s [0]) :: .blk g6 [.int .i64 4, .int .i64 4, .slice A4 65536 c5] 29 :: Own 5 1 A4 65536 c5 (u8s Z16) :: .blk g3 [.int .i64 4, .int .i64 4, .slice A8 (65536 + 1) c9] 29 :: Own 5 1 A8 (65536 + 1) c9 ((u8s Z16) ++ [.int .u8 0]) :: L) w := s
      refine ⟨_, rfl, ?_⟩; clear ha; intro a ha
      refine st_val (.bool true) ha (by kernel_rfl) (by kernel_rfl) ?_
      clear ha; intro a ha
      refine st_val (.bool true) ha (by kernel_rfl) (by kernel_rfl) ?_
      clear ha; intro a ha
      refine st_val (.bool true) ha (by kernel_rfl) (by kernel_rfl) ?_
      clear ha; intro a ha
      refine st_val (.pointer (some ⟨g1, 0, none⟩)) ha (by kernel_rfl) (by kernel_rfl) ?_
      clear ha; intro a ha
      refine st_val (.agg #[.int .i64 4, .int .i64 4, .slice A8 (65536 + 1) c9]) ha (by kernel_rfl) (run_loadN (of_ := 0) [.int .i64 4, .int .i64 4, .slice A8 (65536 + 1) c9] (s.blkIs 4 rfl) rfl (by kernel_rfl) Try.isAgg29 Try.sizeOf29 rfl (Nat.le_of_ble_eq_true rfl)) ?_
      clear ha; intro a ha
      refine st_call ha (by kernel_rfl) (by kernel_rfl) (put_is W _ w g1 (many 2048) 4 4 (Z16 ++ [0]) A8 (65536 + 1) c9 5 (many 2048) (by rw [List.length_append, Z16_len]; rfl) (code_long (by omega) (by omega) (by rw [List.length_append, Z16_len]; simp)) rfl (by rw [u8s_snoc]; exact Knows.own (j := 4) rfl) (by omega) s) ?_
      rintro _ w ⟨rfl, s⟩
      replace s : St W (Bag g1 (many 2048) :: Own 5 1 A12 1 c13 (u8s [0]) :: .blk g6 [.int .i64 4, .int .i64 4, .slice A4 65536 c5] 29 :: Own 5 1 A4 65536 c5 (u8s Z16) :: .blk g3 [.int .i64 4, .int .i64 4, .slice A8 (65536 + 1) c9] 29 :: Own 5 1 A8 (65536 + 1) c9 ((u8s Z16) ++ [.int .u8 0]) :: L) w := s
      refine ⟨_, rfl, ?_⟩; clear ha; intro a ha
      refine st_val (.bool true) ha (by kernel_rfl) (by kernel_rfl) ?_
      clear ha; intro a ha
      refine st_val (.bool true) ha (by kernel_rfl) (by kernel_rfl) ?_
      clear ha; intro a ha
      refine st_val (.bool true) ha (by kernel_rfl) (by kernel_rfl) ?_
      clear ha; intro a ha
      refine st_val (.pointer (some ⟨g1, 0, none⟩)) ha (by kernel_rfl) (by kernel_rfl) ?_
      clear ha; intro a ha
      refine st_call ha (by kernel_rfl) (by kernel_rfl) (len_to W _ w g1 (many 2048) 2048 (many_len _) s) ?_
      rintro _ w ⟨rfl, s⟩
      replace s : St W (Bag g1 (many 2048) :: Own 5 1 A12 1 c13 (u8s [0]) :: .blk g6 [.int .i64 4, .int .i64 4, .slice A4 65536 c5] 29 :: Own 5 1 A4 65536 c5 (u8s Z16) :: .blk g3 [.int .i64 4, .int .i64 4, .slice A8 (65536 + 1) c9] 29 :: Own 5 1 A8 (65536 + 1) c9 ((u8s Z16) ++ [.int .u8 0]) :: L) w := s
      refine ⟨_, rfl, ?_⟩; clear ha; intro a ha
      refine st_val (.bool true) ha (by kernel_rfl) (by kernel_rfl) ?_
      clear ha; intro a ha
      refine st_val (.bool true) ha (by kernel_rfl) (by kernel_rfl) ?_
      clear ha; intro a ha
      refine st_val (.bool true) ha (by kernel_rfl) (by kernel_rfl) ?_
      clear ha; intro a ha
      refine wpList_nil ?_
      refine then_normal ?_
      refine wp_seq ?_
      refine wp_region_lit ?_
      refine st_val (.pointer (some ⟨g1, 0, none⟩)) ha (by kernel_rfl) (by kernel_rfl) ?_
      clear ha; intro a ha
      refine st_call ha (by kernel_rfl) (by kernel_rfl) (take_to W _ w g1 (many 2048) 2047 1 1 [255] 1 (many 2047) (many_at (by omega)) rfl (many_erase 2047) (many_ok (by omega)) s) ?_
      rintro _ w ⟨A14, c15, rfl, s⟩
      replace s : St W (Own 5 1 A14 1 c15 (u8s [255]) :: Bag g1 (many 2047) :: Own 5 1 A12 1 c13 (u8s [0]) :: .blk g6 [.int .i64 4, .int .i64 4, .slice A4 65536 c5] 29 :: Own 5 1 A4 65536 c5 (u8s Z16) :: .blk g3 [.int .i64 4, .int .i64 4, .slice A8 (65536 + 1) c9] 29 :: Own 5 1 A8 (65536 + 1) c9 ((u8s Z16) ++ [.int .u8 0]) :: L) w := s
      refine ⟨_, rfl, ?_⟩; clear ha; intro a ha
      refine st_val (.tuple #[.agg #[.int .i64 1, .int .i64 1, .slice A14 1 c15], .bool true]) ha (by kernel_rfl) (by kernel_rfl) ?_
      clear ha; intro a ha
      refine st_val (.agg #[.int .i64 1, .int .i64 1, .slice A14 1 c15]) ha (by kernel_rfl) (by kernel_rfl) ?_
      clear ha; intro a ha
      refine st_val (.bool true) ha (by kernel_rfl) (by kernel_rfl) ?_
      clear ha; intro a ha
      refine st_ex ha (by kernel_rfl) (ex_alloc [.int .i64 0, .int .i64 0, .slice none 0 0] s rfl (Try.zeroValue29 _) (by kernel_rfl)) ?_
      clear ha; rintro _ w a ⟨g16, rfl, s⟩ ha
      replace s : St W (.blk g16 [.int .i64 0, .int .i64 0, .slice none 0 0] 29 :: Own 5 1 A14 1 c15 (u8s [255]) :: Bag g1 (many 2047) :: Own 5 1 A12 1 c13 (u8s [0]) :: .blk g6 [.int .i64 4, .int .i64 4, .slice A4 65536 c5] 29 :: Own 5 1 A4 65536 c5 (u8s Z16) :: .blk g3 [.int .i64 4, .int .i64 4, .slice A8 (65536 + 1) c9] 29 :: Own 5 1 A8 (65536 + 1) c9 ((u8s Z16) ++ [.int .u8 0]) :: L) w := s
      refine st_exd ha (by kernel_rfl) (ex_store (of_ := 0) 0 [.int .i64 1, .int .i64 1, .slice A14 1 c15] s rfl rfl (by kernel_rfl) (by kernel_rfl) (Try.sizeOf29 _) rfl (by simp [Value.oneCell']) (Nat.le_of_ble_eq_true rfl)) ?_
      clear ha; rintro w a s ha
      replace s : St W (.blk g16 [.int .i64 1, .int .i64 1, .slice A14 1 c15] 29 :: Own 5 1 A14 1 c15 (u8s [255]) :: Bag g1 (many 2047) :: Own 5 1 A12 1 c13 (u8s [0]) :: .blk g6 [.int .i64 4, .int .i64 4, .slice A4 65536 c5] 29 :: Own 5 1 A4 65536 c5 (u8s Z16) :: .blk g3 [.int .i64 4, .int .i64 4, .slice A8 (65536 + 1) c9] 29 :: Own 5 1 A8 (65536 + 1) c9 ((u8s Z16) ++ [.int .u8 0]) :: L) w := s
      refine st_val (.bool true) ha (by kernel_rfl) (by kernel_rfl) ?_
      clear ha; intro a ha
      refine wpList_nil ?_
      refine then_normal ?_
      refine wp_seq ?_
      refine wp_region_lit ?_
      refine st_val (.pointer (some ⟨g1, 0, none⟩)) ha (by kernel_rfl) (by kernel_rfl) ?_
      clear ha; intro a ha
      replace s := s.at_ (j := 2) rfl
      replace s : St W (Bag g1 (many 2047) :: .blk g16 [.int .i64 1, .int .i64 1, .slice A14 1 c15] 29 :: Own 5 1 A14 1 c15 (u8s [255]) :: Own 5 1 A12 1 c13 (u8s [0]) :: .blk g6 [.int .i64 4, .int .i64 4, .slice A4 65536 c5] 29 :: Own 5 1 A4 65536 c5 (u8s Z16) :: .blk g3 [.int .i64 4, .int .i64 4, .slice A8 (65536 + 1) c9] 29 :: Own 5 1 A8 (65536 + 1) c9 ((u8s Z16) ++ [.int .u8 0]) :: L) w := s
      refine st_call ha (by kernel_rfl) (by kernel_rfl) (look_bag_out W _ w g1 (many 2047) (-1) (by rw [many_len]; omega) s) ?_
      rintro _ w ⟨rfl, s⟩
      replace s : St W (Bag g1 (many 2047) :: .blk g16 [.int .i64 1, .int .i64 1, .slice A14 1 c15] 29 :: Own 5 1 A14 1 c15 (u8s [255]) :: Own 5 1 A12 1 c13 (u8s [0]) :: .blk g6 [.int .i64 4, .int .i64 4, .slice A4 65536 c5] 29 :: Own 5 1 A4 65536 c5 (u8s Z16) :: .blk g3 [.int .i64 4, .int .i64 4, .slice A8 (65536 + 1) c9] 29 :: Own 5 1 A8 (65536 + 1) c9 ((u8s Z16) ++ [.int .u8 0]) :: L) w := s
      refine ⟨_, rfl, ?_⟩; clear ha; intro a ha
      refine st_val (.tuple #[.agg #[.int .i64 0, .int .i64 0, .slice none 0 0], .bool false]) ha (by kernel_rfl) (by kernel_rfl) ?_
      clear ha; intro a ha
      refine st_val (.agg #[.int .i64 0, .int .i64 0, .slice none 0 0]) ha (by kernel_rfl) (by kernel_rfl) ?_
      clear ha; intro a ha
      refine st_val (.bool false) ha (by kernel_rfl) (by kernel_rfl) ?_
      clear ha; intro a ha
      refine st_ex ha (by kernel_rfl) (ex_alloc [.int .i64 0, .int .i64 0, .slice none 0 0] s rfl (Try.zeroValue29 _) (by kernel_rfl)) ?_
      clear ha; rintro _ w a ⟨g17, rfl, s⟩ ha
      replace s : St W (.blk g17 [.int .i64 0, .int .i64 0, .slice none 0 0] 29 :: Bag g1 (many 2047) :: .blk g16 [.int .i64 1, .int .i64 1, .slice A14 1 c15] 29 :: Own 5 1 A14 1 c15 (u8s [255]) :: Own 5 1 A12 1 c13 (u8s [0]) :: .blk g6 [.int .i64 4, .int .i64 4, .slice A4 65536 c5] 29 :: Own 5 1 A4 65536 c5 (u8s Z16) :: .blk g3 [.int .i64 4, .int .i64 4, .slice A8 (65536 + 1) c9] 29 :: Own 5 1 A8 (65536 + 1) c9 ((u8s Z16) ++ [.int .u8 0]) :: L) w := s
      refine st_exd ha (by kernel_rfl) (ex_store (of_ := 0) 0 [.int .i64 0, .int .i64 0, .slice none 0 0] s rfl rfl (by kernel_rfl) (by kernel_rfl) (Try.sizeOf29 _) rfl (by simp [Value.oneCell']) (Nat.le_of_ble_eq_true rfl)) ?_
      clear ha; rintro w a s ha
      replace s : St W (.blk g17 [.int .i64 0, .int .i64 0, .slice none 0 0] 29 :: Bag g1 (many 2047) :: .blk g16 [.int .i64 1, .int .i64 1, .slice A14 1 c15] 29 :: Own 5 1 A14 1 c15 (u8s [255]) :: Own 5 1 A12 1 c13 (u8s [0]) :: .blk g6 [.int .i64 4, .int .i64 4, .slice A4 65536 c5] 29 :: Own 5 1 A4 65536 c5 (u8s Z16) :: .blk g3 [.int .i64 4, .int .i64 4, .slice A8 (65536 + 1) c9] 29 :: Own 5 1 A8 (65536 + 1) c9 ((u8s Z16) ++ [.int .u8 0]) :: L) w := s
      refine st_val (.bool false) ha (by kernel_rfl) (by kernel_rfl) ?_
      clear ha; intro a ha
      refine wpList_nil ?_
      refine then_normal ?_
      refine wp_seq ?_
      refine wp_region_lit ?_
      refine st_val (.pointer (some ⟨g1, 0, none⟩)) ha (by kernel_rfl) (by kernel_rfl) ?_
      clear ha; intro a ha
      replace s := s.at_ (j := 1) rfl
      replace s : St W (Bag g1 (many 2047) :: .blk g17 [.int .i64 0, .int .i64 0, .slice none 0 0] 29 :: .blk g16 [.int .i64 1, .int .i64 1, .slice A14 1 c15] 29 :: Own 5 1 A14 1 c15 (u8s [255]) :: Own 5 1 A12 1 c13 (u8s [0]) :: .blk g6 [.int .i64 4, .int .i64 4, .slice A4 65536 c5] 29 :: Own 5 1 A4 65536 c5 (u8s Z16) :: .blk g3 [.int .i64 4, .int .i64 4, .slice A8 (65536 + 1) c9] 29 :: Own 5 1 A8 (65536 + 1) c9 ((u8s Z16) ++ [.int .u8 0]) :: L) w := s
      refine st_call ha (by kernel_rfl) (by kernel_rfl) (take_bag_out W _ w g1 (many 2047) (-1) (by rw [many_len]; omega) s) ?_
      rintro _ w ⟨rfl, s⟩
      replace s : St W (Bag g1 (many 2047) :: .blk g17 [.int .i64 0, .int .i64 0, .slice none 0 0] 29 :: .blk g16 [.int .i64 1, .int .i64 1, .slice A14 1 c15] 29 :: Own 5 1 A14 1 c15 (u8s [255]) :: Own 5 1 A12 1 c13 (u8s [0]) :: .blk g6 [.int .i64 4, .int .i64 4, .slice A4 65536 c5] 29 :: Own 5 1 A4 65536 c5 (u8s Z16) :: .blk g3 [.int .i64 4, .int .i64 4, .slice A8 (65536 + 1) c9] 29 :: Own 5 1 A8 (65536 + 1) c9 ((u8s Z16) ++ [.int .u8 0]) :: L) w := s
      refine ⟨_, rfl, ?_⟩; clear ha; intro a ha
      refine st_val (.tuple #[.agg #[.int .i64 0, .int .i64 0, .slice none 0 0], .bool false]) ha (by kernel_rfl) (by kernel_rfl) ?_
      clear ha; intro a ha
      refine st_val (.agg #[.int .i64 0, .int .i64 0, .slice none 0 0]) ha (by kernel_rfl) (by kernel_rfl) ?_
      clear ha; intro a ha
      refine st_val (.bool false) ha (by kernel_rfl) (by kernel_rfl) ?_
      clear ha; intro a ha
      refine st_ex ha (by kernel_rfl) (ex_alloc [.int .i64 0, .int .i64 0, .slice none 0 0] s rfl (Try.zeroValue29 _) (by kernel_rfl)) ?_
      clear ha; rintro _ w a ⟨g18, rfl, s⟩ ha
      replace s : St W (.blk g18 [.int .i64 0, .int .i64 0, .slice none 0 0] 29 :: Bag g1 (many 2047) :: .blk g17 [.int .i64 0, .int .i64 0, .slice none 0 0] 29 :: .blk g16 [.int .i64 1, .int .i64 1, .slice A14 1 c15] 29 :: Own 5 1 A14 1 c15 (u8s [255]) :: Own 5 1 A12 1 c13 (u8s [0]) :: .blk g6 [.int .i64 4, .int .i64 4, .slice A4 65536 c5] 29 :: Own 5 1 A4 65536 c5 (u8s Z16) :: .blk g3 [.int .i64 4, .int .i64 4, .slice A8 (65536 + 1) c9] 29 :: Own 5 1 A8 (65536 + 1) c9 ((u8s Z16) ++ [.int .u8 0]) :: L) w := s
      refine st_exd ha (by kernel_rfl) (ex_store (of_ := 0) 0 [.int .i64 0, .int .i64 0, .slice none 0 0] s rfl rfl (by kernel_rfl) (by kernel_rfl) (Try.sizeOf29 _) rfl (by simp [Value.oneCell']) (Nat.le_of_ble_eq_true rfl)) ?_
      clear ha; rintro w a s ha
      replace s : St W (.blk g18 [.int .i64 0, .int .i64 0, .slice none 0 0] 29 :: Bag g1 (many 2047) :: .blk g17 [.int .i64 0, .int .i64 0, .slice none 0 0] 29 :: .blk g16 [.int .i64 1, .int .i64 1, .slice A14 1 c15] 29 :: Own 5 1 A14 1 c15 (u8s [255]) :: Own 5 1 A12 1 c13 (u8s [0]) :: .blk g6 [.int .i64 4, .int .i64 4, .slice A4 65536 c5] 29 :: Own 5 1 A4 65536 c5 (u8s Z16) :: .blk g3 [.int .i64 4, .int .i64 4, .slice A8 (65536 + 1) c9] 29 :: Own 5 1 A8 (65536 + 1) c9 ((u8s Z16) ++ [.int .u8 0]) :: L) w := s
      refine st_val (.bool false) ha (by kernel_rfl) (by kernel_rfl) ?_
      clear ha; intro a ha
      refine wpList_nil ?_
      refine then_normal ?_
      refine wp_seq ?_
      refine wp_region_lit ?_
      refine st_val (.pointer (some ⟨g1, 0, none⟩)) ha (by kernel_rfl) (by kernel_rfl) ?_
      clear ha; intro a ha
      replace s := s.at_ (j := 1) rfl
      replace s : St W (Bag g1 (many 2047) :: .blk g18 [.int .i64 0, .int .i64 0, .slice none 0 0] 29 :: .blk g17 [.int .i64 0, .int .i64 0, .slice none 0 0] 29 :: .blk g16 [.int .i64 1, .int .i64 1, .slice A14 1 c15] 29 :: Own 5 1 A14 1 c15 (u8s [255]) :: Own 5 1 A12 1 c13 (u8s [0]) :: .blk g6 [.int .i64 4, .int .i64 4, .slice A4 65536 c5] 29 :: Own 5 1 A4 65536 c5 (u8s Z16) :: .blk g3 [.int .i64 4, .int .i64 4, .slice A8 (65536 + 1) c9] 29 :: Own 5 1 A8 (65536 + 1) c9 ((u8s Z16) ++ [.int .u8 0]) :: L) w := s
      refine st_call ha (by kernel_rfl) (by kernel_rfl) (look_to W _ w g1 (many 2047) 2046 1 1 [254] 1 (many_at (by omega)) rfl (many_ok (by omega)) s) ?_
      rintro _ w ⟨A19, c20, rfl, s⟩
      replace s : St W (Own 5 1 A19 1 c20 (u8s [254]) :: Bag g1 (many 2047) :: .blk g18 [.int .i64 0, .int .i64 0, .slice none 0 0] 29 :: .blk g17 [.int .i64 0, .int .i64 0, .slice none 0 0] 29 :: .blk g16 [.int .i64 1, .int .i64 1, .slice A14 1 c15] 29 :: Own 5 1 A14 1 c15 (u8s [255]) :: Own 5 1 A12 1 c13 (u8s [0]) :: .blk g6 [.int .i64 4, .int .i64 4, .slice A4 65536 c5] 29 :: Own 5 1 A4 65536 c5 (u8s Z16) :: .blk g3 [.int .i64 4, .int .i64 4, .slice A8 (65536 + 1) c9] 29 :: Own 5 1 A8 (65536 + 1) c9 ((u8s Z16) ++ [.int .u8 0]) :: L) w := s
      refine ⟨_, rfl, ?_⟩; clear ha; intro a ha
      refine st_val (.tuple #[.agg #[.int .i64 1, .int .i64 1, .slice A19 1 c20], .bool true]) ha (by kernel_rfl) (by kernel_rfl) ?_
      clear ha; intro a ha
      refine st_val (.agg #[.int .i64 1, .int .i64 1, .slice A19 1 c20]) ha (by kernel_rfl) (by kernel_rfl) ?_
      clear ha; intro a ha
      refine st_val (.bool true) ha (by kernel_rfl) (by kernel_rfl) ?_
      clear ha; intro a ha
      refine st_ex ha (by kernel_rfl) (ex_alloc [.int .i64 0, .int .i64 0, .slice none 0 0] s rfl (Try.zeroValue29 _) (by kernel_rfl)) ?_
      clear ha; rintro _ w a ⟨g21, rfl, s⟩ ha
      replace s : St W (.blk g21 [.int .i64 0, .int .i64 0, .slice none 0 0] 29 :: Own 5 1 A19 1 c20 (u8s [254]) :: Bag g1 (many 2047) :: .blk g18 [.int .i64 0, .int .i64 0, .slice none 0 0] 29 :: .blk g17 [.int .i64 0, .int .i64 0, .slice none 0 0] 29 :: .blk g16 [.int .i64 1, .int .i64 1, .slice A14 1 c15] 29 :: Own 5 1 A14 1 c15 (u8s [255]) :: Own 5 1 A12 1 c13 (u8s [0]) :: .blk g6 [.int .i64 4, .int .i64 4, .slice A4 65536 c5] 29 :: Own 5 1 A4 65536 c5 (u8s Z16) :: .blk g3 [.int .i64 4, .int .i64 4, .slice A8 (65536 + 1) c9] 29 :: Own 5 1 A8 (65536 + 1) c9 ((u8s Z16) ++ [.int .u8 0]) :: L) w := s
      refine st_exd ha (by kernel_rfl) (ex_store (of_ := 0) 0 [.int .i64 1, .int .i64 1, .slice A19 1 c20] s rfl rfl (by kernel_rfl) (by kernel_rfl) (Try.sizeOf29 _) rfl (by simp [Value.oneCell']) (Nat.le_of_ble_eq_true rfl)) ?_
      clear ha; rintro w a s ha
      replace s : St W (.blk g21 [.int .i64 1, .int .i64 1, .slice A19 1 c20] 29 :: Own 5 1 A19 1 c20 (u8s [254]) :: Bag g1 (many 2047) :: .blk g18 [.int .i64 0, .int .i64 0, .slice none 0 0] 29 :: .blk g17 [.int .i64 0, .int .i64 0, .slice none 0 0] 29 :: .blk g16 [.int .i64 1, .int .i64 1, .slice A14 1 c15] 29 :: Own 5 1 A14 1 c15 (u8s [255]) :: Own 5 1 A12 1 c13 (u8s [0]) :: .blk g6 [.int .i64 4, .int .i64 4, .slice A4 65536 c5] 29 :: Own 5 1 A4 65536 c5 (u8s Z16) :: .blk g3 [.int .i64 4, .int .i64 4, .slice A8 (65536 + 1) c9] 29 :: Own 5 1 A8 (65536 + 1) c9 ((u8s Z16) ++ [.int .u8 0]) :: L) w := s
      refine st_val (.bool true) ha (by kernel_rfl) (by kernel_rfl) ?_
      clear ha; intro a ha
      refine wpList_nil ?_
      refine then_normal ?_
      refine wp_seq ?_
      refine wp_region_lit ?_
      refine st_val (.bool true) ha (by kernel_rfl) (by kernel_rfl) ?_
      clear ha; intro a ha
      refine st_val (.bool true) ha (by kernel_rfl) (by kernel_rfl) ?_
      clear ha; intro a ha
      refine st_val (.agg #[.int .i64 1, .int .i64 1, .slice A14 1 c15]) ha (by kernel_rfl) (run_loadN (of_ := 0) [.int .i64 1, .int .i64 1, .slice A14 1 c15] (s.blkIs 5 rfl) rfl (by kernel_rfl) Try.isAgg29 Try.sizeOf29 rfl (Nat.le_of_ble_eq_true rfl)) ?_
      clear ha; intro a ha
      refine st_call ha (by kernel_rfl) (by kernel_rfl) (first_one W _ w 1 1 A14 1 c15 255 rfl (Knows.own (j := 6) rfl) s) ?_
      rintro _ w ⟨rfl, s⟩
      replace s : St W (.blk g21 [.int .i64 1, .int .i64 1, .slice A19 1 c20] 29 :: Own 5 1 A19 1 c20 (u8s [254]) :: Bag g1 (many 2047) :: .blk g18 [.int .i64 0, .int .i64 0, .slice none 0 0] 29 :: .blk g17 [.int .i64 0, .int .i64 0, .slice none 0 0] 29 :: .blk g16 [.int .i64 1, .int .i64 1, .slice A14 1 c15] 29 :: Own 5 1 A14 1 c15 (u8s [255]) :: Own 5 1 A12 1 c13 (u8s [0]) :: .blk g6 [.int .i64 4, .int .i64 4, .slice A4 65536 c5] 29 :: Own 5 1 A4 65536 c5 (u8s Z16) :: .blk g3 [.int .i64 4, .int .i64 4, .slice A8 (65536 + 1) c9] 29 :: Own 5 1 A8 (65536 + 1) c9 ((u8s Z16) ++ [.int .u8 0]) :: L) w := s
      refine ⟨_, rfl, ?_⟩; clear ha; intro a ha
      refine st_val (.bool true) ha (by kernel_rfl) (by kernel_rfl) ?_
      clear ha; intro a ha
      refine st_val (.bool true) ha (by kernel_rfl) (by kernel_rfl) ?_
      clear ha; intro a ha
      refine st_val (.bool true) ha (by kernel_rfl) (by kernel_rfl) ?_
      clear ha; intro a ha
      refine st_val (.bool false) ha (by kernel_rfl) (by kernel_rfl) ?_
      clear ha; intro a ha
      refine st_val (.bool true) ha (by kernel_rfl) (by kernel_rfl) ?_
      clear ha; intro a ha
      refine st_val (.bool true) ha (by kernel_rfl) (by kernel_rfl) ?_
      clear ha; intro a ha
      refine st_val (.bool true) ha (by kernel_rfl) (by kernel_rfl) ?_
      clear ha; intro a ha
      refine st_val (.bool false) ha (by kernel_rfl) (by kernel_rfl) ?_
      clear ha; intro a ha
      refine st_val (.bool true) ha (by kernel_rfl) (by kernel_rfl) ?_
      clear ha; intro a ha
      refine st_val (.bool true) ha (by kernel_rfl) (by kernel_rfl) ?_
      clear ha; intro a ha
      refine st_val (.bool true) ha (by kernel_rfl) (by kernel_rfl) ?_
      clear ha; intro a ha
      refine st_val (.bool true) ha (by kernel_rfl) (by kernel_rfl) ?_
      clear ha; intro a ha
      refine st_val (.bool true) ha (by kernel_rfl) (by kernel_rfl) ?_
      clear ha; intro a ha
      refine st_val (.bool true) ha (by kernel_rfl) (by kernel_rfl) ?_
      clear ha; intro a ha
      refine st_val (.agg #[.int .i64 1, .int .i64 1, .slice A19 1 c20]) ha (by kernel_rfl) (run_loadN (of_ := 0) [.int .i64 1, .int .i64 1, .slice A19 1 c20] (s.blkIs 0 rfl) rfl (by kernel_rfl) Try.isAgg29 Try.sizeOf29 rfl (Nat.le_of_ble_eq_true rfl)) ?_
      clear ha; intro a ha
      refine st_call ha (by kernel_rfl) (by kernel_rfl) (first_one W _ w 1 1 A19 1 c20 254 rfl (Knows.own (j := 1) rfl) s) ?_
      rintro _ w ⟨rfl, s⟩
      replace s : St W (.blk g21 [.int .i64 1, .int .i64 1, .slice A19 1 c20] 29 :: Own 5 1 A19 1 c20 (u8s [254]) :: Bag g1 (many 2047) :: .blk g18 [.int .i64 0, .int .i64 0, .slice none 0 0] 29 :: .blk g17 [.int .i64 0, .int .i64 0, .slice none 0 0] 29 :: .blk g16 [.int .i64 1, .int .i64 1, .slice A14 1 c15] 29 :: Own 5 1 A14 1 c15 (u8s [255]) :: Own 5 1 A12 1 c13 (u8s [0]) :: .blk g6 [.int .i64 4, .int .i64 4, .slice A4 65536 c5] 29 :: Own 5 1 A4 65536 c5 (u8s Z16) :: .blk g3 [.int .i64 4, .int .i64 4, .slice A8 (65536 + 1) c9] 29 :: Own 5 1 A8 (65536 + 1) c9 ((u8s Z16) ++ [.int .u8 0]) :: L) w := s
      refine ⟨_, rfl, ?_⟩; clear ha; intro a ha
      refine st_val (.bool true) ha (by kernel_rfl) (by kernel_rfl) ?_
      clear ha; intro a ha
      refine st_val (.bool true) ha (by kernel_rfl) (by kernel_rfl) ?_
      clear ha; intro a ha
      refine st_val (.bool true) ha (by kernel_rfl) (by kernel_rfl) ?_
      clear ha; intro a ha
      refine st_val (.pointer (some ⟨g1, 0, none⟩)) ha (by kernel_rfl) (by kernel_rfl) ?_
      clear ha; intro a ha
      replace s := s.at_ (j := 2) rfl
      replace s : St W (Bag g1 (many 2047) :: .blk g21 [.int .i64 1, .int .i64 1, .slice A19 1 c20] 29 :: Own 5 1 A19 1 c20 (u8s [254]) :: .blk g18 [.int .i64 0, .int .i64 0, .slice none 0 0] 29 :: .blk g17 [.int .i64 0, .int .i64 0, .slice none 0 0] 29 :: .blk g16 [.int .i64 1, .int .i64 1, .slice A14 1 c15] 29 :: Own 5 1 A14 1 c15 (u8s [255]) :: Own 5 1 A12 1 c13 (u8s [0]) :: .blk g6 [.int .i64 4, .int .i64 4, .slice A4 65536 c5] 29 :: Own 5 1 A4 65536 c5 (u8s Z16) :: .blk g3 [.int .i64 4, .int .i64 4, .slice A8 (65536 + 1) c9] 29 :: Own 5 1 A8 (65536 + 1) c9 ((u8s Z16) ++ [.int .u8 0]) :: L) w := s
      refine st_call ha (by kernel_rfl) (by kernel_rfl) (double_to W _ w g1 (many 2047) 0 (mm 0) 0 _ (many_at (by omega)) (by rw [many_len]; exact many_code (by omega) 0) rfl (many_ok (by omega)) s) ?_
      rintro _ w ⟨rfl, s⟩
      replace s : St W (Bag g1 (bput (many 2047) (mm 0)) :: .blk g21 [.int .i64 1, .int .i64 1, .slice A19 1 c20] 29 :: Own 5 1 A19 1 c20 (u8s [254]) :: .blk g18 [.int .i64 0, .int .i64 0, .slice none 0 0] 29 :: .blk g17 [.int .i64 0, .int .i64 0, .slice none 0 0] 29 :: .blk g16 [.int .i64 1, .int .i64 1, .slice A14 1 c15] 29 :: Own 5 1 A14 1 c15 (u8s [255]) :: Own 5 1 A12 1 c13 (u8s [0]) :: .blk g6 [.int .i64 4, .int .i64 4, .slice A4 65536 c5] 29 :: Own 5 1 A4 65536 c5 (u8s Z16) :: .blk g3 [.int .i64 4, .int .i64 4, .slice A8 (65536 + 1) c9] 29 :: Own 5 1 A8 (65536 + 1) c9 ((u8s Z16) ++ [.int .u8 0]) :: L) w := s
      refine ⟨_, rfl, ?_⟩; clear ha; intro a ha
      refine st_val (.bool true) ha (by kernel_rfl) (by kernel_rfl) ?_
      clear ha; intro a ha
      refine st_val (.bool true) ha (by kernel_rfl) (by kernel_rfl) ?_
      clear ha; intro a ha
      refine st_val (.bool true) ha (by kernel_rfl) (by kernel_rfl) ?_
      clear ha; intro a ha
      refine wpList_nil ?_
      refine then_normal ?_
      refine wp_seq ?_
      refine wp_region_lit ?_
      refine st_call ha (by kernel_rfl) (by kernel_rfl) (new_bag W _ w s) ?_
      rintro _ w ⟨g22, rfl, s⟩
      replace s : St W (Bag g22 [] :: Bag g1 (bput (many 2047) (mm 0)) :: .blk g21 [.int .i64 1, .int .i64 1, .slice A19 1 c20] 29 :: Own 5 1 A19 1 c20 (u8s [254]) :: .blk g18 [.int .i64 0, .int .i64 0, .slice none 0 0] 29 :: .blk g17 [.int .i64 0, .int .i64 0, .slice none 0 0] 29 :: .blk g16 [.int .i64 1, .int .i64 1, .slice A14 1 c15] 29 :: Own 5 1 A14 1 c15 (u8s [255]) :: Own 5 1 A12 1 c13 (u8s [0]) :: .blk g6 [.int .i64 4, .int .i64 4, .slice A4 65536 c5] 29 :: Own 5 1 A4 65536 c5 (u8s Z16) :: .blk g3 [.int .i64 4, .int .i64 4, .slice A8 (65536 + 1) c9] 29 :: Own 5 1 A8 (65536 + 1) c9 ((u8s Z16) ++ [.int .u8 0]) :: L) w := s
      refine ⟨_, rfl, ?_⟩; clear ha; intro a ha
      refine st_val (.pointer (some ⟨g22, 0, none⟩)) ha (by kernel_rfl) (by kernel_rfl) ?_
      clear ha; intro a ha
      refine wpList_nil ?_
      refine then_normal ?_
      refine wp_seq ?_
      refine wp_region_lit ?_
      refine st_val (.pointer (some ⟨g22, 0, none⟩)) ha (by kernel_rfl) (by kernel_rfl) ?_
      clear ha; intro a ha
      refine st_val (.agg #[.int .i64 1, .int .i64 1, .slice none 0 0]) ha (by kernel_rfl) (by kernel_rfl) ?_
      clear ha; intro a ha
      refine st_call ha (by kernel_rfl) (by kernel_rfl) (put_is W _ w g22 [] 1 1 [] none 0 0 0 [⟨1, 1, []⟩] rfl (code_ok (by omega) (by omega) (by simp) (by simp)) rfl (Knows.reads_none _ _) (by omega) s) ?_
      rintro _ w ⟨rfl, s⟩
      replace s : St W (Bag g22 [⟨1, 1, []⟩] :: Bag g1 (bput (many 2047) (mm 0)) :: .blk g21 [.int .i64 1, .int .i64 1, .slice A19 1 c20] 29 :: Own 5 1 A19 1 c20 (u8s [254]) :: .blk g18 [.int .i64 0, .int .i64 0, .slice none 0 0] 29 :: .blk g17 [.int .i64 0, .int .i64 0, .slice none 0 0] 29 :: .blk g16 [.int .i64 1, .int .i64 1, .slice A14 1 c15] 29 :: Own 5 1 A14 1 c15 (u8s [255]) :: Own 5 1 A12 1 c13 (u8s [0]) :: .blk g6 [.int .i64 4, .int .i64 4, .slice A4 65536 c5] 29 :: Own 5 1 A4 65536 c5 (u8s Z16) :: .blk g3 [.int .i64 4, .int .i64 4, .slice A8 (65536 + 1) c9] 29 :: Own 5 1 A8 (65536 + 1) c9 ((u8s Z16) ++ [.int .u8 0]) :: L) w := s
      refine ⟨_, rfl, ?_⟩; clear ha; intro a ha
      refine st_val (.int .i64 0) ha (by kernel_rfl) (by kernel_rfl) ?_
      clear ha; intro a ha
      refine wpList_nil ?_
      refine then_normal ?_
      refine wp_seq ?_
      refine wp_region_lit ?_
      refine st_val (.pointer (some ⟨g22, 0, none⟩)) ha (by kernel_rfl) (by kernel_rfl) ?_
      clear ha; intro a ha
      refine st_call ha (by kernel_rfl) (by kernel_rfl) (take_to W _ w g22 [⟨1, 1, []⟩] 0 1 1 [] 0 [] rfl rfl rfl ⟨by simp, by simp⟩ s) ?_
      rintro _ w ⟨A23, c24, rfl, s⟩
      replace s : St W (Own 5 1 A23 0 c24 (u8s []) :: Bag g22 [] :: Bag g1 (bput (many 2047) (mm 0)) :: .blk g21 [.int .i64 1, .int .i64 1, .slice A19 1 c20] 29 :: Own 5 1 A19 1 c20 (u8s [254]) :: .blk g18 [.int .i64 0, .int .i64 0, .slice none 0 0] 29 :: .blk g17 [.int .i64 0, .int .i64 0, .slice none 0 0] 29 :: .blk g16 [.int .i64 1, .int .i64 1, .slice A14 1 c15] 29 :: Own 5 1 A14 1 c15 (u8s [255]) :: Own 5 1 A12 1 c13 (u8s [0]) :: .blk g6 [.int .i64 4, .int .i64 4, .slice A4 65536 c5] 29 :: Own 5 1 A4 65536 c5 (u8s Z16) :: .blk g3 [.int .i64 4, .int .i64 4, .slice A8 (65536 + 1) c9] 29 :: Own 5 1 A8 (65536 + 1) c9 ((u8s Z16) ++ [.int .u8 0]) :: L) w := s
      refine ⟨_, rfl, ?_⟩; clear ha; intro a ha
      refine st_val (.tuple #[.agg #[.int .i64 1, .int .i64 1, .slice A23 0 c24], .bool true]) ha (by kernel_rfl) (by kernel_rfl) ?_
      clear ha; intro a ha
      refine st_val (.agg #[.int .i64 1, .int .i64 1, .slice A23 0 c24]) ha (by kernel_rfl) (by kernel_rfl) ?_
      clear ha; intro a ha
      refine st_val (.bool true) ha (by kernel_rfl) (by kernel_rfl) ?_
      clear ha; intro a ha
      refine st_ex ha (by kernel_rfl) (ex_alloc [.int .i64 0, .int .i64 0, .slice none 0 0] s rfl (Try.zeroValue29 _) (by kernel_rfl)) ?_
      clear ha; rintro _ w a ⟨g25, rfl, s⟩ ha
      replace s : St W (.blk g25 [.int .i64 0, .int .i64 0, .slice none 0 0] 29 :: Own 5 1 A23 0 c24 (u8s []) :: Bag g22 [] :: Bag g1 (bput (many 2047) (mm 0)) :: .blk g21 [.int .i64 1, .int .i64 1, .slice A19 1 c20] 29 :: Own 5 1 A19 1 c20 (u8s [254]) :: .blk g18 [.int .i64 0, .int .i64 0, .slice none 0 0] 29 :: .blk g17 [.int .i64 0, .int .i64 0, .slice none 0 0] 29 :: .blk g16 [.int .i64 1, .int .i64 1, .slice A14 1 c15] 29 :: Own 5 1 A14 1 c15 (u8s [255]) :: Own 5 1 A12 1 c13 (u8s [0]) :: .blk g6 [.int .i64 4, .int .i64 4, .slice A4 65536 c5] 29 :: Own 5 1 A4 65536 c5 (u8s Z16) :: .blk g3 [.int .i64 4, .int .i64 4, .slice A8 (65536 + 1) c9] 29 :: Own 5 1 A8 (65536 + 1) c9 ((u8s Z16) ++ [.int .u8 0]) :: L) w := s
      refine st_exd ha (by kernel_rfl) (ex_store (of_ := 0) 0 [.int .i64 1, .int .i64 1, .slice A23 0 c24] s rfl rfl (by kernel_rfl) (by kernel_rfl) (Try.sizeOf29 _) rfl (by simp [Value.oneCell']) (Nat.le_of_ble_eq_true rfl)) ?_
      clear ha; rintro w a s ha
      replace s : St W (.blk g25 [.int .i64 1, .int .i64 1, .slice A23 0 c24] 29 :: Own 5 1 A23 0 c24 (u8s []) :: Bag g22 [] :: Bag g1 (bput (many 2047) (mm 0)) :: .blk g21 [.int .i64 1, .int .i64 1, .slice A19 1 c20] 29 :: Own 5 1 A19 1 c20 (u8s [254]) :: .blk g18 [.int .i64 0, .int .i64 0, .slice none 0 0] 29 :: .blk g17 [.int .i64 0, .int .i64 0, .slice none 0 0] 29 :: .blk g16 [.int .i64 1, .int .i64 1, .slice A14 1 c15] 29 :: Own 5 1 A14 1 c15 (u8s [255]) :: Own 5 1 A12 1 c13 (u8s [0]) :: .blk g6 [.int .i64 4, .int .i64 4, .slice A4 65536 c5] 29 :: Own 5 1 A4 65536 c5 (u8s Z16) :: .blk g3 [.int .i64 4, .int .i64 4, .slice A8 (65536 + 1) c9] 29 :: Own 5 1 A8 (65536 + 1) c9 ((u8s Z16) ++ [.int .u8 0]) :: L) w := s
      refine st_val (.bool true) ha (by kernel_rfl) (by kernel_rfl) ?_
      clear ha; intro a ha
      refine wpList_nil ?_
      refine then_normal ?_
      refine wp_seq ?_
      refine wp_region_lit ?_
      refine st_val (.pointer none) ha (by kernel_rfl) (by kernel_rfl) ?_
      clear ha; intro a ha
      refine wpList_nil ?_
      refine then_normal ?_
      refine wp_seq ?_
      refine wp_seq ?_
      refine wp_region_lit ?_
      refine st_val (.int .i64 0) ha (by kernel_rfl) (by kernel_rfl) ?_
      clear ha; intro a ha
      refine wpList_nil ?_
      refine then_normal ?_
      refine wp_block ?_
      refine wp_loop_rounds 3 ?_
      show Code.rounds _ _ _ 3 _ _
      rw [rounds_succ]
      refine wp_seq ?_
      refine wp_seq ?_
      refine wp_region_lit ?_
      refine st_val (.int .i64 0) ha (by kernel_rfl) (by kernel_rfl) ?_
      clear ha; intro a ha
      refine st_val (.bool true) ha (by kernel_rfl) (by kernel_rfl) ?_
      clear ha; intro a ha
      refine wpList_nil ?_
      refine then_normal ?_
      refine wp_true ha rfl (by kernel_rfl) ?_
      refine wp_skip ?_
      refine then_normal ?_
      refine wp_seq ?_
      refine wp_block ?_
      refine wp_seq ?_
      refine wp_region_lit ?_
      refine st_val (.pointer none) ha (by kernel_rfl) (by kernel_rfl) ?_
      clear ha; intro a ha
      refine st_call ha (by kernel_rfl) (by kernel_rfl) (look_nil W _ w 0 s) ?_
      rintro _ w ⟨rfl, s⟩
      replace s : St W (.blk g25 [.int .i64 1, .int .i64 1, .slice A23 0 c24] 29 :: Own 5 1 A23 0 c24 (u8s []) :: Bag g22 [] :: Bag g1 (bput (many 2047) (mm 0)) :: .blk g21 [.int .i64 1, .int .i64 1, .slice A19 1 c20] 29 :: Own 5 1 A19 1 c20 (u8s [254]) :: .blk g18 [.int .i64 0, .int .i64 0, .slice none 0 0] 29 :: .blk g17 [.int .i64 0, .int .i64 0, .slice none 0 0] 29 :: .blk g16 [.int .i64 1, .int .i64 1, .slice A14 1 c15] 29 :: Own 5 1 A14 1 c15 (u8s [255]) :: Own 5 1 A12 1 c13 (u8s [0]) :: .blk g6 [.int .i64 4, .int .i64 4, .slice A4 65536 c5] 29 :: Own 5 1 A4 65536 c5 (u8s Z16) :: .blk g3 [.int .i64 4, .int .i64 4, .slice A8 (65536 + 1) c9] 29 :: Own 5 1 A8 (65536 + 1) c9 ((u8s Z16) ++ [.int .u8 0]) :: L) w := s
      refine ⟨_, rfl, ?_⟩; clear ha; intro a ha
      refine st_val (.tuple #[.agg #[.int .i64 0, .int .i64 0, .slice none 0 0], .bool false]) ha (by kernel_rfl) (by kernel_rfl) ?_
      clear ha; intro a ha
      refine st_val (.agg #[.int .i64 0, .int .i64 0, .slice none 0 0]) ha (by kernel_rfl) (by kernel_rfl) ?_
      clear ha; intro a ha
      refine st_val (.bool false) ha (by kernel_rfl) (by kernel_rfl) ?_
      clear ha; intro a ha
      refine st_ex ha (by kernel_rfl) (ex_alloc [.int .i64 0, .int .i64 0, .slice none 0 0] s rfl (Try.zeroValue29 _) (by kernel_rfl)) ?_
      clear ha; rintro _ w a ⟨g26, rfl, s⟩ ha
      replace s : St W (.blk g26 [.int .i64 0, .int .i64 0, .slice none 0 0] 29 :: .blk g25 [.int .i64 1, .int .i64 1, .slice A23 0 c24] 29 :: Own 5 1 A23 0 c24 (u8s []) :: Bag g22 [] :: Bag g1 (bput (many 2047) (mm 0)) :: .blk g21 [.int .i64 1, .int .i64 1, .slice A19 1 c20] 29 :: Own 5 1 A19 1 c20 (u8s [254]) :: .blk g18 [.int .i64 0, .int .i64 0, .slice none 0 0] 29 :: .blk g17 [.int .i64 0, .int .i64 0, .slice none 0 0] 29 :: .blk g16 [.int .i64 1, .int .i64 1, .slice A14 1 c15] 29 :: Own 5 1 A14 1 c15 (u8s [255]) :: Own 5 1 A12 1 c13 (u8s [0]) :: .blk g6 [.int .i64 4, .int .i64 4, .slice A4 65536 c5] 29 :: Own 5 1 A4 65536 c5 (u8s Z16) :: .blk g3 [.int .i64 4, .int .i64 4, .slice A8 (65536 + 1) c9] 29 :: Own 5 1 A8 (65536 + 1) c9 ((u8s Z16) ++ [.int .u8 0]) :: L) w := s
      refine st_exd ha (by kernel_rfl) (ex_store (of_ := 0) 0 [.int .i64 0, .int .i64 0, .slice none 0 0] s rfl rfl (by kernel_rfl) (by kernel_rfl) (Try.sizeOf29 _) rfl (by simp [Value.oneCell']) (Nat.le_of_ble_eq_true rfl)) ?_
      clear ha; rintro w a s ha
      replace s : St W (.blk g26 [.int .i64 0, .int .i64 0, .slice none 0 0] 29 :: .blk g25 [.int .i64 1, .int .i64 1, .slice A23 0 c24] 29 :: Own 5 1 A23 0 c24 (u8s []) :: Bag g22 [] :: Bag g1 (bput (many 2047) (mm 0)) :: .blk g21 [.int .i64 1, .int .i64 1, .slice A19 1 c20] 29 :: Own 5 1 A19 1 c20 (u8s [254]) :: .blk g18 [.int .i64 0, .int .i64 0, .slice none 0 0] 29 :: .blk g17 [.int .i64 0, .int .i64 0, .slice none 0 0] 29 :: .blk g16 [.int .i64 1, .int .i64 1, .slice A14 1 c15] 29 :: Own 5 1 A14 1 c15 (u8s [255]) :: Own 5 1 A12 1 c13 (u8s [0]) :: .blk g6 [.int .i64 4, .int .i64 4, .slice A4 65536 c5] 29 :: Own 5 1 A4 65536 c5 (u8s Z16) :: .blk g3 [.int .i64 4, .int .i64 4, .slice A8 (65536 + 1) c9] 29 :: Own 5 1 A8 (65536 + 1) c9 ((u8s Z16) ++ [.int .u8 0]) :: L) w := s
      refine st_val (.bool false) ha (by kernel_rfl) (by kernel_rfl) ?_
      clear ha; intro a ha
      refine wpList_nil ?_
      refine then_normal ?_
      refine wp_seq ?_
      refine wp_region_lit ?_
      refine st_val (.pointer none) ha (by kernel_rfl) (by kernel_rfl) ?_
      clear ha; intro a ha
      refine st_call ha (by kernel_rfl) (by kernel_rfl) (take_nil W _ w 0 s) ?_
      rintro _ w ⟨rfl, s⟩
      replace s : St W (.blk g26 [.int .i64 0, .int .i64 0, .slice none 0 0] 29 :: .blk g25 [.int .i64 1, .int .i64 1, .slice A23 0 c24] 29 :: Own 5 1 A23 0 c24 (u8s []) :: Bag g22 [] :: Bag g1 (bput (many 2047) (mm 0)) :: .blk g21 [.int .i64 1, .int .i64 1, .slice A19 1 c20] 29 :: Own 5 1 A19 1 c20 (u8s [254]) :: .blk g18 [.int .i64 0, .int .i64 0, .slice none 0 0] 29 :: .blk g17 [.int .i64 0, .int .i64 0, .slice none 0 0] 29 :: .blk g16 [.int .i64 1, .int .i64 1, .slice A14 1 c15] 29 :: Own 5 1 A14 1 c15 (u8s [255]) :: Own 5 1 A12 1 c13 (u8s [0]) :: .blk g6 [.int .i64 4, .int .i64 4, .slice A4 65536 c5] 29 :: Own 5 1 A4 65536 c5 (u8s Z16) :: .blk g3 [.int .i64 4, .int .i64 4, .slice A8 (65536 + 1) c9] 29 :: Own 5 1 A8 (65536 + 1) c9 ((u8s Z16) ++ [.int .u8 0]) :: L) w := s
      refine ⟨_, rfl, ?_⟩; clear ha; intro a ha
      refine st_val (.tuple #[.agg #[.int .i64 0, .int .i64 0, .slice none 0 0], .bool false]) ha (by kernel_rfl) (by kernel_rfl) ?_
      clear ha; intro a ha
      refine st_val (.agg #[.int .i64 0, .int .i64 0, .slice none 0 0]) ha (by kernel_rfl) (by kernel_rfl) ?_
      clear ha; intro a ha
      refine st_val (.bool false) ha (by kernel_rfl) (by kernel_rfl) ?_
      clear ha; intro a ha
      refine st_ex ha (by kernel_rfl) (ex_alloc [.int .i64 0, .int .i64 0, .slice none 0 0] s rfl (Try.zeroValue29 _) (by kernel_rfl)) ?_
      clear ha; rintro _ w a ⟨g27, rfl, s⟩ ha
      replace s : St W (.blk g27 [.int .i64 0, .int .i64 0, .slice none 0 0] 29 :: .blk g26 [.int .i64 0, .int .i64 0, .slice none 0 0] 29 :: .blk g25 [.int .i64 1, .int .i64 1, .slice A23 0 c24] 29 :: Own 5 1 A23 0 c24 (u8s []) :: Bag g22 [] :: Bag g1 (bput (many 2047) (mm 0)) :: .blk g21 [.int .i64 1, .int .i64 1, .slice A19 1 c20] 29 :: Own 5 1 A19 1 c20 (u8s [254]) :: .blk g18 [.int .i64 0, .int .i64 0, .slice none 0 0] 29 :: .blk g17 [.int .i64 0, .int .i64 0, .slice none 0 0] 29 :: .blk g16 [.int .i64 1, .int .i64 1, .slice A14 1 c15] 29 :: Own 5 1 A14 1 c15 (u8s [255]) :: Own 5 1 A12 1 c13 (u8s [0]) :: .blk g6 [.int .i64 4, .int .i64 4, .slice A4 65536 c5] 29 :: Own 5 1 A4 65536 c5 (u8s Z16) :: .blk g3 [.int .i64 4, .int .i64 4, .slice A8 (65536 + 1) c9] 29 :: Own 5 1 A8 (65536 + 1) c9 ((u8s Z16) ++ [.int .u8 0]) :: L) w := s
      refine st_exd ha (by kernel_rfl) (ex_store (of_ := 0) 0 [.int .i64 0, .int .i64 0, .slice none 0 0] s rfl rfl (by kernel_rfl) (by kernel_rfl) (Try.sizeOf29 _) rfl (by simp [Value.oneCell']) (Nat.le_of_ble_eq_true rfl)) ?_
      clear ha; rintro w a s ha
      replace s : St W (.blk g27 [.int .i64 0, .int .i64 0, .slice none 0 0] 29 :: .blk g26 [.int .i64 0, .int .i64 0, .slice none 0 0] 29 :: .blk g25 [.int .i64 1, .int .i64 1, .slice A23 0 c24] 29 :: Own 5 1 A23 0 c24 (u8s []) :: Bag g22 [] :: Bag g1 (bput (many 2047) (mm 0)) :: .blk g21 [.int .i64 1, .int .i64 1, .slice A19 1 c20] 29 :: Own 5 1 A19 1 c20 (u8s [254]) :: .blk g18 [.int .i64 0, .int .i64 0, .slice none 0 0] 29 :: .blk g17 [.int .i64 0, .int .i64 0, .slice none 0 0] 29 :: .blk g16 [.int .i64 1, .int .i64 1, .slice A14 1 c15] 29 :: Own 5 1 A14 1 c15 (u8s [255]) :: Own 5 1 A12 1 c13 (u8s [0]) :: .blk g6 [.int .i64 4, .int .i64 4, .slice A4 65536 c5] 29 :: Own 5 1 A4 65536 c5 (u8s Z16) :: .blk g3 [.int .i64 4, .int .i64 4, .slice A8 (65536 + 1) c9] 29 :: Own 5 1 A8 (65536 + 1) c9 ((u8s Z16) ++ [.int .u8 0]) :: L) w := s
      refine st_val (.bool false) ha (by kernel_rfl) (by kernel_rfl) ?_
      clear ha; intro a ha
      refine wpList_nil ?_
      refine then_normal ?_
      refine wp_seq ?_
      refine wp_seq ?_
      refine wp_region_lit ?_
      refine st_val (.pointer none) ha (by kernel_rfl) (by kernel_rfl) ?_
      clear ha; intro a ha
      refine st_call ha (by kernel_rfl) (by kernel_rfl) (mail_any W _ w 1 1 0 s) ?_
      rintro _ w ⟨A28, c29, rfl, s⟩
      replace s : St W (Own 5 1 A28 1 c29 (u8s [0]) :: .blk g27 [.int .i64 0, .int .i64 0, .slice none 0 0] 29 :: .blk g26 [.int .i64 0, .int .i64 0, .slice none 0 0] 29 :: .blk g25 [.int .i64 1, .int .i64 1, .slice A23 0 c24] 29 :: Own 5 1 A23 0 c24 (u8s []) :: Bag g22 [] :: Bag g1 (bput (many 2047) (mm 0)) :: .blk g21 [.int .i64 1, .int .i64 1, .slice A19 1 c20] 29 :: Own 5 1 A19 1 c20 (u8s [254]) :: .blk g18 [.int .i64 0, .int .i64 0, .slice none 0 0] 29 :: .blk g17 [.int .i64 0, .int .i64 0, .slice none 0 0] 29 :: .blk g16 [.int .i64 1, .int .i64 1, .slice A14 1 c15] 29 :: Own 5 1 A14 1 c15 (u8s [255]) :: Own 5 1 A12 1 c13 (u8s [0]) :: .blk g6 [.int .i64 4, .int .i64 4, .slice A4 65536 c5] 29 :: Own 5 1 A4 65536 c5 (u8s Z16) :: .blk g3 [.int .i64 4, .int .i64 4, .slice A8 (65536 + 1) c9] 29 :: Own 5 1 A8 (65536 + 1) c9 ((u8s Z16) ++ [.int .u8 0]) :: L) w := s
      refine ⟨_, rfl, ?_⟩; clear ha; intro a ha
      refine st_call ha (by kernel_rfl) (by kernel_rfl) (put_nil W _ w 1 1 A28 1 c29 s) ?_
      rintro _ w ⟨rfl, s⟩
      replace s : St W (Own 5 1 A28 1 c29 (u8s [0]) :: .blk g27 [.int .i64 0, .int .i64 0, .slice none 0 0] 29 :: .blk g26 [.int .i64 0, .int .i64 0, .slice none 0 0] 29 :: .blk g25 [.int .i64 1, .int .i64 1, .slice A23 0 c24] 29 :: Own 5 1 A23 0 c24 (u8s []) :: Bag g22 [] :: Bag g1 (bput (many 2047) (mm 0)) :: .blk g21 [.int .i64 1, .int .i64 1, .slice A19 1 c20] 29 :: Own 5 1 A19 1 c20 (u8s [254]) :: .blk g18 [.int .i64 0, .int .i64 0, .slice none 0 0] 29 :: .blk g17 [.int .i64 0, .int .i64 0, .slice none 0 0] 29 :: .blk g16 [.int .i64 1, .int .i64 1, .slice A14 1 c15] 29 :: Own 5 1 A14 1 c15 (u8s [255]) :: Own 5 1 A12 1 c13 (u8s [0]) :: .blk g6 [.int .i64 4, .int .i64 4, .slice A4 65536 c5] 29 :: Own 5 1 A4 65536 c5 (u8s Z16) :: .blk g3 [.int .i64 4, .int .i64 4, .slice A8 (65536 + 1) c9] 29 :: Own 5 1 A8 (65536 + 1) c9 ((u8s Z16) ++ [.int .u8 0]) :: L) w := s
      refine ⟨_, rfl, ?_⟩; clear ha; intro a ha
      refine st_val (.bool false) ha (by kernel_rfl) (by kernel_rfl) ?_
      clear ha; intro a ha
      refine st_val (.bool false) ha (by kernel_rfl) (by kernel_rfl) ?_
      clear ha; intro a ha
      refine st_val (.bool false) ha (by kernel_rfl) (by kernel_rfl) ?_
      clear ha; intro a ha
      refine st_val (.bool false) ha (by kernel_rfl) (by kernel_rfl) ?_
      clear ha; intro a ha
      refine st_val (.bool false) ha (by kernel_rfl) (by kernel_rfl) ?_
      clear ha; intro a ha
      refine st_val (.bool false) ha (by kernel_rfl) (by kernel_rfl) ?_
      clear ha; intro a ha
      refine st_val (.bool false) ha (by kernel_rfl) (by kernel_rfl) ?_
      clear ha; intro a ha
      refine st_val (.bool false) ha (by kernel_rfl) (by kernel_rfl) ?_
      clear ha; intro a ha
      refine st_val (.pointer none) ha (by kernel_rfl) (by kernel_rfl) ?_
      clear ha; intro a ha
      refine st_call ha (by kernel_rfl) (by kernel_rfl) (double_nil W _ w 0 s) ?_
      rintro _ w ⟨rfl, s⟩
      replace s : St W (Own 5 1 A28 1 c29 (u8s [0]) :: .blk g27 [.int .i64 0, .int .i64 0, .slice none 0 0] 29 :: .blk g26 [.int .i64 0, .int .i64 0, .slice none 0 0] 29 :: .blk g25 [.int .i64 1, .int .i64 1, .slice A23 0 c24] 29 :: Own 5 1 A23 0 c24 (u8s []) :: Bag g22 [] :: Bag g1 (bput (many 2047) (mm 0)) :: .blk g21 [.int .i64 1, .int .i64 1, .slice A19 1 c20] 29 :: Own 5 1 A19 1 c20 (u8s [254]) :: .blk g18 [.int .i64 0, .int .i64 0, .slice none 0 0] 29 :: .blk g17 [.int .i64 0, .int .i64 0, .slice none 0 0] 29 :: .blk g16 [.int .i64 1, .int .i64 1, .slice A14 1 c15] 29 :: Own 5 1 A14 1 c15 (u8s [255]) :: Own 5 1 A12 1 c13 (u8s [0]) :: .blk g6 [.int .i64 4, .int .i64 4, .slice A4 65536 c5] 29 :: Own 5 1 A4 65536 c5 (u8s Z16) :: .blk g3 [.int .i64 4, .int .i64 4, .slice A8 (65536 + 1) c9] 29 :: Own 5 1 A8 (65536 + 1) c9 ((u8s Z16) ++ [.int .u8 0]) :: L) w := s
      refine ⟨_, rfl, ?_⟩; clear ha; intro a ha
      refine st_val (.bool false) ha (by kernel_rfl) (by kernel_rfl) ?_
      clear ha; intro a ha
      refine st_val (.bool false) ha (by kernel_rfl) (by kernel_rfl) ?_
      clear ha; intro a ha
      refine st_val (.bool false) ha (by kernel_rfl) (by kernel_rfl) ?_
      clear ha; intro a ha
      refine st_val (.pointer none) ha (by kernel_rfl) (by kernel_rfl) ?_
      clear ha; intro a ha
      refine st_call ha (by kernel_rfl) (by kernel_rfl) (len_nil W _ w s) ?_
      rintro _ w ⟨rfl, s⟩
      replace s : St W (Own 5 1 A28 1 c29 (u8s [0]) :: .blk g27 [.int .i64 0, .int .i64 0, .slice none 0 0] 29 :: .blk g26 [.int .i64 0, .int .i64 0, .slice none 0 0] 29 :: .blk g25 [.int .i64 1, .int .i64 1, .slice A23 0 c24] 29 :: Own 5 1 A23 0 c24 (u8s []) :: Bag g22 [] :: Bag g1 (bput (many 2047) (mm 0)) :: .blk g21 [.int .i64 1, .int .i64 1, .slice A19 1 c20] 29 :: Own 5 1 A19 1 c20 (u8s [254]) :: .blk g18 [.int .i64 0, .int .i64 0, .slice none 0 0] 29 :: .blk g17 [.int .i64 0, .int .i64 0, .slice none 0 0] 29 :: .blk g16 [.int .i64 1, .int .i64 1, .slice A14 1 c15] 29 :: Own 5 1 A14 1 c15 (u8s [255]) :: Own 5 1 A12 1 c13 (u8s [0]) :: .blk g6 [.int .i64 4, .int .i64 4, .slice A4 65536 c5] 29 :: Own 5 1 A4 65536 c5 (u8s Z16) :: .blk g3 [.int .i64 4, .int .i64 4, .slice A8 (65536 + 1) c9] 29 :: Own 5 1 A8 (65536 + 1) c9 ((u8s Z16) ++ [.int .u8 0]) :: L) w := s
      refine ⟨_, rfl, ?_⟩; clear ha; intro a ha
      refine st_val (.bool false) ha (by kernel_rfl) (by kernel_rfl) ?_
      clear ha; intro a ha
      refine st_val (.bool false) ha (by kernel_rfl) (by kernel_rfl) ?_
      clear ha; intro a ha
      refine wpList_nil ?_
      refine then_normal ?_
      refine wp_false ha rfl (by kernel_rfl) ?_
      refine wp_skip ?_
      refine then_normal ?_
      refine wp_region_lit ?_
      refine st_val (.agg #[.bool false, .slice none 0 0]) ha (by kernel_rfl) (by kernel_rfl) ?_
      clear ha; intro a ha
      refine st_ex ha (by kernel_rfl) (ex_box [.bool false, .slice none 0 0] s rfl (by kernel_rfl)) ?_
      clear ha; rintro _ w a ⟨g30, rfl, s⟩ ha
      replace s : St W (.blk g30 [.bool false, .slice none 0 0] 52 :: Own 5 1 A28 1 c29 (u8s [0]) :: .blk g27 [.int .i64 0, .int .i64 0, .slice none 0 0] 29 :: .blk g26 [.int .i64 0, .int .i64 0, .slice none 0 0] 29 :: .blk g25 [.int .i64 1, .int .i64 1, .slice A23 0 c24] 29 :: Own 5 1 A23 0 c24 (u8s []) :: Bag g22 [] :: Bag g1 (bput (many 2047) (mm 0)) :: .blk g21 [.int .i64 1, .int .i64 1, .slice A19 1 c20] 29 :: Own 5 1 A19 1 c20 (u8s [254]) :: .blk g18 [.int .i64 0, .int .i64 0, .slice none 0 0] 29 :: .blk g17 [.int .i64 0, .int .i64 0, .slice none 0 0] 29 :: .blk g16 [.int .i64 1, .int .i64 1, .slice A14 1 c15] 29 :: Own 5 1 A14 1 c15 (u8s [255]) :: Own 5 1 A12 1 c13 (u8s [0]) :: .blk g6 [.int .i64 4, .int .i64 4, .slice A4 65536 c5] 29 :: Own 5 1 A4 65536 c5 (u8s Z16) :: .blk g3 [.int .i64 4, .int .i64 4, .slice A8 (65536 + 1) c9] 29 :: Own 5 1 A8 (65536 + 1) c9 ((u8s Z16) ++ [.int .u8 0]) :: L) w := s
      refine st_val (.pointer (some ⟨g30, 0, none⟩)) ha (by kernel_rfl) (by kernel_rfl) ?_
      clear ha; intro a ha
      refine wpList_nil ?_
      refine block_normal ?_
      refine then_normal ?_
      refine wp_region_lit ?_
      refine st_val (.int .i64 0) ha (by kernel_rfl) (by kernel_rfl) ?_
      clear ha; intro a ha
      refine st_val (.int .i64 1) ha (by kernel_rfl) (by kernel_rfl) ?_
      clear ha; intro a ha
      refine st_val (.int .i64 1) ha (by kernel_rfl) (by kernel_rfl) ?_
      clear ha; intro a ha
      refine wpList_nil ?_
      refine then_normal ?_
      show Code.rounds _ _ _ 2 _ _
      rw [rounds_succ]
      refine wp_seq ?_
      refine wp_seq ?_
      refine wp_region_lit ?_
      refine st_val (.int .i64 1) ha (by kernel_rfl) (by kernel_rfl) ?_
      clear ha; intro a ha
      refine st_val (.bool true) ha (by kernel_rfl) (by kernel_rfl) ?_
      clear ha; intro a ha
      refine wpList_nil ?_
      refine then_normal ?_
      refine wp_true ha rfl (by kernel_rfl) ?_
      refine wp_skip ?_
      refine then_normal ?_
      refine wp_seq ?_
      refine wp_block ?_
      refine wp_seq ?_
      refine wp_region_lit ?_
      refine st_val (.pointer (some ⟨g30, 0, none⟩)) ha (by kernel_rfl) (by kernel_rfl) ?_
      clear ha; intro a ha
      refine st_call ha (by kernel_rfl) (by kernel_rfl) (look_zero W _ w g30 0 s) ?_
      rintro _ w ⟨rfl, s⟩
      replace s : St W (.blk g30 [.bool false, .slice none 0 0] 52 :: Own 5 1 A28 1 c29 (u8s [0]) :: .blk g27 [.int .i64 0, .int .i64 0, .slice none 0 0] 29 :: .blk g26 [.int .i64 0, .int .i64 0, .slice none 0 0] 29 :: .blk g25 [.int .i64 1, .int .i64 1, .slice A23 0 c24] 29 :: Own 5 1 A23 0 c24 (u8s []) :: Bag g22 [] :: Bag g1 (bput (many 2047) (mm 0)) :: .blk g21 [.int .i64 1, .int .i64 1, .slice A19 1 c20] 29 :: Own 5 1 A19 1 c20 (u8s [254]) :: .blk g18 [.int .i64 0, .int .i64 0, .slice none 0 0] 29 :: .blk g17 [.int .i64 0, .int .i64 0, .slice none 0 0] 29 :: .blk g16 [.int .i64 1, .int .i64 1, .slice A14 1 c15] 29 :: Own 5 1 A14 1 c15 (u8s [255]) :: Own 5 1 A12 1 c13 (u8s [0]) :: .blk g6 [.int .i64 4, .int .i64 4, .slice A4 65536 c5] 29 :: Own 5 1 A4 65536 c5 (u8s Z16) :: .blk g3 [.int .i64 4, .int .i64 4, .slice A8 (65536 + 1) c9] 29 :: Own 5 1 A8 (65536 + 1) c9 ((u8s Z16) ++ [.int .u8 0]) :: L) w := s
      refine ⟨_, rfl, ?_⟩; clear ha; intro a ha
      refine st_val (.tuple #[.agg #[.int .i64 0, .int .i64 0, .slice none 0 0], .bool false]) ha (by kernel_rfl) (by kernel_rfl) ?_
      clear ha; intro a ha
      refine st_val (.agg #[.int .i64 0, .int .i64 0, .slice none 0 0]) ha (by kernel_rfl) (by kernel_rfl) ?_
      clear ha; intro a ha
      refine st_val (.bool false) ha (by kernel_rfl) (by kernel_rfl) ?_
      clear ha; intro a ha
      refine st_ex ha (by kernel_rfl) (ex_alloc [.int .i64 0, .int .i64 0, .slice none 0 0] s rfl (Try.zeroValue29 _) (by kernel_rfl)) ?_
      clear ha; rintro _ w a ⟨g31, rfl, s⟩ ha
      replace s : St W (.blk g31 [.int .i64 0, .int .i64 0, .slice none 0 0] 29 :: .blk g30 [.bool false, .slice none 0 0] 52 :: Own 5 1 A28 1 c29 (u8s [0]) :: .blk g27 [.int .i64 0, .int .i64 0, .slice none 0 0] 29 :: .blk g26 [.int .i64 0, .int .i64 0, .slice none 0 0] 29 :: .blk g25 [.int .i64 1, .int .i64 1, .slice A23 0 c24] 29 :: Own 5 1 A23 0 c24 (u8s []) :: Bag g22 [] :: Bag g1 (bput (many 2047) (mm 0)) :: .blk g21 [.int .i64 1, .int .i64 1, .slice A19 1 c20] 29 :: Own 5 1 A19 1 c20 (u8s [254]) :: .blk g18 [.int .i64 0, .int .i64 0, .slice none 0 0] 29 :: .blk g17 [.int .i64 0, .int .i64 0, .slice none 0 0] 29 :: .blk g16 [.int .i64 1, .int .i64 1, .slice A14 1 c15] 29 :: Own 5 1 A14 1 c15 (u8s [255]) :: Own 5 1 A12 1 c13 (u8s [0]) :: .blk g6 [.int .i64 4, .int .i64 4, .slice A4 65536 c5] 29 :: Own 5 1 A4 65536 c5 (u8s Z16) :: .blk g3 [.int .i64 4, .int .i64 4, .slice A8 (65536 + 1) c9] 29 :: Own 5 1 A8 (65536 + 1) c9 ((u8s Z16) ++ [.int .u8 0]) :: L) w := s
      refine st_exd ha (by kernel_rfl) (ex_store (of_ := 0) 0 [.int .i64 0, .int .i64 0, .slice none 0 0] s rfl rfl (by kernel_rfl) (by kernel_rfl) (Try.sizeOf29 _) rfl (by simp [Value.oneCell']) (Nat.le_of_ble_eq_true rfl)) ?_
      clear ha; rintro w a s ha
      replace s : St W (.blk g31 [.int .i64 0, .int .i64 0, .slice none 0 0] 29 :: .blk g30 [.bool false, .slice none 0 0] 52 :: Own 5 1 A28 1 c29 (u8s [0]) :: .blk g27 [.int .i64 0, .int .i64 0, .slice none 0 0] 29 :: .blk g26 [.int .i64 0, .int .i64 0, .slice none 0 0] 29 :: .blk g25 [.int .i64 1, .int .i64 1, .slice A23 0 c24] 29 :: Own 5 1 A23 0 c24 (u8s []) :: Bag g22 [] :: Bag g1 (bput (many 2047) (mm 0)) :: .blk g21 [.int .i64 1, .int .i64 1, .slice A19 1 c20] 29 :: Own 5 1 A19 1 c20 (u8s [254]) :: .blk g18 [.int .i64 0, .int .i64 0, .slice none 0 0] 29 :: .blk g17 [.int .i64 0, .int .i64 0, .slice none 0 0] 29 :: .blk g16 [.int .i64 1, .int .i64 1, .slice A14 1 c15] 29 :: Own 5 1 A14 1 c15 (u8s [255]) :: Own 5 1 A12 1 c13 (u8s [0]) :: .blk g6 [.int .i64 4, .int .i64 4, .slice A4 65536 c5] 29 :: Own 5 1 A4 65536 c5 (u8s Z16) :: .blk g3 [.int .i64 4, .int .i64 4, .slice A8 (65536 + 1) c9] 29 :: Own 5 1 A8 (65536 + 1) c9 ((u8s Z16) ++ [.int .u8 0]) :: L) w := s
      refine st_val (.bool false) ha (by kernel_rfl) (by kernel_rfl) ?_
      clear ha; intro a ha
      refine wpList_nil ?_
      refine then_normal ?_
      refine wp_seq ?_
      refine wp_region_lit ?_
      refine st_val (.pointer (some ⟨g30, 0, none⟩)) ha (by kernel_rfl) (by kernel_rfl) ?_
      clear ha; intro a ha
      replace s := s.at_ (j := 1) rfl
      replace s : St W (.blk g30 [.bool false, .slice none 0 0] 52 :: .blk g31 [.int .i64 0, .int .i64 0, .slice none 0 0] 29 :: Own 5 1 A28 1 c29 (u8s [0]) :: .blk g27 [.int .i64 0, .int .i64 0, .slice none 0 0] 29 :: .blk g26 [.int .i64 0, .int .i64 0, .slice none 0 0] 29 :: .blk g25 [.int .i64 1, .int .i64 1, .slice A23 0 c24] 29 :: Own 5 1 A23 0 c24 (u8s []) :: Bag g22 [] :: Bag g1 (bput (many 2047) (mm 0)) :: .blk g21 [.int .i64 1, .int .i64 1, .slice A19 1 c20] 29 :: Own 5 1 A19 1 c20 (u8s [254]) :: .blk g18 [.int .i64 0, .int .i64 0, .slice none 0 0] 29 :: .blk g17 [.int .i64 0, .int .i64 0, .slice none 0 0] 29 :: .blk g16 [.int .i64 1, .int .i64 1, .slice A14 1 c15] 29 :: Own 5 1 A14 1 c15 (u8s [255]) :: Own 5 1 A12 1 c13 (u8s [0]) :: .blk g6 [.int .i64 4, .int .i64 4, .slice A4 65536 c5] 29 :: Own 5 1 A4 65536 c5 (u8s Z16) :: .blk g3 [.int .i64 4, .int .i64 4, .slice A8 (65536 + 1) c9] 29 :: Own 5 1 A8 (65536 + 1) c9 ((u8s Z16) ++ [.int .u8 0]) :: L) w := s
      refine st_call ha (by kernel_rfl) (by kernel_rfl) (take_zero W _ w g30 0 s) ?_
      rintro _ w ⟨rfl, s⟩
      replace s : St W (.blk g30 [.bool false, .slice none 0 0] 52 :: .blk g31 [.int .i64 0, .int .i64 0, .slice none 0 0] 29 :: Own 5 1 A28 1 c29 (u8s [0]) :: .blk g27 [.int .i64 0, .int .i64 0, .slice none 0 0] 29 :: .blk g26 [.int .i64 0, .int .i64 0, .slice none 0 0] 29 :: .blk g25 [.int .i64 1, .int .i64 1, .slice A23 0 c24] 29 :: Own 5 1 A23 0 c24 (u8s []) :: Bag g22 [] :: Bag g1 (bput (many 2047) (mm 0)) :: .blk g21 [.int .i64 1, .int .i64 1, .slice A19 1 c20] 29 :: Own 5 1 A19 1 c20 (u8s [254]) :: .blk g18 [.int .i64 0, .int .i64 0, .slice none 0 0] 29 :: .blk g17 [.int .i64 0, .int .i64 0, .slice none 0 0] 29 :: .blk g16 [.int .i64 1, .int .i64 1, .slice A14 1 c15] 29 :: Own 5 1 A14 1 c15 (u8s [255]) :: Own 5 1 A12 1 c13 (u8s [0]) :: .blk g6 [.int .i64 4, .int .i64 4, .slice A4 65536 c5] 29 :: Own 5 1 A4 65536 c5 (u8s Z16) :: .blk g3 [.int .i64 4, .int .i64 4, .slice A8 (65536 + 1) c9] 29 :: Own 5 1 A8 (65536 + 1) c9 ((u8s Z16) ++ [.int .u8 0]) :: L) w := s
      refine ⟨_, rfl, ?_⟩; clear ha; intro a ha
      refine st_val (.tuple #[.agg #[.int .i64 0, .int .i64 0, .slice none 0 0], .bool false]) ha (by kernel_rfl) (by kernel_rfl) ?_
      clear ha; intro a ha
      refine st_val (.agg #[.int .i64 0, .int .i64 0, .slice none 0 0]) ha (by kernel_rfl) (by kernel_rfl) ?_
      clear ha; intro a ha
      refine st_val (.bool false) ha (by kernel_rfl) (by kernel_rfl) ?_
      clear ha; intro a ha
      refine st_ex ha (by kernel_rfl) (ex_alloc [.int .i64 0, .int .i64 0, .slice none 0 0] s rfl (Try.zeroValue29 _) (by kernel_rfl)) ?_
      clear ha; rintro _ w a ⟨g32, rfl, s⟩ ha
      replace s : St W (.blk g32 [.int .i64 0, .int .i64 0, .slice none 0 0] 29 :: .blk g30 [.bool false, .slice none 0 0] 52 :: .blk g31 [.int .i64 0, .int .i64 0, .slice none 0 0] 29 :: Own 5 1 A28 1 c29 (u8s [0]) :: .blk g27 [.int .i64 0, .int .i64 0, .slice none 0 0] 29 :: .blk g26 [.int .i64 0, .int .i64 0, .slice none 0 0] 29 :: .blk g25 [.int .i64 1, .int .i64 1, .slice A23 0 c24] 29 :: Own 5 1 A23 0 c24 (u8s []) :: Bag g22 [] :: Bag g1 (bput (many 2047) (mm 0)) :: .blk g21 [.int .i64 1, .int .i64 1, .slice A19 1 c20] 29 :: Own 5 1 A19 1 c20 (u8s [254]) :: .blk g18 [.int .i64 0, .int .i64 0, .slice none 0 0] 29 :: .blk g17 [.int .i64 0, .int .i64 0, .slice none 0 0] 29 :: .blk g16 [.int .i64 1, .int .i64 1, .slice A14 1 c15] 29 :: Own 5 1 A14 1 c15 (u8s [255]) :: Own 5 1 A12 1 c13 (u8s [0]) :: .blk g6 [.int .i64 4, .int .i64 4, .slice A4 65536 c5] 29 :: Own 5 1 A4 65536 c5 (u8s Z16) :: .blk g3 [.int .i64 4, .int .i64 4, .slice A8 (65536 + 1) c9] 29 :: Own 5 1 A8 (65536 + 1) c9 ((u8s Z16) ++ [.int .u8 0]) :: L) w := s
      refine st_exd ha (by kernel_rfl) (ex_store (of_ := 0) 0 [.int .i64 0, .int .i64 0, .slice none 0 0] s rfl rfl (by kernel_rfl) (by kernel_rfl) (Try.sizeOf29 _) rfl (by simp [Value.oneCell']) (Nat.le_of_ble_eq_true rfl)) ?_
      clear ha; rintro w a s ha
      replace s : St W (.blk g32 [.int .i64 0, .int .i64 0, .slice none 0 0] 29 :: .blk g30 [.bool false, .slice none 0 0] 52 :: .blk g31 [.int .i64 0, .int .i64 0, .slice none 0 0] 29 :: Own 5 1 A28 1 c29 (u8s [0]) :: .blk g27 [.int .i64 0, .int .i64 0, .slice none 0 0] 29 :: .blk g26 [.int .i64 0, .int .i64 0, .slice none 0 0] 29 :: .blk g25 [.int .i64 1, .int .i64 1, .slice A23 0 c24] 29 :: Own 5 1 A23 0 c24 (u8s []) :: Bag g22 [] :: Bag g1 (bput (many 2047) (mm 0)) :: .blk g21 [.int .i64 1, .int .i64 1, .slice A19 1 c20] 29 :: Own 5 1 A19 1 c20 (u8s [254]) :: .blk g18 [.int .i64 0, .int .i64 0, .slice none 0 0] 29 :: .blk g17 [.int .i64 0, .int .i64 0, .slice none 0 0] 29 :: .blk g16 [.int .i64 1, .int .i64 1, .slice A14 1 c15] 29 :: Own 5 1 A14 1 c15 (u8s [255]) :: Own 5 1 A12 1 c13 (u8s [0]) :: .blk g6 [.int .i64 4, .int .i64 4, .slice A4 65536 c5] 29 :: Own 5 1 A4 65536 c5 (u8s Z16) :: .blk g3 [.int .i64 4, .int .i64 4, .slice A8 (65536 + 1) c9] 29 :: Own 5 1 A8 (65536 + 1) c9 ((u8s Z16) ++ [.int .u8 0]) :: L) w := s
      refine st_val (.bool false) ha (by kernel_rfl) (by kernel_rfl) ?_
      clear ha; intro a ha
      refine wpList_nil ?_
      refine then_normal ?_
      refine wp_seq ?_
      refine wp_seq ?_
      refine wp_region_lit ?_
      refine st_val (.pointer (some ⟨g30, 0, none⟩)) ha (by kernel_rfl) (by kernel_rfl) ?_
      clear ha; intro a ha
      refine st_call ha (by kernel_rfl) (by kernel_rfl) (mail_any W _ w 1 1 0 s) ?_
      rintro _ w ⟨A33, c34, rfl, s⟩
      replace s : St W (Own 5 1 A33 1 c34 (u8s [0]) :: .blk g32 [.int .i64 0, .int .i64 0, .slice none 0 0] 29 :: .blk g30 [.bool false, .slice none 0 0] 52 :: .blk g31 [.int .i64 0, .int .i64 0, .slice none 0 0] 29 :: Own 5 1 A28 1 c29 (u8s [0]) :: .blk g27 [.int .i64 0, .int .i64 0, .slice none 0 0] 29 :: .blk g26 [.int .i64 0, .int .i64 0, .slice none 0 0] 29 :: .blk g25 [.int .i64 1, .int .i64 1, .slice A23 0 c24] 29 :: Own 5 1 A23 0 c24 (u8s []) :: Bag g22 [] :: Bag g1 (bput (many 2047) (mm 0)) :: .blk g21 [.int .i64 1, .int .i64 1, .slice A19 1 c20] 29 :: Own 5 1 A19 1 c20 (u8s [254]) :: .blk g18 [.int .i64 0, .int .i64 0, .slice none 0 0] 29 :: .blk g17 [.int .i64 0, .int .i64 0, .slice none 0 0] 29 :: .blk g16 [.int .i64 1, .int .i64 1, .slice A14 1 c15] 29 :: Own 5 1 A14 1 c15 (u8s [255]) :: Own 5 1 A12 1 c13 (u8s [0]) :: .blk g6 [.int .i64 4, .int .i64 4, .slice A4 65536 c5] 29 :: Own 5 1 A4 65536 c5 (u8s Z16) :: .blk g3 [.int .i64 4, .int .i64 4, .slice A8 (65536 + 1) c9] 29 :: Own 5 1 A8 (65536 + 1) c9 ((u8s Z16) ++ [.int .u8 0]) :: L) w := s
      refine ⟨_, rfl, ?_⟩; clear ha; intro a ha
      replace s := s.at_ (j := 2) rfl
      replace s : St W (.blk g30 [.bool false, .slice none 0 0] 52 :: Own 5 1 A33 1 c34 (u8s [0]) :: .blk g32 [.int .i64 0, .int .i64 0, .slice none 0 0] 29 :: .blk g31 [.int .i64 0, .int .i64 0, .slice none 0 0] 29 :: Own 5 1 A28 1 c29 (u8s [0]) :: .blk g27 [.int .i64 0, .int .i64 0, .slice none 0 0] 29 :: .blk g26 [.int .i64 0, .int .i64 0, .slice none 0 0] 29 :: .blk g25 [.int .i64 1, .int .i64 1, .slice A23 0 c24] 29 :: Own 5 1 A23 0 c24 (u8s []) :: Bag g22 [] :: Bag g1 (bput (many 2047) (mm 0)) :: .blk g21 [.int .i64 1, .int .i64 1, .slice A19 1 c20] 29 :: Own 5 1 A19 1 c20 (u8s [254]) :: .blk g18 [.int .i64 0, .int .i64 0, .slice none 0 0] 29 :: .blk g17 [.int .i64 0, .int .i64 0, .slice none 0 0] 29 :: .blk g16 [.int .i64 1, .int .i64 1, .slice A14 1 c15] 29 :: Own 5 1 A14 1 c15 (u8s [255]) :: Own 5 1 A12 1 c13 (u8s [0]) :: .blk g6 [.int .i64 4, .int .i64 4, .slice A4 65536 c5] 29 :: Own 5 1 A4 65536 c5 (u8s Z16) :: .blk g3 [.int .i64 4, .int .i64 4, .slice A8 (65536 + 1) c9] 29 :: Own 5 1 A8 (65536 + 1) c9 ((u8s Z16) ++ [.int .u8 0]) :: L) w := s
      refine st_call ha (by kernel_rfl) (by kernel_rfl) (put_zero W _ w g30 1 1 A33 1 c34 s) ?_
      rintro _ w ⟨rfl, s⟩
      replace s : St W (.blk g30 [.bool false, .slice none 0 0] 52 :: Own 5 1 A33 1 c34 (u8s [0]) :: .blk g32 [.int .i64 0, .int .i64 0, .slice none 0 0] 29 :: .blk g31 [.int .i64 0, .int .i64 0, .slice none 0 0] 29 :: Own 5 1 A28 1 c29 (u8s [0]) :: .blk g27 [.int .i64 0, .int .i64 0, .slice none 0 0] 29 :: .blk g26 [.int .i64 0, .int .i64 0, .slice none 0 0] 29 :: .blk g25 [.int .i64 1, .int .i64 1, .slice A23 0 c24] 29 :: Own 5 1 A23 0 c24 (u8s []) :: Bag g22 [] :: Bag g1 (bput (many 2047) (mm 0)) :: .blk g21 [.int .i64 1, .int .i64 1, .slice A19 1 c20] 29 :: Own 5 1 A19 1 c20 (u8s [254]) :: .blk g18 [.int .i64 0, .int .i64 0, .slice none 0 0] 29 :: .blk g17 [.int .i64 0, .int .i64 0, .slice none 0 0] 29 :: .blk g16 [.int .i64 1, .int .i64 1, .slice A14 1 c15] 29 :: Own 5 1 A14 1 c15 (u8s [255]) :: Own 5 1 A12 1 c13 (u8s [0]) :: .blk g6 [.int .i64 4, .int .i64 4, .slice A4 65536 c5] 29 :: Own 5 1 A4 65536 c5 (u8s Z16) :: .blk g3 [.int .i64 4, .int .i64 4, .slice A8 (65536 + 1) c9] 29 :: Own 5 1 A8 (65536 + 1) c9 ((u8s Z16) ++ [.int .u8 0]) :: L) w := s
      refine ⟨_, rfl, ?_⟩; clear ha; intro a ha
      refine st_val (.bool false) ha (by kernel_rfl) (by kernel_rfl) ?_
      clear ha; intro a ha
      refine st_val (.bool false) ha (by kernel_rfl) (by kernel_rfl) ?_
      clear ha; intro a ha
      refine st_val (.bool false) ha (by kernel_rfl) (by kernel_rfl) ?_
      clear ha; intro a ha
      refine st_val (.bool false) ha (by kernel_rfl) (by kernel_rfl) ?_
      clear ha; intro a ha
      refine st_val (.bool false) ha (by kernel_rfl) (by kernel_rfl) ?_
      clear ha; intro a ha
      refine st_val (.bool false) ha (by kernel_rfl) (by kernel_rfl) ?_
      clear ha; intro a ha
      refine st_val (.bool false) ha (by kernel_rfl) (by kernel_rfl) ?_
      clear ha; intro a ha
      refine st_val (.bool false) ha (by kernel_rfl) (by kernel_rfl) ?_
      clear ha; intro a ha
      refine st_val (.pointer (some ⟨g30, 0, none⟩)) ha (by kernel_rfl) (by kernel_rfl) ?_
      clear ha; intro a ha
      refine st_call ha (by kernel_rfl) (by kernel_rfl) (double_zero W _ w g30 0 s) ?_
      rintro _ w ⟨rfl, s⟩
      replace s : St W (.blk g30 [.bool false, .slice none 0 0] 52 :: Own 5 1 A33 1 c34 (u8s [0]) :: .blk g32 [.int .i64 0, .int .i64 0, .slice none 0 0] 29 :: .blk g31 [.int .i64 0, .int .i64 0, .slice none 0 0] 29 :: Own 5 1 A28 1 c29 (u8s [0]) :: .blk g27 [.int .i64 0, .int .i64 0, .slice none 0 0] 29 :: .blk g26 [.int .i64 0, .int .i64 0, .slice none 0 0] 29 :: .blk g25 [.int .i64 1, .int .i64 1, .slice A23 0 c24] 29 :: Own 5 1 A23 0 c24 (u8s []) :: Bag g22 [] :: Bag g1 (bput (many 2047) (mm 0)) :: .blk g21 [.int .i64 1, .int .i64 1, .slice A19 1 c20] 29 :: Own 5 1 A19 1 c20 (u8s [254]) :: .blk g18 [.int .i64 0, .int .i64 0, .slice none 0 0] 29 :: .blk g17 [.int .i64 0, .int .i64 0, .slice none 0 0] 29 :: .blk g16 [.int .i64 1, .int .i64 1, .slice A14 1 c15] 29 :: Own 5 1 A14 1 c15 (u8s [255]) :: Own 5 1 A12 1 c13 (u8s [0]) :: .blk g6 [.int .i64 4, .int .i64 4, .slice A4 65536 c5] 29 :: Own 5 1 A4 65536 c5 (u8s Z16) :: .blk g3 [.int .i64 4, .int .i64 4, .slice A8 (65536 + 1) c9] 29 :: Own 5 1 A8 (65536 + 1) c9 ((u8s Z16) ++ [.int .u8 0]) :: L) w := s
      refine ⟨_, rfl, ?_⟩; clear ha; intro a ha
      refine st_val (.bool false) ha (by kernel_rfl) (by kernel_rfl) ?_
      clear ha; intro a ha
      refine st_val (.bool false) ha (by kernel_rfl) (by kernel_rfl) ?_
      clear ha; intro a ha
      refine st_val (.bool false) ha (by kernel_rfl) (by kernel_rfl) ?_
      clear ha; intro a ha
      refine st_val (.pointer (some ⟨g30, 0, none⟩)) ha (by kernel_rfl) (by kernel_rfl) ?_
      clear ha; intro a ha
      refine st_call ha (by kernel_rfl) (by kernel_rfl) (len_zero W _ w g30 s) ?_
      rintro _ w ⟨rfl, s⟩
      replace s : St W (.blk g30 [.bool false, .slice none 0 0] 52 :: Own 5 1 A33 1 c34 (u8s [0]) :: .blk g32 [.int .i64 0, .int .i64 0, .slice none 0 0] 29 :: .blk g31 [.int .i64 0, .int .i64 0, .slice none 0 0] 29 :: Own 5 1 A28 1 c29 (u8s [0]) :: .blk g27 [.int .i64 0, .int .i64 0, .slice none 0 0] 29 :: .blk g26 [.int .i64 0, .int .i64 0, .slice none 0 0] 29 :: .blk g25 [.int .i64 1, .int .i64 1, .slice A23 0 c24] 29 :: Own 5 1 A23 0 c24 (u8s []) :: Bag g22 [] :: Bag g1 (bput (many 2047) (mm 0)) :: .blk g21 [.int .i64 1, .int .i64 1, .slice A19 1 c20] 29 :: Own 5 1 A19 1 c20 (u8s [254]) :: .blk g18 [.int .i64 0, .int .i64 0, .slice none 0 0] 29 :: .blk g17 [.int .i64 0, .int .i64 0, .slice none 0 0] 29 :: .blk g16 [.int .i64 1, .int .i64 1, .slice A14 1 c15] 29 :: Own 5 1 A14 1 c15 (u8s [255]) :: Own 5 1 A12 1 c13 (u8s [0]) :: .blk g6 [.int .i64 4, .int .i64 4, .slice A4 65536 c5] 29 :: Own 5 1 A4 65536 c5 (u8s Z16) :: .blk g3 [.int .i64 4, .int .i64 4, .slice A8 (65536 + 1) c9] 29 :: Own 5 1 A8 (65536 + 1) c9 ((u8s Z16) ++ [.int .u8 0]) :: L) w := s
      refine ⟨_, rfl, ?_⟩; clear ha; intro a ha
      refine st_val (.bool false) ha (by kernel_rfl) (by kernel_rfl) ?_
      clear ha; intro a ha
      refine st_val (.bool false) ha (by kernel_rfl) (by kernel_rfl) ?_
      clear ha; intro a ha
      refine wpList_nil ?_
      refine then_normal ?_
      refine wp_false ha rfl (by kernel_rfl) ?_
      refine wp_skip ?_
      refine then_normal ?_
      refine wp_region_lit ?_
      refine st_val (.agg #[.bool false, .slice none 0 0]) ha (by kernel_rfl) (by kernel_rfl) ?_
      clear ha; intro a ha
      refine st_ex ha (by kernel_rfl) (ex_box [.bool false, .slice none 0 0] s rfl (by kernel_rfl)) ?_
      clear ha; rintro _ w a ⟨g35, rfl, s⟩ ha
      replace s : St W (.blk g35 [.bool false, .slice none 0 0] 52 :: .blk g30 [.bool false, .slice none 0 0] 52 :: Own 5 1 A33 1 c34 (u8s [0]) :: .blk g32 [.int .i64 0, .int .i64 0, .slice none 0 0] 29 :: .blk g31 [.int .i64 0, .int .i64 0, .slice none 0 0] 29 :: Own 5 1 A28 1 c29 (u8s [0]) :: .blk g27 [.int .i64 0, .int .i64 0, .slice none 0 0] 29 :: .blk g26 [.int .i64 0, .int .i64 0, .slice none 0 0] 29 :: .blk g25 [.int .i64 1, .int .i64 1, .slice A23 0 c24] 29 :: Own 5 1 A23 0 c24 (u8s []) :: Bag g22 [] :: Bag g1 (bput (many 2047) (mm 0)) :: .blk g21 [.int .i64 1, .int .i64 1, .slice A19 1 c20] 29 :: Own 5 1 A19 1 c20 (u8s [254]) :: .blk g18 [.int .i64 0, .int .i64 0, .slice none 0 0] 29 :: .blk g17 [.int .i64 0, .int .i64 0, .slice none 0 0] 29 :: .blk g16 [.int .i64 1, .int .i64 1, .slice A14 1 c15] 29 :: Own 5 1 A14 1 c15 (u8s [255]) :: Own 5 1 A12 1 c13 (u8s [0]) :: .blk g6 [.int .i64 4, .int .i64 4, .slice A4 65536 c5] 29 :: Own 5 1 A4 65536 c5 (u8s Z16) :: .blk g3 [.int .i64 4, .int .i64 4, .slice A8 (65536 + 1) c9] 29 :: Own 5 1 A8 (65536 + 1) c9 ((u8s Z16) ++ [.int .u8 0]) :: L) w := s
      refine st_val (.pointer (some ⟨g35, 0, none⟩)) ha (by kernel_rfl) (by kernel_rfl) ?_
      clear ha; intro a ha
      refine wpList_nil ?_
      refine block_normal ?_
      refine then_normal ?_
      refine wp_region_lit ?_
      refine st_val (.int .i64 1) ha (by kernel_rfl) (by kernel_rfl) ?_
      clear ha; intro a ha
      refine st_val (.int .i64 2) ha (by kernel_rfl) (by kernel_rfl) ?_
      clear ha; intro a ha
      refine st_val (.int .i64 2) ha (by kernel_rfl) (by kernel_rfl) ?_
      clear ha; intro a ha
      refine wpList_nil ?_
      refine then_normal ?_
      show Code.rounds _ _ _ 1 _ _
      rw [rounds_succ]
      refine wp_seq ?_
      refine wp_seq ?_
      refine wp_region_lit ?_
      refine st_val (.int .i64 2) ha (by kernel_rfl) (by kernel_rfl) ?_
      clear ha; intro a ha
      refine st_val (.bool false) ha (by kernel_rfl) (by kernel_rfl) ?_
      clear ha; intro a ha
      refine wpList_nil ?_
      refine then_normal ?_
      refine wp_false ha rfl (by kernel_rfl) ?_
      refine wp_exit ?_
      refine then_exit ?_
      refine then_exit ?_
      refine block_hit ?_
      refine then_normal ?_
      refine wp_seq ?_
      refine wp_region_lit ?_
      refine st_val (.bool true) ha (by kernel_rfl) (by kernel_rfl) ?_
      clear ha; intro a ha
      refine st_call ha (by kernel_rfl) (by kernel_rfl) (works_true W _ w s) ?_
      rintro _ w ⟨rfl, s⟩
      replace s : St W (.blk g35 [.bool false, .slice none 0 0] 52 :: .blk g30 [.bool false, .slice none 0 0] 52 :: Own 5 1 A33 1 c34 (u8s [0]) :: .blk g32 [.int .i64 0, .int .i64 0, .slice none 0 0] 29 :: .blk g31 [.int .i64 0, .int .i64 0, .slice none 0 0] 29 :: Own 5 1 A28 1 c29 (u8s [0]) :: .blk g27 [.int .i64 0, .int .i64 0, .slice none 0 0] 29 :: .blk g26 [.int .i64 0, .int .i64 0, .slice none 0 0] 29 :: .blk g25 [.int .i64 1, .int .i64 1, .slice A23 0 c24] 29 :: Own 5 1 A23 0 c24 (u8s []) :: Bag g22 [] :: Bag g1 (bput (many 2047) (mm 0)) :: .blk g21 [.int .i64 1, .int .i64 1, .slice A19 1 c20] 29 :: Own 5 1 A19 1 c20 (u8s [254]) :: .blk g18 [.int .i64 0, .int .i64 0, .slice none 0 0] 29 :: .blk g17 [.int .i64 0, .int .i64 0, .slice none 0 0] 29 :: .blk g16 [.int .i64 1, .int .i64 1, .slice A14 1 c15] 29 :: Own 5 1 A14 1 c15 (u8s [255]) :: Own 5 1 A12 1 c13 (u8s [0]) :: .blk g6 [.int .i64 4, .int .i64 4, .slice A4 65536 c5] 29 :: Own 5 1 A4 65536 c5 (u8s Z16) :: .blk g3 [.int .i64 4, .int .i64 4, .slice A8 (65536 + 1) c9] 29 :: Own 5 1 A8 (65536 + 1) c9 ((u8s Z16) ++ [.int .u8 0]) :: L) w := s
      refine ⟨_, rfl, ?_⟩; clear ha; intro a ha
      refine st_val (.bool true) ha (by kernel_rfl) (by kernel_rfl) ?_
      clear ha; intro a ha
      refine st_val (.bool true) ha (by kernel_rfl) (by kernel_rfl) ?_
      clear ha; intro a ha
      refine st_val (.bool true) ha (by kernel_rfl) (by kernel_rfl) ?_
      clear ha; intro a ha
      refine st_val (.bool true) ha (by kernel_rfl) (by kernel_rfl) ?_
      clear ha; intro a ha
      refine st_val (.bool true) ha (by kernel_rfl) (by kernel_rfl) ?_
      clear ha; intro a ha
      refine st_val (.bool true) ha (by kernel_rfl) (by kernel_rfl) ?_
      clear ha; intro a ha
      refine st_val (.bool true) ha (by kernel_rfl) (by kernel_rfl) ?_
      clear ha; intro a ha
      refine st_val (.bool true) ha (by kernel_rfl) (by kernel_rfl) ?_
      clear ha; intro a ha
      refine st_val (.bool true) ha (by kernel_rfl) (by kernel_rfl) ?_
      clear ha; intro a ha
      refine st_val (.bool true) ha (by kernel_rfl) (by kernel_rfl) ?_
      clear ha; intro a ha
      refine st_val (.bool true) ha (by kernel_rfl) (by kernel_rfl) ?_
      clear ha; intro a ha
      refine st_val (.int .i64 0) ha (by kernel_rfl) (by kernel_rfl) ?_
      clear ha; intro a ha
      refine st_val (.bool true) ha (by kernel_rfl) (by kernel_rfl) ?_
      clear ha; intro a ha
      refine st_val (.bool true) ha (by kernel_rfl) (by kernel_rfl) ?_
      clear ha; intro a ha
      refine st_val (.bool true) ha (by kernel_rfl) (by kernel_rfl) ?_
      clear ha; intro a ha
      refine st_val (.bool true) ha (by kernel_rfl) (by kernel_rfl) ?_
      clear ha; intro a ha
      refine st_val (.bool true) ha (by kernel_rfl) (by kernel_rfl) ?_
      clear ha; intro a ha
      refine st_val (.bool true) ha (by kernel_rfl) (by kernel_rfl) ?_
      clear ha; intro a ha
      refine st_val (.pointer (some ⟨g25, 2, none⟩)) ha (by kernel_rfl) (by kernel_rfl) ?_
      clear ha; intro a ha
      refine st_val (.slice A23 0 c24) ha (by kernel_rfl) (run_load1 (of_ := 2) (s.blkIs 8 rfl) rfl (by kernel_rfl) Try.isAgg27 rfl) ?_
      clear ha; intro a ha
      refine st_val (.int .i64 0) ha (by kernel_rfl) (by kernel_rfl) ?_
      clear ha; intro a ha
      refine st_val (.bool true) ha (by kernel_rfl) (by kernel_rfl) ?_
      clear ha; intro a ha
      refine st_val (.bool true) ha (by kernel_rfl) (by kernel_rfl) ?_
      clear ha; intro a ha
      refine st_val (.bool true) ha (by kernel_rfl) (by kernel_rfl) ?_
      clear ha; intro a ha
      refine st_val (.pointer (some ⟨g25, 0, none⟩)) ha (by kernel_rfl) (by kernel_rfl) ?_
      clear ha; intro a ha
      refine st_val (.int .i64 1) ha (by kernel_rfl) (run_load1 (of_ := 0) (s.blkIs 8 rfl) rfl (by kernel_rfl) Try.isAgg3 rfl) ?_
      clear ha; intro a ha
      refine st_val (.bool true) ha (by kernel_rfl) (by kernel_rfl) ?_
      clear ha; intro a ha
      refine st_val (.bool true) ha (by kernel_rfl) (by kernel_rfl) ?_
      clear ha; intro a ha
      refine st_val (.bool true) ha (by kernel_rfl) (by kernel_rfl) ?_
      clear ha; intro a ha
      refine wpList_nil ?_
      refine then_normal ?_
      refine wp_ret ?_
      refine ret_with (v := .bool true) ha (results_1 rfl ha (res_tmp (by kernel_rfl) (by kernel_rfl))) ?_
      replace s := s.tail.tail.tail.tail.tail.tail.tail.tail.tail.tail.tail.tail.tail.tail.tail.tail.tail.tail.tail.tail.tail.tail.tail
      replace s : St W (L) w := s
      exact ⟨rfl, s⟩

end Go.Proofs.Ytcgnhmdiedfamaa.B
