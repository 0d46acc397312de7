import Derived.Test.YtagbmfdheppmoaaGreatDoorK10
import Derived.KernelRfl
namespace Go.Proofs.YtagbmfdheppmoaaGreatDoor.B
open Go.RowKit Go.Proofs.YtagbmfdheppmoaaGreatDoor.Sep
set_option linter.unusedVariables false
set_option linter.unusedSimpArgs false

open Vm (vkey vkey0 vtx stx stv txnv)
theorem own_of_blk {W w : World} {L : List Chunk} {g e k n : Nat} {cs : List Value} (s : St W (.blk g cs e :: L) w) (h : cs.length = n * k) (hn : n ≤ maxLen) : St W (Sep.Own e k (some ⟨g, 0, none⟩) n n cs :: L) w :=
  ⟨SatH.head_imp s.1 fun f hf => ⟨h, Nat.le_refl _, hn, .inr ⟨g, 0, cs, rfl, hf, by omega, fun j u hu => by rw [Nat.zero_add]; exact hu⟩⟩, s.2⟩
theorem ops3_ext (l : List O3) (i : Nat) (h : i ≤ l.length) : (ops3 l).extract (i * 3) (l.length * 3) = ops3 (l.drop i) := by
  rw [List.extract_eq_take_drop]
  have e : ops3 l = ops3 (l.take i) ++ ops3 (l.drop i) := by rw [← ops3_app, List.take_append_drop]
  have l1 : (ops3 (l.take i)).length = i * 3 := by rw [ops3_len, List.length_take, Nat.min_eq_left h]
  have l2 : (ops3 (l.drop i)).length = l.length * 3 - i * 3 := by rw [ops3_len, List.length_drop]; omega
  rw [e, List.drop_append_of_le_length (by omega), List.drop_eq_nil_of_le (by omega), List.nil_append, List.take_of_length_le (by omega)]
theorem ext_one {l : List Value} (h : ∀ u ∈ l, u.oneCell' = true) (a b : Nat) : ∀ u ∈ l.extract a b, u.oneCell' = true := fun u hu => by
  rw [List.extract_eq_take_drop] at hu
  exact h u (List.mem_of_mem_drop (List.mem_of_mem_take hu))
/-- A shard: its number, its span, its tide. -/
abbrev Sh (gs gd : Nat) : Chunk := .blk gs [.int .i64 1, .string (str [97]), .string (str [109]), .pointer (some ⟨gd, 0, none⟩)] 153

theorem TideNew_spec (W : World) (L : List Chunk) (w : World) (s : St W L w) :
    Calls Tryz.prog 73 #[.agg #[.int .i64 0, .int .i64 0]] w fun e w' => ∃ g : Nat, e = .returned (.tuple #[.pointer (some ⟨g, 0, none⟩), .int .i64 0]) ∧ St W (.blk g [.bool true, .int .i64 0, .int .i64 0, .slice none 0 0] 223 :: L) w' := by
  refine enter_args (l := [.agg #[.int .i64 0, .int .i64 0]]) Tryz.func73 rfl rfl (Nat.le_of_ble_eq_true rfl) ?_
  intro a ha; replace ha : Has a 10 [(0, .agg #[.int .i64 0, .int .i64 0])] := ha
  refine wp_seq ?_
  refine wp_region_lit ?_
  refine st_ex ha (by kernel_rfl) (ex_box [.int .i64 0, .int .i64 0] s rfl (by kernel_rfl)) ?_
  clear ha; rintro _ w a ⟨g1, rfl, s⟩ ha
  refine st_val (.pointer none) ha (by kernel_rfl) (by kernel_rfl) ?_
  clear ha; intro a ha
  refine st_val (.int .i64 0) ha (by kernel_rfl) (by kernel_rfl) ?_
  clear ha; intro a ha
  refine wpList_nil ?_
  refine then_normal ?_
  refine wp_seq ?_
  refine wp_seq ?_
  refine wp_region_lit ?_
  refine st_val (.agg #[.int .i64 0, .int .i64 0]) ha (by kernel_rfl) (run_loadN (of_ := 0) [.int .i64 0, .int .i64 0] (s.blkIs 0 rfl) rfl (by kernel_rfl) Tryz.isAgg33 Tryz.sizeOf33 rfl (Nat.le_of_ble_eq_true rfl)) ?_
  clear ha; intro a ha
  refine st_call ha (by kernel_rfl) (by kernel_rfl) ((Vm.p_ck 0 (by omega)) _ _ _ s) ?_
  rintro _ w ⟨rfl, s⟩
  refine ⟨_, rfl, ?_⟩; clear ha; intro a ha
  refine st_val (.bool false) ha (by kernel_rfl) (by kernel_rfl) ?_
  clear ha; intro a ha
  refine wpList_nil ?_
  refine then_normal ?_
  refine wp_false ha rfl (by kernel_rfl) ?_
  refine wp_skip ?_
  refine then_normal ?_
  refine wp_seq ?_
  refine wp_region_lit ?_
  refine st_val (.agg #[.int .i64 0, .int .i64 0]) ha (by kernel_rfl) (run_loadN (of_ := 0) [.int .i64 0, .int .i64 0] (s.blkIs 0 rfl) rfl (by kernel_rfl) Tryz.isAgg33 Tryz.sizeOf33 rfl (Nat.le_of_ble_eq_true rfl)) ?_
  clear ha; intro a ha
  refine st_val (.agg #[.bool true, .int .i64 0, .int .i64 0, .slice none 0 0]) ha (by kernel_rfl) (by kernel_rfl) ?_
  clear ha; intro a ha
  refine st_ex ha (by kernel_rfl) (ex_box [.bool true, .int .i64 0, .int .i64 0, .slice none 0 0] s rfl (by kernel_rfl)) ?_
  clear ha; rintro _ w a ⟨g2, rfl, s⟩ ha
  refine st_val (.pointer (some ⟨g2, 0, none⟩)) ha (by kernel_rfl) (by kernel_rfl) ?_
  clear ha; intro a ha
  refine st_val (.int .i64 0) ha (by kernel_rfl) (by kernel_rfl) ?_
  clear ha; intro a ha
  refine wpList_nil ?_
  refine then_normal ?_
  refine wp_ret ?_
  refine ret_with (v := .tuple #[.pointer (some ⟨g2, 0, none⟩), .int .i64 0]) ha (results_2 rfl ha (res_tmp (by kernel_rfl) (by kernel_rfl)) (res_tmp (by kernel_rfl) (by kernel_rfl))) ?_
  replace s : St W (.blk g2 [.bool true, .int .i64 0, .int .i64 0, .slice none 0 0] 223 :: L) w := s.keep 1 1
  exact ⟨g2, rfl, s⟩

theorem ShNew_spec (W : World) (L : List Chunk) (w : World) (s : St W L w) :
    Calls Tryz.prog 28 #[.int .i64 1, .agg #[.string (str [97]), .string (str [109])], .agg #[.int .i64 0, .int .i64 0]] w fun e w' => ∃ gs gd : Nat, e = .returned (.tuple #[.pointer (some ⟨gs, 0, none⟩), .int .i64 0]) ∧ St W (Sh gs gd :: .blk gd [.bool true, .int .i64 0, .int .i64 0, .slice none 0 0] 223 :: L) w' := by
  refine enter_args (l := [.int .i64 1, .agg #[.string (str [97]), .string (str [109])], .agg #[.int .i64 0, .int .i64 0]]) Tryz.func28 rfl rfl (Nat.le_of_ble_eq_true rfl) ?_
  intro a ha; replace ha : Has a 35 [(0, .int .i64 1), (1, .agg #[.string (str [97]), .string (str [109])]), (2, .agg #[.int .i64 0, .int .i64 0])] := ha
  refine wp_seq ?_
  refine wp_region_lit ?_
  refine st_ex ha (by kernel_rfl) (ex_box [.string (str [97]), .string (str [109])] s rfl (by kernel_rfl)) ?_
  clear ha; rintro _ w a ⟨g1, rfl, s⟩ ha
  refine st_ex ha (by kernel_rfl) (ex_box [.int .i64 0, .int .i64 0] s rfl (by kernel_rfl)) ?_
  clear ha; rintro _ w a ⟨g2, rfl, s⟩ ha
  refine st_val (.pointer none) ha (by kernel_rfl) (by kernel_rfl) ?_
  clear ha; intro a ha
  refine st_val (.int .i64 0) ha (by kernel_rfl) (by kernel_rfl) ?_
  clear ha; intro a ha
  refine wpList_nil ?_
  refine then_normal ?_
  refine wp_seq ?_
  refine wp_region_lit ?_
  refine st_val (.agg #[.int .i64 0, .int .i64 0]) ha (by kernel_rfl) (run_loadN (of_ := 0) [.int .i64 0, .int .i64 0] (s.blkIs 0 rfl) rfl (by kernel_rfl) Tryz.isAgg33 Tryz.sizeOf33 rfl (Nat.le_of_ble_eq_true rfl)) ?_
  clear ha; intro a ha
  refine st_call ha (by kernel_rfl) (by kernel_rfl) (TideNew_spec W _ _ s) ?_
  rintro _ w ⟨gd, rfl, s⟩
  refine ⟨_, rfl, ?_⟩; clear ha; intro a ha
  refine st_val (.tuple #[.pointer (some ⟨gd, 0, none⟩), .int .i64 0]) ha (by kernel_rfl) (by kernel_rfl) ?_
  clear ha; intro a ha
  refine st_val (.pointer (some ⟨gd, 0, none⟩)) ha (by kernel_rfl) (by kernel_rfl) ?_
  clear ha; intro a ha
  refine st_val (.int .i64 0) ha (by kernel_rfl) (by kernel_rfl) ?_
  clear ha; intro a ha
  refine st_val (.pointer (some ⟨gd, 0, none⟩)) ha (by kernel_rfl) (by kernel_rfl) ?_
  clear ha; intro a ha
  refine st_val (.int .i64 0) ha (by kernel_rfl) (by kernel_rfl) ?_
  clear ha; intro a ha
  refine wpList_nil ?_
  refine then_normal ?_
  refine wp_seq ?_
  refine wp_seq ?_
  refine wp_region_lit ?_
  refine st_val (.int .i64 1) ha (by kernel_rfl) (by kernel_rfl) ?_
  clear ha; intro a ha
  refine st_val (.bool false) ha (by kernel_rfl) (by kernel_rfl) ?_
  clear ha; intro a ha
  refine st_val (.bool false) ha (by kernel_rfl) (by kernel_rfl) ?_
  clear ha; intro a ha
  refine st_val (.int .i64 1) ha (by kernel_rfl) (by kernel_rfl) ?_
  clear ha; intro a ha
  refine st_val (.bool false) ha (by kernel_rfl) (by kernel_rfl) ?_
  clear ha; intro a ha
  refine st_val (.bool false) ha (by kernel_rfl) (by kernel_rfl) ?_
  clear ha; intro a ha
  refine st_val (.bool false) ha (by kernel_rfl) (by kernel_rfl) ?_
  clear ha; intro a ha
  refine st_val (.agg #[.string (str [97]), .string (str [109])]) ha (by kernel_rfl) (run_loadN (of_ := 0) [.string (str [97]), .string (str [109])] (s.blkIs 2 rfl) rfl (by kernel_rfl) Tryz.isAgg37 Tryz.sizeOf37 rfl (Nat.le_of_ble_eq_true rfl)) ?_
  clear ha; intro a ha
  refine st_call ha (by kernel_rfl) (by kernel_rfl) (Vm.p_sc _ _ _ s) ?_
  rintro _ w ⟨rfl, s⟩
  refine ⟨_, rfl, ?_⟩; clear ha; intro a ha
  refine st_val (.bool false) ha (by kernel_rfl) (by kernel_rfl) ?_
  clear ha; intro a ha
  refine st_val (.bool false) ha (by kernel_rfl) (by kernel_rfl) ?_
  clear ha; intro a ha
  refine st_val (.bool false) ha (by kernel_rfl) (by kernel_rfl) ?_
  clear ha; intro a ha
  refine st_val (.int .i64 0) ha (by kernel_rfl) (by kernel_rfl) ?_
  clear ha; intro a ha
  refine st_val (.bool false) ha (by kernel_rfl) (by kernel_rfl) ?_
  clear ha; intro a ha
  refine st_val (.bool false) ha (by kernel_rfl) (by kernel_rfl) ?_
  clear ha; intro a ha
  refine wpList_nil ?_
  refine then_normal ?_
  refine wp_false ha rfl (by kernel_rfl) ?_
  refine wp_skip ?_
  refine then_normal ?_
  refine wp_seq ?_
  refine wp_region_lit ?_
  refine st_val (.int .i64 1) ha (by kernel_rfl) (by kernel_rfl) ?_
  clear ha; intro a ha
  refine st_val (.agg #[.string (str [97]), .string (str [109])]) ha (by kernel_rfl) (run_loadN (of_ := 0) [.string (str [97]), .string (str [109])] (s.blkIs 2 rfl) rfl (by kernel_rfl) Tryz.isAgg37 Tryz.sizeOf37 rfl (Nat.le_of_ble_eq_true rfl)) ?_
  clear ha; intro a ha
  refine st_val (.pointer (some ⟨gd, 0, none⟩)) ha (by kernel_rfl) (by kernel_rfl) ?_
  clear ha; intro a ha
  refine st_val (.agg #[.int .i64 1, .string (str [97]), .string (str [109]), .pointer (some ⟨gd, 0, none⟩)]) ha (by kernel_rfl) (by kernel_rfl) ?_
  clear ha; intro a ha
  refine st_ex ha (by kernel_rfl) (ex_box [.int .i64 1, .string (str [97]), .string (str [109]), .pointer (some ⟨gd, 0, none⟩)] s rfl (by kernel_rfl)) ?_
  clear ha; rintro _ w a ⟨g3, rfl, s⟩ ha
  refine st_val (.pointer (some ⟨g3, 0, none⟩)) ha (by kernel_rfl) (by kernel_rfl) ?_
  clear ha; intro a ha
  refine st_val (.int .i64 0) ha (by kernel_rfl) (by kernel_rfl) ?_
  clear ha; intro a ha
  refine wpList_nil ?_
  refine then_normal ?_
  refine wp_ret ?_
  refine ret_with (v := .tuple #[.pointer (some ⟨g3, 0, none⟩), .int .i64 0]) ha (results_2 rfl ha (res_tmp (by kernel_rfl) (by kernel_rfl)) (res_tmp (by kernel_rfl) (by kernel_rfl))) ?_
  replace s : St W (.blk g3 [.int .i64 1, .string (str [97]), .string (str [109]), .pointer (some ⟨gd, 0, none⟩)] 153 :: .blk gd [.bool true, .int .i64 0, .int .i64 0, .slice none 0 0] 223 :: L) w := s.keep 2 2
  exact ⟨g3, gd, rfl, s⟩

theorem begun_spec (W : World) (L : List Chunk) (w : World) (s : St W L w) :
    Calls Tryz.prog 9 #[] w fun e w' => ∃ gs gd gt : Nat, e = .returned (.tuple #[.agg #[.pointer (some ⟨gs, 0, none⟩), .pointer (some ⟨gt, 0, none⟩)], .bool true]) ∧ St W (Tb gt [] :: Sh gs gd :: .blk gd [.bool true, .int .i64 0, .int .i64 0, .slice none 0 0] 223 :: L) w' := by
  refine enter_args (l := []) Tryz.func9 rfl rfl (Nat.le_of_ble_eq_true rfl) ?_
  intro a ha; replace ha : Has a 15 [] := ha
  refine wp_seq ?_
  refine wp_region_lit ?_
  refine st_ex ha (by kernel_rfl) (ex_alloc [.pointer none, .pointer none] s rfl (Tryz.zeroValue26 _) (by kernel_rfl)) ?_
  clear ha; rintro _ w a ⟨g1, rfl, s⟩ ha
  refine st_val (.bool false) ha (by kernel_rfl) (by kernel_rfl) ?_
  clear ha; intro a ha
  refine wpList_nil ?_
  refine then_normal ?_
  refine wp_seq ?_
  refine wp_region_lit ?_
  refine st_val (.agg #[.string (str [97]), .string (str [109])]) ha (by kernel_rfl) (by kernel_rfl) ?_
  clear ha; intro a ha
  refine st_val (.agg #[.int .i64 0, .int .i64 0]) ha (by kernel_rfl) (by kernel_rfl) ?_
  clear ha; intro a ha
  refine st_call ha (by kernel_rfl) (by kernel_rfl) (ShNew_spec W _ _ s) ?_
  rintro _ w ⟨gs, gd, rfl, s⟩
  refine ⟨_, rfl, ?_⟩; clear ha; intro a ha
  refine st_val (.tuple #[.pointer (some ⟨gs, 0, none⟩), .int .i64 0]) ha (by kernel_rfl) (by kernel_rfl) ?_
  clear ha; intro a ha
  refine st_val (.pointer (some ⟨gs, 0, none⟩)) ha (by kernel_rfl) (by kernel_rfl) ?_
  clear ha; intro a ha
  refine st_val (.int .i64 0) ha (by kernel_rfl) (by kernel_rfl) ?_
  clear ha; intro a ha
  refine st_val (.pointer (some ⟨gs, 0, none⟩)) ha (by kernel_rfl) (by kernel_rfl) ?_
  clear ha; intro a ha
  refine st_val (.int .i64 0) ha (by kernel_rfl) (by kernel_rfl) ?_
  clear ha; intro a ha
  refine wpList_nil ?_
  refine then_normal ?_
  refine wp_seq ?_
  refine wp_region_lit ?_
  refine st_val (.pointer (some ⟨gs, 0, none⟩)) ha (by kernel_rfl) (by kernel_rfl) ?_
  clear ha; intro a ha
  refine st_call ha (by kernel_rfl) (by kernel_rfl) (TNew_spec W _ _ 1 s) ?_
  rintro _ w ⟨gt, rfl, s⟩
  refine ⟨_, rfl, ?_⟩; clear ha; intro a ha
  refine st_val (.agg #[.pointer (some ⟨gs, 0, none⟩), .pointer (some ⟨gt, 0, none⟩)]) ha (by kernel_rfl) (by kernel_rfl) ?_
  clear ha; intro a ha
  refine st_val (.int .i64 0) ha (by kernel_rfl) (by kernel_rfl) ?_
  clear ha; intro a ha
  refine st_val (.bool true) ha (by kernel_rfl) (by kernel_rfl) ?_
  clear ha; intro a ha
  refine st_exd ha (by kernel_rfl) (ex_store (of_ := 0) 3 [.pointer (some ⟨gs, 0, none⟩), .pointer (some ⟨gt, 0, none⟩)] s rfl rfl (by kernel_rfl) (by kernel_rfl) (Tryz.sizeOf26 _) rfl (by simp [Value.oneCell']) (Nat.le_of_ble_eq_true rfl)) ?_
  clear ha; rintro w a s ha
  replace s : St W (Tb gt [] :: .blk gs [.int .i64 1, .string (str [97]), .string (str [109]), .pointer (some ⟨gd, 0, none⟩)] 153 :: .blk gd [.bool true, .int .i64 0, .int .i64 0, .slice none 0 0] 223 :: .blk g1 [.pointer (some ⟨gs, 0, none⟩), .pointer (some ⟨gt, 0, none⟩)] 26 :: L) w := s
  refine st_val (.bool true) ha (by kernel_rfl) (by kernel_rfl) ?_
  clear ha; intro a ha
  refine wpList_nil ?_
  refine then_normal ?_
  refine wp_ret ?_
  refine ret_with (v := .tuple #[.agg #[.pointer (some ⟨gs, 0, none⟩), .pointer (some ⟨gt, 0, none⟩)], .bool true]) ha (results_2 rfl ha (res_cellN (s.blkIs 3 rfl) (by kernel_rfl) (by kernel_rfl) Tryz.isAgg26 Tryz.sizeOf26 rfl) (res_tmp (by kernel_rfl) (by kernel_rfl))) ?_
  replace s : St W (Tb gt [] :: .blk gs [.int .i64 1, .string (str [97]), .string (str [109]), .pointer (some ⟨gd, 0, none⟩)] 153 :: .blk gd [.bool true, .int .i64 0, .int .i64 0, .slice none 0 0] 223 :: L) w := s.keep 3 1
  exact ⟨gs, gd, gt, rfl, s⟩

theorem snone_spec (W : World) (L : List Chunk) (w : World) (gs gd : Nat) (s : St W (Sh gs gd :: L) w) :
    Calls Tryz.prog 55 #[.pointer (some ⟨gs, 0, none⟩)] w fun e w' => e = .returned (.bool false) ∧ St W (Sh gs gd :: L) w' := by
  refine enter_args (l := [.pointer (some ⟨gs, 0, none⟩)]) Tryz.func55 rfl rfl (Nat.le_of_ble_eq_true rfl) ?_
  intro a ha; replace ha : Has a 12 [(0, .pointer (some ⟨gs, 0, none⟩))] := ha
  refine wp_seq ?_
  refine wp_region_lit ?_
  refine st_val (.bool false) ha (by kernel_rfl) (by kernel_rfl) ?_
  clear ha; intro a ha
  refine wpList_nil ?_
  refine then_normal ?_
  refine wp_seq ?_
  refine wp_region_lit ?_
  refine st_val (.pointer (some ⟨gs, 0, none⟩)) ha (by kernel_rfl) (by kernel_rfl) ?_
  clear ha; intro a ha
  refine st_val (.bool false) ha (by kernel_rfl) (by kernel_rfl) ?_
  clear ha; intro a ha
  refine st_val (.bool false) ha (by kernel_rfl) (by kernel_rfl) ?_
  clear ha; intro a ha
  refine st_val (.pointer (some ⟨gs, 0, none⟩)) ha (by kernel_rfl) (by kernel_rfl) ?_
  clear ha; intro a ha
  refine st_val (.pointer (some ⟨gs, 0, none⟩)) ha (by kernel_rfl) (by kernel_rfl) ?_
  clear ha; intro a ha
  refine st_val (.pointer (some ⟨gs, 3, none⟩)) ha (by kernel_rfl) (by kernel_rfl) ?_
  clear ha; intro a ha
  refine st_val (.pointer (some ⟨gd, 0, none⟩)) ha (by kernel_rfl) (run_load1 (of_ := 3) (s.blkIs 0 rfl) rfl (by kernel_rfl) Tryz.isAgg148 rfl) ?_
  clear ha; intro a ha
  refine st_val (.bool false) ha (by kernel_rfl) (by kernel_rfl) ?_
  clear ha; intro a ha
  refine st_val (.bool false) ha (by kernel_rfl) (by kernel_rfl) ?_
  clear ha; intro a ha
  refine st_val (.bool false) ha (by kernel_rfl) (by kernel_rfl) ?_
  clear ha; intro a ha
  refine wpList_nil ?_
  refine then_normal ?_
  refine wp_ret ?_
  refine ret_with (v := .bool false) ha (results_1 rfl ha (res_tmp (by kernel_rfl) (by kernel_rfl))) ?_
  exact ⟨rfl, s⟩

theorem Thr_spec (W : World) (L : List Chunk) (w : World) (gs gd gt : Nat) (rows : List Rw) (hth : tget rows [103, 1] = none) (s : St W (Sh gs gd :: Tb gt rows :: L) w) :
    Calls Tryz.prog 32 #[.pointer (some ⟨gs, 0, none⟩), .pointer (some ⟨gt, 0, none⟩)] w fun e w' => e = .returned (.agg #[.int .i64 0, .int .i64 0]) ∧ St W (Sh gs gd :: Tb gt rows :: L) w' := by
  refine enter_args (l := [.pointer (some ⟨gs, 0, none⟩), .pointer (some ⟨gt, 0, none⟩)]) Tryz.func32 rfl rfl (Nat.le_of_ble_eq_true rfl) ?_
  intro a ha; replace ha : Has a 38 [(0, .pointer (some ⟨gs, 0, none⟩)), (1, .pointer (some ⟨gt, 0, none⟩))] := ha
  refine wp_seq ?_
  refine wp_region_lit ?_
  refine st_ex ha (by kernel_rfl) (ex_alloc [.int .i64 0, .int .i64 0] s rfl (Tryz.zeroValue33 _) (by kernel_rfl)) ?_
  clear ha; rintro _ w a ⟨g1, rfl, s⟩ ha
  refine wpList_nil ?_
  refine then_normal ?_
  refine wp_seq ?_
  refine wp_seq ?_
  refine wp_region_lit ?_
  refine st_val (.pointer (some ⟨gs, 0, none⟩)) ha (by kernel_rfl) (by kernel_rfl) ?_
  clear ha; intro a ha
  replace s := s.at_ (j := 1) rfl
  replace s : St W (.blk gs [.int .i64 1, .string (str [97]), .string (str [109]), .pointer (some ⟨gd, 0, none⟩)] 153 :: .blk g1 [.int .i64 0, .int .i64 0] 33 :: Tb gt rows :: L) w := s
  refine st_call ha (by kernel_rfl) (by kernel_rfl) (snone_spec W _ _ gs gd s) ?_
  rintro _ w ⟨rfl, s⟩
  refine ⟨_, rfl, ?_⟩; clear ha; intro a ha
  refine st_val (.bool false) ha (by kernel_rfl) (by kernel_rfl) ?_
  clear ha; intro a ha
  refine st_val (.pointer (some ⟨gt, 0, none⟩)) ha (by kernel_rfl) (by kernel_rfl) ?_
  clear ha; intro a ha
  refine st_val (.bool false) ha (by kernel_rfl) (by kernel_rfl) ?_
  clear ha; intro a ha
  refine st_val (.bool false) ha (by kernel_rfl) (by kernel_rfl) ?_
  clear ha; intro a ha
  refine wpList_nil ?_
  refine then_normal ?_
  refine wp_false ha rfl (by kernel_rfl) ?_
  refine wp_skip ?_
  refine then_normal ?_
  refine wp_seq ?_
  refine wp_region_lit ?_
  refine st_val (.pointer (some ⟨gs, 0, none⟩)) ha (by kernel_rfl) (by kernel_rfl) ?_
  clear ha; intro a ha
  refine st_val (.pointer (some ⟨gs, 0, none⟩)) ha (by kernel_rfl) (by kernel_rfl) ?_
  clear ha; intro a ha
  refine st_val (.pointer (some ⟨gs, 0, none⟩)) ha (by kernel_rfl) (by kernel_rfl) ?_
  clear ha; intro a ha
  refine st_val (.int .i64 1) ha (by kernel_rfl) (run_load1 (of_ := 0) (s.blkIs 0 rfl) rfl (by kernel_rfl) Tryz.isAgg3 rfl) ?_
  clear ha; intro a ha
  refine st_call ha (by kernel_rfl) (by kernel_rfl) (Vm.p_th _ _ _ s) ?_
  rintro _ w ⟨rfl, s⟩
  refine ⟨_, rfl, ?_⟩; clear ha; intro a ha
  refine st_val (.tuple #[.string (str [103, 1]), .int .i64 0]) ha (by kernel_rfl) (by kernel_rfl) ?_
  clear ha; intro a ha
  refine st_val (.string (str [103, 1])) ha (by kernel_rfl) (by kernel_rfl) ?_
  clear ha; intro a ha
  refine st_val (.int .i64 0) ha (by kernel_rfl) (by kernel_rfl) ?_
  clear ha; intro a ha
  refine st_val (.string (str [103, 1])) ha (by kernel_rfl) (by kernel_rfl) ?_
  clear ha; intro a ha
  refine st_val (.int .i64 0) ha (by kernel_rfl) (by kernel_rfl) ?_
  clear ha; intro a ha
  refine wpList_nil ?_
  refine then_normal ?_
  refine wp_seq ?_
  refine wp_region_lit ?_
  refine st_val (.pointer (some ⟨gt, 0, none⟩)) ha (by kernel_rfl) (by kernel_rfl) ?_
  clear ha; intro a ha
  refine st_val (.string (str [103, 1])) ha (by kernel_rfl) (by kernel_rfl) ?_
  clear ha; intro a ha
  replace s := s.at_ (j := 2) rfl
  replace s : St W (Tb gt rows :: .blk gs [.int .i64 1, .string (str [97]), .string (str [109]), .pointer (some ⟨gd, 0, none⟩)] 153 :: .blk g1 [.int .i64 0, .int .i64 0] 33 :: L) w := s
  refine st_call ha (by kernel_rfl) (by kernel_rfl) ((TGet_spec W _ _ gt rows [103, 1] s).mono fun e w h => (show _ ∧ _ from ⟨by have := h.1; rw [hth] at this; exact this, h.2⟩)) ?_
  rintro _ w ⟨rfl, s⟩
  refine ⟨_, rfl, ?_⟩; clear ha; intro a ha
  refine st_val (.tuple #[.string (str []), .bool false]) ha (by kernel_rfl) (by kernel_rfl) ?_
  clear ha; intro a ha
  refine st_val (.string (str [])) ha (by kernel_rfl) (by kernel_rfl) ?_
  clear ha; intro a ha
  refine st_val (.bool false) ha (by kernel_rfl) (by kernel_rfl) ?_
  clear ha; intro a ha
  refine st_val (.string (str [])) ha (by kernel_rfl) (by kernel_rfl) ?_
  clear ha; intro a ha
  refine st_val (.bool false) ha (by kernel_rfl) (by kernel_rfl) ?_
  clear ha; intro a ha
  refine wpList_nil ?_
  refine then_normal ?_
  refine wp_seq ?_
  refine wp_region_lit ?_
  refine st_val (.string (str [])) ha (by kernel_rfl) (by kernel_rfl) ?_
  clear ha; intro a ha
  refine st_call ha (by kernel_rfl) (by kernel_rfl) (Vm.p_ts _ _ _ s) ?_
  rintro _ w ⟨rfl, s⟩
  refine ⟨_, rfl, ?_⟩; clear ha; intro a ha
  refine st_val (.tuple #[.agg #[.int .i64 0, .int .i64 0], .int .i64 4]) ha (by kernel_rfl) (by kernel_rfl) ?_
  clear ha; intro a ha
  refine st_val (.agg #[.int .i64 0, .int .i64 0]) ha (by kernel_rfl) (by kernel_rfl) ?_
  clear ha; intro a ha
  refine st_val (.int .i64 4) ha (by kernel_rfl) (by kernel_rfl) ?_
  clear ha; intro a ha
  refine st_ex ha (by kernel_rfl) (ex_alloc [.int .i64 0, .int .i64 0] s rfl (Tryz.zeroValue33 _) (by kernel_rfl)) ?_
  clear ha; rintro _ w a ⟨g2, rfl, s⟩ ha
  refine st_exd ha (by kernel_rfl) (ex_store (of_ := 0) 0 [.int .i64 0, .int .i64 0] s rfl rfl (by kernel_rfl) (by kernel_rfl) (Tryz.sizeOf33 _) rfl (by simp [Value.oneCell']) (Nat.le_of_ble_eq_true rfl)) ?_
  clear ha; rintro w a s ha
  replace s : St W (.blk g2 [.int .i64 0, .int .i64 0] 33 :: Tb gt rows :: .blk gs [.int .i64 1, .string (str [97]), .string (str [109]), .pointer (some ⟨gd, 0, none⟩)] 153 :: .blk g1 [.int .i64 0, .int .i64 0] 33 :: L) w := s
  refine st_val (.int .i64 4) ha (by kernel_rfl) (by kernel_rfl) ?_
  clear ha; intro a ha
  refine wpList_nil ?_
  refine then_normal ?_
  refine wp_seq ?_
  refine wp_region_lit ?_
  refine st_val (.agg #[.int .i64 0, .int .i64 0]) ha (by kernel_rfl) (run_loadN (of_ := 0) [.int .i64 0, .int .i64 0] (s.blkIs 0 rfl) rfl (by kernel_rfl) Tryz.isAgg33 Tryz.sizeOf33 rfl (Nat.le_of_ble_eq_true rfl)) ?_
  clear ha; intro a ha
  refine st_exd ha (by kernel_rfl) (ex_store (of_ := 0) 3 [.int .i64 0, .int .i64 0] s rfl rfl (by kernel_rfl) (by kernel_rfl) (Tryz.sizeOf33 _) rfl (by simp [Value.oneCell']) (Nat.le_of_ble_eq_true rfl)) ?_
  clear ha; rintro w a s ha
  replace s : St W (.blk g2 [.int .i64 0, .int .i64 0] 33 :: Tb gt rows :: .blk gs [.int .i64 1, .string (str [97]), .string (str [109]), .pointer (some ⟨gd, 0, none⟩)] 153 :: .blk g1 [.int .i64 0, .int .i64 0] 33 :: L) w := s
  refine wpList_nil ?_
  refine then_normal ?_
  refine wp_ret ?_
  refine ret_with (v := .agg #[.int .i64 0, .int .i64 0]) ha (results_1 rfl ha (res_cellN (s.blkIs 3 rfl) (by kernel_rfl) (by kernel_rfl) Tryz.isAgg33 Tryz.sizeOf33 rfl)) ?_
  replace s := (s.at_ (j := 1) rfl).at_ (j := 2) rfl
  replace s : St W (.blk gs [.int .i64 1, .string (str [97]), .string (str [109]), .pointer (some ⟨gd, 0, none⟩)] 153 :: Tb gt rows :: L) w := s.keep 2 2
  exact ⟨rfl, s⟩

/-- What a shard's sweep changes. -/
def swOps (wv : Int) (vs : List V3) : List O3 := ([103, 1], stx wv, false) :: (sst wv vs vs.length).2.drop ((sst wv vs vs.length).2.length - 127)
theorem swOps_len (wv : Int) (vs : List V3) : (swOps wv vs).length = 1 + ((sst wv vs vs.length).2.length - ((sst wv vs vs.length).2.length - 127)) := by
  unfold swOps; rw [List.length_cons, List.length_drop]; omega

theorem ShSweep_spec (W : World) (L : List Chunk) (w : World) (gs gd gt : Nat) (rows : List Rw) (wv : Int) (hw1 : 1 ≤ wv ∧ wv ≤ 131) (vs : List V3) (hth : tget rows [103, 1] = none) (hseg : seg rows [118] [119] = vs.map vrow) (hv : ∀ x ∈ vs, VOk x) (hlen : vs.length < 1000000) (s : St W (Sh gs gd :: Tb gt rows :: L) w) :
    Calls Tryz.prog 30 #[.pointer (some ⟨gs, 0, none⟩), .pointer (some ⟨gt, 0, none⟩), .agg #[.int .i64 wv, .int .i64 0]] w fun e w' => ∃ (ad : Addr) (c : Nat), e = .returned (.tuple #[.slice (some ad) (swOps wv vs).length c, .int .i64 0]) ∧ St W (Sh gs gd :: Tb gt rows :: Sep.Own 81 3 (some ad) (swOps wv vs).length c (ops3 (swOps wv vs)) :: L) w' := by
  refine enter_args (l := [.pointer (some ⟨gs, 0, none⟩), .pointer (some ⟨gt, 0, none⟩), .agg #[.int .i64 wv, .int .i64 0]]) Tryz.func30 rfl rfl (Nat.le_of_ble_eq_true rfl) ?_
  intro a ha; replace ha : Has a 70 [(0, .pointer (some ⟨gs, 0, none⟩)), (1, .pointer (some ⟨gt, 0, none⟩)), (2, .agg #[.int .i64 wv, .int .i64 0])] := ha
  refine wp_seq ?_
  refine wp_region_lit ?_
  refine st_ex ha (by kernel_rfl) (ex_box [.int .i64 wv, .int .i64 0] s rfl (by kernel_rfl)) ?_
  clear ha; rintro _ w a ⟨g1, rfl, s⟩ ha
  refine st_val (.slice none 0 0) ha (by kernel_rfl) (by kernel_rfl) ?_
  clear ha; intro a ha
  refine st_val (.int .i64 0) ha (by kernel_rfl) (by kernel_rfl) ?_
  clear ha; intro a ha
  refine wpList_nil ?_
  refine then_normal ?_
  refine wp_seq ?_
  refine wp_block ?_
  refine wp_seq ?_
  refine wp_region_lit ?_
  refine st_val (.pointer (some ⟨gs, 0, none⟩)) ha (by kernel_rfl) (by kernel_rfl) ?_
  clear ha; intro a ha
  replace s := s.at_ (j := 1) rfl
  replace s : St W (.blk gs [.int .i64 1, .string (str [97]), .string (str [109]), .pointer (some ⟨gd, 0, none⟩)] 153 :: .blk g1 [.int .i64 wv, .int .i64 0] 33 :: Tb gt rows :: L) w := s
  refine st_call ha (by kernel_rfl) (by kernel_rfl) (snone_spec W _ _ gs gd s) ?_
  rintro _ w ⟨rfl, s⟩
  refine ⟨_, rfl, ?_⟩; clear ha; intro a ha
  refine st_val (.bool false) ha (by kernel_rfl) (by kernel_rfl) ?_
  clear ha; intro a ha
  refine st_val (.pointer (some ⟨gt, 0, none⟩)) ha (by kernel_rfl) (by kernel_rfl) ?_
  clear ha; intro a ha
  refine st_val (.bool false) ha (by kernel_rfl) (by kernel_rfl) ?_
  clear ha; intro a ha
  refine st_val (.bool false) ha (by kernel_rfl) (by kernel_rfl) ?_
  clear ha; intro a ha
  refine st_val (.bool false) ha (by kernel_rfl) (by kernel_rfl) ?_
  clear ha; intro a ha
  refine wpList_nil ?_
  refine then_normal ?_
  refine wp_false ha rfl (by kernel_rfl) ?_
  refine wp_seq ?_
  refine wp_region_lit ?_
  refine st_val (.agg #[.int .i64 wv, .int .i64 0]) ha (by kernel_rfl) (run_loadN (of_ := 0) [.int .i64 wv, .int .i64 0] (s.blkIs 1 rfl) rfl (by kernel_rfl) Tryz.isAgg33 Tryz.sizeOf33 rfl (Nat.le_of_ble_eq_true rfl)) ?_
  clear ha; intro a ha
  refine st_call ha (by kernel_rfl) (by kernel_rfl) ((Vm.p_ck wv (by omega)) _ _ _ s) ?_
  rintro _ w ⟨rfl, s⟩
  refine ⟨_, rfl, ?_⟩; clear ha; intro a ha
  refine st_val (.bool false) ha (by kernel_rfl) (by kernel_rfl) ?_
  clear ha; intro a ha
  refine st_val (.bool false) ha (by kernel_rfl) (by kernel_rfl) ?_
  clear ha; intro a ha
  refine wpList_nil ?_
  refine then_normal ?_
  refine wp_false ha rfl (by kernel_rfl) ?_
  refine wp_seq ?_
  refine wp_region_head 4 (fun w => BlkIs g1 [.int .i64 wv, .int .i64 0] w ∧ True) (by kernel_rfl) (by decide) ?_
  replace s := s.drew; generalize _root_.Go.World.drew _ = w at s ⊢
  have hS : (fun w => BlkIs g1 [.int .i64 wv, .int .i64 0] w ∧ True) w := ⟨s.blkIs 1 rfl, trivial⟩
  refine hd_val (i := 0) (.pointer (some ⟨gs, 0, none⟩)) ha rfl (by kernel_rfl) (fun _ _ _ h => h) (by kernel_rfl) (fun w hS => (by kernel_rfl)) hS ?_
  clear ha; intro a ha
  refine hd_val (i := 1) (.pointer (some ⟨gt, 0, none⟩)) ha rfl (by kernel_rfl) (fun _ _ _ h => h) (by kernel_rfl) (fun w hS => (by kernel_rfl)) hS ?_
  clear ha; intro a ha
  refine hd_val (i := 3) (.agg #[.int .i64 wv, .int .i64 0]) ha rfl (by kernel_rfl) (fun _ _ _ h => h) (by kernel_rfl) (fun w hS => run_loadN (of_ := 0) [.int .i64 wv, .int .i64 0] hS.1 rfl (by kernel_rfl) Tryz.isAgg33 Tryz.sizeOf33 rfl (Nat.le_of_ble_eq_true rfl)) hS ?_
  clear ha; intro a ha
  replace s := (s.at_ (j := 2) rfl).at_ (j := 1) rfl
  replace s : St W (.blk gs [.int .i64 1, .string (str [97]), .string (str [109]), .pointer (some ⟨gd, 0, none⟩)] 153 :: Tb gt rows :: .blk g1 [.int .i64 wv, .int .i64 0] 33 :: L) w := s
  refine hd_call (i := 2) ha rfl (by kernel_rfl) (by kernel_rfl) (by kernel_rfl) (Thr_spec W _ _ gs gd gt rows hth s) ?_
  clear hS; rintro _ w ⟨rfl, s⟩
  have hS : (fun w => BlkIs g1 [.int .i64 wv, .int .i64 0] w ∧ True) w := ⟨s.blkIs 2 rfl, trivial⟩
  refine ⟨_, rfl, hS, ?_⟩; clear ha; intro a ha
  refine Head.done (by kernel_rfl) ?_
  clear hS; simp only [List.drop_succ_cons, List.drop_zero]
  refine st_call ha (by kernel_rfl) (by kernel_rfl) ((Vm.p_less_lt 0 wv (by omega)) _ _ _ s) ?_
  rintro _ w ⟨rfl, s⟩
  refine ⟨_, rfl, ?_⟩; clear ha; intro a ha
  refine st_val (.bool false) ha (by kernel_rfl) (by kernel_rfl) ?_
  clear ha; intro a ha
  refine st_val (.bool false) ha (by kernel_rfl) (by kernel_rfl) ?_
  clear ha; intro a ha
  refine wpList_nil ?_
  refine then_normal ?_
  refine wp_false ha rfl (by kernel_rfl) ?_
  refine wp_skip ?_
  refine block_normal ?_
  refine then_normal ?_
  refine wp_seq ?_
  refine wp_region_lit ?_
  refine st_val (.pointer (some ⟨gs, 0, none⟩)) ha (by kernel_rfl) (by kernel_rfl) ?_
  clear ha; intro a ha
  refine st_val (.pointer (some ⟨gs, 0, none⟩)) ha (by kernel_rfl) (by kernel_rfl) ?_
  clear ha; intro a ha
  refine st_val (.pointer (some ⟨gs, 0, none⟩)) ha (by kernel_rfl) (by kernel_rfl) ?_
  clear ha; intro a ha
  refine st_val (.int .i64 1) ha (by kernel_rfl) (run_load1 (of_ := 0) (s.blkIs 0 rfl) rfl (by kernel_rfl) Tryz.isAgg3 rfl) ?_
  clear ha; intro a ha
  refine st_call ha (by kernel_rfl) (by kernel_rfl) (Vm.p_th _ _ _ s) ?_
  rintro _ w ⟨rfl, s⟩
  refine ⟨_, rfl, ?_⟩; clear ha; intro a ha
  refine st_val (.tuple #[.string (str [103, 1]), .int .i64 0]) ha (by kernel_rfl) (by kernel_rfl) ?_
  clear ha; intro a ha
  refine st_val (.string (str [103, 1])) ha (by kernel_rfl) (by kernel_rfl) ?_
  clear ha; intro a ha
  refine st_val (.int .i64 0) ha (by kernel_rfl) (by kernel_rfl) ?_
  clear ha; intro a ha
  refine st_val (.string (str [103, 1])) ha (by kernel_rfl) (by kernel_rfl) ?_
  clear ha; intro a ha
  refine st_val (.int .i64 0) ha (by kernel_rfl) (by kernel_rfl) ?_
  clear ha; intro a ha
  refine wpList_nil ?_
  refine then_normal ?_
  refine wp_seq ?_
  refine wp_region_lit ?_
  refine st_val (.agg #[.int .i64 wv, .int .i64 0]) ha (by kernel_rfl) (run_loadN (of_ := 0) [.int .i64 wv, .int .i64 0] (s.blkIs 2 rfl) rfl (by kernel_rfl) Tryz.isAgg33 Tryz.sizeOf33 rfl (Nat.le_of_ble_eq_true rfl)) ?_
  clear ha; intro a ha
  refine st_call ha (by kernel_rfl) (by kernel_rfl) ((Vm.p_st wv hw1) _ _ _ s) ?_
  rintro _ w ⟨rfl, s⟩
  refine ⟨_, rfl, ?_⟩; clear ha; intro a ha
  refine st_val (.tuple #[.string (str (stx wv)), .int .i64 0]) ha (by kernel_rfl) (by kernel_rfl) ?_
  clear ha; intro a ha
  refine st_val (.string (str (stx wv))) ha (by kernel_rfl) (by kernel_rfl) ?_
  clear ha; intro a ha
  refine st_val (.int .i64 0) ha (by kernel_rfl) (by kernel_rfl) ?_
  clear ha; intro a ha
  refine st_val (.string (str (stx wv))) ha (by kernel_rfl) (by kernel_rfl) ?_
  clear ha; intro a ha
  refine st_val (.int .i64 0) ha (by kernel_rfl) (by kernel_rfl) ?_
  clear ha; intro a ha
  refine wpList_nil ?_
  refine then_normal ?_
  refine wp_seq ?_
  refine wp_region_head 11 (fun w => BlkIs gs [.int .i64 1, .string (str [97]), .string (str [109]), .pointer (some ⟨gd, 0, none⟩)] w ∧ BlkIs g1 [.int .i64 wv, .int .i64 0] w ∧ True) (by kernel_rfl) (by decide) ?_
  replace s := s.drew; generalize _root_.Go.World.drew _ = w at s ⊢
  have hS : (fun w => BlkIs gs [.int .i64 1, .string (str [97]), .string (str [109]), .pointer (some ⟨gd, 0, none⟩)] w ∧ BlkIs g1 [.int .i64 wv, .int .i64 0] w ∧ True) w := ⟨s.blkIs 0 rfl, s.blkIs 2 rfl, trivial⟩
  refine hd_val (i := 0) (.pointer (some ⟨gt, 0, none⟩)) ha rfl (by kernel_rfl) (fun _ _ _ h => h) (by kernel_rfl) (fun w hS => (by kernel_rfl)) hS ?_
  clear ha; intro a ha
  refine hd_val (i := 1) (.pointer (some ⟨gs, 0, none⟩)) ha rfl (by kernel_rfl) (fun _ _ _ h => h) (by kernel_rfl) (fun w hS => (by kernel_rfl)) hS ?_
  clear ha; intro a ha
  refine hd_val (i := 2) (.pointer (some ⟨gs, 0, none⟩)) ha rfl (by kernel_rfl) (fun _ _ _ h => h) (by kernel_rfl) (fun w hS => (by kernel_rfl)) hS ?_
  clear ha; intro a ha
  refine hd_val (i := 3) (.pointer (some ⟨gs, 1, none⟩)) ha rfl (by kernel_rfl) (fun _ _ _ h => h) (by kernel_rfl) (fun w hS => (by kernel_rfl)) hS ?_
  clear ha; intro a ha
  refine hd_val (i := 4) (.agg #[.string (str [97]), .string (str [109])]) ha rfl (by kernel_rfl) (fun _ _ _ h => h) (by kernel_rfl) (fun w hS => run_loadN (of_ := 1) [.string (str [97]), .string (str [109])] hS.1 rfl (by kernel_rfl) Tryz.isAgg37 Tryz.sizeOf37 rfl (Nat.le_of_ble_eq_true rfl)) hS ?_
  clear ha; intro a ha
  refine hd_val (i := 5) (.agg #[.int .i64 wv, .int .i64 0]) ha rfl (by kernel_rfl) (fun _ _ _ h => h) (by kernel_rfl) (fun w hS => run_loadN (of_ := 0) [.int .i64 wv, .int .i64 0] hS.2.1 rfl (by kernel_rfl) Tryz.isAgg33 Tryz.sizeOf33 rfl (Nat.le_of_ble_eq_true rfl)) hS ?_
  clear ha; intro a ha
  replace s := s.at_ (j := 1) rfl
  replace s : St W (Tb gt rows :: .blk gs [.int .i64 1, .string (str [97]), .string (str [109]), .pointer (some ⟨gd, 0, none⟩)] 153 :: .blk g1 [.int .i64 wv, .int .i64 0] 33 :: L) w := s
  refine hd_call (i := 6) ha rfl (by kernel_rfl) (by kernel_rfl) (by kernel_rfl) (sweep_spec W _ _ gt rows wv hw1 vs hseg hv hlen s) ?_
  clear hS; rintro _ w ⟨A, n, c, rfl, hn, s⟩
  have hsl := sst_len wv vs vs.length; have hnc := (Own.facts (s.at_ (j := 1) rfl).1).2.1
  have hS : (fun w => BlkIs gs [.int .i64 1, .string (str [97]), .string (str [109]), .pointer (some ⟨gd, 0, none⟩)] w ∧ BlkIs g1 [.int .i64 wv, .int .i64 0] w ∧ True) w := ⟨s.blkIs 2 rfl, s.blkIs 3 rfl, trivial⟩
  refine ⟨_, rfl, hS, ?_⟩; clear ha; intro a ha
  refine hd_val (i := 7) (.tuple #[.slice A n c, .int .i64 0]) ha rfl (by kernel_rfl) (fun _ _ _ h => h) (by kernel_rfl) (fun w hS => (by kernel_rfl)) hS ?_
  clear ha; intro a ha
  refine hd_val (i := 8) (.slice A n c) ha rfl (by kernel_rfl) (fun _ _ _ h => h) (by kernel_rfl) (fun w hS => (by kernel_rfl)) hS ?_
  clear ha; intro a ha
  refine hd_val (i := 9) (.int .i64 0) ha rfl (by kernel_rfl) (fun _ _ _ h => h) (by kernel_rfl) (fun w hS => (by kernel_rfl)) hS ?_
  clear ha; intro a ha
  refine hd_val (i := 10) (.slice A n c) ha rfl (by kernel_rfl) (fun _ _ _ h => h) (by kernel_rfl) (fun w hS => (by kernel_rfl)) hS ?_
  clear ha; intro a ha
  refine Head.done (by kernel_rfl) ?_
  clear hS; simp only [List.drop_succ_cons, List.drop_zero]
  refine st_val (.int .i64 0) ha (by kernel_rfl) (by kernel_rfl) ?_
  clear ha; intro a ha
  refine wpList_nil ?_
  refine then_normal ?_
  refine wp_seq ?_
  refine wp_seq ?_
  refine wp_region_lit ?_
  refine st_val (.int .i64 0) ha (by kernel_rfl) (by kernel_rfl) ?_
  clear ha; intro a ha
  refine st_val (.bool false) ha (by kernel_rfl) (by kernel_rfl) ?_
  clear ha; intro a ha
  refine wpList_nil ?_
  refine then_normal ?_
  refine wp_false ha rfl (by kernel_rfl) ?_
  refine wp_skip ?_
  refine then_normal ?_
  refine wp_seq ?_
  refine wp_region_lit ?_
  refine st_val (.string (str [103, 1])) ha (by kernel_rfl) (by kernel_rfl) ?_
  clear ha; intro a ha
  refine st_val (.string (str (stx wv))) ha (by kernel_rfl) (by kernel_rfl) ?_
  clear ha; intro a ha
  refine st_val (.agg #[.string (str [103, 1]), .string (str (stx wv)), .bool false]) ha (by kernel_rfl) (by kernel_rfl) ?_
  clear ha; intro a ha
  refine st_ex ha (by kernel_rfl) (ex_buildSlice elt44 _ zs44 [.string (str [103, 1]), .string (str (stx wv)), .bool false] s rfl (by kernel_rfl) (by decide)) ?_
  clear ha; rintro _ w a ⟨g2, rfl, s⟩ ha
  refine st_val (.slice A n c) ha (by kernel_rfl) (by kernel_rfl) ?_
  clear ha; intro a ha
  refine st_val (.slice A n c) ha (by kernel_rfl) (by kernel_rfl) ?_
  clear ha; intro a ha
  refine st_val (.int .i64 ((n : Nat) : Int)) ha (by kernel_rfl) (by kernel_rfl) ?_
  clear ha; intro a ha
  refine st_val (.int .i64 (((n : Nat) : Int) - (128 : Int))) ha (by kernel_rfl) (run_arith (((n : Nat) : Int) - (128 : Int)) (((n : Nat) : Int) - (128 : Int)) rfl (by kernel_rfl) (by kernel_rfl) (.inr (.inl ⟨rfl, rfl⟩)) (by rw [wrap64_in (by omega)]) _) ?_
  clear ha; intro a ha
  refine st_val (.int .i64 ((((n : Nat) : Int) - (128 : Int)) + (1 : Int))) ha (by kernel_rfl) (run_arith ((((n : Nat) : Int) - (128 : Int)) + (1 : Int)) ((((n : Nat) : Int) - (128 : Int)) + (1 : Int)) rfl (by kernel_rfl) (by kernel_rfl) (.inl ⟨rfl, rfl⟩) (by rw [wrap64_in (by omega)]) _) ?_
  clear ha; intro a ha
  refine st_val (.int .i64 ((n - 127 : Nat) : Int)) ha (by kernel_rfl) (run_max2 (p := (0 : Int)) (q := ((((n : Nat) : Int) - (128 : Int)) + (1 : Int))) ((n - 127 : Nat) : Int) rfl (by kernel_rfl) (by kernel_rfl) (by split <;> omega) _) ?_
  clear ha; intro a ha
  refine st_val (.slice (slA A (n - 127) c 3) (n - (n - 127)) (c - (n - 127))) ha (by kernel_rfl) (run_slice (n := n) (c := c) (n - 127) n c rfl Tryz.underlying44 Tryz.sizeOf81 (by kernel_rfl) (fun h => by cases h) bnd_none bnd_none (bnd_some .i64 (by kernel_rfl)) (by omega) (by omega) (by omega) _) ?_
  clear ha; intro a ha
  have hr_ : Reads w 3 (slA A (n - 127) c 3) (n - (n - 127)) ((ops3 (sst wv vs vs.length).2).extract ((n - 127) * 3) (n * 3)) := Reads.sub (Own.reads (s.at_ (j := 2) rfl).1) (by omega) (Nat.le_refl _) hnc
  replace s := own_of_blk (k := 3) (n := 1) s rfl (by simp only [maxLen]; omega)
  refine st_ex ha (by kernel_rfl) (ex_append (m := (n - (n - 127))) (d' := (c - (n - 127))) elt44 (by decide) 0 ((ops3 (sst wv vs vs.length).2).extract ((n - 127) * 3) (n * 3)) s rfl (by kernel_rfl) (by kernel_rfl) rfl hr_ (ext_one (ops3_one _) _ _) (by simp only [maxLen]; omega) (by omega)) ?_
  clear ha; rintro _ w a ⟨A3, c4, rfl, hA_, s⟩ ha
  replace s : St W (Sep.Own 81 3 A3 (1 + (n - (n - 127))) c4 ([.string (str [103, 1]), .string (str (stx wv)), .bool false] ++ ((ops3 (sst wv vs vs.length).2).extract ((n - 127) * 3) (n * 3))) :: Tb gt rows :: Sep.Own 81 3 A n c (ops3 (sst wv vs vs.length).2) :: .blk gs [.int .i64 1, .string (str [97]), .string (str [109]), .pointer (some ⟨gd, 0, none⟩)] 153 :: .blk g1 [.int .i64 wv, .int .i64 0] 33 :: L) w := s
  refine st_val (.slice A3 (1 + (n - (n - 127))) c4) ha (by kernel_rfl) (by kernel_rfl) ?_
  clear ha; intro a ha
  refine st_val (.int .i64 0) ha (by kernel_rfl) (by kernel_rfl) ?_
  clear ha; intro a ha
  refine wpList_nil ?_
  refine then_normal ?_
  refine wp_ret ?_
  refine ret_with (v := .tuple #[.slice A3 (1 + (n - (n - 127))) c4, .int .i64 0]) ha (results_2 rfl ha (res_tmp (by kernel_rfl) (by kernel_rfl)) (res_tmp (by kernel_rfl) (by kernel_rfl))) ?_
  replace s := (s.at_ (j := 1) rfl).at_ (j := 3) rfl
  replace s : St W (.blk gs [.int .i64 1, .string (str [97]), .string (str [109]), .pointer (some ⟨gd, 0, none⟩)] 153 :: Tb gt rows :: Sep.Own 81 3 A3 (1 + (n - (n - 127))) c4 ([.string (str [103, 1]), .string (str (stx wv)), .bool false] ++ ((ops3 (sst wv vs vs.length).2).extract ((n - 127) * 3) (n * 3))) :: L) w := s.keep 3 2
  have e1 : [Value.string (str [103, 1]), .string (str (stx wv)), .bool false] ++ (ops3 (sst wv vs vs.length).2).extract ((n - 127) * 3) (n * 3) = ops3 (swOps wv vs) := by
    rw [hn, ops3_ext _ _ (by omega)]; rfl
  have e2 : 1 + (n - (n - 127)) = (swOps wv vs).length := by rw [swOps_len, hn]
  obtain ⟨ad, hA⟩ := Own.addr (s.at_ (j := 2) rfl) (by omega)
  rw [e1, e2, hA] at s
  exact ⟨ad, _, by rw [e2, hA], s⟩

end Go.Proofs.YtagbmfdheppmoaaGreatDoor.B
