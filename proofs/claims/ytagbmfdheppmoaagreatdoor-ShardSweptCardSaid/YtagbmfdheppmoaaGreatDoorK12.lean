import Derived.Test.YtagbmfdheppmoaaGreatDoorK11
import Derived.KernelRfl
namespace Go.Proofs.YtagbmfdheppmoaaGreatDoor.B
open Go.RowKit Go.Proofs.YtagbmfdheppmoaaGreatDoor.Sep
set_option linter.unusedVariables false
set_option linter.unusedSimpArgs false

theorem elt166 : Elt Tryz.prog 166 33 2 16 := ⟨by kernel_rfl, by kernel_rfl⟩
theorem zs166 : (Tryz.prog.info? 33).bind (fun i => i.zero.map (·.cells)) = some #[.int .i64 0, .int .i64 0] := by kernel_rfl
open Vm (vkey vkey0 vtx stx stv txnv)
theorem cvk_spec {c : UInt8} (hc : c = 97 ∨ c = 98) (i : Int) (h : 1 ≤ i ∧ i ≤ 131) : Vm.Pure 144 [.string (str [c]), .agg #[.int .i64 i, .int .i64 0]] (.tuple #[.string (str (vkey c i)), .int .i64 0]) := by
  rcases hc with rfl | rfl
  · exact Vm.p_cvk_a i h
  · exact Vm.p_cvk_b i h
theorem cvk0_spec {c : UInt8} (hc : c = 97 ∨ c = 98) : Vm.Pure 144 [.string (str [c]), .agg #[.int .i64 0, .int .i64 0]] (.tuple #[.string (str (vkey0 c)), .int .i64 0]) := by
  rcases hc with rfl | rfl
  · exact Vm.p_cvk0_a
  · exact Vm.p_cvk0_b
theorem ik_spec {c : UInt8} (hc : c = 97 ∨ c = 98) : Vm.Pure 142 [.string (str [c])] (.tuple #[.string (str [105, c, 0, 0]), .int .i64 0]) := by
  rcases hc with rfl | rfl
  · exact Vm.p_ik_a
  · exact Vm.p_ik_b
theorem ok_spec {c : UInt8} (hc : c = 97 ∨ c = 98) : Vm.Pure 40 [.string (str [c])] (.int .i64 0) := by
  rcases hc with rfl | rfl
  · exact Vm.p_ok_a
  · exact Vm.p_ok_b
/-- What is read under a key: the version that counts. -/
abbrev fnd15 (c : UInt8) (b : Bool) (i : Int) : Value := .agg #[.string (str [c]), .string (str []), .bool b, .bool false, .int .i64 i, .int .i64 0, .int .i64 0, .int .i64 0, .int .i64 0, .string (str []), .int .i64 0, .int .i64 0, .int .i64 0, .int .i64 0, .slice none 0 0]
def verR (c : UInt8) : List V3 → Value
  | [] => .tuple #[fnd15 c false 0, .bool false]
  | x :: _ => .tuple #[fnd15 c x.2.2 x.2.1, .bool true]
def keyR (c : UInt8) (i : Int) : List V3 → Value
  | [] => .tuple #[fnd15 c false 0, .int .i64 0]
  | x :: _ => bif decide (x.2.1 < i) then .tuple #[fnd15 c x.2.2 x.2.1, .int .i64 0] else .tuple #[fnd15 c false x.2.1, .int .i64 121]

theorem bad_clo (W : World) (L : List Chunk) (w : World) (p : Int) (hp : 0 ≤ p ∧ p ≤ 131) (s : St W L w) :
    Calls Tryz.prog 87 #[.agg #[.int .i64 p, .int .i64 0]] w fun e w' => e = .returned (.bool false) ∧ St W L w' := by
  refine enter_args (l := [.agg #[.int .i64 p, .int .i64 0]]) Tryz.func87 rfl rfl (Nat.le_of_ble_eq_true rfl) ?_
  intro a ha; replace ha : Has a 6 [(0, .agg #[.int .i64 p, .int .i64 0])] := ha
  refine wp_seq ?_
  refine wp_region_lit ?_
  refine st_ex ha (by kernel_rfl) (ex_box [.int .i64 p, .int .i64 0] s rfl (by kernel_rfl)) ?_
  clear ha; rintro _ w a ⟨g1, rfl, s⟩ ha
  refine st_val (.bool false) ha (by kernel_rfl) (by kernel_rfl) ?_
  clear ha; intro a ha
  refine wpList_nil ?_
  refine then_normal ?_
  refine wp_seq ?_
  refine wp_region_lit ?_
  refine st_val (.agg #[.int .i64 p, .int .i64 0]) ha (by kernel_rfl) (run_loadN (of_ := 0) [.int .i64 p, .int .i64 0] (s.blkIs 0 rfl) rfl (by kernel_rfl) Tryz.isAgg33 Tryz.sizeOf33 rfl (Nat.le_of_ble_eq_true rfl)) ?_
  clear ha; intro a ha
  refine st_call ha (by kernel_rfl) (by kernel_rfl) ((Vm.p_ck p hp) _ _ _ s) ?_
  rintro _ w ⟨rfl, s⟩
  refine ⟨_, rfl, ?_⟩; clear ha; intro a ha
  refine st_val (.bool false) ha (by kernel_rfl) (by kernel_rfl) ?_
  clear ha; intro a ha
  refine st_val (.bool false) ha (by kernel_rfl) (by kernel_rfl) ?_
  clear ha; intro a ha
  refine wpList_nil ?_
  refine then_normal ?_
  refine wp_ret ?_
  refine ret_with (v := .bool false) ha (results_1 rfl ha (res_tmp (by kernel_rfl) (by kernel_rfl))) ?_
  replace s := s.tail
  replace s : St W (L) w := s
  exact ⟨rfl, s⟩

theorem index3 (W : World) (L : List Chunk) (w : World) (g : Nat) (p q r : Int) (hp : 0 ≤ p ∧ p ≤ 131) (hq : 0 ≤ q ∧ q ≤ 131) (hr : 0 ≤ r ∧ r ≤ 131) (s : St W (.blk g [.int .i64 p, .int .i64 0, .int .i64 q, .int .i64 0, .int .i64 r, .int .i64 0] 33 :: L) w) :
    Calls Tryz.prog 141 #[.slice (some ⟨g, 0, none⟩) 3 3, .func (.func 87) #[] #[]] w fun e w' => e = .returned (.int .i64 (-1)) ∧ St W (.blk g [.int .i64 p, .int .i64 0, .int .i64 q, .int .i64 0, .int .i64 r, .int .i64 0] 33 :: L) w' := by
  refine enter_args (l := [.slice (some ⟨g, 0, none⟩) 3 3, .func (.func 87) #[] #[]]) Tryz.func141 rfl rfl (Nat.le_of_ble_eq_true rfl) ?_
  intro a ha; replace ha : Has a 19 [(0, .slice (some ⟨g, 0, none⟩) 3 3), (1, .func (.func 87) #[] #[])] := ha
  refine wp_seq ?_
  refine wp_region_lit ?_
  refine st_val (.int .i64 0) ha (by kernel_rfl) (by kernel_rfl) ?_
  clear ha; intro a ha
  refine wpList_nil ?_
  refine then_normal ?_
  refine wp_seq ?_
  refine wp_seq ?_
  refine wp_region_lit ?_
  refine st_val (.slice (some ⟨g, 0, none⟩) 3 3) ha (by kernel_rfl) (by kernel_rfl) ?_
  clear ha; intro a ha
  refine st_val (.int .i64 3) ha (by kernel_rfl) (by kernel_rfl) ?_
  clear ha; intro a ha
  refine st_val (.int .i64 0) ha (by kernel_rfl) (by kernel_rfl) ?_
  clear ha; intro a ha
  refine wpList_nil ?_
  refine then_normal ?_
  refine wp_block ?_
  refine wp_loop_rounds 4 ?_
  show Code.rounds _ _ _ 4 _ _
  rw [rounds_succ]
  refine wp_seq ?_
  refine wp_region_lit ?_
  refine st_val (.bool true) ha (by kernel_rfl) (by kernel_rfl) ?_
  clear ha; intro a ha
  refine wpList_nil ?_
  refine then_normal ?_
  refine wp_seq ?_
  refine wp_true ha rfl (by kernel_rfl) ?_
  refine wp_skip ?_
  refine then_normal ?_
  refine wp_seq ?_
  refine wp_block ?_
  refine wp_seq ?_
  refine wp_region_lit ?_
  refine st_val (.int .i64 0) ha (by kernel_rfl) (by kernel_rfl) ?_
  clear ha; intro a ha
  refine st_val (.int .i64 0) ha (by kernel_rfl) (by kernel_rfl) ?_
  clear ha; intro a ha
  refine wpList_nil ?_
  refine then_normal ?_
  refine wp_seq ?_
  refine wp_region_lit ?_
  refine st_val (.func (.func 87) #[] #[]) ha (by kernel_rfl) (by kernel_rfl) ?_
  clear ha; intro a ha
  refine st_val (.slice (some ⟨g, 0, none⟩) 3 3) ha (by kernel_rfl) (by kernel_rfl) ?_
  clear ha; intro a ha
  refine st_val (.int .i64 0) ha (by kernel_rfl) (by kernel_rfl) ?_
  clear ha; intro a ha
  refine st_val (.pointer (some ⟨g, 0, none⟩)) ha (by kernel_rfl) (run_indexAddr (kd := .i64) (i := 0) (n := 3) (c := 3) 0 rfl Tryz.underlying166 Tryz.sizeOf33 (by kernel_rfl) (by kernel_rfl) rfl (by first | assumption | omega) _) ?_
  clear ha; intro a ha
  refine st_val (.agg #[.int .i64 p, .int .i64 0]) ha (by kernel_rfl) (run_loadN (of_ := 0) [.int .i64 p, .int .i64 0] (s.blkIs 0 rfl) rfl (by kernel_rfl) Tryz.isAgg33 Tryz.sizeOf33 rfl (Nat.le_of_ble_eq_true rfl)) ?_
  clear ha; intro a ha
  refine st_call ha (by kernel_rfl) (by kernel_rfl) (bad_clo W _ _ p hp s) ?_
  rintro _ w ⟨rfl, s⟩
  refine ⟨_, rfl, ?_⟩; clear ha; intro a ha
  refine wpList_nil ?_
  refine then_normal ?_
  refine wp_false ha rfl (by kernel_rfl) ?_
  refine wp_skip ?_
  refine block_normal ?_
  refine then_normal ?_
  refine wp_region_lit ?_
  refine st_val (.int .i64 1) ha (by kernel_rfl) (by kernel_rfl) ?_
  clear ha; intro a ha
  refine st_val (.int .i64 1) ha (by kernel_rfl) (by kernel_rfl) ?_
  clear ha; intro a ha
  refine wpList_nil ?_
  refine then_normal ?_
  show Code.rounds _ _ _ 3 _ _
  rw [rounds_succ]
  refine wp_seq ?_
  refine wp_region_lit ?_
  refine st_val (.bool true) ha (by kernel_rfl) (by kernel_rfl) ?_
  clear ha; intro a ha
  refine wpList_nil ?_
  refine then_normal ?_
  refine wp_seq ?_
  refine wp_true ha rfl (by kernel_rfl) ?_
  refine wp_skip ?_
  refine then_normal ?_
  refine wp_seq ?_
  refine wp_block ?_
  refine wp_seq ?_
  refine wp_region_lit ?_
  refine st_val (.int .i64 1) ha (by kernel_rfl) (by kernel_rfl) ?_
  clear ha; intro a ha
  refine st_val (.int .i64 1) ha (by kernel_rfl) (by kernel_rfl) ?_
  clear ha; intro a ha
  refine wpList_nil ?_
  refine then_normal ?_
  refine wp_seq ?_
  refine wp_region_lit ?_
  refine st_val (.func (.func 87) #[] #[]) ha (by kernel_rfl) (by kernel_rfl) ?_
  clear ha; intro a ha
  refine st_val (.slice (some ⟨g, 0, none⟩) 3 3) ha (by kernel_rfl) (by kernel_rfl) ?_
  clear ha; intro a ha
  refine st_val (.int .i64 1) ha (by kernel_rfl) (by kernel_rfl) ?_
  clear ha; intro a ha
  refine st_val (.pointer (some ⟨g, 2, none⟩)) ha (by kernel_rfl) (run_indexAddr (kd := .i64) (i := 1) (n := 3) (c := 3) 1 rfl Tryz.underlying166 Tryz.sizeOf33 (by kernel_rfl) (by kernel_rfl) rfl (by first | assumption | omega) _) ?_
  clear ha; intro a ha
  refine st_val (.agg #[.int .i64 q, .int .i64 0]) ha (by kernel_rfl) (run_loadN (of_ := 2) [.int .i64 q, .int .i64 0] (s.blkIs 0 rfl) rfl (by kernel_rfl) Tryz.isAgg33 Tryz.sizeOf33 rfl (Nat.le_of_ble_eq_true rfl)) ?_
  clear ha; intro a ha
  refine st_call ha (by kernel_rfl) (by kernel_rfl) (bad_clo W _ _ q hq s) ?_
  rintro _ w ⟨rfl, s⟩
  refine ⟨_, rfl, ?_⟩; clear ha; intro a ha
  refine wpList_nil ?_
  refine then_normal ?_
  refine wp_false ha rfl (by kernel_rfl) ?_
  refine wp_skip ?_
  refine block_normal ?_
  refine then_normal ?_
  refine wp_region_lit ?_
  refine st_val (.int .i64 2) ha (by kernel_rfl) (by kernel_rfl) ?_
  clear ha; intro a ha
  refine st_val (.int .i64 2) ha (by kernel_rfl) (by kernel_rfl) ?_
  clear ha; intro a ha
  refine wpList_nil ?_
  refine then_normal ?_
  show Code.rounds _ _ _ 2 _ _
  rw [rounds_succ]
  refine wp_seq ?_
  refine wp_region_lit ?_
  refine st_val (.bool true) ha (by kernel_rfl) (by kernel_rfl) ?_
  clear ha; intro a ha
  refine wpList_nil ?_
  refine then_normal ?_
  refine wp_seq ?_
  refine wp_true ha rfl (by kernel_rfl) ?_
  refine wp_skip ?_
  refine then_normal ?_
  refine wp_seq ?_
  refine wp_block ?_
  refine wp_seq ?_
  refine wp_region_lit ?_
  refine st_val (.int .i64 2) ha (by kernel_rfl) (by kernel_rfl) ?_
  clear ha; intro a ha
  refine st_val (.int .i64 2) ha (by kernel_rfl) (by kernel_rfl) ?_
  clear ha; intro a ha
  refine wpList_nil ?_
  refine then_normal ?_
  refine wp_seq ?_
  refine wp_region_lit ?_
  refine st_val (.func (.func 87) #[] #[]) ha (by kernel_rfl) (by kernel_rfl) ?_
  clear ha; intro a ha
  refine st_val (.slice (some ⟨g, 0, none⟩) 3 3) ha (by kernel_rfl) (by kernel_rfl) ?_
  clear ha; intro a ha
  refine st_val (.int .i64 2) ha (by kernel_rfl) (by kernel_rfl) ?_
  clear ha; intro a ha
  refine st_val (.pointer (some ⟨g, 4, none⟩)) ha (by kernel_rfl) (run_indexAddr (kd := .i64) (i := 2) (n := 3) (c := 3) 2 rfl Tryz.underlying166 Tryz.sizeOf33 (by kernel_rfl) (by kernel_rfl) rfl (by first | assumption | omega) _) ?_
  clear ha; intro a ha
  refine st_val (.agg #[.int .i64 r, .int .i64 0]) ha (by kernel_rfl) (run_loadN (of_ := 4) [.int .i64 r, .int .i64 0] (s.blkIs 0 rfl) rfl (by kernel_rfl) Tryz.isAgg33 Tryz.sizeOf33 rfl (Nat.le_of_ble_eq_true rfl)) ?_
  clear ha; intro a ha
  refine st_call ha (by kernel_rfl) (by kernel_rfl) (bad_clo W _ _ r hr s) ?_
  rintro _ w ⟨rfl, s⟩
  refine ⟨_, rfl, ?_⟩; clear ha; intro a ha
  refine wpList_nil ?_
  refine then_normal ?_
  refine wp_false ha rfl (by kernel_rfl) ?_
  refine wp_skip ?_
  refine block_normal ?_
  refine then_normal ?_
  refine wp_region_lit ?_
  refine st_val (.int .i64 3) ha (by kernel_rfl) (by kernel_rfl) ?_
  clear ha; intro a ha
  refine st_val (.int .i64 3) ha (by kernel_rfl) (by kernel_rfl) ?_
  clear ha; intro a ha
  refine wpList_nil ?_
  refine then_normal ?_
  show Code.rounds _ _ _ 1 _ _
  rw [rounds_succ]
  refine wp_seq ?_
  refine wp_region_lit ?_
  refine st_val (.bool false) ha (by kernel_rfl) (by kernel_rfl) ?_
  clear ha; intro a ha
  refine wpList_nil ?_
  refine then_normal ?_
  refine wp_seq ?_
  refine wp_false ha rfl (by kernel_rfl) ?_
  refine wp_exit ?_
  refine then_exit ?_
  refine then_exit ?_
  refine block_hit ?_
  refine then_normal ?_
  refine wp_seq ?_
  refine wp_region_lit ?_
  refine st_val (.int .i64 (-1)) ha (by kernel_rfl) (by kernel_rfl) ?_
  clear ha; intro a ha
  refine wpList_nil ?_
  refine then_normal ?_
  refine wp_ret ?_
  refine ret_with (v := .int .i64 (-1)) ha (results_1 rfl ha (res_tmp (by kernel_rfl) (by kernel_rfl))) ?_
  exact ⟨rfl, s⟩

theorem contains3 (W : World) (L : List Chunk) (w : World) (g : Nat) (p q r : Int) (hp : 0 ≤ p ∧ p ≤ 131) (hq : 0 ≤ q ∧ q ≤ 131) (hr : 0 ≤ r ∧ r ≤ 131) (s : St W (.blk g [.int .i64 p, .int .i64 0, .int .i64 q, .int .i64 0, .int .i64 r, .int .i64 0] 33 :: L) w) :
    Calls Tryz.prog 86 #[.slice (some ⟨g, 0, none⟩) 3 3, .func (.func 87) #[] #[]] w fun e w' => e = .returned (.bool false) ∧ St W (.blk g [.int .i64 p, .int .i64 0, .int .i64 q, .int .i64 0, .int .i64 r, .int .i64 0] 33 :: L) w' := by
  refine enter_args (l := [.slice (some ⟨g, 0, none⟩) 3 3, .func (.func 87) #[] #[]]) Tryz.func86 rfl rfl (Nat.le_of_ble_eq_true rfl) ?_
  intro a ha; replace ha : Has a 9 [(0, .slice (some ⟨g, 0, none⟩) 3 3), (1, .func (.func 87) #[] #[])] := ha
  refine wp_seq ?_
  refine wp_region_lit ?_
  refine st_val (.bool false) ha (by kernel_rfl) (by kernel_rfl) ?_
  clear ha; intro a ha
  refine wpList_nil ?_
  refine then_normal ?_
  refine wp_seq ?_
  refine wp_region_lit ?_
  refine st_val (.slice (some ⟨g, 0, none⟩) 3 3) ha (by kernel_rfl) (by kernel_rfl) ?_
  clear ha; intro a ha
  refine st_val (.func (.func 87) #[] #[]) ha (by kernel_rfl) (by kernel_rfl) ?_
  clear ha; intro a ha
  refine st_call ha (by kernel_rfl) (by kernel_rfl) (index3 W _ _ g p q r hp hq hr s) ?_
  rintro _ w ⟨rfl, s⟩
  refine ⟨_, rfl, ?_⟩; clear ha; intro a ha
  refine st_val (.bool false) ha (by kernel_rfl) (by kernel_rfl) ?_
  clear ha; intro a ha
  refine st_val (.bool false) ha (by kernel_rfl) (by kernel_rfl) ?_
  clear ha; intro a ha
  refine wpList_nil ?_
  refine then_normal ?_
  refine wp_ret ?_
  refine ret_with (v := .bool false) ha (results_1 rfl ha (res_tmp (by kernel_rfl) (by kernel_rfl))) ?_
  exact ⟨rfl, s⟩

theorem begins_spec (W : World) (L : List Chunk) (w : World) (gt : Nat) (i wv : Int) (hi : wv < i ∧ i ≤ 131) (hw : 1 ≤ wv) (s : St W L w) :
    Calls Tryz.prog 39 #[.pointer (some ⟨gt, 0, none⟩), .bool true, .agg #[.int .i64 7, .int .i64 0, .int .i64 1, .string (str [98]), .int .i64 i, .int .i64 0, .int .i64 i, .int .i64 0, .int .i64 i, .int .i64 0, .int .i64 i, .int .i64 0], .agg #[.int .i64 wv, .int .i64 0]] w fun e w' => ∃ gr : Nat, e = .returned (.tuple #[.pointer (some ⟨gr, 0, none⟩), .int .i64 0]) ∧ St W (.blk gr [.pointer (some ⟨gt, 0, none⟩), .int .i64 7, .int .i64 0, .int .i64 1, .string (str [98]), .int .i64 i, .int .i64 0, .int .i64 i, .int .i64 0, .int .i64 i, .int .i64 0, .int .i64 i, .int .i64 0, .int .i64 i, .int .i64 0] 170 :: L) w' := by
  refine enter_args (l := [.pointer (some ⟨gt, 0, none⟩), .bool true, .agg #[.int .i64 7, .int .i64 0, .int .i64 1, .string (str [98]), .int .i64 i, .int .i64 0, .int .i64 i, .int .i64 0, .int .i64 i, .int .i64 0, .int .i64 i, .int .i64 0], .agg #[.int .i64 wv, .int .i64 0]]) Tryz.func39 rfl rfl (Nat.le_of_ble_eq_true rfl) ?_
  intro a ha; replace ha : Has a 62 [(0, .pointer (some ⟨gt, 0, none⟩)), (1, .bool true), (2, .agg #[.int .i64 7, .int .i64 0, .int .i64 1, .string (str [98]), .int .i64 i, .int .i64 0, .int .i64 i, .int .i64 0, .int .i64 i, .int .i64 0, .int .i64 i, .int .i64 0]), (3, .agg #[.int .i64 wv, .int .i64 0])] := ha
  refine wp_seq ?_
  refine wp_region_lit ?_
  refine st_ex ha (by kernel_rfl) (ex_box [.int .i64 7, .int .i64 0, .int .i64 1, .string (str [98]), .int .i64 i, .int .i64 0, .int .i64 i, .int .i64 0, .int .i64 i, .int .i64 0, .int .i64 i, .int .i64 0] s rfl (by kernel_rfl)) ?_
  clear ha; rintro _ w a ⟨g1, rfl, s⟩ ha
  refine st_ex ha (by kernel_rfl) (ex_box [.int .i64 wv, .int .i64 0] s rfl (by kernel_rfl)) ?_
  clear ha; rintro _ w a ⟨g2, rfl, s⟩ ha
  refine st_val (.pointer none) ha (by kernel_rfl) (by kernel_rfl) ?_
  clear ha; intro a ha
  refine st_val (.int .i64 0) ha (by kernel_rfl) (by kernel_rfl) ?_
  clear ha; intro a ha
  refine wpList_nil ?_
  refine then_normal ?_
  refine wp_seq ?_
  refine wp_region_lit ?_
  refine st_val (.pointer (some ⟨g1, 0, none⟩)) ha (by kernel_rfl) (by kernel_rfl) ?_
  clear ha; intro a ha
  refine st_val (.int .i64 7) ha (by kernel_rfl) (run_load1 (of_ := 0) (s.blkIs 1 rfl) rfl (by kernel_rfl) Tryz.isAgg3 rfl) ?_
  clear ha; intro a ha
  refine st_val (.bool true) ha (by kernel_rfl) (by kernel_rfl) ?_
  clear ha; intro a ha
  refine st_val (.bool true) ha (by kernel_rfl) (by kernel_rfl) ?_
  clear ha; intro a ha
  refine st_val (.pointer (some ⟨g1, 0, none⟩)) ha (by kernel_rfl) (by kernel_rfl) ?_
  clear ha; intro a ha
  refine st_val (.int .i64 7) ha (by kernel_rfl) (run_load1 (of_ := 0) (s.blkIs 1 rfl) rfl (by kernel_rfl) Tryz.isAgg3 rfl) ?_
  clear ha; intro a ha
  refine st_val (.bool true) ha (by kernel_rfl) (by kernel_rfl) ?_
  clear ha; intro a ha
  refine st_val (.bool true) ha (by kernel_rfl) (by kernel_rfl) ?_
  clear ha; intro a ha
  refine st_val (.bool true) ha (by kernel_rfl) (by kernel_rfl) ?_
  clear ha; intro a ha
  refine st_val (.pointer (some ⟨g1, 1, none⟩)) ha (by kernel_rfl) (by kernel_rfl) ?_
  clear ha; intro a ha
  refine st_val (.int .i64 0) ha (by kernel_rfl) (run_load1 (of_ := 1) (s.blkIs 1 rfl) rfl (by kernel_rfl) Tryz.isAgg3 rfl) ?_
  clear ha; intro a ha
  refine st_val (.bool true) ha (by kernel_rfl) (by kernel_rfl) ?_
  clear ha; intro a ha
  refine st_val (.bool true) ha (by kernel_rfl) (by kernel_rfl) ?_
  clear ha; intro a ha
  refine st_val (.bool true) ha (by kernel_rfl) (by kernel_rfl) ?_
  clear ha; intro a ha
  refine st_val (.pointer (some ⟨g1, 1, none⟩)) ha (by kernel_rfl) (by kernel_rfl) ?_
  clear ha; intro a ha
  refine st_val (.int .i64 0) ha (by kernel_rfl) (run_load1 (of_ := 1) (s.blkIs 1 rfl) rfl (by kernel_rfl) Tryz.isAgg3 rfl) ?_
  clear ha; intro a ha
  refine st_val (.bool true) ha (by kernel_rfl) (by kernel_rfl) ?_
  clear ha; intro a ha
  refine st_val (.bool true) ha (by kernel_rfl) (by kernel_rfl) ?_
  clear ha; intro a ha
  refine st_val (.bool true) ha (by kernel_rfl) (by kernel_rfl) ?_
  clear ha; intro a ha
  refine wpList_nil ?_
  refine then_normal ?_
  refine wp_seq ?_
  refine wp_region_lit ?_
  refine st_val (.pointer (some ⟨g1, 4, none⟩)) ha (by kernel_rfl) (by kernel_rfl) ?_
  clear ha; intro a ha
  refine st_val (.agg #[.int .i64 i, .int .i64 0]) ha (by kernel_rfl) (run_loadN (of_ := 4) [.int .i64 i, .int .i64 0] (s.blkIs 1 rfl) rfl (by kernel_rfl) Tryz.isAgg33 Tryz.sizeOf33 rfl (Nat.le_of_ble_eq_true rfl)) ?_
  clear ha; intro a ha
  refine st_val (.pointer (some ⟨g1, 8, none⟩)) ha (by kernel_rfl) (by kernel_rfl) ?_
  clear ha; intro a ha
  refine st_val (.agg #[.int .i64 i, .int .i64 0]) ha (by kernel_rfl) (run_loadN (of_ := 8) [.int .i64 i, .int .i64 0] (s.blkIs 1 rfl) rfl (by kernel_rfl) Tryz.isAgg33 Tryz.sizeOf33 rfl (Nat.le_of_ble_eq_true rfl)) ?_
  clear ha; intro a ha
  refine st_val (.agg #[.int .i64 wv, .int .i64 0]) ha (by kernel_rfl) (run_loadN (of_ := 0) [.int .i64 wv, .int .i64 0] (s.blkIs 0 rfl) rfl (by kernel_rfl) Tryz.isAgg33 Tryz.sizeOf33 rfl (Nat.le_of_ble_eq_true rfl)) ?_
  clear ha; intro a ha
  refine st_ex ha (by kernel_rfl) (ex_buildSlice elt166 _ zs166 [.int .i64 i, .int .i64 0, .int .i64 i, .int .i64 0, .int .i64 wv, .int .i64 0] s rfl (by kernel_rfl) (by decide)) ?_
  clear ha; rintro _ w a ⟨g3, rfl, s⟩ ha
  refine st_call ha (by kernel_rfl) (by kernel_rfl) (contains3 W _ _ g3 i i wv ⟨by omega, by omega⟩ ⟨by omega, by omega⟩ ⟨by omega, by omega⟩ s) ?_
  rintro _ w ⟨rfl, s⟩
  refine ⟨_, rfl, ?_⟩; clear ha; intro a ha
  refine st_val (.bool false) ha (by kernel_rfl) (by kernel_rfl) ?_
  clear ha; intro a ha
  refine wpList_nil ?_
  refine then_normal ?_
  refine wp_seq ?_
  refine wp_block ?_
  refine wp_seq ?_
  refine wp_region_lit ?_
  refine st_val (.pointer (some ⟨gt, 0, none⟩)) ha (by kernel_rfl) (by kernel_rfl) ?_
  clear ha; intro a ha
  refine st_val (.bool false) ha (by kernel_rfl) (by kernel_rfl) ?_
  clear ha; intro a ha
  refine st_val (.bool false) ha (by kernel_rfl) (by kernel_rfl) ?_
  clear ha; intro a ha
  refine wpList_nil ?_
  refine then_normal ?_
  refine wp_false ha rfl (by kernel_rfl) ?_
  refine wp_seq ?_
  refine wp_region_lit ?_
  refine st_val (.bool true) ha (by kernel_rfl) (by kernel_rfl) ?_
  clear ha; intro a ha
  refine st_val (.bool false) ha (by kernel_rfl) (by kernel_rfl) ?_
  clear ha; intro a ha
  refine st_val (.bool false) ha (by kernel_rfl) (by kernel_rfl) ?_
  clear ha; intro a ha
  refine st_val (.bool true) ha (by kernel_rfl) (by kernel_rfl) ?_
  clear ha; intro a ha
  refine st_val (.bool false) ha (by kernel_rfl) (by kernel_rfl) ?_
  clear ha; intro a ha
  refine st_val (.bool false) ha (by kernel_rfl) (by kernel_rfl) ?_
  clear ha; intro a ha
  refine st_val (.bool false) ha (by kernel_rfl) (by kernel_rfl) ?_
  clear ha; intro a ha
  refine st_val (.bool false) ha (by kernel_rfl) (by kernel_rfl) ?_
  clear ha; intro a ha
  refine st_val (.bool false) ha (by kernel_rfl) (by kernel_rfl) ?_
  clear ha; intro a ha
  refine st_val (.bool false) ha (by kernel_rfl) (by kernel_rfl) ?_
  clear ha; intro a ha
  refine wpList_nil ?_
  refine then_normal ?_
  refine wp_false ha rfl (by kernel_rfl) ?_
  refine wp_seq ?_
  refine wp_region_lit ?_
  refine st_val (.agg #[.int .i64 wv, .int .i64 0]) ha (by kernel_rfl) (run_loadN (of_ := 0) [.int .i64 wv, .int .i64 0] (s.blkIs 1 rfl) rfl (by kernel_rfl) Tryz.isAgg33 Tryz.sizeOf33 rfl (Nat.le_of_ble_eq_true rfl)) ?_
  clear ha; intro a ha
  refine st_val (.pointer (some ⟨g1, 4, none⟩)) ha (by kernel_rfl) (by kernel_rfl) ?_
  clear ha; intro a ha
  refine st_val (.agg #[.int .i64 i, .int .i64 0]) ha (by kernel_rfl) (run_loadN (of_ := 4) [.int .i64 i, .int .i64 0] (s.blkIs 2 rfl) rfl (by kernel_rfl) Tryz.isAgg33 Tryz.sizeOf33 rfl (Nat.le_of_ble_eq_true rfl)) ?_
  clear ha; intro a ha
  refine st_call ha (by kernel_rfl) (by kernel_rfl) ((Vm.p_less_lt wv i hi.1) _ _ _ s) ?_
  rintro _ w ⟨rfl, s⟩
  refine ⟨_, rfl, ?_⟩; clear ha; intro a ha
  refine st_val (.bool false) ha (by kernel_rfl) (by kernel_rfl) ?_
  clear ha; intro a ha
  refine st_val (.bool false) ha (by kernel_rfl) (by kernel_rfl) ?_
  clear ha; intro a ha
  refine wpList_nil ?_
  refine then_normal ?_
  refine wp_false ha rfl (by kernel_rfl) ?_
  refine wp_skip ?_
  refine block_normal ?_
  refine then_normal ?_
  refine wp_seq ?_
  refine wp_region_head 4 (fun w => BlkIs g1 [.int .i64 7, .int .i64 0, .int .i64 1, .string (str [98]), .int .i64 i, .int .i64 0, .int .i64 i, .int .i64 0, .int .i64 i, .int .i64 0, .int .i64 i, .int .i64 0] w ∧ True) (by kernel_rfl) (by decide) ?_
  replace s := s.drew; generalize _root_.Go.World.drew _ = w at s ⊢
  have hS : (fun w => BlkIs g1 [.int .i64 7, .int .i64 0, .int .i64 1, .string (str [98]), .int .i64 i, .int .i64 0, .int .i64 i, .int .i64 0, .int .i64 i, .int .i64 0, .int .i64 i, .int .i64 0] w ∧ True) w := ⟨s.blkIs 2 rfl, trivial⟩
  refine hd_val (i := 0) (.pointer (some ⟨gt, 0, none⟩)) ha rfl (by kernel_rfl) (fun _ _ _ h => h) (by kernel_rfl) (fun w hS => (by kernel_rfl)) hS ?_
  clear ha; intro a ha
  refine hd_val (i := 1) (.agg #[.int .i64 7, .int .i64 0, .int .i64 1, .string (str [98]), .int .i64 i, .int .i64 0, .int .i64 i, .int .i64 0, .int .i64 i, .int .i64 0, .int .i64 i, .int .i64 0]) ha rfl (by kernel_rfl) (fun _ _ _ h => h) (by kernel_rfl) (fun w hS => run_loadN (of_ := 0) [.int .i64 7, .int .i64 0, .int .i64 1, .string (str [98]), .int .i64 i, .int .i64 0, .int .i64 i, .int .i64 0, .int .i64 i, .int .i64 0, .int .i64 i, .int .i64 0] hS.1 rfl (by kernel_rfl) Tryz.isAgg35 Tryz.sizeOf35 rfl (Nat.le_of_ble_eq_true rfl)) hS ?_
  clear ha; intro a ha
  refine hd_val (i := 2) (.agg #[.int .i64 7, .int .i64 0, .int .i64 1, .string (str [98]), .int .i64 i, .int .i64 0, .int .i64 i, .int .i64 0, .int .i64 i, .int .i64 0, .int .i64 i, .int .i64 0]) ha rfl (by kernel_rfl) (fun _ _ _ h => h) (by kernel_rfl) (fun w hS => run_loadN (of_ := 0) [.int .i64 7, .int .i64 0, .int .i64 1, .string (str [98]), .int .i64 i, .int .i64 0, .int .i64 i, .int .i64 0, .int .i64 i, .int .i64 0, .int .i64 i, .int .i64 0] hS.1 rfl (by kernel_rfl) Tryz.isAgg35 Tryz.sizeOf35 rfl (Nat.le_of_ble_eq_true rfl)) hS ?_
  clear ha; intro a ha
  refine hd_call (i := 3) ha rfl (by kernel_rfl) (by kernel_rfl) (by kernel_rfl) ((Vm.p_top i (by omega)) _ _ _ s) ?_
  clear hS; rintro _ w ⟨rfl, s⟩
  have hS : (fun w => BlkIs g1 [.int .i64 7, .int .i64 0, .int .i64 1, .string (str [98]), .int .i64 i, .int .i64 0, .int .i64 i, .int .i64 0, .int .i64 i, .int .i64 0, .int .i64 i, .int .i64 0] w ∧ True) w := ⟨s.blkIs 2 rfl, trivial⟩
  refine ⟨_, rfl, hS, ?_⟩; clear ha; intro a ha
  refine Head.done (by kernel_rfl) ?_
  clear hS; simp only [List.drop_succ_cons, List.drop_zero]
  refine st_val (.agg #[.pointer (some ⟨gt, 0, none⟩), .int .i64 7, .int .i64 0, .int .i64 1, .string (str [98]), .int .i64 i, .int .i64 0, .int .i64 i, .int .i64 0, .int .i64 i, .int .i64 0, .int .i64 i, .int .i64 0, .int .i64 i, .int .i64 0]) ha (by kernel_rfl) (by kernel_rfl) ?_
  clear ha; intro a ha
  refine st_ex ha (by kernel_rfl) (ex_box [.pointer (some ⟨gt, 0, none⟩), .int .i64 7, .int .i64 0, .int .i64 1, .string (str [98]), .int .i64 i, .int .i64 0, .int .i64 i, .int .i64 0, .int .i64 i, .int .i64 0, .int .i64 i, .int .i64 0, .int .i64 i, .int .i64 0] s rfl (by kernel_rfl)) ?_
  clear ha; rintro _ w a ⟨g4, rfl, s⟩ ha
  refine st_val (.pointer (some ⟨g4, 0, none⟩)) ha (by kernel_rfl) (by kernel_rfl) ?_
  clear ha; intro a ha
  refine st_val (.int .i64 0) ha (by kernel_rfl) (by kernel_rfl) ?_
  clear ha; intro a ha
  refine wpList_nil ?_
  refine then_normal ?_
  refine wp_ret ?_
  refine ret_with (v := .tuple #[.pointer (some ⟨g4, 0, none⟩), .int .i64 0]) ha (results_2 rfl ha (res_tmp (by kernel_rfl) (by kernel_rfl)) (res_tmp (by kernel_rfl) (by kernel_rfl))) ?_
  replace s : St W (.blk g4 [.pointer (some ⟨gt, 0, none⟩), .int .i64 7, .int .i64 0, .int .i64 1, .string (str [98]), .int .i64 i, .int .i64 0, .int .i64 i, .int .i64 0, .int .i64 i, .int .i64 0, .int .i64 i, .int .i64 0, .int .i64 i, .int .i64 0] 170 :: L) w := s.keep 1 3
  exact ⟨g4, rfl, s⟩

theorem intent_spec (W : World) (L : List Chunk) (w : World) (gr gt : Nat) (rows : List Rw) (i : Int) (hi : 1 ≤ i ∧ i ≤ 131) (c : UInt8) (hc : c = 97 ∨ c = 98) (hti : tget rows [105, c, 0, 0] = none) (s : St W (.blk gr [.pointer (some ⟨gt, 0, none⟩), .int .i64 7, .int .i64 0, .int .i64 1, .string (str [98]), .int .i64 i, .int .i64 0, .int .i64 i, .int .i64 0, .int .i64 i, .int .i64 0, .int .i64 i, .int .i64 0, .int .i64 i, .int .i64 0] 170 :: Tb gt rows :: L) w) :
    Calls Tryz.prog 89 #[.pointer (some ⟨gr, 0, none⟩), .string (str [c])] w fun e w' => e = .returned (.tuple #[.agg #[.int .i64 0, .int .i64 0, .int .i64 0, .string (str []), .int .i64 0, .int .i64 0, .int .i64 0, .int .i64 0, .slice none 0 0], .bool false]) ∧ St W (.blk gr [.pointer (some ⟨gt, 0, none⟩), .int .i64 7, .int .i64 0, .int .i64 1, .string (str [98]), .int .i64 i, .int .i64 0, .int .i64 i, .int .i64 0, .int .i64 i, .int .i64 0, .int .i64 i, .int .i64 0, .int .i64 i, .int .i64 0] 170 :: Tb gt rows :: L) w' := by
  refine enter_args (l := [.pointer (some ⟨gr, 0, none⟩), .string (str [c])]) Tryz.func89 rfl rfl (Nat.le_of_ble_eq_true rfl) ?_
  intro a ha; replace ha : Has a 37 [(0, .pointer (some ⟨gr, 0, none⟩)), (1, .string (str [c]))] := ha
  refine wp_seq ?_
  refine wp_region_lit ?_
  refine st_ex ha (by kernel_rfl) (ex_alloc [.int .i64 0, .int .i64 0, .int .i64 0, .string (str []), .int .i64 0, .int .i64 0, .int .i64 0, .int .i64 0, .slice none 0 0] s rfl (Tryz.zeroValue51 _) (by kernel_rfl)) ?_
  clear ha; rintro _ w a ⟨g1, rfl, s⟩ ha
  refine st_val (.bool false) ha (by kernel_rfl) (by kernel_rfl) ?_
  clear ha; intro a ha
  refine wpList_nil ?_
  refine then_normal ?_
  refine wp_seq ?_
  refine wp_region_lit ?_
  refine st_val (.string (str [c])) ha (by kernel_rfl) (by kernel_rfl) ?_
  clear ha; intro a ha
  refine st_call ha (by kernel_rfl) (by kernel_rfl) ((ik_spec hc) _ _ _ s) ?_
  rintro _ w ⟨rfl, s⟩
  refine ⟨_, rfl, ?_⟩; clear ha; intro a ha
  refine st_val (.tuple #[.string (str [105, c, 0, 0]), .int .i64 0]) ha (by kernel_rfl) (by kernel_rfl) ?_
  clear ha; intro a ha
  refine st_val (.string (str [105, c, 0, 0])) ha (by kernel_rfl) (by kernel_rfl) ?_
  clear ha; intro a ha
  refine st_val (.int .i64 0) ha (by kernel_rfl) (by kernel_rfl) ?_
  clear ha; intro a ha
  refine st_val (.string (str [105, c, 0, 0])) ha (by kernel_rfl) (by kernel_rfl) ?_
  clear ha; intro a ha
  refine st_val (.int .i64 0) ha (by kernel_rfl) (by kernel_rfl) ?_
  clear ha; intro a ha
  refine wpList_nil ?_
  refine then_normal ?_
  refine wp_seq ?_
  refine wp_region_lit ?_
  refine st_val (.pointer (some ⟨gr, 0, none⟩)) ha (by kernel_rfl) (by kernel_rfl) ?_
  clear ha; intro a ha
  refine st_val (.pointer (some ⟨gr, 0, none⟩)) ha (by kernel_rfl) (by kernel_rfl) ?_
  clear ha; intro a ha
  refine st_val (.pointer (some ⟨gr, 0, none⟩)) ha (by kernel_rfl) (by kernel_rfl) ?_
  clear ha; intro a ha
  refine st_val (.pointer (some ⟨gt, 0, none⟩)) ha (by kernel_rfl) (run_load1 (of_ := 0) (s.blkIs 1 rfl) rfl (by kernel_rfl) Tryz.isAgg24 rfl) ?_
  clear ha; intro a ha
  refine st_val (.string (str [105, c, 0, 0])) ha (by kernel_rfl) (by kernel_rfl) ?_
  clear ha; intro a ha
  replace s := s.at_ (j := 2) rfl
  replace s : St W (Tb gt rows :: .blk g1 [.int .i64 0, .int .i64 0, .int .i64 0, .string (str []), .int .i64 0, .int .i64 0, .int .i64 0, .int .i64 0, .slice none 0 0] 51 :: .blk gr [.pointer (some ⟨gt, 0, none⟩), .int .i64 7, .int .i64 0, .int .i64 1, .string (str [98]), .int .i64 i, .int .i64 0, .int .i64 i, .int .i64 0, .int .i64 i, .int .i64 0, .int .i64 i, .int .i64 0, .int .i64 i, .int .i64 0] 170 :: L) w := s
  refine st_call ha (by kernel_rfl) (by kernel_rfl) ((TGet_spec W _ _ gt rows [105, c, 0, 0] s).mono fun e w h => (show _ ∧ _ from ⟨by have := h.1; rw [hti] at this; exact this, h.2⟩)) ?_
  rintro _ w ⟨rfl, s⟩
  refine ⟨_, rfl, ?_⟩; clear ha; intro a ha
  refine st_val (.tuple #[.string (str []), .bool false]) ha (by kernel_rfl) (by kernel_rfl) ?_
  clear ha; intro a ha
  refine st_val (.string (str [])) ha (by kernel_rfl) (by kernel_rfl) ?_
  clear ha; intro a ha
  refine st_val (.bool false) ha (by kernel_rfl) (by kernel_rfl) ?_
  clear ha; intro a ha
  refine st_val (.string (str [])) ha (by kernel_rfl) (by kernel_rfl) ?_
  clear ha; intro a ha
  refine st_val (.bool false) ha (by kernel_rfl) (by kernel_rfl) ?_
  clear ha; intro a ha
  refine wpList_nil ?_
  refine then_normal ?_
  refine wp_seq ?_
  refine wp_region_lit ?_
  refine st_val (.string (str [])) ha (by kernel_rfl) (by kernel_rfl) ?_
  clear ha; intro a ha
  refine st_call ha (by kernel_rfl) (by kernel_rfl) (Vm.p_ti _ _ _ s) ?_
  rintro _ w ⟨rfl, s⟩
  refine ⟨_, rfl, ?_⟩; clear ha; intro a ha
  refine st_val (.tuple #[.agg #[.int .i64 0, .int .i64 0, .int .i64 0, .string (str []), .int .i64 0, .int .i64 0, .int .i64 0, .int .i64 0, .slice none 0 0], .int .i64 4]) ha (by kernel_rfl) (by kernel_rfl) ?_
  clear ha; intro a ha
  refine st_val (.agg #[.int .i64 0, .int .i64 0, .int .i64 0, .string (str []), .int .i64 0, .int .i64 0, .int .i64 0, .int .i64 0, .slice none 0 0]) ha (by kernel_rfl) (by kernel_rfl) ?_
  clear ha; intro a ha
  refine st_val (.int .i64 4) ha (by kernel_rfl) (by kernel_rfl) ?_
  clear ha; intro a ha
  refine st_ex ha (by kernel_rfl) (ex_alloc [.int .i64 0, .int .i64 0, .int .i64 0, .string (str []), .int .i64 0, .int .i64 0, .int .i64 0, .int .i64 0, .slice none 0 0] s rfl (Tryz.zeroValue51 _) (by kernel_rfl)) ?_
  clear ha; rintro _ w a ⟨g2, rfl, s⟩ ha
  refine st_exd ha (by kernel_rfl) (ex_store (of_ := 0) 0 [.int .i64 0, .int .i64 0, .int .i64 0, .string (str []), .int .i64 0, .int .i64 0, .int .i64 0, .int .i64 0, .slice none 0 0] s rfl rfl (by kernel_rfl) (by kernel_rfl) (Tryz.sizeOf51 _) rfl (by simp [Value.oneCell']) (Nat.le_of_ble_eq_true rfl)) ?_
  clear ha; rintro w a s ha
  replace s : St W (.blk g2 [.int .i64 0, .int .i64 0, .int .i64 0, .string (str []), .int .i64 0, .int .i64 0, .int .i64 0, .int .i64 0, .slice none 0 0] 51 :: Tb gt rows :: .blk g1 [.int .i64 0, .int .i64 0, .int .i64 0, .string (str []), .int .i64 0, .int .i64 0, .int .i64 0, .int .i64 0, .slice none 0 0] 51 :: .blk gr [.pointer (some ⟨gt, 0, none⟩), .int .i64 7, .int .i64 0, .int .i64 1, .string (str [98]), .int .i64 i, .int .i64 0, .int .i64 i, .int .i64 0, .int .i64 i, .int .i64 0, .int .i64 i, .int .i64 0, .int .i64 i, .int .i64 0] 170 :: L) w := s
  refine st_val (.int .i64 4) ha (by kernel_rfl) (by kernel_rfl) ?_
  clear ha; intro a ha
  refine wpList_nil ?_
  refine then_normal ?_
  refine wp_seq ?_
  refine wp_region_lit ?_
  refine st_val (.agg #[.int .i64 0, .int .i64 0, .int .i64 0, .string (str []), .int .i64 0, .int .i64 0, .int .i64 0, .int .i64 0, .slice none 0 0]) ha (by kernel_rfl) (run_loadN (of_ := 0) [.int .i64 0, .int .i64 0, .int .i64 0, .string (str []), .int .i64 0, .int .i64 0, .int .i64 0, .int .i64 0, .slice none 0 0] (s.blkIs 0 rfl) rfl (by kernel_rfl) Tryz.isAgg51 Tryz.sizeOf51 rfl (Nat.le_of_ble_eq_true rfl)) ?_
  clear ha; intro a ha
  refine st_val (.bool false) ha (by kernel_rfl) (by kernel_rfl) ?_
  clear ha; intro a ha
  refine st_val (.bool false) ha (by kernel_rfl) (by kernel_rfl) ?_
  clear ha; intro a ha
  refine st_pass ha (by kernel_rfl) ?_
  clear ha; intro a ha
  refine st_pass ha (by kernel_rfl) ?_
  clear ha; intro a ha
  refine st_val (.bool false) ha (by kernel_rfl) (by kernel_rfl) ?_
  clear ha; intro a ha
  refine st_exd ha (by kernel_rfl) (ex_store (of_ := 0) 2 [.int .i64 0, .int .i64 0, .int .i64 0, .string (str []), .int .i64 0, .int .i64 0, .int .i64 0, .int .i64 0, .slice none 0 0] s rfl rfl (by kernel_rfl) (by kernel_rfl) (Tryz.sizeOf51 _) rfl (by simp [Value.oneCell']) (Nat.le_of_ble_eq_true rfl)) ?_
  clear ha; rintro w a s ha
  replace s : St W (.blk g2 [.int .i64 0, .int .i64 0, .int .i64 0, .string (str []), .int .i64 0, .int .i64 0, .int .i64 0, .int .i64 0, .slice none 0 0] 51 :: Tb gt rows :: .blk g1 [.int .i64 0, .int .i64 0, .int .i64 0, .string (str []), .int .i64 0, .int .i64 0, .int .i64 0, .int .i64 0, .slice none 0 0] 51 :: .blk gr [.pointer (some ⟨gt, 0, none⟩), .int .i64 7, .int .i64 0, .int .i64 1, .string (str [98]), .int .i64 i, .int .i64 0, .int .i64 i, .int .i64 0, .int .i64 i, .int .i64 0, .int .i64 i, .int .i64 0, .int .i64 i, .int .i64 0] 170 :: L) w := s
  refine st_val (.bool false) ha (by kernel_rfl) (by kernel_rfl) ?_
  clear ha; intro a ha
  refine wpList_nil ?_
  refine then_normal ?_
  refine wp_ret ?_
  refine ret_with (v := .tuple #[.agg #[.int .i64 0, .int .i64 0, .int .i64 0, .string (str []), .int .i64 0, .int .i64 0, .int .i64 0, .int .i64 0, .slice none 0 0], .bool false]) ha (results_2 rfl ha (res_cellN (s.blkIs 2 rfl) (by kernel_rfl) (by kernel_rfl) Tryz.isAgg51 Tryz.sizeOf51 rfl) (res_tmp (by kernel_rfl) (by kernel_rfl))) ?_
  replace s := (s.at_ (j := 1) rfl).at_ (j := 3) rfl
  replace s : St W (.blk gr [.pointer (some ⟨gt, 0, none⟩), .int .i64 7, .int .i64 0, .int .i64 1, .string (str [98]), .int .i64 i, .int .i64 0, .int .i64 i, .int .i64 0, .int .i64 i, .int .i64 0, .int .i64 i, .int .i64 0, .int .i64 i, .int .i64 0] 170 :: Tb gt rows :: L) w := s.keep 2 2
  exact ⟨rfl, s⟩

theorem version_spec (W : World) (L : List Chunk) (w : World) (gr gt : Nat) (rows : List Rw) (i : Int) (hi : 1 ≤ i ∧ i ≤ 131) (c : UInt8) (hc : c = 97 ∨ c = 98) (vs : List V3) (hseg : seg rows (vkey c i) (vkey0 c ++ [0]) = vs.map vrow) (hv : ∀ x ∈ vs, VOk x) (s : St W (.blk gr [.pointer (some ⟨gt, 0, none⟩), .int .i64 7, .int .i64 0, .int .i64 1, .string (str [98]), .int .i64 i, .int .i64 0, .int .i64 i, .int .i64 0, .int .i64 i, .int .i64 0, .int .i64 i, .int .i64 0, .int .i64 i, .int .i64 0] 170 :: Tb gt rows :: L) w) :
    Calls Tryz.prog 90 #[.pointer (some ⟨gr, 0, none⟩), .string (str [c])] w fun e w' => e = .returned (verR c vs) ∧ St W (.blk gr [.pointer (some ⟨gt, 0, none⟩), .int .i64 7, .int .i64 0, .int .i64 1, .string (str [98]), .int .i64 i, .int .i64 0, .int .i64 i, .int .i64 0, .int .i64 i, .int .i64 0, .int .i64 i, .int .i64 0, .int .i64 i, .int .i64 0] 170 :: Tb gt rows :: L) w' := by
  refine J.calls_out (m := 2) ?_
  refine J.enter_args (l := [.pointer (some ⟨gr, 0, none⟩), .string (str [c])]) Tryz.func90 rfl rfl (Nat.le_of_ble_eq_true rfl) ?_
  intro a ha; replace ha : J.Has [] a 68 [(0, .pointer (some ⟨gr, 0, none⟩)), (1, .string (str [c]))] := ha
  refine J.wp_seq ?_
  refine J.wp_region_lit ?_
  refine J.st_ex ha (by kernel_rfl) (ex_box [.string (str [c])] s rfl (by kernel_rfl)) ?_
  clear ha; rintro _ w a ⟨v3, rfl, s⟩ ha
  refine J.st_ex ha (by kernel_rfl) (ex_alloc [.string (str []), .string (str []), .bool false, .bool false, .int .i64 0, .int .i64 0, .int .i64 0, .int .i64 0, .int .i64 0, .string (str []), .int .i64 0, .int .i64 0, .int .i64 0, .int .i64 0, .slice none 0 0] s rfl (Tryz.zeroValue60 _) (by kernel_rfl)) ?_
  clear ha; rintro _ w a ⟨v4, rfl, s⟩ ha
  refine J.st_ex ha (by kernel_rfl) (ex_alloc [.bool false] s rfl (Tryz.zeroValue4 _) (by kernel_rfl)) ?_
  clear ha; rintro _ w a ⟨v5, rfl, s⟩ ha
  refine J.wpList_nil ?_
  refine then_normal ?_
  refine J.wp_seq ?_
  refine J.wp_region_head 10 (fun w => BlkIs v3 [.string (str [c])] w ∧ BlkIs gr [.pointer (some ⟨gt, 0, none⟩), .int .i64 7, .int .i64 0, .int .i64 1, .string (str [98]), .int .i64 i, .int .i64 0, .int .i64 i, .int .i64 0, .int .i64 i, .int .i64 0, .int .i64 i, .int .i64 0, .int .i64 i, .int .i64 0] w ∧ True) (by kernel_rfl) (by decide) ?_
  replace s := s.drew; generalize _root_.Go.World.drew _ = w at s ⊢
  have hS : (fun w => BlkIs v3 [.string (str [c])] w ∧ BlkIs gr [.pointer (some ⟨gt, 0, none⟩), .int .i64 7, .int .i64 0, .int .i64 1, .string (str [98]), .int .i64 i, .int .i64 0, .int .i64 i, .int .i64 0, .int .i64 i, .int .i64 0, .int .i64 i, .int .i64 0, .int .i64 i, .int .i64 0] w ∧ True) w := ⟨s.blkIs 2 rfl, s.blkIs 3 rfl, trivial⟩
  refine J.hd_val (i := 0) (.string (str [c])) ha rfl (by kernel_rfl) (fun _ _ _ h => h) (by kernel_rfl) (fun w hS => run_load1 (of_ := 0) hS.1 rfl (by kernel_rfl) Tryz.isAgg9 rfl) hS ?_
  clear ha; intro a ha
  refine J.hd_val (i := 1) (.pointer (some ⟨gr, 0, none⟩)) ha rfl (by kernel_rfl) (fun _ _ _ h => h) (by kernel_rfl) (fun w hS => (by kernel_rfl)) hS ?_
  clear ha; intro a ha
  refine J.hd_val (i := 2) (.pointer (some ⟨gr, 0, none⟩)) ha rfl (by kernel_rfl) (fun _ _ _ h => h) (by kernel_rfl) (fun w hS => (by kernel_rfl)) hS ?_
  clear ha; intro a ha
  refine J.hd_val (i := 3) (.pointer (some ⟨gr, 13, none⟩)) ha rfl (by kernel_rfl) (fun _ _ _ h => h) (by kernel_rfl) (fun w hS => (by kernel_rfl)) hS ?_
  clear ha; intro a ha
  refine J.hd_val (i := 4) (.agg #[.int .i64 i, .int .i64 0]) ha rfl (by kernel_rfl) (fun _ _ _ h => h) (by kernel_rfl) (fun w hS => run_loadN (of_ := 13) [.int .i64 i, .int .i64 0] hS.2.1 rfl (by kernel_rfl) Tryz.isAgg33 Tryz.sizeOf33 rfl (Nat.le_of_ble_eq_true rfl)) hS ?_
  clear ha; intro a ha
  refine J.hd_call (i := 5) ha rfl (by kernel_rfl) (by kernel_rfl) (by kernel_rfl) ((cvk_spec hc i hi) _ _ _ s) ?_
  clear hS; rintro _ w ⟨rfl, s⟩
  have hS : (fun w => BlkIs v3 [.string (str [c])] w ∧ BlkIs gr [.pointer (some ⟨gt, 0, none⟩), .int .i64 7, .int .i64 0, .int .i64 1, .string (str [98]), .int .i64 i, .int .i64 0, .int .i64 i, .int .i64 0, .int .i64 i, .int .i64 0, .int .i64 i, .int .i64 0, .int .i64 i, .int .i64 0] w ∧ True) w := ⟨s.blkIs 2 rfl, s.blkIs 3 rfl, trivial⟩
  refine ⟨_, rfl, hS, ?_⟩; clear ha; intro a ha
  refine J.hd_val (i := 6) (.tuple #[.string (str (vkey c i)), .int .i64 0]) ha rfl (by kernel_rfl) (fun _ _ _ h => h) (by kernel_rfl) (fun w hS => (by kernel_rfl)) hS ?_
  clear ha; intro a ha
  refine J.hd_val (i := 7) (.string (str (vkey c i))) ha rfl (by kernel_rfl) (fun _ _ _ h => h) (by kernel_rfl) (fun w hS => (by kernel_rfl)) hS ?_
  clear ha; intro a ha
  refine J.hd_val (i := 8) (.int .i64 0) ha rfl (by kernel_rfl) (fun _ _ _ h => h) (by kernel_rfl) (fun w hS => (by kernel_rfl)) hS ?_
  clear ha; intro a ha
  refine J.hd_val (i := 9) (.string (str (vkey c i))) ha rfl (by kernel_rfl) (fun _ _ _ h => h) (by kernel_rfl) (fun w hS => (by kernel_rfl)) hS ?_
  clear ha; intro a ha
  refine J.Head.done (by kernel_rfl) ?_
  clear hS; simp only [List.drop_succ_cons, List.drop_zero]
  refine J.st_val (.int .i64 0) ha (by kernel_rfl) (by kernel_rfl) ?_
  clear ha; intro a ha
  refine J.wpList_nil ?_
  refine ⟨rfl, ?_⟩
  refine then_normal ?_
  refine J.wp_seq ?_
  refine J.wp_region_lit ?_
  refine J.st_val (.string (str [c])) ha (by kernel_rfl) (run_load1 (of_ := 0) (s.blkIs 2 rfl) rfl (by kernel_rfl) Tryz.isAgg9 rfl) ?_
  clear ha; intro a ha
  refine J.st_val (.agg #[.int .i64 0, .int .i64 0]) ha (by kernel_rfl) (by kernel_rfl) ?_
  clear ha; intro a ha
  refine J.st_call ha (by kernel_rfl) (by kernel_rfl) ((cvk0_spec hc) _ _ _ s) ?_
  rintro _ w ⟨rfl, s⟩
  refine ⟨_, rfl, ?_⟩; clear ha; intro a ha
  refine J.st_val (.tuple #[.string (str (vkey0 c)), .int .i64 0]) ha (by kernel_rfl) (by kernel_rfl) ?_
  clear ha; intro a ha
  refine J.st_val (.string (str (vkey0 c))) ha (by kernel_rfl) (by kernel_rfl) ?_
  clear ha; intro a ha
  refine J.st_val (.int .i64 0) ha (by kernel_rfl) (by kernel_rfl) ?_
  clear ha; intro a ha
  refine J.st_val (.string (str (vkey0 c))) ha (by kernel_rfl) (by kernel_rfl) ?_
  clear ha; intro a ha
  refine J.st_val (.int .i64 0) ha (by kernel_rfl) (by kernel_rfl) ?_
  clear ha; intro a ha
  refine J.wpList_nil ?_
  refine then_normal ?_
  refine J.wp_seq ?_
  refine J.wp_seq ?_
  have hl0 : (vkey0 c).length = 13 := rfl
  refine J.wp_region_lit ?_
  refine J.st_val (.pointer (some ⟨gr, 0, none⟩)) ha (by kernel_rfl) (by kernel_rfl) ?_
  clear ha; intro a ha
  refine J.st_val (.pointer (some ⟨gr, 0, none⟩)) ha (by kernel_rfl) (by kernel_rfl) ?_
  clear ha; intro a ha
  refine J.st_val (.pointer (some ⟨gr, 0, none⟩)) ha (by kernel_rfl) (by kernel_rfl) ?_
  clear ha; intro a ha
  refine J.st_val (.pointer (some ⟨gt, 0, none⟩)) ha (by kernel_rfl) (run_load1 (of_ := 0) (s.blkIs 3 rfl) rfl (by kernel_rfl) Tryz.isAgg24 rfl) ?_
  clear ha; intro a ha
  refine J.st_val (.string (str (vkey c i))) ha (by kernel_rfl) (by kernel_rfl) ?_
  clear ha; intro a ha
  refine J.st_val (.string (str (vkey0 c))) ha (by kernel_rfl) (by kernel_rfl) ?_
  clear ha; intro a ha
  refine J.st_val (.string (str ((vkey0 c) ++ [0]))) ha (by kernel_rfl) (run_sadd rfl (by kernel_rfl) (by kernel_rfl) (by first | omega | (simp only [List.length_cons, List.length_nil]; omega)) _) ?_
  clear ha; intro a ha
  refine J.st_call ha (by kernel_rfl) (by kernel_rfl) (All_spec W _ _ gt (vkey c i) (vkey0 c ++ [0]) s) ?_
  rintro _ w ⟨b1, b2, b3, rfl, s⟩
  refine ⟨_, rfl, ?_⟩; clear ha; intro a ha
  refine J.wpList_nil ?_
  refine then_normal ?_
  refine J.wp_block ?_
  replace s := (((((((s.at_ (j := 3) rfl).at_ (j := 4) rfl).at_ (j := 5) rfl).at_ (j := 6) rfl).at_ (j := 6) rfl).at_ (j := 6) rfl).at_ (j := 6) rfl).at_ (j := 7) rfl
  replace s : St W (Tb gt rows :: .blk b1 [.pointer (some ⟨gt, 0, none⟩)] 24 :: .blk b2 [.string (str (vkey c i))] 9 :: .blk b3 [.string (str (vkey0 c ++ [0]))] 9 :: .blk gr [.pointer (some ⟨gt, 0, none⟩), .int .i64 7, .int .i64 0, .int .i64 1, .string (str [98]), .int .i64 i, .int .i64 0, .int .i64 i, .int .i64 0, .int .i64 i, .int .i64 0, .int .i64 i, .int .i64 0, .int .i64 i, .int .i64 0] 170 :: .blk v3 [.string (str [c])] 9 :: .blk v4 [.string (str []), .string (str []), .bool false, .bool false, .int .i64 0, .int .i64 0, .int .i64 0, .int .i64 0, .int .i64 0, .string (str []), .int .i64 0, .int .i64 0, .int .i64 0, .int .i64 0, .slice none 0 0] 60 :: .blk v5 [.bool false] 4 :: L) w := s
  replace ha : J.Has [] a 68 [(0, .pointer (some ⟨gr, 0, none⟩)), (3, .pointer (some ⟨v3, 0, none⟩)), (4, .pointer (some ⟨v4, 0, none⟩)), (5, .pointer (some ⟨v5, 0, none⟩)), (40, .func (.func 97) #[] #[.pointer (some ⟨b1, 0, none⟩), .pointer (some ⟨b2, 0, none⟩), .pointer (some ⟨b3, 0, none⟩)])] := (J.Has.cons ha (by kernel_rfl) (by kernel_rfl) (J.Has.cons ha (by kernel_rfl) (by kernel_rfl) (J.Has.cons ha (by kernel_rfl) (by kernel_rfl) (J.Has.cons ha (by kernel_rfl) (by kernel_rfl) (J.Has.cons ha (by kernel_rfl) (by kernel_rfl) (J.Has.nil ha))))))
  refine J.wp_range (G := Unit) (GX := V3) (C := [Tb gt rows, .blk b1 [.pointer (some ⟨gt, 0, none⟩)] 24, .blk b2 [.string (str (vkey c i))] 9, .blk b3 [.string (str (vkey0 c ++ [0]))] 9]) (ys := ((seg rows (vkey c i) (vkey0 c ++ [0])).map row2)) (ps := [41, 42]) (all_iter gt rows b1 b2 b3 (vkey c i) (vkey0 c ++ [0])) (fun i_ u => i_ = 0) (fun i_ u => [.blk gr [.pointer (some ⟨gt, 0, none⟩), .int .i64 7, .int .i64 0, .int .i64 1, .string (str [98]), .int .i64 i, .int .i64 0, .int .i64 i, .int .i64 0, .int .i64 i, .int .i64 0, .int .i64 i, .int .i64 0, .int .i64 i, .int .i64 0] 170, .blk v3 [.string (str [c])] 9, .blk v4 [.string (str []), .string (str []), .bool false, .bool false, .int .i64 0, .int .i64 0, .int .i64 0, .int .i64 0, .int .i64 0, .string (str []), .int .i64 0, .int .i64 0, .int .i64 0, .int .i64 0, .slice none 0 0] 60, .blk v5 [.bool false] 4]) (fun co_ x => (co_ = .ret ∧ vs.head? = some x)) (fun co_ x => match co_ with | .ret => [Tb gt rows, .blk b1 [.pointer (some ⟨gt, 0, none⟩)] 24, .blk b2 [.string (str (vkey c i))] 9, .blk b3 [.string (str (vkey0 c ++ [0]))] 9, .blk gr [.pointer (some ⟨gt, 0, none⟩), .int .i64 7, .int .i64 0, .int .i64 1, .string (str [98]), .int .i64 i, .int .i64 0, .int .i64 i, .int .i64 0, .int .i64 i, .int .i64 0, .int .i64 i, .int .i64 0, .int .i64 i, .int .i64 0] 170, .blk v3 [.string (str [c])] 9, .blk v4 [.string (str [c]), .string (str []), .bool x.2.2, .bool false, .int .i64 x.2.1, .int .i64 0, .int .i64 0, .int .i64 0, .int .i64 0, .string (str []), .int .i64 0, .int .i64 0, .int .i64 0, .int .i64 0, .slice none 0 0] 60, .blk v5 [.bool true] 4] | _ => []) () ha rfl (by kernel_rfl) (fun args w => (by kernel_rfl)) (fun y hy => by obtain ⟨x, _, rfl⟩ := List.mem_map.1 hy; rfl) (by kernel_rfl) s rfl ?_ ?_ ?_
  · clear ha s; rintro l T i_ y u a w hy hp s ha
    rw [hseg] at hy
    obtain ⟨x, hx, rfl⟩ := lit_at hy
    have hxo := hv x (List.mem_of_getElem? hx)
    clear hy
    replace ha : J.Has [] a 68 [(42, .string (str (vtx x.2.2))), (41, .string (str (vkey x.1 x.2.1))), (0, .pointer (some ⟨gr, 0, none⟩)), (3, .pointer (some ⟨v3, 0, none⟩)), (4, .pointer (some ⟨v4, 0, none⟩)), (5, .pointer (some ⟨v5, 0, none⟩)), (40, .func (.func 97) #[] #[.pointer (some ⟨b1, 0, none⟩), .pointer (some ⟨b2, 0, none⟩), .pointer (some ⟨b3, 0, none⟩)])] := ha
    replace s : St W (Tb gt rows :: .blk b1 [.pointer (some ⟨gt, 0, none⟩)] 24 :: .blk b2 [.string (str (vkey c i))] 9 :: .blk b3 [.string (str (vkey0 c ++ [0]))] 9 :: .blk gr [.pointer (some ⟨gt, 0, none⟩), .int .i64 7, .int .i64 0, .int .i64 1, .string (str [98]), .int .i64 i, .int .i64 0, .int .i64 i, .int .i64 0, .int .i64 i, .int .i64 0, .int .i64 i, .int .i64 0, .int .i64 i, .int .i64 0] 170 :: .blk v3 [.string (str [c])] 9 :: .blk v4 [.string (str []), .string (str []), .bool false, .bool false, .int .i64 0, .int .i64 0, .int .i64 0, .int .i64 0, .int .i64 0, .string (str []), .int .i64 0, .int .i64 0, .int .i64 0, .int .i64 0, .slice none 0 0] 60 :: .blk v5 [.bool false] 4 :: T) w := s
    refine J.wp_seq ?_
    refine J.wp_region_lit ?_
    refine J.st_val (.string (str (vkey x.1 x.2.1))) ha (by kernel_rfl) (by kernel_rfl) ?_
    clear ha; intro a ha
    refine J.wpList_nil ?_
    refine then_normal ?_
    refine J.wp_region_lit ?_
    refine J.st_val (.string (str (vtx x.2.2))) ha (by kernel_rfl) (by kernel_rfl) ?_
    clear ha; intro a ha
    refine J.wpList_nil ?_
    refine then_normal ?_
    refine ⟨[Tb gt rows, .blk b1 [.pointer (some ⟨gt, 0, none⟩)] 24, .blk b2 [.string (str (vkey c i))] 9, .blk b3 [.string (str (vkey0 c ++ [0]))] 9, .blk gr [.pointer (some ⟨gt, 0, none⟩), .int .i64 7, .int .i64 0, .int .i64 1, .string (str [98]), .int .i64 i, .int .i64 0, .int .i64 i, .int .i64 0, .int .i64 i, .int .i64 0, .int .i64 i, .int .i64 0, .int .i64 i, .int .i64 0] 170, .blk v3 [.string (str [c])] 9, .blk v4 [.string (str []), .string (str []), .bool false, .bool false, .int .i64 0, .int .i64 0, .int .i64 0, .int .i64 0, .int .i64 0, .string (str []), .int .i64 0, .int .i64 0, .int .i64 0, .int .i64 0, .slice none 0 0] 60, .blk v5 [.bool false] 4], s, fun T w s => ?_⟩
    replace s : St W (Tb gt rows :: .blk b1 [.pointer (some ⟨gt, 0, none⟩)] 24 :: .blk b2 [.string (str (vkey c i))] 9 :: .blk b3 [.string (str (vkey0 c ++ [0]))] 9 :: .blk gr [.pointer (some ⟨gt, 0, none⟩), .int .i64 7, .int .i64 0, .int .i64 1, .string (str [98]), .int .i64 i, .int .i64 0, .int .i64 i, .int .i64 0, .int .i64 i, .int .i64 0, .int .i64 i, .int .i64 0, .int .i64 i, .int .i64 0] 170 :: .blk v3 [.string (str [c])] 9 :: .blk v4 [.string (str []), .string (str []), .bool false, .bool false, .int .i64 0, .int .i64 0, .int .i64 0, .int .i64 0, .int .i64 0, .string (str []), .int .i64 0, .int .i64 0, .int .i64 0, .int .i64 0, .slice none 0 0] 60 :: .blk v5 [.bool false] 4 :: T) w := s
    refine J.wp_block ?_
    refine J.wp_seq ?_
    refine J.wp_region_lit ?_
    refine J.st_val (.string (str (vkey x.1 x.2.1))) ha (by kernel_rfl) (by kernel_rfl) ?_
    clear ha; intro a ha
    refine J.st_call ha (by kernel_rfl) (by kernel_rfl) ((rv_spec hxo) _ _ _ s) ?_
    rintro _ w ⟨rfl, s⟩
    refine ⟨_, rfl, ?_⟩; clear ha; intro a ha
    refine J.st_val (.tuple #[.string (str [x.1]), .agg #[.int .i64 x.2.1, .int .i64 0], .int .i64 0]) ha (by kernel_rfl) (by kernel_rfl) ?_
    clear ha; intro a ha
    refine J.st_val (.string (str [x.1])) ha (by kernel_rfl) (by kernel_rfl) ?_
    clear ha; intro a ha
    refine J.st_val (.agg #[.int .i64 x.2.1, .int .i64 0]) ha (by kernel_rfl) (by kernel_rfl) ?_
    clear ha; intro a ha
    refine J.st_val (.int .i64 0) ha (by kernel_rfl) (by kernel_rfl) ?_
    clear ha; intro a ha
    refine J.st_ex ha (by kernel_rfl) (ex_alloc [.int .i64 0, .int .i64 0] s rfl (Tryz.zeroValue33 _) (by kernel_rfl)) ?_
    clear ha; rintro _ w a ⟨g4, rfl, s⟩ ha
    refine J.st_val (.string (str [x.1])) ha (by kernel_rfl) (by kernel_rfl) ?_
    clear ha; intro a ha
    refine J.st_exd ha (by kernel_rfl) (ex_store (of_ := 0) 0 [.int .i64 x.2.1, .int .i64 0] s rfl rfl (by kernel_rfl) (by kernel_rfl) (Tryz.sizeOf33 _) rfl (by simp [Value.oneCell']) (Nat.le_of_ble_eq_true rfl)) ?_
    clear ha; rintro w a s ha
    replace s : St W (.blk g4 [.int .i64 x.2.1, .int .i64 0] 33 :: Tb gt rows :: .blk b1 [.pointer (some ⟨gt, 0, none⟩)] 24 :: .blk b2 [.string (str (vkey c i))] 9 :: .blk b3 [.string (str (vkey0 c ++ [0]))] 9 :: .blk gr [.pointer (some ⟨gt, 0, none⟩), .int .i64 7, .int .i64 0, .int .i64 1, .string (str [98]), .int .i64 i, .int .i64 0, .int .i64 i, .int .i64 0, .int .i64 i, .int .i64 0, .int .i64 i, .int .i64 0, .int .i64 i, .int .i64 0] 170 :: .blk v3 [.string (str [c])] 9 :: .blk v4 [.string (str []), .string (str []), .bool false, .bool false, .int .i64 0, .int .i64 0, .int .i64 0, .int .i64 0, .int .i64 0, .string (str []), .int .i64 0, .int .i64 0, .int .i64 0, .int .i64 0, .slice none 0 0] 60 :: .blk v5 [.bool false] 4 :: T) w := s
    refine J.st_val (.int .i64 0) ha (by kernel_rfl) (by kernel_rfl) ?_
    clear ha; intro a ha
    refine J.wpList_nil ?_
    refine then_normal ?_
    refine J.wp_seq ?_
    refine J.wp_region_lit ?_
    refine J.st_val (.string (str (vtx x.2.2))) ha (by kernel_rfl) (by kernel_rfl) ?_
    clear ha; intro a ha
    refine J.st_call ha (by kernel_rfl) (by kernel_rfl) ((Vm.p_tv x.2.2) _ _ _ s) ?_
    rintro _ w ⟨rfl, s⟩
    refine ⟨_, rfl, ?_⟩; clear ha; intro a ha
    refine J.st_val (.tuple #[.string (str []), .bool x.2.2, .int .i64 0]) ha (by kernel_rfl) (by kernel_rfl) ?_
    clear ha; intro a ha
    refine J.st_val (.string (str [])) ha (by kernel_rfl) (by kernel_rfl) ?_
    clear ha; intro a ha
    refine J.st_val (.bool x.2.2) ha (by kernel_rfl) (by kernel_rfl) ?_
    clear ha; intro a ha
    refine J.st_val (.int .i64 0) ha (by kernel_rfl) (by kernel_rfl) ?_
    clear ha; intro a ha
    refine J.st_val (.string (str [])) ha (by kernel_rfl) (by kernel_rfl) ?_
    clear ha; intro a ha
    refine J.st_val (.bool x.2.2) ha (by kernel_rfl) (by kernel_rfl) ?_
    clear ha; intro a ha
    refine J.st_val (.int .i64 0) ha (by kernel_rfl) (by kernel_rfl) ?_
    clear ha; intro a ha
    refine J.wpList_nil ?_
    refine then_normal ?_
    refine J.wp_seq ?_
    refine J.wp_region_lit ?_
    refine J.st_val (.int .i64 0) ha (by kernel_rfl) (by kernel_rfl) ?_
    clear ha; intro a ha
    refine J.st_val (.bool true) ha (by kernel_rfl) (by kernel_rfl) ?_
    clear ha; intro a ha
    refine J.st_val (.bool true) ha (by kernel_rfl) (by kernel_rfl) ?_
    clear ha; intro a ha
    refine J.st_val (.int .i64 0) ha (by kernel_rfl) (by kernel_rfl) ?_
    clear ha; intro a ha
    refine J.st_val (.bool true) ha (by kernel_rfl) (by kernel_rfl) ?_
    clear ha; intro a ha
    refine J.st_val (.bool true) ha (by kernel_rfl) (by kernel_rfl) ?_
    clear ha; intro a ha
    refine J.wpList_nil ?_
    refine then_normal ?_
    refine J.wp_true ha rfl (by kernel_rfl) ?_
    refine J.wp_seq ?_
    refine J.wp_region_lit ?_
    refine J.st_val (.string (str [c])) ha (by kernel_rfl) (run_load1 (of_ := 0) (s.blkIs 6 rfl) rfl (by kernel_rfl) Tryz.isAgg9 rfl) ?_
    clear ha; intro a ha
    refine J.st_val (.string (str [])) ha (by kernel_rfl) (by kernel_rfl) ?_
    clear ha; intro a ha
    refine J.st_val (.bool x.2.2) ha (by kernel_rfl) (by kernel_rfl) ?_
    clear ha; intro a ha
    refine J.st_val (.agg #[.int .i64 x.2.1, .int .i64 0]) ha (by kernel_rfl) (run_loadN (of_ := 0) [.int .i64 x.2.1, .int .i64 0] (s.blkIs 0 rfl) rfl (by kernel_rfl) Tryz.isAgg33 Tryz.sizeOf33 rfl (Nat.le_of_ble_eq_true rfl)) ?_
    clear ha; intro a ha
    refine J.st_val (.agg #[.string (str [c]), .string (str []), .bool x.2.2, .bool false, .int .i64 x.2.1, .int .i64 0, .int .i64 0, .int .i64 0, .int .i64 0, .string (str []), .int .i64 0, .int .i64 0, .int .i64 0, .int .i64 0, .slice none 0 0]) ha (by kernel_rfl) (by kernel_rfl) ?_
    clear ha; intro a ha
    refine J.st_exd ha (by kernel_rfl) (ex_store (of_ := 0) 7 [.string (str [c]), .string (str []), .bool x.2.2, .bool false, .int .i64 x.2.1, .int .i64 0, .int .i64 0, .int .i64 0, .int .i64 0, .string (str []), .int .i64 0, .int .i64 0, .int .i64 0, .int .i64 0, .slice none 0 0] s rfl rfl (by kernel_rfl) (by kernel_rfl) (Tryz.sizeOf60 _) rfl (by simp [Value.oneCell']) (Nat.le_of_ble_eq_true rfl)) ?_
    clear ha; rintro w a s ha
    replace s : St W (.blk g4 [.int .i64 x.2.1, .int .i64 0] 33 :: Tb gt rows :: .blk b1 [.pointer (some ⟨gt, 0, none⟩)] 24 :: .blk b2 [.string (str (vkey c i))] 9 :: .blk b3 [.string (str (vkey0 c ++ [0]))] 9 :: .blk gr [.pointer (some ⟨gt, 0, none⟩), .int .i64 7, .int .i64 0, .int .i64 1, .string (str [98]), .int .i64 i, .int .i64 0, .int .i64 i, .int .i64 0, .int .i64 i, .int .i64 0, .int .i64 i, .int .i64 0, .int .i64 i, .int .i64 0] 170 :: .blk v3 [.string (str [c])] 9 :: .blk v4 [.string (str [c]), .string (str []), .bool x.2.2, .bool false, .int .i64 x.2.1, .int .i64 0, .int .i64 0, .int .i64 0, .int .i64 0, .string (str []), .int .i64 0, .int .i64 0, .int .i64 0, .int .i64 0, .slice none 0 0] 60 :: .blk v5 [.bool false] 4 :: T) w := s
    refine J.st_exd ha (by kernel_rfl) (ex_store (of_ := 0) 8 [.bool true] s rfl rfl (by kernel_rfl) (by kernel_rfl) (Tryz.sizeOf4 _) rfl (by simp [Value.oneCell']) (Nat.le_of_ble_eq_true rfl)) ?_
    clear ha; rintro w a s ha
    replace s : St W (.blk g4 [.int .i64 x.2.1, .int .i64 0] 33 :: Tb gt rows :: .blk b1 [.pointer (some ⟨gt, 0, none⟩)] 24 :: .blk b2 [.string (str (vkey c i))] 9 :: .blk b3 [.string (str (vkey0 c ++ [0]))] 9 :: .blk gr [.pointer (some ⟨gt, 0, none⟩), .int .i64 7, .int .i64 0, .int .i64 1, .string (str [98]), .int .i64 i, .int .i64 0, .int .i64 i, .int .i64 0, .int .i64 i, .int .i64 0, .int .i64 i, .int .i64 0, .int .i64 i, .int .i64 0] 170 :: .blk v3 [.string (str [c])] 9 :: .blk v4 [.string (str [c]), .string (str []), .bool x.2.2, .bool false, .int .i64 x.2.1, .int .i64 0, .int .i64 0, .int .i64 0, .int .i64 0, .string (str []), .int .i64 0, .int .i64 0, .int .i64 0, .int .i64 0, .slice none 0 0] 60 :: .blk v5 [.bool true] 4 :: T) w := s
    refine J.wpList_nil ?_
    refine then_normal ?_
    refine J.wp_ret ?_
    refine block_ret ?_
    replace s := (((((((s.at_ (j := 8) rfl).at_ (j := 8) rfl).at_ (j := 8) rfl).at_ (j := 8) rfl).at_ (j := 8) rfl).at_ (j := 8) rfl).at_ (j := 8) rfl).at_ (j := 8) rfl
    replace s : St W (Tb gt rows :: .blk b1 [.pointer (some ⟨gt, 0, none⟩)] 24 :: .blk b2 [.string (str (vkey c i))] 9 :: .blk b3 [.string (str (vkey0 c ++ [0]))] 9 :: .blk gr [.pointer (some ⟨gt, 0, none⟩), .int .i64 7, .int .i64 0, .int .i64 1, .string (str [98]), .int .i64 i, .int .i64 0, .int .i64 i, .int .i64 0, .int .i64 i, .int .i64 0, .int .i64 i, .int .i64 0, .int .i64 i, .int .i64 0] 170 :: .blk v3 [.string (str [c])] 9 :: .blk v4 [.string (str [c]), .string (str []), .bool x.2.2, .bool false, .int .i64 x.2.1, .int .i64 0, .int .i64 0, .int .i64 0, .int .i64 0, .string (str []), .int .i64 0, .int .i64 0, .int .i64 0, .int .i64 0, .slice none 0 0] 60 :: .blk v5 [.bool true] 4 :: T) w := s.keep 8 1
    replace hp : i_ = 0 := hp; subst hp
    exact ⟨x, ⟨rfl, by rw [List.head?_eq_getElem?]; exact hx⟩, s⟩
  · clear ha s; rintro D u a w hp s ha
    replace ha : J.Has [J.mark D] a 68 [(0, .pointer (some ⟨gr, 0, none⟩)), (3, .pointer (some ⟨v3, 0, none⟩)), (4, .pointer (some ⟨v4, 0, none⟩)), (5, .pointer (some ⟨v5, 0, none⟩)), (40, .func (.func 97) #[] #[.pointer (some ⟨b1, 0, none⟩), .pointer (some ⟨b2, 0, none⟩), .pointer (some ⟨b3, 0, none⟩)])] := ha
    replace s : St W (Tb gt rows :: .blk b1 [.pointer (some ⟨gt, 0, none⟩)] 24 :: .blk b2 [.string (str (vkey c i))] 9 :: .blk b3 [.string (str (vkey0 c ++ [0]))] 9 :: .blk gr [.pointer (some ⟨gt, 0, none⟩), .int .i64 7, .int .i64 0, .int .i64 1, .string (str [98]), .int .i64 i, .int .i64 0, .int .i64 i, .int .i64 0, .int .i64 i, .int .i64 0, .int .i64 i, .int .i64 0, .int .i64 i, .int .i64 0] 170 :: .blk v3 [.string (str [c])] 9 :: .blk v4 [.string (str []), .string (str []), .bool false, .bool false, .int .i64 0, .int .i64 0, .int .i64 0, .int .i64 0, .int .i64 0, .string (str []), .int .i64 0, .int .i64 0, .int .i64 0, .int .i64 0, .slice none 0 0] 60 :: .blk v5 [.bool false] 4 :: J.objC D (.deferred (some [])) :: L) w := s
    refine block_normal ?_
    refine then_normal ?_
    refine J.wp_seq ?_
    refine J.wp_region_lit ?_
    refine J.st_val (.string (str [c])) ha (by kernel_rfl) (run_load1 (of_ := 0) (s.blkIs 5 rfl) rfl (by kernel_rfl) Tryz.isAgg9 rfl) ?_
    clear ha; intro a ha
    refine J.st_val (.agg #[.string (str [c]), .string (str []), .bool false, .bool false, .int .i64 0, .int .i64 0, .int .i64 0, .int .i64 0, .int .i64 0, .string (str []), .int .i64 0, .int .i64 0, .int .i64 0, .int .i64 0, .slice none 0 0]) ha (by kernel_rfl) (by kernel_rfl) ?_
    clear ha; intro a ha
    refine J.st_exd ha (by kernel_rfl) (ex_store (of_ := 0) 6 [.string (str [c]), .string (str []), .bool false, .bool false, .int .i64 0, .int .i64 0, .int .i64 0, .int .i64 0, .int .i64 0, .string (str []), .int .i64 0, .int .i64 0, .int .i64 0, .int .i64 0, .slice none 0 0] s rfl rfl (by kernel_rfl) (by kernel_rfl) (Tryz.sizeOf60 _) rfl (by simp [Value.oneCell']) (Nat.le_of_ble_eq_true rfl)) ?_
    clear ha; rintro w a s ha
    replace s : St W (Tb gt rows :: .blk b1 [.pointer (some ⟨gt, 0, none⟩)] 24 :: .blk b2 [.string (str (vkey c i))] 9 :: .blk b3 [.string (str (vkey0 c ++ [0]))] 9 :: .blk gr [.pointer (some ⟨gt, 0, none⟩), .int .i64 7, .int .i64 0, .int .i64 1, .string (str [98]), .int .i64 i, .int .i64 0, .int .i64 i, .int .i64 0, .int .i64 i, .int .i64 0, .int .i64 i, .int .i64 0, .int .i64 i, .int .i64 0] 170 :: .blk v3 [.string (str [c])] 9 :: .blk v4 [.string (str [c]), .string (str []), .bool false, .bool false, .int .i64 0, .int .i64 0, .int .i64 0, .int .i64 0, .int .i64 0, .string (str []), .int .i64 0, .int .i64 0, .int .i64 0, .int .i64 0, .slice none 0 0] 60 :: .blk v5 [.bool false] 4 :: J.objC D (.deferred (some [])) :: L) w := s
    refine J.st_exd ha (by kernel_rfl) (ex_store (of_ := 0) 7 [.bool false] s rfl rfl (by kernel_rfl) (by kernel_rfl) (Tryz.sizeOf4 _) rfl (by simp [Value.oneCell']) (Nat.le_of_ble_eq_true rfl)) ?_
    clear ha; rintro w a s ha
    replace s : St W (Tb gt rows :: .blk b1 [.pointer (some ⟨gt, 0, none⟩)] 24 :: .blk b2 [.string (str (vkey c i))] 9 :: .blk b3 [.string (str (vkey0 c ++ [0]))] 9 :: .blk gr [.pointer (some ⟨gt, 0, none⟩), .int .i64 7, .int .i64 0, .int .i64 1, .string (str [98]), .int .i64 i, .int .i64 0, .int .i64 i, .int .i64 0, .int .i64 i, .int .i64 0, .int .i64 i, .int .i64 0, .int .i64 i, .int .i64 0] 170 :: .blk v3 [.string (str [c])] 9 :: .blk v4 [.string (str [c]), .string (str []), .bool false, .bool false, .int .i64 0, .int .i64 0, .int .i64 0, .int .i64 0, .int .i64 0, .string (str []), .int .i64 0, .int .i64 0, .int .i64 0, .int .i64 0, .slice none 0 0] 60 :: .blk v5 [.bool false] 4 :: J.objC D (.deferred (some [])) :: L) w := s
    refine J.wpList_nil ?_
    refine then_normal ?_
    refine J.wp_ret ?_
    replace s := s.at_ (j := 8) rfl
    replace s : St W (J.objC D (.deferred (some [])) :: Tb gt rows :: .blk b1 [.pointer (some ⟨gt, 0, none⟩)] 24 :: .blk b2 [.string (str (vkey c i))] 9 :: .blk b3 [.string (str (vkey0 c ++ [0]))] 9 :: .blk gr [.pointer (some ⟨gt, 0, none⟩), .int .i64 7, .int .i64 0, .int .i64 1, .string (str [98]), .int .i64 i, .int .i64 0, .int .i64 i, .int .i64 0, .int .i64 i, .int .i64 0, .int .i64 i, .int .i64 0, .int .i64 i, .int .i64 0] 170 :: .blk v3 [.string (str [c])] 9 :: .blk v4 [.string (str [c]), .string (str []), .bool false, .bool false, .int .i64 0, .int .i64 0, .int .i64 0, .int .i64 0, .int .i64 0, .string (str []), .int .i64 0, .int .i64 0, .int .i64 0, .int .i64 0, .slice none 0 0] 60 :: .blk v5 [.bool false] 4 :: L) w := s
    refine J.ret_with1 (v := .tuple #[.agg #[.string (str [c]), .string (str []), .bool false, .bool false, .int .i64 0, .int .i64 0, .int .i64 0, .int .i64 0, .int .i64 0, .string (str []), .int .i64 0, .int .i64 0, .int .i64 0, .int .i64 0, .slice none 0 0], .bool false]) ha s (fun w s => (results_2 (a := { a with defers := [] }) rfl ha.bare (res_cellN (s.blkIs 6 rfl) (by kernel_rfl) (by kernel_rfl) Tryz.isAgg60 Tryz.sizeOf60 rfl) (res_cell1 (s.blkIs 7 rfl) (by kernel_rfl) (by kernel_rfl) Tryz.isAgg4 rfl))) (fun w s => ?_)
    replace s := s.at_ (j := 4) rfl
    replace s : St W (.blk gr [.pointer (some ⟨gt, 0, none⟩), .int .i64 7, .int .i64 0, .int .i64 1, .string (str [98]), .int .i64 i, .int .i64 0, .int .i64 i, .int .i64 0, .int .i64 i, .int .i64 0, .int .i64 i, .int .i64 0, .int .i64 i, .int .i64 0] 170 :: Tb gt rows :: L) w := s.keep 2 6
    have hvn : vs = [] := by
      have hq : ((seg rows (vkey c i) (vkey0 c ++ [0])).map row2).length = 0 := hp
      rw [hseg] at hq; simpa using hq
    subst hvn
    exact ⟨rfl, s⟩
  · clear ha s; rintro co_ D x a w - hp s ha
    obtain ⟨rfl, hp⟩ := hp
    replace ha : J.Has [J.mark D] a 68 [(0, .pointer (some ⟨gr, 0, none⟩)), (3, .pointer (some ⟨v3, 0, none⟩)), (4, .pointer (some ⟨v4, 0, none⟩)), (5, .pointer (some ⟨v5, 0, none⟩)), (40, .func (.func 97) #[] #[.pointer (some ⟨b1, 0, none⟩), .pointer (some ⟨b2, 0, none⟩), .pointer (some ⟨b3, 0, none⟩)])] := ha
    replace s : St W (Tb gt rows :: .blk b1 [.pointer (some ⟨gt, 0, none⟩)] 24 :: .blk b2 [.string (str (vkey c i))] 9 :: .blk b3 [.string (str (vkey0 c ++ [0]))] 9 :: .blk gr [.pointer (some ⟨gt, 0, none⟩), .int .i64 7, .int .i64 0, .int .i64 1, .string (str [98]), .int .i64 i, .int .i64 0, .int .i64 i, .int .i64 0, .int .i64 i, .int .i64 0, .int .i64 i, .int .i64 0, .int .i64 i, .int .i64 0] 170 :: .blk v3 [.string (str [c])] 9 :: .blk v4 [.string (str [c]), .string (str []), .bool x.2.2, .bool false, .int .i64 x.2.1, .int .i64 0, .int .i64 0, .int .i64 0, .int .i64 0, .string (str []), .int .i64 0, .int .i64 0, .int .i64 0, .int .i64 0, .slice none 0 0] 60 :: .blk v5 [.bool true] 4 :: J.objC D (.deferred (some [])) :: L) w := s
    refine J.wp_ret ?_
    refine block_ret ?_
    refine then_ret ?_
    replace s := s.at_ (j := 8) rfl
    replace s : St W (J.objC D (.deferred (some [])) :: Tb gt rows :: .blk b1 [.pointer (some ⟨gt, 0, none⟩)] 24 :: .blk b2 [.string (str (vkey c i))] 9 :: .blk b3 [.string (str (vkey0 c ++ [0]))] 9 :: .blk gr [.pointer (some ⟨gt, 0, none⟩), .int .i64 7, .int .i64 0, .int .i64 1, .string (str [98]), .int .i64 i, .int .i64 0, .int .i64 i, .int .i64 0, .int .i64 i, .int .i64 0, .int .i64 i, .int .i64 0, .int .i64 i, .int .i64 0] 170 :: .blk v3 [.string (str [c])] 9 :: .blk v4 [.string (str [c]), .string (str []), .bool x.2.2, .bool false, .int .i64 x.2.1, .int .i64 0, .int .i64 0, .int .i64 0, .int .i64 0, .string (str []), .int .i64 0, .int .i64 0, .int .i64 0, .int .i64 0, .slice none 0 0] 60 :: .blk v5 [.bool true] 4 :: L) w := s
    refine J.ret_with1 (v := .tuple #[.agg #[.string (str [c]), .string (str []), .bool x.2.2, .bool false, .int .i64 x.2.1, .int .i64 0, .int .i64 0, .int .i64 0, .int .i64 0, .string (str []), .int .i64 0, .int .i64 0, .int .i64 0, .int .i64 0, .slice none 0 0], .bool true]) ha s (fun w s => (results_2 (a := { a with defers := [] }) rfl ha.bare (res_cellN (s.blkIs 6 rfl) (by kernel_rfl) (by kernel_rfl) Tryz.isAgg60 Tryz.sizeOf60 rfl) (res_cell1 (s.blkIs 7 rfl) (by kernel_rfl) (by kernel_rfl) Tryz.isAgg4 rfl))) (fun w s => ?_)
    replace s := s.at_ (j := 4) rfl
    replace s : St W (.blk gr [.pointer (some ⟨gt, 0, none⟩), .int .i64 7, .int .i64 0, .int .i64 1, .string (str [98]), .int .i64 i, .int .i64 0, .int .i64 i, .int .i64 0, .int .i64 i, .int .i64 0, .int .i64 i, .int .i64 0, .int .i64 i, .int .i64 0] 170 :: Tb gt rows :: L) w := s.keep 2 6
    cases vs with
    | nil => cases hp
    | cons y t => cases hp; exact ⟨rfl, s⟩

set_option maxHeartbeats 1000000 in
theorem key_spec (W : World) (L : List Chunk) (w : World) (gr gt : Nat) (rows : List Rw) (i : Int) (hi : 1 ≤ i ∧ i ≤ 131) (c : UInt8) (hc : c = 97 ∨ c = 98) (hti : tget rows [105, c, 0, 0] = none) (vs : List V3) (hseg : seg rows (vkey c i) (vkey0 c ++ [0]) = vs.map vrow) (hv : ∀ x ∈ vs, VOk x) (s : St W (.blk gr [.pointer (some ⟨gt, 0, none⟩), .int .i64 7, .int .i64 0, .int .i64 1, .string (str [98]), .int .i64 i, .int .i64 0, .int .i64 i, .int .i64 0, .int .i64 i, .int .i64 0, .int .i64 i, .int .i64 0, .int .i64 i, .int .i64 0] 170 :: Tb gt rows :: L) w) :
    Calls Tryz.prog 41 #[.pointer (some ⟨gr, 0, none⟩), .string (str [c])] w fun e w' => e = .returned (keyR c i vs) ∧ St W (.blk gr [.pointer (some ⟨gt, 0, none⟩), .int .i64 7, .int .i64 0, .int .i64 1, .string (str [98]), .int .i64 i, .int .i64 0, .int .i64 i, .int .i64 0, .int .i64 i, .int .i64 0, .int .i64 i, .int .i64 0, .int .i64 i, .int .i64 0] 170 :: Tb gt rows :: L) w' := by
  refine enter_args (l := [.pointer (some ⟨gr, 0, none⟩), .string (str [c])]) Tryz.func41 rfl rfl (Nat.le_of_ble_eq_true rfl) ?_
  intro a ha; replace ha : Has a 113 [(0, .pointer (some ⟨gr, 0, none⟩)), (1, .string (str [c]))] := ha
  refine wp_seq ?_
  refine wp_region_lit ?_
  refine st_ex ha (by kernel_rfl) (ex_alloc [.string (str []), .string (str []), .bool false, .bool false, .int .i64 0, .int .i64 0, .int .i64 0, .int .i64 0, .int .i64 0, .string (str []), .int .i64 0, .int .i64 0, .int .i64 0, .int .i64 0, .slice none 0 0] s rfl (Tryz.zeroValue60 _) (by kernel_rfl)) ?_
  clear ha; rintro _ w a ⟨g1, rfl, s⟩ ha
  refine st_val (.int .i64 0) ha (by kernel_rfl) (by kernel_rfl) ?_
  clear ha; intro a ha
  refine wpList_nil ?_
  refine then_normal ?_
  refine wp_seq ?_
  refine wp_region_lit ?_
  refine st_val (.pointer (some ⟨gr, 0, none⟩)) ha (by kernel_rfl) (by kernel_rfl) ?_
  clear ha; intro a ha
  refine st_val (.string (str [c])) ha (by kernel_rfl) (by kernel_rfl) ?_
  clear ha; intro a ha
  replace s := (s.at_ (j := 2) rfl).at_ (j := 2) rfl
  replace s : St W (.blk gr [.pointer (some ⟨gt, 0, none⟩), .int .i64 7, .int .i64 0, .int .i64 1, .string (str [98]), .int .i64 i, .int .i64 0, .int .i64 i, .int .i64 0, .int .i64 i, .int .i64 0, .int .i64 i, .int .i64 0, .int .i64 i, .int .i64 0] 170 :: Tb gt rows :: .blk g1 [.string (str []), .string (str []), .bool false, .bool false, .int .i64 0, .int .i64 0, .int .i64 0, .int .i64 0, .int .i64 0, .string (str []), .int .i64 0, .int .i64 0, .int .i64 0, .int .i64 0, .slice none 0 0] 60 :: L) w := s
  refine st_call ha (by kernel_rfl) (by kernel_rfl) (intent_spec W _ _ gr gt rows i hi c hc hti s) ?_
  rintro _ w ⟨rfl, s⟩
  refine ⟨_, rfl, ?_⟩; clear ha; intro a ha
  refine st_val (.tuple #[.agg #[.int .i64 0, .int .i64 0, .int .i64 0, .string (str []), .int .i64 0, .int .i64 0, .int .i64 0, .int .i64 0, .slice none 0 0], .bool false]) ha (by kernel_rfl) (by kernel_rfl) ?_
  clear ha; intro a ha
  refine st_val (.agg #[.int .i64 0, .int .i64 0, .int .i64 0, .string (str []), .int .i64 0, .int .i64 0, .int .i64 0, .int .i64 0, .slice none 0 0]) ha (by kernel_rfl) (by kernel_rfl) ?_
  clear ha; intro a ha
  refine st_val (.bool false) ha (by kernel_rfl) (by kernel_rfl) ?_
  clear ha; intro a ha
  refine st_ex ha (by kernel_rfl) (ex_alloc [.int .i64 0, .int .i64 0, .int .i64 0, .string (str []), .int .i64 0, .int .i64 0, .int .i64 0, .int .i64 0, .slice none 0 0] s rfl (Tryz.zeroValue51 _) (by kernel_rfl)) ?_
  clear ha; rintro _ w a ⟨g2, rfl, s⟩ ha
  refine st_exd ha (by kernel_rfl) (ex_store (of_ := 0) 0 [.int .i64 0, .int .i64 0, .int .i64 0, .string (str []), .int .i64 0, .int .i64 0, .int .i64 0, .int .i64 0, .slice none 0 0] s rfl rfl (by kernel_rfl) (by kernel_rfl) (Tryz.sizeOf51 _) rfl (by simp [Value.oneCell']) (Nat.le_of_ble_eq_true rfl)) ?_
  clear ha; rintro w a s ha
  replace s : St W (.blk g2 [.int .i64 0, .int .i64 0, .int .i64 0, .string (str []), .int .i64 0, .int .i64 0, .int .i64 0, .int .i64 0, .slice none 0 0] 51 :: .blk gr [.pointer (some ⟨gt, 0, none⟩), .int .i64 7, .int .i64 0, .int .i64 1, .string (str [98]), .int .i64 i, .int .i64 0, .int .i64 i, .int .i64 0, .int .i64 i, .int .i64 0, .int .i64 i, .int .i64 0, .int .i64 i, .int .i64 0] 170 :: Tb gt rows :: .blk g1 [.string (str []), .string (str []), .bool false, .bool false, .int .i64 0, .int .i64 0, .int .i64 0, .int .i64 0, .int .i64 0, .string (str []), .int .i64 0, .int .i64 0, .int .i64 0, .int .i64 0, .slice none 0 0] 60 :: L) w := s
  refine st_val (.bool false) ha (by kernel_rfl) (by kernel_rfl) ?_
  clear ha; intro a ha
  refine wpList_nil ?_
  refine then_normal ?_
  refine wp_seq ?_
  refine wp_region_head 9 (fun w => True) (by kernel_rfl) (by decide) ?_
  replace s := s.drew; generalize _root_.Go.World.drew _ = w at s ⊢
  have hS : (fun w => True) w := trivial
  refine hd_val (i := 0) (.bool false) ha rfl (by kernel_rfl) (fun _ _ _ h => h) (by kernel_rfl) (fun w hS => (by kernel_rfl)) hS ?_
  clear ha; intro a ha
  refine hd_val (i := 1) (.bool false) ha rfl (by kernel_rfl) (fun _ _ _ h => h) (by kernel_rfl) (fun w hS => (by kernel_rfl)) hS ?_
  clear ha; intro a ha
  refine hd_pass (i := 2) ha rfl (by kernel_rfl) (fun _ _ _ h => h) (by kernel_rfl) hS ?_
  clear ha; intro a ha
  refine hd_pass (i := 3) ha rfl (by kernel_rfl) (fun _ _ _ h => h) (by kernel_rfl) hS ?_
  clear ha; intro a ha
  refine hd_pass (i := 4) ha rfl (by kernel_rfl) (fun _ _ _ h => h) (by kernel_rfl) hS ?_
  clear ha; intro a ha
  refine hd_pass (i := 5) ha rfl (by kernel_rfl) (fun _ _ _ h => h) (by kernel_rfl) hS ?_
  clear ha; intro a ha
  refine hd_pass (i := 6) ha rfl (by kernel_rfl) (fun _ _ _ h => h) (by kernel_rfl) hS ?_
  clear ha; intro a ha
  refine hd_pass (i := 7) ha rfl (by kernel_rfl) (fun _ _ _ h => h) (by kernel_rfl) hS ?_
  clear ha; intro a ha
  refine hd_pass (i := 8) ha rfl (by kernel_rfl) (fun _ _ _ h => h) (by kernel_rfl) hS ?_
  clear ha; intro a ha
  refine Head.done (by kernel_rfl) ?_
  clear hS; simp only [List.drop_succ_cons, List.drop_zero]
  refine st_pass ha (by kernel_rfl) ?_
  clear ha; intro a ha
  refine st_val (.bool false) ha (by kernel_rfl) (by kernel_rfl) ?_
  clear ha; intro a ha
  refine st_val (.bool false) ha (by kernel_rfl) (by kernel_rfl) ?_
  clear ha; intro a ha
  refine wpList_nil ?_
  refine then_normal ?_
  refine wp_seq ?_
  refine wp_block ?_
  refine wp_seq ?_
  refine wp_region_head 9 (fun w => True) (by kernel_rfl) (by decide) ?_
  replace s := s.drew; generalize _root_.Go.World.drew _ = w at s ⊢
  have hS : (fun w => True) w := trivial
  refine hd_val (i := 0) (.bool false) ha rfl (by kernel_rfl) (fun _ _ _ h => h) (by kernel_rfl) (fun w hS => (by kernel_rfl)) hS ?_
  clear ha; intro a ha
  refine hd_val (i := 1) (.bool false) ha rfl (by kernel_rfl) (fun _ _ _ h => h) (by kernel_rfl) (fun w hS => (by kernel_rfl)) hS ?_
  clear ha; intro a ha
  refine hd_pass (i := 2) ha rfl (by kernel_rfl) (fun _ _ _ h => h) (by kernel_rfl) hS ?_
  clear ha; intro a ha
  refine hd_pass (i := 3) ha rfl (by kernel_rfl) (fun _ _ _ h => h) (by kernel_rfl) hS ?_
  clear ha; intro a ha
  refine hd_pass (i := 4) ha rfl (by kernel_rfl) (fun _ _ _ h => h) (by kernel_rfl) hS ?_
  clear ha; intro a ha
  refine hd_pass (i := 5) ha rfl (by kernel_rfl) (fun _ _ _ h => h) (by kernel_rfl) hS ?_
  clear ha; intro a ha
  refine hd_pass (i := 6) ha rfl (by kernel_rfl) (fun _ _ _ h => h) (by kernel_rfl) hS ?_
  clear ha; intro a ha
  refine hd_pass (i := 7) ha rfl (by kernel_rfl) (fun _ _ _ h => h) (by kernel_rfl) hS ?_
  clear ha; intro a ha
  refine hd_pass (i := 8) ha rfl (by kernel_rfl) (fun _ _ _ h => h) (by kernel_rfl) hS ?_
  clear ha; intro a ha
  refine Head.done (by kernel_rfl) ?_
  clear hS; simp only [List.drop_succ_cons, List.drop_zero]
  refine st_pass ha (by kernel_rfl) ?_
  clear ha; intro a ha
  refine st_val (.bool false) ha (by kernel_rfl) (by kernel_rfl) ?_
  clear ha; intro a ha
  refine st_val (.bool false) ha (by kernel_rfl) (by kernel_rfl) ?_
  clear ha; intro a ha
  refine wpList_nil ?_
  refine then_normal ?_
  refine wp_false ha rfl (by kernel_rfl) ?_
  refine wp_seq ?_
  refine wp_region_head 9 (fun w => True) (by kernel_rfl) (by decide) ?_
  replace s := s.drew; generalize _root_.Go.World.drew _ = w at s ⊢
  have hS : (fun w => True) w := trivial
  refine hd_val (i := 0) (.bool false) ha rfl (by kernel_rfl) (fun _ _ _ h => h) (by kernel_rfl) (fun w hS => (by kernel_rfl)) hS ?_
  clear ha; intro a ha
  refine hd_val (i := 1) (.bool false) ha rfl (by kernel_rfl) (fun _ _ _ h => h) (by kernel_rfl) (fun w hS => (by kernel_rfl)) hS ?_
  clear ha; intro a ha
  refine hd_pass (i := 2) ha rfl (by kernel_rfl) (fun _ _ _ h => h) (by kernel_rfl) hS ?_
  clear ha; intro a ha
  refine hd_pass (i := 3) ha rfl (by kernel_rfl) (fun _ _ _ h => h) (by kernel_rfl) hS ?_
  clear ha; intro a ha
  refine hd_pass (i := 4) ha rfl (by kernel_rfl) (fun _ _ _ h => h) (by kernel_rfl) hS ?_
  clear ha; intro a ha
  refine hd_pass (i := 5) ha rfl (by kernel_rfl) (fun _ _ _ h => h) (by kernel_rfl) hS ?_
  clear ha; intro a ha
  refine hd_pass (i := 6) ha rfl (by kernel_rfl) (fun _ _ _ h => h) (by kernel_rfl) hS ?_
  clear ha; intro a ha
  refine hd_pass (i := 7) ha rfl (by kernel_rfl) (fun _ _ _ h => h) (by kernel_rfl) hS ?_
  clear ha; intro a ha
  refine hd_pass (i := 8) ha rfl (by kernel_rfl) (fun _ _ _ h => h) (by kernel_rfl) hS ?_
  clear ha; intro a ha
  refine Head.done (by kernel_rfl) ?_
  clear hS; simp only [List.drop_succ_cons, List.drop_zero]
  refine st_pass ha (by kernel_rfl) ?_
  clear ha; intro a ha
  refine st_val (.bool false) ha (by kernel_rfl) (by kernel_rfl) ?_
  clear ha; intro a ha
  refine st_val (.bool false) ha (by kernel_rfl) (by kernel_rfl) ?_
  clear ha; intro a ha
  refine wpList_nil ?_
  refine then_normal ?_
  refine wp_false ha rfl (by kernel_rfl) ?_
  refine wp_seq ?_
  refine wp_region_head 12 (fun w => True) (by kernel_rfl) (by decide) ?_
  replace s := s.drew; generalize _root_.Go.World.drew _ = w at s ⊢
  have hS : (fun w => True) w := trivial
  refine hd_val (i := 0) (.bool false) ha rfl (by kernel_rfl) (fun _ _ _ h => h) (by kernel_rfl) (fun w hS => (by kernel_rfl)) hS ?_
  clear ha; intro a ha
  refine hd_val (i := 1) (.bool false) ha rfl (by kernel_rfl) (fun _ _ _ h => h) (by kernel_rfl) (fun w hS => (by kernel_rfl)) hS ?_
  clear ha; intro a ha
  refine hd_pass (i := 2) ha rfl (by kernel_rfl) (fun _ _ _ h => h) (by kernel_rfl) hS ?_
  clear ha; intro a ha
  refine hd_pass (i := 3) ha rfl (by kernel_rfl) (fun _ _ _ h => h) (by kernel_rfl) hS ?_
  clear ha; intro a ha
  refine hd_val (i := 4) (.bool false) ha rfl (by kernel_rfl) (fun _ _ _ h => h) (by kernel_rfl) (fun w hS => (by kernel_rfl)) hS ?_
  clear ha; intro a ha
  refine hd_val (i := 5) (.bool false) ha rfl (by kernel_rfl) (fun _ _ _ h => h) (by kernel_rfl) (fun w hS => (by kernel_rfl)) hS ?_
  clear ha; intro a ha
  refine hd_pass (i := 6) ha rfl (by kernel_rfl) (fun _ _ _ h => h) (by kernel_rfl) hS ?_
  clear ha; intro a ha
  refine hd_pass (i := 7) ha rfl (by kernel_rfl) (fun _ _ _ h => h) (by kernel_rfl) hS ?_
  clear ha; intro a ha
  refine hd_pass (i := 8) ha rfl (by kernel_rfl) (fun _ _ _ h => h) (by kernel_rfl) hS ?_
  clear ha; intro a ha
  refine hd_pass (i := 9) ha rfl (by kernel_rfl) (fun _ _ _ h => h) (by kernel_rfl) hS ?_
  clear ha; intro a ha
  refine hd_pass (i := 10) ha rfl (by kernel_rfl) (fun _ _ _ h => h) (by kernel_rfl) hS ?_
  clear ha; intro a ha
  refine hd_pass (i := 11) ha rfl (by kernel_rfl) (fun _ _ _ h => h) (by kernel_rfl) hS ?_
  clear ha; intro a ha
  refine Head.done (by kernel_rfl) ?_
  clear hS; simp only [List.drop_succ_cons, List.drop_zero]
  refine st_pass ha (by kernel_rfl) ?_
  clear ha; intro a ha
  refine st_pass ha (by kernel_rfl) ?_
  clear ha; intro a ha
  refine st_val (.bool false) ha (by kernel_rfl) (by kernel_rfl) ?_
  clear ha; intro a ha
  refine st_val (.bool false) ha (by kernel_rfl) (by kernel_rfl) ?_
  clear ha; intro a ha
  refine wpList_nil ?_
  refine then_normal ?_
  refine wp_false ha rfl (by kernel_rfl) ?_
  refine wp_skip ?_
  refine block_normal ?_
  refine then_normal ?_
  refine wp_seq ?_
  refine wp_region_lit ?_
  refine st_val (.pointer (some ⟨gr, 0, none⟩)) ha (by kernel_rfl) (by kernel_rfl) ?_
  clear ha; intro a ha
  refine st_val (.string (str [c])) ha (by kernel_rfl) (by kernel_rfl) ?_
  clear ha; intro a ha
  rcases vs with _ | ⟨x, t⟩
  · skip
    replace s := (s.at_ (j := 2) rfl).at_ (j := 2) rfl
    replace s : St W (.blk gr [.pointer (some ⟨gt, 0, none⟩), .int .i64 7, .int .i64 0, .int .i64 1, .string (str [98]), .int .i64 i, .int .i64 0, .int .i64 i, .int .i64 0, .int .i64 i, .int .i64 0, .int .i64 i, .int .i64 0, .int .i64 i, .int .i64 0] 170 :: Tb gt rows :: .blk g2 [.int .i64 0, .int .i64 0, .int .i64 0, .string (str []), .int .i64 0, .int .i64 0, .int .i64 0, .int .i64 0, .slice none 0 0] 51 :: .blk g1 [.string (str []), .string (str []), .bool false, .bool false, .int .i64 0, .int .i64 0, .int .i64 0, .int .i64 0, .int .i64 0, .string (str []), .int .i64 0, .int .i64 0, .int .i64 0, .int .i64 0, .slice none 0 0] 60 :: L) w := s
    refine st_call ha (by kernel_rfl) (by kernel_rfl) ((version_spec W _ _ gr gt rows i hi c hc [] hseg hv s)) ?_
    rintro _ w ⟨rfl, s⟩
    refine ⟨_, rfl, ?_⟩; clear ha; intro a ha
    refine st_val (.tuple #[.agg #[.string (str [c]), .string (str []), .bool false, .bool false, .int .i64 0, .int .i64 0, .int .i64 0, .int .i64 0, .int .i64 0, .string (str []), .int .i64 0, .int .i64 0, .int .i64 0, .int .i64 0, .slice none 0 0], .bool false]) ha (by kernel_rfl) (by kernel_rfl) ?_
    clear ha; intro a ha
    refine st_val (.agg #[.string (str [c]), .string (str []), .bool false, .bool false, .int .i64 0, .int .i64 0, .int .i64 0, .int .i64 0, .int .i64 0, .string (str []), .int .i64 0, .int .i64 0, .int .i64 0, .int .i64 0, .slice none 0 0]) ha (by kernel_rfl) (by kernel_rfl) ?_
    clear ha; intro a ha
    refine st_val (.bool false) ha (by kernel_rfl) (by kernel_rfl) ?_
    clear ha; intro a ha
    refine st_ex ha (by kernel_rfl) (ex_alloc [.string (str []), .string (str []), .bool false, .bool false, .int .i64 0, .int .i64 0, .int .i64 0, .int .i64 0, .int .i64 0, .string (str []), .int .i64 0, .int .i64 0, .int .i64 0, .int .i64 0, .slice none 0 0] s rfl (Tryz.zeroValue60 _) (by kernel_rfl)) ?_
    clear ha; rintro _ w a ⟨g3, rfl, s⟩ ha
    refine st_exd ha (by kernel_rfl) (ex_store (of_ := 0) 0 [.string (str [c]), .string (str []), .bool false, .bool false, .int .i64 0, .int .i64 0, .int .i64 0, .int .i64 0, .int .i64 0, .string (str []), .int .i64 0, .int .i64 0, .int .i64 0, .int .i64 0, .slice none 0 0] s rfl rfl (by kernel_rfl) (by kernel_rfl) (Tryz.sizeOf60 _) rfl (by simp [Value.oneCell']) (Nat.le_of_ble_eq_true rfl)) ?_
    clear ha; rintro w a s ha
    replace s : St W (.blk g3 [.string (str [c]), .string (str []), .bool false, .bool false, .int .i64 0, .int .i64 0, .int .i64 0, .int .i64 0, .int .i64 0, .string (str []), .int .i64 0, .int .i64 0, .int .i64 0, .int .i64 0, .slice none 0 0] 60 :: .blk gr [.pointer (some ⟨gt, 0, none⟩), .int .i64 7, .int .i64 0, .int .i64 1, .string (str [98]), .int .i64 i, .int .i64 0, .int .i64 i, .int .i64 0, .int .i64 i, .int .i64 0, .int .i64 i, .int .i64 0, .int .i64 i, .int .i64 0] 170 :: Tb gt rows :: .blk g2 [.int .i64 0, .int .i64 0, .int .i64 0, .string (str []), .int .i64 0, .int .i64 0, .int .i64 0, .int .i64 0, .slice none 0 0] 51 :: .blk g1 [.string (str []), .string (str []), .bool false, .bool false, .int .i64 0, .int .i64 0, .int .i64 0, .int .i64 0, .int .i64 0, .string (str []), .int .i64 0, .int .i64 0, .int .i64 0, .int .i64 0, .slice none 0 0] 60 :: L) w := s
    refine st_val (.bool false) ha (by kernel_rfl) (by kernel_rfl) ?_
    clear ha; intro a ha
    refine wpList_nil ?_
    refine then_normal ?_
    refine wp_seq ?_
    refine wp_seq ?_
    refine wp_region_head 9 (fun w => True) (by kernel_rfl) (by decide) ?_
    replace s := s.drew; generalize _root_.Go.World.drew _ = w at s ⊢
    have hS : (fun w => True) w := trivial
    refine hd_val (i := 0) (.bool false) ha rfl (by kernel_rfl) (fun _ _ _ h => h) (by kernel_rfl) (fun w hS => (by kernel_rfl)) hS ?_
    clear ha; intro a ha
    refine hd_val (i := 1) (.bool false) ha rfl (by kernel_rfl) (fun _ _ _ h => h) (by kernel_rfl) (fun w hS => (by kernel_rfl)) hS ?_
    clear ha; intro a ha
    refine hd_pass (i := 2) ha rfl (by kernel_rfl) (fun _ _ _ h => h) (by kernel_rfl) hS ?_
    clear ha; intro a ha
    refine hd_pass (i := 3) ha rfl (by kernel_rfl) (fun _ _ _ h => h) (by kernel_rfl) hS ?_
    clear ha; intro a ha
    refine hd_pass (i := 4) ha rfl (by kernel_rfl) (fun _ _ _ h => h) (by kernel_rfl) hS ?_
    clear ha; intro a ha
    refine hd_pass (i := 5) ha rfl (by kernel_rfl) (fun _ _ _ h => h) (by kernel_rfl) hS ?_
    clear ha; intro a ha
    refine hd_pass (i := 6) ha rfl (by kernel_rfl) (fun _ _ _ h => h) (by kernel_rfl) hS ?_
    clear ha; intro a ha
    refine hd_pass (i := 7) ha rfl (by kernel_rfl) (fun _ _ _ h => h) (by kernel_rfl) hS ?_
    clear ha; intro a ha
    refine hd_pass (i := 8) ha rfl (by kernel_rfl) (fun _ _ _ h => h) (by kernel_rfl) hS ?_
    clear ha; intro a ha
    refine Head.done (by kernel_rfl) ?_
    clear hS; simp only [List.drop_succ_cons, List.drop_zero]
    refine st_pass ha (by kernel_rfl) ?_
    clear ha; intro a ha
    refine st_pass ha (by kernel_rfl) ?_
    clear ha; intro a ha
    refine st_val (.bool false) ha (by kernel_rfl) (by kernel_rfl) ?_
    clear ha; intro a ha
    refine wpList_nil ?_
    refine then_normal ?_
    refine wp_false ha rfl (by kernel_rfl) ?_
    refine wp_skip ?_
    refine then_normal ?_
    refine wp_seq ?_
    refine wp_region_lit ?_
    refine st_val (.agg #[.string (str [c]), .string (str []), .bool false, .bool false, .int .i64 0, .int .i64 0, .int .i64 0, .int .i64 0, .int .i64 0, .string (str []), .int .i64 0, .int .i64 0, .int .i64 0, .int .i64 0, .slice none 0 0]) ha (by kernel_rfl) (run_loadN (of_ := 0) [.string (str [c]), .string (str []), .bool false, .bool false, .int .i64 0, .int .i64 0, .int .i64 0, .int .i64 0, .int .i64 0, .string (str []), .int .i64 0, .int .i64 0, .int .i64 0, .int .i64 0, .slice none 0 0] (s.blkIs 0 rfl) rfl (by kernel_rfl) Tryz.isAgg60 Tryz.sizeOf60 rfl (Nat.le_of_ble_eq_true rfl)) ?_
    clear ha; intro a ha
    refine st_exd ha (by kernel_rfl) (ex_store (of_ := 0) 4 [.string (str [c]), .string (str []), .bool false, .bool false, .int .i64 0, .int .i64 0, .int .i64 0, .int .i64 0, .int .i64 0, .string (str []), .int .i64 0, .int .i64 0, .int .i64 0, .int .i64 0, .slice none 0 0] s rfl rfl (by kernel_rfl) (by kernel_rfl) (Tryz.sizeOf60 _) rfl (by simp [Value.oneCell']) (Nat.le_of_ble_eq_true rfl)) ?_
    clear ha; rintro w a s ha
    replace s : St W (.blk g3 [.string (str [c]), .string (str []), .bool false, .bool false, .int .i64 0, .int .i64 0, .int .i64 0, .int .i64 0, .int .i64 0, .string (str []), .int .i64 0, .int .i64 0, .int .i64 0, .int .i64 0, .slice none 0 0] 60 :: .blk gr [.pointer (some ⟨gt, 0, none⟩), .int .i64 7, .int .i64 0, .int .i64 1, .string (str [98]), .int .i64 i, .int .i64 0, .int .i64 i, .int .i64 0, .int .i64 i, .int .i64 0, .int .i64 i, .int .i64 0, .int .i64 i, .int .i64 0] 170 :: Tb gt rows :: .blk g2 [.int .i64 0, .int .i64 0, .int .i64 0, .string (str []), .int .i64 0, .int .i64 0, .int .i64 0, .int .i64 0, .slice none 0 0] 51 :: .blk g1 [.string (str [c]), .string (str []), .bool false, .bool false, .int .i64 0, .int .i64 0, .int .i64 0, .int .i64 0, .int .i64 0, .string (str []), .int .i64 0, .int .i64 0, .int .i64 0, .int .i64 0, .slice none 0 0] 60 :: L) w := s
    refine st_val (.int .i64 0) ha (by kernel_rfl) (by kernel_rfl) ?_
    clear ha; intro a ha
    refine wpList_nil ?_
    refine then_normal ?_
    refine wp_ret ?_
    refine ret_with (v := .tuple #[.agg #[.string (str [c]), .string (str []), .bool false, .bool false, .int .i64 0, .int .i64 0, .int .i64 0, .int .i64 0, .int .i64 0, .string (str []), .int .i64 0, .int .i64 0, .int .i64 0, .int .i64 0, .slice none 0 0], .int .i64 0]) ha (results_2 rfl ha (res_cellN (s.blkIs 4 rfl) (by kernel_rfl) (by kernel_rfl) Tryz.isAgg60 Tryz.sizeOf60 rfl) (res_tmp (by kernel_rfl) (by kernel_rfl))) ?_
    replace s := (s.at_ (j := 2) rfl).at_ (j := 2) rfl
    replace s : St W (.blk gr [.pointer (some ⟨gt, 0, none⟩), .int .i64 7, .int .i64 0, .int .i64 1, .string (str [98]), .int .i64 i, .int .i64 0, .int .i64 i, .int .i64 0, .int .i64 i, .int .i64 0, .int .i64 i, .int .i64 0, .int .i64 i, .int .i64 0] 170 :: Tb gt rows :: L) w := s.keep 2 3
    exact ⟨rfl, s⟩
  · skip
    replace s := (s.at_ (j := 2) rfl).at_ (j := 2) rfl
    replace s : St W (.blk gr [.pointer (some ⟨gt, 0, none⟩), .int .i64 7, .int .i64 0, .int .i64 1, .string (str [98]), .int .i64 i, .int .i64 0, .int .i64 i, .int .i64 0, .int .i64 i, .int .i64 0, .int .i64 i, .int .i64 0, .int .i64 i, .int .i64 0] 170 :: Tb gt rows :: .blk g2 [.int .i64 0, .int .i64 0, .int .i64 0, .string (str []), .int .i64 0, .int .i64 0, .int .i64 0, .int .i64 0, .slice none 0 0] 51 :: .blk g1 [.string (str []), .string (str []), .bool false, .bool false, .int .i64 0, .int .i64 0, .int .i64 0, .int .i64 0, .int .i64 0, .string (str []), .int .i64 0, .int .i64 0, .int .i64 0, .int .i64 0, .slice none 0 0] 60 :: L) w := s
    refine st_call ha (by kernel_rfl) (by kernel_rfl) ((version_spec W _ _ gr gt rows i hi c hc (x :: t) hseg hv s)) ?_
    rintro _ w ⟨rfl, s⟩
    refine ⟨_, rfl, ?_⟩; clear ha; intro a ha
    refine st_val (.tuple #[.agg #[.string (str [c]), .string (str []), .bool x.2.2, .bool false, .int .i64 x.2.1, .int .i64 0, .int .i64 0, .int .i64 0, .int .i64 0, .string (str []), .int .i64 0, .int .i64 0, .int .i64 0, .int .i64 0, .slice none 0 0], .bool true]) ha (by kernel_rfl) (by kernel_rfl) ?_
    clear ha; intro a ha
    refine st_val (.agg #[.string (str [c]), .string (str []), .bool x.2.2, .bool false, .int .i64 x.2.1, .int .i64 0, .int .i64 0, .int .i64 0, .int .i64 0, .string (str []), .int .i64 0, .int .i64 0, .int .i64 0, .int .i64 0, .slice none 0 0]) ha (by kernel_rfl) (by kernel_rfl) ?_
    clear ha; intro a ha
    refine st_val (.bool true) ha (by kernel_rfl) (by kernel_rfl) ?_
    clear ha; intro a ha
    refine st_ex ha (by kernel_rfl) (ex_alloc [.string (str []), .string (str []), .bool false, .bool false, .int .i64 0, .int .i64 0, .int .i64 0, .int .i64 0, .int .i64 0, .string (str []), .int .i64 0, .int .i64 0, .int .i64 0, .int .i64 0, .slice none 0 0] s rfl (Tryz.zeroValue60 _) (by kernel_rfl)) ?_
    clear ha; rintro _ w a ⟨g4, rfl, s⟩ ha
    refine st_exd ha (by kernel_rfl) (ex_store (of_ := 0) 0 [.string (str [c]), .string (str []), .bool x.2.2, .bool false, .int .i64 x.2.1, .int .i64 0, .int .i64 0, .int .i64 0, .int .i64 0, .string (str []), .int .i64 0, .int .i64 0, .int .i64 0, .int .i64 0, .slice none 0 0] s rfl rfl (by kernel_rfl) (by kernel_rfl) (Tryz.sizeOf60 _) rfl (by simp [Value.oneCell']) (Nat.le_of_ble_eq_true rfl)) ?_
    clear ha; rintro w a s ha
    replace s : St W (.blk g4 [.string (str [c]), .string (str []), .bool x.2.2, .bool false, .int .i64 x.2.1, .int .i64 0, .int .i64 0, .int .i64 0, .int .i64 0, .string (str []), .int .i64 0, .int .i64 0, .int .i64 0, .int .i64 0, .slice none 0 0] 60 :: .blk gr [.pointer (some ⟨gt, 0, none⟩), .int .i64 7, .int .i64 0, .int .i64 1, .string (str [98]), .int .i64 i, .int .i64 0, .int .i64 i, .int .i64 0, .int .i64 i, .int .i64 0, .int .i64 i, .int .i64 0, .int .i64 i, .int .i64 0] 170 :: Tb gt rows :: .blk g2 [.int .i64 0, .int .i64 0, .int .i64 0, .string (str []), .int .i64 0, .int .i64 0, .int .i64 0, .int .i64 0, .slice none 0 0] 51 :: .blk g1 [.string (str []), .string (str []), .bool false, .bool false, .int .i64 0, .int .i64 0, .int .i64 0, .int .i64 0, .int .i64 0, .string (str []), .int .i64 0, .int .i64 0, .int .i64 0, .int .i64 0, .slice none 0 0] 60 :: L) w := s
    refine st_val (.bool true) ha (by kernel_rfl) (by kernel_rfl) ?_
    clear ha; intro a ha
    refine wpList_nil ?_
    refine then_normal ?_
    refine wp_seq ?_
    refine wp_seq ?_
    refine wp_region_head 9 (fun w => BlkIs g4 [.string (str [c]), .string (str []), .bool x.2.2, .bool false, .int .i64 x.2.1, .int .i64 0, .int .i64 0, .int .i64 0, .int .i64 0, .string (str []), .int .i64 0, .int .i64 0, .int .i64 0, .int .i64 0, .slice none 0 0] w ∧ BlkIs gr [.pointer (some ⟨gt, 0, none⟩), .int .i64 7, .int .i64 0, .int .i64 1, .string (str [98]), .int .i64 i, .int .i64 0, .int .i64 i, .int .i64 0, .int .i64 i, .int .i64 0, .int .i64 i, .int .i64 0, .int .i64 i, .int .i64 0] w ∧ True) (by kernel_rfl) (by decide) ?_
    replace s := s.drew; generalize _root_.Go.World.drew _ = w at s ⊢
    have hS : (fun w => BlkIs g4 [.string (str [c]), .string (str []), .bool x.2.2, .bool false, .int .i64 x.2.1, .int .i64 0, .int .i64 0, .int .i64 0, .int .i64 0, .string (str []), .int .i64 0, .int .i64 0, .int .i64 0, .int .i64 0, .slice none 0 0] w ∧ BlkIs gr [.pointer (some ⟨gt, 0, none⟩), .int .i64 7, .int .i64 0, .int .i64 1, .string (str [98]), .int .i64 i, .int .i64 0, .int .i64 i, .int .i64 0, .int .i64 i, .int .i64 0, .int .i64 i, .int .i64 0, .int .i64 i, .int .i64 0] w ∧ True) w := ⟨s.blkIs 0 rfl, s.blkIs 1 rfl, trivial⟩
    refine hd_val (i := 0) (.bool true) ha rfl (by kernel_rfl) (fun _ _ _ h => h) (by kernel_rfl) (fun w hS => (by kernel_rfl)) hS ?_
    clear ha; intro a ha
    refine hd_val (i := 1) (.bool true) ha rfl (by kernel_rfl) (fun _ _ _ h => h) (by kernel_rfl) (fun w hS => (by kernel_rfl)) hS ?_
    clear ha; intro a ha
    refine hd_val (i := 2) (.pointer (some ⟨g4, 4, none⟩)) ha rfl (by kernel_rfl) (fun _ _ _ h => h) (by kernel_rfl) (fun w hS => (by kernel_rfl)) hS ?_
    clear ha; intro a ha
    refine hd_val (i := 3) (.agg #[.int .i64 x.2.1, .int .i64 0]) ha rfl (by kernel_rfl) (fun _ _ _ h => h) (by kernel_rfl) (fun w hS => run_loadN (of_ := 4) [.int .i64 x.2.1, .int .i64 0] hS.1 rfl (by kernel_rfl) Tryz.isAgg33 Tryz.sizeOf33 rfl (Nat.le_of_ble_eq_true rfl)) hS ?_
    clear ha; intro a ha
    refine hd_val (i := 4) (.pointer (some ⟨gr, 0, none⟩)) ha rfl (by kernel_rfl) (fun _ _ _ h => h) (by kernel_rfl) (fun w hS => (by kernel_rfl)) hS ?_
    clear ha; intro a ha
    refine hd_val (i := 5) (.pointer (some ⟨gr, 0, none⟩)) ha rfl (by kernel_rfl) (fun _ _ _ h => h) (by kernel_rfl) (fun w hS => (by kernel_rfl)) hS ?_
    clear ha; intro a ha
    refine hd_val (i := 6) (.pointer (some ⟨gr, 1, none⟩)) ha rfl (by kernel_rfl) (fun _ _ _ h => h) (by kernel_rfl) (fun w hS => (by kernel_rfl)) hS ?_
    clear ha; intro a ha
    refine hd_val (i := 7) (.pointer (some ⟨gr, 5, none⟩)) ha rfl (by kernel_rfl) (fun _ _ _ h => h) (by kernel_rfl) (fun w hS => (by kernel_rfl)) hS ?_
    clear ha; intro a ha
    refine hd_val (i := 8) (.agg #[.int .i64 i, .int .i64 0]) ha rfl (by kernel_rfl) (fun _ _ _ h => h) (by kernel_rfl) (fun w hS => run_loadN (of_ := 5) [.int .i64 i, .int .i64 0] hS.2.1 rfl (by kernel_rfl) Tryz.isAgg33 Tryz.sizeOf33 rfl (Nat.le_of_ble_eq_true rfl)) hS ?_
    clear ha; intro a ha
    refine Head.done (by kernel_rfl) ?_
    clear hS; simp only [List.drop_succ_cons, List.drop_zero]
    refine st_call ha (by kernel_rfl) (by kernel_rfl) ((Vm.p_less x.2.1 i) _ _ _ s) ?_
    rintro _ w ⟨rfl, s⟩
    refine ⟨_, rfl, ?_⟩; clear ha; intro a ha
    refine st_val (.bool (!(decide (x.2.1 < i)))) ha (by kernel_rfl) (by kernel_rfl) ?_
    clear ha; intro a ha
    refine st_val (.bool (!(decide (x.2.1 < i)))) ha (by kernel_rfl) (by kernel_rfl) ?_
    clear ha; intro a ha
    refine wpList_nil ?_
    refine then_normal ?_
    refine wp_part (!(decide (x.2.1 < i))) ha rfl (by kernel_rfl) (fun hb => ?_) (fun hb => ?_)
    · rw [hb] at ha; skip
      have hlt : decide (x.2.1 < i) = false := by simpa using hb
      refine wp_seq ?_
      refine wp_region_lit ?_
      refine st_val (.string (str [c])) ha (by kernel_rfl) (by kernel_rfl) ?_
      clear ha; intro a ha
      refine st_val (.pointer (some ⟨g4, 4, none⟩)) ha (by kernel_rfl) (by kernel_rfl) ?_
      clear ha; intro a ha
      refine st_val (.agg #[.int .i64 x.2.1, .int .i64 0]) ha (by kernel_rfl) (run_loadN (of_ := 4) [.int .i64 x.2.1, .int .i64 0] (s.blkIs 0 rfl) rfl (by kernel_rfl) Tryz.isAgg33 Tryz.sizeOf33 rfl (Nat.le_of_ble_eq_true rfl)) ?_
      clear ha; intro a ha
      refine st_val (.agg #[.string (str [c]), .string (str []), .bool false, .bool false, .int .i64 x.2.1, .int .i64 0, .int .i64 0, .int .i64 0, .int .i64 0, .string (str []), .int .i64 0, .int .i64 0, .int .i64 0, .int .i64 0, .slice none 0 0]) ha (by kernel_rfl) (by kernel_rfl) ?_
      clear ha; intro a ha
      refine st_exd ha (by kernel_rfl) (ex_store (of_ := 0) 4 [.string (str [c]), .string (str []), .bool false, .bool false, .int .i64 x.2.1, .int .i64 0, .int .i64 0, .int .i64 0, .int .i64 0, .string (str []), .int .i64 0, .int .i64 0, .int .i64 0, .int .i64 0, .slice none 0 0] s rfl rfl (by kernel_rfl) (by kernel_rfl) (Tryz.sizeOf60 _) rfl (by simp [Value.oneCell']) (Nat.le_of_ble_eq_true rfl)) ?_
      clear ha; rintro w a s ha
      replace s : St W (.blk g4 [.string (str [c]), .string (str []), .bool x.2.2, .bool false, .int .i64 x.2.1, .int .i64 0, .int .i64 0, .int .i64 0, .int .i64 0, .string (str []), .int .i64 0, .int .i64 0, .int .i64 0, .int .i64 0, .slice none 0 0] 60 :: .blk gr [.pointer (some ⟨gt, 0, none⟩), .int .i64 7, .int .i64 0, .int .i64 1, .string (str [98]), .int .i64 i, .int .i64 0, .int .i64 i, .int .i64 0, .int .i64 i, .int .i64 0, .int .i64 i, .int .i64 0, .int .i64 i, .int .i64 0] 170 :: Tb gt rows :: .blk g2 [.int .i64 0, .int .i64 0, .int .i64 0, .string (str []), .int .i64 0, .int .i64 0, .int .i64 0, .int .i64 0, .slice none 0 0] 51 :: .blk g1 [.string (str [c]), .string (str []), .bool false, .bool false, .int .i64 x.2.1, .int .i64 0, .int .i64 0, .int .i64 0, .int .i64 0, .string (str []), .int .i64 0, .int .i64 0, .int .i64 0, .int .i64 0, .slice none 0 0] 60 :: L) w := s
      refine st_val (.int .i64 121) ha (by kernel_rfl) (by kernel_rfl) ?_
      clear ha; intro a ha
      refine wpList_nil ?_
      refine then_normal ?_
      refine wp_ret ?_
      refine then_ret ?_
      refine ret_with (v := .tuple #[.agg #[.string (str [c]), .string (str []), .bool false, .bool false, .int .i64 x.2.1, .int .i64 0, .int .i64 0, .int .i64 0, .int .i64 0, .string (str []), .int .i64 0, .int .i64 0, .int .i64 0, .int .i64 0, .slice none 0 0], .int .i64 121]) ha (results_2 rfl ha (res_cellN (s.blkIs 4 rfl) (by kernel_rfl) (by kernel_rfl) Tryz.isAgg60 Tryz.sizeOf60 rfl) (res_tmp (by kernel_rfl) (by kernel_rfl))) ?_
      replace s := (s.at_ (j := 2) rfl).at_ (j := 2) rfl
      replace s : St W (.blk gr [.pointer (some ⟨gt, 0, none⟩), .int .i64 7, .int .i64 0, .int .i64 1, .string (str [98]), .int .i64 i, .int .i64 0, .int .i64 i, .int .i64 0, .int .i64 i, .int .i64 0, .int .i64 i, .int .i64 0, .int .i64 i, .int .i64 0] 170 :: Tb gt rows :: L) w := s.keep 2 3
      exact ⟨by show _ = Ending.returned (bif decide (x.2.1 < i) then _ else _); rw [hlt]; rfl, s⟩
    · rw [hb] at ha; skip
      have hlt : decide (x.2.1 < i) = true := by simpa using hb
      refine wp_skip ?_
      refine then_normal ?_
      refine wp_seq ?_
      refine wp_region_lit ?_
      refine st_val (.agg #[.string (str [c]), .string (str []), .bool x.2.2, .bool false, .int .i64 x.2.1, .int .i64 0, .int .i64 0, .int .i64 0, .int .i64 0, .string (str []), .int .i64 0, .int .i64 0, .int .i64 0, .int .i64 0, .slice none 0 0]) ha (by kernel_rfl) (run_loadN (of_ := 0) [.string (str [c]), .string (str []), .bool x.2.2, .bool false, .int .i64 x.2.1, .int .i64 0, .int .i64 0, .int .i64 0, .int .i64 0, .string (str []), .int .i64 0, .int .i64 0, .int .i64 0, .int .i64 0, .slice none 0 0] (s.blkIs 0 rfl) rfl (by kernel_rfl) Tryz.isAgg60 Tryz.sizeOf60 rfl (Nat.le_of_ble_eq_true rfl)) ?_
      clear ha; intro a ha
      refine st_exd ha (by kernel_rfl) (ex_store (of_ := 0) 4 [.string (str [c]), .string (str []), .bool x.2.2, .bool false, .int .i64 x.2.1, .int .i64 0, .int .i64 0, .int .i64 0, .int .i64 0, .string (str []), .int .i64 0, .int .i64 0, .int .i64 0, .int .i64 0, .slice none 0 0] s rfl rfl (by kernel_rfl) (by kernel_rfl) (Tryz.sizeOf60 _) rfl (by simp [Value.oneCell']) (Nat.le_of_ble_eq_true rfl)) ?_
      clear ha; rintro w a s ha
      replace s : St W (.blk g4 [.string (str [c]), .string (str []), .bool x.2.2, .bool false, .int .i64 x.2.1, .int .i64 0, .int .i64 0, .int .i64 0, .int .i64 0, .string (str []), .int .i64 0, .int .i64 0, .int .i64 0, .int .i64 0, .slice none 0 0] 60 :: .blk gr [.pointer (some ⟨gt, 0, none⟩), .int .i64 7, .int .i64 0, .int .i64 1, .string (str [98]), .int .i64 i, .int .i64 0, .int .i64 i, .int .i64 0, .int .i64 i, .int .i64 0, .int .i64 i, .int .i64 0, .int .i64 i, .int .i64 0] 170 :: Tb gt rows :: .blk g2 [.int .i64 0, .int .i64 0, .int .i64 0, .string (str []), .int .i64 0, .int .i64 0, .int .i64 0, .int .i64 0, .slice none 0 0] 51 :: .blk g1 [.string (str [c]), .string (str []), .bool x.2.2, .bool false, .int .i64 x.2.1, .int .i64 0, .int .i64 0, .int .i64 0, .int .i64 0, .string (str []), .int .i64 0, .int .i64 0, .int .i64 0, .int .i64 0, .slice none 0 0] 60 :: L) w := s
      refine st_val (.int .i64 0) ha (by kernel_rfl) (by kernel_rfl) ?_
      clear ha; intro a ha
      refine wpList_nil ?_
      refine then_normal ?_
      refine wp_ret ?_
      refine ret_with (v := .tuple #[.agg #[.string (str [c]), .string (str []), .bool x.2.2, .bool false, .int .i64 x.2.1, .int .i64 0, .int .i64 0, .int .i64 0, .int .i64 0, .string (str []), .int .i64 0, .int .i64 0, .int .i64 0, .int .i64 0, .slice none 0 0], .int .i64 0]) ha (results_2 rfl ha (res_cellN (s.blkIs 4 rfl) (by kernel_rfl) (by kernel_rfl) Tryz.isAgg60 Tryz.sizeOf60 rfl) (res_tmp (by kernel_rfl) (by kernel_rfl))) ?_
      replace s := (s.at_ (j := 2) rfl).at_ (j := 2) rfl
      replace s : St W (.blk gr [.pointer (some ⟨gt, 0, none⟩), .int .i64 7, .int .i64 0, .int .i64 1, .string (str [98]), .int .i64 i, .int .i64 0, .int .i64 i, .int .i64 0, .int .i64 i, .int .i64 0, .int .i64 i, .int .i64 0, .int .i64 i, .int .i64 0] 170 :: Tb gt rows :: L) w := s.keep 2 3
      exact ⟨by show _ = Ending.returned (bif decide (x.2.1 < i) then _ else _); rw [hlt]; rfl, s⟩

theorem keyR_cases (c : UInt8) (i : Int) (vs : List V3) : keyR c i vs = .tuple #[fnd15 c false 0, .int .i64 0] ∨ (∃ x : V3, keyR c i vs = .tuple #[fnd15 c x.2.2 x.2.1, .int .i64 0]) ∨ ∃ x : V3, keyR c i vs = .tuple #[fnd15 c false x.2.1, .int .i64 121] := by
  cases vs with
  | nil => exact .inl rfl
  | cons x t =>
    cases h : decide (x.2.1 < i) with
    | true => exact .inr (.inl ⟨x, by show (bif _ then _ else _) = _; rw [h]; rfl⟩)
    | false => exact .inr (.inr ⟨x, by show (bif _ then _ else _) = _; rw [h]; rfl⟩)

theorem Get_spec_ (W : World) (L : List Chunk) (w : World) (gt : Nat) (rows : List Rw) (i wv : Int) (hi : wv < i ∧ i ≤ 131) (hw : 1 ≤ wv) (c : UInt8) (hc : c = 97 ∨ c = 98) (hti : tget rows [105, c, 0, 0] = none) (vs : List V3) (hseg : seg rows (vkey c i) (vkey0 c ++ [0]) = vs.map vrow) (hv : ∀ x ∈ vs, VOk x) (s : St W (Tb gt rows :: L) w) :
    Calls Tryz.prog 13 #[.pointer (some ⟨gt, 0, none⟩), .string (str [c]), .agg #[.int .i64 7, .int .i64 0, .int .i64 1, .string (str [98]), .int .i64 i, .int .i64 0, .int .i64 i, .int .i64 0, .int .i64 i, .int .i64 0, .int .i64 i, .int .i64 0], .agg #[.int .i64 wv, .int .i64 0]] w fun e w' => e = .returned (keyR c i vs) ∧ St W (Tb gt rows :: L) w' := by
  refine enter_args (l := [.pointer (some ⟨gt, 0, none⟩), .string (str [c]), .agg #[.int .i64 7, .int .i64 0, .int .i64 1, .string (str [98]), .int .i64 i, .int .i64 0, .int .i64 i, .int .i64 0, .int .i64 i, .int .i64 0, .int .i64 i, .int .i64 0], .agg #[.int .i64 wv, .int .i64 0]]) Tryz.func13 rfl rfl (Nat.le_of_ble_eq_true rfl) ?_
  intro a ha; replace ha : Has a 31 [(0, .pointer (some ⟨gt, 0, none⟩)), (1, .string (str [c])), (2, .agg #[.int .i64 7, .int .i64 0, .int .i64 1, .string (str [98]), .int .i64 i, .int .i64 0, .int .i64 i, .int .i64 0, .int .i64 i, .int .i64 0, .int .i64 i, .int .i64 0]), (3, .agg #[.int .i64 wv, .int .i64 0])] := ha
  refine wp_seq ?_
  refine wp_region_lit ?_
  refine st_ex ha (by kernel_rfl) (ex_box [.int .i64 7, .int .i64 0, .int .i64 1, .string (str [98]), .int .i64 i, .int .i64 0, .int .i64 i, .int .i64 0, .int .i64 i, .int .i64 0, .int .i64 i, .int .i64 0] s rfl (by kernel_rfl)) ?_
  clear ha; rintro _ w a ⟨g1, rfl, s⟩ ha
  refine st_ex ha (by kernel_rfl) (ex_box [.int .i64 wv, .int .i64 0] s rfl (by kernel_rfl)) ?_
  clear ha; rintro _ w a ⟨g2, rfl, s⟩ ha
  refine st_ex ha (by kernel_rfl) (ex_alloc [.string (str []), .string (str []), .bool false, .bool false, .int .i64 0, .int .i64 0, .int .i64 0, .int .i64 0, .int .i64 0, .string (str []), .int .i64 0, .int .i64 0, .int .i64 0, .int .i64 0, .slice none 0 0] s rfl (Tryz.zeroValue60 _) (by kernel_rfl)) ?_
  clear ha; rintro _ w a ⟨g3, rfl, s⟩ ha
  refine st_val (.int .i64 0) ha (by kernel_rfl) (by kernel_rfl) ?_
  clear ha; intro a ha
  refine wpList_nil ?_
  refine then_normal ?_
  refine wp_seq ?_
  refine wp_region_head 11 (fun w => BlkIs g1 [.int .i64 7, .int .i64 0, .int .i64 1, .string (str [98]), .int .i64 i, .int .i64 0, .int .i64 i, .int .i64 0, .int .i64 i, .int .i64 0, .int .i64 i, .int .i64 0] w ∧ BlkIs g2 [.int .i64 wv, .int .i64 0] w ∧ True) (by kernel_rfl) (by decide) ?_
  replace s := s.drew; generalize _root_.Go.World.drew _ = w at s ⊢
  have hS : (fun w => BlkIs g1 [.int .i64 7, .int .i64 0, .int .i64 1, .string (str [98]), .int .i64 i, .int .i64 0, .int .i64 i, .int .i64 0, .int .i64 i, .int .i64 0, .int .i64 i, .int .i64 0] w ∧ BlkIs g2 [.int .i64 wv, .int .i64 0] w ∧ True) w := ⟨s.blkIs 2 rfl, s.blkIs 1 rfl, trivial⟩
  refine hd_val (i := 0) (.pointer (some ⟨gt, 0, none⟩)) ha rfl (by kernel_rfl) (fun _ _ _ h => h) (by kernel_rfl) (fun w hS => (by kernel_rfl)) hS ?_
  clear ha; intro a ha
  refine hd_val (i := 1) (.string (str [c])) ha rfl (by kernel_rfl) (fun _ _ _ h => h) (by kernel_rfl) (fun w hS => (by kernel_rfl)) hS ?_
  clear ha; intro a ha
  refine hd_val (i := 4) (.agg #[.int .i64 7, .int .i64 0, .int .i64 1, .string (str [98]), .int .i64 i, .int .i64 0, .int .i64 i, .int .i64 0, .int .i64 i, .int .i64 0, .int .i64 i, .int .i64 0]) ha rfl (by kernel_rfl) (fun _ _ _ h => h) (by kernel_rfl) (fun w hS => run_loadN (of_ := 0) [.int .i64 7, .int .i64 0, .int .i64 1, .string (str [98]), .int .i64 i, .int .i64 0, .int .i64 i, .int .i64 0, .int .i64 i, .int .i64 0, .int .i64 i, .int .i64 0] hS.1 rfl (by kernel_rfl) Tryz.isAgg35 Tryz.sizeOf35 rfl (Nat.le_of_ble_eq_true rfl)) hS ?_
  clear ha; intro a ha
  refine hd_val (i := 5) (.agg #[.int .i64 wv, .int .i64 0]) ha rfl (by kernel_rfl) (fun _ _ _ h => h) (by kernel_rfl) (fun w hS => run_loadN (of_ := 0) [.int .i64 wv, .int .i64 0] hS.2.1 rfl (by kernel_rfl) Tryz.isAgg33 Tryz.sizeOf33 rfl (Nat.le_of_ble_eq_true rfl)) hS ?_
  clear ha; intro a ha
  refine hd_call (i := 2) ha rfl (by kernel_rfl) (by kernel_rfl) (by kernel_rfl) ((ok_spec hc) _ _ _ s) ?_
  clear hS; rintro _ w ⟨rfl, s⟩
  have hS : (fun w => BlkIs g1 [.int .i64 7, .int .i64 0, .int .i64 1, .string (str [98]), .int .i64 i, .int .i64 0, .int .i64 i, .int .i64 0, .int .i64 i, .int .i64 0, .int .i64 i, .int .i64 0] w ∧ BlkIs g2 [.int .i64 wv, .int .i64 0] w ∧ True) w := ⟨s.blkIs 2 rfl, s.blkIs 1 rfl, trivial⟩
  refine ⟨_, rfl, hS, ?_⟩; clear ha; intro a ha
  refine hd_val (i := 3) (.bool true) ha rfl (by kernel_rfl) (fun _ _ _ h => h) (by kernel_rfl) (fun w hS => (by kernel_rfl)) hS ?_
  clear ha; intro a ha
  refine hd_call (i := 6) ha rfl (by kernel_rfl) (by kernel_rfl) (by kernel_rfl) (begins_spec W _ _ gt i wv hi hw s) ?_
  clear hS; rintro _ w ⟨gr, rfl, s⟩
  have hS : (fun w => BlkIs g1 [.int .i64 7, .int .i64 0, .int .i64 1, .string (str [98]), .int .i64 i, .int .i64 0, .int .i64 i, .int .i64 0, .int .i64 i, .int .i64 0, .int .i64 i, .int .i64 0] w ∧ BlkIs g2 [.int .i64 wv, .int .i64 0] w ∧ True) w := ⟨s.blkIs 3 rfl, s.blkIs 2 rfl, trivial⟩
  refine ⟨_, rfl, hS, ?_⟩; clear ha; intro a ha
  refine hd_val (i := 7) (.tuple #[.pointer (some ⟨gr, 0, none⟩), .int .i64 0]) ha rfl (by kernel_rfl) (fun _ _ _ h => h) (by kernel_rfl) (fun w hS => (by kernel_rfl)) hS ?_
  clear ha; intro a ha
  refine hd_val (i := 8) (.pointer (some ⟨gr, 0, none⟩)) ha rfl (by kernel_rfl) (fun _ _ _ h => h) (by kernel_rfl) (fun w hS => (by kernel_rfl)) hS ?_
  clear ha; intro a ha
  refine hd_val (i := 9) (.int .i64 0) ha rfl (by kernel_rfl) (fun _ _ _ h => h) (by kernel_rfl) (fun w hS => (by kernel_rfl)) hS ?_
  clear ha; intro a ha
  refine hd_val (i := 10) (.pointer (some ⟨gr, 0, none⟩)) ha rfl (by kernel_rfl) (fun _ _ _ h => h) (by kernel_rfl) (fun w hS => (by kernel_rfl)) hS ?_
  clear ha; intro a ha
  refine Head.done (by kernel_rfl) ?_
  clear hS; simp only [List.drop_succ_cons, List.drop_zero]
  refine st_val (.int .i64 0) ha (by kernel_rfl) (by kernel_rfl) ?_
  clear ha; intro a ha
  refine wpList_nil ?_
  refine then_normal ?_
  refine wp_seq ?_
  refine wp_seq ?_
  refine wp_region_lit ?_
  refine st_val (.int .i64 0) ha (by kernel_rfl) (by kernel_rfl) ?_
  clear ha; intro a ha
  refine st_val (.bool false) ha (by kernel_rfl) (by kernel_rfl) ?_
  clear ha; intro a ha
  refine wpList_nil ?_
  refine then_normal ?_
  refine wp_false ha rfl (by kernel_rfl) ?_
  refine wp_skip ?_
  refine then_normal ?_
  refine wp_seq ?_
  refine wp_region_lit ?_
  refine st_val (.pointer (some ⟨gr, 0, none⟩)) ha (by kernel_rfl) (by kernel_rfl) ?_
  clear ha; intro a ha
  refine st_val (.string (str [c])) ha (by kernel_rfl) (by kernel_rfl) ?_
  clear ha; intro a ha
  rcases keyR_cases c i vs with hk | ⟨x, hk⟩ | ⟨x, hk⟩
  · skip
    replace s := (s.at_ (j := 4) rfl).at_ (j := 1) rfl
    replace s : St W (.blk gr [.pointer (some ⟨gt, 0, none⟩), .int .i64 7, .int .i64 0, .int .i64 1, .string (str [98]), .int .i64 i, .int .i64 0, .int .i64 i, .int .i64 0, .int .i64 i, .int .i64 0, .int .i64 i, .int .i64 0, .int .i64 i, .int .i64 0] 170 :: Tb gt rows :: .blk g3 [.string (str []), .string (str []), .bool false, .bool false, .int .i64 0, .int .i64 0, .int .i64 0, .int .i64 0, .int .i64 0, .string (str []), .int .i64 0, .int .i64 0, .int .i64 0, .int .i64 0, .slice none 0 0] 60 :: .blk g2 [.int .i64 wv, .int .i64 0] 33 :: .blk g1 [.int .i64 7, .int .i64 0, .int .i64 1, .string (str [98]), .int .i64 i, .int .i64 0, .int .i64 i, .int .i64 0, .int .i64 i, .int .i64 0, .int .i64 i, .int .i64 0] 35 :: L) w := s
    refine st_call ha (by kernel_rfl) (by kernel_rfl) ((key_spec W _ _ gr gt rows i ⟨by omega, by omega⟩ c hc hti vs hseg hv s).mono fun e w h => (show _ ∧ _ from ⟨h.1.trans (congrArg Ending.returned hk), h.2⟩)) ?_
    rintro _ w ⟨rfl, s⟩
    refine ⟨_, rfl, ?_⟩; clear ha; intro a ha
    refine st_val (.agg #[.string (str [c]), .string (str []), .bool false, .bool false, .int .i64 0, .int .i64 0, .int .i64 0, .int .i64 0, .int .i64 0, .string (str []), .int .i64 0, .int .i64 0, .int .i64 0, .int .i64 0, .slice none 0 0]) ha (by kernel_rfl) (by kernel_rfl) ?_
    clear ha; intro a ha
    refine st_val (.int .i64 0) ha (by kernel_rfl) (by kernel_rfl) ?_
    clear ha; intro a ha
    refine st_exd ha (by kernel_rfl) (ex_store (of_ := 0) 2 [.string (str [c]), .string (str []), .bool false, .bool false, .int .i64 0, .int .i64 0, .int .i64 0, .int .i64 0, .int .i64 0, .string (str []), .int .i64 0, .int .i64 0, .int .i64 0, .int .i64 0, .slice none 0 0] s rfl rfl (by kernel_rfl) (by kernel_rfl) (Tryz.sizeOf60 _) rfl (by simp [Value.oneCell']) (Nat.le_of_ble_eq_true rfl)) ?_
    clear ha; rintro w a s ha
    replace s : St W (.blk gr [.pointer (some ⟨gt, 0, none⟩), .int .i64 7, .int .i64 0, .int .i64 1, .string (str [98]), .int .i64 i, .int .i64 0, .int .i64 i, .int .i64 0, .int .i64 i, .int .i64 0, .int .i64 i, .int .i64 0, .int .i64 i, .int .i64 0] 170 :: Tb gt rows :: .blk g3 [.string (str [c]), .string (str []), .bool false, .bool false, .int .i64 0, .int .i64 0, .int .i64 0, .int .i64 0, .int .i64 0, .string (str []), .int .i64 0, .int .i64 0, .int .i64 0, .int .i64 0, .slice none 0 0] 60 :: .blk g2 [.int .i64 wv, .int .i64 0] 33 :: .blk g1 [.int .i64 7, .int .i64 0, .int .i64 1, .string (str [98]), .int .i64 i, .int .i64 0, .int .i64 i, .int .i64 0, .int .i64 i, .int .i64 0, .int .i64 i, .int .i64 0] 35 :: L) w := s
    refine st_val (.int .i64 0) ha (by kernel_rfl) (by kernel_rfl) ?_
    clear ha; intro a ha
    refine wpList_nil ?_
    refine then_normal ?_
    refine wp_ret ?_
    refine ret_with (v := .tuple #[.agg #[.string (str [c]), .string (str []), .bool false, .bool false, .int .i64 0, .int .i64 0, .int .i64 0, .int .i64 0, .int .i64 0, .string (str []), .int .i64 0, .int .i64 0, .int .i64 0, .int .i64 0, .slice none 0 0], .int .i64 0]) ha (results_2 rfl ha (res_cellN (s.blkIs 2 rfl) (by kernel_rfl) (by kernel_rfl) Tryz.isAgg60 Tryz.sizeOf60 rfl) (res_tmp (by kernel_rfl) (by kernel_rfl))) ?_
    replace s := s.at_ (j := 1) rfl
    replace s : St W (Tb gt rows :: L) w := s.keep 1 4
    exact ⟨by rw [hk], s⟩
  · skip
    replace s := (s.at_ (j := 4) rfl).at_ (j := 1) rfl
    replace s : St W (.blk gr [.pointer (some ⟨gt, 0, none⟩), .int .i64 7, .int .i64 0, .int .i64 1, .string (str [98]), .int .i64 i, .int .i64 0, .int .i64 i, .int .i64 0, .int .i64 i, .int .i64 0, .int .i64 i, .int .i64 0, .int .i64 i, .int .i64 0] 170 :: Tb gt rows :: .blk g3 [.string (str []), .string (str []), .bool false, .bool false, .int .i64 0, .int .i64 0, .int .i64 0, .int .i64 0, .int .i64 0, .string (str []), .int .i64 0, .int .i64 0, .int .i64 0, .int .i64 0, .slice none 0 0] 60 :: .blk g2 [.int .i64 wv, .int .i64 0] 33 :: .blk g1 [.int .i64 7, .int .i64 0, .int .i64 1, .string (str [98]), .int .i64 i, .int .i64 0, .int .i64 i, .int .i64 0, .int .i64 i, .int .i64 0, .int .i64 i, .int .i64 0] 35 :: L) w := s
    refine st_call ha (by kernel_rfl) (by kernel_rfl) ((key_spec W _ _ gr gt rows i ⟨by omega, by omega⟩ c hc hti vs hseg hv s).mono fun e w h => (show _ ∧ _ from ⟨h.1.trans (congrArg Ending.returned hk), h.2⟩)) ?_
    rintro _ w ⟨rfl, s⟩
    refine ⟨_, rfl, ?_⟩; clear ha; intro a ha
    refine st_val (.agg #[.string (str [c]), .string (str []), .bool x.2.2, .bool false, .int .i64 x.2.1, .int .i64 0, .int .i64 0, .int .i64 0, .int .i64 0, .string (str []), .int .i64 0, .int .i64 0, .int .i64 0, .int .i64 0, .slice none 0 0]) ha (by kernel_rfl) (by kernel_rfl) ?_
    clear ha; intro a ha
    refine st_val (.int .i64 0) ha (by kernel_rfl) (by kernel_rfl) ?_
    clear ha; intro a ha
    refine st_exd ha (by kernel_rfl) (ex_store (of_ := 0) 2 [.string (str [c]), .string (str []), .bool x.2.2, .bool false, .int .i64 x.2.1, .int .i64 0, .int .i64 0, .int .i64 0, .int .i64 0, .string (str []), .int .i64 0, .int .i64 0, .int .i64 0, .int .i64 0, .slice none 0 0] s rfl rfl (by kernel_rfl) (by kernel_rfl) (Tryz.sizeOf60 _) rfl (by simp [Value.oneCell']) (Nat.le_of_ble_eq_true rfl)) ?_
    clear ha; rintro w a s ha
    replace s : St W (.blk gr [.pointer (some ⟨gt, 0, none⟩), .int .i64 7, .int .i64 0, .int .i64 1, .string (str [98]), .int .i64 i, .int .i64 0, .int .i64 i, .int .i64 0, .int .i64 i, .int .i64 0, .int .i64 i, .int .i64 0, .int .i64 i, .int .i64 0] 170 :: Tb gt rows :: .blk g3 [.string (str [c]), .string (str []), .bool x.2.2, .bool false, .int .i64 x.2.1, .int .i64 0, .int .i64 0, .int .i64 0, .int .i64 0, .string (str []), .int .i64 0, .int .i64 0, .int .i64 0, .int .i64 0, .slice none 0 0] 60 :: .blk g2 [.int .i64 wv, .int .i64 0] 33 :: .blk g1 [.int .i64 7, .int .i64 0, .int .i64 1, .string (str [98]), .int .i64 i, .int .i64 0, .int .i64 i, .int .i64 0, .int .i64 i, .int .i64 0, .int .i64 i, .int .i64 0] 35 :: L) w := s
    refine st_val (.int .i64 0) ha (by kernel_rfl) (by kernel_rfl) ?_
    clear ha; intro a ha
    refine wpList_nil ?_
    refine then_normal ?_
    refine wp_ret ?_
    refine ret_with (v := .tuple #[.agg #[.string (str [c]), .string (str []), .bool x.2.2, .bool false, .int .i64 x.2.1, .int .i64 0, .int .i64 0, .int .i64 0, .int .i64 0, .string (str []), .int .i64 0, .int .i64 0, .int .i64 0, .int .i64 0, .slice none 0 0], .int .i64 0]) ha (results_2 rfl ha (res_cellN (s.blkIs 2 rfl) (by kernel_rfl) (by kernel_rfl) Tryz.isAgg60 Tryz.sizeOf60 rfl) (res_tmp (by kernel_rfl) (by kernel_rfl))) ?_
    replace s := s.at_ (j := 1) rfl
    replace s : St W (Tb gt rows :: L) w := s.keep 1 4
    exact ⟨by rw [hk], s⟩
  · skip
    replace s := (s.at_ (j := 4) rfl).at_ (j := 1) rfl
    replace s : St W (.blk gr [.pointer (some ⟨gt, 0, none⟩), .int .i64 7, .int .i64 0, .int .i64 1, .string (str [98]), .int .i64 i, .int .i64 0, .int .i64 i, .int .i64 0, .int .i64 i, .int .i64 0, .int .i64 i, .int .i64 0, .int .i64 i, .int .i64 0] 170 :: Tb gt rows :: .blk g3 [.string (str []), .string (str []), .bool false, .bool false, .int .i64 0, .int .i64 0, .int .i64 0, .int .i64 0, .int .i64 0, .string (str []), .int .i64 0, .int .i64 0, .int .i64 0, .int .i64 0, .slice none 0 0] 60 :: .blk g2 [.int .i64 wv, .int .i64 0] 33 :: .blk g1 [.int .i64 7, .int .i64 0, .int .i64 1, .string (str [98]), .int .i64 i, .int .i64 0, .int .i64 i, .int .i64 0, .int .i64 i, .int .i64 0, .int .i64 i, .int .i64 0] 35 :: L) w := s
    refine st_call ha (by kernel_rfl) (by kernel_rfl) ((key_spec W _ _ gr gt rows i ⟨by omega, by omega⟩ c hc hti vs hseg hv s).mono fun e w h => (show _ ∧ _ from ⟨h.1.trans (congrArg Ending.returned hk), h.2⟩)) ?_
    rintro _ w ⟨rfl, s⟩
    refine ⟨_, rfl, ?_⟩; clear ha; intro a ha
    refine st_val (.agg #[.string (str [c]), .string (str []), .bool false, .bool false, .int .i64 x.2.1, .int .i64 0, .int .i64 0, .int .i64 0, .int .i64 0, .string (str []), .int .i64 0, .int .i64 0, .int .i64 0, .int .i64 0, .slice none 0 0]) ha (by kernel_rfl) (by kernel_rfl) ?_
    clear ha; intro a ha
    refine st_val (.int .i64 121) ha (by kernel_rfl) (by kernel_rfl) ?_
    clear ha; intro a ha
    refine st_exd ha (by kernel_rfl) (ex_store (of_ := 0) 2 [.string (str [c]), .string (str []), .bool false, .bool false, .int .i64 x.2.1, .int .i64 0, .int .i64 0, .int .i64 0, .int .i64 0, .string (str []), .int .i64 0, .int .i64 0, .int .i64 0, .int .i64 0, .slice none 0 0] s rfl rfl (by kernel_rfl) (by kernel_rfl) (Tryz.sizeOf60 _) rfl (by simp [Value.oneCell']) (Nat.le_of_ble_eq_true rfl)) ?_
    clear ha; rintro w a s ha
    replace s : St W (.blk gr [.pointer (some ⟨gt, 0, none⟩), .int .i64 7, .int .i64 0, .int .i64 1, .string (str [98]), .int .i64 i, .int .i64 0, .int .i64 i, .int .i64 0, .int .i64 i, .int .i64 0, .int .i64 i, .int .i64 0, .int .i64 i, .int .i64 0] 170 :: Tb gt rows :: .blk g3 [.string (str [c]), .string (str []), .bool false, .bool false, .int .i64 x.2.1, .int .i64 0, .int .i64 0, .int .i64 0, .int .i64 0, .string (str []), .int .i64 0, .int .i64 0, .int .i64 0, .int .i64 0, .slice none 0 0] 60 :: .blk g2 [.int .i64 wv, .int .i64 0] 33 :: .blk g1 [.int .i64 7, .int .i64 0, .int .i64 1, .string (str [98]), .int .i64 i, .int .i64 0, .int .i64 i, .int .i64 0, .int .i64 i, .int .i64 0, .int .i64 i, .int .i64 0] 35 :: L) w := s
    refine st_val (.int .i64 121) ha (by kernel_rfl) (by kernel_rfl) ?_
    clear ha; intro a ha
    refine wpList_nil ?_
    refine then_normal ?_
    refine wp_ret ?_
    refine ret_with (v := .tuple #[.agg #[.string (str [c]), .string (str []), .bool false, .bool false, .int .i64 x.2.1, .int .i64 0, .int .i64 0, .int .i64 0, .int .i64 0, .string (str []), .int .i64 0, .int .i64 0, .int .i64 0, .int .i64 0, .slice none 0 0], .int .i64 121]) ha (results_2 rfl ha (res_cellN (s.blkIs 2 rfl) (by kernel_rfl) (by kernel_rfl) Tryz.isAgg60 Tryz.sizeOf60 rfl) (res_tmp (by kernel_rfl) (by kernel_rfl))) ?_
    replace s := s.at_ (j := 1) rfl
    replace s : St W (Tb gt rows :: L) w := s.keep 1 4
    exact ⟨by rw [hk], s⟩

end Go.Proofs.YtagbmfdheppmoaaGreatDoor.B
