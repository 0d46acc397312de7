import Derived.Test.YtcgnhmdiedfamaaSepX
import Derived.Test.YtcgnhmdiedfamaaProg
import Derived.KernelRfl
namespace Go.Proofs.Ytcgnhmdiedfamaa.B
open Go.RowKit Go.Proofs.Ytcgnhmdiedfamaa.Sep
set_option linter.unusedVariables false
set_option linter.unusedSimpArgs false

theorem elt22 : Elt Try.prog 22 32 5 56 := ⟨by kernel_rfl, by kernel_rfl⟩
theorem zs22 : (Try.prog.info? 32).bind (fun i => i.zero.map (·.cells)) = some #[.int .i64 0, .int .i64 0, .int .i64 0, .int .i64 0, .slice none 0 0] := by kernel_rfl
theorem elt27 : Elt Try.prog 27 5 1 1 := ⟨by kernel_rfl, by kernel_rfl⟩
theorem zs27 : (Try.prog.info? 5).bind (fun i => i.zero.map (·.cells)) = some #[.int .u8 0] := by kernel_rfl
theorem elt47 : Elt Try.prog 47 3 1 8 := ⟨by kernel_rfl, by kernel_rfl⟩
theorem zs47 : (Try.prog.info? 3).bind (fun i => i.zero.map (·.cells)) = some #[.int .i64 0] := by kernel_rfl
theorem elt50 : Elt Try.prog 50 29 3 40 := ⟨by kernel_rfl, by kernel_rfl⟩
theorem zs50 : (Try.prog.info? 29).bind (fun i => i.zero.map (·.cells)) = some #[.int .i64 0, .int .i64 0, .slice none 0 0] := by kernel_rfl

def u8s (bs : List Int) : List Value := bs.map (Value.int .u8)
theorem u8_one (bs : List Int) : ∀ u ∈ u8s bs, u.oneCell' = true := by
  intro u hu; obtain ⟨b, _, rfl⟩ := List.mem_map.1 hu; rfl
theorem u8_len (bs : List Int) : (u8s bs).length = bs.length := by simp [u8s]
structure Msg where
  f : Int
  t : Int
  b : List Int
structure Hd where
  A : Option Addr
  c : Nat
def ecells (x : Msg × Hd) : List Value := [.int .i64 x.1.f, .int .i64 x.1.t, .slice x.2.A x.1.b.length x.2.c]
def rows (x : List (Msg × Hd)) : List Value := x.flatMap ecells
def byt (x : Msg × Hd) : Chunk := Own 5 1 x.2.A x.1.b.length x.2.c (u8s x.1.b)
def Byts (x : List (Msg × Hd)) : Chunk := star (x.map byt)

theorem none_made (W : World) (L : List Chunk) (w : World) (g : Nat) (A : Option Addr) (n c : Nat) (s : St W (.blk g [.bool true, .slice A n c] 52 :: L) w) :
    Calls Try.prog 30 #[.pointer (some ⟨g, 0, none⟩)] w fun e w' => e = .returned (.bool false) ∧ St W (.blk g [.bool true, .slice A n c] 52 :: L) w' := by
  refine enter_args (l := [.pointer (some ⟨g, 0, none⟩)]) Try.func30 rfl rfl (Nat.le_of_ble_eq_true rfl) ?_
  intro a ha; replace ha : Has a 12 [(0, .pointer (some ⟨g, 0, none⟩))] := ha
  refine wp_seq ?_
  refine wp_region_lit ?_
  refine st_val (.bool false) ha (by kernel_rfl) (by kernel_rfl) ?_
  clear ha; intro a ha
  refine wpList_nil ?_
  refine then_normal ?_
  refine wp_seq ?_
  refine wp_region_lit ?_
  refine st_val (.pointer (some ⟨g, 0, none⟩)) ha (by kernel_rfl) (by kernel_rfl) ?_
  clear ha; intro a ha
  refine st_val (.bool false) ha (by kernel_rfl) (by kernel_rfl) ?_
  clear ha; intro a ha
  refine st_val (.bool false) ha (by kernel_rfl) (by kernel_rfl) ?_
  clear ha; intro a ha
  refine st_val (.pointer (some ⟨g, 0, none⟩)) ha (by kernel_rfl) (by kernel_rfl) ?_
  clear ha; intro a ha
  refine st_val (.pointer (some ⟨g, 0, none⟩)) ha (by kernel_rfl) (by kernel_rfl) ?_
  clear ha; intro a ha
  refine st_val (.pointer (some ⟨g, 0, none⟩)) ha (by kernel_rfl) (by kernel_rfl) ?_
  clear ha; intro a ha
  refine st_val (.bool true) ha (by kernel_rfl) (run_load1 (of_ := 0) (s.blkIs 0 rfl) rfl (by kernel_rfl) Try.isAgg4 rfl) ?_
  clear ha; intro a ha
  refine st_val (.bool false) ha (by kernel_rfl) (by kernel_rfl) ?_
  clear ha; intro a ha
  refine st_val (.bool false) ha (by kernel_rfl) (by kernel_rfl) ?_
  clear ha; intro a ha
  refine st_val (.bool false) ha (by kernel_rfl) (by kernel_rfl) ?_
  clear ha; intro a ha
  refine wpList_nil ?_
  refine then_normal ?_
  refine wp_ret ?_
  refine ret_with (v := .bool false) ha (results_1 rfl ha (res_tmp (by kernel_rfl) (by kernel_rfl))) ?_
  exact ⟨rfl, s⟩

theorem there_in (W : World) (L : List Chunk) (w : World) (g : Nat) (A : Option Addr) (n c : Nat) (m : Nat) (hm : m < n) (s : St W (.blk g [.bool true, .slice A n c] 52 :: L) w) :
    Calls Try.prog 28 #[.pointer (some ⟨g, 0, none⟩), .int .i64 ((m : Nat) : Int)] w fun e w' => e = .returned (.bool true) ∧ St W (.blk g [.bool true, .slice A n c] 52 :: L) w' := by
  refine enter_args (l := [.pointer (some ⟨g, 0, none⟩), .int .i64 ((m : Nat) : Int)]) Try.func28 rfl rfl (Nat.le_of_ble_eq_true rfl) ?_
  intro a ha; replace ha : Has a 21 [(0, .pointer (some ⟨g, 0, none⟩)), (1, .int .i64 ((m : Nat) : Int))] := ha
  refine wp_seq ?_
  refine wp_region_lit ?_
  refine st_val (.bool false) ha (by kernel_rfl) (by kernel_rfl) ?_
  clear ha; intro a ha
  refine wpList_nil ?_
  refine then_normal ?_
  refine wp_seq ?_
  refine wp_region_lit ?_
  refine st_val (.pointer (some ⟨g, 0, none⟩)) ha (by kernel_rfl) (by kernel_rfl) ?_
  clear ha; intro a ha
  refine st_call ha (by kernel_rfl) (by kernel_rfl) (none_made W _ w g A n c s) ?_
  rintro _ w ⟨rfl, s⟩
  replace s : St W (.blk g [.bool true, .slice A n c] 52 :: L) w := s
  refine ⟨_, rfl, ?_⟩; clear ha; intro a ha
  refine st_val (.bool true) ha (by kernel_rfl) (by kernel_rfl) ?_
  clear ha; intro a ha
  refine st_val (.bool true) ha (by kernel_rfl) (by kernel_rfl) ?_
  clear ha; intro a ha
  refine st_val (.int .i64 ((m : Nat) : Int)) ha (by kernel_rfl) (by kernel_rfl) ?_
  clear ha; intro a ha
  refine st_val (.bool true) ha (by kernel_rfl) (run_known (show (decide (((m : Nat) : Int) ≥ (0 : Int))) = true from decide_eq_true (by omega)) (by kernel_rfl)) ?_
  clear ha; intro a ha
  refine st_val (.bool true) ha (by kernel_rfl) (by kernel_rfl) ?_
  clear ha; intro a ha
  refine st_val (.bool true) ha (by kernel_rfl) (by kernel_rfl) ?_
  clear ha; intro a ha
  refine st_val (.int .i64 ((m : Nat) : Int)) ha (by kernel_rfl) (by kernel_rfl) ?_
  clear ha; intro a ha
  refine st_val (.pointer (some ⟨g, 0, none⟩)) ha (by kernel_rfl) (by kernel_rfl) ?_
  clear ha; intro a ha
  refine st_val (.pointer (some ⟨g, 0, none⟩)) ha (by kernel_rfl) (by kernel_rfl) ?_
  clear ha; intro a ha
  refine st_val (.pointer (some ⟨g, 1, none⟩)) ha (by kernel_rfl) (by kernel_rfl) ?_
  clear ha; intro a ha
  refine st_val (.slice A n c) ha (by kernel_rfl) (run_load1 (of_ := 1) (s.blkIs 0 rfl) rfl (by kernel_rfl) Try.isAgg50 rfl) ?_
  clear ha; intro a ha
  refine st_val (.int .i64 ((n : Nat) : Int)) ha (by kernel_rfl) (by kernel_rfl) ?_
  clear ha; intro a ha
  refine st_val (.bool true) ha (by kernel_rfl) (run_known (show (decide (((m : Nat) : Int) < ((n : Nat) : Int))) = true from decide_eq_true (by omega)) (by kernel_rfl)) ?_
  clear ha; intro a ha
  refine st_val (.bool true) ha (by kernel_rfl) (by kernel_rfl) ?_
  clear ha; intro a ha
  refine st_val (.bool true) ha (by kernel_rfl) (by kernel_rfl) ?_
  clear ha; intro a ha
  refine wpList_nil ?_
  refine then_normal ?_
  refine wp_ret ?_
  refine ret_with (v := .bool true) ha (results_1 rfl ha (res_tmp (by kernel_rfl) (by kernel_rfl))) ?_
  exact ⟨rfl, s⟩

theorem there_out (W : World) (L : List Chunk) (w : World) (g : Nat) (A : Option Addr) (n c : Nat) (i : Int) (hm : ¬ (0 ≤ i ∧ i < (n : Int))) (s : St W (.blk g [.bool true, .slice A n c] 52 :: L) w) :
    Calls Try.prog 28 #[.pointer (some ⟨g, 0, none⟩), .int .i64 i] w fun e w' => e = .returned (.bool false) ∧ St W (.blk g [.bool true, .slice A n c] 52 :: L) w' := by
  refine enter_args (l := [.pointer (some ⟨g, 0, none⟩), .int .i64 i]) Try.func28 rfl rfl (Nat.le_of_ble_eq_true rfl) ?_
  intro a ha; replace ha : Has a 21 [(0, .pointer (some ⟨g, 0, none⟩)), (1, .int .i64 i)] := ha
  refine wp_seq ?_
  refine wp_region_lit ?_
  refine st_val (.bool false) ha (by kernel_rfl) (by kernel_rfl) ?_
  clear ha; intro a ha
  refine wpList_nil ?_
  refine then_normal ?_
  refine wp_seq ?_
  refine wp_region_lit ?_
  refine st_val (.pointer (some ⟨g, 0, none⟩)) ha (by kernel_rfl) (by kernel_rfl) ?_
  clear ha; intro a ha
  refine st_call ha (by kernel_rfl) (by kernel_rfl) (none_made W _ w g A n c s) ?_
  rintro _ w ⟨rfl, s⟩
  replace s : St W (.blk g [.bool true, .slice A n c] 52 :: L) w := s
  refine ⟨_, rfl, ?_⟩; clear ha; intro a ha
  refine st_val (.bool true) ha (by kernel_rfl) (by kernel_rfl) ?_
  clear ha; intro a ha
  refine st_val (.bool true) ha (by kernel_rfl) (by kernel_rfl) ?_
  clear ha; intro a ha
  refine st_val (.int .i64 i) ha (by kernel_rfl) (by kernel_rfl) ?_
  clear ha; intro a ha
  refine st_val (.bool (decide (i ≥ (0 : Int)))) ha (by kernel_rfl) (by kernel_rfl) ?_
  clear ha; intro a ha
  refine st_val (.bool (decide (i ≥ (0 : Int)))) ha (by kernel_rfl) (by kernel_rfl) ?_
  clear ha; intro a ha
  refine st_val (.bool (decide (i ≥ (0 : Int)))) ha (by kernel_rfl) (by kernel_rfl) ?_
  clear ha; intro a ha
  rcases Bool.eq_false_or_eq_true (decide (i ≥ (0 : Int))) with hb | hb
  · rw [hb] at ha; replace hb : (i ≥ (0 : Int)) := of_decide_eq_true hb
    refine st_val (.int .i64 i) ha (by kernel_rfl) (by kernel_rfl) ?_
    clear ha; intro a ha
    refine st_val (.pointer (some ⟨g, 0, none⟩)) ha (by kernel_rfl) (by kernel_rfl) ?_
    clear ha; intro a ha
    refine st_val (.pointer (some ⟨g, 0, none⟩)) ha (by kernel_rfl) (by kernel_rfl) ?_
    clear ha; intro a ha
    refine st_val (.pointer (some ⟨g, 1, none⟩)) ha (by kernel_rfl) (by kernel_rfl) ?_
    clear ha; intro a ha
    refine st_val (.slice A n c) ha (by kernel_rfl) (run_load1 (of_ := 1) (s.blkIs 0 rfl) rfl (by kernel_rfl) Try.isAgg50 rfl) ?_
    clear ha; intro a ha
    refine st_val (.int .i64 ((n : Nat) : Int)) ha (by kernel_rfl) (by kernel_rfl) ?_
    clear ha; intro a ha
    refine st_val (.bool (decide (i < ((n : Nat) : Int)))) ha (by kernel_rfl) (by kernel_rfl) ?_
    clear ha; intro a ha
    refine st_val (.bool (decide (i < ((n : Nat) : Int)))) ha (by kernel_rfl) (by kernel_rfl) ?_
    clear ha; intro a ha
    refine st_val (.bool (decide (i < ((n : Nat) : Int)))) ha (by kernel_rfl) (by kernel_rfl) ?_
    clear ha; intro a ha
    refine wpList_nil ?_
    refine then_normal ?_
    refine wp_ret ?_
    refine ret_with (v := .bool (decide (i < ((n : Nat) : Int)))) ha (results_1 rfl ha (res_tmp (by kernel_rfl) (by kernel_rfl))) ?_
    refine ⟨?_, s⟩
    first | rfl | (rw [show decide (i < ((n : Nat) : Int)) = false from decide_eq_false (by omega)])
  · rw [hb] at ha; replace hb : ¬ (i ≥ (0 : Int)) := of_decide_eq_false hb
    refine st_pass ha (by kernel_rfl) ?_
    clear ha; intro a ha
    refine st_pass ha (by kernel_rfl) ?_
    clear ha; intro a ha
    refine st_pass ha (by kernel_rfl) ?_
    clear ha; intro a ha
    refine st_pass ha (by kernel_rfl) ?_
    clear ha; intro a ha
    refine st_pass ha (by kernel_rfl) ?_
    clear ha; intro a ha
    refine st_pass ha (by kernel_rfl) ?_
    clear ha; intro a ha
    refine st_pass ha (by kernel_rfl) ?_
    clear ha; intro a ha
    refine st_val (.bool false) ha (by kernel_rfl) (by kernel_rfl) ?_
    clear ha; intro a ha
    refine st_val (.bool false) ha (by kernel_rfl) (by kernel_rfl) ?_
    clear ha; intro a ha
    refine wpList_nil ?_
    refine then_normal ?_
    refine wp_ret ?_
    refine ret_with (v := .bool false) ha (results_1 rfl ha (res_tmp (by kernel_rfl) (by kernel_rfl))) ?_
    refine ⟨?_, s⟩
    first | rfl | (rw [show decide (i < ((n : Nat) : Int)) = false from decide_eq_false (by omega)])

theorem len_made (W : World) (L : List Chunk) (w : World) (g : Nat) (A : Option Addr) (n c : Nat) (s : St W (.blk g [.bool true, .slice A n c] 52 :: L) w) :
    Calls Try.prog 20 #[.pointer (some ⟨g, 0, none⟩)] w fun e w' => e = .returned (.int .i64 (n : Int)) ∧ St W (.blk g [.bool true, .slice A n c] 52 :: L) w' := by
  refine enter_args (l := [.pointer (some ⟨g, 0, none⟩)]) Try.func20 rfl rfl (Nat.le_of_ble_eq_true rfl) ?_
  intro a ha; replace ha : Has a 10 [(0, .pointer (some ⟨g, 0, none⟩))] := ha
  refine wp_seq ?_
  refine wp_region_lit ?_
  refine st_val (.int .i64 0) ha (by kernel_rfl) (by kernel_rfl) ?_
  clear ha; intro a ha
  refine wpList_nil ?_
  refine then_normal ?_
  refine wp_seq ?_
  refine wp_seq ?_
  refine wp_region_lit ?_
  refine st_val (.pointer (some ⟨g, 0, none⟩)) ha (by kernel_rfl) (by kernel_rfl) ?_
  clear ha; intro a ha
  refine st_call ha (by kernel_rfl) (by kernel_rfl) (none_made W _ w g A n c s) ?_
  rintro _ w ⟨rfl, s⟩
  replace s : St W (.blk g [.bool true, .slice A n c] 52 :: L) w := s
  refine ⟨_, rfl, ?_⟩; clear ha; intro a ha
  refine wpList_nil ?_
  refine then_normal ?_
  refine wp_false ha rfl (by kernel_rfl) ?_
  refine wp_skip ?_
  refine then_normal ?_
  refine wp_seq ?_
  refine wp_region_lit ?_
  refine st_val (.pointer (some ⟨g, 0, none⟩)) ha (by kernel_rfl) (by kernel_rfl) ?_
  clear ha; intro a ha
  refine st_val (.pointer (some ⟨g, 0, none⟩)) ha (by kernel_rfl) (by kernel_rfl) ?_
  clear ha; intro a ha
  refine st_val (.pointer (some ⟨g, 1, none⟩)) ha (by kernel_rfl) (by kernel_rfl) ?_
  clear ha; intro a ha
  refine st_val (.slice A n c) ha (by kernel_rfl) (run_load1 (of_ := 1) (s.blkIs 0 rfl) rfl (by kernel_rfl) Try.isAgg50 rfl) ?_
  clear ha; intro a ha
  refine st_val (.int .i64 ((n : Nat) : Int)) ha (by kernel_rfl) (by kernel_rfl) ?_
  clear ha; intro a ha
  refine st_val (.int .i64 ((n : Nat) : Int)) ha (by kernel_rfl) (by kernel_rfl) ?_
  clear ha; intro a ha
  refine wpList_nil ?_
  refine then_normal ?_
  refine wp_ret ?_
  refine ret_with (v := .int .i64 ((n : Nat) : Int)) ha (results_1 rfl ha (res_tmp (by kernel_rfl) (by kernel_rfl))) ?_
  exact ⟨rfl, s⟩

theorem new_made (W : World) (L : List Chunk) (w : World) (s : St W L w) :
    Calls Try.prog 7 #[] w fun e w' => ∃ g, e = .returned (.pointer (some ⟨g, 0, none⟩)) ∧ St W (.blk g [.bool true, .slice none 0 0] 52 :: L) w' := by
  refine enter_args (l := []) Try.func7 rfl rfl (Nat.le_of_ble_eq_true rfl) ?_
  intro a ha; replace ha : Has a 3 [] := ha
  refine wp_seq ?_
  refine wp_region_lit ?_
  refine st_val (.pointer none) ha (by kernel_rfl) (by kernel_rfl) ?_
  clear ha; intro a ha
  refine wpList_nil ?_
  refine then_normal ?_
  refine wp_seq ?_
  refine wp_region_lit ?_
  refine st_val (.agg #[.bool true, .slice none 0 0]) ha (by kernel_rfl) (by kernel_rfl) ?_
  clear ha; intro a ha
  refine st_ex ha (by kernel_rfl) (ex_box [.bool true, .slice none 0 0] s rfl (by kernel_rfl)) ?_
  clear ha; rintro _ w a ⟨g1, rfl, s⟩ ha
  replace s : St W (.blk g1 [.bool true, .slice none 0 0] 52 :: L) w := s
  refine st_val (.pointer (some ⟨g1, 0, none⟩)) ha (by kernel_rfl) (by kernel_rfl) ?_
  clear ha; intro a ha
  refine wpList_nil ?_
  refine then_normal ?_
  refine wp_ret ?_
  refine ret_with (v := .pointer (some ⟨g1, 0, none⟩)) ha (results_1 rfl ha (res_tmp (by kernel_rfl) (by kernel_rfl))) ?_
  exact ⟨_, rfl, s⟩

theorem isNode_any (W : World) (L : List Chunk) (w : World) (i : Int) (s : St W L w) :
    Calls Try.prog 32 #[.int .i64 i] w fun e w' => e = .returned (.bool (decide (1 ≤ i ∧ i ≤ 4))) ∧ St W L w' := by
  refine enter_args (l := [.int .i64 i]) Try.func32 rfl rfl (Nat.le_of_ble_eq_true rfl) ?_
  intro a ha; replace ha : Has a 9 [(0, .int .i64 i)] := ha
  refine wp_seq ?_
  refine wp_region_lit ?_
  refine st_val (.bool false) ha (by kernel_rfl) (by kernel_rfl) ?_
  clear ha; intro a ha
  refine wpList_nil ?_
  refine then_normal ?_
  refine wp_seq ?_
  refine wp_region_lit ?_
  refine st_val (.int .i64 i) ha (by kernel_rfl) (by kernel_rfl) ?_
  clear ha; intro a ha
  refine st_val (.bool (decide (i ≥ (1 : Int)))) ha (by kernel_rfl) (by kernel_rfl) ?_
  clear ha; intro a ha
  refine st_val (.bool (decide (i ≥ (1 : Int)))) ha (by kernel_rfl) (by kernel_rfl) ?_
  clear ha; intro a ha
  rcases Bool.eq_false_or_eq_true (decide (i ≥ (1 : Int))) with hb | hb
  · rw [hb] at ha; replace hb : (i ≥ (1 : Int)) := of_decide_eq_true hb
    refine st_val (.int .i64 i) ha (by kernel_rfl) (by kernel_rfl) ?_
    clear ha; intro a ha
    refine st_val (.bool (decide (i ≤ (4 : Int)))) ha (by kernel_rfl) (by kernel_rfl) ?_
    clear ha; intro a ha
    refine st_val (.bool (decide (i ≤ (4 : Int)))) ha (by kernel_rfl) (by kernel_rfl) ?_
    clear ha; intro a ha
    refine st_val (.bool (decide (i ≤ (4 : Int)))) ha (by kernel_rfl) (by kernel_rfl) ?_
    clear ha; intro a ha
    refine wpList_nil ?_
    refine then_normal ?_
    refine wp_ret ?_
    refine ret_with (v := .bool (decide (i ≤ (4 : Int)))) ha (results_1 rfl ha (res_tmp (by kernel_rfl) (by kernel_rfl))) ?_
    refine ⟨?_, s⟩
    congr 2
    first | (rw [decide_eq_decide]; omega) | (symm; rw [decide_eq_false_iff_not]; omega)
  · rw [hb] at ha; replace hb : ¬ (i ≥ (1 : Int)) := of_decide_eq_false hb
    refine st_pass ha (by kernel_rfl) ?_
    clear ha; intro a ha
    refine st_pass ha (by kernel_rfl) ?_
    clear ha; intro a ha
    refine st_val (.bool false) ha (by kernel_rfl) (by kernel_rfl) ?_
    clear ha; intro a ha
    refine st_val (.bool false) ha (by kernel_rfl) (by kernel_rfl) ?_
    clear ha; intro a ha
    refine wpList_nil ?_
    refine then_normal ?_
    refine wp_ret ?_
    refine ret_with (v := .bool false) ha (results_1 rfl ha (res_tmp (by kernel_rfl) (by kernel_rfl))) ?_
    refine ⟨?_, s⟩
    congr 2
    first | (rw [decide_eq_decide]; omega) | (symm; rw [decide_eq_false_iff_not]; omega)

theorem clone_some (W : World) (L : List Chunk) (w : World) (ad : Addr) (n c : Nat) (bs : List Int) (hr : Knows L fun w => Reads w 1 (some ad) n (u8s bs)) (hn : n ≤ 140737488351232) (s : St W L w) :
    Calls Try.prog 34 #[.slice (some ad) n c] w fun e w' => ∃ A' c', e = .returned (.slice A' n c') ∧ A' ≠ none ∧ St W (Own 5 1 A' n c' (u8s bs) :: L) w' := by
  refine enter_args (l := [.slice (some ad) n c]) Try.func34 rfl rfl (Nat.le_of_ble_eq_true rfl) ?_
  intro a ha; replace ha : Has a 8 [(0, .slice (some ad) n c)] := ha
  refine wp_seq ?_
  refine wp_region_lit ?_
  refine st_val (.slice none 0 0) ha (by kernel_rfl) (by kernel_rfl) ?_
  clear ha; intro a ha
  refine wpList_nil ?_
  refine then_normal ?_
  refine wp_seq ?_
  refine wp_seq ?_
  refine wp_region_lit ?_
  refine st_val (.slice (some ad) n c) ha (by kernel_rfl) (by kernel_rfl) ?_
  clear ha; intro a ha
  refine st_val (.bool false) ha (by kernel_rfl) (run_known (show ((some ad).isNone) = false from rfl) (by have h : ∀ A n c w, (execOp (evalE []) ⟨none, .binOp .eql 27 (.const (.slice A n c)) (.const (.slice none 0 0)) 27, 0, "", #[], none⟩).run Try.prog w = .ok (.value (.bool (A.isNone))) w := (fun A _ _ _ => by cases A <;> kernel_rfl); exact h _ _ _ _)) ?_
  clear ha; intro a ha
  refine wpList_nil ?_
  refine then_normal ?_
  refine wp_false ha rfl (by kernel_rfl) ?_
  refine wp_skip ?_
  refine then_normal ?_
  refine wp_seq ?_
  refine wp_region_lit ?_
  refine st_ex ha (by kernel_rfl) (ex_buildSlice elt27 _ zs27 [] s rfl (by kernel_rfl) (by decide)) ?_
  clear ha; rintro _ w a ⟨g1, rfl, s⟩ ha
  replace s : St W (.blk g1 [] 5 :: L) w := s
  refine st_val (.slice (some ad) n c) ha (by kernel_rfl) (by kernel_rfl) ?_
  clear ha; intro a ha
  replace s : St W (Own 5 1 (some ⟨g1, 0, none⟩) 0 0 [] :: L) w := Own.close rfl (Nat.le_refl _) (by simp [maxLen]) (by simp) (by simp) s
  refine st_ex ha (by kernel_rfl) (ex_append (d' := c) elt27 (by decide) 0 (u8s bs) s rfl (by kernel_rfl) (by kernel_rfl) rfl (hr _ s.sat.tail) (u8_one bs) (by simp only [maxLen]; omega) (by omega)) ?_
  clear ha; rintro _ w a ⟨A2, c3, rfl, hA_, s⟩ ha
  replace s : St W (Own 5 1 A2 (0 + n) c3 ([] ++ (u8s bs)) :: L) w := s
  refine st_val (.slice A2 (0 + n) c3) ha (by kernel_rfl) (by kernel_rfl) ?_
  clear ha; intro a ha
  refine wpList_nil ?_
  refine then_normal ?_
  refine wp_ret ?_
  refine ret_with (v := .slice A2 (0 + n) c3) ha (results_1 rfl ha (res_tmp (by kernel_rfl) (by kernel_rfl))) ?_
  rw [Nat.zero_add, List.nil_append] at s; rw [Nat.zero_add]
  exact ⟨_, _, rfl, fun e => by have := hA_ e; simp at this, s⟩

theorem clone_none (W : World) (L : List Chunk) (w : World) (n c : Nat) (s : St W L w) :
    Calls Try.prog 34 #[.slice none n c] w fun e w' => e = .returned (.slice none 0 0) ∧ St W L w' := by
  refine enter_args (l := [.slice none n c]) Try.func34 rfl rfl (Nat.le_of_ble_eq_true rfl) ?_
  intro a ha; replace ha : Has a 8 [(0, .slice none n c)] := ha
  refine wp_seq ?_
  refine wp_region_lit ?_
  refine st_val (.slice none 0 0) ha (by kernel_rfl) (by kernel_rfl) ?_
  clear ha; intro a ha
  refine wpList_nil ?_
  refine then_normal ?_
  refine wp_seq ?_
  refine wp_seq ?_
  refine wp_region_lit ?_
  refine st_val (.slice none n c) ha (by kernel_rfl) (by kernel_rfl) ?_
  clear ha; intro a ha
  refine st_val (.bool true) ha (by kernel_rfl) (by kernel_rfl) ?_
  clear ha; intro a ha
  refine wpList_nil ?_
  refine then_normal ?_
  refine wp_true ha rfl (by kernel_rfl) ?_
  refine wp_seq ?_
  refine wp_region_lit ?_
  refine st_val (.slice none 0 0) ha (by kernel_rfl) (by kernel_rfl) ?_
  clear ha; intro a ha
  refine wpList_nil ?_
  refine then_normal ?_
  refine wp_ret ?_
  refine then_ret ?_
  refine ret_with (v := .slice none 0 0) ha (results_1 rfl ha (res_tmp (by kernel_rfl) (by kernel_rfl))) ?_
  exact ⟨rfl, s⟩

theorem clone_any (W : World) (L : List Chunk) (w : World) (A : Option Addr) (n c : Nat) (bs : List Int) (hr : Knows L fun w => Reads w 1 A n (u8s bs)) (hn : n ≤ 140737488351232) (s : St W L w) :
    Calls Try.prog 34 #[.slice A n c] w fun e w' => ∃ A' c', e = .returned (.slice A' n c') ∧ St W (Own 5 1 A' n c' (u8s bs) :: L) w' := by
  cases A with
  | some ad => exact (clone_some W L w ad n c bs hr hn s).mono fun e w' ⟨A', c', he, _, s⟩ => ⟨A', c', he, s⟩
  | none =>
    refine (clone_none W L w n c s).mono fun e w' ⟨he, s'⟩ => ?_
    have h := hr w s.1
    have hn0 : n = 0 := by
      by_cases h0 : 0 < n * 1
      · exact absurd rfl (h.2.1 h0)
      · omega
    subst hn0
    have hb : u8s bs = [] := by simpa using h.1
    rw [hb]
    exact ⟨none, 0, he, Own.none_ none s'⟩

theorem own_any (W : World) (L : List Chunk) (w : World) (f t : Int) (A : Option Addr) (n c : Nat) (bs : List Int) (hr : Knows L fun w => Reads w 1 A n (u8s bs)) (hn : n ≤ 140737488351232) (s : St W L w) :
    Calls Try.prog 29 #[.agg #[.int .i64 f, .int .i64 t, .slice A n c]] w fun e w' => ∃ A' c', e = .returned (.agg #[.int .i64 f, .int .i64 t, .slice A' n c']) ∧ St W (Own 5 1 A' n c' (u8s bs) :: L) w' := by
  refine enter_args (l := [.agg #[.int .i64 f, .int .i64 t, .slice A n c]]) Try.func29 rfl rfl (Nat.le_of_ble_eq_true rfl) ?_
  intro a ha; replace ha : Has a 8 [(0, .agg #[.int .i64 f, .int .i64 t, .slice A n c])] := ha
  refine wp_seq ?_
  refine wp_region_lit ?_
  refine st_ex ha (by kernel_rfl) (ex_box [.int .i64 f, .int .i64 t, .slice A n c] s rfl (by kernel_rfl)) ?_
  clear ha; rintro _ w a ⟨g1, rfl, s⟩ ha
  replace s : St W (.blk g1 [.int .i64 f, .int .i64 t, .slice A n c] 29 :: L) w := s
  refine st_ex ha (by kernel_rfl) (ex_alloc [.int .i64 0, .int .i64 0, .slice none 0 0] s rfl (Try.zeroValue29 _) (by kernel_rfl)) ?_
  clear ha; rintro _ w a ⟨g2, rfl, s⟩ ha
  replace s : St W (.blk g2 [.int .i64 0, .int .i64 0, .slice none 0 0] 29 :: .blk g1 [.int .i64 f, .int .i64 t, .slice A n c] 29 :: L) w := s
  refine wpList_nil ?_
  refine then_normal ?_
  refine wp_seq ?_
  refine wp_region_lit ?_
  refine st_val (.pointer (some ⟨g1, 2, none⟩)) ha (by kernel_rfl) (by kernel_rfl) ?_
  clear ha; intro a ha
  refine st_val (.slice A n c) ha (by kernel_rfl) (run_load1 (of_ := 2) (s.blkIs 1 rfl) rfl (by kernel_rfl) Try.isAgg27 rfl) ?_
  clear ha; intro a ha
  refine st_call ha (by kernel_rfl) (by kernel_rfl) (clone_any W _ w A n c bs (((hr).up _).up _) hn s) ?_
  rintro _ w ⟨A3, c4, rfl, s⟩
  replace s : St W (Own 5 1 A3 n c4 (u8s bs) :: .blk g2 [.int .i64 0, .int .i64 0, .slice none 0 0] 29 :: .blk g1 [.int .i64 f, .int .i64 t, .slice A n c] 29 :: L) w := s
  refine ⟨_, rfl, ?_⟩; clear ha; intro a ha
  refine st_val (.pointer (some ⟨g1, 2, none⟩)) ha (by kernel_rfl) (by kernel_rfl) ?_
  clear ha; intro a ha
  refine st_exd ha (by kernel_rfl) (ex_store (of_ := 2) 2 [.slice A3 n c4] s rfl rfl (by kernel_rfl) (by kernel_rfl) (Try.sizeOf27 _) rfl (by simp [Value.oneCell']) (Nat.le_of_ble_eq_true rfl)) ?_
  clear ha; rintro w a s ha
  replace s : St W (Own 5 1 A3 n c4 (u8s bs) :: .blk g2 [.int .i64 0, .int .i64 0, .slice none 0 0] 29 :: .blk g1 [.int .i64 f, .int .i64 t, .slice A3 n c4] 29 :: L) w := s
  refine wpList_nil ?_
  refine then_normal ?_
  refine wp_seq ?_
  refine wp_region_lit ?_
  refine st_val (.agg #[.int .i64 f, .int .i64 t, .slice A3 n c4]) ha (by kernel_rfl) (run_loadN (of_ := 0) [.int .i64 f, .int .i64 t, .slice A3 n c4] (s.blkIs 2 rfl) rfl (by kernel_rfl) Try.isAgg29 Try.sizeOf29 rfl (Nat.le_of_ble_eq_true rfl)) ?_
  clear ha; intro a ha
  refine st_exd ha (by kernel_rfl) (ex_store (of_ := 0) 1 [.int .i64 f, .int .i64 t, .slice A3 n c4] s rfl rfl (by kernel_rfl) (by kernel_rfl) (Try.sizeOf29 _) rfl (by simp [Value.oneCell']) (Nat.le_of_ble_eq_true rfl)) ?_
  clear ha; rintro w a s ha
  replace s : St W (Own 5 1 A3 n c4 (u8s bs) :: .blk g2 [.int .i64 f, .int .i64 t, .slice A3 n c4] 29 :: .blk g1 [.int .i64 f, .int .i64 t, .slice A3 n c4] 29 :: L) w := s
  refine wpList_nil ?_
  refine then_normal ?_
  refine wp_ret ?_
  refine ret_with (v := .agg #[.int .i64 f, .int .i64 t, .slice A3 n c4]) ha (results_1 rfl ha (res_cellN (s.blkIs 1 rfl) (by kernel_rfl) (by kernel_rfl) Try.isAgg29 Try.sizeOf29 rfl)) ?_
  replace s : St W (Own 5 1 A3 n c4 (u8s bs) :: L) w := St.mid (A := [Own 5 1 A3 n c4 (u8s bs)]) (B := [.blk g2 [.int .i64 f, .int .i64 t, .slice A3 n c4] 29, .blk g1 [.int .i64 f, .int .i64 t, .slice A3 n c4] 29]) s
  exact ⟨_, _, rfl, s⟩

theorem rows_snoc (x : List (Msg × Hd)) (y : Msg × Hd) : rows x ++ ecells y = rows (x ++ [y]) := by simp [rows]
theorem rows_len (x : List (Msg × Hd)) : (rows x).length = x.length * 3 := by
  induction x with
  | nil => rfl
  | cons y x ih => simp only [rows, List.flatMap_cons, List.length_append] at *; rw [ih, List.length_cons, show (ecells y).length = 3 from rfl]; omega

theorem isNode_yes (W : World) (L : List Chunk) (w : World) (i : Int) (h : 1 ≤ i ∧ i ≤ 4) (s : St W L w) : Calls Try.prog 32 #[.int .i64 i] w fun e w' => e = .returned (.bool true) ∧ St W L w' :=
  (isNode_any W L w i s).mono fun e w' h' => ⟨by rw [h'.1]; congr 2; simpa using h, h'.2⟩

theorem isNode_no (W : World) (L : List Chunk) (w : World) (i : Int) (h : ¬ (1 ≤ i ∧ i ≤ 4)) (s : St W L w) : Calls Try.prog 32 #[.int .i64 i] w fun e w' => e = .returned (.bool false) ∧ St W L w' :=
  (isNode_any W L w i s).mono fun e w' h' => ⟨by rw [h'.1]; congr 2; simpa using h, h'.2⟩

theorem put_ok (W : World) (L : List Chunk) (w : World) (g : Nat) (A : Option Addr) (c : Nat) (x : List (Msg × Hd)) (f t : Int) (A0 : Option Addr) (n0 c0 : Nat) (bs : List Int) (hr : Knows L fun w => Reads w 1 A0 n0 (u8s bs)) (hn : n0 ≤ 140737488351232) (hf : 1 ≤ f ∧ f ≤ 4) (ht : 1 ≤ t ∧ t ≤ 4) (hk : n0 ≤ 65536) (hx : x.length < 2048) (s : St W (.blk g [.bool true, .slice A x.length c] 52 :: Own 29 3 A x.length c (rows x) :: L) w) :
    Calls Try.prog 18 #[.pointer (some ⟨g, 0, none⟩), .agg #[.int .i64 f, .int .i64 t, .slice A0 n0 c0]] w fun e w' => e = .returned (.int .i64 0) ∧ ∃ A' c' A1 c1, St W (.blk g [.bool true, .slice A' (x.length + 1) c'] 52 :: Own 29 3 A' (x.length + 1) c' (rows (x ++ [(⟨f, t, bs⟩, ⟨A1, c1⟩)])) :: Own 5 1 A1 n0 c1 (u8s bs) :: L) w' := by
  have hl0 : n0 = bs.length := by have := (hr w s.1.tail.tail).1; rw [u8_len] at this; omega
  refine enter_args (l := [.pointer (some ⟨g, 0, none⟩), .agg #[.int .i64 f, .int .i64 t, .slice A0 n0 c0]]) Try.func18 rfl rfl (Nat.le_of_ble_eq_true rfl) ?_
  intro a ha; replace ha : Has a 42 [(0, .pointer (some ⟨g, 0, none⟩)), (1, .agg #[.int .i64 f, .int .i64 t, .slice A0 n0 c0])] := ha
  refine wp_seq ?_
  refine wp_region_lit ?_
  refine st_ex ha (by kernel_rfl) (ex_box [.int .i64 f, .int .i64 t, .slice A0 n0 c0] s rfl (by kernel_rfl)) ?_
  clear ha; rintro _ w a ⟨g1, rfl, s⟩ ha
  replace s : St W (.blk g1 [.int .i64 f, .int .i64 t, .slice A0 n0 c0] 29 :: .blk g [.bool true, .slice A x.length c] 52 :: Own 29 3 A x.length c (rows x) :: L) w := s
  refine st_val (.int .i64 0) ha (by kernel_rfl) (by kernel_rfl) ?_
  clear ha; intro a ha
  refine wpList_nil ?_
  refine then_normal ?_
  refine wp_seq ?_
  refine wp_block ?_
  refine wp_seq ?_
  refine wp_region_lit ?_
  refine st_val (.pointer (some ⟨g, 0, none⟩)) ha (by kernel_rfl) (by kernel_rfl) ?_
  clear ha; intro a ha
  replace s := s.at_ (j := 1) rfl
  replace s : St W (.blk g [.bool true, .slice A x.length c] 52 :: .blk g1 [.int .i64 f, .int .i64 t, .slice A0 n0 c0] 29 :: Own 29 3 A x.length c (rows x) :: L) w := s
  refine st_call ha (by kernel_rfl) (by kernel_rfl) (none_made W _ w g A x.length c s) ?_
  rintro _ w ⟨rfl, s⟩
  replace s : St W (.blk g [.bool true, .slice A x.length c] 52 :: .blk g1 [.int .i64 f, .int .i64 t, .slice A0 n0 c0] 29 :: Own 29 3 A x.length c (rows x) :: L) w := s
  refine ⟨_, rfl, ?_⟩; clear ha; intro a ha
  refine st_val (.bool false) ha (by kernel_rfl) (by kernel_rfl) ?_
  clear ha; intro a ha
  refine wpList_nil ?_
  refine then_normal ?_
  refine wp_false ha rfl (by kernel_rfl) ?_
  refine wp_seq ?_
  refine wp_region_lit ?_
  refine st_val (.pointer (some ⟨g1, 0, none⟩)) ha (by kernel_rfl) (by kernel_rfl) ?_
  clear ha; intro a ha
  refine st_val (.int .i64 f) ha (by kernel_rfl) (run_load1 (of_ := 0) (s.blkIs 1 rfl) rfl (by kernel_rfl) Try.isAgg3 rfl) ?_
  clear ha; intro a ha
  refine st_call ha (by kernel_rfl) (by kernel_rfl) (isNode_yes W _ w f hf s) ?_
  rintro _ w ⟨rfl, s⟩
  replace s : St W (.blk g [.bool true, .slice A x.length c] 52 :: .blk g1 [.int .i64 f, .int .i64 t, .slice A0 n0 c0] 29 :: Own 29 3 A x.length c (rows x) :: L) w := s
  refine ⟨_, rfl, ?_⟩; clear ha; intro a ha
  refine st_val (.bool false) ha (by kernel_rfl) (by kernel_rfl) ?_
  clear ha; intro a ha
  refine st_val (.bool false) ha (by kernel_rfl) (by kernel_rfl) ?_
  clear ha; intro a ha
  refine st_val (.pointer (some ⟨g1, 1, none⟩)) ha (by kernel_rfl) (by kernel_rfl) ?_
  clear ha; intro a ha
  refine st_val (.int .i64 t) ha (by kernel_rfl) (run_load1 (of_ := 1) (s.blkIs 1 rfl) rfl (by kernel_rfl) Try.isAgg3 rfl) ?_
  clear ha; intro a ha
  refine st_call ha (by kernel_rfl) (by kernel_rfl) (isNode_yes W _ w t ht s) ?_
  rintro _ w ⟨rfl, s⟩
  replace s : St W (.blk g [.bool true, .slice A x.length c] 52 :: .blk g1 [.int .i64 f, .int .i64 t, .slice A0 n0 c0] 29 :: Own 29 3 A x.length c (rows x) :: L) w := s
  refine ⟨_, rfl, ?_⟩; clear ha; intro a ha
  refine st_val (.bool false) ha (by kernel_rfl) (by kernel_rfl) ?_
  clear ha; intro a ha
  refine st_val (.bool false) ha (by kernel_rfl) (by kernel_rfl) ?_
  clear ha; intro a ha
  refine st_val (.bool false) ha (by kernel_rfl) (by kernel_rfl) ?_
  clear ha; intro a ha
  refine wpList_nil ?_
  refine then_normal ?_
  refine wp_false ha rfl (by kernel_rfl) ?_
  refine wp_seq ?_
  refine wp_region_lit ?_
  refine st_val (.pointer (some ⟨g1, 2, none⟩)) ha (by kernel_rfl) (by kernel_rfl) ?_
  clear ha; intro a ha
  refine st_val (.slice A0 n0 c0) ha (by kernel_rfl) (run_load1 (of_ := 2) (s.blkIs 1 rfl) rfl (by kernel_rfl) Try.isAgg27 rfl) ?_
  clear ha; intro a ha
  refine st_val (.int .i64 ((n0 : Nat) : Int)) ha (by kernel_rfl) (by kernel_rfl) ?_
  clear ha; intro a ha
  refine st_val (.bool false) ha (by kernel_rfl) (run_known (show (decide (((n0 : Nat) : Int) > (65536 : Int))) = false from decide_eq_false (by omega)) (by kernel_rfl)) ?_
  clear ha; intro a ha
  refine st_val (.bool false) ha (by kernel_rfl) (by kernel_rfl) ?_
  clear ha; intro a ha
  refine wpList_nil ?_
  refine then_normal ?_
  refine wp_false ha rfl (by kernel_rfl) ?_
  refine wp_seq ?_
  refine wp_region_lit ?_
  refine st_val (.pointer (some ⟨g, 0, none⟩)) ha (by kernel_rfl) (by kernel_rfl) ?_
  clear ha; intro a ha
  refine st_val (.pointer (some ⟨g, 0, none⟩)) ha (by kernel_rfl) (by kernel_rfl) ?_
  clear ha; intro a ha
  refine st_val (.pointer (some ⟨g, 1, none⟩)) ha (by kernel_rfl) (by kernel_rfl) ?_
  clear ha; intro a ha
  refine st_val (.slice A x.length c) ha (by kernel_rfl) (run_load1 (of_ := 1) (s.blkIs 0 rfl) rfl (by kernel_rfl) Try.isAgg50 rfl) ?_
  clear ha; intro a ha
  refine st_val (.int .i64 ((x.length : Nat) : Int)) ha (by kernel_rfl) (by kernel_rfl) ?_
  clear ha; intro a ha
  refine st_val (.bool false) ha (by kernel_rfl) (run_known (show (decide (((x.length : Nat) : Int) ≥ (2048 : Int))) = false from decide_eq_false (by omega)) (by kernel_rfl)) ?_
  clear ha; intro a ha
  refine st_val (.bool false) ha (by kernel_rfl) (by kernel_rfl) ?_
  clear ha; intro a ha
  refine wpList_nil ?_
  refine then_normal ?_
  refine wp_false ha rfl (by kernel_rfl) ?_
  refine wp_skip ?_
  refine block_normal ?_
  refine then_normal ?_
  refine wp_seq ?_
  refine wp_region_head 9 (fun w => BlkIs g [.bool true, .slice A x.length c] w ∧ BlkIs g1 [.int .i64 f, .int .i64 t, .slice A0 n0 c0] w ∧ True) (by kernel_rfl) (by decide) ?_
  replace s := s.drew; generalize _root_.Go.World.drew _ = w at s ⊢
  have hS : (fun w => BlkIs g [.bool true, .slice A x.length c] w ∧ BlkIs g1 [.int .i64 f, .int .i64 t, .slice A0 n0 c0] w ∧ True) w := ⟨s.blkIs 0 rfl, s.blkIs 1 rfl, trivial⟩
  refine hd_val (i := 0) (.pointer (some ⟨g, 0, none⟩)) ha rfl (by kernel_rfl) (fun _ _ _ h => h) (by kernel_rfl) (fun w hS => (by kernel_rfl)) hS ?_
  clear ha; intro a ha
  refine hd_val (i := 1) (.pointer (some ⟨g, 0, none⟩)) ha rfl (by kernel_rfl) (fun _ _ _ h => h) (by kernel_rfl) (fun w hS => (by kernel_rfl)) hS ?_
  clear ha; intro a ha
  refine hd_val (i := 2) (.pointer (some ⟨g, 0, none⟩)) ha rfl (by kernel_rfl) (fun _ _ _ h => h) (by kernel_rfl) (fun w hS => (by kernel_rfl)) hS ?_
  clear ha; intro a ha
  refine hd_val (i := 3) (.pointer (some ⟨g, 1, none⟩)) ha rfl (by kernel_rfl) (fun _ _ _ h => h) (by kernel_rfl) (fun w hS => (by kernel_rfl)) hS ?_
  clear ha; intro a ha
  refine hd_val (i := 4) (.slice A x.length c) ha rfl (by kernel_rfl) (fun _ _ _ h => h) (by kernel_rfl) (fun w hS => run_load1 (of_ := 1) hS.1 rfl (by kernel_rfl) Try.isAgg50 rfl) hS ?_
  clear ha; intro a ha
  refine hd_val (i := 5) (.agg #[.int .i64 f, .int .i64 t, .slice A0 n0 c0]) ha rfl (by kernel_rfl) (fun _ _ _ h => h) (by kernel_rfl) (fun w hS => run_loadN (of_ := 0) [.int .i64 f, .int .i64 t, .slice A0 n0 c0] hS.2.1 rfl (by kernel_rfl) Try.isAgg29 Try.sizeOf29 rfl (Nat.le_of_ble_eq_true rfl)) hS ?_
  clear ha; intro a ha
  refine hd_call (i := 6) ha rfl (by kernel_rfl) (by kernel_rfl) (by kernel_rfl) (own_any W _ w f t A0 n0 c0 bs ((((hr).up _).up _).up _) hn s) ?_
  clear hS; rintro _ w ⟨A2, c3, rfl, s⟩
  replace s : St W (Own 5 1 A2 n0 c3 (u8s bs) :: .blk g [.bool true, .slice A x.length c] 52 :: .blk g1 [.int .i64 f, .int .i64 t, .slice A0 n0 c0] 29 :: Own 29 3 A x.length c (rows x) :: L) w := s
  have hS : (fun w => BlkIs g [.bool true, .slice A x.length c] w ∧ BlkIs g1 [.int .i64 f, .int .i64 t, .slice A0 n0 c0] w ∧ True) w := ⟨s.blkIs 1 rfl, s.blkIs 2 rfl, trivial⟩
  refine ⟨_, rfl, hS, ?_⟩; clear ha; intro a ha
  refine hd_ex (i := 7) ha rfl (by kernel_rfl) (by kernel_rfl) (ex_buildSlice elt50 _ zs50 [.int .i64 f, .int .i64 t, .slice A2 n0 c3] s rfl (by kernel_rfl) (by decide)) ?_
  clear hS; rintro _ w ⟨g4, rfl, s⟩
  replace s : St W (.blk g4 [.int .i64 f, .int .i64 t, .slice A2 n0 c3] 29 :: Own 5 1 A2 n0 c3 (u8s bs) :: .blk g [.bool true, .slice A x.length c] 52 :: .blk g1 [.int .i64 f, .int .i64 t, .slice A0 n0 c0] 29 :: Own 29 3 A x.length c (rows x) :: L) w := s
  have hS : (fun w => BlkIs g [.bool true, .slice A x.length c] w ∧ BlkIs g1 [.int .i64 f, .int .i64 t, .slice A0 n0 c0] w ∧ True) w := ⟨s.blkIs 2 rfl, s.blkIs 3 rfl, trivial⟩
  refine ⟨hS, ?_⟩; clear ha; intro a ha
  refine hd_ex (i := 8) ha rfl (by kernel_rfl) (by kernel_rfl) (ex_append (d' := 1) elt50 (by decide) 4 [.int .i64 f, .int .i64 t, .slice A2 n0 c3] s rfl (by kernel_rfl) (by kernel_rfl) rfl (reads_blk (s.blkIs 0 rfl) rfl) (by simp [Value.oneCell']) (by simp only [maxLen]; omega) (by omega)) ?_
  clear hS; rintro _ w ⟨A5, c6, rfl, hA_, s⟩
  replace s : St W (.blk g4 [.int .i64 f, .int .i64 t, .slice A2 n0 c3] 29 :: Own 5 1 A2 n0 c3 (u8s bs) :: .blk g [.bool true, .slice A x.length c] 52 :: .blk g1 [.int .i64 f, .int .i64 t, .slice A0 n0 c0] 29 :: Own 29 3 A5 (x.length + 1) c6 ((rows x) ++ [.int .i64 f, .int .i64 t, .slice A2 n0 c3]) :: L) w := s
  have hS : (fun w => BlkIs g [.bool true, .slice A x.length c] w ∧ BlkIs g1 [.int .i64 f, .int .i64 t, .slice A0 n0 c0] w ∧ True) w := ⟨s.blkIs 2 rfl, s.blkIs 3 rfl, trivial⟩
  refine ⟨hS, ?_⟩; clear ha; intro a ha
  refine Head.done (by kernel_rfl) ?_
  clear hS; simp only [List.drop_succ_cons, List.drop_zero]
  refine st_val (.pointer (some ⟨g, 0, none⟩)) ha (by kernel_rfl) (by kernel_rfl) ?_
  clear ha; intro a ha
  refine st_val (.pointer (some ⟨g, 1, none⟩)) ha (by kernel_rfl) (by kernel_rfl) ?_
  clear ha; intro a ha
  refine st_exd ha (by kernel_rfl) (ex_store (of_ := 1) 2 [.slice A5 (x.length + 1) c6] s rfl rfl (by kernel_rfl) (by kernel_rfl) (Try.sizeOf50 _) rfl (by simp [Value.oneCell']) (Nat.le_of_ble_eq_true rfl)) ?_
  clear ha; rintro w a s ha
  replace s : St W (.blk g4 [.int .i64 f, .int .i64 t, .slice A2 n0 c3] 29 :: Own 5 1 A2 n0 c3 (u8s bs) :: .blk g [.bool true, .slice A5 (x.length + 1) c6] 52 :: .blk g1 [.int .i64 f, .int .i64 t, .slice A0 n0 c0] 29 :: Own 29 3 A5 (x.length + 1) c6 ((rows x) ++ [.int .i64 f, .int .i64 t, .slice A2 n0 c3]) :: L) w := s
  refine wpList_nil ?_
  refine then_normal ?_
  refine wp_seq ?_
  refine wp_region_lit ?_
  refine st_val (.int .i64 0) ha (by kernel_rfl) (by kernel_rfl) ?_
  clear ha; intro a ha
  refine wpList_nil ?_
  refine then_normal ?_
  refine wp_ret ?_
  refine ret_with (v := .int .i64 0) ha (results_1 rfl ha (res_tmp (by kernel_rfl) (by kernel_rfl))) ?_
  replace s := s.at_ (j := 1) rfl
  replace s : St W (Own 5 1 A2 n0 c3 (u8s bs) :: .blk g4 [.int .i64 f, .int .i64 t, .slice A2 n0 c3] 29 :: .blk g [.bool true, .slice A5 (x.length + 1) c6] 52 :: .blk g1 [.int .i64 f, .int .i64 t, .slice A0 n0 c0] 29 :: Own 29 3 A5 (x.length + 1) c6 ((rows x) ++ [.int .i64 f, .int .i64 t, .slice A2 n0 c3]) :: L) w := s
  replace s := s.at_ (j := 4) rfl
  replace s : St W (Own 29 3 A5 (x.length + 1) c6 ((rows x) ++ [.int .i64 f, .int .i64 t, .slice A2 n0 c3]) :: Own 5 1 A2 n0 c3 (u8s bs) :: .blk g4 [.int .i64 f, .int .i64 t, .slice A2 n0 c3] 29 :: .blk g [.bool true, .slice A5 (x.length + 1) c6] 52 :: .blk g1 [.int .i64 f, .int .i64 t, .slice A0 n0 c0] 29 :: L) w := s
  replace s := s.at_ (j := 3) rfl
  replace s : St W (.blk g [.bool true, .slice A5 (x.length + 1) c6] 52 :: Own 29 3 A5 (x.length + 1) c6 ((rows x) ++ [.int .i64 f, .int .i64 t, .slice A2 n0 c3]) :: Own 5 1 A2 n0 c3 (u8s bs) :: .blk g4 [.int .i64 f, .int .i64 t, .slice A2 n0 c3] 29 :: .blk g1 [.int .i64 f, .int .i64 t, .slice A0 n0 c0] 29 :: L) w := s
  replace s : St W (.blk g [.bool true, .slice A5 (x.length + 1) c6] 52 :: Own 29 3 A5 (x.length + 1) c6 ((rows x) ++ [.int .i64 f, .int .i64 t, .slice A2 n0 c3]) :: Own 5 1 A2 n0 c3 (u8s bs) :: L) w := St.mid (A := [.blk g [.bool true, .slice A5 (x.length + 1) c6] 52, Own 29 3 A5 (x.length + 1) c6 ((rows x) ++ [.int .i64 f, .int .i64 t, .slice A2 n0 c3]), Own 5 1 A2 n0 c3 (u8s bs)]) (B := [.blk g4 [.int .i64 f, .int .i64 t, .slice A2 n0 c3] 29, .blk g1 [.int .i64 f, .int .i64 t, .slice A0 n0 c0] 29]) s
  rw [show ([.int .i64 f, .int .i64 t, .slice A2 n0 c3] : List Value) = ecells (⟨f, t, bs⟩, ⟨A2, c3⟩) by rw [hl0]; rfl, rows_snoc] at s
  exact ⟨rfl, _, _, _, _, s⟩

theorem put_badf (W : World) (L : List Chunk) (w : World) (g : Nat) (A : Option Addr) (c : Nat) (x : List (Msg × Hd)) (f t : Int) (A0 : Option Addr) (n0 c0 : Nat) (hf : ¬ (1 ≤ f ∧ f ≤ 4)) (s : St W (.blk g [.bool true, .slice A x.length c] 52 :: Own 29 3 A x.length c (rows x) :: L) w) :
    Calls Try.prog 18 #[.pointer (some ⟨g, 0, none⟩), .agg #[.int .i64 f, .int .i64 t, .slice A0 n0 c0]] w fun e w' => e = .returned (.int .i64 2) ∧ St W (.blk g [.bool true, .slice A x.length c] 52 :: Own 29 3 A x.length c (rows x) :: L) w' := by
  refine enter_args (l := [.pointer (some ⟨g, 0, none⟩), .agg #[.int .i64 f, .int .i64 t, .slice A0 n0 c0]]) Try.func18 rfl rfl (Nat.le_of_ble_eq_true rfl) ?_
  intro a ha; replace ha : Has a 42 [(0, .pointer (some ⟨g, 0, none⟩)), (1, .agg #[.int .i64 f, .int .i64 t, .slice A0 n0 c0])] := ha
  refine wp_seq ?_
  refine wp_region_lit ?_
  refine st_ex ha (by kernel_rfl) (ex_box [.int .i64 f, .int .i64 t, .slice A0 n0 c0] s rfl (by kernel_rfl)) ?_
  clear ha; rintro _ w a ⟨g1, rfl, s⟩ ha
  replace s : St W (.blk g1 [.int .i64 f, .int .i64 t, .slice A0 n0 c0] 29 :: .blk g [.bool true, .slice A x.length c] 52 :: Own 29 3 A x.length c (rows x) :: L) w := s
  refine st_val (.int .i64 0) ha (by kernel_rfl) (by kernel_rfl) ?_
  clear ha; intro a ha
  refine wpList_nil ?_
  refine then_normal ?_
  refine wp_seq ?_
  refine wp_block ?_
  refine wp_seq ?_
  refine wp_region_lit ?_
  refine st_val (.pointer (some ⟨g, 0, none⟩)) ha (by kernel_rfl) (by kernel_rfl) ?_
  clear ha; intro a ha
  replace s := s.at_ (j := 1) rfl
  replace s : St W (.blk g [.bool true, .slice A x.length c] 52 :: .blk g1 [.int .i64 f, .int .i64 t, .slice A0 n0 c0] 29 :: Own 29 3 A x.length c (rows x) :: L) w := s
  refine st_call ha (by kernel_rfl) (by kernel_rfl) (none_made W _ w g A x.length c s) ?_
  rintro _ w ⟨rfl, s⟩
  replace s : St W (.blk g [.bool true, .slice A x.length c] 52 :: .blk g1 [.int .i64 f, .int .i64 t, .slice A0 n0 c0] 29 :: Own 29 3 A x.length c (rows x) :: L) w := s
  refine ⟨_, rfl, ?_⟩; clear ha; intro a ha
  refine st_val (.bool false) ha (by kernel_rfl) (by kernel_rfl) ?_
  clear ha; intro a ha
  refine wpList_nil ?_
  refine then_normal ?_
  refine wp_false ha rfl (by kernel_rfl) ?_
  refine wp_seq ?_
  refine wp_region_lit ?_
  refine st_val (.pointer (some ⟨g1, 0, none⟩)) ha (by kernel_rfl) (by kernel_rfl) ?_
  clear ha; intro a ha
  refine st_val (.int .i64 f) ha (by kernel_rfl) (run_load1 (of_ := 0) (s.blkIs 1 rfl) rfl (by kernel_rfl) Try.isAgg3 rfl) ?_
  clear ha; intro a ha
  refine st_call ha (by kernel_rfl) (by kernel_rfl) (isNode_no W _ w f hf s) ?_
  rintro _ w ⟨rfl, s⟩
  replace s : St W (.blk g [.bool true, .slice A x.length c] 52 :: .blk g1 [.int .i64 f, .int .i64 t, .slice A0 n0 c0] 29 :: Own 29 3 A x.length c (rows x) :: L) w := s
  refine ⟨_, rfl, ?_⟩; clear ha; intro a ha
  refine st_val (.bool true) ha (by kernel_rfl) (by kernel_rfl) ?_
  clear ha; intro a ha
  refine st_val (.bool true) ha (by kernel_rfl) (by kernel_rfl) ?_
  clear ha; intro a ha
  refine st_pass ha (by kernel_rfl) ?_
  clear ha; intro a ha
  refine st_pass ha (by kernel_rfl) ?_
  clear ha; intro a ha
  refine st_pass ha (by kernel_rfl) ?_
  clear ha; intro a ha
  refine st_pass ha (by kernel_rfl) ?_
  clear ha; intro a ha
  refine st_val (.bool true) ha (by kernel_rfl) (by kernel_rfl) ?_
  clear ha; intro a ha
  refine st_val (.bool true) ha (by kernel_rfl) (by kernel_rfl) ?_
  clear ha; intro a ha
  refine wpList_nil ?_
  refine then_normal ?_
  refine wp_true ha rfl (by kernel_rfl) ?_
  refine wp_seq ?_
  refine wp_region_lit ?_
  refine st_val (.int .i64 2) ha (by kernel_rfl) (by kernel_rfl) ?_
  clear ha; intro a ha
  refine wpList_nil ?_
  refine then_normal ?_
  refine wp_ret ?_
  refine block_ret ?_
  refine then_ret ?_
  refine ret_with (v := .int .i64 2) ha (results_1 rfl ha (res_tmp (by kernel_rfl) (by kernel_rfl))) ?_
  replace s := s.at_ (j := 2) rfl
  replace s : St W (Own 29 3 A x.length c (rows x) :: .blk g [.bool true, .slice A x.length c] 52 :: .blk g1 [.int .i64 f, .int .i64 t, .slice A0 n0 c0] 29 :: L) w := s
  replace s := s.at_ (j := 1) rfl
  replace s : St W (.blk g [.bool true, .slice A x.length c] 52 :: Own 29 3 A x.length c (rows x) :: .blk g1 [.int .i64 f, .int .i64 t, .slice A0 n0 c0] 29 :: L) w := s
  replace s : St W (.blk g [.bool true, .slice A x.length c] 52 :: Own 29 3 A x.length c (rows x) :: L) w := St.mid (A := [.blk g [.bool true, .slice A x.length c] 52, Own 29 3 A x.length c (rows x)]) (B := [.blk g1 [.int .i64 f, .int .i64 t, .slice A0 n0 c0] 29]) s
  exact ⟨rfl, s⟩

theorem put_badt (W : World) (L : List Chunk) (w : World) (g : Nat) (A : Option Addr) (c : Nat) (x : List (Msg × Hd)) (f t : Int) (A0 : Option Addr) (n0 c0 : Nat) (hf : 1 ≤ f ∧ f ≤ 4) (ht : ¬ (1 ≤ t ∧ t ≤ 4)) (s : St W (.blk g [.bool true, .slice A x.length c] 52 :: Own 29 3 A x.length c (rows x) :: L) w) :
    Calls Try.prog 18 #[.pointer (some ⟨g, 0, none⟩), .agg #[.int .i64 f, .int .i64 t, .slice A0 n0 c0]] w fun e w' => e = .returned (.int .i64 2) ∧ St W (.blk g [.bool true, .slice A x.length c] 52 :: Own 29 3 A x.length c (rows x) :: L) w' := by
  refine enter_args (l := [.pointer (some ⟨g, 0, none⟩), .agg #[.int .i64 f, .int .i64 t, .slice A0 n0 c0]]) Try.func18 rfl rfl (Nat.le_of_ble_eq_true rfl) ?_
  intro a ha; replace ha : Has a 42 [(0, .pointer (some ⟨g, 0, none⟩)), (1, .agg #[.int .i64 f, .int .i64 t, .slice A0 n0 c0])] := ha
  refine wp_seq ?_
  refine wp_region_lit ?_
  refine st_ex ha (by kernel_rfl) (ex_box [.int .i64 f, .int .i64 t, .slice A0 n0 c0] s rfl (by kernel_rfl)) ?_
  clear ha; rintro _ w a ⟨g1, rfl, s⟩ ha
  replace s : St W (.blk g1 [.int .i64 f, .int .i64 t, .slice A0 n0 c0] 29 :: .blk g [.bool true, .slice A x.length c] 52 :: Own 29 3 A x.length c (rows x) :: L) w := s
  refine st_val (.int .i64 0) ha (by kernel_rfl) (by kernel_rfl) ?_
  clear ha; intro a ha
  refine wpList_nil ?_
  refine then_normal ?_
  refine wp_seq ?_
  refine wp_block ?_
  refine wp_seq ?_
  refine wp_region_lit ?_
  refine st_val (.pointer (some ⟨g, 0, none⟩)) ha (by kernel_rfl) (by kernel_rfl) ?_
  clear ha; intro a ha
  replace s := s.at_ (j := 1) rfl
  replace s : St W (.blk g [.bool true, .slice A x.length c] 52 :: .blk g1 [.int .i64 f, .int .i64 t, .slice A0 n0 c0] 29 :: Own 29 3 A x.length c (rows x) :: L) w := s
  refine st_call ha (by kernel_rfl) (by kernel_rfl) (none_made W _ w g A x.length c s) ?_
  rintro _ w ⟨rfl, s⟩
  replace s : St W (.blk g [.bool true, .slice A x.length c] 52 :: .blk g1 [.int .i64 f, .int .i64 t, .slice A0 n0 c0] 29 :: Own 29 3 A x.length c (rows x) :: L) w := s
  refine ⟨_, rfl, ?_⟩; clear ha; intro a ha
  refine st_val (.bool false) ha (by kernel_rfl) (by kernel_rfl) ?_
  clear ha; intro a ha
  refine wpList_nil ?_
  refine then_normal ?_
  refine wp_false ha rfl (by kernel_rfl) ?_
  refine wp_seq ?_
  refine wp_region_lit ?_
  refine st_val (.pointer (some ⟨g1, 0, none⟩)) ha (by kernel_rfl) (by kernel_rfl) ?_
  clear ha; intro a ha
  refine st_val (.int .i64 f) ha (by kernel_rfl) (run_load1 (of_ := 0) (s.blkIs 1 rfl) rfl (by kernel_rfl) Try.isAgg3 rfl) ?_
  clear ha; intro a ha
  refine st_call ha (by kernel_rfl) (by kernel_rfl) (isNode_yes W _ w f hf s) ?_
  rintro _ w ⟨rfl, s⟩
  replace s : St W (.blk g [.bool true, .slice A x.length c] 52 :: .blk g1 [.int .i64 f, .int .i64 t, .slice A0 n0 c0] 29 :: Own 29 3 A x.length c (rows x) :: L) w := s
  refine ⟨_, rfl, ?_⟩; clear ha; intro a ha
  refine st_val (.bool false) ha (by kernel_rfl) (by kernel_rfl) ?_
  clear ha; intro a ha
  refine st_val (.bool false) ha (by kernel_rfl) (by kernel_rfl) ?_
  clear ha; intro a ha
  refine st_val (.pointer (some ⟨g1, 1, none⟩)) ha (by kernel_rfl) (by kernel_rfl) ?_
  clear ha; intro a ha
  refine st_val (.int .i64 t) ha (by kernel_rfl) (run_load1 (of_ := 1) (s.blkIs 1 rfl) rfl (by kernel_rfl) Try.isAgg3 rfl) ?_
  clear ha; intro a ha
  refine st_call ha (by kernel_rfl) (by kernel_rfl) (isNode_no W _ w t ht s) ?_
  rintro _ w ⟨rfl, s⟩
  replace s : St W (.blk g [.bool true, .slice A x.length c] 52 :: .blk g1 [.int .i64 f, .int .i64 t, .slice A0 n0 c0] 29 :: Own 29 3 A x.length c (rows x) :: L) w := s
  refine ⟨_, rfl, ?_⟩; clear ha; intro a ha
  refine st_val (.bool true) ha (by kernel_rfl) (by kernel_rfl) ?_
  clear ha; intro a ha
  refine st_val (.bool true) ha (by kernel_rfl) (by kernel_rfl) ?_
  clear ha; intro a ha
  refine st_val (.bool true) ha (by kernel_rfl) (by kernel_rfl) ?_
  clear ha; intro a ha
  refine wpList_nil ?_
  refine then_normal ?_
  refine wp_true ha rfl (by kernel_rfl) ?_
  refine wp_seq ?_
  refine wp_region_lit ?_
  refine st_val (.int .i64 2) ha (by kernel_rfl) (by kernel_rfl) ?_
  clear ha; intro a ha
  refine wpList_nil ?_
  refine then_normal ?_
  refine wp_ret ?_
  refine block_ret ?_
  refine then_ret ?_
  refine ret_with (v := .int .i64 2) ha (results_1 rfl ha (res_tmp (by kernel_rfl) (by kernel_rfl))) ?_
  replace s := s.at_ (j := 2) rfl
  replace s : St W (Own 29 3 A x.length c (rows x) :: .blk g [.bool true, .slice A x.length c] 52 :: .blk g1 [.int .i64 f, .int .i64 t, .slice A0 n0 c0] 29 :: L) w := s
  replace s := s.at_ (j := 1) rfl
  replace s : St W (.blk g [.bool true, .slice A x.length c] 52 :: Own 29 3 A x.length c (rows x) :: .blk g1 [.int .i64 f, .int .i64 t, .slice A0 n0 c0] 29 :: L) w := s
  replace s : St W (.blk g [.bool true, .slice A x.length c] 52 :: Own 29 3 A x.length c (rows x) :: L) w := St.mid (A := [.blk g [.bool true, .slice A x.length c] 52, Own 29 3 A x.length c (rows x)]) (B := [.blk g1 [.int .i64 f, .int .i64 t, .slice A0 n0 c0] 29]) s
  exact ⟨rfl, s⟩

theorem put_long (W : World) (L : List Chunk) (w : World) (g : Nat) (A : Option Addr) (c : Nat) (x : List (Msg × Hd)) (f t : Int) (A0 : Option Addr) (n0 c0 : Nat) (hf : 1 ≤ f ∧ f ≤ 4) (ht : 1 ≤ t ∧ t ≤ 4) (hk : 65536 < n0) (s : St W (.blk g [.bool true, .slice A x.length c] 52 :: Own 29 3 A x.length c (rows x) :: L) w) :
    Calls Try.prog 18 #[.pointer (some ⟨g, 0, none⟩), .agg #[.int .i64 f, .int .i64 t, .slice A0 n0 c0]] w fun e w' => e = .returned (.int .i64 5) ∧ St W (.blk g [.bool true, .slice A x.length c] 52 :: Own 29 3 A x.length c (rows x) :: L) w' := by
  refine enter_args (l := [.pointer (some ⟨g, 0, none⟩), .agg #[.int .i64 f, .int .i64 t, .slice A0 n0 c0]]) Try.func18 rfl rfl (Nat.le_of_ble_eq_true rfl) ?_
  intro a ha; replace ha : Has a 42 [(0, .pointer (some ⟨g, 0, none⟩)), (1, .agg #[.int .i64 f, .int .i64 t, .slice A0 n0 c0])] := ha
  refine wp_seq ?_
  refine wp_region_lit ?_
  refine st_ex ha (by kernel_rfl) (ex_box [.int .i64 f, .int .i64 t, .slice A0 n0 c0] s rfl (by kernel_rfl)) ?_
  clear ha; rintro _ w a ⟨g1, rfl, s⟩ ha
  replace s : St W (.blk g1 [.int .i64 f, .int .i64 t, .slice A0 n0 c0] 29 :: .blk g [.bool true, .slice A x.length c] 52 :: Own 29 3 A x.length c (rows x) :: L) w := s
  refine st_val (.int .i64 0) ha (by kernel_rfl) (by kernel_rfl) ?_
  clear ha; intro a ha
  refine wpList_nil ?_
  refine then_normal ?_
  refine wp_seq ?_
  refine wp_block ?_
  refine wp_seq ?_
  refine wp_region_lit ?_
  refine st_val (.pointer (some ⟨g, 0, none⟩)) ha (by kernel_rfl) (by kernel_rfl) ?_
  clear ha; intro a ha
  replace s := s.at_ (j := 1) rfl
  replace s : St W (.blk g [.bool true, .slice A x.length c] 52 :: .blk g1 [.int .i64 f, .int .i64 t, .slice A0 n0 c0] 29 :: Own 29 3 A x.length c (rows x) :: L) w := s
  refine st_call ha (by kernel_rfl) (by kernel_rfl) (none_made W _ w g A x.length c s) ?_
  rintro _ w ⟨rfl, s⟩
  replace s : St W (.blk g [.bool true, .slice A x.length c] 52 :: .blk g1 [.int .i64 f, .int .i64 t, .slice A0 n0 c0] 29 :: Own 29 3 A x.length c (rows x) :: L) w := s
  refine ⟨_, rfl, ?_⟩; clear ha; intro a ha
  refine st_val (.bool false) ha (by kernel_rfl) (by kernel_rfl) ?_
  clear ha; intro a ha
  refine wpList_nil ?_
  refine then_normal ?_
  refine wp_false ha rfl (by kernel_rfl) ?_
  refine wp_seq ?_
  refine wp_region_lit ?_
  refine st_val (.pointer (some ⟨g1, 0, none⟩)) ha (by kernel_rfl) (by kernel_rfl) ?_
  clear ha; intro a ha
  refine st_val (.int .i64 f) ha (by kernel_rfl) (run_load1 (of_ := 0) (s.blkIs 1 rfl) rfl (by kernel_rfl) Try.isAgg3 rfl) ?_
  clear ha; intro a ha
  refine st_call ha (by kernel_rfl) (by kernel_rfl) (isNode_yes W _ w f hf s) ?_
  rintro _ w ⟨rfl, s⟩
  replace s : St W (.blk g [.bool true, .slice A x.length c] 52 :: .blk g1 [.int .i64 f, .int .i64 t, .slice A0 n0 c0] 29 :: Own 29 3 A x.length c (rows x) :: L) w := s
  refine ⟨_, rfl, ?_⟩; clear ha; intro a ha
  refine st_val (.bool false) ha (by kernel_rfl) (by kernel_rfl) ?_
  clear ha; intro a ha
  refine st_val (.bool false) ha (by kernel_rfl) (by kernel_rfl) ?_
  clear ha; intro a ha
  refine st_val (.pointer (some ⟨g1, 1, none⟩)) ha (by kernel_rfl) (by kernel_rfl) ?_
  clear ha; intro a ha
  refine st_val (.int .i64 t) ha (by kernel_rfl) (run_load1 (of_ := 1) (s.blkIs 1 rfl) rfl (by kernel_rfl) Try.isAgg3 rfl) ?_
  clear ha; intro a ha
  refine st_call ha (by kernel_rfl) (by kernel_rfl) (isNode_yes W _ w t ht s) ?_
  rintro _ w ⟨rfl, s⟩
  replace s : St W (.blk g [.bool true, .slice A x.length c] 52 :: .blk g1 [.int .i64 f, .int .i64 t, .slice A0 n0 c0] 29 :: Own 29 3 A x.length c (rows x) :: L) w := s
  refine ⟨_, rfl, ?_⟩; clear ha; intro a ha
  refine st_val (.bool false) ha (by kernel_rfl) (by kernel_rfl) ?_
  clear ha; intro a ha
  refine st_val (.bool false) ha (by kernel_rfl) (by kernel_rfl) ?_
  clear ha; intro a ha
  refine st_val (.bool false) ha (by kernel_rfl) (by kernel_rfl) ?_
  clear ha; intro a ha
  refine wpList_nil ?_
  refine then_normal ?_
  refine wp_false ha rfl (by kernel_rfl) ?_
  refine wp_seq ?_
  refine wp_region_lit ?_
  refine st_val (.pointer (some ⟨g1, 2, none⟩)) ha (by kernel_rfl) (by kernel_rfl) ?_
  clear ha; intro a ha
  refine st_val (.slice A0 n0 c0) ha (by kernel_rfl) (run_load1 (of_ := 2) (s.blkIs 1 rfl) rfl (by kernel_rfl) Try.isAgg27 rfl) ?_
  clear ha; intro a ha
  refine st_val (.int .i64 ((n0 : Nat) : Int)) ha (by kernel_rfl) (by kernel_rfl) ?_
  clear ha; intro a ha
  refine st_val (.bool true) ha (by kernel_rfl) (run_known (show (decide (((n0 : Nat) : Int) > (65536 : Int))) = true from decide_eq_true (by omega)) (by kernel_rfl)) ?_
  clear ha; intro a ha
  refine st_val (.bool true) ha (by kernel_rfl) (by kernel_rfl) ?_
  clear ha; intro a ha
  refine wpList_nil ?_
  refine then_normal ?_
  refine wp_true ha rfl (by kernel_rfl) ?_
  refine wp_seq ?_
  refine wp_region_lit ?_
  refine st_val (.int .i64 5) ha (by kernel_rfl) (by kernel_rfl) ?_
  clear ha; intro a ha
  refine wpList_nil ?_
  refine then_normal ?_
  refine wp_ret ?_
  refine block_ret ?_
  refine then_ret ?_
  refine ret_with (v := .int .i64 5) ha (results_1 rfl ha (res_tmp (by kernel_rfl) (by kernel_rfl))) ?_
  replace s := s.at_ (j := 2) rfl
  replace s : St W (Own 29 3 A x.length c (rows x) :: .blk g [.bool true, .slice A x.length c] 52 :: .blk g1 [.int .i64 f, .int .i64 t, .slice A0 n0 c0] 29 :: L) w := s
  replace s := s.at_ (j := 1) rfl
  replace s : St W (.blk g [.bool true, .slice A x.length c] 52 :: Own 29 3 A x.length c (rows x) :: .blk g1 [.int .i64 f, .int .i64 t, .slice A0 n0 c0] 29 :: L) w := s
  replace s : St W (.blk g [.bool true, .slice A x.length c] 52 :: Own 29 3 A x.length c (rows x) :: L) w := St.mid (A := [.blk g [.bool true, .slice A x.length c] 52, Own 29 3 A x.length c (rows x)]) (B := [.blk g1 [.int .i64 f, .int .i64 t, .slice A0 n0 c0] 29]) s
  exact ⟨rfl, s⟩

theorem put_full (W : World) (L : List Chunk) (w : World) (g : Nat) (A : Option Addr) (c : Nat) (x : List (Msg × Hd)) (f t : Int) (A0 : Option Addr) (n0 c0 : Nat) (hf : 1 ≤ f ∧ f ≤ 4) (ht : 1 ≤ t ∧ t ≤ 4) (hk : n0 ≤ 65536) (hx : 2048 ≤ x.length) (s : St W (.blk g [.bool true, .slice A x.length c] 52 :: Own 29 3 A x.length c (rows x) :: L) w) :
    Calls Try.prog 18 #[.pointer (some ⟨g, 0, none⟩), .agg #[.int .i64 f, .int .i64 t, .slice A0 n0 c0]] w fun e w' => e = .returned (.int .i64 7) ∧ St W (.blk g [.bool true, .slice A x.length c] 52 :: Own 29 3 A x.length c (rows x) :: L) w' := by
  refine enter_args (l := [.pointer (some ⟨g, 0, none⟩), .agg #[.int .i64 f, .int .i64 t, .slice A0 n0 c0]]) Try.func18 rfl rfl (Nat.le_of_ble_eq_true rfl) ?_
  intro a ha; replace ha : Has a 42 [(0, .pointer (some ⟨g, 0, none⟩)), (1, .agg #[.int .i64 f, .int .i64 t, .slice A0 n0 c0])] := ha
  refine wp_seq ?_
  refine wp_region_lit ?_
  refine st_ex ha (by kernel_rfl) (ex_box [.int .i64 f, .int .i64 t, .slice A0 n0 c0] s rfl (by kernel_rfl)) ?_
  clear ha; rintro _ w a ⟨g1, rfl, s⟩ ha
  replace s : St W (.blk g1 [.int .i64 f, .int .i64 t, .slice A0 n0 c0] 29 :: .blk g [.bool true, .slice A x.length c] 52 :: Own 29 3 A x.length c (rows x) :: L) w := s
  refine st_val (.int .i64 0) ha (by kernel_rfl) (by kernel_rfl) ?_
  clear ha; intro a ha
  refine wpList_nil ?_
  refine then_normal ?_
  refine wp_seq ?_
  refine wp_block ?_
  refine wp_seq ?_
  refine wp_region_lit ?_
  refine st_val (.pointer (some ⟨g, 0, none⟩)) ha (by kernel_rfl) (by kernel_rfl) ?_
  clear ha; intro a ha
  replace s := s.at_ (j := 1) rfl
  replace s : St W (.blk g [.bool true, .slice A x.length c] 52 :: .blk g1 [.int .i64 f, .int .i64 t, .slice A0 n0 c0] 29 :: Own 29 3 A x.length c (rows x) :: L) w := s
  refine st_call ha (by kernel_rfl) (by kernel_rfl) (none_made W _ w g A x.length c s) ?_
  rintro _ w ⟨rfl, s⟩
  replace s : St W (.blk g [.bool true, .slice A x.length c] 52 :: .blk g1 [.int .i64 f, .int .i64 t, .slice A0 n0 c0] 29 :: Own 29 3 A x.length c (rows x) :: L) w := s
  refine ⟨_, rfl, ?_⟩; clear ha; intro a ha
  refine st_val (.bool false) ha (by kernel_rfl) (by kernel_rfl) ?_
  clear ha; intro a ha
  refine wpList_nil ?_
  refine then_normal ?_
  refine wp_false ha rfl (by kernel_rfl) ?_
  refine wp_seq ?_
  refine wp_region_lit ?_
  refine st_val (.pointer (some ⟨g1, 0, none⟩)) ha (by kernel_rfl) (by kernel_rfl) ?_
  clear ha; intro a ha
  refine st_val (.int .i64 f) ha (by kernel_rfl) (run_load1 (of_ := 0) (s.blkIs 1 rfl) rfl (by kernel_rfl) Try.isAgg3 rfl) ?_
  clear ha; intro a ha
  refine st_call ha (by kernel_rfl) (by kernel_rfl) (isNode_yes W _ w f hf s) ?_
  rintro _ w ⟨rfl, s⟩
  replace s : St W (.blk g [.bool true, .slice A x.length c] 52 :: .blk g1 [.int .i64 f, .int .i64 t, .slice A0 n0 c0] 29 :: Own 29 3 A x.length c (rows x) :: L) w := s
  refine ⟨_, rfl, ?_⟩; clear ha; intro a ha
  refine st_val (.bool false) ha (by kernel_rfl) (by kernel_rfl) ?_
  clear ha; intro a ha
  refine st_val (.bool false) ha (by kernel_rfl) (by kernel_rfl) ?_
  clear ha; intro a ha
  refine st_val (.pointer (some ⟨g1, 1, none⟩)) ha (by kernel_rfl) (by kernel_rfl) ?_
  clear ha; intro a ha
  refine st_val (.int .i64 t) ha (by kernel_rfl) (run_load1 (of_ := 1) (s.blkIs 1 rfl) rfl (by kernel_rfl) Try.isAgg3 rfl) ?_
  clear ha; intro a ha
  refine st_call ha (by kernel_rfl) (by kernel_rfl) (isNode_yes W _ w t ht s) ?_
  rintro _ w ⟨rfl, s⟩
  replace s : St W (.blk g [.bool true, .slice A x.length c] 52 :: .blk g1 [.int .i64 f, .int .i64 t, .slice A0 n0 c0] 29 :: Own 29 3 A x.length c (rows x) :: L) w := s
  refine ⟨_, rfl, ?_⟩; clear ha; intro a ha
  refine st_val (.bool false) ha (by kernel_rfl) (by kernel_rfl) ?_
  clear ha; intro a ha
  refine st_val (.bool false) ha (by kernel_rfl) (by kernel_rfl) ?_
  clear ha; intro a ha
  refine st_val (.bool false) ha (by kernel_rfl) (by kernel_rfl) ?_
  clear ha; intro a ha
  refine wpList_nil ?_
  refine then_normal ?_
  refine wp_false ha rfl (by kernel_rfl) ?_
  refine wp_seq ?_
  refine wp_region_lit ?_
  refine st_val (.pointer (some ⟨g1, 2, none⟩)) ha (by kernel_rfl) (by kernel_rfl) ?_
  clear ha; intro a ha
  refine st_val (.slice A0 n0 c0) ha (by kernel_rfl) (run_load1 (of_ := 2) (s.blkIs 1 rfl) rfl (by kernel_rfl) Try.isAgg27 rfl) ?_
  clear ha; intro a ha
  refine st_val (.int .i64 ((n0 : Nat) : Int)) ha (by kernel_rfl) (by kernel_rfl) ?_
  clear ha; intro a ha
  refine st_val (.bool false) ha (by kernel_rfl) (run_known (show (decide (((n0 : Nat) : Int) > (65536 : Int))) = false from decide_eq_false (by omega)) (by kernel_rfl)) ?_
  clear ha; intro a ha
  refine st_val (.bool false) ha (by kernel_rfl) (by kernel_rfl) ?_
  clear ha; intro a ha
  refine wpList_nil ?_
  refine then_normal ?_
  refine wp_false ha rfl (by kernel_rfl) ?_
  refine wp_seq ?_
  refine wp_region_lit ?_
  refine st_val (.pointer (some ⟨g, 0, none⟩)) ha (by kernel_rfl) (by kernel_rfl) ?_
  clear ha; intro a ha
  refine st_val (.pointer (some ⟨g, 0, none⟩)) ha (by kernel_rfl) (by kernel_rfl) ?_
  clear ha; intro a ha
  refine st_val (.pointer (some ⟨g, 1, none⟩)) ha (by kernel_rfl) (by kernel_rfl) ?_
  clear ha; intro a ha
  refine st_val (.slice A x.length c) ha (by kernel_rfl) (run_load1 (of_ := 1) (s.blkIs 0 rfl) rfl (by kernel_rfl) Try.isAgg50 rfl) ?_
  clear ha; intro a ha
  refine st_val (.int .i64 ((x.length : Nat) : Int)) ha (by kernel_rfl) (by kernel_rfl) ?_
  clear ha; intro a ha
  refine st_val (.bool true) ha (by kernel_rfl) (run_known (show (decide (((x.length : Nat) : Int) ≥ (2048 : Int))) = true from decide_eq_true (by omega)) (by kernel_rfl)) ?_
  clear ha; intro a ha
  refine st_val (.bool true) ha (by kernel_rfl) (by kernel_rfl) ?_
  clear ha; intro a ha
  refine wpList_nil ?_
  refine then_normal ?_
  refine wp_true ha rfl (by kernel_rfl) ?_
  refine wp_seq ?_
  refine wp_region_lit ?_
  refine st_val (.int .i64 7) ha (by kernel_rfl) (by kernel_rfl) ?_
  clear ha; intro a ha
  refine wpList_nil ?_
  refine then_normal ?_
  refine wp_ret ?_
  refine block_ret ?_
  refine then_ret ?_
  refine ret_with (v := .int .i64 7) ha (results_1 rfl ha (res_tmp (by kernel_rfl) (by kernel_rfl))) ?_
  replace s := s.at_ (j := 2) rfl
  replace s : St W (Own 29 3 A x.length c (rows x) :: .blk g [.bool true, .slice A x.length c] 52 :: .blk g1 [.int .i64 f, .int .i64 t, .slice A0 n0 c0] 29 :: L) w := s
  replace s := s.at_ (j := 1) rfl
  replace s : St W (.blk g [.bool true, .slice A x.length c] 52 :: Own 29 3 A x.length c (rows x) :: .blk g1 [.int .i64 f, .int .i64 t, .slice A0 n0 c0] 29 :: L) w := s
  replace s : St W (.blk g [.bool true, .slice A x.length c] 52 :: Own 29 3 A x.length c (rows x) :: L) w := St.mid (A := [.blk g [.bool true, .slice A x.length c] 52, Own 29 3 A x.length c (rows x)]) (B := [.blk g1 [.int .i64 f, .int .i64 t, .slice A0 n0 c0] 29]) s
  exact ⟨rfl, s⟩

theorem rows_at (x : List (Msg × Hd)) (m : Nat) (hm : m < x.length) : ∀ j, j < 3 → (rows x)[m * 3 + j]? = (ecells x[m])[j]? := by
  induction x generalizing m with
  | nil => simp at hm
  | cons y x ih =>
    intro j hj
    simp only [rows, List.flatMap_cons] at ih ⊢
    cases m with
    | zero => rw [List.getElem?_append_left (by rw [show (ecells y).length = 3 from rfl]; omega)]; simp
    | succ m =>
      rw [List.getElem?_append_right (by rw [show (ecells y).length = 3 from rfl]; omega), show (ecells y).length = 3 from rfl, show (m + 1) * 3 + j - 3 = m * 3 + j by omega]
      exact ih m (by simpa using hm) j hj
theorem byts_knows (x : List (Msg × Hd)) (m : Nat) (hm : m < x.length) (L : List Chunk) : Knows (Byts x :: L) fun w => Reads w 1 x[m].2.A x[m].1.b.length (u8s x[m].1.b) := by
  intro w s
  have s1 := (Sat.star_iff.1 s).perm ((perm_front _ m (by simpa using hm)).append_right L)
  simp only [List.getElem_map] at s1
  exact Own.reads s1
theorem Own.some_ {e k : Nat} {A : Option Addr} {n c : Nat} {cs : List Value} {L : List Chunk} {w : World} (s : Sat (Own e k A n c cs :: L) w) (hn : 0 < n) : ∃ ad, A = some ad := by
  have h := Own.facts s
  have hA : A ≠ none := by
    obtain ⟨h1, h2, a, s1, s2, ⟨x1, x2, x3, x⟩, y⟩ := s
    rcases x with rfl | ⟨g, off, all, rfl, _⟩
    · omega
    · simp
  cases A with
  | none => exact absurd rfl hA
  | some ad => exact ⟨ad, rfl⟩

theorem look_in (W : World) (L : List Chunk) (w : World) (g : Nat) (A : Option Addr) (c : Nat) (x : List (Msg × Hd)) (m : Nat) (hm : m < x.length) (hn : x[m].1.b.length ≤ 140737488351232) (s : St W (.blk g [.bool true, .slice A x.length c] 52 :: Own 29 3 A x.length c (rows x) :: Byts x :: L) w) :
    Calls Try.prog 11 #[.pointer (some ⟨g, 0, none⟩), .int .i64 ((m : Nat) : Int)] w fun e w' => ∃ A' c', e = .returned (.tuple #[.agg #[.int .i64 x[m].1.f, .int .i64 x[m].1.t, .slice A' x[m].1.b.length c'], .bool true]) ∧ St W (.blk g [.bool true, .slice A x.length c] 52 :: Own 29 3 A x.length c (rows x) :: Byts x :: Own 5 1 A' x[m].1.b.length c' (u8s x[m].1.b) :: L) w' := by
  have hx0 : 0 < x.length := by omega
  obtain ⟨ad, rfl⟩ := Own.some_ s.tail.1 hx0
  refine enter_args (l := [.pointer (some ⟨g, 0, none⟩), .int .i64 ((m : Nat) : Int)]) Try.func11 rfl rfl (Nat.le_of_ble_eq_true rfl) ?_
  intro a ha; replace ha : Has a 19 [(0, .pointer (some ⟨g, 0, none⟩)), (1, .int .i64 ((m : Nat) : Int))] := ha
  refine wp_seq ?_
  refine wp_region_lit ?_
  refine st_ex ha (by kernel_rfl) (ex_alloc [.int .i64 0, .int .i64 0, .slice none 0 0] s rfl (Try.zeroValue29 _) (by kernel_rfl)) ?_
  clear ha; rintro _ w a ⟨g1, rfl, s⟩ ha
  replace s : St W (.blk g1 [.int .i64 0, .int .i64 0, .slice none 0 0] 29 :: .blk g [.bool true, .slice (some ad) x.length c] 52 :: Own 29 3 (some ad) x.length c (rows x) :: Byts x :: L) w := s
  refine st_val (.bool false) ha (by kernel_rfl) (by kernel_rfl) ?_
  clear ha; intro a ha
  refine wpList_nil ?_
  refine then_normal ?_
  refine wp_seq ?_
  refine wp_seq ?_
  refine wp_region_lit ?_
  refine st_val (.pointer (some ⟨g, 0, none⟩)) ha (by kernel_rfl) (by kernel_rfl) ?_
  clear ha; intro a ha
  refine st_val (.int .i64 ((m : Nat) : Int)) ha (by kernel_rfl) (by kernel_rfl) ?_
  clear ha; intro a ha
  replace s := s.at_ (j := 1) rfl
  replace s : St W (.blk g [.bool true, .slice (some ad) x.length c] 52 :: .blk g1 [.int .i64 0, .int .i64 0, .slice none 0 0] 29 :: Own 29 3 (some ad) x.length c (rows x) :: Byts x :: L) w := s
  refine st_call ha (by kernel_rfl) (by kernel_rfl) (there_in W _ w g (some ad) x.length c m hm s) ?_
  rintro _ w ⟨rfl, s⟩
  replace s : St W (.blk g [.bool true, .slice (some ad) x.length c] 52 :: .blk g1 [.int .i64 0, .int .i64 0, .slice none 0 0] 29 :: Own 29 3 (some ad) x.length c (rows x) :: Byts x :: L) w := s
  refine ⟨_, rfl, ?_⟩; clear ha; intro a ha
  refine st_val (.bool false) ha (by kernel_rfl) (by kernel_rfl) ?_
  clear ha; intro a ha
  refine wpList_nil ?_
  refine then_normal ?_
  refine wp_false ha rfl (by kernel_rfl) ?_
  refine wp_skip ?_
  refine then_normal ?_
  refine wp_seq ?_
  refine wp_region_lit ?_
  refine st_val (.pointer (some ⟨g, 0, none⟩)) ha (by kernel_rfl) (by kernel_rfl) ?_
  clear ha; intro a ha
  refine st_val (.pointer (some ⟨g, 0, none⟩)) ha (by kernel_rfl) (by kernel_rfl) ?_
  clear ha; intro a ha
  refine st_val (.pointer (some ⟨g, 1, none⟩)) ha (by kernel_rfl) (by kernel_rfl) ?_
  clear ha; intro a ha
  refine st_val (.slice (some ad) x.length c) ha (by kernel_rfl) (run_load1 (of_ := 1) (s.blkIs 0 rfl) rfl (by kernel_rfl) Try.isAgg50 rfl) ?_
  clear ha; intro a ha
  refine st_val (.int .i64 ((m : Nat) : Int)) ha (by kernel_rfl) (by kernel_rfl) ?_
  clear ha; intro a ha
  refine st_val (.pointer (some (ad.add (m * 3)))) ha (by kernel_rfl) (run_indexAddr' (kd := .i64) (n := x.length) (c := c) m rfl Try.underlying50 Try.sizeOf29 (by kernel_rfl) (by kernel_rfl) rfl (by first | assumption | omega) _) ?_
  clear ha; intro a ha
  refine st_val (.agg #[.int .i64 (x[m].1.f), .int .i64 (x[m].1.t), .slice (x[m].2.A) (x[m].1.b.length) (x[m].2.c)]) ha (by kernel_rfl) (run_loadRow (m := m) [.int .i64 (x[m].1.f), .int .i64 (x[m].1.t), .slice (x[m].2.A) (x[m].1.b.length) (x[m].2.c)] (Own.reads (s.at_ (j := 2) rfl).1) rfl (by kernel_rfl) Try.isAgg29 Try.sizeOf29 (rows_at x m hm) rfl) ?_
  clear ha; intro a ha
  refine st_call ha (by kernel_rfl) (by kernel_rfl) (own_any W _ w (x[m].1.f) (x[m].1.t) (x[m].2.A) (x[m].1.b.length) (x[m].2.c) x[m].1.b ((((byts_knows x m hm _).up _).up _).up _) hn s) ?_
  rintro _ w ⟨A2, c3, rfl, s⟩
  replace s : St W (Own 5 1 A2 (x[m].1.b.length) c3 (u8s x[m].1.b) :: .blk g [.bool true, .slice (some ad) x.length c] 52 :: .blk g1 [.int .i64 0, .int .i64 0, .slice none 0 0] 29 :: Own 29 3 (some ad) x.length c (rows x) :: Byts x :: L) w := s
  refine ⟨_, rfl, ?_⟩; clear ha; intro a ha
  refine st_exd ha (by kernel_rfl) (ex_store (of_ := 0) 2 [.int .i64 (x[m].1.f), .int .i64 (x[m].1.t), .slice A2 (x[m].1.b.length) c3] s rfl rfl (by kernel_rfl) (by kernel_rfl) (Try.sizeOf29 _) rfl (by simp [Value.oneCell']) (Nat.le_of_ble_eq_true rfl)) ?_
  clear ha; rintro w a s ha
  replace s : St W (Own 5 1 A2 (x[m].1.b.length) c3 (u8s x[m].1.b) :: .blk g [.bool true, .slice (some ad) x.length c] 52 :: .blk g1 [.int .i64 (x[m].1.f), .int .i64 (x[m].1.t), .slice A2 (x[m].1.b.length) c3] 29 :: Own 29 3 (some ad) x.length c (rows x) :: Byts x :: L) w := s
  refine st_val (.bool true) ha (by kernel_rfl) (by kernel_rfl) ?_
  clear ha; intro a ha
  refine wpList_nil ?_
  refine then_normal ?_
  refine wp_ret ?_
  refine ret_with (v := .tuple #[.agg #[.int .i64 (x[m].1.f), .int .i64 (x[m].1.t), .slice A2 (x[m].1.b.length) c3], .bool true]) ha (results_2 rfl ha (res_cellN (s.blkIs 2 rfl) (by kernel_rfl) (by kernel_rfl) Try.isAgg29 Try.sizeOf29 rfl) (res_tmp (by kernel_rfl) (by kernel_rfl))) ?_
  replace s := s.at_ (j := 4) rfl
  replace s : St W (Byts x :: Own 5 1 A2 (x[m].1.b.length) c3 (u8s x[m].1.b) :: .blk g [.bool true, .slice (some ad) x.length c] 52 :: .blk g1 [.int .i64 (x[m].1.f), .int .i64 (x[m].1.t), .slice A2 (x[m].1.b.length) c3] 29 :: Own 29 3 (some ad) x.length c (rows x) :: L) w := s
  replace s := s.at_ (j := 4) rfl
  replace s : St W (Own 29 3 (some ad) x.length c (rows x) :: Byts x :: Own 5 1 A2 (x[m].1.b.length) c3 (u8s x[m].1.b) :: .blk g [.bool true, .slice (some ad) x.length c] 52 :: .blk g1 [.int .i64 (x[m].1.f), .int .i64 (x[m].1.t), .slice A2 (x[m].1.b.length) c3] 29 :: L) w := s
  replace s := s.at_ (j := 3) rfl
  replace s : St W (.blk g [.bool true, .slice (some ad) x.length c] 52 :: Own 29 3 (some ad) x.length c (rows x) :: Byts x :: Own 5 1 A2 (x[m].1.b.length) c3 (u8s x[m].1.b) :: .blk g1 [.int .i64 (x[m].1.f), .int .i64 (x[m].1.t), .slice A2 (x[m].1.b.length) c3] 29 :: L) w := s
  replace s : St W (.blk g [.bool true, .slice (some ad) x.length c] 52 :: Own 29 3 (some ad) x.length c (rows x) :: Byts x :: Own 5 1 A2 (x[m].1.b.length) c3 (u8s x[m].1.b) :: L) w := St.mid (A := [.blk g [.bool true, .slice (some ad) x.length c] 52, Own 29 3 (some ad) x.length c (rows x), Byts x, Own 5 1 A2 (x[m].1.b.length) c3 (u8s x[m].1.b)]) (B := [.blk g1 [.int .i64 (x[m].1.f), .int .i64 (x[m].1.t), .slice A2 (x[m].1.b.length) c3] 29]) s
  exact ⟨_, _, rfl, s⟩

theorem look_out (W : World) (L : List Chunk) (w : World) (g : Nat) (A : Option Addr) (c : Nat) (x : List (Msg × Hd)) (i : Int) (hm : ¬ (0 ≤ i ∧ i < ((x.length : Nat) : Int))) (s : St W (.blk g [.bool true, .slice A x.length c] 52 :: Own 29 3 A x.length c (rows x) :: Byts x :: L) w) :
    Calls Try.prog 11 #[.pointer (some ⟨g, 0, none⟩), .int .i64 i] w fun e w' => e = .returned (.tuple #[.agg #[.int .i64 0, .int .i64 0, .slice none 0 0], .bool false]) ∧ St W (.blk g [.bool true, .slice A x.length c] 52 :: Own 29 3 A x.length c (rows x) :: Byts x :: L) w' := by
  refine enter_args (l := [.pointer (some ⟨g, 0, none⟩), .int .i64 i]) Try.func11 rfl rfl (Nat.le_of_ble_eq_true rfl) ?_
  intro a ha; replace ha : Has a 19 [(0, .pointer (some ⟨g, 0, none⟩)), (1, .int .i64 i)] := ha
  refine wp_seq ?_
  refine wp_region_lit ?_
  refine st_ex ha (by kernel_rfl) (ex_alloc [.int .i64 0, .int .i64 0, .slice none 0 0] s rfl (Try.zeroValue29 _) (by kernel_rfl)) ?_
  clear ha; rintro _ w a ⟨g1, rfl, s⟩ ha
  replace s : St W (.blk g1 [.int .i64 0, .int .i64 0, .slice none 0 0] 29 :: .blk g [.bool true, .slice A x.length c] 52 :: Own 29 3 A x.length c (rows x) :: Byts x :: L) w := s
  refine st_val (.bool false) ha (by kernel_rfl) (by kernel_rfl) ?_
  clear ha; intro a ha
  refine wpList_nil ?_
  refine then_normal ?_
  refine wp_seq ?_
  refine wp_seq ?_
  refine wp_region_lit ?_
  refine st_val (.pointer (some ⟨g, 0, none⟩)) ha (by kernel_rfl) (by kernel_rfl) ?_
  clear ha; intro a ha
  refine st_val (.int .i64 i) ha (by kernel_rfl) (by kernel_rfl) ?_
  clear ha; intro a ha
  replace s := s.at_ (j := 1) rfl
  replace s : St W (.blk g [.bool true, .slice A x.length c] 52 :: .blk g1 [.int .i64 0, .int .i64 0, .slice none 0 0] 29 :: Own 29 3 A x.length c (rows x) :: Byts x :: L) w := s
  refine st_call ha (by kernel_rfl) (by kernel_rfl) (there_out W _ w g A x.length c i hm s) ?_
  rintro _ w ⟨rfl, s⟩
  replace s : St W (.blk g [.bool true, .slice A x.length c] 52 :: .blk g1 [.int .i64 0, .int .i64 0, .slice none 0 0] 29 :: Own 29 3 A x.length c (rows x) :: Byts x :: L) w := s
  refine ⟨_, rfl, ?_⟩; clear ha; intro a ha
  refine st_val (.bool true) ha (by kernel_rfl) (by kernel_rfl) ?_
  clear ha; intro a ha
  refine wpList_nil ?_
  refine then_normal ?_
  refine wp_true ha rfl (by kernel_rfl) ?_
  refine wp_seq ?_
  refine wp_region_lit ?_
  refine st_val (.agg #[.int .i64 0, .int .i64 0, .slice none 0 0]) ha (by kernel_rfl) (by kernel_rfl) ?_
  clear ha; intro a ha
  refine st_exd ha (by kernel_rfl) (ex_store (of_ := 0) 1 [.int .i64 0, .int .i64 0, .slice none 0 0] s rfl rfl (by kernel_rfl) (by kernel_rfl) (Try.sizeOf29 _) rfl (by simp [Value.oneCell']) (Nat.le_of_ble_eq_true rfl)) ?_
  clear ha; rintro w a s ha
  replace s : St W (.blk g [.bool true, .slice A x.length c] 52 :: .blk g1 [.int .i64 0, .int .i64 0, .slice none 0 0] 29 :: Own 29 3 A x.length c (rows x) :: Byts x :: L) w := s
  refine st_val (.bool false) ha (by kernel_rfl) (by kernel_rfl) ?_
  clear ha; intro a ha
  refine wpList_nil ?_
  refine then_normal ?_
  refine wp_ret ?_
  refine then_ret ?_
  refine ret_with (v := .tuple #[.agg #[.int .i64 0, .int .i64 0, .slice none 0 0], .bool false]) ha (results_2 rfl ha (res_cellN (s.blkIs 1 rfl) (by kernel_rfl) (by kernel_rfl) Try.isAgg29 Try.sizeOf29 rfl) (res_tmp (by kernel_rfl) (by kernel_rfl))) ?_
  replace s := s.at_ (j := 3) rfl
  replace s : St W (Byts x :: .blk g [.bool true, .slice A x.length c] 52 :: .blk g1 [.int .i64 0, .int .i64 0, .slice none 0 0] 29 :: Own 29 3 A x.length c (rows x) :: L) w := s
  replace s := s.at_ (j := 3) rfl
  replace s : St W (Own 29 3 A x.length c (rows x) :: Byts x :: .blk g [.bool true, .slice A x.length c] 52 :: .blk g1 [.int .i64 0, .int .i64 0, .slice none 0 0] 29 :: L) w := s
  replace s := s.at_ (j := 2) rfl
  replace s : St W (.blk g [.bool true, .slice A x.length c] 52 :: Own 29 3 A x.length c (rows x) :: Byts x :: .blk g1 [.int .i64 0, .int .i64 0, .slice none 0 0] 29 :: L) w := s
  replace s : St W (.blk g [.bool true, .slice A x.length c] 52 :: Own 29 3 A x.length c (rows x) :: Byts x :: L) w := St.mid (A := [.blk g [.bool true, .slice A x.length c] 52, Own 29 3 A x.length c (rows x), Byts x]) (B := [.blk g1 [.int .i64 0, .int .i64 0, .slice none 0 0] 29]) s
  exact ⟨rfl, s⟩

theorem take_out (W : World) (L : List Chunk) (w : World) (g : Nat) (A : Option Addr) (c : Nat) (x : List (Msg × Hd)) (i : Int) (hm : ¬ (0 ≤ i ∧ i < ((x.length : Nat) : Int))) (s : St W (.blk g [.bool true, .slice A x.length c] 52 :: Own 29 3 A x.length c (rows x) :: Byts x :: L) w) :
    Calls Try.prog 13 #[.pointer (some ⟨g, 0, none⟩), .int .i64 i] w fun e w' => e = .returned (.tuple #[.agg #[.int .i64 0, .int .i64 0, .slice none 0 0], .bool false]) ∧ St W (.blk g [.bool true, .slice A x.length c] 52 :: Own 29 3 A x.length c (rows x) :: Byts x :: L) w' := by
  refine enter_args (l := [.pointer (some ⟨g, 0, none⟩), .int .i64 i]) Try.func13 rfl rfl (Nat.le_of_ble_eq_true rfl) ?_
  intro a ha; replace ha : Has a 38 [(0, .pointer (some ⟨g, 0, none⟩)), (1, .int .i64 i)] := ha
  refine wp_seq ?_
  refine wp_region_lit ?_
  refine st_ex ha (by kernel_rfl) (ex_alloc [.int .i64 0, .int .i64 0, .slice none 0 0] s rfl (Try.zeroValue29 _) (by kernel_rfl)) ?_
  clear ha; rintro _ w a ⟨g1, rfl, s⟩ ha
  replace s : St W (.blk g1 [.int .i64 0, .int .i64 0, .slice none 0 0] 29 :: .blk g [.bool true, .slice A x.length c] 52 :: Own 29 3 A x.length c (rows x) :: Byts x :: L) w := s
  refine st_val (.bool false) ha (by kernel_rfl) (by kernel_rfl) ?_
  clear ha; intro a ha
  refine wpList_nil ?_
  refine then_normal ?_
  refine wp_seq ?_
  refine wp_seq ?_
  refine wp_region_lit ?_
  refine st_val (.pointer (some ⟨g, 0, none⟩)) ha (by kernel_rfl) (by kernel_rfl) ?_
  clear ha; intro a ha
  refine st_val (.int .i64 i) ha (by kernel_rfl) (by kernel_rfl) ?_
  clear ha; intro a ha
  replace s := s.at_ (j := 1) rfl
  replace s : St W (.blk g [.bool true, .slice A x.length c] 52 :: .blk g1 [.int .i64 0, .int .i64 0, .slice none 0 0] 29 :: Own 29 3 A x.length c (rows x) :: Byts x :: L) w := s
  refine st_call ha (by kernel_rfl) (by kernel_rfl) (there_out W _ w g A x.length c i hm s) ?_
  rintro _ w ⟨rfl, s⟩
  replace s : St W (.blk g [.bool true, .slice A x.length c] 52 :: .blk g1 [.int .i64 0, .int .i64 0, .slice none 0 0] 29 :: Own 29 3 A x.length c (rows x) :: Byts x :: L) w := s
  refine ⟨_, rfl, ?_⟩; clear ha; intro a ha
  refine st_val (.bool true) ha (by kernel_rfl) (by kernel_rfl) ?_
  clear ha; intro a ha
  refine wpList_nil ?_
  refine then_normal ?_
  refine wp_true ha rfl (by kernel_rfl) ?_
  refine wp_seq ?_
  refine wp_region_lit ?_
  refine st_val (.agg #[.int .i64 0, .int .i64 0, .slice none 0 0]) ha (by kernel_rfl) (by kernel_rfl) ?_
  clear ha; intro a ha
  refine st_exd ha (by kernel_rfl) (ex_store (of_ := 0) 1 [.int .i64 0, .int .i64 0, .slice none 0 0] s rfl rfl (by kernel_rfl) (by kernel_rfl) (Try.sizeOf29 _) rfl (by simp [Value.oneCell']) (Nat.le_of_ble_eq_true rfl)) ?_
  clear ha; rintro w a s ha
  replace s : St W (.blk g [.bool true, .slice A x.length c] 52 :: .blk g1 [.int .i64 0, .int .i64 0, .slice none 0 0] 29 :: Own 29 3 A x.length c (rows x) :: Byts x :: L) w := s
  refine st_val (.bool false) ha (by kernel_rfl) (by kernel_rfl) ?_
  clear ha; intro a ha
  refine wpList_nil ?_
  refine then_normal ?_
  refine wp_ret ?_
  refine then_ret ?_
  refine ret_with (v := .tuple #[.agg #[.int .i64 0, .int .i64 0, .slice none 0 0], .bool false]) ha (results_2 rfl ha (res_cellN (s.blkIs 1 rfl) (by kernel_rfl) (by kernel_rfl) Try.isAgg29 Try.sizeOf29 rfl) (res_tmp (by kernel_rfl) (by kernel_rfl))) ?_
  replace s := s.at_ (j := 3) rfl
  replace s : St W (Byts x :: .blk g [.bool true, .slice A x.length c] 52 :: .blk g1 [.int .i64 0, .int .i64 0, .slice none 0 0] 29 :: Own 29 3 A x.length c (rows x) :: L) w := s
  replace s := s.at_ (j := 3) rfl
  replace s : St W (Own 29 3 A x.length c (rows x) :: Byts x :: .blk g [.bool true, .slice A x.length c] 52 :: .blk g1 [.int .i64 0, .int .i64 0, .slice none 0 0] 29 :: L) w := s
  replace s := s.at_ (j := 2) rfl
  replace s : St W (.blk g [.bool true, .slice A x.length c] 52 :: Own 29 3 A x.length c (rows x) :: Byts x :: .blk g1 [.int .i64 0, .int .i64 0, .slice none 0 0] 29 :: L) w := s
  replace s : St W (.blk g [.bool true, .slice A x.length c] 52 :: Own 29 3 A x.length c (rows x) :: Byts x :: L) w := St.mid (A := [.blk g [.bool true, .slice A x.length c] 52, Own 29 3 A x.length c (rows x), Byts x]) (B := [.blk g1 [.int .i64 0, .int .i64 0, .slice none 0 0] 29]) s
  exact ⟨rfl, s⟩

theorem rows_one (x : List (Msg × Hd)) : ∀ u ∈ rows x, u.oneCell' = true := by
  intro u hu
  obtain ⟨y, _, hy⟩ := List.mem_flatMap.1 hu
  simp only [ecells, List.mem_cons, List.not_mem_nil, or_false] at hy
  rcases hy with rfl | rfl | rfl <;> rfl
theorem ext_one {l : List Value} (h : ∀ u ∈ l, u.oneCell' = true) (a b : Nat) : ∀ u ∈ l.extract a b, u.oneCell' = true := fun u hu => h u (by
  rw [List.extract_eq_take_drop] at hu
  exact List.mem_of_mem_drop (List.mem_of_mem_take hu))
theorem rows_erase (x : List (Msg × Hd)) (m : Nat) (hm : m < x.length) : (rows x).take (m * 3) ++ (rows x).extract ((m + 1) * 3) (x.length * 3) = rows (x.eraseIdx m) := by
  have h1 : ∀ (y : List (Msg × Hd)) (k : Nat), (rows y).take (k * 3) = rows (y.take k) := by
    intro y
    induction y with
    | nil => intro k; simp [rows]
    | cons z y ih =>
      intro k
      cases k with
      | zero => simp [rows]
      | succ k =>
        have e : rows (z :: y) = ecells z ++ rows y := rfl
        rw [e, List.take_append, show (ecells z).length = 3 from rfl, show (k + 1) * 3 - 3 = k * 3 by omega, ih, List.take_of_length_le (by rw [show (ecells z).length = 3 from rfl]; omega)]
        rfl
  have h2 : ∀ (y : List (Msg × Hd)) (k : Nat), (rows y).drop (k * 3) = rows (y.drop k) := by
    intro y
    induction y with
    | nil => intro k; simp [rows]
    | cons z y ih =>
      intro k
      cases k with
      | zero => simp
      | succ k =>
        have e : rows (z :: y) = ecells z ++ rows y := rfl
        rw [e, List.drop_append, show (ecells z).length = 3 from rfl, show (k + 1) * 3 - 3 = k * 3 by omega, ih, List.drop_of_length_le (by rw [show (ecells z).length = 3 from rfl]; omega)]
        rfl
  have h3 : (rows (x.drop (m + 1))).length ≤ x.length * 3 - (m + 1) * 3 := by rw [rows_len, List.length_drop]; omega
  rw [List.extract_eq_take_drop, h1, h2, List.take_of_length_le h3, List.eraseIdx_eq_take_drop_succ]
  simp [rows]
theorem byts_erase {W : World} {L : List Chunk} {w : World} (x : List (Msg × Hd)) (m : Nat) (hm : m < x.length) (s : St W (Byts x :: L) w) : St W (Byts (x.eraseIdx m) :: byt x[m] :: L) w := by
  have s1 : St W (x.map byt ++ L) w := ⟨Sat.star_iff.1 s.1, s.2⟩
  have s2 := s1.perm ((perm_front _ m (by simpa using hm)).append_right L)
  simp only [List.getElem_map, List.cons_append] at s2
  have e : (x.map byt).eraseIdx m = (x.eraseIdx m).map byt := by simp [List.eraseIdx_eq_take_drop_succ]
  rw [e] at s2
  have s3 := s2.perm (List.perm_middle (l₁ := (x.eraseIdx m).map byt)).symm
  exact ⟨Sat.star_iff.2 s3.1, s3.2⟩
theorem byts_snoc {W : World} {L : List Chunk} {w : World} (x : List (Msg × Hd)) (y : Msg × Hd) (s : St W (byt y :: Byts x :: L) w) : St W (Byts (x ++ [y]) :: L) w := by
  have s0 : St W (Byts x :: byt y :: L) w := s.perm (List.Perm.swap _ _ _)
  have s1 : St W (x.map byt ++ byt y :: L) w := ⟨Sat.star_iff.1 s0.1, s0.2⟩
  have e : x.map byt ++ byt y :: L = (x ++ [y]).map byt ++ L := by simp
  rw [e] at s1
  exact ⟨Sat.star_iff.2 s1.1, s1.2⟩

theorem take_in (W : World) (L : List Chunk) (w : World) (g : Nat) (A : Option Addr) (c : Nat) (x : List (Msg × Hd)) (m : Nat) (hm : m < x.length) (hx : x.length ≤ 1000000) (s : St W (.blk g [.bool true, .slice A x.length c] 52 :: Own 29 3 A x.length c (rows x) :: Byts x :: L) w) :
    Calls Try.prog 13 #[.pointer (some ⟨g, 0, none⟩), .int .i64 ((m : Nat) : Int)] w fun e w' => ∃ A' c', e = .returned (.tuple #[.agg #[.int .i64 x[m].1.f, .int .i64 x[m].1.t, .slice x[m].2.A x[m].1.b.length x[m].2.c], .bool true]) ∧ St W (.blk g [.bool true, .slice A' (x.eraseIdx m).length c'] 52 :: Own 29 3 A' (x.eraseIdx m).length c' (rows (x.eraseIdx m)) :: Byts (x.eraseIdx m) :: byt x[m] :: L) w' := by
  have hx0 : 0 < x.length := by omega
  obtain ⟨ad, rfl⟩ := Own.some_ s.tail.1 hx0
  have hxc : x.length ≤ c := (Own.facts s.tail.1).2.1
  refine enter_args (l := [.pointer (some ⟨g, 0, none⟩), .int .i64 ((m : Nat) : Int)]) Try.func13 rfl rfl (Nat.le_of_ble_eq_true rfl) ?_
  intro a ha; replace ha : Has a 38 [(0, .pointer (some ⟨g, 0, none⟩)), (1, .int .i64 ((m : Nat) : Int))] := ha
  refine wp_seq ?_
  refine wp_region_lit ?_
  refine st_ex ha (by kernel_rfl) (ex_alloc [.int .i64 0, .int .i64 0, .slice none 0 0] s rfl (Try.zeroValue29 _) (by kernel_rfl)) ?_
  clear ha; rintro _ w a ⟨g1, rfl, s⟩ ha
  replace s : St W (.blk g1 [.int .i64 0, .int .i64 0, .slice none 0 0] 29 :: .blk g [.bool true, .slice (some ad) x.length c] 52 :: Own 29 3 (some ad) x.length c (rows x) :: Byts x :: L) w := s
  refine st_val (.bool false) ha (by kernel_rfl) (by kernel_rfl) ?_
  clear ha; intro a ha
  refine wpList_nil ?_
  refine then_normal ?_
  refine wp_seq ?_
  refine wp_seq ?_
  refine wp_region_lit ?_
  refine st_val (.pointer (some ⟨g, 0, none⟩)) ha (by kernel_rfl) (by kernel_rfl) ?_
  clear ha; intro a ha
  refine st_val (.int .i64 ((m : Nat) : Int)) ha (by kernel_rfl) (by kernel_rfl) ?_
  clear ha; intro a ha
  replace s := s.at_ (j := 1) rfl
  replace s : St W (.blk g [.bool true, .slice (some ad) x.length c] 52 :: .blk g1 [.int .i64 0, .int .i64 0, .slice none 0 0] 29 :: Own 29 3 (some ad) x.length c (rows x) :: Byts x :: L) w := s
  refine st_call ha (by kernel_rfl) (by kernel_rfl) (there_in W _ w g (some ad) x.length c m hm s) ?_
  rintro _ w ⟨rfl, s⟩
  replace s : St W (.blk g [.bool true, .slice (some ad) x.length c] 52 :: .blk g1 [.int .i64 0, .int .i64 0, .slice none 0 0] 29 :: Own 29 3 (some ad) x.length c (rows x) :: Byts x :: L) w := s
  refine ⟨_, rfl, ?_⟩; clear ha; intro a ha
  refine st_val (.bool false) ha (by kernel_rfl) (by kernel_rfl) ?_
  clear ha; intro a ha
  refine wpList_nil ?_
  refine then_normal ?_
  refine wp_false ha rfl (by kernel_rfl) ?_
  refine wp_skip ?_
  refine then_normal ?_
  refine wp_seq ?_
  refine wp_region_lit ?_
  refine st_val (.pointer (some ⟨g, 0, none⟩)) ha (by kernel_rfl) (by kernel_rfl) ?_
  clear ha; intro a ha
  refine st_val (.pointer (some ⟨g, 0, none⟩)) ha (by kernel_rfl) (by kernel_rfl) ?_
  clear ha; intro a ha
  refine st_val (.pointer (some ⟨g, 1, none⟩)) ha (by kernel_rfl) (by kernel_rfl) ?_
  clear ha; intro a ha
  refine st_val (.slice (some ad) x.length c) ha (by kernel_rfl) (run_load1 (of_ := 1) (s.blkIs 0 rfl) rfl (by kernel_rfl) Try.isAgg50 rfl) ?_
  clear ha; intro a ha
  refine st_val (.int .i64 ((m : Nat) : Int)) ha (by kernel_rfl) (by kernel_rfl) ?_
  clear ha; intro a ha
  refine st_val (.pointer (some (ad.add (m * 3)))) ha (by kernel_rfl) (run_indexAddr' (kd := .i64) (n := x.length) (c := c) m rfl Try.underlying50 Try.sizeOf29 (by kernel_rfl) (by kernel_rfl) rfl (by first | assumption | omega) _) ?_
  clear ha; intro a ha
  refine st_val (.agg #[.int .i64 (x[m].1.f), .int .i64 (x[m].1.t), .slice (x[m].2.A) (x[m].1.b.length) (x[m].2.c)]) ha (by kernel_rfl) (run_loadRow (m := m) [.int .i64 (x[m].1.f), .int .i64 (x[m].1.t), .slice (x[m].2.A) (x[m].1.b.length) (x[m].2.c)] (Own.reads (s.at_ (j := 2) rfl).1) rfl (by kernel_rfl) Try.isAgg29 Try.sizeOf29 (rows_at x m hm) rfl) ?_
  clear ha; intro a ha
  refine st_ex ha (by kernel_rfl) (ex_alloc [.int .i64 0, .int .i64 0, .slice none 0 0] s rfl (Try.zeroValue29 _) (by kernel_rfl)) ?_
  clear ha; rintro _ w a ⟨g2, rfl, s⟩ ha
  replace s : St W (.blk g2 [.int .i64 0, .int .i64 0, .slice none 0 0] 29 :: .blk g [.bool true, .slice (some ad) x.length c] 52 :: .blk g1 [.int .i64 0, .int .i64 0, .slice none 0 0] 29 :: Own 29 3 (some ad) x.length c (rows x) :: Byts x :: L) w := s
  refine st_exd ha (by kernel_rfl) (ex_store (of_ := 0) 0 [.int .i64 (x[m].1.f), .int .i64 (x[m].1.t), .slice (x[m].2.A) (x[m].1.b.length) (x[m].2.c)] s rfl rfl (by kernel_rfl) (by kernel_rfl) (Try.sizeOf29 _) rfl (by simp [Value.oneCell']) (Nat.le_of_ble_eq_true rfl)) ?_
  clear ha; rintro w a s ha
  replace s : St W (.blk g2 [.int .i64 (x[m].1.f), .int .i64 (x[m].1.t), .slice (x[m].2.A) (x[m].1.b.length) (x[m].2.c)] 29 :: .blk g [.bool true, .slice (some ad) x.length c] 52 :: .blk g1 [.int .i64 0, .int .i64 0, .slice none 0 0] 29 :: Own 29 3 (some ad) x.length c (rows x) :: Byts x :: L) w := s
  refine wpList_nil ?_
  refine then_normal ?_
  refine wp_seq ?_
  refine wp_region_head 16 (fun w => BlkIs g [.bool true, .slice (some ad) x.length c] w ∧ True) (by kernel_rfl) (by decide) ?_
  replace s := s.drew; generalize _root_.Go.World.drew _ = w at s ⊢
  have hS : (fun w => BlkIs g [.bool true, .slice (some ad) x.length c] w ∧ True) w := ⟨s.blkIs 1 rfl, trivial⟩
  refine hd_val (i := 0) (.pointer (some ⟨g, 0, none⟩)) ha rfl (by kernel_rfl) (fun _ _ _ h => h) (by kernel_rfl) (fun w hS => (by kernel_rfl)) hS ?_
  clear ha; intro a ha
  refine hd_val (i := 1) (.pointer (some ⟨g, 0, none⟩)) ha rfl (by kernel_rfl) (fun _ _ _ h => h) (by kernel_rfl) (fun w hS => (by kernel_rfl)) hS ?_
  clear ha; intro a ha
  refine hd_val (i := 2) (.pointer (some ⟨g, 0, none⟩)) ha rfl (by kernel_rfl) (fun _ _ _ h => h) (by kernel_rfl) (fun w hS => (by kernel_rfl)) hS ?_
  clear ha; intro a ha
  refine hd_val (i := 3) (.pointer (some ⟨g, 1, none⟩)) ha rfl (by kernel_rfl) (fun _ _ _ h => h) (by kernel_rfl) (fun w hS => (by kernel_rfl)) hS ?_
  clear ha; intro a ha
  refine hd_val (i := 4) (.slice (some ad) x.length c) ha rfl (by kernel_rfl) (fun _ _ _ h => h) (by kernel_rfl) (fun w hS => run_load1 (of_ := 1) hS.1 rfl (by kernel_rfl) Try.isAgg50 rfl) hS ?_
  clear ha; intro a ha
  refine hd_val (i := 5) (.int .i64 ((m : Nat) : Int)) ha rfl (by kernel_rfl) (fun _ _ _ h => h) (by kernel_rfl) (fun w hS => (by kernel_rfl)) hS ?_
  clear ha; intro a ha
  refine hd_val (i := 6) (.int .i64 ((m : Nat) : Int)) ha rfl (by kernel_rfl) (fun _ _ _ h => h) (by kernel_rfl) (fun w hS => (by kernel_rfl)) hS ?_
  clear ha; intro a ha
  refine hd_val (i := 7) (.slice (some ad) m m) ha rfl (by kernel_rfl) (fun _ _ _ h => h) (by kernel_rfl) (fun w hS => (run_slice0 (n := x.length) (c := c) m m rfl Try.underlying50 Try.sizeOf29 (by kernel_rfl) (fun _ => rfl) (bnd_some .i64 (by kernel_rfl)) (bnd_some .i64 (by kernel_rfl)) bnd_none (by omega) (by omega) _)) hS ?_
  clear ha; intro a ha
  refine hd_val (i := 8) (.pointer (some ⟨g, 0, none⟩)) ha rfl (by kernel_rfl) (fun _ _ _ h => h) (by kernel_rfl) (fun w hS => (by kernel_rfl)) hS ?_
  clear ha; intro a ha
  refine hd_val (i := 9) (.pointer (some ⟨g, 0, none⟩)) ha rfl (by kernel_rfl) (fun _ _ _ h => h) (by kernel_rfl) (fun w hS => (by kernel_rfl)) hS ?_
  clear ha; intro a ha
  refine hd_val (i := 10) (.pointer (some ⟨g, 1, none⟩)) ha rfl (by kernel_rfl) (fun _ _ _ h => h) (by kernel_rfl) (fun w hS => (by kernel_rfl)) hS ?_
  clear ha; intro a ha
  refine hd_val (i := 11) (.slice (some ad) x.length c) ha rfl (by kernel_rfl) (fun _ _ _ h => h) (by kernel_rfl) (fun w hS => run_load1 (of_ := 1) hS.1 rfl (by kernel_rfl) Try.isAgg50 rfl) hS ?_
  clear ha; intro a ha
  refine hd_val (i := 12) (.int .i64 ((m : Nat) : Int)) ha rfl (by kernel_rfl) (fun _ _ _ h => h) (by kernel_rfl) (fun w hS => (by kernel_rfl)) hS ?_
  clear ha; intro a ha
  refine hd_val (i := 13) (.int .i64 ((m + 1 : Nat) : Int)) ha rfl (by kernel_rfl) (fun _ _ _ h => h) (by kernel_rfl) (fun w hS => (run_arith (((m : Nat) : Int) + (1 : Int)) ((m + 1 : Nat) : Int) rfl (by kernel_rfl) (by kernel_rfl) (.inl ⟨rfl, rfl⟩) (by rw [wrap64_in (by omega)]; try omega) _)) hS ?_
  clear ha; intro a ha
  refine hd_val (i := 14) (.slice (slA (some ad) (m + 1) c 3) (x.length - (m + 1)) (c - (m + 1))) ha rfl (by kernel_rfl) (fun _ _ _ h => h) (by kernel_rfl) (fun w hS => (run_slice (n := x.length) (c := c) (m + 1) x.length c rfl Try.underlying50 Try.sizeOf29 (by kernel_rfl) (fun h => by cases h) bnd_none bnd_none (bnd_some .i64 (by kernel_rfl)) (by omega) (by omega) (by omega) _)) hS ?_
  clear ha; intro a ha
  have hr_ : Reads w 3 (slA (some ad) (m + 1) c 3) (x.length - (m + 1)) ((rows x).extract ((m + 1) * 3) (x.length * 3)) := Reads.sub (Own.reads (s.at_ (j := 3) rfl).1) (by omega) (Nat.le_refl _) hxc
  replace s := s.at_ (j := 3) rfl
  replace s : St W (Own 29 3 (some ad) x.length c (rows x) :: .blk g2 [.int .i64 (x[m].1.f), .int .i64 (x[m].1.t), .slice (x[m].2.A) (x[m].1.b.length) (x[m].2.c)] 29 :: .blk g [.bool true, .slice (some ad) x.length c] 52 :: .blk g1 [.int .i64 0, .int .i64 0, .slice none 0 0] 29 :: Byts x :: L) w := s
  replace s := Own.cut s (show m ≤ x.length by omega)
  replace s : St W (Own 29 3 (some ad) m m ((rows x).take (m * 3)) :: .blk g2 [.int .i64 (x[m].1.f), .int .i64 (x[m].1.t), .slice (x[m].2.A) (x[m].1.b.length) (x[m].2.c)] 29 :: .blk g [.bool true, .slice (some ad) x.length c] 52 :: .blk g1 [.int .i64 0, .int .i64 0, .slice none 0 0] 29 :: Byts x :: L) w := s
  refine hd_ex (i := 15) ha rfl (by kernel_rfl) (by kernel_rfl) (ex_append (d' := (c - (m + 1))) elt50 (by decide) 0 ((rows x).extract ((m + 1) * 3) (x.length * 3)) s rfl (by kernel_rfl) (by kernel_rfl) rfl hr_ (ext_one (rows_one x) _ _) (by simp only [maxLen]; omega) (by omega)) ?_
  clear hS; rintro _ w ⟨A3, c4, rfl, hA_, s⟩
  replace s : St W (Own 29 3 A3 (m + (x.length - (m + 1))) c4 (((rows x).take (m * 3)) ++ ((rows x).extract ((m + 1) * 3) (x.length * 3))) :: .blk g2 [.int .i64 (x[m].1.f), .int .i64 (x[m].1.t), .slice (x[m].2.A) (x[m].1.b.length) (x[m].2.c)] 29 :: .blk g [.bool true, .slice (some ad) x.length c] 52 :: .blk g1 [.int .i64 0, .int .i64 0, .slice none 0 0] 29 :: Byts x :: L) w := s
  have hS : (fun w => BlkIs g [.bool true, .slice (some ad) x.length c] w ∧ True) w := ⟨s.blkIs 2 rfl, trivial⟩
  refine ⟨hS, ?_⟩; clear ha; intro a ha
  refine Head.done (by kernel_rfl) ?_
  clear hS; simp only [List.drop_succ_cons, List.drop_zero]
  refine st_val (.pointer (some ⟨g, 0, none⟩)) ha (by kernel_rfl) (by kernel_rfl) ?_
  clear ha; intro a ha
  refine st_val (.pointer (some ⟨g, 1, none⟩)) ha (by kernel_rfl) (by kernel_rfl) ?_
  clear ha; intro a ha
  refine st_exd ha (by kernel_rfl) (ex_store (of_ := 1) 2 [.slice A3 (m + (x.length - (m + 1))) c4] s rfl rfl (by kernel_rfl) (by kernel_rfl) (Try.sizeOf50 _) rfl (by simp [Value.oneCell']) (Nat.le_of_ble_eq_true rfl)) ?_
  clear ha; rintro w a s ha
  replace s : St W (Own 29 3 A3 (m + (x.length - (m + 1))) c4 (((rows x).take (m * 3)) ++ ((rows x).extract ((m + 1) * 3) (x.length * 3))) :: .blk g2 [.int .i64 (x[m].1.f), .int .i64 (x[m].1.t), .slice (x[m].2.A) (x[m].1.b.length) (x[m].2.c)] 29 :: .blk g [.bool true, .slice A3 (m + (x.length - (m + 1))) c4] 52 :: .blk g1 [.int .i64 0, .int .i64 0, .slice none 0 0] 29 :: Byts x :: L) w := s
  refine wpList_nil ?_
  refine then_normal ?_
  refine wp_seq ?_
  refine wp_region_lit ?_
  refine st_val (.agg #[.int .i64 (x[m].1.f), .int .i64 (x[m].1.t), .slice (x[m].2.A) (x[m].1.b.length) (x[m].2.c)]) ha (by kernel_rfl) (run_loadN (of_ := 0) [.int .i64 (x[m].1.f), .int .i64 (x[m].1.t), .slice (x[m].2.A) (x[m].1.b.length) (x[m].2.c)] (s.blkIs 1 rfl) rfl (by kernel_rfl) Try.isAgg29 Try.sizeOf29 rfl (Nat.le_of_ble_eq_true rfl)) ?_
  clear ha; intro a ha
  refine st_exd ha (by kernel_rfl) (ex_store (of_ := 0) 3 [.int .i64 (x[m].1.f), .int .i64 (x[m].1.t), .slice (x[m].2.A) (x[m].1.b.length) (x[m].2.c)] s rfl rfl (by kernel_rfl) (by kernel_rfl) (Try.sizeOf29 _) rfl (by simp [Value.oneCell']) (Nat.le_of_ble_eq_true rfl)) ?_
  clear ha; rintro w a s ha
  replace s : St W (Own 29 3 A3 (m + (x.length - (m + 1))) c4 (((rows x).take (m * 3)) ++ ((rows x).extract ((m + 1) * 3) (x.length * 3))) :: .blk g2 [.int .i64 (x[m].1.f), .int .i64 (x[m].1.t), .slice (x[m].2.A) (x[m].1.b.length) (x[m].2.c)] 29 :: .blk g [.bool true, .slice A3 (m + (x.length - (m + 1))) c4] 52 :: .blk g1 [.int .i64 (x[m].1.f), .int .i64 (x[m].1.t), .slice (x[m].2.A) (x[m].1.b.length) (x[m].2.c)] 29 :: Byts x :: L) w := s
  refine st_val (.bool true) ha (by kernel_rfl) (by kernel_rfl) ?_
  clear ha; intro a ha
  refine wpList_nil ?_
  refine then_normal ?_
  refine wp_ret ?_
  refine ret_with (v := .tuple #[.agg #[.int .i64 (x[m].1.f), .int .i64 (x[m].1.t), .slice (x[m].2.A) (x[m].1.b.length) (x[m].2.c)], .bool true]) ha (results_2 rfl ha (res_cellN (s.blkIs 3 rfl) (by kernel_rfl) (by kernel_rfl) Try.isAgg29 Try.sizeOf29 rfl) (res_tmp (by kernel_rfl) (by kernel_rfl))) ?_
  replace s := s.at_ (j := 4) rfl
  replace s : St W (Byts x :: Own 29 3 A3 (m + (x.length - (m + 1))) c4 (((rows x).take (m * 3)) ++ ((rows x).extract ((m + 1) * 3) (x.length * 3))) :: .blk g2 [.int .i64 (x[m].1.f), .int .i64 (x[m].1.t), .slice (x[m].2.A) (x[m].1.b.length) (x[m].2.c)] 29 :: .blk g [.bool true, .slice A3 (m + (x.length - (m + 1))) c4] 52 :: .blk g1 [.int .i64 (x[m].1.f), .int .i64 (x[m].1.t), .slice (x[m].2.A) (x[m].1.b.length) (x[m].2.c)] 29 :: L) w := s
  replace s := s.at_ (j := 1) rfl
  replace s : St W (Own 29 3 A3 (m + (x.length - (m + 1))) c4 (((rows x).take (m * 3)) ++ ((rows x).extract ((m + 1) * 3) (x.length * 3))) :: Byts x :: .blk g2 [.int .i64 (x[m].1.f), .int .i64 (x[m].1.t), .slice (x[m].2.A) (x[m].1.b.length) (x[m].2.c)] 29 :: .blk g [.bool true, .slice A3 (m + (x.length - (m + 1))) c4] 52 :: .blk g1 [.int .i64 (x[m].1.f), .int .i64 (x[m].1.t), .slice (x[m].2.A) (x[m].1.b.length) (x[m].2.c)] 29 :: L) w := s
  replace s := s.at_ (j := 3) rfl
  replace s : St W (.blk g [.bool true, .slice A3 (m + (x.length - (m + 1))) c4] 52 :: Own 29 3 A3 (m + (x.length - (m + 1))) c4 (((rows x).take (m * 3)) ++ ((rows x).extract ((m + 1) * 3) (x.length * 3))) :: Byts x :: .blk g2 [.int .i64 (x[m].1.f), .int .i64 (x[m].1.t), .slice (x[m].2.A) (x[m].1.b.length) (x[m].2.c)] 29 :: .blk g1 [.int .i64 (x[m].1.f), .int .i64 (x[m].1.t), .slice (x[m].2.A) (x[m].1.b.length) (x[m].2.c)] 29 :: L) w := s
  replace s : St W (.blk g [.bool true, .slice A3 (m + (x.length - (m + 1))) c4] 52 :: Own 29 3 A3 (m + (x.length - (m + 1))) c4 (((rows x).take (m * 3)) ++ ((rows x).extract ((m + 1) * 3) (x.length * 3))) :: Byts x :: L) w := St.mid (A := [.blk g [.bool true, .slice A3 (m + (x.length - (m + 1))) c4] 52, Own 29 3 A3 (m + (x.length - (m + 1))) c4 (((rows x).take (m * 3)) ++ ((rows x).extract ((m + 1) * 3) (x.length * 3))), Byts x]) (B := [.blk g2 [.int .i64 (x[m].1.f), .int .i64 (x[m].1.t), .slice (x[m].2.A) (x[m].1.b.length) (x[m].2.c)] 29, .blk g1 [.int .i64 (x[m].1.f), .int .i64 (x[m].1.t), .slice (x[m].2.A) (x[m].1.b.length) (x[m].2.c)] 29]) s
  rw [show m + (x.length - (m + 1)) = (x.eraseIdx m).length by rw [List.length_eraseIdx_of_lt hm]; omega, rows_erase x m hm] at s
  replace s := byts_erase x m hm (s.at_ (j := 2) rfl)
  replace s := s.at_ (j := 3) rfl
  replace s := s.at_ (j := 3) rfl
  exact ⟨_, _, rfl, s⟩

def putCode (m : Msg) (n : Nat) : Int := if (1 ≤ m.f ∧ m.f ≤ 4) ∧ (1 ≤ m.t ∧ m.t ≤ 4) then (if 65536 < m.b.length then 5 else if 2048 ≤ n then 7 else 0) else 2
def bput (l : List Msg) (m : Msg) : List Msg := if putCode m l.length = 0 then l ++ [m] else l
theorem putCode_zero {m : Msg} {n : Nat} (h : putCode m n = 0) : (1 ≤ m.f ∧ m.f ≤ 4) ∧ (1 ≤ m.t ∧ m.t ≤ 4) ∧ m.b.length ≤ 65536 ∧ n < 2048 := by
  unfold putCode at h
  split at h
  · rename_i h1
    split at h
    · omega
    · split at h
      · omega
      · exact ⟨h1.1, h1.2, by omega, by omega⟩
  · omega

theorem put_yes (W : World) (L : List Chunk) (w : World) (g : Nat) (A : Option Addr) (c : Nat) (x : List (Msg × Hd)) (m : Msg) (A0 : Option Addr) (n0 c0 : Nat) (hn0 : n0 = m.b.length) (hr : Knows L fun w => Reads w 1 A0 n0 (u8s m.b)) (hn : n0 ≤ 140737488351232) (h : putCode m x.length = 0) (s : St W (.blk g [.bool true, .slice A x.length c] 52 :: Own 29 3 A x.length c (rows x) :: L) w) :
    Calls Try.prog 18 #[.pointer (some ⟨g, 0, none⟩), .agg #[.int .i64 m.f, .int .i64 m.t, .slice A0 n0 c0]] w fun e w' => e = .returned (.int .i64 0) ∧ ∃ A' c' A1 c1, St W (.blk g [.bool true, .slice A' (x.length + 1) c'] 52 :: Own 29 3 A' (x.length + 1) c' (rows (x ++ [(m, ⟨A1, c1⟩)])) :: Own 5 1 A1 n0 c1 (u8s m.b) :: L) w' := by
  obtain ⟨h1, h2, h3, h4⟩ := putCode_zero h
  exact put_ok W L w g A c x m.f m.t A0 n0 c0 m.b hr hn h1 h2 (by omega) h4 s
theorem put_no (W : World) (L : List Chunk) (w : World) (g : Nat) (A : Option Addr) (c : Nat) (x : List (Msg × Hd)) (m : Msg) (A0 : Option Addr) (n0 c0 : Nat) (hn0 : n0 = m.b.length) (hr : Knows L fun w => Reads w 1 A0 n0 (u8s m.b)) (hn : n0 ≤ 140737488351232) (h : putCode m x.length ≠ 0) (s : St W (.blk g [.bool true, .slice A x.length c] 52 :: Own 29 3 A x.length c (rows x) :: L) w) :
    Calls Try.prog 18 #[.pointer (some ⟨g, 0, none⟩), .agg #[.int .i64 m.f, .int .i64 m.t, .slice A0 n0 c0]] w fun e w' => e = .returned (.int .i64 (putCode m x.length)) ∧ St W (.blk g [.bool true, .slice A x.length c] 52 :: Own 29 3 A x.length c (rows x) :: L) w' := by
  by_cases h1 : 1 ≤ m.f ∧ m.f ≤ 4
  · by_cases h2 : 1 ≤ m.t ∧ m.t ≤ 4
    · by_cases h3 : 65536 < m.b.length
      · have e1 : putCode m x.length = 5 := by unfold putCode; rw [if_pos ⟨h1, h2⟩, if_pos h3]
        rw [e1]; exact put_long W L w g A c x m.f m.t A0 n0 c0 h1 h2 (by omega) s
      · by_cases h4 : 2048 ≤ x.length
        · have e1 : putCode m x.length = 7 := by unfold putCode; rw [if_pos ⟨h1, h2⟩, if_neg h3, if_pos h4]
          rw [e1]; exact put_full W L w g A c x m.f m.t A0 n0 c0 h1 h2 (by omega) h4 s
        · exact absurd (by unfold putCode; rw [if_pos ⟨h1, h2⟩, if_neg h3, if_neg h4]) h
    · have e1 : putCode m x.length = 2 := by unfold putCode; rw [if_neg (fun h => h2 h.2)]
      rw [e1]; exact put_badt W L w g A c x m.f m.t A0 n0 c0 h1 h2 s
  · have e1 : putCode m x.length = 2 := by unfold putCode; rw [if_neg (fun h => h1 h.1)]
    rw [e1]; exact put_badf W L w g A c x m.f m.t A0 n0 c0 h1 s

theorem double_yes (W : World) (L : List Chunk) (w : World) (g : Nat) (A : Option Addr) (c : Nat) (x : List (Msg × Hd)) (m : Nat) (hm : m < x.length) (hn : x[m].1.b.length ≤ 140737488351232) (hc : putCode x[m].1 x.length = 0) (s : St W (.blk g [.bool true, .slice A x.length c] 52 :: Own 29 3 A x.length c (rows x) :: Byts x :: L) w) :
    Calls Try.prog 15 #[.pointer (some ⟨g, 0, none⟩), .int .i64 ((m : Nat) : Int)] w fun e w' => e = .returned (.int .i64 0) ∧ ∃ A' c' A1 c1, St W (.blk g [.bool true, .slice A' (x ++ [(x[m].1, (⟨A1, c1⟩ : Hd))]).length c'] 52 :: Own 29 3 A' (x ++ [(x[m].1, (⟨A1, c1⟩ : Hd))]).length c' (rows (x ++ [(x[m].1, ⟨A1, c1⟩)])) :: Byts (x ++ [(x[m].1, ⟨A1, c1⟩)]) :: L) w' := by
  have hx0 : 0 < x.length := by omega
  obtain ⟨ad, rfl⟩ := Own.some_ s.tail.1 hx0
  refine enter_args (l := [.pointer (some ⟨g, 0, none⟩), .int .i64 ((m : Nat) : Int)]) Try.func15 rfl rfl (Nat.le_of_ble_eq_true rfl) ?_
  intro a ha; replace ha : Has a 22 [(0, .pointer (some ⟨g, 0, none⟩)), (1, .int .i64 ((m : Nat) : Int))] := ha
  refine wp_seq ?_
  refine wp_region_lit ?_
  refine st_val (.int .i64 0) ha (by kernel_rfl) (by kernel_rfl) ?_
  clear ha; intro a ha
  refine wpList_nil ?_
  refine then_normal ?_
  refine wp_seq ?_
  refine wp_block ?_
  refine wp_seq ?_
  refine wp_region_lit ?_
  refine st_val (.pointer (some ⟨g, 0, none⟩)) ha (by kernel_rfl) (by kernel_rfl) ?_
  clear ha; intro a ha
  refine st_call ha (by kernel_rfl) (by kernel_rfl) (none_made W _ w g (some ad) x.length c s) ?_
  rintro _ w ⟨rfl, s⟩
  replace s : St W (.blk g [.bool true, .slice (some ad) x.length c] 52 :: Own 29 3 (some ad) x.length c (rows x) :: Byts x :: L) w := s
  refine ⟨_, rfl, ?_⟩; clear ha; intro a ha
  refine st_val (.bool false) ha (by kernel_rfl) (by kernel_rfl) ?_
  clear ha; intro a ha
  refine wpList_nil ?_
  refine then_normal ?_
  refine wp_false ha rfl (by kernel_rfl) ?_
  refine wp_seq ?_
  refine wp_region_lit ?_
  refine st_val (.pointer (some ⟨g, 0, none⟩)) ha (by kernel_rfl) (by kernel_rfl) ?_
  clear ha; intro a ha
  refine st_val (.int .i64 ((m : Nat) : Int)) ha (by kernel_rfl) (by kernel_rfl) ?_
  clear ha; intro a ha
  refine st_call ha (by kernel_rfl) (by kernel_rfl) (there_in W _ w g (some ad) x.length c m hm s) ?_
  rintro _ w ⟨rfl, s⟩
  replace s : St W (.blk g [.bool true, .slice (some ad) x.length c] 52 :: Own 29 3 (some ad) x.length c (rows x) :: Byts x :: L) w := s
  refine ⟨_, rfl, ?_⟩; clear ha; intro a ha
  refine st_val (.bool false) ha (by kernel_rfl) (by kernel_rfl) ?_
  clear ha; intro a ha
  refine st_val (.bool false) ha (by kernel_rfl) (by kernel_rfl) ?_
  clear ha; intro a ha
  refine wpList_nil ?_
  refine then_normal ?_
  refine wp_false ha rfl (by kernel_rfl) ?_
  refine wp_skip ?_
  refine block_normal ?_
  refine then_normal ?_
  refine wp_seq ?_
  refine wp_region_lit ?_
  refine st_val (.pointer (some ⟨g, 0, none⟩)) ha (by kernel_rfl) (by kernel_rfl) ?_
  clear ha; intro a ha
  refine st_val (.pointer (some ⟨g, 0, none⟩)) ha (by kernel_rfl) (by kernel_rfl) ?_
  clear ha; intro a ha
  refine st_val (.pointer (some ⟨g, 0, none⟩)) ha (by kernel_rfl) (by kernel_rfl) ?_
  clear ha; intro a ha
  refine st_val (.pointer (some ⟨g, 1, none⟩)) ha (by kernel_rfl) (by kernel_rfl) ?_
  clear ha; intro a ha
  refine st_val (.slice (some ad) x.length c) ha (by kernel_rfl) (run_load1 (of_ := 1) (s.blkIs 0 rfl) rfl (by kernel_rfl) Try.isAgg50 rfl) ?_
  clear ha; intro a ha
  refine st_val (.int .i64 ((m : Nat) : Int)) ha (by kernel_rfl) (by kernel_rfl) ?_
  clear ha; intro a ha
  refine st_val (.pointer (some (ad.add (m * 3)))) ha (by kernel_rfl) (run_indexAddr' (kd := .i64) (n := x.length) (c := c) m rfl Try.underlying50 Try.sizeOf29 (by kernel_rfl) (by kernel_rfl) rfl (by first | assumption | omega) _) ?_
  clear ha; intro a ha
  refine st_val (.agg #[.int .i64 (x[m].1.f), .int .i64 (x[m].1.t), .slice (x[m].2.A) (x[m].1.b.length) (x[m].2.c)]) ha (by kernel_rfl) (run_loadRow (m := m) [.int .i64 (x[m].1.f), .int .i64 (x[m].1.t), .slice (x[m].2.A) (x[m].1.b.length) (x[m].2.c)] (Own.reads (s.at_ (j := 1) rfl).1) rfl (by kernel_rfl) Try.isAgg29 Try.sizeOf29 (rows_at x m hm) rfl) ?_
  clear ha; intro a ha
  refine st_call ha (by kernel_rfl) (by kernel_rfl) (put_yes W _ w g (some ad) c x x[m].1 (x[m].2.A) (x[m].1.b.length) (x[m].2.c) rfl (byts_knows x m hm _) (by omega) hc s) ?_
  rintro _ w ⟨rfl, A1, c2, A3, c4, s⟩
  replace s : St W (.blk g [.bool true, .slice A1 (x.length + 1) c2] 52 :: Own 29 3 A1 (x.length + 1) c2 (rows (x ++ [(x[m].1, ⟨A3, c4⟩)])) :: Own 5 1 A3 (x[m].1.b.length) c4 (u8s x[m].1.b) :: Byts x :: L) w := s
  refine ⟨_, rfl, ?_⟩; clear ha; intro a ha
  refine st_val (.int .i64 0) ha (by kernel_rfl) (by kernel_rfl) ?_
  clear ha; intro a ha
  refine wpList_nil ?_
  refine then_normal ?_
  refine wp_ret ?_
  refine ret_with (v := .int .i64 0) ha (results_1 rfl ha (res_tmp (by kernel_rfl) (by kernel_rfl))) ?_
  replace s := s.at_ (j := 1) rfl
  replace s : St W (Own 29 3 A1 (x.length + 1) c2 (rows (x ++ [(x[m].1, ⟨A3, c4⟩)])) :: .blk g [.bool true, .slice A1 (x.length + 1) c2] 52 :: Own 5 1 A3 (x[m].1.b.length) c4 (u8s x[m].1.b) :: Byts x :: L) w := s
  replace s := s.at_ (j := 1) rfl
  replace s : St W (.blk g [.bool true, .slice A1 (x.length + 1) c2] 52 :: Own 29 3 A1 (x.length + 1) c2 (rows (x ++ [(x[m].1, ⟨A3, c4⟩)])) :: Own 5 1 A3 (x[m].1.b.length) c4 (u8s x[m].1.b) :: Byts x :: L) w := s
  replace s := s.at_ (j := 3) rfl
  replace s : St W (Byts x :: .blk g [.bool true, .slice A1 (x.length + 1) c2] 52 :: Own 29 3 A1 (x.length + 1) c2 (rows (x ++ [(x[m].1, ⟨A3, c4⟩)])) :: Own 5 1 A3 (x[m].1.b.length) c4 (u8s x[m].1.b) :: L) w := s
  replace s := s.at_ (j := 3) rfl
  replace s : St W (Own 5 1 A3 (x[m].1.b.length) c4 (u8s x[m].1.b) :: Byts x :: .blk g [.bool true, .slice A1 (x.length + 1) c2] 52 :: Own 29 3 A1 (x.length + 1) c2 (rows (x ++ [(x[m].1, ⟨A3, c4⟩)])) :: L) w := s
  replace s := byts_snoc x (x[m].1, ⟨A3, c4⟩) s
  replace s := s.at_ (j := 2) rfl
  replace s := s.at_ (j := 2) rfl
  rw [show x.length + 1 = (x ++ [(x[m].1, (⟨A3, c4⟩ : Hd))]).length by simp] at s
  exact ⟨rfl, _, _, _, _, s⟩

theorem double_no (W : World) (L : List Chunk) (w : World) (g : Nat) (A : Option Addr) (c : Nat) (x : List (Msg × Hd)) (m : Nat) (hm : m < x.length) (hn : x[m].1.b.length ≤ 140737488351232) (hc : putCode x[m].1 x.length ≠ 0) (s : St W (.blk g [.bool true, .slice A x.length c] 52 :: Own 29 3 A x.length c (rows x) :: Byts x :: L) w) :
    Calls Try.prog 15 #[.pointer (some ⟨g, 0, none⟩), .int .i64 ((m : Nat) : Int)] w fun e w' => e = .returned (.int .i64 (putCode x[m].1 x.length)) ∧ St W (.blk g [.bool true, .slice A x.length c] 52 :: Own 29 3 A x.length c (rows x) :: Byts x :: L) w' := by
  have hx0 : 0 < x.length := by omega
  obtain ⟨ad, rfl⟩ := Own.some_ s.tail.1 hx0
  refine enter_args (l := [.pointer (some ⟨g, 0, none⟩), .int .i64 ((m : Nat) : Int)]) Try.func15 rfl rfl (Nat.le_of_ble_eq_true rfl) ?_
  intro a ha; replace ha : Has a 22 [(0, .pointer (some ⟨g, 0, none⟩)), (1, .int .i64 ((m : Nat) : Int))] := ha
  refine wp_seq ?_
  refine wp_region_lit ?_
  refine st_val (.int .i64 0) ha (by kernel_rfl) (by kernel_rfl) ?_
  clear ha; intro a ha
  refine wpList_nil ?_
  refine then_normal ?_
  refine wp_seq ?_
  refine wp_block ?_
  refine wp_seq ?_
  refine wp_region_lit ?_
  refine st_val (.pointer (some ⟨g, 0, none⟩)) ha (by kernel_rfl) (by kernel_rfl) ?_
  clear ha; intro a ha
  refine st_call ha (by kernel_rfl) (by kernel_rfl) (none_made W _ w g (some ad) x.length c s) ?_
  rintro _ w ⟨rfl, s⟩
  replace s : St W (.blk g [.bool true, .slice (some ad) x.length c] 52 :: Own 29 3 (some ad) x.length c (rows x) :: Byts x :: L) w := s
  refine ⟨_, rfl, ?_⟩; clear ha; intro a ha
  refine st_val (.bool false) ha (by kernel_rfl) (by kernel_rfl) ?_
  clear ha; intro a ha
  refine wpList_nil ?_
  refine then_normal ?_
  refine wp_false ha rfl (by kernel_rfl) ?_
  refine wp_seq ?_
  refine wp_region_lit ?_
  refine st_val (.pointer (some ⟨g, 0, none⟩)) ha (by kernel_rfl) (by kernel_rfl) ?_
  clear ha; intro a ha
  refine st_val (.int .i64 ((m : Nat) : Int)) ha (by kernel_rfl) (by kernel_rfl) ?_
  clear ha; intro a ha
  refine st_call ha (by kernel_rfl) (by kernel_rfl) (there_in W _ w g (some ad) x.length c m hm s) ?_
  rintro _ w ⟨rfl, s⟩
  replace s : St W (.blk g [.bool true, .slice (some ad) x.length c] 52 :: Own 29 3 (some ad) x.length c (rows x) :: Byts x :: L) w := s
  refine ⟨_, rfl, ?_⟩; clear ha; intro a ha
  refine st_val (.bool false) ha (by kernel_rfl) (by kernel_rfl) ?_
  clear ha; intro a ha
  refine st_val (.bool false) ha (by kernel_rfl) (by kernel_rfl) ?_
  clear ha; intro a ha
  refine wpList_nil ?_
  refine then_normal ?_
  refine wp_false ha rfl (by kernel_rfl) ?_
  refine wp_skip ?_
  refine block_normal ?_
  refine then_normal ?_
  refine wp_seq ?_
  refine wp_region_lit ?_
  refine st_val (.pointer (some ⟨g, 0, none⟩)) ha (by kernel_rfl) (by kernel_rfl) ?_
  clear ha; intro a ha
  refine st_val (.pointer (some ⟨g, 0, none⟩)) ha (by kernel_rfl) (by kernel_rfl) ?_
  clear ha; intro a ha
  refine st_val (.pointer (some ⟨g, 0, none⟩)) ha (by kernel_rfl) (by kernel_rfl) ?_
  clear ha; intro a ha
  refine st_val (.pointer (some ⟨g, 1, none⟩)) ha (by kernel_rfl) (by kernel_rfl) ?_
  clear ha; intro a ha
  refine st_val (.slice (some ad) x.length c) ha (by kernel_rfl) (run_load1 (of_ := 1) (s.blkIs 0 rfl) rfl (by kernel_rfl) Try.isAgg50 rfl) ?_
  clear ha; intro a ha
  refine st_val (.int .i64 ((m : Nat) : Int)) ha (by kernel_rfl) (by kernel_rfl) ?_
  clear ha; intro a ha
  refine st_val (.pointer (some (ad.add (m * 3)))) ha (by kernel_rfl) (run_indexAddr' (kd := .i64) (n := x.length) (c := c) m rfl Try.underlying50 Try.sizeOf29 (by kernel_rfl) (by kernel_rfl) rfl (by first | assumption | omega) _) ?_
  clear ha; intro a ha
  refine st_val (.agg #[.int .i64 (x[m].1.f), .int .i64 (x[m].1.t), .slice (x[m].2.A) (x[m].1.b.length) (x[m].2.c)]) ha (by kernel_rfl) (run_loadRow (m := m) [.int .i64 (x[m].1.f), .int .i64 (x[m].1.t), .slice (x[m].2.A) (x[m].1.b.length) (x[m].2.c)] (Own.reads (s.at_ (j := 1) rfl).1) rfl (by kernel_rfl) Try.isAgg29 Try.sizeOf29 (rows_at x m hm) rfl) ?_
  clear ha; intro a ha
  refine st_call ha (by kernel_rfl) (by kernel_rfl) (put_no W _ w g (some ad) c x x[m].1 (x[m].2.A) (x[m].1.b.length) (x[m].2.c) rfl (byts_knows x m hm _) (by omega) hc s) ?_
  rintro _ w ⟨rfl, s⟩
  replace s : St W (.blk g [.bool true, .slice (some ad) x.length c] 52 :: Own 29 3 (some ad) x.length c (rows x) :: Byts x :: L) w := s
  refine ⟨_, rfl, ?_⟩; clear ha; intro a ha
  refine st_val (.int .i64 (putCode x[m].1 x.length)) ha (by kernel_rfl) (by kernel_rfl) ?_
  clear ha; intro a ha
  refine wpList_nil ?_
  refine then_normal ?_
  refine wp_ret ?_
  refine ret_with (v := .int .i64 (putCode x[m].1 x.length)) ha (results_1 rfl ha (res_tmp (by kernel_rfl) (by kernel_rfl))) ?_
  exact ⟨rfl, s⟩

theorem double_out (W : World) (L : List Chunk) (w : World) (g : Nat) (A : Option Addr) (c : Nat) (x : List (Msg × Hd)) (i : Int) (hm : ¬ (0 ≤ i ∧ i < ((x.length : Nat) : Int))) (s : St W (.blk g [.bool true, .slice A x.length c] 52 :: Own 29 3 A x.length c (rows x) :: Byts x :: L) w) :
    Calls Try.prog 15 #[.pointer (some ⟨g, 0, none⟩), .int .i64 i] w fun e w' => e = .returned (.int .i64 9) ∧ St W (.blk g [.bool true, .slice A x.length c] 52 :: Own 29 3 A x.length c (rows x) :: Byts x :: L) w' := by
  refine enter_args (l := [.pointer (some ⟨g, 0, none⟩), .int .i64 i]) Try.func15 rfl rfl (Nat.le_of_ble_eq_true rfl) ?_
  intro a ha; replace ha : Has a 22 [(0, .pointer (some ⟨g, 0, none⟩)), (1, .int .i64 i)] := ha
  refine wp_seq ?_
  refine wp_region_lit ?_
  refine st_val (.int .i64 0) ha (by kernel_rfl) (by kernel_rfl) ?_
  clear ha; intro a ha
  refine wpList_nil ?_
  refine then_normal ?_
  refine wp_seq ?_
  refine wp_block ?_
  refine wp_seq ?_
  refine wp_region_lit ?_
  refine st_val (.pointer (some ⟨g, 0, none⟩)) ha (by kernel_rfl) (by kernel_rfl) ?_
  clear ha; intro a ha
  refine st_call ha (by kernel_rfl) (by kernel_rfl) (none_made W _ w g A x.length c s) ?_
  rintro _ w ⟨rfl, s⟩
  replace s : St W (.blk g [.bool true, .slice A x.length c] 52 :: Own 29 3 A x.length c (rows x) :: Byts x :: L) w := s
  refine ⟨_, rfl, ?_⟩; clear ha; intro a ha
  refine st_val (.bool false) ha (by kernel_rfl) (by kernel_rfl) ?_
  clear ha; intro a ha
  refine wpList_nil ?_
  refine then_normal ?_
  refine wp_false ha rfl (by kernel_rfl) ?_
  refine wp_seq ?_
  refine wp_region_lit ?_
  refine st_val (.pointer (some ⟨g, 0, none⟩)) ha (by kernel_rfl) (by kernel_rfl) ?_
  clear ha; intro a ha
  refine st_val (.int .i64 i) ha (by kernel_rfl) (by kernel_rfl) ?_
  clear ha; intro a ha
  refine st_call ha (by kernel_rfl) (by kernel_rfl) (there_out W _ w g A x.length c i hm s) ?_
  rintro _ w ⟨rfl, s⟩
  replace s : St W (.blk g [.bool true, .slice A x.length c] 52 :: Own 29 3 A x.length c (rows x) :: Byts x :: L) w := s
  refine ⟨_, rfl, ?_⟩; clear ha; intro a ha
  refine st_val (.bool true) ha (by kernel_rfl) (by kernel_rfl) ?_
  clear ha; intro a ha
  refine st_val (.bool true) ha (by kernel_rfl) (by kernel_rfl) ?_
  clear ha; intro a ha
  refine wpList_nil ?_
  refine then_normal ?_
  refine wp_true ha rfl (by kernel_rfl) ?_
  refine wp_seq ?_
  refine wp_region_lit ?_
  refine st_val (.int .i64 9) ha (by kernel_rfl) (by kernel_rfl) ?_
  clear ha; intro a ha
  refine wpList_nil ?_
  refine then_normal ?_
  refine wp_ret ?_
  refine block_ret ?_
  refine then_ret ?_
  refine ret_with (v := .int .i64 9) ha (results_1 rfl ha (res_tmp (by kernel_rfl) (by kernel_rfl))) ?_
  exact ⟨rfl, s⟩

theorem rnew_made (W : World) (L : List Chunk) (w : World) (s : St W L w) :
    Calls Try.prog 8 #[] w fun e w' => ∃ g, e = .returned (.pointer (some ⟨g, 0, none⟩)) ∧ St W (.blk g [.slice none 0 0] 54 :: L) w' := by
  refine enter_args (l := []) Try.func8 rfl rfl (Nat.le_of_ble_eq_true rfl) ?_
  intro a ha; replace ha : Has a 3 [] := ha
  refine wp_seq ?_
  refine wp_region_lit ?_
  refine st_val (.pointer none) ha (by kernel_rfl) (by kernel_rfl) ?_
  clear ha; intro a ha
  refine wpList_nil ?_
  refine then_normal ?_
  refine wp_seq ?_
  refine wp_region_lit ?_
  refine st_val (.agg #[.slice none 0 0]) ha (by kernel_rfl) (by kernel_rfl) ?_
  clear ha; intro a ha
  refine st_ex ha (by kernel_rfl) (ex_box [.slice none 0 0] s rfl (by kernel_rfl)) ?_
  clear ha; rintro _ w a ⟨g1, rfl, s⟩ ha
  replace s : St W (.blk g1 [.slice none 0 0] 54 :: L) w := s
  refine st_val (.pointer (some ⟨g1, 0, none⟩)) ha (by kernel_rfl) (by kernel_rfl) ?_
  clear ha; intro a ha
  refine wpList_nil ?_
  refine then_normal ?_
  refine wp_ret ?_
  refine ret_with (v := .pointer (some ⟨g1, 0, none⟩)) ha (results_1 rfl ha (res_tmp (by kernel_rfl) (by kernel_rfl))) ?_
  exact ⟨_, rfl, s⟩

theorem rlen_any (W : World) (L : List Chunk) (w : World) (g : Nat) (A : Option Addr) (n c : Nat) (s : St W (.blk g [.slice A n c] 54 :: L) w) :
    Calls Try.prog 21 #[.pointer (some ⟨g, 0, none⟩)] w fun e w' => e = .returned (.int .i64 (n : Int)) ∧ St W (.blk g [.slice A n c] 54 :: L) w' := by
  refine enter_args (l := [.pointer (some ⟨g, 0, none⟩)]) Try.func21 rfl rfl (Nat.le_of_ble_eq_true rfl) ?_
  intro a ha; replace ha : Has a 8 [(0, .pointer (some ⟨g, 0, none⟩))] := ha
  refine wp_seq ?_
  refine wp_region_lit ?_
  refine st_val (.int .i64 0) ha (by kernel_rfl) (by kernel_rfl) ?_
  clear ha; intro a ha
  refine wpList_nil ?_
  refine then_normal ?_
  refine wp_seq ?_
  refine wp_region_lit ?_
  refine st_val (.pointer (some ⟨g, 0, none⟩)) ha (by kernel_rfl) (by kernel_rfl) ?_
  clear ha; intro a ha
  refine st_val (.pointer (some ⟨g, 0, none⟩)) ha (by kernel_rfl) (by kernel_rfl) ?_
  clear ha; intro a ha
  refine st_val (.pointer (some ⟨g, 0, none⟩)) ha (by kernel_rfl) (by kernel_rfl) ?_
  clear ha; intro a ha
  refine st_val (.slice A n c) ha (by kernel_rfl) (run_load1 (of_ := 0) (s.blkIs 0 rfl) rfl (by kernel_rfl) Try.isAgg50 rfl) ?_
  clear ha; intro a ha
  refine st_val (.int .i64 ((n : Nat) : Int)) ha (by kernel_rfl) (by kernel_rfl) ?_
  clear ha; intro a ha
  refine st_val (.int .i64 ((n : Nat) : Int)) ha (by kernel_rfl) (by kernel_rfl) ?_
  clear ha; intro a ha
  refine wpList_nil ?_
  refine then_normal ?_
  refine wp_ret ?_
  refine ret_with (v := .int .i64 ((n : Nat) : Int)) ha (results_1 rfl ha (res_tmp (by kernel_rfl) (by kernel_rfl))) ?_
  exact ⟨rfl, s⟩

theorem rnode_any (W : World) (L : List Chunk) (w : World) (i : Int) (s : St W L w) :
    Calls Try.prog 31 #[.int .i64 i] w fun e w' => e = .returned (.bool (decide (1 ≤ i ∧ i ≤ 4))) ∧ St W L w' := by
  refine enter_args (l := [.int .i64 i]) Try.func31 rfl rfl (Nat.le_of_ble_eq_true rfl) ?_
  intro a ha; replace ha : Has a 9 [(0, .int .i64 i)] := ha
  refine wp_seq ?_
  refine wp_region_lit ?_
  refine st_val (.bool false) ha (by kernel_rfl) (by kernel_rfl) ?_
  clear ha; intro a ha
  refine wpList_nil ?_
  refine then_normal ?_
  refine wp_seq ?_
  refine wp_region_lit ?_
  refine st_val (.int .i64 i) ha (by kernel_rfl) (by kernel_rfl) ?_
  clear ha; intro a ha
  refine st_val (.bool (decide (i ≥ (1 : Int)))) ha (by kernel_rfl) (by kernel_rfl) ?_
  clear ha; intro a ha
  refine st_val (.bool (decide (i ≥ (1 : Int)))) ha (by kernel_rfl) (by kernel_rfl) ?_
  clear ha; intro a ha
  rcases Bool.eq_false_or_eq_true (decide (i ≥ (1 : Int))) with hb | hb
  · rw [hb] at ha; replace hb : (i ≥ (1 : Int)) := of_decide_eq_true hb
    refine st_val (.int .i64 i) ha (by kernel_rfl) (by kernel_rfl) ?_
    clear ha; intro a ha
    refine st_val (.bool (decide (i ≤ (4 : Int)))) ha (by kernel_rfl) (by kernel_rfl) ?_
    clear ha; intro a ha
    refine st_val (.bool (decide (i ≤ (4 : Int)))) ha (by kernel_rfl) (by kernel_rfl) ?_
    clear ha; intro a ha
    refine st_val (.bool (decide (i ≤ (4 : Int)))) ha (by kernel_rfl) (by kernel_rfl) ?_
    clear ha; intro a ha
    refine wpList_nil ?_
    refine then_normal ?_
    refine wp_ret ?_
    refine ret_with (v := .bool (decide (i ≤ (4 : Int)))) ha (results_1 rfl ha (res_tmp (by kernel_rfl) (by kernel_rfl))) ?_
    refine ⟨?_, s⟩
    congr 2
    first | (rw [decide_eq_decide]; omega) | (symm; rw [decide_eq_false_iff_not]; omega)
  · rw [hb] at ha; replace hb : ¬ (i ≥ (1 : Int)) := of_decide_eq_false hb
    refine st_pass ha (by kernel_rfl) ?_
    clear ha; intro a ha
    refine st_pass ha (by kernel_rfl) ?_
    clear ha; intro a ha
    refine st_val (.bool false) ha (by kernel_rfl) (by kernel_rfl) ?_
    clear ha; intro a ha
    refine st_val (.bool false) ha (by kernel_rfl) (by kernel_rfl) ?_
    clear ha; intro a ha
    refine wpList_nil ?_
    refine then_normal ?_
    refine wp_ret ?_
    refine ret_with (v := .bool false) ha (results_1 rfl ha (res_tmp (by kernel_rfl) (by kernel_rfl))) ?_
    refine ⟨?_, s⟩
    congr 2
    first | (rw [decide_eq_decide]; omega) | (symm; rw [decide_eq_false_iff_not]; omega)

theorem rnode_yes (W : World) (L : List Chunk) (w : World) (i : Int) (h : 1 ≤ i ∧ i ≤ 4) (s : St W L w) : Calls Try.prog 31 #[.int .i64 i] w fun e w' => e = .returned (.bool true) ∧ St W L w' :=
  (rnode_any W L w i s).mono fun e w' h' => ⟨by rw [h'.1]; congr 2; simpa using h, h'.2⟩

theorem rnode_no (W : World) (L : List Chunk) (w : World) (i : Int) (h : ¬ (1 ≤ i ∧ i ≤ 4)) (s : St W L w) : Calls Try.prog 31 #[.int .i64 i] w fun e w' => e = .returned (.bool false) ∧ St W L w' :=
  (rnode_any W L w i s).mono fun e w' h' => ⟨by rw [h'.1]; congr 2; simpa using h, h'.2⟩

theorem copyBytes_any (W : World) (L : List Chunk) (w : World) (A : Option Addr) (n c : Nat) (bs : List Int) (hr : Knows L fun w => Reads w 1 A n (u8s bs)) (hn : n ≤ 140737488351232) (s : St W L w) :
    Calls Try.prog 27 #[.slice A n c] w fun e w' => ∃ A' c', e = .returned (.slice A' n c') ∧ St W (Own 5 1 A' n c' (u8s bs) :: L) w' := by
  refine enter_args (l := [.slice A n c]) Try.func27 rfl rfl (Nat.le_of_ble_eq_true rfl) ?_
  intro a ha; replace ha : Has a 8 [(0, .slice A n c)] := ha
  refine wp_seq ?_
  refine wp_region_lit ?_
  refine st_val (.slice none 0 0) ha (by kernel_rfl) (by kernel_rfl) ?_
  clear ha; intro a ha
  refine wpList_nil ?_
  refine then_normal ?_
  refine wp_seq ?_
  refine wp_region_lit ?_
  refine st_val (.slice none 0 0) ha (by kernel_rfl) (by kernel_rfl) ?_
  clear ha; intro a ha
  refine wpList_nil ?_
  refine then_normal ?_
  refine wp_seq ?_
  refine wp_region_lit ?_
  refine st_val (.slice none 0 0) ha (by kernel_rfl) (by kernel_rfl) ?_
  clear ha; intro a ha
  refine st_val (.slice A n c) ha (by kernel_rfl) (by kernel_rfl) ?_
  clear ha; intro a ha
  replace s := Own.none_ (e := 5) (k := 1) none s
  replace s : St W (Own 5 1 none 0 0 [] :: L) w := s
  refine st_ex ha (by kernel_rfl) (ex_append (d' := c) elt27 (by decide) 0 (u8s bs) s rfl (by kernel_rfl) (by kernel_rfl) rfl (hr _ s.sat.tail) (u8_one bs) (by simp only [maxLen]; omega) (by omega)) ?_
  clear ha; rintro _ w a ⟨A1, c2, rfl, hA_, s⟩ ha
  replace s : St W (Own 5 1 A1 (0 + n) c2 ([] ++ (u8s bs)) :: L) w := s
  refine st_val (.slice A1 (0 + n) c2) ha (by kernel_rfl) (by kernel_rfl) ?_
  clear ha; intro a ha
  refine wpList_nil ?_
  refine then_normal ?_
  refine wp_seq ?_
  refine wp_region_lit ?_
  refine st_val (.slice A1 (0 + n) c2) ha (by kernel_rfl) (by kernel_rfl) ?_
  clear ha; intro a ha
  refine st_val (.slice A1 (0 + n) c2) ha (by kernel_rfl) (by kernel_rfl) ?_
  clear ha; intro a ha
  refine wpList_nil ?_
  refine then_normal ?_
  refine wp_ret ?_
  refine ret_with (v := .slice A1 (0 + n) c2) ha (results_1 rfl ha (res_tmp (by kernel_rfl) (by kernel_rfl))) ?_
  rw [Nat.zero_add, List.nil_append] at s; rw [Nat.zero_add]
  exact ⟨_, _, rfl, s⟩

theorem copy_any (W : World) (L : List Chunk) (w : World) (f t : Int) (A : Option Addr) (n c : Nat) (bs : List Int) (hr : Knows L fun w => Reads w 1 A n (u8s bs)) (hn : n ≤ 140737488351232) (s : St W L w) :
    Calls Try.prog 9 #[.agg #[.int .i64 f, .int .i64 t, .slice A n c]] w fun e w' => ∃ A' c', e = .returned (.agg #[.int .i64 f, .int .i64 t, .slice A' n c']) ∧ St W (Own 5 1 A' n c' (u8s bs) :: L) w' := by
  refine enter_args (l := [.agg #[.int .i64 f, .int .i64 t, .slice A n c]]) Try.func9 rfl rfl (Nat.le_of_ble_eq_true rfl) ?_
  intro a ha; replace ha : Has a 11 [(0, .agg #[.int .i64 f, .int .i64 t, .slice A n c])] := ha
  refine wp_seq ?_
  refine wp_region_lit ?_
  refine st_ex ha (by kernel_rfl) (ex_box [.int .i64 f, .int .i64 t, .slice A n c] s rfl (by kernel_rfl)) ?_
  clear ha; rintro _ w a ⟨g1, rfl, s⟩ ha
  replace s : St W (.blk g1 [.int .i64 f, .int .i64 t, .slice A n c] 29 :: L) w := s
  refine st_ex ha (by kernel_rfl) (ex_alloc [.int .i64 0, .int .i64 0, .slice none 0 0] s rfl (Try.zeroValue29 _) (by kernel_rfl)) ?_
  clear ha; rintro _ w a ⟨g2, rfl, s⟩ ha
  replace s : St W (.blk g2 [.int .i64 0, .int .i64 0, .slice none 0 0] 29 :: .blk g1 [.int .i64 f, .int .i64 t, .slice A n c] 29 :: L) w := s
  refine wpList_nil ?_
  refine then_normal ?_
  refine wp_seq ?_
  refine wp_region_head 7 (fun w => BlkIs g1 [.int .i64 f, .int .i64 t, .slice A n c] w ∧ True) (by kernel_rfl) (by decide) ?_
  replace s := s.drew; generalize _root_.Go.World.drew _ = w at s ⊢
  have hS : (fun w => BlkIs g1 [.int .i64 f, .int .i64 t, .slice A n c] w ∧ True) w := ⟨s.blkIs 1 rfl, trivial⟩
  refine hd_val (i := 0) (.pointer (some ⟨g1, 0, none⟩)) ha rfl (by kernel_rfl) (fun _ _ _ h => h) (by kernel_rfl) (fun w hS => (by kernel_rfl)) hS ?_
  clear ha; intro a ha
  refine hd_val (i := 1) (.int .i64 f) ha rfl (by kernel_rfl) (fun _ _ _ h => h) (by kernel_rfl) (fun w hS => run_load1 (of_ := 0) hS.1 rfl (by kernel_rfl) Try.isAgg3 rfl) hS ?_
  clear ha; intro a ha
  refine hd_val (i := 2) (.pointer (some ⟨g1, 1, none⟩)) ha rfl (by kernel_rfl) (fun _ _ _ h => h) (by kernel_rfl) (fun w hS => (by kernel_rfl)) hS ?_
  clear ha; intro a ha
  refine hd_val (i := 3) (.int .i64 t) ha rfl (by kernel_rfl) (fun _ _ _ h => h) (by kernel_rfl) (fun w hS => run_load1 (of_ := 1) hS.1 rfl (by kernel_rfl) Try.isAgg3 rfl) hS ?_
  clear ha; intro a ha
  refine hd_val (i := 4) (.pointer (some ⟨g1, 2, none⟩)) ha rfl (by kernel_rfl) (fun _ _ _ h => h) (by kernel_rfl) (fun w hS => (by kernel_rfl)) hS ?_
  clear ha; intro a ha
  refine hd_val (i := 5) (.slice A n c) ha rfl (by kernel_rfl) (fun _ _ _ h => h) (by kernel_rfl) (fun w hS => run_load1 (of_ := 2) hS.1 rfl (by kernel_rfl) Try.isAgg27 rfl) hS ?_
  clear ha; intro a ha
  refine hd_call (i := 6) ha rfl (by kernel_rfl) (by kernel_rfl) (by kernel_rfl) (copyBytes_any W _ w A n c bs (((hr).up _).up _) hn s) ?_
  clear hS; rintro _ w ⟨A3, c4, rfl, s⟩
  replace s : St W (Own 5 1 A3 n c4 (u8s bs) :: .blk g2 [.int .i64 0, .int .i64 0, .slice none 0 0] 29 :: .blk g1 [.int .i64 f, .int .i64 t, .slice A n c] 29 :: L) w := s
  have hS : (fun w => BlkIs g1 [.int .i64 f, .int .i64 t, .slice A n c] w ∧ True) w := ⟨s.blkIs 2 rfl, trivial⟩
  refine ⟨_, rfl, hS, ?_⟩; clear ha; intro a ha
  refine Head.done (by kernel_rfl) ?_
  clear hS; simp only [List.drop_succ_cons, List.drop_zero]
  refine st_val (.agg #[.int .i64 f, .int .i64 t, .slice A3 n c4]) ha (by kernel_rfl) (by kernel_rfl) ?_
  clear ha; intro a ha
  refine st_exd ha (by kernel_rfl) (ex_store (of_ := 0) 1 [.int .i64 f, .int .i64 t, .slice A3 n c4] s rfl rfl (by kernel_rfl) (by kernel_rfl) (Try.sizeOf29 _) rfl (by simp [Value.oneCell']) (Nat.le_of_ble_eq_true rfl)) ?_
  clear ha; rintro w a s ha
  replace s : St W (Own 5 1 A3 n c4 (u8s bs) :: .blk g2 [.int .i64 f, .int .i64 t, .slice A3 n c4] 29 :: .blk g1 [.int .i64 f, .int .i64 t, .slice A n c] 29 :: L) w := s
  refine wpList_nil ?_
  refine then_normal ?_
  refine wp_ret ?_
  refine ret_with (v := .agg #[.int .i64 f, .int .i64 t, .slice A3 n c4]) ha (results_1 rfl ha (res_cellN (s.blkIs 1 rfl) (by kernel_rfl) (by kernel_rfl) Try.isAgg29 Try.sizeOf29 rfl)) ?_
  replace s : St W (Own 5 1 A3 n c4 (u8s bs) :: L) w := St.mid (A := [Own 5 1 A3 n c4 (u8s bs)]) (B := [.blk g2 [.int .i64 f, .int .i64 t, .slice A3 n c4] 29, .blk g1 [.int .i64 f, .int .i64 t, .slice A n c] 29]) s
  exact ⟨_, _, rfl, s⟩

theorem rput_ok (W : World) (L : List Chunk) (w : World) (g : Nat) (A : Option Addr) (c : Nat) (x : List (Msg × Hd)) (f t : Int) (A0 : Option Addr) (n0 c0 : Nat) (bs : List Int) (hr : Knows L fun w => Reads w 1 A0 n0 (u8s bs)) (hn : n0 ≤ 140737488351232) (hf : 1 ≤ f ∧ f ≤ 4) (ht : 1 ≤ t ∧ t ≤ 4) (hk : n0 ≤ 65536) (hx : x.length < 2048) (s : St W (.blk g [.slice A x.length c] 54 :: Own 29 3 A x.length c (rows x) :: L) w) :
    Calls Try.prog 17 #[.pointer (some ⟨g, 0, none⟩), .agg #[.int .i64 f, .int .i64 t, .slice A0 n0 c0]] w fun e w' => e = .returned (.int .i64 0) ∧ ∃ A' c' A1 c1, St W (.blk g [.slice A' (x.length + 1) c'] 54 :: Own 29 3 A' (x.length + 1) c' (rows (x ++ [(⟨f, t, bs⟩, ⟨A1, c1⟩)])) :: Own 5 1 A1 n0 c1 (u8s bs) :: L) w' := by
  have hl0 : n0 = bs.length := by have := (hr w s.1.tail.tail).1; rw [u8_len] at this; omega
  refine enter_args (l := [.pointer (some ⟨g, 0, none⟩), .agg #[.int .i64 f, .int .i64 t, .slice A0 n0 c0]]) Try.func17 rfl rfl (Nat.le_of_ble_eq_true rfl) ?_
  intro a ha; replace ha : Has a 36 [(0, .pointer (some ⟨g, 0, none⟩)), (1, .agg #[.int .i64 f, .int .i64 t, .slice A0 n0 c0])] := ha
  refine wp_seq ?_
  refine wp_region_lit ?_
  refine st_ex ha (by kernel_rfl) (ex_box [.int .i64 f, .int .i64 t, .slice A0 n0 c0] s rfl (by kernel_rfl)) ?_
  clear ha; rintro _ w a ⟨g1, rfl, s⟩ ha
  replace s : St W (.blk g1 [.int .i64 f, .int .i64 t, .slice A0 n0 c0] 29 :: .blk g [.slice A x.length c] 54 :: Own 29 3 A x.length c (rows x) :: L) w := s
  refine st_val (.int .i64 0) ha (by kernel_rfl) (by kernel_rfl) ?_
  clear ha; intro a ha
  refine wpList_nil ?_
  refine then_normal ?_
  refine wp_seq ?_
  refine wp_seq ?_
  refine wp_region_lit ?_
  refine st_val (.pointer (some ⟨g1, 0, none⟩)) ha (by kernel_rfl) (by kernel_rfl) ?_
  clear ha; intro a ha
  refine st_val (.int .i64 f) ha (by kernel_rfl) (run_load1 (of_ := 0) (s.blkIs 0 rfl) rfl (by kernel_rfl) Try.isAgg3 rfl) ?_
  clear ha; intro a ha
  refine st_call ha (by kernel_rfl) (by kernel_rfl) (rnode_yes W _ w f hf s) ?_
  rintro _ w ⟨rfl, s⟩
  replace s : St W (.blk g1 [.int .i64 f, .int .i64 t, .slice A0 n0 c0] 29 :: .blk g [.slice A x.length c] 54 :: Own 29 3 A x.length c (rows x) :: L) w := s
  refine ⟨_, rfl, ?_⟩; clear ha; intro a ha
  refine st_val (.bool false) ha (by kernel_rfl) (by kernel_rfl) ?_
  clear ha; intro a ha
  refine st_val (.bool false) ha (by kernel_rfl) (by kernel_rfl) ?_
  clear ha; intro a ha
  refine st_val (.pointer (some ⟨g1, 1, none⟩)) ha (by kernel_rfl) (by kernel_rfl) ?_
  clear ha; intro a ha
  refine st_val (.int .i64 t) ha (by kernel_rfl) (run_load1 (of_ := 1) (s.blkIs 0 rfl) rfl (by kernel_rfl) Try.isAgg3 rfl) ?_
  clear ha; intro a ha
  refine st_call ha (by kernel_rfl) (by kernel_rfl) (rnode_yes W _ w t ht s) ?_
  rintro _ w ⟨rfl, s⟩
  replace s : St W (.blk g1 [.int .i64 f, .int .i64 t, .slice A0 n0 c0] 29 :: .blk g [.slice A x.length c] 54 :: Own 29 3 A x.length c (rows x) :: L) w := s
  refine ⟨_, rfl, ?_⟩; clear ha; intro a ha
  refine st_val (.bool false) ha (by kernel_rfl) (by kernel_rfl) ?_
  clear ha; intro a ha
  refine st_val (.bool false) ha (by kernel_rfl) (by kernel_rfl) ?_
  clear ha; intro a ha
  refine wpList_nil ?_
  refine then_normal ?_
  refine wp_false ha rfl (by kernel_rfl) ?_
  refine wp_skip ?_
  refine then_normal ?_
  refine wp_seq ?_
  refine wp_seq ?_
  refine wp_region_lit ?_
  refine st_val (.pointer (some ⟨g1, 2, none⟩)) ha (by kernel_rfl) (by kernel_rfl) ?_
  clear ha; intro a ha
  refine st_val (.slice A0 n0 c0) ha (by kernel_rfl) (run_load1 (of_ := 2) (s.blkIs 0 rfl) rfl (by kernel_rfl) Try.isAgg27 rfl) ?_
  clear ha; intro a ha
  refine st_val (.int .i64 ((n0 : Nat) : Int)) ha (by kernel_rfl) (by kernel_rfl) ?_
  clear ha; intro a ha
  refine st_val (.bool false) ha (by kernel_rfl) (run_known (show (decide (((n0 : Nat) : Int) > (65536 : Int))) = false from decide_eq_false (by omega)) (by kernel_rfl)) ?_
  clear ha; intro a ha
  refine wpList_nil ?_
  refine then_normal ?_
  refine wp_false ha rfl (by kernel_rfl) ?_
  refine wp_skip ?_
  refine then_normal ?_
  refine wp_seq ?_
  refine wp_seq ?_
  refine wp_region_lit ?_
  refine st_val (.pointer (some ⟨g, 0, none⟩)) ha (by kernel_rfl) (by kernel_rfl) ?_
  clear ha; intro a ha
  refine st_val (.pointer (some ⟨g, 0, none⟩)) ha (by kernel_rfl) (by kernel_rfl) ?_
  clear ha; intro a ha
  refine st_val (.pointer (some ⟨g, 0, none⟩)) ha (by kernel_rfl) (by kernel_rfl) ?_
  clear ha; intro a ha
  refine st_val (.slice A x.length c) ha (by kernel_rfl) (run_load1 (of_ := 0) (s.blkIs 1 rfl) rfl (by kernel_rfl) Try.isAgg50 rfl) ?_
  clear ha; intro a ha
  refine st_val (.int .i64 ((x.length : Nat) : Int)) ha (by kernel_rfl) (by kernel_rfl) ?_
  clear ha; intro a ha
  refine st_val (.bool false) ha (by kernel_rfl) (run_known (show (decide (((x.length : Nat) : Int) ≥ (2048 : Int))) = false from decide_eq_false (by omega)) (by kernel_rfl)) ?_
  clear ha; intro a ha
  refine wpList_nil ?_
  refine then_normal ?_
  refine wp_false ha rfl (by kernel_rfl) ?_
  refine wp_skip ?_
  refine then_normal ?_
  refine wp_seq ?_
  refine wp_region_head 9 (fun w => BlkIs g [.slice A x.length c] w ∧ BlkIs g1 [.int .i64 f, .int .i64 t, .slice A0 n0 c0] w ∧ True) (by kernel_rfl) (by decide) ?_
  replace s := s.drew; generalize _root_.Go.World.drew _ = w at s ⊢
  have hS : (fun w => BlkIs g [.slice A x.length c] w ∧ BlkIs g1 [.int .i64 f, .int .i64 t, .slice A0 n0 c0] w ∧ True) w := ⟨s.blkIs 1 rfl, s.blkIs 0 rfl, trivial⟩
  refine hd_val (i := 0) (.pointer (some ⟨g, 0, none⟩)) ha rfl (by kernel_rfl) (fun _ _ _ h => h) (by kernel_rfl) (fun w hS => (by kernel_rfl)) hS ?_
  clear ha; intro a ha
  refine hd_val (i := 1) (.pointer (some ⟨g, 0, none⟩)) ha rfl (by kernel_rfl) (fun _ _ _ h => h) (by kernel_rfl) (fun w hS => (by kernel_rfl)) hS ?_
  clear ha; intro a ha
  refine hd_val (i := 2) (.pointer (some ⟨g, 0, none⟩)) ha rfl (by kernel_rfl) (fun _ _ _ h => h) (by kernel_rfl) (fun w hS => (by kernel_rfl)) hS ?_
  clear ha; intro a ha
  refine hd_val (i := 3) (.pointer (some ⟨g, 0, none⟩)) ha rfl (by kernel_rfl) (fun _ _ _ h => h) (by kernel_rfl) (fun w hS => (by kernel_rfl)) hS ?_
  clear ha; intro a ha
  refine hd_val (i := 4) (.slice A x.length c) ha rfl (by kernel_rfl) (fun _ _ _ h => h) (by kernel_rfl) (fun w hS => run_load1 (of_ := 0) hS.1 rfl (by kernel_rfl) Try.isAgg50 rfl) hS ?_
  clear ha; intro a ha
  refine hd_val (i := 5) (.agg #[.int .i64 f, .int .i64 t, .slice A0 n0 c0]) ha rfl (by kernel_rfl) (fun _ _ _ h => h) (by kernel_rfl) (fun w hS => run_loadN (of_ := 0) [.int .i64 f, .int .i64 t, .slice A0 n0 c0] hS.2.1 rfl (by kernel_rfl) Try.isAgg29 Try.sizeOf29 rfl (Nat.le_of_ble_eq_true rfl)) hS ?_
  clear ha; intro a ha
  refine hd_call (i := 6) ha rfl (by kernel_rfl) (by kernel_rfl) (by kernel_rfl) (copy_any W _ w f t A0 n0 c0 bs ((((hr).up _).up _).up _) hn s) ?_
  clear hS; rintro _ w ⟨A2, c3, rfl, s⟩
  replace s : St W (Own 5 1 A2 n0 c3 (u8s bs) :: .blk g1 [.int .i64 f, .int .i64 t, .slice A0 n0 c0] 29 :: .blk g [.slice A x.length c] 54 :: Own 29 3 A x.length c (rows x) :: L) w := s
  have hS : (fun w => BlkIs g [.slice A x.length c] w ∧ BlkIs g1 [.int .i64 f, .int .i64 t, .slice A0 n0 c0] w ∧ True) w := ⟨s.blkIs 2 rfl, s.blkIs 1 rfl, trivial⟩
  refine ⟨_, rfl, hS, ?_⟩; clear ha; intro a ha
  refine hd_ex (i := 7) ha rfl (by kernel_rfl) (by kernel_rfl) (ex_buildSlice elt50 _ zs50 [.int .i64 f, .int .i64 t, .slice A2 n0 c3] s rfl (by kernel_rfl) (by decide)) ?_
  clear hS; rintro _ w ⟨g4, rfl, s⟩
  replace s : St W (.blk g4 [.int .i64 f, .int .i64 t, .slice A2 n0 c3] 29 :: Own 5 1 A2 n0 c3 (u8s bs) :: .blk g1 [.int .i64 f, .int .i64 t, .slice A0 n0 c0] 29 :: .blk g [.slice A x.length c] 54 :: Own 29 3 A x.length c (rows x) :: L) w := s
  have hS : (fun w => BlkIs g [.slice A x.length c] w ∧ BlkIs g1 [.int .i64 f, .int .i64 t, .slice A0 n0 c0] w ∧ True) w := ⟨s.blkIs 3 rfl, s.blkIs 2 rfl, trivial⟩
  refine ⟨hS, ?_⟩; clear ha; intro a ha
  refine hd_ex (i := 8) ha rfl (by kernel_rfl) (by kernel_rfl) (ex_append (d' := 1) elt50 (by decide) 4 [.int .i64 f, .int .i64 t, .slice A2 n0 c3] s rfl (by kernel_rfl) (by kernel_rfl) rfl (reads_blk (s.blkIs 0 rfl) rfl) (by simp [Value.oneCell']) (by simp only [maxLen]; omega) (by omega)) ?_
  clear hS; rintro _ w ⟨A5, c6, rfl, hA_, s⟩
  replace s : St W (.blk g4 [.int .i64 f, .int .i64 t, .slice A2 n0 c3] 29 :: Own 5 1 A2 n0 c3 (u8s bs) :: .blk g1 [.int .i64 f, .int .i64 t, .slice A0 n0 c0] 29 :: .blk g [.slice A x.length c] 54 :: Own 29 3 A5 (x.length + 1) c6 ((rows x) ++ [.int .i64 f, .int .i64 t, .slice A2 n0 c3]) :: L) w := s
  have hS : (fun w => BlkIs g [.slice A x.length c] w ∧ BlkIs g1 [.int .i64 f, .int .i64 t, .slice A0 n0 c0] w ∧ True) w := ⟨s.blkIs 3 rfl, s.blkIs 2 rfl, trivial⟩
  refine ⟨hS, ?_⟩; clear ha; intro a ha
  refine Head.done (by kernel_rfl) ?_
  clear hS; simp only [List.drop_succ_cons, List.drop_zero]
  refine st_val (.pointer (some ⟨g, 0, none⟩)) ha (by kernel_rfl) (by kernel_rfl) ?_
  clear ha; intro a ha
  refine st_val (.pointer (some ⟨g, 0, none⟩)) ha (by kernel_rfl) (by kernel_rfl) ?_
  clear ha; intro a ha
  refine st_exd ha (by kernel_rfl) (ex_store (of_ := 0) 3 [.slice A5 (x.length + 1) c6] s rfl rfl (by kernel_rfl) (by kernel_rfl) (Try.sizeOf50 _) rfl (by simp [Value.oneCell']) (Nat.le_of_ble_eq_true rfl)) ?_
  clear ha; rintro w a s ha
  replace s : St W (.blk g4 [.int .i64 f, .int .i64 t, .slice A2 n0 c3] 29 :: Own 5 1 A2 n0 c3 (u8s bs) :: .blk g1 [.int .i64 f, .int .i64 t, .slice A0 n0 c0] 29 :: .blk g [.slice A5 (x.length + 1) c6] 54 :: Own 29 3 A5 (x.length + 1) c6 ((rows x) ++ [.int .i64 f, .int .i64 t, .slice A2 n0 c3]) :: L) w := s
  refine wpList_nil ?_
  refine then_normal ?_
  refine wp_seq ?_
  refine wp_region_lit ?_
  refine st_val (.int .i64 0) ha (by kernel_rfl) (by kernel_rfl) ?_
  clear ha; intro a ha
  refine wpList_nil ?_
  refine then_normal ?_
  refine wp_ret ?_
  refine ret_with (v := .int .i64 0) ha (results_1 rfl ha (res_tmp (by kernel_rfl) (by kernel_rfl))) ?_
  replace s := s.at_ (j := 1) rfl
  replace s : St W (Own 5 1 A2 n0 c3 (u8s bs) :: .blk g4 [.int .i64 f, .int .i64 t, .slice A2 n0 c3] 29 :: .blk g1 [.int .i64 f, .int .i64 t, .slice A0 n0 c0] 29 :: .blk g [.slice A5 (x.length + 1) c6] 54 :: Own 29 3 A5 (x.length + 1) c6 ((rows x) ++ [.int .i64 f, .int .i64 t, .slice A2 n0 c3]) :: L) w := s
  replace s := s.at_ (j := 4) rfl
  replace s : St W (Own 29 3 A5 (x.length + 1) c6 ((rows x) ++ [.int .i64 f, .int .i64 t, .slice A2 n0 c3]) :: Own 5 1 A2 n0 c3 (u8s bs) :: .blk g4 [.int .i64 f, .int .i64 t, .slice A2 n0 c3] 29 :: .blk g1 [.int .i64 f, .int .i64 t, .slice A0 n0 c0] 29 :: .blk g [.slice A5 (x.length + 1) c6] 54 :: L) w := s
  replace s := s.at_ (j := 4) rfl
  replace s : St W (.blk g [.slice A5 (x.length + 1) c6] 54 :: Own 29 3 A5 (x.length + 1) c6 ((rows x) ++ [.int .i64 f, .int .i64 t, .slice A2 n0 c3]) :: Own 5 1 A2 n0 c3 (u8s bs) :: .blk g4 [.int .i64 f, .int .i64 t, .slice A2 n0 c3] 29 :: .blk g1 [.int .i64 f, .int .i64 t, .slice A0 n0 c0] 29 :: L) w := s
  replace s : St W (.blk g [.slice A5 (x.length + 1) c6] 54 :: Own 29 3 A5 (x.length + 1) c6 ((rows x) ++ [.int .i64 f, .int .i64 t, .slice A2 n0 c3]) :: Own 5 1 A2 n0 c3 (u8s bs) :: L) w := St.mid (A := [.blk g [.slice A5 (x.length + 1) c6] 54, Own 29 3 A5 (x.length + 1) c6 ((rows x) ++ [.int .i64 f, .int .i64 t, .slice A2 n0 c3]), Own 5 1 A2 n0 c3 (u8s bs)]) (B := [.blk g4 [.int .i64 f, .int .i64 t, .slice A2 n0 c3] 29, .blk g1 [.int .i64 f, .int .i64 t, .slice A0 n0 c0] 29]) s
  rw [show ([.int .i64 f, .int .i64 t, .slice A2 n0 c3] : List Value) = ecells (⟨f, t, bs⟩, ⟨A2, c3⟩) by rw [hl0]; rfl, rows_snoc] at s
  exact ⟨rfl, _, _, _, _, s⟩

theorem rput_badf (W : World) (L : List Chunk) (w : World) (g : Nat) (A : Option Addr) (c : Nat) (x : List (Msg × Hd)) (f t : Int) (A0 : Option Addr) (n0 c0 : Nat) (hf : ¬ (1 ≤ f ∧ f ≤ 4)) (s : St W (.blk g [.slice A x.length c] 54 :: Own 29 3 A x.length c (rows x) :: L) w) :
    Calls Try.prog 17 #[.pointer (some ⟨g, 0, none⟩), .agg #[.int .i64 f, .int .i64 t, .slice A0 n0 c0]] w fun e w' => e = .returned (.int .i64 2) ∧ St W (.blk g [.slice A x.length c] 54 :: Own 29 3 A x.length c (rows x) :: L) w' := by
  refine enter_args (l := [.pointer (some ⟨g, 0, none⟩), .agg #[.int .i64 f, .int .i64 t, .slice A0 n0 c0]]) Try.func17 rfl rfl (Nat.le_of_ble_eq_true rfl) ?_
  intro a ha; replace ha : Has a 36 [(0, .pointer (some ⟨g, 0, none⟩)), (1, .agg #[.int .i64 f, .int .i64 t, .slice A0 n0 c0])] := ha
  refine wp_seq ?_
  refine wp_region_lit ?_
  refine st_ex ha (by kernel_rfl) (ex_box [.int .i64 f, .int .i64 t, .slice A0 n0 c0] s rfl (by kernel_rfl)) ?_
  clear ha; rintro _ w a ⟨g1, rfl, s⟩ ha
  replace s : St W (.blk g1 [.int .i64 f, .int .i64 t, .slice A0 n0 c0] 29 :: .blk g [.slice A x.length c] 54 :: Own 29 3 A x.length c (rows x) :: L) w := s
  refine st_val (.int .i64 0) ha (by kernel_rfl) (by kernel_rfl) ?_
  clear ha; intro a ha
  refine wpList_nil ?_
  refine then_normal ?_
  refine wp_seq ?_
  refine wp_seq ?_
  refine wp_region_lit ?_
  refine st_val (.pointer (some ⟨g1, 0, none⟩)) ha (by kernel_rfl) (by kernel_rfl) ?_
  clear ha; intro a ha
  refine st_val (.int .i64 f) ha (by kernel_rfl) (run_load1 (of_ := 0) (s.blkIs 0 rfl) rfl (by kernel_rfl) Try.isAgg3 rfl) ?_
  clear ha; intro a ha
  refine st_call ha (by kernel_rfl) (by kernel_rfl) (rnode_no W _ w f hf s) ?_
  rintro _ w ⟨rfl, s⟩
  replace s : St W (.blk g1 [.int .i64 f, .int .i64 t, .slice A0 n0 c0] 29 :: .blk g [.slice A x.length c] 54 :: Own 29 3 A x.length c (rows x) :: L) w := s
  refine ⟨_, rfl, ?_⟩; clear ha; intro a ha
  refine st_val (.bool true) ha (by kernel_rfl) (by kernel_rfl) ?_
  clear ha; intro a ha
  refine st_val (.bool true) ha (by kernel_rfl) (by kernel_rfl) ?_
  clear ha; intro a ha
  refine st_pass ha (by kernel_rfl) ?_
  clear ha; intro a ha
  refine st_pass ha (by kernel_rfl) ?_
  clear ha; intro a ha
  refine st_pass ha (by kernel_rfl) ?_
  clear ha; intro a ha
  refine st_pass ha (by kernel_rfl) ?_
  clear ha; intro a ha
  refine st_val (.bool true) ha (by kernel_rfl) (by kernel_rfl) ?_
  clear ha; intro a ha
  refine wpList_nil ?_
  refine then_normal ?_
  refine wp_true ha rfl (by kernel_rfl) ?_
  refine wp_seq ?_
  refine wp_region_lit ?_
  refine st_val (.int .i64 2) ha (by kernel_rfl) (by kernel_rfl) ?_
  clear ha; intro a ha
  refine wpList_nil ?_
  refine then_normal ?_
  refine wp_ret ?_
  refine then_ret ?_
  refine ret_with (v := .int .i64 2) ha (results_1 rfl ha (res_tmp (by kernel_rfl) (by kernel_rfl))) ?_
  replace s := s.at_ (j := 2) rfl
  replace s : St W (Own 29 3 A x.length c (rows x) :: .blk g1 [.int .i64 f, .int .i64 t, .slice A0 n0 c0] 29 :: .blk g [.slice A x.length c] 54 :: L) w := s
  replace s := s.at_ (j := 2) rfl
  replace s : St W (.blk g [.slice A x.length c] 54 :: Own 29 3 A x.length c (rows x) :: .blk g1 [.int .i64 f, .int .i64 t, .slice A0 n0 c0] 29 :: L) w := s
  replace s : St W (.blk g [.slice A x.length c] 54 :: Own 29 3 A x.length c (rows x) :: L) w := St.mid (A := [.blk g [.slice A x.length c] 54, Own 29 3 A x.length c (rows x)]) (B := [.blk g1 [.int .i64 f, .int .i64 t, .slice A0 n0 c0] 29]) s
  exact ⟨rfl, s⟩

theorem rput_badt (W : World) (L : List Chunk) (w : World) (g : Nat) (A : Option Addr) (c : Nat) (x : List (Msg × Hd)) (f t : Int) (A0 : Option Addr) (n0 c0 : Nat) (hf : 1 ≤ f ∧ f ≤ 4) (ht : ¬ (1 ≤ t ∧ t ≤ 4)) (s : St W (.blk g [.slice A x.length c] 54 :: Own 29 3 A x.length c (rows x) :: L) w) :
    Calls Try.prog 17 #[.pointer (some ⟨g, 0, none⟩), .agg #[.int .i64 f, .int .i64 t, .slice A0 n0 c0]] w fun e w' => e = .returned (.int .i64 2) ∧ St W (.blk g [.slice A x.length c] 54 :: Own 29 3 A x.length c (rows x) :: L) w' := by
  refine enter_args (l := [.pointer (some ⟨g, 0, none⟩), .agg #[.int .i64 f, .int .i64 t, .slice A0 n0 c0]]) Try.func17 rfl rfl (Nat.le_of_ble_eq_true rfl) ?_
  intro a ha; replace ha : Has a 36 [(0, .pointer (some ⟨g, 0, none⟩)), (1, .agg #[.int .i64 f, .int .i64 t, .slice A0 n0 c0])] := ha
  refine wp_seq ?_
  refine wp_region_lit ?_
  refine st_ex ha (by kernel_rfl) (ex_box [.int .i64 f, .int .i64 t, .slice A0 n0 c0] s rfl (by kernel_rfl)) ?_
  clear ha; rintro _ w a ⟨g1, rfl, s⟩ ha
  replace s : St W (.blk g1 [.int .i64 f, .int .i64 t, .slice A0 n0 c0] 29 :: .blk g [.slice A x.length c] 54 :: Own 29 3 A x.length c (rows x) :: L) w := s
  refine st_val (.int .i64 0) ha (by kernel_rfl) (by kernel_rfl) ?_
  clear ha; intro a ha
  refine wpList_nil ?_
  refine then_normal ?_
  refine wp_seq ?_
  refine wp_seq ?_
  refine wp_region_lit ?_
  refine st_val (.pointer (some ⟨g1, 0, none⟩)) ha (by kernel_rfl) (by kernel_rfl) ?_
  clear ha; intro a ha
  refine st_val (.int .i64 f) ha (by kernel_rfl) (run_load1 (of_ := 0) (s.blkIs 0 rfl) rfl (by kernel_rfl) Try.isAgg3 rfl) ?_
  clear ha; intro a ha
  refine st_call ha (by kernel_rfl) (by kernel_rfl) (rnode_yes W _ w f hf s) ?_
  rintro _ w ⟨rfl, s⟩
  replace s : St W (.blk g1 [.int .i64 f, .int .i64 t, .slice A0 n0 c0] 29 :: .blk g [.slice A x.length c] 54 :: Own 29 3 A x.length c (rows x) :: L) w := s
  refine ⟨_, rfl, ?_⟩; clear ha; intro a ha
  refine st_val (.bool false) ha (by kernel_rfl) (by kernel_rfl) ?_
  clear ha; intro a ha
  refine st_val (.bool false) ha (by kernel_rfl) (by kernel_rfl) ?_
  clear ha; intro a ha
  refine st_val (.pointer (some ⟨g1, 1, none⟩)) ha (by kernel_rfl) (by kernel_rfl) ?_
  clear ha; intro a ha
  refine st_val (.int .i64 t) ha (by kernel_rfl) (run_load1 (of_ := 1) (s.blkIs 0 rfl) rfl (by kernel_rfl) Try.isAgg3 rfl) ?_
  clear ha; intro a ha
  refine st_call ha (by kernel_rfl) (by kernel_rfl) (rnode_no W _ w t ht s) ?_
  rintro _ w ⟨rfl, s⟩
  replace s : St W (.blk g1 [.int .i64 f, .int .i64 t, .slice A0 n0 c0] 29 :: .blk g [.slice A x.length c] 54 :: Own 29 3 A x.length c (rows x) :: L) w := s
  refine ⟨_, rfl, ?_⟩; clear ha; intro a ha
  refine st_val (.bool true) ha (by kernel_rfl) (by kernel_rfl) ?_
  clear ha; intro a ha
  refine st_val (.bool true) ha (by kernel_rfl) (by kernel_rfl) ?_
  clear ha; intro a ha
  refine wpList_nil ?_
  refine then_normal ?_
  refine wp_true ha rfl (by kernel_rfl) ?_
  refine wp_seq ?_
  refine wp_region_lit ?_
  refine st_val (.int .i64 2) ha (by kernel_rfl) (by kernel_rfl) ?_
  clear ha; intro a ha
  refine wpList_nil ?_
  refine then_normal ?_
  refine wp_ret ?_
  refine then_ret ?_
  refine ret_with (v := .int .i64 2) ha (results_1 rfl ha (res_tmp (by kernel_rfl) (by kernel_rfl))) ?_
  replace s := s.at_ (j := 2) rfl
  replace s : St W (Own 29 3 A x.length c (rows x) :: .blk g1 [.int .i64 f, .int .i64 t, .slice A0 n0 c0] 29 :: .blk g [.slice A x.length c] 54 :: L) w := s
  replace s := s.at_ (j := 2) rfl
  replace s : St W (.blk g [.slice A x.length c] 54 :: Own 29 3 A x.length c (rows x) :: .blk g1 [.int .i64 f, .int .i64 t, .slice A0 n0 c0] 29 :: L) w := s
  replace s : St W (.blk g [.slice A x.length c] 54 :: Own 29 3 A x.length c (rows x) :: L) w := St.mid (A := [.blk g [.slice A x.length c] 54, Own 29 3 A x.length c (rows x)]) (B := [.blk g1 [.int .i64 f, .int .i64 t, .slice A0 n0 c0] 29]) s
  exact ⟨rfl, s⟩

theorem rput_long (W : World) (L : List Chunk) (w : World) (g : Nat) (A : Option Addr) (c : Nat) (x : List (Msg × Hd)) (f t : Int) (A0 : Option Addr) (n0 c0 : Nat) (hf : 1 ≤ f ∧ f ≤ 4) (ht : 1 ≤ t ∧ t ≤ 4) (hk : 65536 < n0) (s : St W (.blk g [.slice A x.length c] 54 :: Own 29 3 A x.length c (rows x) :: L) w) :
    Calls Try.prog 17 #[.pointer (some ⟨g, 0, none⟩), .agg #[.int .i64 f, .int .i64 t, .slice A0 n0 c0]] w fun e w' => e = .returned (.int .i64 5) ∧ St W (.blk g [.slice A x.length c] 54 :: Own 29 3 A x.length c (rows x) :: L) w' := by
  refine enter_args (l := [.pointer (some ⟨g, 0, none⟩), .agg #[.int .i64 f, .int .i64 t, .slice A0 n0 c0]]) Try.func17 rfl rfl (Nat.le_of_ble_eq_true rfl) ?_
  intro a ha; replace ha : Has a 36 [(0, .pointer (some ⟨g, 0, none⟩)), (1, .agg #[.int .i64 f, .int .i64 t, .slice A0 n0 c0])] := ha
  refine wp_seq ?_
  refine wp_region_lit ?_
  refine st_ex ha (by kernel_rfl) (ex_box [.int .i64 f, .int .i64 t, .slice A0 n0 c0] s rfl (by kernel_rfl)) ?_
  clear ha; rintro _ w a ⟨g1, rfl, s⟩ ha
  replace s : St W (.blk g1 [.int .i64 f, .int .i64 t, .slice A0 n0 c0] 29 :: .blk g [.slice A x.length c] 54 :: Own 29 3 A x.length c (rows x) :: L) w := s
  refine st_val (.int .i64 0) ha (by kernel_rfl) (by kernel_rfl) ?_
  clear ha; intro a ha
  refine wpList_nil ?_
  refine then_normal ?_
  refine wp_seq ?_
  refine wp_seq ?_
  refine wp_region_lit ?_
  refine st_val (.pointer (some ⟨g1, 0, none⟩)) ha (by kernel_rfl) (by kernel_rfl) ?_
  clear ha; intro a ha
  refine st_val (.int .i64 f) ha (by kernel_rfl) (run_load1 (of_ := 0) (s.blkIs 0 rfl) rfl (by kernel_rfl) Try.isAgg3 rfl) ?_
  clear ha; intro a ha
  refine st_call ha (by kernel_rfl) (by kernel_rfl) (rnode_yes W _ w f hf s) ?_
  rintro _ w ⟨rfl, s⟩
  replace s : St W (.blk g1 [.int .i64 f, .int .i64 t, .slice A0 n0 c0] 29 :: .blk g [.slice A x.length c] 54 :: Own 29 3 A x.length c (rows x) :: L) w := s
  refine ⟨_, rfl, ?_⟩; clear ha; intro a ha
  refine st_val (.bool false) ha (by kernel_rfl) (by kernel_rfl) ?_
  clear ha; intro a ha
  refine st_val (.bool false) ha (by kernel_rfl) (by kernel_rfl) ?_
  clear ha; intro a ha
  refine st_val (.pointer (some ⟨g1, 1, none⟩)) ha (by kernel_rfl) (by kernel_rfl) ?_
  clear ha; intro a ha
  refine st_val (.int .i64 t) ha (by kernel_rfl) (run_load1 (of_ := 1) (s.blkIs 0 rfl) rfl (by kernel_rfl) Try.isAgg3 rfl) ?_
  clear ha; intro a ha
  refine st_call ha (by kernel_rfl) (by kernel_rfl) (rnode_yes W _ w t ht s) ?_
  rintro _ w ⟨rfl, s⟩
  replace s : St W (.blk g1 [.int .i64 f, .int .i64 t, .slice A0 n0 c0] 29 :: .blk g [.slice A x.length c] 54 :: Own 29 3 A x.length c (rows x) :: L) w := s
  refine ⟨_, rfl, ?_⟩; clear ha; intro a ha
  refine st_val (.bool false) ha (by kernel_rfl) (by kernel_rfl) ?_
  clear ha; intro a ha
  refine st_val (.bool false) ha (by kernel_rfl) (by kernel_rfl) ?_
  clear ha; intro a ha
  refine wpList_nil ?_
  refine then_normal ?_
  refine wp_false ha rfl (by kernel_rfl) ?_
  refine wp_skip ?_
  refine then_normal ?_
  refine wp_seq ?_
  refine wp_seq ?_
  refine wp_region_lit ?_
  refine st_val (.pointer (some ⟨g1, 2, none⟩)) ha (by kernel_rfl) (by kernel_rfl) ?_
  clear ha; intro a ha
  refine st_val (.slice A0 n0 c0) ha (by kernel_rfl) (run_load1 (of_ := 2) (s.blkIs 0 rfl) rfl (by kernel_rfl) Try.isAgg27 rfl) ?_
  clear ha; intro a ha
  refine st_val (.int .i64 ((n0 : Nat) : Int)) ha (by kernel_rfl) (by kernel_rfl) ?_
  clear ha; intro a ha
  refine st_val (.bool true) ha (by kernel_rfl) (run_known (show (decide (((n0 : Nat) : Int) > (65536 : Int))) = true from decide_eq_true (by omega)) (by kernel_rfl)) ?_
  clear ha; intro a ha
  refine wpList_nil ?_
  refine then_normal ?_
  refine wp_true ha rfl (by kernel_rfl) ?_
  refine wp_seq ?_
  refine wp_region_lit ?_
  refine st_val (.int .i64 5) ha (by kernel_rfl) (by kernel_rfl) ?_
  clear ha; intro a ha
  refine wpList_nil ?_
  refine then_normal ?_
  refine wp_ret ?_
  refine then_ret ?_
  refine ret_with (v := .int .i64 5) ha (results_1 rfl ha (res_tmp (by kernel_rfl) (by kernel_rfl))) ?_
  replace s := s.at_ (j := 2) rfl
  replace s : St W (Own 29 3 A x.length c (rows x) :: .blk g1 [.int .i64 f, .int .i64 t, .slice A0 n0 c0] 29 :: .blk g [.slice A x.length c] 54 :: L) w := s
  replace s := s.at_ (j := 2) rfl
  replace s : St W (.blk g [.slice A x.length c] 54 :: Own 29 3 A x.length c (rows x) :: .blk g1 [.int .i64 f, .int .i64 t, .slice A0 n0 c0] 29 :: L) w := s
  replace s : St W (.blk g [.slice A x.length c] 54 :: Own 29 3 A x.length c (rows x) :: L) w := St.mid (A := [.blk g [.slice A x.length c] 54, Own 29 3 A x.length c (rows x)]) (B := [.blk g1 [.int .i64 f, .int .i64 t, .slice A0 n0 c0] 29]) s
  exact ⟨rfl, s⟩

theorem rput_full (W : World) (L : List Chunk) (w : World) (g : Nat) (A : Option Addr) (c : Nat) (x : List (Msg × Hd)) (f t : Int) (A0 : Option Addr) (n0 c0 : Nat) (hf : 1 ≤ f ∧ f ≤ 4) (ht : 1 ≤ t ∧ t ≤ 4) (hk : n0 ≤ 65536) (hx : 2048 ≤ x.length) (s : St W (.blk g [.slice A x.length c] 54 :: Own 29 3 A x.length c (rows x) :: L) w) :
    Calls Try.prog 17 #[.pointer (some ⟨g, 0, none⟩), .agg #[.int .i64 f, .int .i64 t, .slice A0 n0 c0]] w fun e w' => e = .returned (.int .i64 7) ∧ St W (.blk g [.slice A x.length c] 54 :: Own 29 3 A x.length c (rows x) :: L) w' := by
  refine enter_args (l := [.pointer (some ⟨g, 0, none⟩), .agg #[.int .i64 f, .int .i64 t, .slice A0 n0 c0]]) Try.func17 rfl rfl (Nat.le_of_ble_eq_true rfl) ?_
  intro a ha; replace ha : Has a 36 [(0, .pointer (some ⟨g, 0, none⟩)), (1, .agg #[.int .i64 f, .int .i64 t, .slice A0 n0 c0])] := ha
  refine wp_seq ?_
  refine wp_region_lit ?_
  refine st_ex ha (by kernel_rfl) (ex_box [.int .i64 f, .int .i64 t, .slice A0 n0 c0] s rfl (by kernel_rfl)) ?_
  clear ha; rintro _ w a ⟨g1, rfl, s⟩ ha
  replace s : St W (.blk g1 [.int .i64 f, .int .i64 t, .slice A0 n0 c0] 29 :: .blk g [.slice A x.length c] 54 :: Own 29 3 A x.length c (rows x) :: L) w := s
  refine st_val (.int .i64 0) ha (by kernel_rfl) (by kernel_rfl) ?_
  clear ha; intro a ha
  refine wpList_nil ?_
  refine then_normal ?_
  refine wp_seq ?_
  refine wp_seq ?_
  refine wp_region_lit ?_
  refine st_val (.pointer (some ⟨g1, 0, none⟩)) ha (by kernel_rfl) (by kernel_rfl) ?_
  clear ha; intro a ha
  refine st_val (.int .i64 f) ha (by kernel_rfl) (run_load1 (of_ := 0) (s.blkIs 0 rfl) rfl (by kernel_rfl) Try.isAgg3 rfl) ?_
  clear ha; intro a ha
  refine st_call ha (by kernel_rfl) (by kernel_rfl) (rnode_yes W _ w f hf s) ?_
  rintro _ w ⟨rfl, s⟩
  replace s : St W (.blk g1 [.int .i64 f, .int .i64 t, .slice A0 n0 c0] 29 :: .blk g [.slice A x.length c] 54 :: Own 29 3 A x.length c (rows x) :: L) w := s
  refine ⟨_, rfl, ?_⟩; clear ha; intro a ha
  refine st_val (.bool false) ha (by kernel_rfl) (by kernel_rfl) ?_
  clear ha; intro a ha
  refine st_val (.bool false) ha (by kernel_rfl) (by kernel_rfl) ?_
  clear ha; intro a ha
  refine st_val (.pointer (some ⟨g1, 1, none⟩)) ha (by kernel_rfl) (by kernel_rfl) ?_
  clear ha; intro a ha
  refine st_val (.int .i64 t) ha (by kernel_rfl) (run_load1 (of_ := 1) (s.blkIs 0 rfl) rfl (by kernel_rfl) Try.isAgg3 rfl) ?_
  clear ha; intro a ha
  refine st_call ha (by kernel_rfl) (by kernel_rfl) (rnode_yes W _ w t ht s) ?_
  rintro _ w ⟨rfl, s⟩
  replace s : St W (.blk g1 [.int .i64 f, .int .i64 t, .slice A0 n0 c0] 29 :: .blk g [.slice A x.length c] 54 :: Own 29 3 A x.length c (rows x) :: L) w := s
  refine ⟨_, rfl, ?_⟩; clear ha; intro a ha
  refine st_val (.bool false) ha (by kernel_rfl) (by kernel_rfl) ?_
  clear ha; intro a ha
  refine st_val (.bool false) ha (by kernel_rfl) (by kernel_rfl) ?_
  clear ha; intro a ha
  refine wpList_nil ?_
  refine then_normal ?_
  refine wp_false ha rfl (by kernel_rfl) ?_
  refine wp_skip ?_
  refine then_normal ?_
  refine wp_seq ?_
  refine wp_seq ?_
  refine wp_region_lit ?_
  refine st_val (.pointer (some ⟨g1, 2, none⟩)) ha (by kernel_rfl) (by kernel_rfl) ?_
  clear ha; intro a ha
  refine st_val (.slice A0 n0 c0) ha (by kernel_rfl) (run_load1 (of_ := 2) (s.blkIs 0 rfl) rfl (by kernel_rfl) Try.isAgg27 rfl) ?_
  clear ha; intro a ha
  refine st_val (.int .i64 ((n0 : Nat) : Int)) ha (by kernel_rfl) (by kernel_rfl) ?_
  clear ha; intro a ha
  refine st_val (.bool false) ha (by kernel_rfl) (run_known (show (decide (((n0 : Nat) : Int) > (65536 : Int))) = false from decide_eq_false (by omega)) (by kernel_rfl)) ?_
  clear ha; intro a ha
  refine wpList_nil ?_
  refine then_normal ?_
  refine wp_false ha rfl (by kernel_rfl) ?_
  refine wp_skip ?_
  refine then_normal ?_
  refine wp_seq ?_
  refine wp_seq ?_
  refine wp_region_lit ?_
  refine st_val (.pointer (some ⟨g, 0, none⟩)) ha (by kernel_rfl) (by kernel_rfl) ?_
  clear ha; intro a ha
  refine st_val (.pointer (some ⟨g, 0, none⟩)) ha (by kernel_rfl) (by kernel_rfl) ?_
  clear ha; intro a ha
  refine st_val (.pointer (some ⟨g, 0, none⟩)) ha (by kernel_rfl) (by kernel_rfl) ?_
  clear ha; intro a ha
  refine st_val (.slice A x.length c) ha (by kernel_rfl) (run_load1 (of_ := 0) (s.blkIs 1 rfl) rfl (by kernel_rfl) Try.isAgg50 rfl) ?_
  clear ha; intro a ha
  refine st_val (.int .i64 ((x.length : Nat) : Int)) ha (by kernel_rfl) (by kernel_rfl) ?_
  clear ha; intro a ha
  refine st_val (.bool true) ha (by kernel_rfl) (run_known (show (decide (((x.length : Nat) : Int) ≥ (2048 : Int))) = true from decide_eq_true (by omega)) (by kernel_rfl)) ?_
  clear ha; intro a ha
  refine wpList_nil ?_
  refine then_normal ?_
  refine wp_true ha rfl (by kernel_rfl) ?_
  refine wp_seq ?_
  refine wp_region_lit ?_
  refine st_val (.int .i64 7) ha (by kernel_rfl) (by kernel_rfl) ?_
  clear ha; intro a ha
  refine wpList_nil ?_
  refine then_normal ?_
  refine wp_ret ?_
  refine then_ret ?_
  refine ret_with (v := .int .i64 7) ha (results_1 rfl ha (res_tmp (by kernel_rfl) (by kernel_rfl))) ?_
  replace s := s.at_ (j := 2) rfl
  replace s : St W (Own 29 3 A x.length c (rows x) :: .blk g1 [.int .i64 f, .int .i64 t, .slice A0 n0 c0] 29 :: .blk g [.slice A x.length c] 54 :: L) w := s
  replace s := s.at_ (j := 2) rfl
  replace s : St W (.blk g [.slice A x.length c] 54 :: Own 29 3 A x.length c (rows x) :: .blk g1 [.int .i64 f, .int .i64 t, .slice A0 n0 c0] 29 :: L) w := s
  replace s : St W (.blk g [.slice A x.length c] 54 :: Own 29 3 A x.length c (rows x) :: L) w := St.mid (A := [.blk g [.slice A x.length c] 54, Own 29 3 A x.length c (rows x)]) (B := [.blk g1 [.int .i64 f, .int .i64 t, .slice A0 n0 c0] 29]) s
  exact ⟨rfl, s⟩

theorem rlook_in (W : World) (L : List Chunk) (w : World) (g : Nat) (A : Option Addr) (c : Nat) (x : List (Msg × Hd)) (m : Nat) (hm : m < x.length) (hn : x[m].1.b.length ≤ 140737488351232) (s : St W (.blk g [.slice A x.length c] 54 :: Own 29 3 A x.length c (rows x) :: Byts x :: L) w) :
    Calls Try.prog 12 #[.pointer (some ⟨g, 0, none⟩), .int .i64 ((m : Nat) : Int)] w fun e w' => ∃ A' c', e = .returned (.tuple #[.agg #[.int .i64 x[m].1.f, .int .i64 x[m].1.t, .slice A' x[m].1.b.length c'], .bool true]) ∧ St W (.blk g [.slice A x.length c] 54 :: Own 29 3 A x.length c (rows x) :: Byts x :: Own 5 1 A' x[m].1.b.length c' (u8s x[m].1.b) :: L) w' := by
  have hx0 : 0 < x.length := by omega
  obtain ⟨ad, rfl⟩ := Own.some_ s.tail.1 hx0
  refine enter_args (l := [.pointer (some ⟨g, 0, none⟩), .int .i64 ((m : Nat) : Int)]) Try.func12 rfl rfl (Nat.le_of_ble_eq_true rfl) ?_
  intro a ha; replace ha : Has a 26 [(0, .pointer (some ⟨g, 0, none⟩)), (1, .int .i64 ((m : Nat) : Int))] := ha
  refine wp_seq ?_
  refine wp_region_lit ?_
  refine st_ex ha (by kernel_rfl) (ex_alloc [.int .i64 0, .int .i64 0, .slice none 0 0] s rfl (Try.zeroValue29 _) (by kernel_rfl)) ?_
  clear ha; rintro _ w a ⟨g1, rfl, s⟩ ha
  replace s : St W (.blk g1 [.int .i64 0, .int .i64 0, .slice none 0 0] 29 :: .blk g [.slice (some ad) x.length c] 54 :: Own 29 3 (some ad) x.length c (rows x) :: Byts x :: L) w := s
  refine st_val (.bool false) ha (by kernel_rfl) (by kernel_rfl) ?_
  clear ha; intro a ha
  refine wpList_nil ?_
  refine then_normal ?_
  refine wp_seq ?_
  refine wp_seq ?_
  refine wp_region_lit ?_
  refine st_val (.int .i64 ((m : Nat) : Int)) ha (by kernel_rfl) (by kernel_rfl) ?_
  clear ha; intro a ha
  refine st_val (.bool false) ha (by kernel_rfl) (run_known (show (decide (((m : Nat) : Int) < (0 : Int))) = false from decide_eq_false (by omega)) (by kernel_rfl)) ?_
  clear ha; intro a ha
  refine st_val (.bool false) ha (by kernel_rfl) (by kernel_rfl) ?_
  clear ha; intro a ha
  refine st_val (.int .i64 ((m : Nat) : Int)) ha (by kernel_rfl) (by kernel_rfl) ?_
  clear ha; intro a ha
  refine st_val (.pointer (some ⟨g, 0, none⟩)) ha (by kernel_rfl) (by kernel_rfl) ?_
  clear ha; intro a ha
  refine st_val (.pointer (some ⟨g, 0, none⟩)) ha (by kernel_rfl) (by kernel_rfl) ?_
  clear ha; intro a ha
  refine st_val (.pointer (some ⟨g, 0, none⟩)) ha (by kernel_rfl) (by kernel_rfl) ?_
  clear ha; intro a ha
  refine st_val (.slice (some ad) x.length c) ha (by kernel_rfl) (run_load1 (of_ := 0) (s.blkIs 1 rfl) rfl (by kernel_rfl) Try.isAgg50 rfl) ?_
  clear ha; intro a ha
  refine st_val (.int .i64 ((x.length : Nat) : Int)) ha (by kernel_rfl) (by kernel_rfl) ?_
  clear ha; intro a ha
  refine st_val (.bool false) ha (by kernel_rfl) (run_known (show (decide (((m : Nat) : Int) ≥ ((x.length : Nat) : Int))) = false from decide_eq_false (by omega)) (by kernel_rfl)) ?_
  clear ha; intro a ha
  refine st_val (.bool false) ha (by kernel_rfl) (by kernel_rfl) ?_
  clear ha; intro a ha
  refine wpList_nil ?_
  refine then_normal ?_
  refine wp_false ha rfl (by kernel_rfl) ?_
  refine wp_skip ?_
  refine then_normal ?_
  refine wp_seq ?_
  refine wp_region_lit ?_
  refine st_val (.pointer (some ⟨g, 0, none⟩)) ha (by kernel_rfl) (by kernel_rfl) ?_
  clear ha; intro a ha
  refine st_val (.pointer (some ⟨g, 0, none⟩)) ha (by kernel_rfl) (by kernel_rfl) ?_
  clear ha; intro a ha
  refine st_val (.pointer (some ⟨g, 0, none⟩)) ha (by kernel_rfl) (by kernel_rfl) ?_
  clear ha; intro a ha
  refine st_val (.slice (some ad) x.length c) ha (by kernel_rfl) (run_load1 (of_ := 0) (s.blkIs 1 rfl) rfl (by kernel_rfl) Try.isAgg50 rfl) ?_
  clear ha; intro a ha
  refine st_val (.int .i64 ((m : Nat) : Int)) ha (by kernel_rfl) (by kernel_rfl) ?_
  clear ha; intro a ha
  refine st_val (.pointer (some (ad.add (m * 3)))) ha (by kernel_rfl) (run_indexAddr' (kd := .i64) (n := x.length) (c := c) m rfl Try.underlying50 Try.sizeOf29 (by kernel_rfl) (by kernel_rfl) rfl (by first | assumption | omega) _) ?_
  clear ha; intro a ha
  refine st_val (.agg #[.int .i64 (x[m].1.f), .int .i64 (x[m].1.t), .slice (x[m].2.A) (x[m].1.b.length) (x[m].2.c)]) ha (by kernel_rfl) (run_loadRow (m := m) [.int .i64 (x[m].1.f), .int .i64 (x[m].1.t), .slice (x[m].2.A) (x[m].1.b.length) (x[m].2.c)] (Own.reads (s.at_ (j := 2) rfl).1) rfl (by kernel_rfl) Try.isAgg29 Try.sizeOf29 (rows_at x m hm) rfl) ?_
  clear ha; intro a ha
  refine st_call ha (by kernel_rfl) (by kernel_rfl) (copy_any W _ w (x[m].1.f) (x[m].1.t) (x[m].2.A) (x[m].1.b.length) (x[m].2.c) x[m].1.b ((((byts_knows x m hm _).up _).up _).up _) hn s) ?_
  rintro _ w ⟨A2, c3, rfl, s⟩
  replace s : St W (Own 5 1 A2 (x[m].1.b.length) c3 (u8s x[m].1.b) :: .blk g1 [.int .i64 0, .int .i64 0, .slice none 0 0] 29 :: .blk g [.slice (some ad) x.length c] 54 :: Own 29 3 (some ad) x.length c (rows x) :: Byts x :: L) w := s
  refine ⟨_, rfl, ?_⟩; clear ha; intro a ha
  refine st_exd ha (by kernel_rfl) (ex_store (of_ := 0) 1 [.int .i64 (x[m].1.f), .int .i64 (x[m].1.t), .slice A2 (x[m].1.b.length) c3] s rfl rfl (by kernel_rfl) (by kernel_rfl) (Try.sizeOf29 _) rfl (by simp [Value.oneCell']) (Nat.le_of_ble_eq_true rfl)) ?_
  clear ha; rintro w a s ha
  replace s : St W (Own 5 1 A2 (x[m].1.b.length) c3 (u8s x[m].1.b) :: .blk g1 [.int .i64 (x[m].1.f), .int .i64 (x[m].1.t), .slice A2 (x[m].1.b.length) c3] 29 :: .blk g [.slice (some ad) x.length c] 54 :: Own 29 3 (some ad) x.length c (rows x) :: Byts x :: L) w := s
  refine st_val (.bool true) ha (by kernel_rfl) (by kernel_rfl) ?_
  clear ha; intro a ha
  refine wpList_nil ?_
  refine then_normal ?_
  refine wp_ret ?_
  refine ret_with (v := .tuple #[.agg #[.int .i64 (x[m].1.f), .int .i64 (x[m].1.t), .slice A2 (x[m].1.b.length) c3], .bool true]) ha (results_2 rfl ha (res_cellN (s.blkIs 1 rfl) (by kernel_rfl) (by kernel_rfl) Try.isAgg29 Try.sizeOf29 rfl) (res_tmp (by kernel_rfl) (by kernel_rfl))) ?_
  replace s := s.at_ (j := 4) rfl
  replace s : St W (Byts x :: Own 5 1 A2 (x[m].1.b.length) c3 (u8s x[m].1.b) :: .blk g1 [.int .i64 (x[m].1.f), .int .i64 (x[m].1.t), .slice A2 (x[m].1.b.length) c3] 29 :: .blk g [.slice (some ad) x.length c] 54 :: Own 29 3 (some ad) x.length c (rows x) :: L) w := s
  replace s := s.at_ (j := 4) rfl
  replace s : St W (Own 29 3 (some ad) x.length c (rows x) :: Byts x :: Own 5 1 A2 (x[m].1.b.length) c3 (u8s x[m].1.b) :: .blk g1 [.int .i64 (x[m].1.f), .int .i64 (x[m].1.t), .slice A2 (x[m].1.b.length) c3] 29 :: .blk g [.slice (some ad) x.length c] 54 :: L) w := s
  replace s := s.at_ (j := 4) rfl
  replace s : St W (.blk g [.slice (some ad) x.length c] 54 :: Own 29 3 (some ad) x.length c (rows x) :: Byts x :: Own 5 1 A2 (x[m].1.b.length) c3 (u8s x[m].1.b) :: .blk g1 [.int .i64 (x[m].1.f), .int .i64 (x[m].1.t), .slice A2 (x[m].1.b.length) c3] 29 :: L) w := s
  replace s : St W (.blk g [.slice (some ad) x.length c] 54 :: Own 29 3 (some ad) x.length c (rows x) :: Byts x :: Own 5 1 A2 (x[m].1.b.length) c3 (u8s x[m].1.b) :: L) w := St.mid (A := [.blk g [.slice (some ad) x.length c] 54, Own 29 3 (some ad) x.length c (rows x), Byts x, Own 5 1 A2 (x[m].1.b.length) c3 (u8s x[m].1.b)]) (B := [.blk g1 [.int .i64 (x[m].1.f), .int .i64 (x[m].1.t), .slice A2 (x[m].1.b.length) c3] 29]) s
  exact ⟨_, _, rfl, s⟩

theorem rlook_out (W : World) (L : List Chunk) (w : World) (g : Nat) (A : Option Addr) (c : Nat) (x : List (Msg × Hd)) (i : Int) (hm : ¬ (0 ≤ i ∧ i < ((x.length : Nat) : Int))) (s : St W (.blk g [.slice A x.length c] 54 :: Own 29 3 A x.length c (rows x) :: Byts x :: L) w) :
    Calls Try.prog 12 #[.pointer (some ⟨g, 0, none⟩), .int .i64 i] w fun e w' => e = .returned (.tuple #[.agg #[.int .i64 0, .int .i64 0, .slice none 0 0], .bool false]) ∧ St W (.blk g [.slice A x.length c] 54 :: Own 29 3 A x.length c (rows x) :: Byts x :: L) w' := by
  refine enter_args (l := [.pointer (some ⟨g, 0, none⟩), .int .i64 i]) Try.func12 rfl rfl (Nat.le_of_ble_eq_true rfl) ?_
  intro a ha; replace ha : Has a 26 [(0, .pointer (some ⟨g, 0, none⟩)), (1, .int .i64 i)] := ha
  refine wp_seq ?_
  refine wp_region_lit ?_
  refine st_ex ha (by kernel_rfl) (ex_alloc [.int .i64 0, .int .i64 0, .slice none 0 0] s rfl (Try.zeroValue29 _) (by kernel_rfl)) ?_
  clear ha; rintro _ w a ⟨g1, rfl, s⟩ ha
  replace s : St W (.blk g1 [.int .i64 0, .int .i64 0, .slice none 0 0] 29 :: .blk g [.slice A x.length c] 54 :: Own 29 3 A x.length c (rows x) :: Byts x :: L) w := s
  refine st_val (.bool false) ha (by kernel_rfl) (by kernel_rfl) ?_
  clear ha; intro a ha
  refine wpList_nil ?_
  refine then_normal ?_
  refine wp_seq ?_
  refine wp_seq ?_
  refine wp_region_lit ?_
  refine st_val (.int .i64 i) ha (by kernel_rfl) (by kernel_rfl) ?_
  clear ha; intro a ha
  refine st_val (.bool (decide (i < (0 : Int)))) ha (by kernel_rfl) (by kernel_rfl) ?_
  clear ha; intro a ha
  refine st_val (.bool (decide (i < (0 : Int)))) ha (by kernel_rfl) (by kernel_rfl) ?_
  clear ha; intro a ha
  rcases Bool.eq_false_or_eq_true (decide (i < (0 : Int))) with hb | hb
  · rw [hb] at ha; replace hb : (i < (0 : Int)) := of_decide_eq_true hb
    refine st_pass ha (by kernel_rfl) ?_
    clear ha; intro a ha
    refine st_pass ha (by kernel_rfl) ?_
    clear ha; intro a ha
    refine st_pass ha (by kernel_rfl) ?_
    clear ha; intro a ha
    refine st_pass ha (by kernel_rfl) ?_
    clear ha; intro a ha
    refine st_pass ha (by kernel_rfl) ?_
    clear ha; intro a ha
    refine st_pass ha (by kernel_rfl) ?_
    clear ha; intro a ha
    refine st_pass ha (by kernel_rfl) ?_
    clear ha; intro a ha
    refine st_val (.bool true) ha (by kernel_rfl) (by kernel_rfl) ?_
    clear ha; intro a ha
    refine wpList_nil ?_
    refine then_normal ?_
    refine wp_true ha rfl (by kernel_rfl) ?_
    refine wp_seq ?_
    refine wp_region_lit ?_
    refine st_val (.agg #[.int .i64 0, .int .i64 0, .slice none 0 0]) ha (by kernel_rfl) (by kernel_rfl) ?_
    clear ha; intro a ha
    refine st_exd ha (by kernel_rfl) (ex_store (of_ := 0) 0 [.int .i64 0, .int .i64 0, .slice none 0 0] s rfl rfl (by kernel_rfl) (by kernel_rfl) (Try.sizeOf29 _) rfl (by simp [Value.oneCell']) (Nat.le_of_ble_eq_true rfl)) ?_
    clear ha; rintro w a s ha
    replace s : St W (.blk g1 [.int .i64 0, .int .i64 0, .slice none 0 0] 29 :: .blk g [.slice A x.length c] 54 :: Own 29 3 A x.length c (rows x) :: Byts x :: L) w := s
    refine st_val (.bool false) ha (by kernel_rfl) (by kernel_rfl) ?_
    clear ha; intro a ha
    refine wpList_nil ?_
    refine then_normal ?_
    refine wp_ret ?_
    refine then_ret ?_
    refine ret_with (v := .tuple #[.agg #[.int .i64 0, .int .i64 0, .slice none 0 0], .bool false]) ha (results_2 rfl ha (res_cellN (s.blkIs 0 rfl) (by kernel_rfl) (by kernel_rfl) Try.isAgg29 Try.sizeOf29 rfl) (res_tmp (by kernel_rfl) (by kernel_rfl))) ?_
    replace s := s.at_ (j := 3) rfl
    replace s : St W (Byts x :: .blk g1 [.int .i64 0, .int .i64 0, .slice none 0 0] 29 :: .blk g [.slice A x.length c] 54 :: Own 29 3 A x.length c (rows x) :: L) w := s
    replace s := s.at_ (j := 3) rfl
    replace s : St W (Own 29 3 A x.length c (rows x) :: Byts x :: .blk g1 [.int .i64 0, .int .i64 0, .slice none 0 0] 29 :: .blk g [.slice A x.length c] 54 :: L) w := s
    replace s := s.at_ (j := 3) rfl
    replace s : St W (.blk g [.slice A x.length c] 54 :: Own 29 3 A x.length c (rows x) :: Byts x :: .blk g1 [.int .i64 0, .int .i64 0, .slice none 0 0] 29 :: L) w := s
    replace s : St W (.blk g [.slice A x.length c] 54 :: Own 29 3 A x.length c (rows x) :: Byts x :: L) w := St.mid (A := [.blk g [.slice A x.length c] 54, Own 29 3 A x.length c (rows x), Byts x]) (B := [.blk g1 [.int .i64 0, .int .i64 0, .slice none 0 0] 29]) s
    exact ⟨rfl, s⟩
  · rw [hb] at ha; replace hb : ¬ (i < (0 : Int)) := of_decide_eq_false hb
    refine st_val (.int .i64 i) ha (by kernel_rfl) (by kernel_rfl) ?_
    clear ha; intro a ha
    refine st_val (.pointer (some ⟨g, 0, none⟩)) ha (by kernel_rfl) (by kernel_rfl) ?_
    clear ha; intro a ha
    refine st_val (.pointer (some ⟨g, 0, none⟩)) ha (by kernel_rfl) (by kernel_rfl) ?_
    clear ha; intro a ha
    refine st_val (.pointer (some ⟨g, 0, none⟩)) ha (by kernel_rfl) (by kernel_rfl) ?_
    clear ha; intro a ha
    refine st_val (.slice A x.length c) ha (by kernel_rfl) (run_load1 (of_ := 0) (s.blkIs 1 rfl) rfl (by kernel_rfl) Try.isAgg50 rfl) ?_
    clear ha; intro a ha
    refine st_val (.int .i64 ((x.length : Nat) : Int)) ha (by kernel_rfl) (by kernel_rfl) ?_
    clear ha; intro a ha
    refine st_val (.bool (decide (i ≥ ((x.length : Nat) : Int)))) ha (by kernel_rfl) (by kernel_rfl) ?_
    clear ha; intro a ha
    refine st_val (.bool (decide (i ≥ ((x.length : Nat) : Int)))) ha (by kernel_rfl) (by kernel_rfl) ?_
    clear ha; intro a ha
    refine wpList_nil ?_
    refine then_normal ?_
    refine wp_part (decide (i ≥ ((x.length : Nat) : Int))) ha rfl (by kernel_rfl) (fun hb => ?_) (fun hb => ?_)
    · rw [hb] at ha; replace hb : (i ≥ ((x.length : Nat) : Int)) := of_decide_eq_true hb
      refine wp_seq ?_
      refine wp_region_lit ?_
      refine st_val (.agg #[.int .i64 0, .int .i64 0, .slice none 0 0]) ha (by kernel_rfl) (by kernel_rfl) ?_
      clear ha; intro a ha
      refine st_exd ha (by kernel_rfl) (ex_store (of_ := 0) 0 [.int .i64 0, .int .i64 0, .slice none 0 0] s rfl rfl (by kernel_rfl) (by kernel_rfl) (Try.sizeOf29 _) rfl (by simp [Value.oneCell']) (Nat.le_of_ble_eq_true rfl)) ?_
      clear ha; rintro w a s ha
      replace s : St W (.blk g1 [.int .i64 0, .int .i64 0, .slice none 0 0] 29 :: .blk g [.slice A x.length c] 54 :: Own 29 3 A x.length c (rows x) :: Byts x :: L) w := s
      refine st_val (.bool false) ha (by kernel_rfl) (by kernel_rfl) ?_
      clear ha; intro a ha
      refine wpList_nil ?_
      refine then_normal ?_
      refine wp_ret ?_
      refine then_ret ?_
      refine ret_with (v := .tuple #[.agg #[.int .i64 0, .int .i64 0, .slice none 0 0], .bool false]) ha (results_2 rfl ha (res_cellN (s.blkIs 0 rfl) (by kernel_rfl) (by kernel_rfl) Try.isAgg29 Try.sizeOf29 rfl) (res_tmp (by kernel_rfl) (by kernel_rfl))) ?_
      replace s := s.at_ (j := 3) rfl
      replace s : St W (Byts x :: .blk g1 [.int .i64 0, .int .i64 0, .slice none 0 0] 29 :: .blk g [.slice A x.length c] 54 :: Own 29 3 A x.length c (rows x) :: L) w := s
      replace s := s.at_ (j := 3) rfl
      replace s : St W (Own 29 3 A x.length c (rows x) :: Byts x :: .blk g1 [.int .i64 0, .int .i64 0, .slice none 0 0] 29 :: .blk g [.slice A x.length c] 54 :: L) w := s
      replace s := s.at_ (j := 3) rfl
      replace s : St W (.blk g [.slice A x.length c] 54 :: Own 29 3 A x.length c (rows x) :: Byts x :: .blk g1 [.int .i64 0, .int .i64 0, .slice none 0 0] 29 :: L) w := s
      replace s : St W (.blk g [.slice A x.length c] 54 :: Own 29 3 A x.length c (rows x) :: Byts x :: L) w := St.mid (A := [.blk g [.slice A x.length c] 54, Own 29 3 A x.length c (rows x), Byts x]) (B := [.blk g1 [.int .i64 0, .int .i64 0, .slice none 0 0] 29]) s
      exact ⟨rfl, s⟩
    · rw [hb] at ha; replace hb : ¬ (i ≥ ((x.length : Nat) : Int)) := of_decide_eq_false hb
      exfalso; omega

theorem rtake_out (W : World) (L : List Chunk) (w : World) (g : Nat) (A : Option Addr) (c : Nat) (x : List (Msg × Hd)) (i : Int) (hm : ¬ (0 ≤ i ∧ i < ((x.length : Nat) : Int))) (s : St W (.blk g [.slice A x.length c] 54 :: Own 29 3 A x.length c (rows x) :: Byts x :: L) w) :
    Calls Try.prog 14 #[.pointer (some ⟨g, 0, none⟩), .int .i64 i] w fun e w' => e = .returned (.tuple #[.agg #[.int .i64 0, .int .i64 0, .slice none 0 0], .bool false]) ∧ St W (.blk g [.slice A x.length c] 54 :: Own 29 3 A x.length c (rows x) :: Byts x :: L) w' := by
  refine enter_args (l := [.pointer (some ⟨g, 0, none⟩), .int .i64 i]) Try.func14 rfl rfl (Nat.le_of_ble_eq_true rfl) ?_
  intro a ha; replace ha : Has a 39 [(0, .pointer (some ⟨g, 0, none⟩)), (1, .int .i64 i)] := ha
  refine wp_seq ?_
  refine wp_region_lit ?_
  refine st_ex ha (by kernel_rfl) (ex_alloc [.int .i64 0, .int .i64 0, .slice none 0 0] s rfl (Try.zeroValue29 _) (by kernel_rfl)) ?_
  clear ha; rintro _ w a ⟨g1, rfl, s⟩ ha
  replace s : St W (.blk g1 [.int .i64 0, .int .i64 0, .slice none 0 0] 29 :: .blk g [.slice A x.length c] 54 :: Own 29 3 A x.length c (rows x) :: Byts x :: L) w := s
  refine st_val (.bool false) ha (by kernel_rfl) (by kernel_rfl) ?_
  clear ha; intro a ha
  refine wpList_nil ?_
  refine then_normal ?_
  refine wp_seq ?_
  refine wp_region_lit ?_
  refine st_val (.pointer (some ⟨g, 0, none⟩)) ha (by kernel_rfl) (by kernel_rfl) ?_
  clear ha; intro a ha
  refine st_val (.int .i64 i) ha (by kernel_rfl) (by kernel_rfl) ?_
  clear ha; intro a ha
  replace s := s.at_ (j := 3) rfl
  replace s : St W (Byts x :: .blk g1 [.int .i64 0, .int .i64 0, .slice none 0 0] 29 :: .blk g [.slice A x.length c] 54 :: Own 29 3 A x.length c (rows x) :: L) w := s
  replace s := s.at_ (j := 3) rfl
  replace s : St W (Own 29 3 A x.length c (rows x) :: Byts x :: .blk g1 [.int .i64 0, .int .i64 0, .slice none 0 0] 29 :: .blk g [.slice A x.length c] 54 :: L) w := s
  replace s := s.at_ (j := 3) rfl
  replace s : St W (.blk g [.slice A x.length c] 54 :: Own 29 3 A x.length c (rows x) :: Byts x :: .blk g1 [.int .i64 0, .int .i64 0, .slice none 0 0] 29 :: L) w := s
  refine st_call ha (by kernel_rfl) (by kernel_rfl) (rlook_out W _ w g A c x i hm s) ?_
  rintro _ w ⟨rfl, s⟩
  replace s : St W (.blk g [.slice A x.length c] 54 :: Own 29 3 A x.length c (rows x) :: Byts x :: .blk g1 [.int .i64 0, .int .i64 0, .slice none 0 0] 29 :: L) w := s
  refine ⟨_, rfl, ?_⟩; clear ha; intro a ha
  refine st_val (.tuple #[.agg #[.int .i64 0, .int .i64 0, .slice none 0 0], .bool false]) ha (by kernel_rfl) (by kernel_rfl) ?_
  clear ha; intro a ha
  refine st_val (.agg #[.int .i64 0, .int .i64 0, .slice none 0 0]) ha (by kernel_rfl) (by kernel_rfl) ?_
  clear ha; intro a ha
  refine st_val (.bool false) ha (by kernel_rfl) (by kernel_rfl) ?_
  clear ha; intro a ha
  refine st_ex ha (by kernel_rfl) (ex_alloc [.int .i64 0, .int .i64 0, .slice none 0 0] s rfl (Try.zeroValue29 _) (by kernel_rfl)) ?_
  clear ha; rintro _ w a ⟨g2, rfl, s⟩ ha
  replace s : St W (.blk g2 [.int .i64 0, .int .i64 0, .slice none 0 0] 29 :: .blk g [.slice A x.length c] 54 :: Own 29 3 A x.length c (rows x) :: Byts x :: .blk g1 [.int .i64 0, .int .i64 0, .slice none 0 0] 29 :: L) w := s
  refine st_exd ha (by kernel_rfl) (ex_store (of_ := 0) 0 [.int .i64 0, .int .i64 0, .slice none 0 0] s rfl rfl (by kernel_rfl) (by kernel_rfl) (Try.sizeOf29 _) rfl (by simp [Value.oneCell']) (Nat.le_of_ble_eq_true rfl)) ?_
  clear ha; rintro w a s ha
  replace s : St W (.blk g2 [.int .i64 0, .int .i64 0, .slice none 0 0] 29 :: .blk g [.slice A x.length c] 54 :: Own 29 3 A x.length c (rows x) :: Byts x :: .blk g1 [.int .i64 0, .int .i64 0, .slice none 0 0] 29 :: L) w := s
  refine st_val (.bool false) ha (by kernel_rfl) (by kernel_rfl) ?_
  clear ha; intro a ha
  refine wpList_nil ?_
  refine then_normal ?_
  refine wp_seq ?_
  refine wp_seq ?_
  refine wp_region_lit ?_
  refine st_val (.bool false) ha (by kernel_rfl) (by kernel_rfl) ?_
  clear ha; intro a ha
  refine st_val (.bool true) ha (by kernel_rfl) (by kernel_rfl) ?_
  clear ha; intro a ha
  refine wpList_nil ?_
  refine then_normal ?_
  refine wp_true ha rfl (by kernel_rfl) ?_
  refine wp_seq ?_
  refine wp_region_lit ?_
  refine st_val (.agg #[.int .i64 0, .int .i64 0, .slice none 0 0]) ha (by kernel_rfl) (run_loadN (of_ := 0) [.int .i64 0, .int .i64 0, .slice none 0 0] (s.blkIs 0 rfl) rfl (by kernel_rfl) Try.isAgg29 Try.sizeOf29 rfl (Nat.le_of_ble_eq_true rfl)) ?_
  clear ha; intro a ha
  refine st_exd ha (by kernel_rfl) (ex_store (of_ := 0) 4 [.int .i64 0, .int .i64 0, .slice none 0 0] s rfl rfl (by kernel_rfl) (by kernel_rfl) (Try.sizeOf29 _) rfl (by simp [Value.oneCell']) (Nat.le_of_ble_eq_true rfl)) ?_
  clear ha; rintro w a s ha
  replace s : St W (.blk g2 [.int .i64 0, .int .i64 0, .slice none 0 0] 29 :: .blk g [.slice A x.length c] 54 :: Own 29 3 A x.length c (rows x) :: Byts x :: .blk g1 [.int .i64 0, .int .i64 0, .slice none 0 0] 29 :: L) w := s
  refine st_val (.bool false) ha (by kernel_rfl) (by kernel_rfl) ?_
  clear ha; intro a ha
  refine wpList_nil ?_
  refine then_normal ?_
  refine wp_ret ?_
  refine then_ret ?_
  refine ret_with (v := .tuple #[.agg #[.int .i64 0, .int .i64 0, .slice none 0 0], .bool false]) ha (results_2 rfl ha (res_cellN (s.blkIs 4 rfl) (by kernel_rfl) (by kernel_rfl) Try.isAgg29 Try.sizeOf29 rfl) (res_tmp (by kernel_rfl) (by kernel_rfl))) ?_
  replace s := s.at_ (j := 3) rfl
  replace s : St W (Byts x :: .blk g2 [.int .i64 0, .int .i64 0, .slice none 0 0] 29 :: .blk g [.slice A x.length c] 54 :: Own 29 3 A x.length c (rows x) :: .blk g1 [.int .i64 0, .int .i64 0, .slice none 0 0] 29 :: L) w := s
  replace s := s.at_ (j := 3) rfl
  replace s : St W (Own 29 3 A x.length c (rows x) :: Byts x :: .blk g2 [.int .i64 0, .int .i64 0, .slice none 0 0] 29 :: .blk g [.slice A x.length c] 54 :: .blk g1 [.int .i64 0, .int .i64 0, .slice none 0 0] 29 :: L) w := s
  replace s := s.at_ (j := 3) rfl
  replace s : St W (.blk g [.slice A x.length c] 54 :: Own 29 3 A x.length c (rows x) :: Byts x :: .blk g2 [.int .i64 0, .int .i64 0, .slice none 0 0] 29 :: .blk g1 [.int .i64 0, .int .i64 0, .slice none 0 0] 29 :: L) w := s
  replace s : St W (.blk g [.slice A x.length c] 54 :: Own 29 3 A x.length c (rows x) :: Byts x :: L) w := St.mid (A := [.blk g [.slice A x.length c] 54, Own 29 3 A x.length c (rows x), Byts x]) (B := [.blk g2 [.int .i64 0, .int .i64 0, .slice none 0 0] 29, .blk g1 [.int .i64 0, .int .i64 0, .slice none 0 0] 29]) s
  exact ⟨rfl, s⟩

theorem rtake_in (W : World) (L : List Chunk) (w : World) (g : Nat) (A : Option Addr) (c : Nat) (x : List (Msg × Hd)) (m : Nat) (hm : m < x.length) (hn : x[m].1.b.length ≤ 140737488351232) (hx : x.length ≤ 1000000) (s : St W (.blk g [.slice A x.length c] 54 :: Own 29 3 A x.length c (rows x) :: Byts x :: L) w) :
    Calls Try.prog 14 #[.pointer (some ⟨g, 0, none⟩), .int .i64 ((m : Nat) : Int)] w fun e w' => ∃ A' c' A1 c1, e = .returned (.tuple #[.agg #[.int .i64 x[m].1.f, .int .i64 x[m].1.t, .slice A1 x[m].1.b.length c1], .bool true]) ∧ St W (.blk g [.slice A' (x.eraseIdx m).length c'] 54 :: Own 29 3 A' (x.eraseIdx m).length c' (rows (x.eraseIdx m)) :: Byts (x.eraseIdx m) :: Own 5 1 A1 x[m].1.b.length c1 (u8s x[m].1.b) :: L) w' := by
  have hx0 : 0 < x.length := by omega
  obtain ⟨ad, rfl⟩ := Own.some_ s.tail.1 hx0
  have hxc : x.length ≤ c := (Own.facts s.tail.1).2.1
  refine enter_args (l := [.pointer (some ⟨g, 0, none⟩), .int .i64 ((m : Nat) : Int)]) Try.func14 rfl rfl (Nat.le_of_ble_eq_true rfl) ?_
  intro a ha; replace ha : Has a 39 [(0, .pointer (some ⟨g, 0, none⟩)), (1, .int .i64 ((m : Nat) : Int))] := ha
  refine wp_seq ?_
  refine wp_region_lit ?_
  refine st_ex ha (by kernel_rfl) (ex_alloc [.int .i64 0, .int .i64 0, .slice none 0 0] s rfl (Try.zeroValue29 _) (by kernel_rfl)) ?_
  clear ha; rintro _ w a ⟨g1, rfl, s⟩ ha
  replace s : St W (.blk g1 [.int .i64 0, .int .i64 0, .slice none 0 0] 29 :: .blk g [.slice (some ad) x.length c] 54 :: Own 29 3 (some ad) x.length c (rows x) :: Byts x :: L) w := s
  refine st_val (.bool false) ha (by kernel_rfl) (by kernel_rfl) ?_
  clear ha; intro a ha
  refine wpList_nil ?_
  refine then_normal ?_
  refine wp_seq ?_
  refine wp_region_lit ?_
  refine st_val (.pointer (some ⟨g, 0, none⟩)) ha (by kernel_rfl) (by kernel_rfl) ?_
  clear ha; intro a ha
  refine st_val (.int .i64 ((m : Nat) : Int)) ha (by kernel_rfl) (by kernel_rfl) ?_
  clear ha; intro a ha
  replace s := s.at_ (j := 3) rfl
  replace s : St W (Byts x :: .blk g1 [.int .i64 0, .int .i64 0, .slice none 0 0] 29 :: .blk g [.slice (some ad) x.length c] 54 :: Own 29 3 (some ad) x.length c (rows x) :: L) w := s
  replace s := s.at_ (j := 3) rfl
  replace s : St W (Own 29 3 (some ad) x.length c (rows x) :: Byts x :: .blk g1 [.int .i64 0, .int .i64 0, .slice none 0 0] 29 :: .blk g [.slice (some ad) x.length c] 54 :: L) w := s
  replace s := s.at_ (j := 3) rfl
  replace s : St W (.blk g [.slice (some ad) x.length c] 54 :: Own 29 3 (some ad) x.length c (rows x) :: Byts x :: .blk g1 [.int .i64 0, .int .i64 0, .slice none 0 0] 29 :: L) w := s
  refine st_call ha (by kernel_rfl) (by kernel_rfl) (rlook_in W _ w g (some ad) c x m hm hn s) ?_
  rintro _ w ⟨A2, c3, rfl, s⟩
  replace s : St W (.blk g [.slice (some ad) x.length c] 54 :: Own 29 3 (some ad) x.length c (rows x) :: Byts x :: Own 5 1 A2 (x[m].1.b.length) c3 (u8s x[m].1.b) :: .blk g1 [.int .i64 0, .int .i64 0, .slice none 0 0] 29 :: L) w := s
  refine ⟨_, rfl, ?_⟩; clear ha; intro a ha
  refine st_val (.tuple #[.agg #[.int .i64 (x[m].1.f), .int .i64 (x[m].1.t), .slice A2 (x[m].1.b.length) c3], .bool true]) ha (by kernel_rfl) (by kernel_rfl) ?_
  clear ha; intro a ha
  refine st_val (.agg #[.int .i64 (x[m].1.f), .int .i64 (x[m].1.t), .slice A2 (x[m].1.b.length) c3]) ha (by kernel_rfl) (by kernel_rfl) ?_
  clear ha; intro a ha
  refine st_val (.bool true) ha (by kernel_rfl) (by kernel_rfl) ?_
  clear ha; intro a ha
  refine st_ex ha (by kernel_rfl) (ex_alloc [.int .i64 0, .int .i64 0, .slice none 0 0] s rfl (Try.zeroValue29 _) (by kernel_rfl)) ?_
  clear ha; rintro _ w a ⟨g4, rfl, s⟩ ha
  replace s : St W (.blk g4 [.int .i64 0, .int .i64 0, .slice none 0 0] 29 :: .blk g [.slice (some ad) x.length c] 54 :: Own 29 3 (some ad) x.length c (rows x) :: Byts x :: Own 5 1 A2 (x[m].1.b.length) c3 (u8s x[m].1.b) :: .blk g1 [.int .i64 0, .int .i64 0, .slice none 0 0] 29 :: L) w := s
  refine st_exd ha (by kernel_rfl) (ex_store (of_ := 0) 0 [.int .i64 (x[m].1.f), .int .i64 (x[m].1.t), .slice A2 (x[m].1.b.length) c3] s rfl rfl (by kernel_rfl) (by kernel_rfl) (Try.sizeOf29 _) rfl (by simp [Value.oneCell']) (Nat.le_of_ble_eq_true rfl)) ?_
  clear ha; rintro w a s ha
  replace s : St W (.blk g4 [.int .i64 (x[m].1.f), .int .i64 (x[m].1.t), .slice A2 (x[m].1.b.length) c3] 29 :: .blk g [.slice (some ad) x.length c] 54 :: Own 29 3 (some ad) x.length c (rows x) :: Byts x :: Own 5 1 A2 (x[m].1.b.length) c3 (u8s x[m].1.b) :: .blk g1 [.int .i64 0, .int .i64 0, .slice none 0 0] 29 :: L) w := s
  refine st_val (.bool true) ha (by kernel_rfl) (by kernel_rfl) ?_
  clear ha; intro a ha
  refine wpList_nil ?_
  refine then_normal ?_
  refine wp_seq ?_
  refine wp_seq ?_
  refine wp_region_lit ?_
  refine st_val (.bool true) ha (by kernel_rfl) (by kernel_rfl) ?_
  clear ha; intro a ha
  refine st_val (.bool false) ha (by kernel_rfl) (by kernel_rfl) ?_
  clear ha; intro a ha
  refine wpList_nil ?_
  refine then_normal ?_
  refine wp_false ha rfl (by kernel_rfl) ?_
  refine wp_skip ?_
  refine then_normal ?_
  refine wp_seq ?_
  refine wp_region_lit ?_
  refine st_val (.slice none 0 0) ha (by kernel_rfl) (by kernel_rfl) ?_
  clear ha; intro a ha
  refine wpList_nil ?_
  refine then_normal ?_
  refine wp_seq ?_
  refine wp_region_lit ?_
  refine st_val (.slice none 0 0) ha (by kernel_rfl) (by kernel_rfl) ?_
  clear ha; intro a ha
  refine st_val (.pointer (some ⟨g, 0, none⟩)) ha (by kernel_rfl) (by kernel_rfl) ?_
  clear ha; intro a ha
  refine st_val (.pointer (some ⟨g, 0, none⟩)) ha (by kernel_rfl) (by kernel_rfl) ?_
  clear ha; intro a ha
  refine st_val (.pointer (some ⟨g, 0, none⟩)) ha (by kernel_rfl) (by kernel_rfl) ?_
  clear ha; intro a ha
  refine st_val (.slice (some ad) x.length c) ha (by kernel_rfl) (run_load1 (of_ := 0) (s.blkIs 1 rfl) rfl (by kernel_rfl) Try.isAgg50 rfl) ?_
  clear ha; intro a ha
  refine st_val (.int .i64 ((m : Nat) : Int)) ha (by kernel_rfl) (by kernel_rfl) ?_
  clear ha; intro a ha
  refine st_val (.slice (some ad) m c) ha (by kernel_rfl) (run_slice0 (n := x.length) (c := c) m c rfl Try.underlying50 Try.sizeOf29 (by kernel_rfl) (fun _ => rfl) bnd_none (bnd_some .i64 (by kernel_rfl)) bnd_none (by omega) (by omega) _) ?_
  clear ha; intro a ha
  have hr_ : Reads w 3 (some ad) m ((rows x).take (m * 3)) := Reads.take (Own.reads (s.at_ (j := 2) rfl).1) (by omega)
  replace s := Own.none_ (e := 29) (k := 3) none s
  replace s : St W (Own 29 3 none 0 0 [] :: .blk g4 [.int .i64 (x[m].1.f), .int .i64 (x[m].1.t), .slice A2 (x[m].1.b.length) c3] 29 :: .blk g [.slice (some ad) x.length c] 54 :: Own 29 3 (some ad) x.length c (rows x) :: Byts x :: Own 5 1 A2 (x[m].1.b.length) c3 (u8s x[m].1.b) :: .blk g1 [.int .i64 0, .int .i64 0, .slice none 0 0] 29 :: L) w := s
  refine st_ex ha (by kernel_rfl) (ex_append (d' := c) elt50 (by decide) 0 ((rows x).take (m * 3)) s rfl (by kernel_rfl) (by kernel_rfl) rfl hr_ (fun u hu => rows_one x u (List.mem_of_mem_take hu)) (by simp only [maxLen]; omega) (by omega)) ?_
  clear ha; rintro _ w a ⟨A5, c6, rfl, hA_, s⟩ ha
  replace s : St W (Own 29 3 A5 (0 + m) c6 ([] ++ ((rows x).take (m * 3))) :: .blk g4 [.int .i64 (x[m].1.f), .int .i64 (x[m].1.t), .slice A2 (x[m].1.b.length) c3] 29 :: .blk g [.slice (some ad) x.length c] 54 :: Own 29 3 (some ad) x.length c (rows x) :: Byts x :: Own 5 1 A2 (x[m].1.b.length) c3 (u8s x[m].1.b) :: .blk g1 [.int .i64 0, .int .i64 0, .slice none 0 0] 29 :: L) w := s
  refine st_val (.slice A5 (0 + m) c6) ha (by kernel_rfl) (by kernel_rfl) ?_
  clear ha; intro a ha
  refine wpList_nil ?_
  refine then_normal ?_
  refine wp_seq ?_
  refine wp_region_lit ?_
  refine st_val (.pointer (some ⟨g, 0, none⟩)) ha (by kernel_rfl) (by kernel_rfl) ?_
  clear ha; intro a ha
  refine st_val (.slice A5 (0 + m) c6) ha (by kernel_rfl) (by kernel_rfl) ?_
  clear ha; intro a ha
  refine st_val (.pointer (some ⟨g, 0, none⟩)) ha (by kernel_rfl) (by kernel_rfl) ?_
  clear ha; intro a ha
  refine st_val (.pointer (some ⟨g, 0, none⟩)) ha (by kernel_rfl) (by kernel_rfl) ?_
  clear ha; intro a ha
  refine st_val (.pointer (some ⟨g, 0, none⟩)) ha (by kernel_rfl) (by kernel_rfl) ?_
  clear ha; intro a ha
  refine st_val (.slice (some ad) x.length c) ha (by kernel_rfl) (run_load1 (of_ := 0) (s.blkIs 2 rfl) rfl (by kernel_rfl) Try.isAgg50 rfl) ?_
  clear ha; intro a ha
  refine st_val (.int .i64 ((m : Nat) : Int)) ha (by kernel_rfl) (by kernel_rfl) ?_
  clear ha; intro a ha
  refine st_val (.int .i64 ((m + 1 : Nat) : Int)) ha (by kernel_rfl) (run_arith (((m : Nat) : Int) + (1 : Int)) ((m + 1 : Nat) : Int) rfl (by kernel_rfl) (by kernel_rfl) (.inl ⟨rfl, rfl⟩) (by rw [wrap64_in (by omega)]; try omega) _) ?_
  clear ha; intro a ha
  refine st_val (.slice (slA (some ad) (m + 1) c 3) (x.length - (m + 1)) (c - (m + 1))) ha (by kernel_rfl) (run_slice (n := x.length) (c := c) (m + 1) x.length c rfl Try.underlying50 Try.sizeOf29 (by kernel_rfl) (fun h => by cases h) bnd_none bnd_none (bnd_some .i64 (by kernel_rfl)) (by omega) (by omega) (by omega) _) ?_
  clear ha; intro a ha
  have hr_ : Reads w 3 (slA (some ad) (m + 1) c 3) (x.length - (m + 1)) ((rows x).extract ((m + 1) * 3) (x.length * 3)) := Reads.sub (Own.reads (s.at_ (j := 3) rfl).1) (by omega) (Nat.le_refl _) hxc
  refine st_ex ha (by kernel_rfl) (ex_append (d' := (c - (m + 1))) elt50 (by decide) 0 ((rows x).extract ((m + 1) * 3) (x.length * 3)) s rfl (by kernel_rfl) (by kernel_rfl) rfl hr_ (ext_one (rows_one x) _ _) (by simp only [maxLen]; omega) (by omega)) ?_
  clear ha; rintro _ w a ⟨A7, c8, rfl, hA_, s⟩ ha
  replace s : St W (Own 29 3 A7 (0 + m + (x.length - (m + 1))) c8 (([] ++ ((rows x).take (m * 3))) ++ ((rows x).extract ((m + 1) * 3) (x.length * 3))) :: .blk g4 [.int .i64 (x[m].1.f), .int .i64 (x[m].1.t), .slice A2 (x[m].1.b.length) c3] 29 :: .blk g [.slice (some ad) x.length c] 54 :: Own 29 3 (some ad) x.length c (rows x) :: Byts x :: Own 5 1 A2 (x[m].1.b.length) c3 (u8s x[m].1.b) :: .blk g1 [.int .i64 0, .int .i64 0, .slice none 0 0] 29 :: L) w := s
  refine st_val (.pointer (some ⟨g, 0, none⟩)) ha (by kernel_rfl) (by kernel_rfl) ?_
  clear ha; intro a ha
  refine st_val (.pointer (some ⟨g, 0, none⟩)) ha (by kernel_rfl) (by kernel_rfl) ?_
  clear ha; intro a ha
  refine st_exd ha (by kernel_rfl) (ex_store (of_ := 0) 2 [.slice A7 (0 + m + (x.length - (m + 1))) c8] s rfl rfl (by kernel_rfl) (by kernel_rfl) (Try.sizeOf50 _) rfl (by simp [Value.oneCell']) (Nat.le_of_ble_eq_true rfl)) ?_
  clear ha; rintro w a s ha
  replace s : St W (Own 29 3 A7 (0 + m + (x.length - (m + 1))) c8 (([] ++ ((rows x).take (m * 3))) ++ ((rows x).extract ((m + 1) * 3) (x.length * 3))) :: .blk g4 [.int .i64 (x[m].1.f), .int .i64 (x[m].1.t), .slice A2 (x[m].1.b.length) c3] 29 :: .blk g [.slice A7 (0 + m + (x.length - (m + 1))) c8] 54 :: Own 29 3 (some ad) x.length c (rows x) :: Byts x :: Own 5 1 A2 (x[m].1.b.length) c3 (u8s x[m].1.b) :: .blk g1 [.int .i64 0, .int .i64 0, .slice none 0 0] 29 :: L) w := s
  refine wpList_nil ?_
  refine then_normal ?_
  refine wp_seq ?_
  refine wp_region_lit ?_
  refine st_val (.agg #[.int .i64 (x[m].1.f), .int .i64 (x[m].1.t), .slice A2 (x[m].1.b.length) c3]) ha (by kernel_rfl) (run_loadN (of_ := 0) [.int .i64 (x[m].1.f), .int .i64 (x[m].1.t), .slice A2 (x[m].1.b.length) c3] (s.blkIs 1 rfl) rfl (by kernel_rfl) Try.isAgg29 Try.sizeOf29 rfl (Nat.le_of_ble_eq_true rfl)) ?_
  clear ha; intro a ha
  refine st_exd ha (by kernel_rfl) (ex_store (of_ := 0) 6 [.int .i64 (x[m].1.f), .int .i64 (x[m].1.t), .slice A2 (x[m].1.b.length) c3] s rfl rfl (by kernel_rfl) (by kernel_rfl) (Try.sizeOf29 _) rfl (by simp [Value.oneCell']) (Nat.le_of_ble_eq_true rfl)) ?_
  clear ha; rintro w a s ha
  replace s : St W (Own 29 3 A7 (0 + m + (x.length - (m + 1))) c8 (([] ++ ((rows x).take (m * 3))) ++ ((rows x).extract ((m + 1) * 3) (x.length * 3))) :: .blk g4 [.int .i64 (x[m].1.f), .int .i64 (x[m].1.t), .slice A2 (x[m].1.b.length) c3] 29 :: .blk g [.slice A7 (0 + m + (x.length - (m + 1))) c8] 54 :: Own 29 3 (some ad) x.length c (rows x) :: Byts x :: Own 5 1 A2 (x[m].1.b.length) c3 (u8s x[m].1.b) :: .blk g1 [.int .i64 (x[m].1.f), .int .i64 (x[m].1.t), .slice A2 (x[m].1.b.length) c3] 29 :: L) w := s
  refine st_val (.bool true) ha (by kernel_rfl) (by kernel_rfl) ?_
  clear ha; intro a ha
  refine wpList_nil ?_
  refine then_normal ?_
  refine wp_ret ?_
  refine ret_with (v := .tuple #[.agg #[.int .i64 (x[m].1.f), .int .i64 (x[m].1.t), .slice A2 (x[m].1.b.length) c3], .bool true]) ha (results_2 rfl ha (res_cellN (s.blkIs 6 rfl) (by kernel_rfl) (by kernel_rfl) Try.isAgg29 Try.sizeOf29 rfl) (res_tmp (by kernel_rfl) (by kernel_rfl))) ?_
  replace s := s.at_ (j := 5) rfl
  replace s : St W (Own 5 1 A2 (x[m].1.b.length) c3 (u8s x[m].1.b) :: Own 29 3 A7 (0 + m + (x.length - (m + 1))) c8 (([] ++ ((rows x).take (m * 3))) ++ ((rows x).extract ((m + 1) * 3) (x.length * 3))) :: .blk g4 [.int .i64 (x[m].1.f), .int .i64 (x[m].1.t), .slice A2 (x[m].1.b.length) c3] 29 :: .blk g [.slice A7 (0 + m + (x.length - (m + 1))) c8] 54 :: Own 29 3 (some ad) x.length c (rows x) :: Byts x :: .blk g1 [.int .i64 (x[m].1.f), .int .i64 (x[m].1.t), .slice A2 (x[m].1.b.length) c3] 29 :: L) w := s
  replace s := s.at_ (j := 5) rfl
  replace s : St W (Byts x :: Own 5 1 A2 (x[m].1.b.length) c3 (u8s x[m].1.b) :: Own 29 3 A7 (0 + m + (x.length - (m + 1))) c8 (([] ++ ((rows x).take (m * 3))) ++ ((rows x).extract ((m + 1) * 3) (x.length * 3))) :: .blk g4 [.int .i64 (x[m].1.f), .int .i64 (x[m].1.t), .slice A2 (x[m].1.b.length) c3] 29 :: .blk g [.slice A7 (0 + m + (x.length - (m + 1))) c8] 54 :: Own 29 3 (some ad) x.length c (rows x) :: .blk g1 [.int .i64 (x[m].1.f), .int .i64 (x[m].1.t), .slice A2 (x[m].1.b.length) c3] 29 :: L) w := s
  replace s := s.at_ (j := 2) rfl
  replace s : St W (Own 29 3 A7 (0 + m + (x.length - (m + 1))) c8 (([] ++ ((rows x).take (m * 3))) ++ ((rows x).extract ((m + 1) * 3) (x.length * 3))) :: Byts x :: Own 5 1 A2 (x[m].1.b.length) c3 (u8s x[m].1.b) :: .blk g4 [.int .i64 (x[m].1.f), .int .i64 (x[m].1.t), .slice A2 (x[m].1.b.length) c3] 29 :: .blk g [.slice A7 (0 + m + (x.length - (m + 1))) c8] 54 :: Own 29 3 (some ad) x.length c (rows x) :: .blk g1 [.int .i64 (x[m].1.f), .int .i64 (x[m].1.t), .slice A2 (x[m].1.b.length) c3] 29 :: L) w := s
  replace s := s.at_ (j := 4) rfl
  replace s : St W (.blk g [.slice A7 (0 + m + (x.length - (m + 1))) c8] 54 :: Own 29 3 A7 (0 + m + (x.length - (m + 1))) c8 (([] ++ ((rows x).take (m * 3))) ++ ((rows x).extract ((m + 1) * 3) (x.length * 3))) :: Byts x :: Own 5 1 A2 (x[m].1.b.length) c3 (u8s x[m].1.b) :: .blk g4 [.int .i64 (x[m].1.f), .int .i64 (x[m].1.t), .slice A2 (x[m].1.b.length) c3] 29 :: Own 29 3 (some ad) x.length c (rows x) :: .blk g1 [.int .i64 (x[m].1.f), .int .i64 (x[m].1.t), .slice A2 (x[m].1.b.length) c3] 29 :: L) w := s
  replace s : St W (.blk g [.slice A7 (0 + m + (x.length - (m + 1))) c8] 54 :: Own 29 3 A7 (0 + m + (x.length - (m + 1))) c8 (([] ++ ((rows x).take (m * 3))) ++ ((rows x).extract ((m + 1) * 3) (x.length * 3))) :: Byts x :: Own 5 1 A2 (x[m].1.b.length) c3 (u8s x[m].1.b) :: L) w := St.mid (A := [.blk g [.slice A7 (0 + m + (x.length - (m + 1))) c8] 54, Own 29 3 A7 (0 + m + (x.length - (m + 1))) c8 (([] ++ ((rows x).take (m * 3))) ++ ((rows x).extract ((m + 1) * 3) (x.length * 3))), Byts x, Own 5 1 A2 (x[m].1.b.length) c3 (u8s x[m].1.b)]) (B := [.blk g4 [.int .i64 (x[m].1.f), .int .i64 (x[m].1.t), .slice A2 (x[m].1.b.length) c3] 29, Own 29 3 (some ad) x.length c (rows x), .blk g1 [.int .i64 (x[m].1.f), .int .i64 (x[m].1.t), .slice A2 (x[m].1.b.length) c3] 29]) s
  rw [show 0 + m + (x.length - (m + 1)) = (x.eraseIdx m).length by rw [List.length_eraseIdx_of_lt hm]; omega, List.nil_append, rows_erase x m hm] at s
  replace s := (byts_erase x m hm (s.at_ (j := 2) rfl)).at_ (j := 1) rfl
  replace s := s.tail
  replace s := s.at_ (j := 2) rfl
  replace s := s.at_ (j := 2) rfl
  exact ⟨_, _, _, _, rfl, s⟩

theorem rput_yes (W : World) (L : List Chunk) (w : World) (g : Nat) (A : Option Addr) (c : Nat) (x : List (Msg × Hd)) (m : Msg) (A0 : Option Addr) (n0 c0 : Nat) (hn0 : n0 = m.b.length) (hr : Knows L fun w => Reads w 1 A0 n0 (u8s m.b)) (hn : n0 ≤ 140737488351232) (h : putCode m x.length = 0) (s : St W (.blk g [.slice A x.length c] 54 :: Own 29 3 A x.length c (rows x) :: L) w) :
    Calls Try.prog 17 #[.pointer (some ⟨g, 0, none⟩), .agg #[.int .i64 m.f, .int .i64 m.t, .slice A0 n0 c0]] w fun e w' => e = .returned (.int .i64 0) ∧ ∃ A' c' A1 c1, St W (.blk g [.slice A' (x.length + 1) c'] 54 :: Own 29 3 A' (x.length + 1) c' (rows (x ++ [(m, ⟨A1, c1⟩)])) :: Own 5 1 A1 n0 c1 (u8s m.b) :: L) w' := by
  obtain ⟨h1, h2, h3, h4⟩ := putCode_zero h
  exact rput_ok W L w g A c x m.f m.t A0 n0 c0 m.b hr hn h1 h2 (by omega) h4 s
theorem rput_no (W : World) (L : List Chunk) (w : World) (g : Nat) (A : Option Addr) (c : Nat) (x : List (Msg × Hd)) (m : Msg) (A0 : Option Addr) (n0 c0 : Nat) (hn0 : n0 = m.b.length) (hr : Knows L fun w => Reads w 1 A0 n0 (u8s m.b)) (hn : n0 ≤ 140737488351232) (h : putCode m x.length ≠ 0) (s : St W (.blk g [.slice A x.length c] 54 :: Own 29 3 A x.length c (rows x) :: L) w) :
    Calls Try.prog 17 #[.pointer (some ⟨g, 0, none⟩), .agg #[.int .i64 m.f, .int .i64 m.t, .slice A0 n0 c0]] w fun e w' => e = .returned (.int .i64 (putCode m x.length)) ∧ St W (.blk g [.slice A x.length c] 54 :: Own 29 3 A x.length c (rows x) :: L) w' := by
  by_cases h1 : 1 ≤ m.f ∧ m.f ≤ 4
  · by_cases h2 : 1 ≤ m.t ∧ m.t ≤ 4
    · by_cases h3 : 65536 < m.b.length
      · have e1 : putCode m x.length = 5 := by unfold putCode; rw [if_pos ⟨h1, h2⟩, if_pos h3]
        rw [e1]; exact rput_long W L w g A c x m.f m.t A0 n0 c0 h1 h2 (by omega) s
      · by_cases h4 : 2048 ≤ x.length
        · have e1 : putCode m x.length = 7 := by unfold putCode; rw [if_pos ⟨h1, h2⟩, if_neg h3, if_pos h4]
          rw [e1]; exact rput_full W L w g A c x m.f m.t A0 n0 c0 h1 h2 (by omega) h4 s
        · exact absurd (by unfold putCode; rw [if_pos ⟨h1, h2⟩, if_neg h3, if_neg h4]) h
    · have e1 : putCode m x.length = 2 := by unfold putCode; rw [if_neg (fun h => h2 h.2)]
      rw [e1]; exact rput_badt W L w g A c x m.f m.t A0 n0 c0 h1 h2 s
  · have e1 : putCode m x.length = 2 := by unfold putCode; rw [if_neg (fun h => h1 h.1)]
    rw [e1]; exact rput_badf W L w g A c x m.f m.t A0 n0 c0 h1 s

theorem rdouble_yes (W : World) (L : List Chunk) (w : World) (g : Nat) (A : Option Addr) (c : Nat) (x : List (Msg × Hd)) (m : Nat) (hm : m < x.length) (hn : x[m].1.b.length ≤ 140737488351232) (hc : putCode x[m].1 x.length = 0) (s : St W (.blk g [.slice A x.length c] 54 :: Own 29 3 A x.length c (rows x) :: Byts x :: L) w) :
    Calls Try.prog 16 #[.pointer (some ⟨g, 0, none⟩), .int .i64 ((m : Nat) : Int)] w fun e w' => e = .returned (.int .i64 0) ∧ ∃ A' c' A1 c1, St W (.blk g [.slice A' (x ++ [(x[m].1, (⟨A1, c1⟩ : Hd))]).length c'] 54 :: Own 29 3 A' (x ++ [(x[m].1, (⟨A1, c1⟩ : Hd))]).length c' (rows (x ++ [(x[m].1, ⟨A1, c1⟩)])) :: Byts (x ++ [(x[m].1, ⟨A1, c1⟩)]) :: L) w' := by
  have hx0 : 0 < x.length := by omega
  obtain ⟨ad, rfl⟩ := Own.some_ s.tail.1 hx0
  refine enter_args (l := [.pointer (some ⟨g, 0, none⟩), .int .i64 ((m : Nat) : Int)]) Try.func16 rfl rfl (Nat.le_of_ble_eq_true rfl) ?_
  intro a ha; replace ha : Has a 18 [(0, .pointer (some ⟨g, 0, none⟩)), (1, .int .i64 ((m : Nat) : Int))] := ha
  refine wp_seq ?_
  refine wp_region_lit ?_
  refine st_val (.int .i64 0) ha (by kernel_rfl) (by kernel_rfl) ?_
  clear ha; intro a ha
  refine wpList_nil ?_
  refine then_normal ?_
  refine wp_seq ?_
  refine wp_region_lit ?_
  refine st_val (.pointer (some ⟨g, 0, none⟩)) ha (by kernel_rfl) (by kernel_rfl) ?_
  clear ha; intro a ha
  refine st_val (.int .i64 ((m : Nat) : Int)) ha (by kernel_rfl) (by kernel_rfl) ?_
  clear ha; intro a ha
  refine st_call ha (by kernel_rfl) (by kernel_rfl) (rlook_in W _ w g (some ad) c x m hm hn s) ?_
  rintro _ w ⟨A1, c2, rfl, s⟩
  replace s : St W (.blk g [.slice (some ad) x.length c] 54 :: Own 29 3 (some ad) x.length c (rows x) :: Byts x :: Own 5 1 A1 (x[m].1.b.length) c2 (u8s x[m].1.b) :: L) w := s
  refine ⟨_, rfl, ?_⟩; clear ha; intro a ha
  refine st_val (.tuple #[.agg #[.int .i64 (x[m].1.f), .int .i64 (x[m].1.t), .slice A1 (x[m].1.b.length) c2], .bool true]) ha (by kernel_rfl) (by kernel_rfl) ?_
  clear ha; intro a ha
  refine st_val (.agg #[.int .i64 (x[m].1.f), .int .i64 (x[m].1.t), .slice A1 (x[m].1.b.length) c2]) ha (by kernel_rfl) (by kernel_rfl) ?_
  clear ha; intro a ha
  refine st_val (.bool true) ha (by kernel_rfl) (by kernel_rfl) ?_
  clear ha; intro a ha
  refine st_ex ha (by kernel_rfl) (ex_alloc [.int .i64 0, .int .i64 0, .slice none 0 0] s rfl (Try.zeroValue29 _) (by kernel_rfl)) ?_
  clear ha; rintro _ w a ⟨g3, rfl, s⟩ ha
  replace s : St W (.blk g3 [.int .i64 0, .int .i64 0, .slice none 0 0] 29 :: .blk g [.slice (some ad) x.length c] 54 :: Own 29 3 (some ad) x.length c (rows x) :: Byts x :: Own 5 1 A1 (x[m].1.b.length) c2 (u8s x[m].1.b) :: L) w := s
  refine st_exd ha (by kernel_rfl) (ex_store (of_ := 0) 0 [.int .i64 (x[m].1.f), .int .i64 (x[m].1.t), .slice A1 (x[m].1.b.length) c2] s rfl rfl (by kernel_rfl) (by kernel_rfl) (Try.sizeOf29 _) rfl (by simp [Value.oneCell']) (Nat.le_of_ble_eq_true rfl)) ?_
  clear ha; rintro w a s ha
  replace s : St W (.blk g3 [.int .i64 (x[m].1.f), .int .i64 (x[m].1.t), .slice A1 (x[m].1.b.length) c2] 29 :: .blk g [.slice (some ad) x.length c] 54 :: Own 29 3 (some ad) x.length c (rows x) :: Byts x :: Own 5 1 A1 (x[m].1.b.length) c2 (u8s x[m].1.b) :: L) w := s
  refine st_val (.bool true) ha (by kernel_rfl) (by kernel_rfl) ?_
  clear ha; intro a ha
  refine wpList_nil ?_
  refine then_normal ?_
  refine wp_seq ?_
  refine wp_seq ?_
  refine wp_region_lit ?_
  refine st_val (.bool true) ha (by kernel_rfl) (by kernel_rfl) ?_
  clear ha; intro a ha
  refine st_val (.bool false) ha (by kernel_rfl) (by kernel_rfl) ?_
  clear ha; intro a ha
  refine wpList_nil ?_
  refine then_normal ?_
  refine wp_false ha rfl (by kernel_rfl) ?_
  refine wp_skip ?_
  refine then_normal ?_
  refine wp_seq ?_
  refine wp_region_lit ?_
  refine st_val (.pointer (some ⟨g, 0, none⟩)) ha (by kernel_rfl) (by kernel_rfl) ?_
  clear ha; intro a ha
  refine st_val (.agg #[.int .i64 (x[m].1.f), .int .i64 (x[m].1.t), .slice A1 (x[m].1.b.length) c2]) ha (by kernel_rfl) (run_loadN (of_ := 0) [.int .i64 (x[m].1.f), .int .i64 (x[m].1.t), .slice A1 (x[m].1.b.length) c2] (s.blkIs 0 rfl) rfl (by kernel_rfl) Try.isAgg29 Try.sizeOf29 rfl (Nat.le_of_ble_eq_true rfl)) ?_
  clear ha; intro a ha
  replace s := s.at_ (j := 2) rfl
  replace s : St W (Own 29 3 (some ad) x.length c (rows x) :: .blk g3 [.int .i64 (x[m].1.f), .int .i64 (x[m].1.t), .slice A1 (x[m].1.b.length) c2] 29 :: .blk g [.slice (some ad) x.length c] 54 :: Byts x :: Own 5 1 A1 (x[m].1.b.length) c2 (u8s x[m].1.b) :: L) w := s
  replace s := s.at_ (j := 2) rfl
  replace s : St W (.blk g [.slice (some ad) x.length c] 54 :: Own 29 3 (some ad) x.length c (rows x) :: .blk g3 [.int .i64 (x[m].1.f), .int .i64 (x[m].1.t), .slice A1 (x[m].1.b.length) c2] 29 :: Byts x :: Own 5 1 A1 (x[m].1.b.length) c2 (u8s x[m].1.b) :: L) w := s
  refine st_call ha (by kernel_rfl) (by kernel_rfl) (rput_yes W _ w g (some ad) c x x[m].1 A1 (x[m].1.b.length) c2 rfl (Knows.own (j := 2) rfl) (by omega) hc s) ?_
  rintro _ w ⟨rfl, A4, c5, A6, c7, s⟩
  replace s : St W (.blk g [.slice A4 (x.length + 1) c5] 54 :: Own 29 3 A4 (x.length + 1) c5 (rows (x ++ [(x[m].1, ⟨A6, c7⟩)])) :: Own 5 1 A6 (x[m].1.b.length) c7 (u8s x[m].1.b) :: .blk g3 [.int .i64 (x[m].1.f), .int .i64 (x[m].1.t), .slice A1 (x[m].1.b.length) c2] 29 :: Byts x :: Own 5 1 A1 (x[m].1.b.length) c2 (u8s x[m].1.b) :: L) w := s
  refine ⟨_, rfl, ?_⟩; clear ha; intro a ha
  refine st_val (.int .i64 0) ha (by kernel_rfl) (by kernel_rfl) ?_
  clear ha; intro a ha
  refine wpList_nil ?_
  refine then_normal ?_
  refine wp_ret ?_
  refine ret_with (v := .int .i64 0) ha (results_1 rfl ha (res_tmp (by kernel_rfl) (by kernel_rfl))) ?_
  replace s := s.at_ (j := 1) rfl
  replace s : St W (Own 29 3 A4 (x.length + 1) c5 (rows (x ++ [(x[m].1, ⟨A6, c7⟩)])) :: .blk g [.slice A4 (x.length + 1) c5] 54 :: Own 5 1 A6 (x[m].1.b.length) c7 (u8s x[m].1.b) :: .blk g3 [.int .i64 (x[m].1.f), .int .i64 (x[m].1.t), .slice A1 (x[m].1.b.length) c2] 29 :: Byts x :: Own 5 1 A1 (x[m].1.b.length) c2 (u8s x[m].1.b) :: L) w := s
  replace s := s.at_ (j := 1) rfl
  replace s : St W (.blk g [.slice A4 (x.length + 1) c5] 54 :: Own 29 3 A4 (x.length + 1) c5 (rows (x ++ [(x[m].1, ⟨A6, c7⟩)])) :: Own 5 1 A6 (x[m].1.b.length) c7 (u8s x[m].1.b) :: .blk g3 [.int .i64 (x[m].1.f), .int .i64 (x[m].1.t), .slice A1 (x[m].1.b.length) c2] 29 :: Byts x :: Own 5 1 A1 (x[m].1.b.length) c2 (u8s x[m].1.b) :: L) w := s
  replace s := s.at_ (j := 4) rfl
  replace s : St W (Byts x :: .blk g [.slice A4 (x.length + 1) c5] 54 :: Own 29 3 A4 (x.length + 1) c5 (rows (x ++ [(x[m].1, ⟨A6, c7⟩)])) :: Own 5 1 A6 (x[m].1.b.length) c7 (u8s x[m].1.b) :: .blk g3 [.int .i64 (x[m].1.f), .int .i64 (x[m].1.t), .slice A1 (x[m].1.b.length) c2] 29 :: Own 5 1 A1 (x[m].1.b.length) c2 (u8s x[m].1.b) :: L) w := s
  replace s := s.at_ (j := 3) rfl
  replace s : St W (Own 5 1 A6 (x[m].1.b.length) c7 (u8s x[m].1.b) :: Byts x :: .blk g [.slice A4 (x.length + 1) c5] 54 :: Own 29 3 A4 (x.length + 1) c5 (rows (x ++ [(x[m].1, ⟨A6, c7⟩)])) :: .blk g3 [.int .i64 (x[m].1.f), .int .i64 (x[m].1.t), .slice A1 (x[m].1.b.length) c2] 29 :: Own 5 1 A1 (x[m].1.b.length) c2 (u8s x[m].1.b) :: L) w := s
  replace s : St W (Own 5 1 A6 (x[m].1.b.length) c7 (u8s x[m].1.b) :: Byts x :: .blk g [.slice A4 (x.length + 1) c5] 54 :: Own 29 3 A4 (x.length + 1) c5 (rows (x ++ [(x[m].1, ⟨A6, c7⟩)])) :: L) w := St.mid (A := [Own 5 1 A6 (x[m].1.b.length) c7 (u8s x[m].1.b), Byts x, .blk g [.slice A4 (x.length + 1) c5] 54, Own 29 3 A4 (x.length + 1) c5 (rows (x ++ [(x[m].1, ⟨A6, c7⟩)]))]) (B := [.blk g3 [.int .i64 (x[m].1.f), .int .i64 (x[m].1.t), .slice A1 (x[m].1.b.length) c2] 29, Own 5 1 A1 (x[m].1.b.length) c2 (u8s x[m].1.b)]) s
  replace s := byts_snoc x (x[m].1, ⟨A6, c7⟩) s
  replace s := s.at_ (j := 2) rfl
  replace s := s.at_ (j := 2) rfl
  rw [show x.length + 1 = (x ++ [(x[m].1, (⟨A6, c7⟩ : Hd))]).length by simp] at s
  exact ⟨rfl, _, _, _, _, s⟩

theorem rdouble_no (W : World) (L : List Chunk) (w : World) (g : Nat) (A : Option Addr) (c : Nat) (x : List (Msg × Hd)) (m : Nat) (hm : m < x.length) (hn : x[m].1.b.length ≤ 140737488351232) (hc : putCode x[m].1 x.length ≠ 0) (s : St W (.blk g [.slice A x.length c] 54 :: Own 29 3 A x.length c (rows x) :: Byts x :: L) w) :
    Calls Try.prog 16 #[.pointer (some ⟨g, 0, none⟩), .int .i64 ((m : Nat) : Int)] w fun e w' => e = .returned (.int .i64 (putCode x[m].1 x.length)) ∧ St W (.blk g [.slice A x.length c] 54 :: Own 29 3 A x.length c (rows x) :: Byts x :: L) w' := by
  have hx0 : 0 < x.length := by omega
  obtain ⟨ad, rfl⟩ := Own.some_ s.tail.1 hx0
  refine enter_args (l := [.pointer (some ⟨g, 0, none⟩), .int .i64 ((m : Nat) : Int)]) Try.func16 rfl rfl (Nat.le_of_ble_eq_true rfl) ?_
  intro a ha; replace ha : Has a 18 [(0, .pointer (some ⟨g, 0, none⟩)), (1, .int .i64 ((m : Nat) : Int))] := ha
  refine wp_seq ?_
  refine wp_region_lit ?_
  refine st_val (.int .i64 0) ha (by kernel_rfl) (by kernel_rfl) ?_
  clear ha; intro a ha
  refine wpList_nil ?_
  refine then_normal ?_
  refine wp_seq ?_
  refine wp_region_lit ?_
  refine st_val (.pointer (some ⟨g, 0, none⟩)) ha (by kernel_rfl) (by kernel_rfl) ?_
  clear ha; intro a ha
  refine st_val (.int .i64 ((m : Nat) : Int)) ha (by kernel_rfl) (by kernel_rfl) ?_
  clear ha; intro a ha
  refine st_call ha (by kernel_rfl) (by kernel_rfl) (rlook_in W _ w g (some ad) c x m hm hn s) ?_
  rintro _ w ⟨A1, c2, rfl, s⟩
  replace s : St W (.blk g [.slice (some ad) x.length c] 54 :: Own 29 3 (some ad) x.length c (rows x) :: Byts x :: Own 5 1 A1 (x[m].1.b.length) c2 (u8s x[m].1.b) :: L) w := s
  refine ⟨_, rfl, ?_⟩; clear ha; intro a ha
  refine st_val (.tuple #[.agg #[.int .i64 (x[m].1.f), .int .i64 (x[m].1.t), .slice A1 (x[m].1.b.length) c2], .bool true]) ha (by kernel_rfl) (by kernel_rfl) ?_
  clear ha; intro a ha
  refine st_val (.agg #[.int .i64 (x[m].1.f), .int .i64 (x[m].1.t), .slice A1 (x[m].1.b.length) c2]) ha (by kernel_rfl) (by kernel_rfl) ?_
  clear ha; intro a ha
  refine st_val (.bool true) ha (by kernel_rfl) (by kernel_rfl) ?_
  clear ha; intro a ha
  refine st_ex ha (by kernel_rfl) (ex_alloc [.int .i64 0, .int .i64 0, .slice none 0 0] s rfl (Try.zeroValue29 _) (by kernel_rfl)) ?_
  clear ha; rintro _ w a ⟨g3, rfl, s⟩ ha
  replace s : St W (.blk g3 [.int .i64 0, .int .i64 0, .slice none 0 0] 29 :: .blk g [.slice (some ad) x.length c] 54 :: Own 29 3 (some ad) x.length c (rows x) :: Byts x :: Own 5 1 A1 (x[m].1.b.length) c2 (u8s x[m].1.b) :: L) w := s
  refine st_exd ha (by kernel_rfl) (ex_store (of_ := 0) 0 [.int .i64 (x[m].1.f), .int .i64 (x[m].1.t), .slice A1 (x[m].1.b.length) c2] s rfl rfl (by kernel_rfl) (by kernel_rfl) (Try.sizeOf29 _) rfl (by simp [Value.oneCell']) (Nat.le_of_ble_eq_true rfl)) ?_
  clear ha; rintro w a s ha
  replace s : St W (.blk g3 [.int .i64 (x[m].1.f), .int .i64 (x[m].1.t), .slice A1 (x[m].1.b.length) c2] 29 :: .blk g [.slice (some ad) x.length c] 54 :: Own 29 3 (some ad) x.length c (rows x) :: Byts x :: Own 5 1 A1 (x[m].1.b.length) c2 (u8s x[m].1.b) :: L) w := s
  refine st_val (.bool true) ha (by kernel_rfl) (by kernel_rfl) ?_
  clear ha; intro a ha
  refine wpList_nil ?_
  refine then_normal ?_
  refine wp_seq ?_
  refine wp_seq ?_
  refine wp_region_lit ?_
  refine st_val (.bool true) ha (by kernel_rfl) (by kernel_rfl) ?_
  clear ha; intro a ha
  refine st_val (.bool false) ha (by kernel_rfl) (by kernel_rfl) ?_
  clear ha; intro a ha
  refine wpList_nil ?_
  refine then_normal ?_
  refine wp_false ha rfl (by kernel_rfl) ?_
  refine wp_skip ?_
  refine then_normal ?_
  refine wp_seq ?_
  refine wp_region_lit ?_
  refine st_val (.pointer (some ⟨g, 0, none⟩)) ha (by kernel_rfl) (by kernel_rfl) ?_
  clear ha; intro a ha
  refine st_val (.agg #[.int .i64 (x[m].1.f), .int .i64 (x[m].1.t), .slice A1 (x[m].1.b.length) c2]) ha (by kernel_rfl) (run_loadN (of_ := 0) [.int .i64 (x[m].1.f), .int .i64 (x[m].1.t), .slice A1 (x[m].1.b.length) c2] (s.blkIs 0 rfl) rfl (by kernel_rfl) Try.isAgg29 Try.sizeOf29 rfl (Nat.le_of_ble_eq_true rfl)) ?_
  clear ha; intro a ha
  replace s := s.at_ (j := 2) rfl
  replace s : St W (Own 29 3 (some ad) x.length c (rows x) :: .blk g3 [.int .i64 (x[m].1.f), .int .i64 (x[m].1.t), .slice A1 (x[m].1.b.length) c2] 29 :: .blk g [.slice (some ad) x.length c] 54 :: Byts x :: Own 5 1 A1 (x[m].1.b.length) c2 (u8s x[m].1.b) :: L) w := s
  replace s := s.at_ (j := 2) rfl
  replace s : St W (.blk g [.slice (some ad) x.length c] 54 :: Own 29 3 (some ad) x.length c (rows x) :: .blk g3 [.int .i64 (x[m].1.f), .int .i64 (x[m].1.t), .slice A1 (x[m].1.b.length) c2] 29 :: Byts x :: Own 5 1 A1 (x[m].1.b.length) c2 (u8s x[m].1.b) :: L) w := s
  refine st_call ha (by kernel_rfl) (by kernel_rfl) (rput_no W _ w g (some ad) c x x[m].1 A1 (x[m].1.b.length) c2 rfl (Knows.own (j := 2) rfl) (by omega) hc s) ?_
  rintro _ w ⟨rfl, s⟩
  replace s : St W (.blk g [.slice (some ad) x.length c] 54 :: Own 29 3 (some ad) x.length c (rows x) :: .blk g3 [.int .i64 (x[m].1.f), .int .i64 (x[m].1.t), .slice A1 (x[m].1.b.length) c2] 29 :: Byts x :: Own 5 1 A1 (x[m].1.b.length) c2 (u8s x[m].1.b) :: L) w := s
  refine ⟨_, rfl, ?_⟩; clear ha; intro a ha
  refine st_val (.int .i64 (putCode x[m].1 x.length)) ha (by kernel_rfl) (by kernel_rfl) ?_
  clear ha; intro a ha
  refine wpList_nil ?_
  refine then_normal ?_
  refine wp_ret ?_
  refine ret_with (v := .int .i64 (putCode x[m].1 x.length)) ha (results_1 rfl ha (res_tmp (by kernel_rfl) (by kernel_rfl))) ?_
  replace s := s.at_ (j := 3) rfl
  replace s : St W (Byts x :: .blk g [.slice (some ad) x.length c] 54 :: Own 29 3 (some ad) x.length c (rows x) :: .blk g3 [.int .i64 (x[m].1.f), .int .i64 (x[m].1.t), .slice A1 (x[m].1.b.length) c2] 29 :: Own 5 1 A1 (x[m].1.b.length) c2 (u8s x[m].1.b) :: L) w := s
  replace s := s.at_ (j := 2) rfl
  replace s : St W (Own 29 3 (some ad) x.length c (rows x) :: Byts x :: .blk g [.slice (some ad) x.length c] 54 :: .blk g3 [.int .i64 (x[m].1.f), .int .i64 (x[m].1.t), .slice A1 (x[m].1.b.length) c2] 29 :: Own 5 1 A1 (x[m].1.b.length) c2 (u8s x[m].1.b) :: L) w := s
  replace s := s.at_ (j := 2) rfl
  replace s : St W (.blk g [.slice (some ad) x.length c] 54 :: Own 29 3 (some ad) x.length c (rows x) :: Byts x :: .blk g3 [.int .i64 (x[m].1.f), .int .i64 (x[m].1.t), .slice A1 (x[m].1.b.length) c2] 29 :: Own 5 1 A1 (x[m].1.b.length) c2 (u8s x[m].1.b) :: L) w := s
  replace s : St W (.blk g [.slice (some ad) x.length c] 54 :: Own 29 3 (some ad) x.length c (rows x) :: Byts x :: L) w := St.mid (A := [.blk g [.slice (some ad) x.length c] 54, Own 29 3 (some ad) x.length c (rows x), Byts x]) (B := [.blk g3 [.int .i64 (x[m].1.f), .int .i64 (x[m].1.t), .slice A1 (x[m].1.b.length) c2] 29, Own 5 1 A1 (x[m].1.b.length) c2 (u8s x[m].1.b)]) s
  exact ⟨rfl, s⟩

theorem rdouble_out (W : World) (L : List Chunk) (w : World) (g : Nat) (A : Option Addr) (c : Nat) (x : List (Msg × Hd)) (i : Int) (hm : ¬ (0 ≤ i ∧ i < ((x.length : Nat) : Int))) (s : St W (.blk g [.slice A x.length c] 54 :: Own 29 3 A x.length c (rows x) :: Byts x :: L) w) :
    Calls Try.prog 16 #[.pointer (some ⟨g, 0, none⟩), .int .i64 i] w fun e w' => e = .returned (.int .i64 9) ∧ St W (.blk g [.slice A x.length c] 54 :: Own 29 3 A x.length c (rows x) :: Byts x :: L) w' := by
  refine enter_args (l := [.pointer (some ⟨g, 0, none⟩), .int .i64 i]) Try.func16 rfl rfl (Nat.le_of_ble_eq_true rfl) ?_
  intro a ha; replace ha : Has a 18 [(0, .pointer (some ⟨g, 0, none⟩)), (1, .int .i64 i)] := ha
  refine wp_seq ?_
  refine wp_region_lit ?_
  refine st_val (.int .i64 0) ha (by kernel_rfl) (by kernel_rfl) ?_
  clear ha; intro a ha
  refine wpList_nil ?_
  refine then_normal ?_
  refine wp_seq ?_
  refine wp_region_lit ?_
  refine st_val (.pointer (some ⟨g, 0, none⟩)) ha (by kernel_rfl) (by kernel_rfl) ?_
  clear ha; intro a ha
  refine st_val (.int .i64 i) ha (by kernel_rfl) (by kernel_rfl) ?_
  clear ha; intro a ha
  refine st_call ha (by kernel_rfl) (by kernel_rfl) (rlook_out W _ w g A c x i hm s) ?_
  rintro _ w ⟨rfl, s⟩
  replace s : St W (.blk g [.slice A x.length c] 54 :: Own 29 3 A x.length c (rows x) :: Byts x :: L) w := s
  refine ⟨_, rfl, ?_⟩; clear ha; intro a ha
  refine st_val (.tuple #[.agg #[.int .i64 0, .int .i64 0, .slice none 0 0], .bool false]) ha (by kernel_rfl) (by kernel_rfl) ?_
  clear ha; intro a ha
  refine st_val (.agg #[.int .i64 0, .int .i64 0, .slice none 0 0]) ha (by kernel_rfl) (by kernel_rfl) ?_
  clear ha; intro a ha
  refine st_val (.bool false) ha (by kernel_rfl) (by kernel_rfl) ?_
  clear ha; intro a ha
  refine st_ex ha (by kernel_rfl) (ex_alloc [.int .i64 0, .int .i64 0, .slice none 0 0] s rfl (Try.zeroValue29 _) (by kernel_rfl)) ?_
  clear ha; rintro _ w a ⟨g1, rfl, s⟩ ha
  replace s : St W (.blk g1 [.int .i64 0, .int .i64 0, .slice none 0 0] 29 :: .blk g [.slice A x.length c] 54 :: Own 29 3 A x.length c (rows x) :: Byts x :: L) w := s
  refine st_exd ha (by kernel_rfl) (ex_store (of_ := 0) 0 [.int .i64 0, .int .i64 0, .slice none 0 0] s rfl rfl (by kernel_rfl) (by kernel_rfl) (Try.sizeOf29 _) rfl (by simp [Value.oneCell']) (Nat.le_of_ble_eq_true rfl)) ?_
  clear ha; rintro w a s ha
  replace s : St W (.blk g1 [.int .i64 0, .int .i64 0, .slice none 0 0] 29 :: .blk g [.slice A x.length c] 54 :: Own 29 3 A x.length c (rows x) :: Byts x :: L) w := s
  refine st_val (.bool false) ha (by kernel_rfl) (by kernel_rfl) ?_
  clear ha; intro a ha
  refine wpList_nil ?_
  refine then_normal ?_
  refine wp_seq ?_
  refine wp_seq ?_
  refine wp_region_lit ?_
  refine st_val (.bool false) ha (by kernel_rfl) (by kernel_rfl) ?_
  clear ha; intro a ha
  refine st_val (.bool true) ha (by kernel_rfl) (by kernel_rfl) ?_
  clear ha; intro a ha
  refine wpList_nil ?_
  refine then_normal ?_
  refine wp_true ha rfl (by kernel_rfl) ?_
  refine wp_seq ?_
  refine wp_region_lit ?_
  refine st_val (.int .i64 9) ha (by kernel_rfl) (by kernel_rfl) ?_
  clear ha; intro a ha
  refine wpList_nil ?_
  refine then_normal ?_
  refine wp_ret ?_
  refine then_ret ?_
  refine ret_with (v := .int .i64 9) ha (results_1 rfl ha (res_tmp (by kernel_rfl) (by kernel_rfl))) ?_
  replace s := s.at_ (j := 3) rfl
  replace s : St W (Byts x :: .blk g1 [.int .i64 0, .int .i64 0, .slice none 0 0] 29 :: .blk g [.slice A x.length c] 54 :: Own 29 3 A x.length c (rows x) :: L) w := s
  replace s := s.at_ (j := 3) rfl
  replace s : St W (Own 29 3 A x.length c (rows x) :: Byts x :: .blk g1 [.int .i64 0, .int .i64 0, .slice none 0 0] 29 :: .blk g [.slice A x.length c] 54 :: L) w := s
  replace s := s.at_ (j := 3) rfl
  replace s : St W (.blk g [.slice A x.length c] 54 :: Own 29 3 A x.length c (rows x) :: Byts x :: .blk g1 [.int .i64 0, .int .i64 0, .slice none 0 0] 29 :: L) w := s
  replace s : St W (.blk g [.slice A x.length c] 54 :: Own 29 3 A x.length c (rows x) :: Byts x :: L) w := St.mid (A := [.blk g [.slice A x.length c] 54, Own 29 3 A x.length c (rows x), Byts x]) (B := [.blk g1 [.int .i64 0, .int .i64 0, .slice none 0 0] 29]) s
  exact ⟨rfl, s⟩

theorem u8s_at (xs : List Int) (k : Nat) (h : k < xs.length) : (u8s xs)[k]? = some (.int .u8 (xs.getD k 0)) := by
  simp [u8s, h]
theorem take_step {xs ys : List Int} {k : Nat} (hx : k < xs.length) (hy : k < ys.length) (h : xs.take k = ys.take k) (e : xs.getD k 0 = ys.getD k 0) : xs.take (k + 1) = ys.take (k + 1) := by
  rw [List.take_succ_eq_append_getElem hx, List.take_succ_eq_append_getElem hy, h]
  simp [hx, hy] at e
  rw [e]

theorem eqBytes_ne (W : World) (L : List Chunk) (w : World) (A B : Option Addr) (c d : Nat) (xs ys : List Int) (hr1 : Knows L fun w => Reads w 1 A xs.length (u8s xs)) (hr2 : Knows L fun w => Reads w 1 B ys.length (u8s ys)) (h : xs.length ≠ ys.length) (s : St W L w) :
    Calls Try.prog 33 #[.slice A xs.length c, .slice B ys.length d] w fun e w' => e = .returned (.bool (decide (xs = ys))) ∧ St W L w' := by
  refine enter_args (l := [.slice A xs.length c, .slice B ys.length d]) Try.func33 rfl rfl (Nat.le_of_ble_eq_true rfl) ?_
  intro a ha; replace ha : Has a 26 [(0, .slice A xs.length c), (1, .slice B ys.length d)] := ha
  refine wp_seq ?_
  refine wp_region_lit ?_
  refine st_val (.bool false) ha (by kernel_rfl) (by kernel_rfl) ?_
  clear ha; intro a ha
  refine wpList_nil ?_
  refine then_normal ?_
  refine wp_seq ?_
  refine wp_seq ?_
  refine wp_region_lit ?_
  refine st_val (.slice A xs.length c) ha (by kernel_rfl) (by kernel_rfl) ?_
  clear ha; intro a ha
  refine st_val (.int .i64 ((xs.length : Nat) : Int)) ha (by kernel_rfl) (by kernel_rfl) ?_
  clear ha; intro a ha
  refine st_val (.slice B ys.length d) ha (by kernel_rfl) (by kernel_rfl) ?_
  clear ha; intro a ha
  refine st_val (.int .i64 ((ys.length : Nat) : Int)) ha (by kernel_rfl) (by kernel_rfl) ?_
  clear ha; intro a ha
  refine st_val (.bool true) ha (by kernel_rfl) (run_known (show (((xs.length : Nat) : Int) != ((ys.length : Nat) : Int)) = true from bne_iff_ne.2 (by omega)) (by kernel_rfl)) ?_
  clear ha; intro a ha
  refine wpList_nil ?_
  refine then_normal ?_
  refine wp_true ha rfl (by kernel_rfl) ?_
  refine wp_seq ?_
  refine wp_region_lit ?_
  refine st_val (.bool false) ha (by kernel_rfl) (by kernel_rfl) ?_
  clear ha; intro a ha
  refine wpList_nil ?_
  refine then_normal ?_
  refine wp_ret ?_
  refine then_ret ?_
  refine ret_with (v := .bool false) ha (results_1 rfl ha (res_tmp (by kernel_rfl) (by kernel_rfl))) ?_
  exact ⟨by rw [decide_eq_false (fun e => h (by rw [e]))], s⟩

theorem eqBytes_some (W : World) (L : List Chunk) (w : World) (ad1 ad2 : Addr) (c d : Nat) (xs ys : List Int) (hr1 : Knows L fun w => Reads w 1 (some ad1) xs.length (u8s xs)) (hr2 : Knows L fun w => Reads w 1 (some ad2) ys.length (u8s ys)) (h : xs.length = ys.length) (hx : xs.length ≤ 140737488351232) (s : St W L w) :
    Calls Try.prog 33 #[.slice (some ad1) xs.length c, .slice (some ad2) ys.length d] w fun e w' => e = .returned (.bool (decide (xs = ys))) ∧ St W L w' := by
  refine enter_args (l := [.slice (some ad1) xs.length c, .slice (some ad2) ys.length d]) Try.func33 rfl rfl (Nat.le_of_ble_eq_true rfl) ?_
  intro a ha; replace ha : Has a 26 [(0, .slice (some ad1) xs.length c), (1, .slice (some ad2) ys.length d)] := ha
  refine wp_seq ?_
  refine wp_region_lit ?_
  refine st_val (.bool false) ha (by kernel_rfl) (by kernel_rfl) ?_
  clear ha; intro a ha
  refine wpList_nil ?_
  refine then_normal ?_
  refine wp_seq ?_
  refine wp_seq ?_
  refine wp_region_lit ?_
  refine st_val (.slice (some ad1) xs.length c) ha (by kernel_rfl) (by kernel_rfl) ?_
  clear ha; intro a ha
  refine st_val (.int .i64 ((xs.length : Nat) : Int)) ha (by kernel_rfl) (by kernel_rfl) ?_
  clear ha; intro a ha
  refine st_val (.slice (some ad2) ys.length d) ha (by kernel_rfl) (by kernel_rfl) ?_
  clear ha; intro a ha
  refine st_val (.int .i64 ((ys.length : Nat) : Int)) ha (by kernel_rfl) (by kernel_rfl) ?_
  clear ha; intro a ha
  refine st_val (.bool false) ha (by kernel_rfl) (run_known (show (((xs.length : Nat) : Int) != ((ys.length : Nat) : Int)) = false from by rw [bne_eq_false_iff_eq]; omega) (by kernel_rfl)) ?_
  clear ha; intro a ha
  refine wpList_nil ?_
  refine then_normal ?_
  refine wp_false ha rfl (by kernel_rfl) ?_
  refine wp_skip ?_
  refine then_normal ?_
  refine wp_seq ?_
  refine wp_seq ?_
  refine wp_region_lit ?_
  refine st_val (.int .i64 0) ha (by kernel_rfl) (by kernel_rfl) ?_
  clear ha; intro a ha
  refine wpList_nil ?_
  refine then_normal ?_
  refine wp_block ?_
  refine wp_loopG (G := Nat) (fun k a w => Has a 26 [(0, .slice (some ad1) xs.length c), (1, .slice (some ad2) ys.length d), (5, .int .i64 ((k : Nat) : Int))] ∧ St W (L) w ∧ (k ≤ xs.length ∧ xs.take k = ys.take k)) (fun k => xs.length - k) 0 ?_ ?_
  · exact ⟨(Has.cons ha (by kernel_rfl) (by kernel_rfl) (Has.cons ha (by kernel_rfl) (by kernel_rfl) (Has.cons ha (by kernel_rfl) (by kernel_rfl) (Has.nil ha)))), s, ⟨Nat.zero_le _, rfl⟩⟩
  · clear ha s; rintro k a w ⟨ha, s, hp⟩
    refine wp_seq ?_
    refine wp_seq ?_
    refine wp_region_lit ?_
    refine st_val (.int .i64 ((k : Nat) : Int)) ha (by kernel_rfl) (by kernel_rfl) ?_
    clear ha; intro a ha
    refine st_val (.slice (some ad1) xs.length c) ha (by kernel_rfl) (by kernel_rfl) ?_
    clear ha; intro a ha
    refine st_val (.int .i64 ((xs.length : Nat) : Int)) ha (by kernel_rfl) (by kernel_rfl) ?_
    clear ha; intro a ha
    refine st_val (.bool (decide (((k : Nat) : Int) < ((xs.length : Nat) : Int)))) ha (by kernel_rfl) (by kernel_rfl) ?_
    clear ha; intro a ha
    refine wpList_nil ?_
    refine then_normal ?_
    refine wp_part (decide (((k : Nat) : Int) < ((xs.length : Nat) : Int))) ha rfl (by kernel_rfl) (fun hb => ?_) (fun hb => ?_)
    · rw [hb] at ha; replace hb : (((k : Nat) : Int) < ((xs.length : Nat) : Int)) := of_decide_eq_true hb
      refine wp_skip ?_
      refine then_normal ?_
      refine wp_seq ?_
      refine wp_block ?_
      refine wp_seq ?_
      refine wp_region_head 8 (fun w => Reads w 1 (some ad1) xs.length (u8s xs) ∧ Reads w 1 (some ad2) ys.length (u8s ys) ∧ True) (by kernel_rfl) (by decide) ?_
      replace s := s.drew; generalize _root_.Go.World.drew _ = w at s ⊢
      have hS : (fun w => Reads w 1 (some ad1) xs.length (u8s xs) ∧ Reads w 1 (some ad2) ys.length (u8s ys) ∧ True) w := ⟨hr1 _ s.sat, hr2 _ s.sat, trivial⟩
      refine hd_val (i := 0) (.slice (some ad1) xs.length c) ha rfl (by kernel_rfl) (fun _ _ _ h => h) (by kernel_rfl) (fun w hS => (by kernel_rfl)) hS ?_
      clear ha; intro a ha
      refine hd_val (i := 1) (.int .i64 ((k : Nat) : Int)) ha rfl (by kernel_rfl) (fun _ _ _ h => h) (by kernel_rfl) (fun w hS => (by kernel_rfl)) hS ?_
      clear ha; intro a ha
      refine hd_val (i := 2) (.pointer (some (ad1.add (k * 1)))) ha rfl (by kernel_rfl) (fun _ _ _ h => h) (by kernel_rfl) (fun w hS => (run_indexAddr' (kd := .i64) (n := xs.length) (c := c) k rfl Try.underlying27 Try.sizeOf5 (by kernel_rfl) (by kernel_rfl) rfl (by first | assumption | omega) _)) hS ?_
      clear ha; intro a ha
      refine hd_val (i := 3) (.int .u8 (xs.getD k 0)) ha rfl (by kernel_rfl) (fun _ _ _ h => h) (by kernel_rfl) (fun w hS => run_loadRow1 (m := k) hS.1 rfl (by kernel_rfl) Try.isAgg5 (u8s_at xs k (by omega))) hS ?_
      clear ha; intro a ha
      refine hd_val (i := 4) (.slice (some ad2) ys.length d) ha rfl (by kernel_rfl) (fun _ _ _ h => h) (by kernel_rfl) (fun w hS => (by kernel_rfl)) hS ?_
      clear ha; intro a ha
      refine hd_val (i := 5) (.int .i64 ((k : Nat) : Int)) ha rfl (by kernel_rfl) (fun _ _ _ h => h) (by kernel_rfl) (fun w hS => (by kernel_rfl)) hS ?_
      clear ha; intro a ha
      refine hd_val (i := 6) (.pointer (some (ad2.add (k * 1)))) ha rfl (by kernel_rfl) (fun _ _ _ h => h) (by kernel_rfl) (fun w hS => (run_indexAddr' (kd := .i64) (n := ys.length) (c := d) k rfl Try.underlying27 Try.sizeOf5 (by kernel_rfl) (by kernel_rfl) rfl (by first | assumption | omega) _)) hS ?_
      clear ha; intro a ha
      refine hd_val (i := 7) (.int .u8 (ys.getD k 0)) ha rfl (by kernel_rfl) (fun _ _ _ h => h) (by kernel_rfl) (fun w hS => run_loadRow1 (m := k) hS.2.1 rfl (by kernel_rfl) Try.isAgg5 (u8s_at ys k (by omega))) hS ?_
      clear ha; intro a ha
      refine Head.done (by kernel_rfl) ?_
      clear hS; simp only [List.drop_succ_cons, List.drop_zero]
      refine st_val (.bool ((xs.getD k 0) != (ys.getD k 0))) ha (by kernel_rfl) (by kernel_rfl) ?_
      clear ha; intro a ha
      refine wpList_nil ?_
      refine then_normal ?_
      refine wp_part ((xs.getD k 0) != (ys.getD k 0)) ha rfl (by kernel_rfl) (fun hb => ?_) (fun hb => ?_)
      · rw [hb] at ha; have hb_ := hb; replace hb := bne_iff_ne.1 hb
        refine wp_seq ?_
        refine wp_region_lit ?_
        refine st_val (.bool false) ha (by kernel_rfl) (by kernel_rfl) ?_
        clear ha; intro a ha
        refine wpList_nil ?_
        refine then_normal ?_
        refine wp_ret ?_
        refine block_ret ?_
        refine then_ret ?_
        refine then_ret ?_
        refine block_ret ?_
        refine then_ret ?_
        refine ret_with (v := .bool false) ha (results_1 rfl ha (res_tmp (by kernel_rfl) (by kernel_rfl))) ?_
        exact ⟨by rw [decide_eq_false (fun e => hb (by rw [e]))], s⟩
      · rw [hb] at ha; have hb_ := hb; replace hb := bne_eq_false_iff_eq.1 hb
        refine wp_skip ?_
        refine block_normal ?_
        refine then_normal ?_
        refine wp_region_lit ?_
        refine st_val (.int .i64 ((k : Nat) : Int)) ha (by kernel_rfl) (by kernel_rfl) ?_
        clear ha; intro a ha
        refine st_val (.int .i64 ((k + 1 : Nat) : Int)) ha (by kernel_rfl) (run_arith (((k : Nat) : Int) + (1 : Int)) ((k + 1 : Nat) : Int) rfl (by kernel_rfl) (by kernel_rfl) (.inl ⟨rfl, rfl⟩) (by rw [wrap64_in (by omega)]; try omega) _) ?_
        clear ha; intro a ha
        refine st_val (.int .i64 ((k + 1 : Nat) : Int)) ha (by kernel_rfl) (by kernel_rfl) ?_
        clear ha; intro a ha
        refine wpList_nil ?_
        refine then_normal ?_
        exact ⟨k + 1, by omega, (Has.cons ha (by kernel_rfl) (by kernel_rfl) (Has.cons ha (by kernel_rfl) (by kernel_rfl) (Has.cons ha (by kernel_rfl) (by kernel_rfl) (Has.nil ha)))), s, by omega, take_step (by omega) (by omega) hp.2 hb⟩
    · rw [hb] at ha; replace hb : ¬ (((k : Nat) : Int) < ((xs.length : Nat) : Int)) := of_decide_eq_false hb
      refine wp_exit ?_
      refine then_exit ?_
      refine then_exit ?_
      refine block_hit ?_
      refine then_normal ?_
      refine wp_seq ?_
      refine wp_region_lit ?_
      refine st_val (.bool true) ha (by kernel_rfl) (by kernel_rfl) ?_
      clear ha; intro a ha
      refine wpList_nil ?_
      refine then_normal ?_
      refine wp_ret ?_
      refine ret_with (v := .bool true) ha (results_1 rfl ha (res_tmp (by kernel_rfl) (by kernel_rfl))) ?_
      have hk : k = xs.length := by have := hp.1; omega
      subst hk
      have he := hp.2
      rw [List.take_length, h, List.take_length] at he
      exact ⟨by rw [decide_eq_true he], s⟩

theorem eqBytes_zero (W : World) (L : List Chunk) (w : World) (A B : Option Addr) (c d : Nat) (s : St W L w) :
    Calls Try.prog 33 #[.slice A 0 c, .slice B 0 d] w fun e w' => e = .returned (.bool true) ∧ St W L w' := by
  refine enter_args (l := [.slice A 0 c, .slice B 0 d]) Try.func33 rfl rfl (Nat.le_of_ble_eq_true rfl) ?_
  intro a ha; replace ha : Has a 26 [(0, .slice A 0 c), (1, .slice B 0 d)] := ha
  refine wp_seq ?_
  refine wp_region_lit ?_
  refine st_val (.bool false) ha (by kernel_rfl) (by kernel_rfl) ?_
  clear ha; intro a ha
  refine wpList_nil ?_
  refine then_normal ?_
  refine wp_seq ?_
  refine wp_seq ?_
  refine wp_region_lit ?_
  refine st_val (.slice A 0 c) ha (by kernel_rfl) (by kernel_rfl) ?_
  clear ha; intro a ha
  refine st_val (.int .i64 0) ha (by kernel_rfl) (by kernel_rfl) ?_
  clear ha; intro a ha
  refine st_val (.slice B 0 d) ha (by kernel_rfl) (by kernel_rfl) ?_
  clear ha; intro a ha
  refine st_val (.int .i64 0) ha (by kernel_rfl) (by kernel_rfl) ?_
  clear ha; intro a ha
  refine st_val (.bool false) ha (by kernel_rfl) (by kernel_rfl) ?_
  clear ha; intro a ha
  refine wpList_nil ?_
  refine then_normal ?_
  refine wp_false ha rfl (by kernel_rfl) ?_
  refine wp_skip ?_
  refine then_normal ?_
  refine wp_seq ?_
  refine wp_seq ?_
  refine wp_region_lit ?_
  refine st_val (.int .i64 0) ha (by kernel_rfl) (by kernel_rfl) ?_
  clear ha; intro a ha
  refine wpList_nil ?_
  refine then_normal ?_
  refine wp_block ?_
  refine wp_loopG (G := Unit) (fun _g a w => Has a 26 [(0, .slice A 0 c), (1, .slice B 0 d), (5, .int .i64 0)] ∧ St W (L) w ∧ True) (fun _g => 0) () ?_ ?_
  · exact ⟨(Has.cons ha (by kernel_rfl) (by kernel_rfl) (Has.cons ha (by kernel_rfl) (by kernel_rfl) (Has.cons ha (by kernel_rfl) (by kernel_rfl) (Has.nil ha)))), s, trivial⟩
  · clear ha s; rintro _g a w ⟨ha, s, hp⟩
    refine wp_seq ?_
    refine wp_seq ?_
    refine wp_region_lit ?_
    refine st_val (.int .i64 0) ha (by kernel_rfl) (by kernel_rfl) ?_
    clear ha; intro a ha
    refine st_val (.slice A 0 c) ha (by kernel_rfl) (by kernel_rfl) ?_
    clear ha; intro a ha
    refine st_val (.int .i64 0) ha (by kernel_rfl) (by kernel_rfl) ?_
    clear ha; intro a ha
    refine st_val (.bool false) ha (by kernel_rfl) (by kernel_rfl) ?_
    clear ha; intro a ha
    refine wpList_nil ?_
    refine then_normal ?_
    refine wp_false ha rfl (by kernel_rfl) ?_
    refine wp_exit ?_
    refine then_exit ?_
    refine then_exit ?_
    refine block_hit ?_
    refine then_normal ?_
    refine wp_seq ?_
    refine wp_region_lit ?_
    refine st_val (.bool true) ha (by kernel_rfl) (by kernel_rfl) ?_
    clear ha; intro a ha
    refine wpList_nil ?_
    refine then_normal ?_
    refine wp_ret ?_
    refine ret_with (v := .bool true) ha (results_1 rfl ha (res_tmp (by kernel_rfl) (by kernel_rfl))) ?_
    exact ⟨rfl, s⟩

theorem eqBytes_any (W : World) (L : List Chunk) (w : World) (A B : Option Addr) (c d n m : Nat) (xs ys : List Int) (hn : n = xs.length) (hm : m = ys.length) (hr1 : Knows L fun w => Reads w 1 A xs.length (u8s xs)) (hr2 : Knows L fun w => Reads w 1 B ys.length (u8s ys)) (hx : xs.length ≤ 140737488351232) (s : St W L w) :
    Calls Try.prog 33 #[.slice A n c, .slice B m d] w fun e w' => e = .returned (.bool (decide (xs = ys))) ∧ St W L w' := by
  subst hn hm
  by_cases h : xs.length = ys.length
  · by_cases h0 : xs.length = 0
    · have e1 : xs = [] := by simpa using h0
      have e2 : ys = [] := by rw [e1] at h; simpa using h.symm
      subst e1 e2
      refine (eqBytes_zero W L w A B c d s).mono fun e w' h => ?_
      simpa using h
    · have a1 := (hr1 w s.1).2.1 (by omega)
      have a2 := (hr2 w s.1).2.1 (by omega)
      cases A with
      | none => exact absurd rfl a1
      | some ad1 =>
        cases B with
        | none => exact absurd rfl a2
        | some ad2 => exact eqBytes_some W L w ad1 ad2 c d xs ys hr1 hr2 h hx s
  · exact eqBytes_ne W L w A B c d xs ys hr1 hr2 h s

theorem same_any (W : World) (L : List Chunk) (w : World) (f1 t1 f2 t2 : Int) (A B : Option Addr) (c d n m : Nat) (xs ys : List Int) (hn : n = xs.length) (hm : m = ys.length) (hr1 : Knows L fun w => Reads w 1 A xs.length (u8s xs)) (hr2 : Knows L fun w => Reads w 1 B ys.length (u8s ys)) (hx : xs.length ≤ 140737488351232) (s : St W L w) :
    Calls Try.prog 19 #[.agg #[.int .i64 f1, .int .i64 t1, .slice A n c], .agg #[.int .i64 f2, .int .i64 t2, .slice B m d]] w fun e w' => e = .returned (.bool (decide (f1 = f2 ∧ t1 = t2 ∧ xs = ys))) ∧ St W L w' := by
  refine enter_args (l := [.agg #[.int .i64 f1, .int .i64 t1, .slice A n c], .agg #[.int .i64 f2, .int .i64 t2, .slice B m d]]) Try.func19 rfl rfl (Nat.le_of_ble_eq_true rfl) ?_
  intro a ha; replace ha : Has a 24 [(0, .agg #[.int .i64 f1, .int .i64 t1, .slice A n c]), (1, .agg #[.int .i64 f2, .int .i64 t2, .slice B m d])] := ha
  refine wp_seq ?_
  refine wp_region_lit ?_
  refine st_ex ha (by kernel_rfl) (ex_box [.int .i64 f1, .int .i64 t1, .slice A n c] s rfl (by kernel_rfl)) ?_
  clear ha; rintro _ w a ⟨g1, rfl, s⟩ ha
  replace s : St W (.blk g1 [.int .i64 f1, .int .i64 t1, .slice A n c] 29 :: L) w := s
  refine st_ex ha (by kernel_rfl) (ex_box [.int .i64 f2, .int .i64 t2, .slice B m d] s rfl (by kernel_rfl)) ?_
  clear ha; rintro _ w a ⟨g2, rfl, s⟩ ha
  replace s : St W (.blk g2 [.int .i64 f2, .int .i64 t2, .slice B m d] 29 :: .blk g1 [.int .i64 f1, .int .i64 t1, .slice A n c] 29 :: L) w := s
  refine st_val (.bool false) ha (by kernel_rfl) (by kernel_rfl) ?_
  clear ha; intro a ha
  refine wpList_nil ?_
  refine then_normal ?_
  refine wp_seq ?_
  refine wp_region_lit ?_
  refine st_val (.pointer (some ⟨g1, 0, none⟩)) ha (by kernel_rfl) (by kernel_rfl) ?_
  clear ha; intro a ha
  refine st_val (.int .i64 f1) ha (by kernel_rfl) (run_load1 (of_ := 0) (s.blkIs 1 rfl) rfl (by kernel_rfl) Try.isAgg3 rfl) ?_
  clear ha; intro a ha
  refine st_val (.pointer (some ⟨g2, 0, none⟩)) ha (by kernel_rfl) (by kernel_rfl) ?_
  clear ha; intro a ha
  refine st_val (.int .i64 f2) ha (by kernel_rfl) (run_load1 (of_ := 0) (s.blkIs 0 rfl) rfl (by kernel_rfl) Try.isAgg3 rfl) ?_
  clear ha; intro a ha
  refine st_val (.bool (f1 == f2)) ha (by kernel_rfl) (by kernel_rfl) ?_
  clear ha; intro a ha
  refine st_val (.bool (f1 == f2)) ha (by kernel_rfl) (by kernel_rfl) ?_
  clear ha; intro a ha
  rcases Bool.eq_false_or_eq_true (f1 == f2) with hb | hb
  · rw [hb] at ha; have hb_ := hb; replace hb := eq_of_beq hb
    refine st_val (.pointer (some ⟨g1, 1, none⟩)) ha (by kernel_rfl) (by kernel_rfl) ?_
    clear ha; intro a ha
    refine st_val (.int .i64 t1) ha (by kernel_rfl) (run_load1 (of_ := 1) (s.blkIs 1 rfl) rfl (by kernel_rfl) Try.isAgg3 rfl) ?_
    clear ha; intro a ha
    refine st_val (.pointer (some ⟨g2, 1, none⟩)) ha (by kernel_rfl) (by kernel_rfl) ?_
    clear ha; intro a ha
    refine st_val (.int .i64 t2) ha (by kernel_rfl) (run_load1 (of_ := 1) (s.blkIs 0 rfl) rfl (by kernel_rfl) Try.isAgg3 rfl) ?_
    clear ha; intro a ha
    refine st_val (.bool (t1 == t2)) ha (by kernel_rfl) (by kernel_rfl) ?_
    clear ha; intro a ha
    refine st_val (.bool (t1 == t2)) ha (by kernel_rfl) (by kernel_rfl) ?_
    clear ha; intro a ha
    refine st_val (.bool (t1 == t2)) ha (by kernel_rfl) (by kernel_rfl) ?_
    clear ha; intro a ha
    rcases Bool.eq_false_or_eq_true (t1 == t2) with hb | hb
    · rw [hb] at ha; have hb_ := hb; replace hb := eq_of_beq hb
      refine st_val (.pointer (some ⟨g1, 2, none⟩)) ha (by kernel_rfl) (by kernel_rfl) ?_
      clear ha; intro a ha
      refine st_val (.slice A n c) ha (by kernel_rfl) (run_load1 (of_ := 2) (s.blkIs 1 rfl) rfl (by kernel_rfl) Try.isAgg27 rfl) ?_
      clear ha; intro a ha
      refine st_val (.pointer (some ⟨g2, 2, none⟩)) ha (by kernel_rfl) (by kernel_rfl) ?_
      clear ha; intro a ha
      refine st_val (.slice B m d) ha (by kernel_rfl) (run_load1 (of_ := 2) (s.blkIs 0 rfl) rfl (by kernel_rfl) Try.isAgg27 rfl) ?_
      clear ha; intro a ha
      refine st_call ha (by kernel_rfl) (by kernel_rfl) (eqBytes_any W _ w A B c d n m xs ys hn hm (((hr1).up _).up _) (((hr2).up _).up _) hx s) ?_
      rintro _ w ⟨rfl, s⟩
      replace s : St W (.blk g2 [.int .i64 f2, .int .i64 t2, .slice B m d] 29 :: .blk g1 [.int .i64 f1, .int .i64 t1, .slice A n c] 29 :: L) w := s
      refine ⟨_, rfl, ?_⟩; clear ha; intro a ha
      refine st_val (.bool (decide (xs = ys))) ha (by kernel_rfl) (by kernel_rfl) ?_
      clear ha; intro a ha
      refine st_val (.bool (decide (xs = ys))) ha (by kernel_rfl) (by kernel_rfl) ?_
      clear ha; intro a ha
      refine wpList_nil ?_
      refine then_normal ?_
      refine wp_ret ?_
      refine ret_with (v := .bool (decide (xs = ys))) ha (results_1 rfl ha (res_tmp (by kernel_rfl) (by kernel_rfl))) ?_
      replace s : St W (L) w := St.mid (A := []) (B := [.blk g2 [.int .i64 f2, .int .i64 t2, .slice B m d] 29, .blk g1 [.int .i64 f1, .int .i64 t1, .slice A n c] 29]) s
      refine ⟨?_, s⟩
      congr 2
      first | (rw [decide_eq_decide]; simp_all; done) | (symm; rw [decide_eq_false_iff_not]; simp_all; done) | (symm; rw [decide_eq_true_iff]; simp_all; done)
    · rw [hb] at ha; have hb_ := hb; replace hb := ne_of_beq_false hb
      refine st_pass ha (by kernel_rfl) ?_
      clear ha; intro a ha
      refine st_pass ha (by kernel_rfl) ?_
      clear ha; intro a ha
      refine st_pass ha (by kernel_rfl) ?_
      clear ha; intro a ha
      refine st_pass ha (by kernel_rfl) ?_
      clear ha; intro a ha
      refine st_pass ha (by kernel_rfl) ?_
      clear ha; intro a ha
      refine st_val (.bool false) ha (by kernel_rfl) (by kernel_rfl) ?_
      clear ha; intro a ha
      refine st_val (.bool false) ha (by kernel_rfl) (by kernel_rfl) ?_
      clear ha; intro a ha
      refine wpList_nil ?_
      refine then_normal ?_
      refine wp_ret ?_
      refine ret_with (v := .bool false) ha (results_1 rfl ha (res_tmp (by kernel_rfl) (by kernel_rfl))) ?_
      replace s : St W (L) w := St.mid (A := []) (B := [.blk g2 [.int .i64 f2, .int .i64 t2, .slice B m d] 29, .blk g1 [.int .i64 f1, .int .i64 t1, .slice A n c] 29]) s
      refine ⟨?_, s⟩
      congr 2
      first | (rw [decide_eq_decide]; simp_all; done) | (symm; rw [decide_eq_false_iff_not]; simp_all; done) | (symm; rw [decide_eq_true_iff]; simp_all; done)
  · rw [hb] at ha; have hb_ := hb; replace hb := ne_of_beq_false hb
    refine st_pass ha (by kernel_rfl) ?_
    clear ha; intro a ha
    refine st_pass ha (by kernel_rfl) ?_
    clear ha; intro a ha
    refine st_pass ha (by kernel_rfl) ?_
    clear ha; intro a ha
    refine st_pass ha (by kernel_rfl) ?_
    clear ha; intro a ha
    refine st_pass ha (by kernel_rfl) ?_
    clear ha; intro a ha
    refine st_val (.bool false) ha (by kernel_rfl) (by kernel_rfl) ?_
    clear ha; intro a ha
    refine st_val (.bool false) ha (by kernel_rfl) (by kernel_rfl) ?_
    clear ha; intro a ha
    refine st_pass ha (by kernel_rfl) ?_
    clear ha; intro a ha
    refine st_pass ha (by kernel_rfl) ?_
    clear ha; intro a ha
    refine st_pass ha (by kernel_rfl) ?_
    clear ha; intro a ha
    refine st_pass ha (by kernel_rfl) ?_
    clear ha; intro a ha
    refine st_pass ha (by kernel_rfl) ?_
    clear ha; intro a ha
    refine st_val (.bool false) ha (by kernel_rfl) (by kernel_rfl) ?_
    clear ha; intro a ha
    refine st_val (.bool false) ha (by kernel_rfl) (by kernel_rfl) ?_
    clear ha; intro a ha
    refine wpList_nil ?_
    refine then_normal ?_
    refine wp_ret ?_
    refine ret_with (v := .bool false) ha (results_1 rfl ha (res_tmp (by kernel_rfl) (by kernel_rfl))) ?_
    replace s : St W (L) w := St.mid (A := []) (B := [.blk g2 [.int .i64 f2, .int .i64 t2, .slice B m d] 29, .blk g1 [.int .i64 f1, .int .i64 t1, .slice A n c] 29]) s
    refine ⟨?_, s⟩
    congr 2
    first | (rw [decide_eq_decide]; simp_all; done) | (symm; rw [decide_eq_false_iff_not]; simp_all; done) | (symm; rw [decide_eq_true_iff]; simp_all; done)

theorem is_true (W : World) (L : List Chunk) (w : World) (f1 t1 f2 t2 : Int) (A B : Option Addr) (c d n m : Nat) (xs ys : List Int) (hn : n = xs.length) (hm : m = ys.length) (hr1 : Knows L fun w => Reads w 1 A xs.length (u8s xs)) (hr2 : Knows L fun w => Reads w 1 B ys.length (u8s ys)) (hx : xs.length ≤ 140737488351232) (s : St W L w) :
    Calls Try.prog 26 #[.agg #[.int .i64 f1, .int .i64 t1, .slice A n c], .bool true, .agg #[.int .i64 f2, .int .i64 t2, .slice B m d]] w fun e w' => e = .returned (.bool (decide (f1 = f2 ∧ t1 = t2 ∧ xs = ys))) ∧ St W L w' := by
  refine enter_args (l := [.agg #[.int .i64 f1, .int .i64 t1, .slice A n c], .bool true, .agg #[.int .i64 f2, .int .i64 t2, .slice B m d]]) Try.func26 rfl rfl (Nat.le_of_ble_eq_true rfl) ?_
  intro a ha; replace ha : Has a 13 [(0, .agg #[.int .i64 f1, .int .i64 t1, .slice A n c]), (1, .bool true), (2, .agg #[.int .i64 f2, .int .i64 t2, .slice B m d])] := ha
  refine wp_seq ?_
  refine wp_region_lit ?_
  refine st_ex ha (by kernel_rfl) (ex_box [.int .i64 f1, .int .i64 t1, .slice A n c] s rfl (by kernel_rfl)) ?_
  clear ha; rintro _ w a ⟨g1, rfl, s⟩ ha
  replace s : St W (.blk g1 [.int .i64 f1, .int .i64 t1, .slice A n c] 29 :: L) w := s
  refine st_ex ha (by kernel_rfl) (ex_box [.int .i64 f2, .int .i64 t2, .slice B m d] s rfl (by kernel_rfl)) ?_
  clear ha; rintro _ w a ⟨g2, rfl, s⟩ ha
  replace s : St W (.blk g2 [.int .i64 f2, .int .i64 t2, .slice B m d] 29 :: .blk g1 [.int .i64 f1, .int .i64 t1, .slice A n c] 29 :: L) w := s
  refine st_val (.bool false) ha (by kernel_rfl) (by kernel_rfl) ?_
  clear ha; intro a ha
  refine wpList_nil ?_
  refine then_normal ?_
  refine wp_seq ?_
  refine wp_region_lit ?_
  refine st_val (.bool true) ha (by kernel_rfl) (by kernel_rfl) ?_
  clear ha; intro a ha
  refine st_val (.bool true) ha (by kernel_rfl) (by kernel_rfl) ?_
  clear ha; intro a ha
  refine st_val (.agg #[.int .i64 f1, .int .i64 t1, .slice A n c]) ha (by kernel_rfl) (run_loadN (of_ := 0) [.int .i64 f1, .int .i64 t1, .slice A n c] (s.blkIs 1 rfl) rfl (by kernel_rfl) Try.isAgg29 Try.sizeOf29 rfl (Nat.le_of_ble_eq_true rfl)) ?_
  clear ha; intro a ha
  refine st_val (.agg #[.int .i64 f2, .int .i64 t2, .slice B m d]) ha (by kernel_rfl) (run_loadN (of_ := 0) [.int .i64 f2, .int .i64 t2, .slice B m d] (s.blkIs 0 rfl) rfl (by kernel_rfl) Try.isAgg29 Try.sizeOf29 rfl (Nat.le_of_ble_eq_true rfl)) ?_
  clear ha; intro a ha
  refine st_call ha (by kernel_rfl) (by kernel_rfl) (same_any W _ w f1 t1 f2 t2 A B c d n m xs ys hn hm (((hr1).up _).up _) (((hr2).up _).up _) hx s) ?_
  rintro _ w ⟨rfl, s⟩
  replace s : St W (.blk g2 [.int .i64 f2, .int .i64 t2, .slice B m d] 29 :: .blk g1 [.int .i64 f1, .int .i64 t1, .slice A n c] 29 :: L) w := s
  refine ⟨_, rfl, ?_⟩; clear ha; intro a ha
  refine st_val (.bool (decide (f1 = f2 ∧ t1 = t2 ∧ xs = ys))) ha (by kernel_rfl) (by kernel_rfl) ?_
  clear ha; intro a ha
  refine st_val (.bool (decide (f1 = f2 ∧ t1 = t2 ∧ xs = ys))) ha (by kernel_rfl) (by kernel_rfl) ?_
  clear ha; intro a ha
  refine wpList_nil ?_
  refine then_normal ?_
  refine wp_ret ?_
  refine ret_with (v := .bool (decide (f1 = f2 ∧ t1 = t2 ∧ xs = ys))) ha (results_1 rfl ha (res_tmp (by kernel_rfl) (by kernel_rfl))) ?_
  replace s : St W (L) w := St.mid (A := []) (B := [.blk g2 [.int .i64 f2, .int .i64 t2, .slice B m d] 29, .blk g1 [.int .i64 f1, .int .i64 t1, .slice A n c] 29]) s
  exact ⟨rfl, s⟩

theorem is_false (W : World) (L : List Chunk) (w : World) (f1 t1 f2 t2 : Int) (A B : Option Addr) (c d n m : Nat) (s : St W L w) :
    Calls Try.prog 26 #[.agg #[.int .i64 f1, .int .i64 t1, .slice A n c], .bool false, .agg #[.int .i64 f2, .int .i64 t2, .slice B m d]] w fun e w' => e = .returned (.bool false) ∧ St W L w' := by
  refine enter_args (l := [.agg #[.int .i64 f1, .int .i64 t1, .slice A n c], .bool false, .agg #[.int .i64 f2, .int .i64 t2, .slice B m d]]) Try.func26 rfl rfl (Nat.le_of_ble_eq_true rfl) ?_
  intro a ha; replace ha : Has a 13 [(0, .agg #[.int .i64 f1, .int .i64 t1, .slice A n c]), (1, .bool false), (2, .agg #[.int .i64 f2, .int .i64 t2, .slice B m d])] := ha
  refine wp_seq ?_
  refine wp_region_lit ?_
  refine st_ex ha (by kernel_rfl) (ex_box [.int .i64 f1, .int .i64 t1, .slice A n c] s rfl (by kernel_rfl)) ?_
  clear ha; rintro _ w a ⟨g1, rfl, s⟩ ha
  replace s : St W (.blk g1 [.int .i64 f1, .int .i64 t1, .slice A n c] 29 :: L) w := s
  refine st_ex ha (by kernel_rfl) (ex_box [.int .i64 f2, .int .i64 t2, .slice B m d] s rfl (by kernel_rfl)) ?_
  clear ha; rintro _ w a ⟨g2, rfl, s⟩ ha
  replace s : St W (.blk g2 [.int .i64 f2, .int .i64 t2, .slice B m d] 29 :: .blk g1 [.int .i64 f1, .int .i64 t1, .slice A n c] 29 :: L) w := s
  refine st_val (.bool false) ha (by kernel_rfl) (by kernel_rfl) ?_
  clear ha; intro a ha
  refine wpList_nil ?_
  refine then_normal ?_
  refine wp_seq ?_
  refine wp_region_lit ?_
  refine st_val (.bool false) ha (by kernel_rfl) (by kernel_rfl) ?_
  clear ha; intro a ha
  refine st_val (.bool false) ha (by kernel_rfl) (by kernel_rfl) ?_
  clear ha; intro a ha
  refine st_pass ha (by kernel_rfl) ?_
  clear ha; intro a ha
  refine st_pass ha (by kernel_rfl) ?_
  clear ha; intro a ha
  refine st_pass ha (by kernel_rfl) ?_
  clear ha; intro a ha
  refine st_val (.bool false) ha (by kernel_rfl) (by kernel_rfl) ?_
  clear ha; intro a ha
  refine st_val (.bool false) ha (by kernel_rfl) (by kernel_rfl) ?_
  clear ha; intro a ha
  refine wpList_nil ?_
  refine then_normal ?_
  refine wp_ret ?_
  refine ret_with (v := .bool false) ha (results_1 rfl ha (res_tmp (by kernel_rfl) (by kernel_rfl))) ?_
  replace s : St W (L) w := St.mid (A := []) (B := [.blk g2 [.int .i64 f2, .int .i64 t2, .slice B m d] 29, .blk g1 [.int .i64 f1, .int .i64 t1, .slice A n c] 29]) s
  exact ⟨rfl, s⟩

theorem mail_any (W : World) (L : List Chunk) (w : World) (f t b : Int) (s : St W L w) :
    Calls Try.prog 24 #[.int .i64 f, .int .i64 t, .int .u8 b] w fun e w' => ∃ A c, e = .returned (.agg #[.int .i64 f, .int .i64 t, .slice A 1 c]) ∧ St W (Own 5 1 A 1 c (u8s [b]) :: L) w' := by
  refine enter_args (l := [.int .i64 f, .int .i64 t, .int .u8 b]) Try.func24 rfl rfl (Nat.le_of_ble_eq_true rfl) ?_
  intro a ha; replace ha : Has a 12 [(0, .int .i64 f), (1, .int .i64 t), (2, .int .u8 b)] := ha
  refine wp_seq ?_
  refine wp_region_lit ?_
  refine st_ex ha (by kernel_rfl) (ex_alloc [.int .i64 0, .int .i64 0, .slice none 0 0] s rfl (Try.zeroValue29 _) (by kernel_rfl)) ?_
  clear ha; rintro _ w a ⟨g1, rfl, s⟩ ha
  replace s : St W (.blk g1 [.int .i64 0, .int .i64 0, .slice none 0 0] 29 :: L) w := s
  refine wpList_nil ?_
  refine then_normal ?_
  refine wp_seq ?_
  refine wp_region_lit ?_
  refine st_val (.int .i64 f) ha (by kernel_rfl) (by kernel_rfl) ?_
  clear ha; intro a ha
  refine st_val (.int .i64 t) ha (by kernel_rfl) (by kernel_rfl) ?_
  clear ha; intro a ha
  refine st_val (.int .u8 b) ha (by kernel_rfl) (by kernel_rfl) ?_
  clear ha; intro a ha
  refine st_ex ha (by kernel_rfl) (ex_buildSlice elt27 _ zs27 [.int .u8 b] s rfl (by kernel_rfl) (by decide)) ?_
  clear ha; rintro _ w a ⟨g2, rfl, s⟩ ha
  replace s : St W (.blk g2 [.int .u8 b] 5 :: .blk g1 [.int .i64 0, .int .i64 0, .slice none 0 0] 29 :: L) w := s
  refine st_val (.agg #[.int .i64 f, .int .i64 t, .slice (some ⟨g2, 0, none⟩) 1 1]) ha (by kernel_rfl) (by kernel_rfl) ?_
  clear ha; intro a ha
  refine st_exd ha (by kernel_rfl) (ex_store (of_ := 0) 1 [.int .i64 f, .int .i64 t, .slice (some ⟨g2, 0, none⟩) 1 1] s rfl rfl (by kernel_rfl) (by kernel_rfl) (Try.sizeOf29 _) rfl (by simp [Value.oneCell']) (Nat.le_of_ble_eq_true rfl)) ?_
  clear ha; rintro w a s ha
  replace s : St W (.blk g2 [.int .u8 b] 5 :: .blk g1 [.int .i64 f, .int .i64 t, .slice (some ⟨g2, 0, none⟩) 1 1] 29 :: L) w := s
  refine wpList_nil ?_
  refine then_normal ?_
  refine wp_ret ?_
  refine ret_with (v := .agg #[.int .i64 f, .int .i64 t, .slice (some ⟨g2, 0, none⟩) 1 1]) ha (results_1 rfl ha (res_cellN (s.blkIs 1 rfl) (by kernel_rfl) (by kernel_rfl) Try.isAgg29 Try.sizeOf29 rfl)) ?_
  replace s : St W (.blk g2 [.int .u8 b] 5 :: L) w := St.mid (A := [.blk g2 [.int .u8 b] 5]) (B := [.blk g1 [.int .i64 f, .int .i64 t, .slice (some ⟨g2, 0, none⟩) 1 1] 29]) s
  exact ⟨_, _, rfl, Own.close rfl (Nat.le_refl _) (by simp [maxLen]) (by simp) (fun j u hu => by rw [Nat.zero_add]; exact hu) s⟩

theorem first_other (W : World) (L : List Chunk) (w : World) (f t : Int) (A : Option Addr) (n c : Nat) (hn : n ≠ 1) (s : St W L w) :
    Calls Try.prog 25 #[.agg #[.int .i64 f, .int .i64 t, .slice A n c]] w fun e w' => e = .returned (.int .u8 255) ∧ St W L w' := by
  refine enter_args (l := [.agg #[.int .i64 f, .int .i64 t, .slice A n c]]) Try.func25 rfl rfl (Nat.le_of_ble_eq_true rfl) ?_
  intro a ha; replace ha : Has a 11 [(0, .agg #[.int .i64 f, .int .i64 t, .slice A n c])] := ha
  refine wp_seq ?_
  refine wp_region_lit ?_
  refine st_ex ha (by kernel_rfl) (ex_box [.int .i64 f, .int .i64 t, .slice A n c] s rfl (by kernel_rfl)) ?_
  clear ha; rintro _ w a ⟨g1, rfl, s⟩ ha
  replace s : St W (.blk g1 [.int .i64 f, .int .i64 t, .slice A n c] 29 :: L) w := s
  refine st_val (.int .u8 0) ha (by kernel_rfl) (by kernel_rfl) ?_
  clear ha; intro a ha
  refine wpList_nil ?_
  refine then_normal ?_
  refine wp_seq ?_
  refine wp_seq ?_
  refine wp_region_lit ?_
  refine st_val (.pointer (some ⟨g1, 2, none⟩)) ha (by kernel_rfl) (by kernel_rfl) ?_
  clear ha; intro a ha
  refine st_val (.slice A n c) ha (by kernel_rfl) (run_load1 (of_ := 2) (s.blkIs 0 rfl) rfl (by kernel_rfl) Try.isAgg27 rfl) ?_
  clear ha; intro a ha
  refine st_val (.int .i64 ((n : Nat) : Int)) ha (by kernel_rfl) (by kernel_rfl) ?_
  clear ha; intro a ha
  refine st_val (.bool true) ha (by kernel_rfl) (run_known (show (((n : Nat) : Int) != (1 : Int)) = true from bne_iff_ne.2 (by omega)) (by kernel_rfl)) ?_
  clear ha; intro a ha
  refine wpList_nil ?_
  refine then_normal ?_
  refine wp_true ha rfl (by kernel_rfl) ?_
  refine wp_seq ?_
  refine wp_region_lit ?_
  refine st_val (.int .u8 255) ha (by kernel_rfl) (by kernel_rfl) ?_
  clear ha; intro a ha
  refine wpList_nil ?_
  refine then_normal ?_
  refine wp_ret ?_
  refine then_ret ?_
  refine ret_with (v := .int .u8 255) ha (results_1 rfl ha (res_tmp (by kernel_rfl) (by kernel_rfl))) ?_
  replace s : St W (L) w := St.mid (A := []) (B := [.blk g1 [.int .i64 f, .int .i64 t, .slice A n c] 29]) s
  exact ⟨rfl, s⟩

theorem first_one_ (W : World) (L : List Chunk) (w : World) (f t : Int) (ad : Addr) (c : Nat) (b : Int) (hr : Knows L fun w => Reads w 1 (some ad) 1 (u8s [b])) (s : St W L w) :
    Calls Try.prog 25 #[.agg #[.int .i64 f, .int .i64 t, .slice (some ad) 1 c]] w fun e w' => e = .returned (.int .u8 b) ∧ St W L w' := by
  refine enter_args (l := [.agg #[.int .i64 f, .int .i64 t, .slice (some ad) 1 c]]) Try.func25 rfl rfl (Nat.le_of_ble_eq_true rfl) ?_
  intro a ha; replace ha : Has a 11 [(0, .agg #[.int .i64 f, .int .i64 t, .slice (some ad) 1 c])] := ha
  refine wp_seq ?_
  refine wp_region_lit ?_
  refine st_ex ha (by kernel_rfl) (ex_box [.int .i64 f, .int .i64 t, .slice (some ad) 1 c] s rfl (by kernel_rfl)) ?_
  clear ha; rintro _ w a ⟨g1, rfl, s⟩ ha
  replace s : St W (.blk g1 [.int .i64 f, .int .i64 t, .slice (some ad) 1 c] 29 :: L) w := s
  refine st_val (.int .u8 0) ha (by kernel_rfl) (by kernel_rfl) ?_
  clear ha; intro a ha
  refine wpList_nil ?_
  refine then_normal ?_
  refine wp_seq ?_
  refine wp_seq ?_
  refine wp_region_lit ?_
  refine st_val (.pointer (some ⟨g1, 2, none⟩)) ha (by kernel_rfl) (by kernel_rfl) ?_
  clear ha; intro a ha
  refine st_val (.slice (some ad) 1 c) ha (by kernel_rfl) (run_load1 (of_ := 2) (s.blkIs 0 rfl) rfl (by kernel_rfl) Try.isAgg27 rfl) ?_
  clear ha; intro a ha
  refine st_val (.int .i64 1) ha (by kernel_rfl) (by kernel_rfl) ?_
  clear ha; intro a ha
  refine st_val (.bool false) ha (by kernel_rfl) (by kernel_rfl) ?_
  clear ha; intro a ha
  refine wpList_nil ?_
  refine then_normal ?_
  refine wp_false ha rfl (by kernel_rfl) ?_
  refine wp_skip ?_
  refine then_normal ?_
  refine wp_seq ?_
  refine wp_region_lit ?_
  refine st_val (.pointer (some ⟨g1, 2, none⟩)) ha (by kernel_rfl) (by kernel_rfl) ?_
  clear ha; intro a ha
  refine st_val (.slice (some ad) 1 c) ha (by kernel_rfl) (run_load1 (of_ := 2) (s.blkIs 0 rfl) rfl (by kernel_rfl) Try.isAgg27 rfl) ?_
  clear ha; intro a ha
  refine st_val (.pointer (some (ad.add (0 * 1)))) ha (by kernel_rfl) (run_indexAddr' (kd := .i64) (n := 1) (c := c) 0 rfl Try.underlying27 Try.sizeOf5 (by kernel_rfl) (by kernel_rfl) rfl (by first | assumption | omega) _) ?_
  clear ha; intro a ha
  refine st_val (.int .u8 b) ha (by kernel_rfl) (run_loadRow1 (m := 0) (hr _ s.sat.tail) rfl (by kernel_rfl) Try.isAgg5 rfl) ?_
  clear ha; intro a ha
  refine st_val (.int .u8 b) ha (by kernel_rfl) (by kernel_rfl) ?_
  clear ha; intro a ha
  refine wpList_nil ?_
  refine then_normal ?_
  refine wp_ret ?_
  refine ret_with (v := .int .u8 b) ha (results_1 rfl ha (res_tmp (by kernel_rfl) (by kernel_rfl))) ?_
  replace s : St W (L) w := St.mid (A := []) (B := [.blk g1 [.int .i64 f, .int .i64 t, .slice (some ad) 1 c] 29]) s
  exact ⟨rfl, s⟩

theorem first_one (W : World) (L : List Chunk) (w : World) (f t : Int) (A : Option Addr) (n c : Nat) (b : Int) (hn : n = 1) (hr : Knows L fun w => Reads w 1 A 1 (u8s [b])) (s : St W L w) :
    Calls Try.prog 25 #[.agg #[.int .i64 f, .int .i64 t, .slice A n c]] w fun e w' => e = .returned (.int .u8 b) ∧ St W L w' := by
  subst hn
  cases A with
  | none => exact absurd rfl ((hr w s.1).2.1 (by omega))
  | some ad => exact first_one_ W L w f t ad c b hr s

theorem bring_pos (W : World) (L : List Chunk) (w : World) (i n : Int) (hn : 0 < n) (hb : n ≤ 1000000) (s : St W L w) :
    Calls Try.prog 10 #[.int .i64 i, .int .i64 n] w fun e w' => e = .returned (.int .i64 (i % n)) ∧ St W L w' := by
  have ht1 := Int.tmod_lt_of_pos i hn
  have ht2 := Int.lt_tmod_of_pos i hn
  have ht3 := Int.tmod_def i n
  have ht4 : i % n = if i.tmod n < 0 then i.tmod n + n else i.tmod n := by
    have h1 := Int.tmod_eq_emod (a := i) (b := n)
    have h2 := Int.emod_nonneg i (show n ≠ 0 by omega)
    have h3 := Int.emod_lt_of_pos i hn
    split at h1 <;> split <;> omega
  refine enter_args (l := [.int .i64 i, .int .i64 n]) Try.func10 rfl rfl (Nat.le_of_ble_eq_true rfl) ?_
  intro a ha; replace ha : Has a 16 [(0, .int .i64 i), (1, .int .i64 n)] := ha
  refine wp_seq ?_
  refine wp_region_lit ?_
  refine st_val (.int .i64 0) ha (by kernel_rfl) (by kernel_rfl) ?_
  clear ha; intro a ha
  refine wpList_nil ?_
  refine then_normal ?_
  refine wp_seq ?_
  refine wp_seq ?_
  refine wp_region_lit ?_
  refine st_val (.int .i64 n) ha (by kernel_rfl) (by kernel_rfl) ?_
  clear ha; intro a ha
  refine st_val (.bool false) ha (by kernel_rfl) (run_known (show (decide (n ≤ (0 : Int))) = false from decide_eq_false (by omega)) (by kernel_rfl)) ?_
  clear ha; intro a ha
  refine wpList_nil ?_
  refine then_normal ?_
  refine wp_false ha rfl (by kernel_rfl) ?_
  refine wp_skip ?_
  refine then_normal ?_
  refine wp_seq ?_
  refine wp_region_lit ?_
  refine st_val (.int .i64 i) ha (by kernel_rfl) (by kernel_rfl) ?_
  clear ha; intro a ha
  refine st_val (.int .i64 n) ha (by kernel_rfl) (by kernel_rfl) ?_
  clear ha; intro a ha
  refine st_val (.int .i64 ((i).tmod n)) ha (by kernel_rfl) (run_rem ((i).tmod n) rfl (by kernel_rfl) (by kernel_rfl) (by omega) rfl _) ?_
  clear ha; intro a ha
  refine st_val (.int .i64 ((i).tmod n)) ha (by kernel_rfl) (by kernel_rfl) ?_
  clear ha; intro a ha
  refine wpList_nil ?_
  refine then_normal ?_
  refine wp_seq ?_
  refine wp_seq ?_
  refine wp_region_lit ?_
  refine st_val (.int .i64 ((i).tmod n)) ha (by kernel_rfl) (by kernel_rfl) ?_
  clear ha; intro a ha
  refine st_val (.bool (decide (((i).tmod n) < (0 : Int)))) ha (by kernel_rfl) (by kernel_rfl) ?_
  clear ha; intro a ha
  refine wpList_nil ?_
  refine then_normal ?_
  refine wp_part (decide (((i).tmod n) < (0 : Int))) ha rfl (by kernel_rfl) (fun hb => ?_) (fun hb => ?_)
  · rw [hb] at ha; replace hb : (((i).tmod n) < (0 : Int)) := of_decide_eq_true hb
    refine wp_region_lit ?_
    refine st_val (.int .i64 ((i).tmod n)) ha (by kernel_rfl) (by kernel_rfl) ?_
    clear ha; intro a ha
    refine st_val (.int .i64 n) ha (by kernel_rfl) (by kernel_rfl) ?_
    clear ha; intro a ha
    refine st_val (.int .i64 (((i).tmod n) + n)) ha (by kernel_rfl) (run_arith (((i).tmod n) + n) (((i).tmod n) + n) rfl (by kernel_rfl) (by kernel_rfl) (.inl ⟨rfl, rfl⟩) (by rw [wrap64_in (by omega)]) _) ?_
    clear ha; intro a ha
    refine st_val (.int .i64 (((i).tmod n) + n)) ha (by kernel_rfl) (by kernel_rfl) ?_
    clear ha; intro a ha
    refine wpList_nil ?_
    refine then_normal ?_
    refine wp_seq ?_
    refine wp_region_lit ?_
    refine st_val (.int .i64 (((i).tmod n) + n)) ha (by kernel_rfl) (by kernel_rfl) ?_
    clear ha; intro a ha
    refine st_val (.int .i64 (((i).tmod n) + n)) ha (by kernel_rfl) (by kernel_rfl) ?_
    clear ha; intro a ha
    refine wpList_nil ?_
    refine then_normal ?_
    refine wp_ret ?_
    refine ret_with (v := .int .i64 (((i).tmod n) + n)) ha (results_1 rfl ha (res_tmp (by kernel_rfl) (by kernel_rfl))) ?_
    refine ⟨?_, s⟩
    congr 2
    omega
  · rw [hb] at ha; replace hb : ¬ (((i).tmod n) < (0 : Int)) := of_decide_eq_false hb
    refine wp_skip ?_
    refine then_normal ?_
    refine wp_seq ?_
    refine wp_region_lit ?_
    refine st_val (.int .i64 ((i).tmod n)) ha (by kernel_rfl) (by kernel_rfl) ?_
    clear ha; intro a ha
    refine st_val (.int .i64 ((i).tmod n)) ha (by kernel_rfl) (by kernel_rfl) ?_
    clear ha; intro a ha
    refine wpList_nil ?_
    refine then_normal ?_
    refine wp_ret ?_
    refine ret_with (v := .int .i64 ((i).tmod n)) ha (results_1 rfl ha (res_tmp (by kernel_rfl) (by kernel_rfl))) ?_
    refine ⟨?_, s⟩
    congr 2
    omega

theorem spoil_some (W : World) (L : List Chunk) (w : World) (gs off n c c0 : Nat) (all : List Value) (hnc : n ≤ c) (hn : n ≤ 140737488351232) (hl : off + c ≤ all.length) (hv : ∀ j, j < n → ∃ b : Int, all[off + j]? = some (.int .u8 b)) (s : St W (.blk gs all 5 :: L) w) :
    Calls Try.prog 22 #[.slice (some ⟨gs, off, none⟩) n c0] w fun e w' => e = .returned (.tuple #[]) ∧ St W L w' := by
  refine enter_args (l := [.slice (some ⟨gs, off, none⟩) n c0]) Try.func22 rfl rfl (Nat.le_of_ble_eq_true rfl) ?_
  intro a ha; replace ha : Has a 17 [(0, .slice (some ⟨gs, off, none⟩) n c0)] := ha
  refine wp_seq ?_
  refine wp_region_lit ?_
  refine st_val (.int .i64 0) ha (by kernel_rfl) (by kernel_rfl) ?_
  clear ha; intro a ha
  refine wpList_nil ?_
  refine then_normal ?_
  refine wp_block ?_
  refine wp_loopG (G := (Nat × List Value)) (fun ⟨k, al⟩ a w => Has a 17 [(0, .slice (some ⟨gs, off, none⟩) n c0), (2, .int .i64 ((k : Nat) : Int))] ∧ St W (.blk gs al 5 :: L) w ∧ (k ≤ n ∧ off + c ≤ al.length ∧ ∀ j, j < n → ∃ b : Int, al[off + j]? = some (.int .u8 b))) (fun ⟨k, al⟩ => n - k) (0, all) ?_ ?_
  · exact ⟨(Has.cons ha (by kernel_rfl) (by kernel_rfl) (Has.cons ha (by kernel_rfl) (by kernel_rfl) (Has.nil ha))), s, ⟨Nat.zero_le _, hl, hv⟩⟩
  · clear ha s; rintro ⟨k, al⟩ a w ⟨ha, s, hp⟩
    refine wp_seq ?_
    refine wp_seq ?_
    refine wp_region_lit ?_
    refine st_val (.int .i64 ((k : Nat) : Int)) ha (by kernel_rfl) (by kernel_rfl) ?_
    clear ha; intro a ha
    refine st_val (.slice (some ⟨gs, off, none⟩) n c0) ha (by kernel_rfl) (by kernel_rfl) ?_
    clear ha; intro a ha
    refine st_val (.int .i64 ((n : Nat) : Int)) ha (by kernel_rfl) (by kernel_rfl) ?_
    clear ha; intro a ha
    refine st_val (.bool (decide (((k : Nat) : Int) < ((n : Nat) : Int)))) ha (by kernel_rfl) (by kernel_rfl) ?_
    clear ha; intro a ha
    refine wpList_nil ?_
    refine then_normal ?_
    refine wp_part (decide (((k : Nat) : Int) < ((n : Nat) : Int))) ha rfl (by kernel_rfl) (fun hb => ?_) (fun hb => ?_)
    · rw [hb] at ha; replace hb : (((k : Nat) : Int) < ((n : Nat) : Int)) := of_decide_eq_true hb
      obtain ⟨b, hb_k⟩ := hp.2.2 k (by omega)
      refine wp_skip ?_
      refine then_normal ?_
      refine wp_seq ?_
      refine wp_block ?_
      refine wp_region_lit ?_
      refine st_val (.slice (some ⟨gs, off, none⟩) n c0) ha (by kernel_rfl) (by kernel_rfl) ?_
      clear ha; intro a ha
      refine st_val (.int .i64 ((k : Nat) : Int)) ha (by kernel_rfl) (by kernel_rfl) ?_
      clear ha; intro a ha
      refine st_val (.slice (some ⟨gs, off, none⟩) n c0) ha (by kernel_rfl) (by kernel_rfl) ?_
      clear ha; intro a ha
      refine st_val (.int .i64 ((k : Nat) : Int)) ha (by kernel_rfl) (by kernel_rfl) ?_
      clear ha; intro a ha
      refine st_val (.pointer (some ⟨gs, off + k * 1, none⟩)) ha (by kernel_rfl) (run_indexAddr (kd := .i64) (n := n) (c := c0) k rfl Try.underlying27 Try.sizeOf5 (by kernel_rfl) (by kernel_rfl) rfl (by first | assumption | omega) _) ?_
      clear ha; intro a ha
      refine st_val (.int .u8 b) ha (by kernel_rfl) (run_load1 (of_ := off + k * 1) (s.blkIs 0 rfl) rfl (by kernel_rfl) Try.isAgg5 (by rw [Nat.mul_one]; exact hb_k)) ?_
      clear ha; intro a ha
      refine st_val (.int .u8 (IntKind.u8.wrap (b + (1 : Int)))) ha (by kernel_rfl) (run_arith (b + (1 : Int)) (IntKind.u8.wrap (b + (1 : Int))) rfl (by kernel_rfl) (by kernel_rfl) (.inl ⟨rfl, rfl⟩) rfl _) ?_
      clear ha; intro a ha
      refine st_val (.pointer (some ⟨gs, off + k * 1, none⟩)) ha (by kernel_rfl) (run_indexAddr (kd := .i64) (n := n) (c := c0) k rfl Try.underlying27 Try.sizeOf5 (by kernel_rfl) (by kernel_rfl) rfl (by first | assumption | omega) _) ?_
      clear ha; intro a ha
      refine st_exd ha (by kernel_rfl) (ex_store (of_ := off + k * 1) 0 [.int .u8 (IntKind.u8.wrap (b + (1 : Int)))] s rfl rfl (by kernel_rfl) (by kernel_rfl) (Try.sizeOf5 _) rfl (by simp [Value.oneCell']) (by simp only [List.length_cons, List.length_nil, length_putAt]; omega)) ?_
      clear ha; rintro w a s ha
      replace s : St W (.blk gs (putAt al (off + k * 1) [.int .u8 (IntKind.u8.wrap (b + (1 : Int)))]) 5 :: L) w := s
      refine wpList_nil ?_
      refine block_normal ?_
      refine then_normal ?_
      refine wp_region_lit ?_
      refine st_val (.int .i64 ((k : Nat) : Int)) ha (by kernel_rfl) (by kernel_rfl) ?_
      clear ha; intro a ha
      refine st_val (.int .i64 ((k + 1 : Nat) : Int)) ha (by kernel_rfl) (run_arith (((k : Nat) : Int) + (1 : Int)) ((k + 1 : Nat) : Int) rfl (by kernel_rfl) (by kernel_rfl) (.inl ⟨rfl, rfl⟩) (by rw [wrap64_in (by omega)]; try omega) _) ?_
      clear ha; intro a ha
      refine st_val (.int .i64 ((k + 1 : Nat) : Int)) ha (by kernel_rfl) (by kernel_rfl) ?_
      clear ha; intro a ha
      refine wpList_nil ?_
      refine then_normal ?_
      exact ⟨(k + 1, _), (show n - (k + 1) < n - k by omega), (Has.cons ha (by kernel_rfl) (by kernel_rfl) (Has.cons ha (by kernel_rfl) (by kernel_rfl) (Has.nil ha))), s, by omega, by rw [length_putAt]; exact hp.2.1, fun j hj => by
        obtain ⟨b, hb⟩ := hp.2.2 j hj
        simp only [putAt, Nat.mul_one]
        rw [List.getElem?_set]
        split
        · split
          · exact ⟨_, rfl⟩
          · exfalso; have := hp.2.1; omega
        · exact ⟨b, hb⟩⟩
    · rw [hb] at ha; replace hb : ¬ (((k : Nat) : Int) < ((n : Nat) : Int)) := of_decide_eq_false hb
      refine wp_exit ?_
      refine then_exit ?_
      refine then_exit ?_
      refine block_hit ?_
      refine end_with (v := .tuple #[]) ha (results_0 rfl _) ?_
      exact ⟨rfl, s.tail⟩

theorem spoil_zero (W : World) (L : List Chunk) (w : World) (A : Option Addr) (c : Nat) (s : St W L w) :
    Calls Try.prog 22 #[.slice A 0 c] w fun e w' => e = .returned (.tuple #[]) ∧ St W L w' := by
  refine enter_args (l := [.slice A 0 c]) Try.func22 rfl rfl (Nat.le_of_ble_eq_true rfl) ?_
  intro a ha; replace ha : Has a 17 [(0, .slice A 0 c)] := ha
  refine wp_seq ?_
  refine wp_region_lit ?_
  refine st_val (.int .i64 0) ha (by kernel_rfl) (by kernel_rfl) ?_
  clear ha; intro a ha
  refine wpList_nil ?_
  refine then_normal ?_
  refine wp_block ?_
  refine wp_loopG (G := Unit) (fun _g a w => Has a 17 [(0, .slice A 0 c), (2, .int .i64 0)] ∧ St W (L) w ∧ True) (fun _g => 0) () ?_ ?_
  · exact ⟨(Has.cons ha (by kernel_rfl) (by kernel_rfl) (Has.cons ha (by kernel_rfl) (by kernel_rfl) (Has.nil ha))), s, trivial⟩
  · clear ha s; rintro _g a w ⟨ha, s, hp⟩
    refine wp_seq ?_
    refine wp_seq ?_
    refine wp_region_lit ?_
    refine st_val (.int .i64 0) ha (by kernel_rfl) (by kernel_rfl) ?_
    clear ha; intro a ha
    refine st_val (.slice A 0 c) ha (by kernel_rfl) (by kernel_rfl) ?_
    clear ha; intro a ha
    refine st_val (.int .i64 0) ha (by kernel_rfl) (by kernel_rfl) ?_
    clear ha; intro a ha
    refine st_val (.bool false) ha (by kernel_rfl) (by kernel_rfl) ?_
    clear ha; intro a ha
    refine wpList_nil ?_
    refine then_normal ?_
    refine wp_false ha rfl (by kernel_rfl) ?_
    refine wp_exit ?_
    refine then_exit ?_
    refine then_exit ?_
    refine block_hit ?_
    refine end_with (v := .tuple #[]) ha (results_0 rfl _) ?_
    exact ⟨rfl, s⟩

theorem spoil_any (W : World) (L : List Chunk) (w : World) (A : Option Addr) (n c c0 : Nat) (bs : List Int) (hn : n ≤ 140737488351232) (s : St W (Own 5 1 A n c (u8s bs) :: L) w) :
    Calls Try.prog 22 #[.slice A n c0] w fun e w' => e = .returned (.tuple #[]) ∧ St W L w' := by
  by_cases h0 : n = 0
  · subst h0; exact spoil_zero W L w A c0 s.tail
  · obtain ⟨h1, h2, h3⟩ := Own.facts s.1
    obtain ⟨g, off, all, rfl, hl, hr, s1⟩ := Own.open_ (by omega) s
    refine spoil_some W L w g off n c c0 all h2 hn (by omega) (fun j hj => ?_) s1
    have hlen : bs.length = n := by rw [u8_len] at h1; omega
    have := u8s_at bs j (by omega)
    exact ⟨_, hr j _ this⟩

end Go.Proofs.Ytcgnhmdiedfamaa.B
