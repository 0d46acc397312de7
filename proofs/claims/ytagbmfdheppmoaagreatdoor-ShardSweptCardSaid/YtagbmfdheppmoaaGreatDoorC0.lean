import Derived.Test.YtagbmfdheppmoaaGreatDoorSepX
import Derived.Test.YtagbmfdheppmoaaGreatDoorProg
import Derived.KernelRfl
namespace Go.Proofs.YtagbmfdheppmoaaGreatDoor.B
open Go.RowKit Go.Proofs.YtagbmfdheppmoaaGreatDoor.Sep
set_option linter.unusedVariables false
set_option linter.unusedSimpArgs false

theorem bring_pos (W : World) (L : List Chunk) (w : World) (i n : Int) (hn : 0 < n) (hb : n ≤ 1000000) (s : St W L w) :
    Calls Tryz.prog 27 #[.int .i64 i, .int .i64 n] w fun e w' => e = .returned (.int .i64 (i % n)) ∧ St W L w' := by
  have ht1 := Int.tmod_lt_of_pos i hn
  have ht2 := Int.lt_tmod_of_pos i hn
  have ht3 := Int.tmod_def i n
  have ht4 : i % n = if i.tmod n < 0 then i.tmod n + n else i.tmod n := by
    have h1 := Int.tmod_eq_emod (a := i) (b := n)
    have h2 := Int.emod_nonneg i (show n ≠ 0 by omega)
    have h3 := Int.emod_lt_of_pos i hn
    split at h1 <;> split <;> omega
  refine enter_args (l := [.int .i64 i, .int .i64 n]) Tryz.func27 rfl rfl (Nat.le_of_ble_eq_true rfl) ?_
  intro a ha; replace ha : Has a 16 [(0, .int .i64 i), (1, .int .i64 n)] := ha
  refine wp_seq ?_
  refine wp_region_lit ?_
  refine st_val (.int .i64 0) ha (by kernel_rfl) (by kernel_rfl) ?_
  clear ha; intro a ha
  refine wpList_nil ?_
  refine then_normal ?_
  refine wp_seq ?_
  refine wp_seq ?_
  refine wp_region_lit ?_
  refine st_val (.int .i64 n) ha (by kernel_rfl) (by kernel_rfl) ?_
  clear ha; intro a ha
  refine st_val (.bool false) ha (by kernel_rfl) (run_known (show (decide (n ≤ (0 : Int))) = false from decide_eq_false (by omega)) (by kernel_rfl)) ?_
  clear ha; intro a ha
  refine wpList_nil ?_
  refine then_normal ?_
  refine wp_false ha rfl (by kernel_rfl) ?_
  refine wp_skip ?_
  refine then_normal ?_
  refine wp_seq ?_
  refine wp_region_lit ?_
  refine st_val (.int .i64 i) ha (by kernel_rfl) (by kernel_rfl) ?_
  clear ha; intro a ha
  refine st_val (.int .i64 n) ha (by kernel_rfl) (by kernel_rfl) ?_
  clear ha; intro a ha
  refine st_val (.int .i64 ((i).tmod n)) ha (by kernel_rfl) (run_rem ((i).tmod n) rfl (by kernel_rfl) (by kernel_rfl) (by omega) rfl _) ?_
  clear ha; intro a ha
  refine st_val (.int .i64 ((i).tmod n)) ha (by kernel_rfl) (by kernel_rfl) ?_
  clear ha; intro a ha
  refine wpList_nil ?_
  refine then_normal ?_
  refine wp_seq ?_
  refine wp_seq ?_
  refine wp_region_lit ?_
  refine st_val (.int .i64 ((i).tmod n)) ha (by kernel_rfl) (by kernel_rfl) ?_
  clear ha; intro a ha
  refine st_val (.bool (decide (((i).tmod n) < (0 : Int)))) ha (by kernel_rfl) (by kernel_rfl) ?_
  clear ha; intro a ha
  refine wpList_nil ?_
  refine then_normal ?_
  refine wp_part (decide (((i).tmod n) < (0 : Int))) ha rfl (by kernel_rfl) (fun hb => ?_) (fun hb => ?_)
  · rw [hb] at ha; replace hb : (((i).tmod n) < (0 : Int)) := of_decide_eq_true hb
    refine wp_region_lit ?_
    refine st_val (.int .i64 ((i).tmod n)) ha (by kernel_rfl) (by kernel_rfl) ?_
    clear ha; intro a ha
    refine st_val (.int .i64 n) ha (by kernel_rfl) (by kernel_rfl) ?_
    clear ha; intro a ha
    refine st_val (.int .i64 (((i).tmod n) + n)) ha (by kernel_rfl) (run_arith (((i).tmod n) + n) (((i).tmod n) + n) rfl (by kernel_rfl) (by kernel_rfl) (.inl ⟨rfl, rfl⟩) (by rw [wrap64_in (by omega)]) _) ?_
    clear ha; intro a ha
    refine st_val (.int .i64 (((i).tmod n) + n)) ha (by kernel_rfl) (by kernel_rfl) ?_
    clear ha; intro a ha
    refine wpList_nil ?_
    refine then_normal ?_
    refine wp_seq ?_
    refine wp_region_lit ?_
    refine st_val (.int .i64 (((i).tmod n) + n)) ha (by kernel_rfl) (by kernel_rfl) ?_
    clear ha; intro a ha
    refine st_val (.int .i64 (((i).tmod n) + n)) ha (by kernel_rfl) (by kernel_rfl) ?_
    clear ha; intro a ha
    refine wpList_nil ?_
    refine then_normal ?_
    refine wp_ret ?_
    refine ret_with (v := .int .i64 (((i).tmod n) + n)) ha (results_1 rfl ha (res_tmp (by kernel_rfl) (by kernel_rfl))) ?_
    refine ⟨?_, s⟩
    congr 2
    omega
  · rw [hb] at ha; replace hb : ¬ (((i).tmod n) < (0 : Int)) := of_decide_eq_false hb
    refine wp_skip ?_
    refine then_normal ?_
    refine wp_seq ?_
    refine wp_region_lit ?_
    refine st_val (.int .i64 ((i).tmod n)) ha (by kernel_rfl) (by kernel_rfl) ?_
    clear ha; intro a ha
    refine st_val (.int .i64 ((i).tmod n)) ha (by kernel_rfl) (by kernel_rfl) ?_
    clear ha; intro a ha
    refine wpList_nil ?_
    refine then_normal ?_
    refine wp_ret ?_
    refine ret_with (v := .int .i64 ((i).tmod n)) ha (results_1 rfl ha (res_tmp (by kernel_rfl) (by kernel_rfl))) ?_
    refine ⟨?_, s⟩
    congr 2
    omega

end Go.Proofs.YtagbmfdheppmoaaGreatDoor.B
