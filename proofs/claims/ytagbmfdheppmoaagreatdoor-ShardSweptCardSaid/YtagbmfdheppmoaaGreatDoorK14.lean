import Derived.Test.YtagbmfdheppmoaaGreatDoorK13
import Derived.Test.YtagbmfdheppmoaaGreatDoorSepF
import Derived.KernelRfl
import Derived.Test.YtagbmfdheppmoaaGreatDoorSepZ
namespace Go.Proofs.YtagbmfdheppmoaaGreatDoor.B
open Go.RowKit Go.Proofs.YtagbmfdheppmoaaGreatDoor.Sep
set_option linter.unusedVariables false
set_option linter.unusedSimpArgs false

open Vm (vkey vkey0 vtx stx stv txnv)
set_option maxHeartbeats 4000000 in
theorem swept_any (W : World) (L : List Chunk) (w : World) (a0 a1 : Int) (g0 g1 : Bool) (to_ : Int) (s : St W L w) :
  Calls Tryz.prog 8 #[.agg #[.int .i64 a0, .int .i64 a1], .agg #[.bool g0, .bool g1], .int .i64 to_] w fun e w' => e = .returned (.bool true) ∧ St W L w' := by
 obtain ⟨N0, hN0, hN0b⟩ : ∃ N : Nat, a0 % 121 = (N : Int) ∧ N ≤ 120 := ⟨(a0 % 121).toNat, by omega, by omega⟩
 obtain ⟨N1, hN1, hN1b⟩ : ∃ N : Nat, a1 % 121 = (N : Int) ∧ N ≤ 120 := ⟨(a1 % 121).toNat, by omega, by omega⟩
 obtain ⟨wv, hW, hw⟩ : ∃ w : Int, to_ % 130 = w - 1 ∧ (1 ≤ w ∧ w ≤ 130) := ⟨to_ % 130 + 1, by omega, by omega, by omega⟩
 refine enter_args (l := [.agg #[.int .i64 a0, .int .i64 a1], .agg #[.bool g0, .bool g1], .int .i64 to_]) Tryz.func8 rfl rfl (Nat.le_of_ble_eq_true rfl) ?_
 intro a ha; replace ha : Has a 183 [(0, .agg #[.int .i64 a0, .int .i64 a1]), (1, .agg #[.bool g0, .bool g1]), (2, .int .i64 to_)] := ha
 refine zn1 ?_
 refine st_ex ha (by kernel_rfl) (ex_box [.int .i64 a0, .int .i64 a1] s rfl (by kernel_rfl)) ?_
 clear ha; rintro _ w a ⟨va, rfl, s⟩ ha
 refine st_ex ha (by kernel_rfl) (ex_box [.bool g0, .bool g1] s rfl (by kernel_rfl)) ?_
 clear ha; rintro _ w a ⟨vb, rfl, s⟩ ha
 refine zv (.bool false) ha ?_; clear ha; intro a ha
 refine zn4 ?_
 refine st_call ha (by kernel_rfl) (by kernel_rfl) (begun_spec W _ _ s) ?_
 rintro _ w ⟨gs, gd, gt, rfl, s⟩
 refine ⟨_, rfl, ?_⟩; clear ha; intro a ha
 refine zv (.tuple #[.agg #[.pointer (some ⟨gs, 0, none⟩), .pointer (some ⟨gt, 0, none⟩)], .bool true]) ha ?_
 refine zzv (.agg #[.pointer (some ⟨gs, 0, none⟩), .pointer (some ⟨gt, 0, none⟩)]) ?_
 refine zzv (.bool true) ?_; clear ha; intro a ha
 refine st_ex ha (by kernel_rfl) (ex_alloc [.pointer none, .pointer none] s rfl (Tryz.zeroValue26 _) (by kernel_rfl)) ?_
 clear ha; rintro _ w a ⟨vp, rfl, s⟩ ha
 refine st_exd ha (by kernel_rfl) (ex_store (of_ := 0) 0 [.pointer (some ⟨gs, 0, none⟩), .pointer (some ⟨gt, 0, none⟩)] s rfl rfl (by kernel_rfl) (by kernel_rfl) (Tryz.sizeOf26 _) rfl (by simp [Value.oneCell']) (Nat.le_of_ble_eq_true rfl)) ?_
 clear ha; rintro w a s ha
 replace s : St W (.blk vp [.pointer (some ⟨gs, 0, none⟩), .pointer (some ⟨gt, 0, none⟩)] 26 :: Tb gt [] :: .blk gs [.int .i64 1, .string (str [97]), .string (str [109]), .pointer (some ⟨gd, 0, none⟩)] 153 :: .blk gd [.bool true, .int .i64 0, .int .i64 0, .slice none 0 0] 223 :: .blk vb [.bool g0, .bool g1] 99 :: .blk va [.int .i64 a0, .int .i64 a1] 98 :: L) w := s
 refine zv (.bool true) ha ?_; clear ha; intro a ha
 refine zn2 ?_
 refine wp_seq ?_
 refine zn1 ?_
 refine zv (.bool true) ha ?_
 refine zzv (.bool false) ?_; clear ha; intro a ha
 refine zn2 ?_
 refine wp_false ha rfl (by kernel_rfl) ?_
 refine wp_skip ?_
 refine then_normal ?_
 refine wp_seq ?_
 refine zn1 ?_
 refine zv (.int .i64 0) ha ?_; clear ha; intro a ha
 refine zn2 ?_
 refine wp_block ?_
 refine wp_loop_rounds 3 ?_
 show Code.rounds _ _ _ 3 _ _
 rw [rounds_succ]
 refine wp_seq ?_
 refine zn1 ?_
 refine zv (.int .i64 0) ha ?_
 refine zzv (.bool true) ?_; clear ha; intro a ha
 refine zn2 ?_
 refine wp_true ha rfl (by kernel_rfl) ?_
 refine wp_skip ?_
 refine then_normal ?_
 refine wp_seq ?_
 refine wp_block ?_
 refine zn1 ?_
 refine zv (.int .i64 0) ha ?_
 refine zzv (.pointer (some ⟨va, 0, none⟩)) ?_
 refine zzw (.int .i64 a0) (run_load1 (of_ := 0) (s.blkIs 5 rfl) rfl (by kernel_rfl) Tryz.isAgg3 rfl) ?_; clear ha; intro a ha
 refine st_call ha (by kernel_rfl) (by kernel_rfl) ((bring_pos W _ _ a0 121 (by decide) (by decide) s).mono fun e w h => (show _ ∧ _ from ⟨by have := h.1; rw [hN0] at this; exact this, h.2⟩)) ?_
 rintro _ w ⟨rfl, s⟩
 refine ⟨_, rfl, ?_⟩; clear ha; intro a ha
 refine zv (.int .i64 ((N0 : Nat) : Int)) ha ?_; clear ha; intro a ha
 refine zn4 ?_
 refine zv (.int .i64 1) ha ?_; clear ha; intro a ha
 refine zn2 ?_
 refine wp_block ?_
 replace s := ((((s.at_ (j := 4) rfl).at_ (j := 5) rfl).at_ (j := 5) rfl).at_ (j := 5) rfl).at_ (j := 5) rfl
 replace s : St W (Tb gt [] :: .blk gs [.int .i64 1, .string (str [97]), .string (str [109]), .pointer (some ⟨gd, 0, none⟩)] 153 :: .blk gd [.bool true, .int .i64 0, .int .i64 0, .slice none 0 0] 223 :: .blk va [.int .i64 a0, .int .i64 a1] 98 :: .blk vb [.bool g0, .bool g1] 99 :: .blk vp [.pointer (some ⟨gs, 0, none⟩), .pointer (some ⟨gt, 0, none⟩)] 26 :: L) w := s
 refine wp_loopG (G := Nat) (fun m a w => Has a 183 [(2, .int .i64 to_), (3, .pointer (some ⟨va, 0, none⟩)), (4, .pointer (some ⟨vb, 0, none⟩)), (7, .pointer (some ⟨vp, 0, none⟩)), (9, .int .i64 0), (10, .int .i64 ((N0 : Nat) : Int)), (11, .int .i64 ((m + 1 : Nat) : Int))] ∧ St W (Tb gt (VR [] (fill N0 g0 m) []) :: .blk gs [.int .i64 1, .string (str [97]), .string (str [109]), .pointer (some ⟨gd, 0, none⟩)] 153 :: .blk gd [.bool true, .int .i64 0, .int .i64 0, .slice none 0 0] 223 :: .blk va [.int .i64 a0, .int .i64 a1] 98 :: .blk vb [.bool g0, .bool g1] 99 :: .blk vp [.pointer (some ⟨gs, 0, none⟩), .pointer (some ⟨gt, 0, none⟩)] 26 :: L) w ∧ (m ≤ N0)) (fun m => N0 - m) 0 ?_ ?_
 ·
  exact ⟨(hpick ha), s, Nat.zero_le _⟩
 ·
  clear ha s; rintro m a w ⟨ha, s, hp⟩
  refine wp_seq ?_
  refine zn1 ?_
  refine zv (.int .i64 ((m + 1 : Nat) : Int)) ha ?_
  refine zzv (.int .i64 ((N0 : Nat) : Int)) ?_
  refine zzv (.bool (decide (((m + 1 : Nat) : Int) ≤ ((N0 : Nat) : Int)))) ?_; clear ha; intro a ha
  refine zn2 ?_
  refine wp_part (decide (((m + 1 : Nat) : Int) ≤ ((N0 : Nat) : Int))) ha rfl (by kernel_rfl) (fun hb => ?_) (fun hb => ?_)
  ·
   rw [hb] at ha; replace hb : (((m + 1 : Nat) : Int) ≤ ((N0 : Nat) : Int)) := of_decide_eq_true hb
   refine wp_skip ?_
   refine then_normal ?_
   refine wp_seq ?_
   refine wp_block ?_
   refine wp_between (fun a w => Has a 183 [(2, .int .i64 to_), (3, .pointer (some ⟨va, 0, none⟩)), (4, .pointer (some ⟨vb, 0, none⟩)), (7, .pointer (some ⟨vp, 0, none⟩)), (9, .int .i64 0), (10, .int .i64 ((N0 : Nat) : Int)), (11, .int .i64 ((m + 1 : Nat) : Int)), (12, .string (str (vkey 97 ((m + 1 : Nat) : Int)))), (13, .int .i64 0)] ∧ St W (Tb gt (VR [] (fill N0 g0 m) []) :: .blk gs [.int .i64 1, .string (str [97]), .string (str [109]), .pointer (some ⟨gd, 0, none⟩)] 153 :: .blk gd [.bool true, .int .i64 0, .int .i64 0, .slice none 0 0] 223 :: .blk va [.int .i64 a0, .int .i64 a1] 98 :: .blk vb [.bool g0, .bool g1] 99 :: .blk vp [.pointer (some ⟨gs, 0, none⟩), .pointer (some ⟨gt, 0, none⟩)] 26 :: L) w) ?_ ?_
   ·
    skip
    obtain ⟨T, hT⟩ : ∃ T, T = Tb gt (VR [] (fill N0 g0 m) []) :: .blk gs [.int .i64 1, .string (str [97]), .string (str [109]), .pointer (some ⟨gd, 0, none⟩)] 153 :: .blk gd [.bool true, .int .i64 0, .int .i64 0, .slice none 0 0] 223 :: .blk va [.int .i64 a0, .int .i64 a1] 98 :: .blk vb [.bool g0, .bool g1] 99 :: .blk vp [.pointer (some ⟨gs, 0, none⟩), .pointer (some ⟨gt, 0, none⟩)] 26 :: L := ⟨_, rfl⟩
    rw [← hT] at s
    refine wp_region_head 12 (fun w => True) (by kernel_rfl) (by decide) ?_
    replace s := s.drew; generalize _root_.Go.World.drew _ = w at s ⊢
    have hS : (fun w => True) w := trivial
    refine yk (i := 0) (.int .i64 0) ha hS ?_
    refine yyk (i := 1) (.int .i64 97) hS ?_
    refine yyk (i := 2) (.int .u8 97) hS ?_
    refine yyk (i := 5) (.int .i64 ((m + 1 : Nat) : Int)) hS ?_; clear ha; intro a ha
    refine Head.fork (k := 5) [true, true, true, true, true, true, true, false, false, false, false, false, false] (fun a w => ∃ (g5 : Nat), Has a 183 [(2, .int .i64 to_), (3, .pointer (some ⟨va, 0, none⟩)), (4, .pointer (some ⟨vb, 0, none⟩)), (7, .pointer (some ⟨vp, 0, none⟩)), (9, .int .i64 0), (10, .int .i64 ((N0 : Nat) : Int)), (11, .int .i64 ((m + 1 : Nat) : Int)), (40, .int .i64 ((m + 1 : Nat) : Int)), (41, .int .i64 ((N0 : Nat) : Int)), (42, .bool true), (46, .int .i64 0), (47, .int .i64 97), (48, .int .u8 97), (51, .int .i64 ((m + 1 : Nat) : Int)), (49, .slice (some ⟨g5, 0, none⟩) 1 1), (50, .string (str [97])), (52, .agg #[.int .i64 ((m + 1 : Nat) : Int), .int .i64 0])] ∧ St W (.blk g5 [.int .u8 97] 5 :: T) w) ?_ ?_
    ·
     intro K
     refine Head.two (i := 3) (j := 6) (by kernel_rfl) ?_ ?_
     ·
      skip
      refine hat_ex (i := 3) ha rfl (by kernel_rfl) (ex_buildSlice elt101 _ zs101 [.int .u8 97] s rfl (by kernel_rfl) (by decide)) ?_
      clear hS; rintro _ w ⟨g5, rfl, s⟩
      refine and_keep trivial fun hS => ?_; clear ha; intro a ha
      refine Head.two (i := 4) (j := 6) (by kernel_rfl) ?_ ?_
      ·
       skip
       refine hat_ex (i := 4) ha rfl (by kernel_rfl) (ex_bstr (c := 1) (b := 97) 0 s rfl rfl (by kernel_rfl) Tryz.underlying101 Tryz.underlying5 Tryz.underlying9) ?_
       clear hS; rintro _ w ⟨rfl, s⟩
       replace s : St W (.blk g5 [.int .u8 97] 5 :: T) w := s
       refine and_keep trivial fun hS => ?_; clear ha; intro a ha
       refine hd_call (i := 6) ha rfl (by kernel_rfl) (by kernel_rfl) (by kernel_rfl) (Vm.p_at ((m + 1 : Nat) : Int) (by omega) _ _ _ s) ?_
       clear hS; rintro _ w ⟨rfl, s⟩
       refine ⟨_, rfl, and_keep trivial fun hS => ?_⟩; clear ha; intro a ha
       exact K _ _ _ (by kernel_rfl) ⟨g5, (hpick ha), s⟩
      ·
       skip
       refine hat_call (i := 6) ha rfl (by kernel_rfl) (by kernel_rfl) (Vm.p_at ((m + 1 : Nat) : Int) (by omega) _ _ _ s) ?_
       clear hS; rintro _ w ⟨rfl, s⟩
       refine ⟨_, rfl, and_keep trivial fun hS => ?_⟩; clear ha; intro a ha
       refine hd_ex (i := 4) ha rfl (by kernel_rfl) (by kernel_rfl) (ex_bstr (c := 1) (b := 97) 0 s rfl rfl (by kernel_rfl) Tryz.underlying101 Tryz.underlying5 Tryz.underlying9) ?_
       clear hS; rintro _ w ⟨rfl, s⟩
       replace s : St W (.blk g5 [.int .u8 97] 5 :: T) w := s
       refine and_keep trivial fun hS => ?_; clear ha; intro a ha
       exact K _ _ _ (by kernel_rfl) ⟨g5, (hpick ha), s⟩
     ·
      skip
      refine hat_call (i := 6) ha rfl (by kernel_rfl) (by kernel_rfl) (Vm.p_at ((m + 1 : Nat) : Int) (by omega) _ _ _ s) ?_
      clear hS; rintro _ w ⟨rfl, s⟩
      refine ⟨_, rfl, and_keep trivial fun hS => ?_⟩; clear ha; intro a ha
      refine hd_ex (i := 3) ha rfl (by kernel_rfl) (by kernel_rfl) (ex_buildSlice elt101 _ zs101 [.int .u8 97] s rfl (by kernel_rfl) (by decide)) ?_
      clear hS; rintro _ w ⟨g5, rfl, s⟩
      refine and_keep trivial fun hS => ?_; clear ha; intro a ha
      refine hd_ex (i := 4) ha rfl (by kernel_rfl) (by kernel_rfl) (ex_bstr (c := 1) (b := 97) 0 s rfl rfl (by kernel_rfl) Tryz.underlying101 Tryz.underlying5 Tryz.underlying9) ?_
      clear hS; rintro _ w ⟨rfl, s⟩
      replace s : St W (.blk g5 [.int .u8 97] 5 :: T) w := s
      refine and_keep trivial fun hS => ?_; clear ha; intro a ha
      exact K _ _ _ (by kernel_rfl) ⟨g5, (hpick ha), s⟩
    clear ha s hS; rintro a w ⟨g5, ha, s⟩
    have hS : (fun w => True) w := trivial
    refine hd_call (i := 7) ha rfl (by kernel_rfl) (by kernel_rfl) (by kernel_rfl) (Vm.p_vk_a ((m + 1 : Nat) : Int) (by omega) _ _ _ s) ?_
    clear hS; rintro _ w ⟨rfl, s⟩
    refine ⟨_, rfl, and_keep trivial fun hS => ?_⟩; clear ha; intro a ha
    refine yk (i := 8) (.tuple #[.string (str (vkey 97 ((m + 1 : Nat) : Int))), .int .i64 0]) ha hS ?_
    refine yyk (i := 9) (.string (str (vkey 97 ((m + 1 : Nat) : Int)))) hS ?_
    refine yyk (i := 10) (.int .i64 0) hS ?_
    refine yyk (i := 11) (.string (str (vkey 97 ((m + 1 : Nat) : Int)))) hS ?_; clear ha; intro a ha
    refine Head.done (by kernel_rfl) ?_
    clear hS; simp only [List.drop_succ_cons, List.drop_zero]
    refine zv (.int .i64 0) ha ?_; clear ha; intro a ha
    refine zn2 ?_
    rw [hT] at s
    replace s := (((((s.at_ (j := 6) rfl).at_ (j := 6) rfl).at_ (j := 6) rfl).at_ (j := 6) rfl).at_ (j := 6) rfl).at_ (j := 6) rfl
    replace s : St W (Tb gt (VR [] (fill N0 g0 m) []) :: .blk gs [.int .i64 1, .string (str [97]), .string (str [109]), .pointer (some ⟨gd, 0, none⟩)] 153 :: .blk gd [.bool true, .int .i64 0, .int .i64 0, .slice none 0 0] 223 :: .blk va [.int .i64 a0, .int .i64 a1] 98 :: .blk vb [.bool g0, .bool g1] 99 :: .blk vp [.pointer (some ⟨gs, 0, none⟩), .pointer (some ⟨gt, 0, none⟩)] 26 :: L) w := s.keep 6 1
    exact ⟨(hpick ha), s⟩
   ·
    clear ha s; rintro a w ⟨ha, s⟩
    refine zn1 ?_
    refine zv (.int .i64 ((m + 1 : Nat) : Int)) ha ?_
    refine zzv (.int .i64 ((N0 : Nat) : Int)) ?_
    refine zzv (.bool (((m + 1 : Nat) : Int) == ((N0 : Nat) : Int))) ?_
    refine zzv (.bool (((m + 1 : Nat) : Int) == ((N0 : Nat) : Int))) ?_; clear ha; intro a ha
    rcases Bool.eq_false_or_eq_true (((m + 1 : Nat) : Int) == ((N0 : Nat) : Int)) with hb | hb
    ·
     rw [hb] at ha; have hb_ := hb; replace hb := eq_of_beq hb
     refine zv (.int .i64 0) ha ?_
     refine zzv (.pointer (some ⟨vb, 0, none⟩)) ?_
     refine zzw (.bool g0) (run_load1 (of_ := 0) (s.blkIs 4 rfl) rfl (by kernel_rfl) Tryz.isAgg4 rfl) ?_
     refine zzv (.bool g0) ?_
     refine zzv (.bool (!g0)) ?_; clear ha; intro a ha
     refine st_call ha (by kernel_rfl) (by kernel_rfl) (Vm.p_ver (!g0) _ _ _ s) ?_
     rintro _ w ⟨rfl, s⟩
     refine ⟨_, rfl, ?_⟩; clear ha; intro a ha
     refine zv (.tuple #[.string (str (vtx (!g0))), .int .i64 0]) ha ?_
     refine zzv (.string (str (vtx (!g0)))) ?_
     refine zzv (.int .i64 0) ?_
     refine zzv (.string (str (vtx (!g0)))) ?_
     refine zzv (.int .i64 0) ?_; clear ha; intro a ha
     refine zn4 ?_
     refine zv (.int .i64 0) ha ?_
     refine zzv (.bool false) ?_
     refine zzv (.bool false) ?_
     refine zzv (.int .i64 0) ?_
     refine zzv (.bool false) ?_
     refine zzv (.bool false) ?_
     refine zzv (.bool false) ?_
     refine zzv (.pointer (some ⟨vp, 1, none⟩)) ?_
     refine zzw (.pointer (some ⟨gt, 0, none⟩)) (run_load1 (of_ := 1) (s.blkIs 5 rfl) rfl (by kernel_rfl) Tryz.isAgg24 rfl) ?_
     refine zzv (.string (str (vkey 97 ((m + 1 : Nat) : Int)))) ?_
     refine zzv (.string (str (vtx (!g0)))) ?_
     refine zzv (.agg #[.string (str (vkey 97 ((m + 1 : Nat) : Int))), .string (str (vtx (!g0))), .bool false]) ?_; clear ha; intro a ha
     refine st_ex ha (by kernel_rfl) (ex_buildSlice elt44 _ zs44 [.string (str (vkey 97 ((m + 1 : Nat) : Int))), .string (str (vtx (!g0))), .bool false] s rfl (by kernel_rfl) (by decide)) ?_
     clear ha; rintro _ w a ⟨g95, rfl, s⟩ ha
     replace s := s.at_ (j := 1) rfl
     replace s : St W (Tb gt (VR [] (fill N0 g0 m) []) :: .blk g95 [.string (str (vkey 97 ((m + 1 : Nat) : Int))), .string (str (vtx (!g0))), .bool false] 81 :: .blk gs [.int .i64 1, .string (str [97]), .string (str [109]), .pointer (some ⟨gd, 0, none⟩)] 153 :: .blk gd [.bool true, .int .i64 0, .int .i64 0, .slice none 0 0] 223 :: .blk va [.int .i64 a0, .int .i64 a1] 98 :: .blk vb [.bool g0, .bool g1] 99 :: .blk vp [.pointer (some ⟨gs, 0, none⟩), .pointer (some ⟨gt, 0, none⟩)] 26 :: L) w := s
     refine st_call ha (by kernel_rfl) (by kernel_rfl) (Apply_spec W _ _ gt (VR [] (fill N0 g0 m) []) ⟨g95, 0, none⟩ 1 [((vkey 97 ((m + 1 : Nat) : Int)), (vtx (!g0)), false)] (by simp) (op_ok1 97 _ _) (fun w s => reads_blk s.cell rfl) (by rw [vr_len]; simp only [fill_len, List.length_cons, List.length_nil]; omega) s) ?_
     rintro _ w ⟨rfl, s⟩
     rw [fillA (by omega) (by rw [decide_eq_true (by omega)]; rfl)] at s
     refine ⟨_, rfl, ?_⟩; clear ha; intro a ha
     refine zv (.bool false) ha ?_
     refine zzv (.bool false) ?_; clear ha; intro a ha
     refine zn2 ?_
     refine wp_false ha rfl (by kernel_rfl) ?_
     refine wp_skip ?_
     refine block_normal ?_
     refine then_normal ?_
     refine wp_region_lit ?_
     refine zv (.int .i64 ((m + 1 : Nat) : Int)) ha ?_
     refine zzw (.int .i64 ((m + 2 : Nat) : Int)) (run_arith (((m + 1 : Nat) : Int) + (1 : Int)) ((m + 2 : Nat) : Int) rfl (by kernel_rfl) (by kernel_rfl) (.inl ⟨rfl, rfl⟩) (by rw [wrap64_in (by omega)]; try omega) _) ?_
     refine zzv (.int .i64 ((m + 2 : Nat) : Int)) ?_; clear ha; intro a ha
     refine zn2 ?_
     replace s := (((((s.at_ (j := 6) rfl).at_ (j := 6) rfl).at_ (j := 6) rfl).at_ (j := 6) rfl).at_ (j := 6) rfl).at_ (j := 5) rfl
     replace s : St W (Tb gt (VR [] (fill N0 g0 (m + 1)) []) :: .blk gs [.int .i64 1, .string (str [97]), .string (str [109]), .pointer (some ⟨gd, 0, none⟩)] 153 :: .blk gd [.bool true, .int .i64 0, .int .i64 0, .slice none 0 0] 223 :: .blk va [.int .i64 a0, .int .i64 a1] 98 :: .blk vb [.bool g0, .bool g1] 99 :: .blk vp [.pointer (some ⟨gs, 0, none⟩), .pointer (some ⟨gt, 0, none⟩)] 26 :: L) w := s.keep 6 1
     exact ⟨m + 1, by omega, (hpick ha), s, by omega⟩
    ·
     rw [hb] at ha; have hb_ := hb; replace hb := ne_of_beq_false hb
     refine zp ha ?_
     refine zzp ?_
     refine zzp ?_
     refine zzv (.bool false) ?_
     refine zzv (.bool true) ?_; clear ha; intro a ha
     refine st_call ha (by kernel_rfl) (by kernel_rfl) (Vm.p_ver true _ _ _ s) ?_
     rintro _ w ⟨rfl, s⟩
     refine ⟨_, rfl, ?_⟩; clear ha; intro a ha
     refine zv (.tuple #[.string (str (vtx true)), .int .i64 0]) ha ?_
     refine zzv (.string (str (vtx true))) ?_
     refine zzv (.int .i64 0) ?_
     refine zzv (.string (str (vtx true))) ?_
     refine zzv (.int .i64 0) ?_; clear ha; intro a ha
     refine zn4 ?_
     refine zv (.int .i64 0) ha ?_
     refine zzv (.bool false) ?_
     refine zzv (.bool false) ?_
     refine zzv (.int .i64 0) ?_
     refine zzv (.bool false) ?_
     refine zzv (.bool false) ?_
     refine zzv (.bool false) ?_
     refine zzv (.pointer (some ⟨vp, 1, none⟩)) ?_
     refine zzw (.pointer (some ⟨gt, 0, none⟩)) (run_load1 (of_ := 1) (s.blkIs 5 rfl) rfl (by kernel_rfl) Tryz.isAgg24 rfl) ?_
     refine zzv (.string (str (vkey 97 ((m + 1 : Nat) : Int)))) ?_
     refine zzv (.string (str (vtx true))) ?_
     refine zzv (.agg #[.string (str (vkey 97 ((m + 1 : Nat) : Int))), .string (str (vtx true)), .bool false]) ?_; clear ha; intro a ha
     refine st_ex ha (by kernel_rfl) (ex_buildSlice elt44 _ zs44 [.string (str (vkey 97 ((m + 1 : Nat) : Int))), .string (str (vtx true)), .bool false] s rfl (by kernel_rfl) (by decide)) ?_
     clear ha; rintro _ w a ⟨g96, rfl, s⟩ ha
     replace s := s.at_ (j := 1) rfl
     replace s : St W (Tb gt (VR [] (fill N0 g0 m) []) :: .blk g96 [.string (str (vkey 97 ((m + 1 : Nat) : Int))), .string (str (vtx true)), .bool false] 81 :: .blk gs [.int .i64 1, .string (str [97]), .string (str [109]), .pointer (some ⟨gd, 0, none⟩)] 153 :: .blk gd [.bool true, .int .i64 0, .int .i64 0, .slice none 0 0] 223 :: .blk va [.int .i64 a0, .int .i64 a1] 98 :: .blk vb [.bool g0, .bool g1] 99 :: .blk vp [.pointer (some ⟨gs, 0, none⟩), .pointer (some ⟨gt, 0, none⟩)] 26 :: L) w := s
     refine st_call ha (by kernel_rfl) (by kernel_rfl) (Apply_spec W _ _ gt (VR [] (fill N0 g0 m) []) ⟨g96, 0, none⟩ 1 [((vkey 97 ((m + 1 : Nat) : Int)), (vtx true), false)] (by simp) (op_ok1 97 _ _) (fun w s => reads_blk s.cell rfl) (by rw [vr_len]; simp only [fill_len, List.length_cons, List.length_nil]; omega) s) ?_
     rintro _ w ⟨rfl, s⟩
     rw [fillA (by omega) (by rw [decide_eq_false (by omega)]; rfl)] at s
     refine ⟨_, rfl, ?_⟩; clear ha; intro a ha
     refine zv (.bool false) ha ?_
     refine zzv (.bool false) ?_; clear ha; intro a ha
     refine zn2 ?_
     refine wp_false ha rfl (by kernel_rfl) ?_
     refine wp_skip ?_
     refine block_normal ?_
     refine then_normal ?_
     refine wp_region_lit ?_
     refine zv (.int .i64 ((m + 1 : Nat) : Int)) ha ?_
     refine zzw (.int .i64 ((m + 2 : Nat) : Int)) (run_arith (((m + 1 : Nat) : Int) + (1 : Int)) ((m + 2 : Nat) : Int) rfl (by kernel_rfl) (by kernel_rfl) (.inl ⟨rfl, rfl⟩) (by rw [wrap64_in (by omega)]; try omega) _) ?_
     refine zzv (.int .i64 ((m + 2 : Nat) : Int)) ?_; clear ha; intro a ha
     refine zn2 ?_
     replace s := (((((s.at_ (j := 6) rfl).at_ (j := 6) rfl).at_ (j := 6) rfl).at_ (j := 6) rfl).at_ (j := 6) rfl).at_ (j := 5) rfl
     replace s : St W (Tb gt (VR [] (fill N0 g0 (m + 1)) []) :: .blk gs [.int .i64 1, .string (str [97]), .string (str [109]), .pointer (some ⟨gd, 0, none⟩)] 153 :: .blk gd [.bool true, .int .i64 0, .int .i64 0, .slice none 0 0] 223 :: .blk va [.int .i64 a0, .int .i64 a1] 98 :: .blk vb [.bool g0, .bool g1] 99 :: .blk vp [.pointer (some ⟨gs, 0, none⟩), .pointer (some ⟨gt, 0, none⟩)] 26 :: L) w := s.keep 6 1
     exact ⟨m + 1, by omega, (hpick ha), s, by omega⟩
  ·
   rw [hb] at ha; replace hb : ¬ (((m + 1 : Nat) : Int) ≤ ((N0 : Nat) : Int)) := of_decide_eq_false hb
   have hm : N0 = m := by omega
   subst hm
   refine wp_exit ?_
   refine then_exit ?_
   refine then_exit ?_
   refine block_hit ?_
   refine block_normal ?_
   refine then_normal ?_
   refine wp_region_lit ?_
   refine zv (.int .i64 0) ha ?_
   refine zzv (.int .i64 1) ?_
   refine zzv (.int .i64 1) ?_; clear ha; intro a ha
   refine zn2 ?_
   show Code.rounds _ _ _ 2 _ _
   rw [rounds_succ]
   refine wp_seq ?_
   refine zn1 ?_
   refine zv (.int .i64 1) ha ?_
   refine zzv (.bool true) ?_; clear ha; intro a ha
   refine zn2 ?_
   refine wp_true ha rfl (by kernel_rfl) ?_
   refine wp_skip ?_
   refine then_normal ?_
   refine wp_seq ?_
   refine wp_block ?_
   refine zn1 ?_
   refine zv (.int .i64 1) ha ?_
   refine zzv (.pointer (some ⟨va, 1, none⟩)) ?_
   refine zzw (.int .i64 a1) (run_load1 (of_ := 1) (s.blkIs 3 rfl) rfl (by kernel_rfl) Tryz.isAgg3 rfl) ?_; clear ha; intro a ha
   refine st_call ha (by kernel_rfl) (by kernel_rfl) ((bring_pos W _ _ a1 121 (by decide) (by decide) s).mono fun e w h => (show _ ∧ _ from ⟨by have := h.1; rw [hN1] at this; exact this, h.2⟩)) ?_
   rintro _ w ⟨rfl, s⟩
   refine ⟨_, rfl, ?_⟩; clear ha; intro a ha
   refine zv (.int .i64 ((N1 : Nat) : Int)) ha ?_; clear ha; intro a ha
   refine zn4 ?_
   refine zv (.int .i64 1) ha ?_; clear ha; intro a ha
   refine zn2 ?_
   refine wp_block ?_
   refine wp_loopG (G := Nat) (fun m a w => Has a 183 [(2, .int .i64 to_), (3, .pointer (some ⟨va, 0, none⟩)), (4, .pointer (some ⟨vb, 0, none⟩)), (7, .pointer (some ⟨vp, 0, none⟩)), (9, .int .i64 1), (10, .int .i64 ((N1 : Nat) : Int)), (11, .int .i64 ((m + 1 : Nat) : Int))] ∧ St W (Tb gt (VR [] (fill N0 g0 N0) (fill N1 g1 m)) :: .blk gs [.int .i64 1, .string (str [97]), .string (str [109]), .pointer (some ⟨gd, 0, none⟩)] 153 :: .blk gd [.bool true, .int .i64 0, .int .i64 0, .slice none 0 0] 223 :: .blk va [.int .i64 a0, .int .i64 a1] 98 :: .blk vb [.bool g0, .bool g1] 99 :: .blk vp [.pointer (some ⟨gs, 0, none⟩), .pointer (some ⟨gt, 0, none⟩)] 26 :: L) w ∧ (m ≤ N1)) (fun m => N1 - m) 0 ?_ ?_
   ·
    exact ⟨(hpick ha), s, Nat.zero_le _⟩
   ·
    clear ha s; rintro m a w ⟨ha, s, hp⟩
    refine wp_seq ?_
    refine zn1 ?_
    refine zv (.int .i64 ((m + 1 : Nat) : Int)) ha ?_
    refine zzv (.int .i64 ((N1 : Nat) : Int)) ?_
    refine zzv (.bool (decide (((m + 1 : Nat) : Int) ≤ ((N1 : Nat) : Int)))) ?_; clear ha; intro a ha
    refine zn2 ?_
    refine wp_part (decide (((m + 1 : Nat) : Int) ≤ ((N1 : Nat) : Int))) ha rfl (by kernel_rfl) (fun hb => ?_) (fun hb => ?_)
    ·
     rw [hb] at ha; replace hb : (((m + 1 : Nat) : Int) ≤ ((N1 : Nat) : Int)) := of_decide_eq_true hb
     refine wp_skip ?_
     refine then_normal ?_
     refine wp_seq ?_
     refine wp_block ?_
     refine wp_between (fun a w => Has a 183 [(2, .int .i64 to_), (3, .pointer (some ⟨va, 0, none⟩)), (4, .pointer (some ⟨vb, 0, none⟩)), (7, .pointer (some ⟨vp, 0, none⟩)), (9, .int .i64 1), (10, .int .i64 ((N1 : Nat) : Int)), (11, .int .i64 ((m + 1 : Nat) : Int)), (12, .string (str (vkey 98 ((m + 1 : Nat) : Int)))), (13, .int .i64 0)] ∧ St W (Tb gt (VR [] (fill N0 g0 N0) (fill N1 g1 m)) :: .blk gs [.int .i64 1, .string (str [97]), .string (str [109]), .pointer (some ⟨gd, 0, none⟩)] 153 :: .blk gd [.bool true, .int .i64 0, .int .i64 0, .slice none 0 0] 223 :: .blk va [.int .i64 a0, .int .i64 a1] 98 :: .blk vb [.bool g0, .bool g1] 99 :: .blk vp [.pointer (some ⟨gs, 0, none⟩), .pointer (some ⟨gt, 0, none⟩)] 26 :: L) w) ?_ ?_
     ·
      skip
      obtain ⟨T, hT⟩ : ∃ T, T = Tb gt (VR [] (fill N0 g0 N0) (fill N1 g1 m)) :: .blk gs [.int .i64 1, .string (str [97]), .string (str [109]), .pointer (some ⟨gd, 0, none⟩)] 153 :: .blk gd [.bool true, .int .i64 0, .int .i64 0, .slice none 0 0] 223 :: .blk va [.int .i64 a0, .int .i64 a1] 98 :: .blk vb [.bool g0, .bool g1] 99 :: .blk vp [.pointer (some ⟨gs, 0, none⟩), .pointer (some ⟨gt, 0, none⟩)] 26 :: L := ⟨_, rfl⟩
      rw [← hT] at s
      refine wp_region_head 12 (fun w => True) (by kernel_rfl) (by decide) ?_
      replace s := s.drew; generalize _root_.Go.World.drew _ = w at s ⊢
      have hS : (fun w => True) w := trivial
      refine yk (i := 0) (.int .i64 1) ha hS ?_
      refine yyk (i := 1) (.int .i64 98) hS ?_
      refine yyk (i := 2) (.int .u8 98) hS ?_
      refine yyk (i := 5) (.int .i64 ((m + 1 : Nat) : Int)) hS ?_; clear ha; intro a ha
      refine Head.fork (k := 5) [true, true, true, true, true, true, true, false, false, false, false, false, false] (fun a w => ∃ (g98 : Nat), Has a 183 [(2, .int .i64 to_), (3, .pointer (some ⟨va, 0, none⟩)), (4, .pointer (some ⟨vb, 0, none⟩)), (7, .pointer (some ⟨vp, 0, none⟩)), (9, .int .i64 1), (10, .int .i64 ((N1 : Nat) : Int)), (11, .int .i64 ((m + 1 : Nat) : Int)), (40, .int .i64 ((m + 1 : Nat) : Int)), (41, .int .i64 ((N1 : Nat) : Int)), (42, .bool true), (46, .int .i64 1), (47, .int .i64 98), (48, .int .u8 98), (51, .int .i64 ((m + 1 : Nat) : Int)), (49, .slice (some ⟨g98, 0, none⟩) 1 1), (50, .string (str [98])), (52, .agg #[.int .i64 ((m + 1 : Nat) : Int), .int .i64 0])] ∧ St W (.blk g98 [.int .u8 98] 5 :: T) w) ?_ ?_
      ·
       intro K
       refine Head.two (i := 3) (j := 6) (by kernel_rfl) ?_ ?_
       ·
        skip
        refine hat_ex (i := 3) ha rfl (by kernel_rfl) (ex_buildSlice elt101 _ zs101 [.int .u8 98] s rfl (by kernel_rfl) (by decide)) ?_
        clear hS; rintro _ w ⟨g98, rfl, s⟩
        refine and_keep trivial fun hS => ?_; clear ha; intro a ha
        refine Head.two (i := 4) (j := 6) (by kernel_rfl) ?_ ?_
        ·
         skip
         refine hat_ex (i := 4) ha rfl (by kernel_rfl) (ex_bstr (c := 1) (b := 98) 0 s rfl rfl (by kernel_rfl) Tryz.underlying101 Tryz.underlying5 Tryz.underlying9) ?_
         clear hS; rintro _ w ⟨rfl, s⟩
         replace s : St W (.blk g98 [.int .u8 98] 5 :: T) w := s
         refine and_keep trivial fun hS => ?_; clear ha; intro a ha
         refine hd_call (i := 6) ha rfl (by kernel_rfl) (by kernel_rfl) (by kernel_rfl) (Vm.p_at ((m + 1 : Nat) : Int) (by omega) _ _ _ s) ?_
         clear hS; rintro _ w ⟨rfl, s⟩
         refine ⟨_, rfl, and_keep trivial fun hS => ?_⟩; clear ha; intro a ha
         exact K _ _ _ (by kernel_rfl) ⟨g98, (hpick ha), s⟩
        ·
         skip
         refine hat_call (i := 6) ha rfl (by kernel_rfl) (by kernel_rfl) (Vm.p_at ((m + 1 : Nat) : Int) (by omega) _ _ _ s) ?_
         clear hS; rintro _ w ⟨rfl, s⟩
         refine ⟨_, rfl, and_keep trivial fun hS => ?_⟩; clear ha; intro a ha
         refine hd_ex (i := 4) ha rfl (by kernel_rfl) (by kernel_rfl) (ex_bstr (c := 1) (b := 98) 0 s rfl rfl (by kernel_rfl) Tryz.underlying101 Tryz.underlying5 Tryz.underlying9) ?_
         clear hS; rintro _ w ⟨rfl, s⟩
         replace s : St W (.blk g98 [.int .u8 98] 5 :: T) w := s
         refine and_keep trivial fun hS => ?_; clear ha; intro a ha
         exact K _ _ _ (by kernel_rfl) ⟨g98, (hpick ha), s⟩
       ·
        skip
        refine hat_call (i := 6) ha rfl (by kernel_rfl) (by kernel_rfl) (Vm.p_at ((m + 1 : Nat) : Int) (by omega) _ _ _ s) ?_
        clear hS; rintro _ w ⟨rfl, s⟩
        refine ⟨_, rfl, and_keep trivial fun hS => ?_⟩; clear ha; intro a ha
        refine hd_ex (i := 3) ha rfl (by kernel_rfl) (by kernel_rfl) (ex_buildSlice elt101 _ zs101 [.int .u8 98] s rfl (by kernel_rfl) (by decide)) ?_
        clear hS; rintro _ w ⟨g98, rfl, s⟩
        refine and_keep trivial fun hS => ?_; clear ha; intro a ha
        refine hd_ex (i := 4) ha rfl (by kernel_rfl) (by kernel_rfl) (ex_bstr (c := 1) (b := 98) 0 s rfl rfl (by kernel_rfl) Tryz.underlying101 Tryz.underlying5 Tryz.underlying9) ?_
        clear hS; rintro _ w ⟨rfl, s⟩
        replace s : St W (.blk g98 [.int .u8 98] 5 :: T) w := s
        refine and_keep trivial fun hS => ?_; clear ha; intro a ha
        exact K _ _ _ (by kernel_rfl) ⟨g98, (hpick ha), s⟩
      clear ha s hS; rintro a w ⟨g98, ha, s⟩
      have hS : (fun w => True) w := trivial
      refine hd_call (i := 7) ha rfl (by kernel_rfl) (by kernel_rfl) (by kernel_rfl) (Vm.p_vk_b ((m + 1 : Nat) : Int) (by omega) _ _ _ s) ?_
      clear hS; rintro _ w ⟨rfl, s⟩
      refine ⟨_, rfl, and_keep trivial fun hS => ?_⟩; clear ha; intro a ha
      refine yk (i := 8) (.tuple #[.string (str (vkey 98 ((m + 1 : Nat) : Int))), .int .i64 0]) ha hS ?_
      refine yyk (i := 9) (.string (str (vkey 98 ((m + 1 : Nat) : Int)))) hS ?_
      refine yyk (i := 10) (.int .i64 0) hS ?_
      refine yyk (i := 11) (.string (str (vkey 98 ((m + 1 : Nat) : Int)))) hS ?_; clear ha; intro a ha
      refine Head.done (by kernel_rfl) ?_
      clear hS; simp only [List.drop_succ_cons, List.drop_zero]
      refine zv (.int .i64 0) ha ?_; clear ha; intro a ha
      refine zn2 ?_
      rw [hT] at s
      replace s := (((((s.at_ (j := 6) rfl).at_ (j := 6) rfl).at_ (j := 6) rfl).at_ (j := 6) rfl).at_ (j := 6) rfl).at_ (j := 6) rfl
      replace s : St W (Tb gt (VR [] (fill N0 g0 N0) (fill N1 g1 m)) :: .blk gs [.int .i64 1, .string (str [97]), .string (str [109]), .pointer (some ⟨gd, 0, none⟩)] 153 :: .blk gd [.bool true, .int .i64 0, .int .i64 0, .slice none 0 0] 223 :: .blk va [.int .i64 a0, .int .i64 a1] 98 :: .blk vb [.bool g0, .bool g1] 99 :: .blk vp [.pointer (some ⟨gs, 0, none⟩), .pointer (some ⟨gt, 0, none⟩)] 26 :: L) w := s.keep 6 1
      exact ⟨(hpick ha), s⟩
     ·
      clear ha s; rintro a w ⟨ha, s⟩
      refine zn1 ?_
      refine zv (.int .i64 ((m + 1 : Nat) : Int)) ha ?_
      refine zzv (.int .i64 ((N1 : Nat) : Int)) ?_
      refine zzv (.bool (((m + 1 : Nat) : Int) == ((N1 : Nat) : Int))) ?_
      refine zzv (.bool (((m + 1 : Nat) : Int) == ((N1 : Nat) : Int))) ?_; clear ha; intro a ha
      rcases Bool.eq_false_or_eq_true (((m + 1 : Nat) : Int) == ((N1 : Nat) : Int)) with hb | hb
      ·
       rw [hb] at ha; have hb_ := hb; replace hb := eq_of_beq hb
       refine zv (.int .i64 1) ha ?_
       refine zzv (.pointer (some ⟨vb, 1, none⟩)) ?_
       refine zzw (.bool g1) (run_load1 (of_ := 1) (s.blkIs 4 rfl) rfl (by kernel_rfl) Tryz.isAgg4 rfl) ?_
       refine zzv (.bool g1) ?_
       refine zzv (.bool (!g1)) ?_; clear ha; intro a ha
       refine st_call ha (by kernel_rfl) (by kernel_rfl) (Vm.p_ver (!g1) _ _ _ s) ?_
       rintro _ w ⟨rfl, s⟩
       refine ⟨_, rfl, ?_⟩; clear ha; intro a ha
       refine zv (.tuple #[.string (str (vtx (!g1))), .int .i64 0]) ha ?_
       refine zzv (.string (str (vtx (!g1)))) ?_
       refine zzv (.int .i64 0) ?_
       refine zzv (.string (str (vtx (!g1)))) ?_
       refine zzv (.int .i64 0) ?_; clear ha; intro a ha
       refine zn4 ?_
       refine zv (.int .i64 0) ha ?_
       refine zzv (.bool false) ?_
       refine zzv (.bool false) ?_
       refine zzv (.int .i64 0) ?_
       refine zzv (.bool false) ?_
       refine zzv (.bool false) ?_
       refine zzv (.bool false) ?_
       refine zzv (.pointer (some ⟨vp, 1, none⟩)) ?_
       refine zzw (.pointer (some ⟨gt, 0, none⟩)) (run_load1 (of_ := 1) (s.blkIs 5 rfl) rfl (by kernel_rfl) Tryz.isAgg24 rfl) ?_
       refine zzv (.string (str (vkey 98 ((m + 1 : Nat) : Int)))) ?_
       refine zzv (.string (str (vtx (!g1)))) ?_
       refine zzv (.agg #[.string (str (vkey 98 ((m + 1 : Nat) : Int))), .string (str (vtx (!g1))), .bool false]) ?_; clear ha; intro a ha
       refine st_ex ha (by kernel_rfl) (ex_buildSlice elt44 _ zs44 [.string (str (vkey 98 ((m + 1 : Nat) : Int))), .string (str (vtx (!g1))), .bool false] s rfl (by kernel_rfl) (by decide)) ?_
       clear ha; rintro _ w a ⟨g188, rfl, s⟩ ha
       replace s := s.at_ (j := 1) rfl
       replace s : St W (Tb gt (VR [] (fill N0 g0 N0) (fill N1 g1 m)) :: .blk g188 [.string (str (vkey 98 ((m + 1 : Nat) : Int))), .string (str (vtx (!g1))), .bool false] 81 :: .blk gs [.int .i64 1, .string (str [97]), .string (str [109]), .pointer (some ⟨gd, 0, none⟩)] 153 :: .blk gd [.bool true, .int .i64 0, .int .i64 0, .slice none 0 0] 223 :: .blk va [.int .i64 a0, .int .i64 a1] 98 :: .blk vb [.bool g0, .bool g1] 99 :: .blk vp [.pointer (some ⟨gs, 0, none⟩), .pointer (some ⟨gt, 0, none⟩)] 26 :: L) w := s
       refine st_call ha (by kernel_rfl) (by kernel_rfl) (Apply_spec W _ _ gt (VR [] (fill N0 g0 N0) (fill N1 g1 m)) ⟨g188, 0, none⟩ 1 [((vkey 98 ((m + 1 : Nat) : Int)), (vtx (!g1)), false)] (by simp) (op_ok1 98 _ _) (fun w s => reads_blk s.cell rfl) (by rw [vr_len]; simp only [fill_len, List.length_cons, List.length_nil]; omega) s) ?_
       rintro _ w ⟨rfl, s⟩
       rw [fillB (fill N0 g0 N0) (by omega) (by rw [decide_eq_true (by omega)]; rfl)] at s
       refine ⟨_, rfl, ?_⟩; clear ha; intro a ha
       refine zv (.bool false) ha ?_
       refine zzv (.bool false) ?_; clear ha; intro a ha
       refine zn2 ?_
       refine wp_false ha rfl (by kernel_rfl) ?_
       refine wp_skip ?_
       refine block_normal ?_
       refine then_normal ?_
       refine wp_region_lit ?_
       refine zv (.int .i64 ((m + 1 : Nat) : Int)) ha ?_
       refine zzw (.int .i64 ((m + 2 : Nat) : Int)) (run_arith (((m + 1 : Nat) : Int) + (1 : Int)) ((m + 2 : Nat) : Int) rfl (by kernel_rfl) (by kernel_rfl) (.inl ⟨rfl, rfl⟩) (by rw [wrap64_in (by omega)]; try omega) _) ?_
       refine zzv (.int .i64 ((m + 2 : Nat) : Int)) ?_; clear ha; intro a ha
       refine zn2 ?_
       replace s := (((((s.at_ (j := 6) rfl).at_ (j := 6) rfl).at_ (j := 6) rfl).at_ (j := 6) rfl).at_ (j := 6) rfl).at_ (j := 5) rfl
       replace s : St W (Tb gt (VR [] (fill N0 g0 N0) (fill N1 g1 (m + 1))) :: .blk gs [.int .i64 1, .string (str [97]), .string (str [109]), .pointer (some ⟨gd, 0, none⟩)] 153 :: .blk gd [.bool true, .int .i64 0, .int .i64 0, .slice none 0 0] 223 :: .blk va [.int .i64 a0, .int .i64 a1] 98 :: .blk vb [.bool g0, .bool g1] 99 :: .blk vp [.pointer (some ⟨gs, 0, none⟩), .pointer (some ⟨gt, 0, none⟩)] 26 :: L) w := s.keep 6 1
       exact ⟨m + 1, by omega, (hpick ha), s, by omega⟩
      ·
       rw [hb] at ha; have hb_ := hb; replace hb := ne_of_beq_false hb
       refine zp ha ?_
       refine zzp ?_
       refine zzp ?_
       refine zzv (.bool false) ?_
       refine zzv (.bool true) ?_; clear ha; intro a ha
       refine st_call ha (by kernel_rfl) (by kernel_rfl) (Vm.p_ver true _ _ _ s) ?_
       rintro _ w ⟨rfl, s⟩
       refine ⟨_, rfl, ?_⟩; clear ha; intro a ha
       refine zv (.tuple #[.string (str (vtx true)), .int .i64 0]) ha ?_
       refine zzv (.string (str (vtx true))) ?_
       refine zzv (.int .i64 0) ?_
       refine zzv (.string (str (vtx true))) ?_
       refine zzv (.int .i64 0) ?_; clear ha; intro a ha
       refine zn4 ?_
       refine zv (.int .i64 0) ha ?_
       refine zzv (.bool false) ?_
       refine zzv (.bool false) ?_
       refine zzv (.int .i64 0) ?_
       refine zzv (.bool false) ?_
       refine zzv (.bool false) ?_
       refine zzv (.bool false) ?_
       refine zzv (.pointer (some ⟨vp, 1, none⟩)) ?_
       refine zzw (.pointer (some ⟨gt, 0, none⟩)) (run_load1 (of_ := 1) (s.blkIs 5 rfl) rfl (by kernel_rfl) Tryz.isAgg24 rfl) ?_
       refine zzv (.string (str (vkey 98 ((m + 1 : Nat) : Int)))) ?_
       refine zzv (.string (str (vtx true))) ?_
       refine zzv (.agg #[.string (str (vkey 98 ((m + 1 : Nat) : Int))), .string (str (vtx true)), .bool false]) ?_; clear ha; intro a ha
       refine st_ex ha (by kernel_rfl) (ex_buildSlice elt44 _ zs44 [.string (str (vkey 98 ((m + 1 : Nat) : Int))), .string (str (vtx true)), .bool false] s rfl (by kernel_rfl) (by decide)) ?_
       clear ha; rintro _ w a ⟨g189, rfl, s⟩ ha
       replace s := s.at_ (j := 1) rfl
       replace s : St W (Tb gt (VR [] (fill N0 g0 N0) (fill N1 g1 m)) :: .blk g189 [.string (str (vkey 98 ((m + 1 : Nat) : Int))), .string (str (vtx true)), .bool false] 81 :: .blk gs [.int .i64 1, .string (str [97]), .string (str [109]), .pointer (some ⟨gd, 0, none⟩)] 153 :: .blk gd [.bool true, .int .i64 0, .int .i64 0, .slice none 0 0] 223 :: .blk va [.int .i64 a0, .int .i64 a1] 98 :: .blk vb [.bool g0, .bool g1] 99 :: .blk vp [.pointer (some ⟨gs, 0, none⟩), .pointer (some ⟨gt, 0, none⟩)] 26 :: L) w := s
       refine st_call ha (by kernel_rfl) (by kernel_rfl) (Apply_spec W _ _ gt (VR [] (fill N0 g0 N0) (fill N1 g1 m)) ⟨g189, 0, none⟩ 1 [((vkey 98 ((m + 1 : Nat) : Int)), (vtx true), false)] (by simp) (op_ok1 98 _ _) (fun w s => reads_blk s.cell rfl) (by rw [vr_len]; simp only [fill_len, List.length_cons, List.length_nil]; omega) s) ?_
       rintro _ w ⟨rfl, s⟩
       rw [fillB (fill N0 g0 N0) (by omega) (by rw [decide_eq_false (by omega)]; rfl)] at s
       refine ⟨_, rfl, ?_⟩; clear ha; intro a ha
       refine zv (.bool false) ha ?_
       refine zzv (.bool false) ?_; clear ha; intro a ha
       refine zn2 ?_
       refine wp_false ha rfl (by kernel_rfl) ?_
       refine wp_skip ?_
       refine block_normal ?_
       refine then_normal ?_
       refine wp_region_lit ?_
       refine zv (.int .i64 ((m + 1 : Nat) : Int)) ha ?_
       refine zzw (.int .i64 ((m + 2 : Nat) : Int)) (run_arith (((m + 1 : Nat) : Int) + (1 : Int)) ((m + 2 : Nat) : Int) rfl (by kernel_rfl) (by kernel_rfl) (.inl ⟨rfl, rfl⟩) (by rw [wrap64_in (by omega)]; try omega) _) ?_
       refine zzv (.int .i64 ((m + 2 : Nat) : Int)) ?_; clear ha; intro a ha
       refine zn2 ?_
       replace s := (((((s.at_ (j := 6) rfl).at_ (j := 6) rfl).at_ (j := 6) rfl).at_ (j := 6) rfl).at_ (j := 6) rfl).at_ (j := 5) rfl
       replace s : St W (Tb gt (VR [] (fill N0 g0 N0) (fill N1 g1 (m + 1))) :: .blk gs [.int .i64 1, .string (str [97]), .string (str [109]), .pointer (some ⟨gd, 0, none⟩)] 153 :: .blk gd [.bool true, .int .i64 0, .int .i64 0, .slice none 0 0] 223 :: .blk va [.int .i64 a0, .int .i64 a1] 98 :: .blk vb [.bool g0, .bool g1] 99 :: .blk vp [.pointer (some ⟨gs, 0, none⟩), .pointer (some ⟨gt, 0, none⟩)] 26 :: L) w := s.keep 6 1
       exact ⟨m + 1, by omega, (hpick ha), s, by omega⟩
    ·
     rw [hb] at ha; replace hb : ¬ (((m + 1 : Nat) : Int) ≤ ((N1 : Nat) : Int)) := of_decide_eq_false hb
     have hm : N1 = m := by omega
     subst hm
     refine wp_exit ?_
     refine then_exit ?_
     refine then_exit ?_
     refine block_hit ?_
     refine block_normal ?_
     refine then_normal ?_
     refine wp_region_lit ?_
     refine zv (.int .i64 1) ha ?_
     refine zzv (.int .i64 2) ?_
     refine zzv (.int .i64 2) ?_; clear ha; intro a ha
     refine zn2 ?_
     show Code.rounds _ _ _ 1 _ _
     rw [rounds_succ]
     refine wp_seq ?_
     refine zn1 ?_
     refine zv (.int .i64 2) ha ?_
     refine zzv (.bool false) ?_; clear ha; intro a ha
     refine zn2 ?_
     refine wp_false ha rfl (by kernel_rfl) ?_
     refine wp_exit ?_
     refine then_exit ?_
     refine then_exit ?_
     refine block_hit ?_
     refine then_normal ?_
     refine zn1 ?_
     refine zv (.int .i64 to_) ha ?_; clear ha; intro a ha
     refine st_call ha (by kernel_rfl) (by kernel_rfl) ((bring_pos W _ _ to_ 130 (by decide) (by decide) s).mono fun e w h => (show _ ∧ _ from ⟨by have := h.1; rw [hW] at this; exact this, h.2⟩)) ?_
     rintro _ w ⟨rfl, s⟩
     refine ⟨_, rfl, ?_⟩; clear ha; intro a ha
     refine zw (.int .i64 wv) ha (run_arith ((1 : Int) + (wv - 1)) wv rfl (by kernel_rfl) (by kernel_rfl) (.inl ⟨rfl, rfl⟩) (by rw [wrap64_in (by omega)]; omega) _) ?_
     refine zzv (.int .i64 wv) ?_; clear ha; intro a ha
     refine zn4 ?_
     refine zv (.pointer (some ⟨vp, 1, none⟩)) ha ?_
     refine zzw (.pointer (some ⟨gt, 0, none⟩)) (run_load1 (of_ := 1) (s.blkIs 5 rfl) rfl (by kernel_rfl) Tryz.isAgg24 rfl) ?_; clear ha; intro a ha
     refine st_call ha (by kernel_rfl) (by kernel_rfl) (Copy_spec W _ _ gt (VR [] (fill N0 g0 N0) (fill N1 g1 N1)) (by rw [vr_len, fill_len, fill_len]; omega) s) ?_
     rintro _ w ⟨g2, rfl, s⟩
     refine ⟨_, rfl, ?_⟩; clear ha; intro a ha
     refine zv (.pointer (some ⟨g2, 0, none⟩)) ha ?_; clear ha; intro a ha
     refine zn2 ?_
     refine wp_seq ?_
     have hrise := tb_rise (s.at_ (j := 1) rfl)
     obtain ⟨la, hla⟩ : ∃ la, la = fill N0 g0 N0 := ⟨_, rfl⟩; obtain ⟨lb, hlb⟩ : ∃ lb, lb = fill N1 g1 N1 := ⟨_, rfl⟩
     rw [← hla, ← hlb] at s hrise
     have oka : Ok la := by rw [hla]; exact fill_ok (by omega)
     have okb : Ok lb := by rw [hlb]; exact fill_ok (by omega)
     have dea : Desc la := by rw [hla]; exact fill_desc _
     have deb : Desc lb := by rw [hlb]; exact fill_desc _
     have lna : la.length ≤ 120 := by rw [hla, fill_len]; exact hN0b
     have lnb : lb.length ≤ 120 := by rw [hlb, fill_len]; exact hN1b
     clear hla hlb
     refine wp_region_head 11 (fun w => BlkIs vp [.pointer (some ⟨gs, 0, none⟩), .pointer (some ⟨gt, 0, none⟩)] w ∧ True) (by kernel_rfl) (by decide) ?_
     replace s := s.drew; generalize _root_.Go.World.drew _ = w at s ⊢
     have hS : (fun w => BlkIs vp [.pointer (some ⟨gs, 0, none⟩), .pointer (some ⟨gt, 0, none⟩)] w ∧ True) w := ⟨s.blkIs 6 rfl, trivial⟩
     refine yk (i := 0) (.pointer (some ⟨vp, 0, none⟩)) ha hS ?_
     refine yyv (i := 1) (.pointer (some ⟨gs, 0, none⟩)) (fun w hS => run_load1 (of_ := 0) hS.1 rfl (by kernel_rfl) Tryz.isAgg23 rfl) hS ?_
     refine yyk (i := 2) (.pointer (some ⟨vp, 1, none⟩)) hS ?_
     refine yyv (i := 3) (.pointer (some ⟨gt, 0, none⟩)) (fun w hS => run_load1 (of_ := 1) hS.1 rfl (by kernel_rfl) Tryz.isAgg24 rfl) hS ?_
     refine yyk (i := 4) (.int .i64 wv) hS ?_; clear ha; intro a ha
     refine hd_call (i := 5) ha rfl (by kernel_rfl) (by kernel_rfl) (by kernel_rfl) (Vm.p_at wv (by omega) _ _ _ s) ?_
     clear hS; rintro _ w ⟨rfl, s⟩
     refine ⟨_, rfl, and_keep ⟨s.blkIs 6 rfl, trivial⟩ fun hS => ?_⟩; clear ha; intro a ha
     replace s := (s.at_ (j := 1) rfl).at_ (j := 2) rfl
     replace s : St W (.blk gs [.int .i64 1, .string (str [97]), .string (str [109]), .pointer (some ⟨gd, 0, none⟩)] 153 :: Tb gt (VR [] la lb) :: Tb g2 (VR [] la lb) :: .blk gd [.bool true, .int .i64 0, .int .i64 0, .slice none 0 0] 223 :: .blk va [.int .i64 a0, .int .i64 a1] 98 :: .blk vb [.bool g0, .bool g1] 99 :: .blk vp [.pointer (some ⟨gs, 0, none⟩), .pointer (some ⟨gt, 0, none⟩)] 26 :: L) w := s
     refine hd_call (i := 6) ha rfl (by kernel_rfl) (by kernel_rfl) (by kernel_rfl) (ShSweep_spec W _ _ gs gd gt (VR [] la lb) wv ⟨hw.1, by omega⟩ (vs2 la lb) tget_th (seg_vw (.inl rfl) hrise) (vs2_ok oka okb) (by unfold vs2; rw [List.length_append, List.length_map, List.length_map]; omega) s) ?_
     clear hS; rintro _ w ⟨ad, c4, rfl, s⟩
     refine ⟨_, rfl, and_keep ⟨s.blkIs 7 rfl, trivial⟩ fun hS => ?_⟩; clear ha; intro a ha
     refine yk (i := 7) (.tuple #[.slice (some ad) ((swOps wv (vs2 la lb)).length) c4, .int .i64 0]) ha hS ?_
     refine yyk (i := 8) (.slice (some ad) ((swOps wv (vs2 la lb)).length) c4) hS ?_
     refine yyk (i := 9) (.int .i64 0) hS ?_
     refine yyk (i := 10) (.slice (some ad) ((swOps wv (vs2 la lb)).length) c4) hS ?_; clear ha; intro a ha
     refine Head.done (by kernel_rfl) ?_
     clear hS; simp only [List.drop_succ_cons, List.drop_zero]
     refine zv (.int .i64 0) ha ?_; clear ha; intro a ha
     refine zn2 ?_
     refine wp_seq ?_
     refine wp_seq ?_
     have hsl : (swOps wv (vs2 la lb)).length ≤ 128 := by rw [swOps_len]; omega
     refine wp_region_lit ?_
     refine zv (.int .i64 0) ha ?_
     refine zzv (.bool false) ?_
     refine zzv (.bool false) ?_
     refine zzv (.slice (some ad) ((swOps wv (vs2 la lb)).length) c4) ?_
     refine zzv (.int .i64 (((swOps wv (vs2 la lb)).length : Nat) : Int)) ?_
     refine zzw (.bool false) (run_known (show (decide ((((swOps wv (vs2 la lb)).length : Nat) : Int) > (128 : Int))) = false from decide_eq_false (by omega)) (by kernel_rfl)) ?_
     refine zzv (.bool false) ?_
     refine zzv (.bool false) ?_
     refine zzv (.pointer (some ⟨vp, 1, none⟩)) ?_
     refine zzw (.pointer (some ⟨gt, 0, none⟩)) (run_load1 (of_ := 1) (s.blkIs 7 rfl) rfl (by kernel_rfl) Tryz.isAgg24 rfl) ?_
     refine zzv (.slice (some ad) ((swOps wv (vs2 la lb)).length) c4) ?_; clear ha; intro a ha
     replace s := (s.at_ (j := 2) rfl).at_ (j := 2) rfl
     replace s : St W (Tb gt (VR [] la lb) :: Sep.Own 81 3 (some ad) ((swOps wv (vs2 la lb)).length) c4 (ops3 (swOps wv (vs2 la lb))) :: .blk gs [.int .i64 1, .string (str [97]), .string (str [109]), .pointer (some ⟨gd, 0, none⟩)] 153 :: Tb g2 (VR [] la lb) :: .blk gd [.bool true, .int .i64 0, .int .i64 0, .slice none 0 0] 223 :: .blk va [.int .i64 a0, .int .i64 a1] 98 :: .blk vb [.bool g0, .bool g1] 99 :: .blk vp [.pointer (some ⟨gs, 0, none⟩), .pointer (some ⟨gt, 0, none⟩)] 26 :: L) w := s
     refine st_call ha (by kernel_rfl) (by kernel_rfl) (Apply_spec W _ _ gt (VR [] la lb) ad c4 (swOps wv (vs2 la lb)) hsl (swOps_ok wv la lb) (fun w s => Own.reads s) (by rw [vr_len]; omega) s) ?_
     rintro _ w ⟨rfl, s⟩
     rw [swept] at s
     refine ⟨_, rfl, ?_⟩; clear ha; intro a ha
     refine zv (.bool false) ha ?_
     refine zzv (.bool false) ?_; clear ha; intro a ha
     refine zn2 ?_
     refine wp_false ha rfl (by kernel_rfl) ?_
     refine wp_skip ?_
     refine then_normal ?_
     refine wp_seq ?_
     refine zn1 ?_
     refine zv (.int .i64 wv) ha ?_
     refine zzw (.int .i64 (wv + 1)) (run_arith (wv + 1) (wv + 1) rfl (by kernel_rfl) (by kernel_rfl) (.inl ⟨rfl, rfl⟩) (by rw [wrap64_in (by omega)]) _) ?_
     refine zzv (.int .i64 (wv + 1)) ?_; clear ha; intro a ha
     refine zn2 ?_
     refine wp_block ?_
     replace s := ((s.at_ (j := 7) rfl).at_ (j := 4) rfl).at_ (j := 2) rfl
     replace s : St W (Tb gt (VR [([103, 1], stx wv)] (la.filter (stays wv la lb 97)) (lb.filter (stays wv la lb 98))) :: Tb g2 (VR [] la lb) :: .blk vp [.pointer (some ⟨gs, 0, none⟩), .pointer (some ⟨gt, 0, none⟩)] 26 :: L) w := s.keep 3 5
     have hrise2 := tb_rise s
     obtain ⟨rB, hrB⟩ : ∃ r, r = VR [([103, 1], stx wv)] (la.filter (stays wv la lb 97)) (lb.filter (stays wv la lb 98)) := ⟨_, rfl⟩; obtain ⟨rA, hrA⟩ : ∃ r, r = VR [] la lb := ⟨_, rfl⟩
     rw [← hrB, ← hrA] at s
     refine wp_loopG (G := Int) (fun i a w => Has a 183 [(7, .pointer (some ⟨vp, 0, none⟩)), (16, .int .i64 wv), (17, .pointer (some ⟨g2, 0, none⟩)), (20, .int .i64 i)] ∧ St W (Tb gt rB :: Tb g2 rA :: .blk vp [.pointer (some ⟨gs, 0, none⟩), .pointer (some ⟨gt, 0, none⟩)] 26 :: L) w ∧ (wv < i ∧ i ≤ 132)) (fun i => (132 - i).toNat) (wv + 1) ?_ ?_
     ·
      exact ⟨(hpick ha), s, by omega⟩
     ·
      clear ha s; rintro i a w ⟨ha, s, hp⟩
      obtain ⟨hwi, hi132⟩ := hp
      refine wp_seq ?_
      refine zn1 ?_
      refine zv (.int .i64 i) ha ?_
      refine zzv (.bool (decide (i ≤ (131 : Int)))) ?_; clear ha; intro a ha
      refine zn2 ?_
      refine wp_part (decide (i ≤ (131 : Int))) ha rfl (by kernel_rfl) (fun hb => ?_) (fun hb => ?_)
      ·
       rw [hb] at ha; replace hb : (i ≤ (131 : Int)) := of_decide_eq_true hb
       refine wp_skip ?_
       refine then_normal ?_
       refine wp_seq ?_
       refine wp_block ?_
       refine zn1 ?_
       refine zv (.int .i64 0) ha ?_; clear ha; intro a ha
       refine zn2 ?_
       refine wp_block ?_
       refine wp_loopG (G := Nat) (fun k a w => Has a 183 [(7, .pointer (some ⟨vp, 0, none⟩)), (16, .int .i64 wv), (17, .pointer (some ⟨g2, 0, none⟩)), (20, .int .i64 i), (21, .int .i64 ((k : Nat) : Int))] ∧ St W (Tb gt rB :: Tb g2 rA :: .blk vp [.pointer (some ⟨gs, 0, none⟩), .pointer (some ⟨gt, 0, none⟩)] 26 :: L) w ∧ (k ≤ 2)) (fun k => 2 - k) 0 ?_ ?_
       ·
        exact ⟨(hpick ha), s, by omega⟩
       ·
        clear ha s; rintro k a w ⟨ha, s, hp⟩
        refine wp_seq ?_
        refine zn1 ?_
        refine zv (.int .i64 ((k : Nat) : Int)) ha ?_
        refine zzv (.bool (decide (((k : Nat) : Int) < (2 : Int)))) ?_; clear ha; intro a ha
        refine zn2 ?_
        refine wp_part (decide (((k : Nat) : Int) < (2 : Int))) ha rfl (by kernel_rfl) (fun hb => ?_) (fun hb => ?_)
        ·
         rw [hb] at ha; replace hb : (((k : Nat) : Int) < (2 : Int)) := of_decide_eq_true hb
         have hk2 : k < 2 := by omega
         obtain ⟨b1, z1, e1, hk1_⟩ := key_form (UInt8.ofNat (97 + k)) i (pre (UInt8.ofNat (97 + k)) (low i (selL k la lb)))
         obtain ⟨b2, z2, e2, hk2_⟩ := key_form (UInt8.ofNat (97 + k)) i (pre (UInt8.ofNat (97 + k)) (low i (selL k (la.filter (stays wv la lb 97)) (lb.filter (stays wv la lb 98)))))
         have hrel := reads_rel hwi oka okb dea deb hk2 hk1_ hk2_
         obtain ⟨F1, hF1⟩ : ∃ v : Value, v = .agg #[.string (str [(UInt8.ofNat (97 + k))]), .string (str []), .bool b1, .bool false, .int .i64 z1, .int .i64 0, .int .i64 0, .int .i64 0, .int .i64 0, .string (str []), .int .i64 0, .int .i64 0, .int .i64 0, .int .i64 0, .slice none 0 0] := ⟨_, rfl⟩
         have hg1 : ∀ (T : List Chunk) (w : World), St W (Tb g2 rA :: T) w → Calls Tryz.prog 13 #[.pointer (some ⟨g2, 0, none⟩), .string (str [(UInt8.ofNat (97 + k))]), .agg #[.int .i64 7, .int .i64 0, .int .i64 1, .string (str [98]), .int .i64 i, .int .i64 0, .int .i64 i, .int .i64 0, .int .i64 i, .int .i64 0, .int .i64 i, .int .i64 0], .agg #[.int .i64 wv, .int .i64 0]] w fun e w' => e = .returned (.tuple #[F1, .int .i64 e1]) ∧ St W (Tb g2 rA :: T) w' := fun T w s => by
          rw [hrA] at s ⊢
          rw [hF1]
          exact (Get_spec_ W _ _ g2 (VR [] la lb) i wv ⟨hwi, by omega⟩ hw.1 (UInt8.ofNat (97 + k)) (ch_ab hk2) (tget_i (.inl rfl) _) (pre (UInt8.ofNat (97 + k)) (low i (selL k la lb))) (seg_k (.inl rfl) hrise ⟨by omega, by omega⟩ oka okb hk2) (pre_ok (ch_ab hk2) (low_ok (sel_ok oka okb k))) s).mono fun e w h => ⟨h.1.trans (congrArg Ending.returned hk1_), h.2⟩
         obtain ⟨F2, hF2⟩ : ∃ v : Value, v = .agg #[.string (str [(UInt8.ofNat (97 + k))]), .string (str []), .bool b2, .bool false, .int .i64 z2, .int .i64 0, .int .i64 0, .int .i64 0, .int .i64 0, .string (str []), .int .i64 0, .int .i64 0, .int .i64 0, .int .i64 0, .slice none 0 0] := ⟨_, rfl⟩
         have hg2 : ∀ (T : List Chunk) (w : World), St W (Tb gt rB :: T) w → Calls Tryz.prog 13 #[.pointer (some ⟨gt, 0, none⟩), .string (str [(UInt8.ofNat (97 + k))]), .agg #[.int .i64 7, .int .i64 0, .int .i64 1, .string (str [98]), .int .i64 i, .int .i64 0, .int .i64 i, .int .i64 0, .int .i64 i, .int .i64 0, .int .i64 i, .int .i64 0], .agg #[.int .i64 wv, .int .i64 0]] w fun e w' => e = .returned (.tuple #[F2, .int .i64 e2]) ∧ St W (Tb gt rB :: T) w' := fun T w s => by
          rw [hrB] at s ⊢
          rw [hF2]
          exact (Get_spec_ W _ _ gt (VR [([103, 1], stx wv)] (la.filter (stays wv la lb 97)) (lb.filter (stays wv la lb 98))) i wv ⟨hwi, by omega⟩ hw.1 (UInt8.ofNat (97 + k)) (ch_ab hk2) (tget_i (.inr ⟨_, rfl⟩) _) (pre (UInt8.ofNat (97 + k)) (low i (selL k (la.filter (stays wv la lb 97)) (lb.filter (stays wv la lb 98))))) (seg_k (.inr ⟨_, rfl⟩) hrise2 ⟨by omega, by omega⟩ (filt_ok oka _) (filt_ok okb _) hk2) (pre_ok (ch_ab hk2) (low_ok (sel_ok (filt_ok oka _) (filt_ok okb _) k))) s).mono fun e w h => ⟨h.1.trans (congrArg Ending.returned hk2_), h.2⟩
         refine wp_skip ?_
         refine then_normal ?_
         refine wp_seq ?_
         refine wp_block ?_
         refine wp_between (fun a w => ∃ gr1 : Nat, Has a 183 [(7, .pointer (some ⟨vp, 0, none⟩)), (16, .int .i64 wv), (17, .pointer (some ⟨g2, 0, none⟩)), (20, .int .i64 i), (21, .int .i64 ((k : Nat) : Int)), (22, .pointer (some ⟨gr1, 0, none⟩)), (23, .int .i64 e1)] ∧ St W (.blk gr1 [.string (str [(UInt8.ofNat (97 + k))]), .string (str []), .bool b1, .bool false, .int .i64 z1, .int .i64 0, .int .i64 0, .int .i64 0, .int .i64 0, .string (str []), .int .i64 0, .int .i64 0, .int .i64 0, .int .i64 0, .slice none 0 0] 60 :: Tb gt rB :: Tb g2 rA :: .blk vp [.pointer (some ⟨gs, 0, none⟩), .pointer (some ⟨gt, 0, none⟩)] 26 :: L) w) ?_ ?_
         ·
          skip
          replace s := s.at_ (j := 1) rfl
          replace s : St W (Tb g2 rA :: Tb gt rB :: .blk vp [.pointer (some ⟨gs, 0, none⟩), .pointer (some ⟨gt, 0, none⟩)] 26 :: L) w := s
          obtain ⟨T, hT⟩ : ∃ T, T = Tb gt rB :: .blk vp [.pointer (some ⟨gs, 0, none⟩), .pointer (some ⟨gt, 0, none⟩)] 26 :: L := ⟨_, rfl⟩
          rw [← hT] at s
          refine wp_region_head 16 (fun w => True) (by kernel_rfl) (by decide) ?_
          replace s := s.drew; generalize _root_.Go.World.drew _ = w at s ⊢
          have hS : (fun w => True) w := trivial
          refine yk (i := 0) (.pointer (some ⟨g2, 0, none⟩)) ha hS ?_
          refine yyk (i := 1) (.int .i64 ((k : Nat) : Int)) hS ?_
          refine yyv (i := 2) (.int .i64 ((97 + k : Nat) : Int)) (fun w hS => (run_arith ((97 : Int) + ((k : Nat) : Int)) ((97 + k : Nat) : Int) rfl (by kernel_rfl) (by kernel_rfl) (.inl ⟨rfl, rfl⟩) (by rw [wrap64_in (by omega)]; omega) _)) hS ?_
          refine yyv (i := 3) (.int .u8 (((UInt8.ofNat (97 + k)).toNat : Nat) : Int)) (fun w hS => (run_conv (p := ((97 + k : Nat) : Int)) (((UInt8.ofNat (97 + k)).toNat : Nat) : Int) rfl (by kernel_rfl) Tryz.underlying3 Tryz.underlying5 (conv_u8 _ (by omega)) _)) hS ?_
          refine yyk (i := 6) (.int .i64 i) hS ?_
          refine yyk (i := 8) (.int .i64 wv) hS ?_; clear ha; intro a ha
          refine Head.fork (k := 1) [true, true, true, true, true, true, true, true, true, true, true, true, true, true, true, false, false] (fun a w => ∃ (g191 : Nat) (g341 : Nat), Has a 183 [(7, .pointer (some ⟨vp, 0, none⟩)), (16, .int .i64 wv), (17, .pointer (some ⟨g2, 0, none⟩)), (20, .int .i64 i), (21, .int .i64 ((k : Nat) : Int)), (121, .int .i64 ((k : Nat) : Int)), (122, .bool true), (126, .pointer (some ⟨g2, 0, none⟩)), (127, .int .i64 ((k : Nat) : Int)), (128, .int .i64 ((97 + k : Nat) : Int)), (129, .int .u8 (((UInt8.ofNat (97 + k)).toNat : Nat) : Int)), (132, .int .i64 i), (134, .int .i64 wv), (130, .slice (some ⟨g191, 0, none⟩) 1 1), (131, .string (str [(UInt8.ofNat (97 + k))])), (133, .agg #[.int .i64 7, .int .i64 0, .int .i64 1, .string (str [98]), .int .i64 i, .int .i64 0, .int .i64 i, .int .i64 0, .int .i64 i, .int .i64 0, .int .i64 i, .int .i64 0]), (135, .agg #[.int .i64 wv, .int .i64 0]), (136, .tuple #[F1, .int .i64 e1]), (125, .tuple #[F1, .int .i64 e1]), (137, F1), (138, .int .i64 e1), (22, .pointer (some ⟨g341, 0, none⟩))] ∧ St W (.blk g341 [.string (str []), .string (str []), .bool false, .bool false, .int .i64 0, .int .i64 0, .int .i64 0, .int .i64 0, .int .i64 0, .string (str []), .int .i64 0, .int .i64 0, .int .i64 0, .int .i64 0, .slice none 0 0] 60 :: Tb g2 rA :: .blk g191 [.int .u8 (((UInt8.ofNat (97 + k)).toNat : Nat) : Int)] 5 :: T) w) ?_ ?_
          ·
           intro K
           refine Head.three (i := 4) (j := 7) (k := 14) (by kernel_rfl) ?_ ?_ ?_
           ·
            skip
            refine hat_ex (i := 4) ha rfl (by kernel_rfl) (ex_buildSlice elt101 _ zs101 [.int .u8 (((UInt8.ofNat (97 + k)).toNat : Nat) : Int)] s rfl (by kernel_rfl) (by decide)) ?_
            clear hS; rintro _ w ⟨g191, rfl, s⟩
            refine and_keep trivial fun hS => ?_; clear ha; intro a ha
            refine Head.three (i := 5) (j := 7) (k := 14) (by kernel_rfl) ?_ ?_ ?_
            ·
             skip
             refine hat_ex (i := 5) ha rfl (by kernel_rfl) (ex_bstr (c := 1) (b := (UInt8.ofNat (97 + k))) 0 s rfl rfl (by kernel_rfl) Tryz.underlying101 Tryz.underlying5 Tryz.underlying9) ?_
             clear hS; rintro _ w ⟨rfl, s⟩
             replace s : St W (.blk g191 [.int .u8 (((UInt8.ofNat (97 + k)).toNat : Nat) : Int)] 5 :: Tb g2 rA :: T) w := s
             refine and_keep trivial fun hS => ?_; clear ha; intro a ha
             refine Head.two (i := 7) (j := 14) (by kernel_rfl) ?_ ?_
             ·
              skip
              refine hat_call (i := 7) ha rfl (by kernel_rfl) (by kernel_rfl) (Vm.p_txn i (by omega) _ _ _ s) ?_
              clear hS; rintro _ w ⟨rfl, s⟩
              refine ⟨_, rfl, and_keep trivial fun hS => ?_⟩; clear ha; intro a ha
              refine Head.two (i := 9) (j := 14) (by kernel_rfl) ?_ ?_
              ·
               skip
               refine hat_call (i := 9) ha rfl (by kernel_rfl) (by kernel_rfl) (Vm.p_at wv (by omega) _ _ _ s) ?_
               clear hS; rintro _ w ⟨rfl, s⟩
               refine ⟨_, rfl, and_keep trivial fun hS => ?_⟩; clear ha; intro a ha
               refine Head.two (i := 10) (j := 14) (by kernel_rfl) ?_ ?_
               ·
                skip
                replace s := s.at_ (j := 1) rfl
                replace s : St W (Tb g2 rA :: .blk g191 [.int .u8 (((UInt8.ofNat (97 + k)).toNat : Nat) : Int)] 5 :: T) w := s
                refine hat_call (i := 10) ha rfl (by kernel_rfl) (by kernel_rfl) (hg1 _ _ s) ?_
                clear hS; rintro _ w ⟨rfl, s⟩
                refine ⟨_, rfl, and_keep trivial fun hS => ?_⟩; clear ha; intro a ha
                refine yk (i := 11) (.tuple #[F1, .int .i64 e1]) ha hS ?_
                refine yyk (i := 12) (F1) hS ?_
                refine yyk (i := 13) (.int .i64 e1) hS ?_; clear ha; intro a ha
                refine hd_ex (i := 14) ha rfl (by kernel_rfl) (by kernel_rfl) (ex_alloc [.string (str []), .string (str []), .bool false, .bool false, .int .i64 0, .int .i64 0, .int .i64 0, .int .i64 0, .int .i64 0, .string (str []), .int .i64 0, .int .i64 0, .int .i64 0, .int .i64 0, .slice none 0 0] s rfl (Tryz.zeroValue60 _) (by kernel_rfl)) ?_
                clear hS; rintro _ w ⟨g341, rfl, s⟩
                refine and_keep trivial fun hS => ?_; clear ha; intro a ha
                exact K _ _ _ (by kernel_rfl) ⟨g191, g341, (hpick ha), s⟩
               ·
                skip
                refine hat_ex (i := 14) ha rfl (by kernel_rfl) (ex_alloc [.string (str []), .string (str []), .bool false, .bool false, .int .i64 0, .int .i64 0, .int .i64 0, .int .i64 0, .int .i64 0, .string (str []), .int .i64 0, .int .i64 0, .int .i64 0, .int .i64 0, .slice none 0 0] s rfl (Tryz.zeroValue60 _) (by kernel_rfl)) ?_
                clear hS; rintro _ w ⟨g341, rfl, s⟩
                refine and_keep trivial fun hS => ?_; clear ha; intro a ha
                replace s := s.at_ (j := 2) rfl
                replace s : St W (Tb g2 rA :: .blk g341 [.string (str []), .string (str []), .bool false, .bool false, .int .i64 0, .int .i64 0, .int .i64 0, .int .i64 0, .int .i64 0, .string (str []), .int .i64 0, .int .i64 0, .int .i64 0, .int .i64 0, .slice none 0 0] 60 :: .blk g191 [.int .u8 (((UInt8.ofNat (97 + k)).toNat : Nat) : Int)] 5 :: T) w := s
                refine hd_call (i := 10) ha rfl (by kernel_rfl) (by kernel_rfl) (by kernel_rfl) (hg1 _ _ s) ?_
                clear hS; rintro _ w ⟨rfl, s⟩
                refine ⟨_, rfl, and_keep trivial fun hS => ?_⟩; clear ha; intro a ha
                refine yk (i := 11) (.tuple #[F1, .int .i64 e1]) ha hS ?_
                refine yyk (i := 12) (F1) hS ?_
                refine yyk (i := 13) (.int .i64 e1) hS ?_; clear ha; intro a ha
                replace s := ((s.at_ (j := 2) rfl).at_ (j := 1) rfl).at_ (j := 2) rfl
                replace s : St W (.blk g341 [.string (str []), .string (str []), .bool false, .bool false, .int .i64 0, .int .i64 0, .int .i64 0, .int .i64 0, .int .i64 0, .string (str []), .int .i64 0, .int .i64 0, .int .i64 0, .int .i64 0, .slice none 0 0] 60 :: Tb g2 rA :: .blk g191 [.int .u8 (((UInt8.ofNat (97 + k)).toNat : Nat) : Int)] 5 :: T) w := s
                exact K _ _ _ (by kernel_rfl) ⟨g191, g341, (hpick ha), s⟩
              ·
               skip
               refine hat_ex (i := 14) ha rfl (by kernel_rfl) (ex_alloc [.string (str []), .string (str []), .bool false, .bool false, .int .i64 0, .int .i64 0, .int .i64 0, .int .i64 0, .int .i64 0, .string (str []), .int .i64 0, .int .i64 0, .int .i64 0, .int .i64 0, .slice none 0 0] s rfl (Tryz.zeroValue60 _) (by kernel_rfl)) ?_
               clear hS; rintro _ w ⟨g341, rfl, s⟩
               refine and_keep trivial fun hS => ?_; clear ha; intro a ha
               refine hd_call (i := 9) ha rfl (by kernel_rfl) (by kernel_rfl) (by kernel_rfl) (Vm.p_at wv (by omega) _ _ _ s) ?_
               clear hS; rintro _ w ⟨rfl, s⟩
               refine ⟨_, rfl, and_keep trivial fun hS => ?_⟩; clear ha; intro a ha
               replace s := s.at_ (j := 2) rfl
               replace s : St W (Tb g2 rA :: .blk g341 [.string (str []), .string (str []), .bool false, .bool false, .int .i64 0, .int .i64 0, .int .i64 0, .int .i64 0, .int .i64 0, .string (str []), .int .i64 0, .int .i64 0, .int .i64 0, .int .i64 0, .slice none 0 0] 60 :: .blk g191 [.int .u8 (((UInt8.ofNat (97 + k)).toNat : Nat) : Int)] 5 :: T) w := s
               refine hd_call (i := 10) ha rfl (by kernel_rfl) (by kernel_rfl) (by kernel_rfl) (hg1 _ _ s) ?_
               clear hS; rintro _ w ⟨rfl, s⟩
               refine ⟨_, rfl, and_keep trivial fun hS => ?_⟩; clear ha; intro a ha
               refine yk (i := 11) (.tuple #[F1, .int .i64 e1]) ha hS ?_
               refine yyk (i := 12) (F1) hS ?_
               refine yyk (i := 13) (.int .i64 e1) hS ?_; clear ha; intro a ha
               replace s := ((s.at_ (j := 2) rfl).at_ (j := 1) rfl).at_ (j := 2) rfl
               replace s : St W (.blk g341 [.string (str []), .string (str []), .bool false, .bool false, .int .i64 0, .int .i64 0, .int .i64 0, .int .i64 0, .int .i64 0, .string (str []), .int .i64 0, .int .i64 0, .int .i64 0, .int .i64 0, .slice none 0 0] 60 :: Tb g2 rA :: .blk g191 [.int .u8 (((UInt8.ofNat (97 + k)).toNat : Nat) : Int)] 5 :: T) w := s
               exact K _ _ _ (by kernel_rfl) ⟨g191, g341, (hpick ha), s⟩
             ·
              skip
              refine hat_ex (i := 14) ha rfl (by kernel_rfl) (ex_alloc [.string (str []), .string (str []), .bool false, .bool false, .int .i64 0, .int .i64 0, .int .i64 0, .int .i64 0, .int .i64 0, .string (str []), .int .i64 0, .int .i64 0, .int .i64 0, .int .i64 0, .slice none 0 0] s rfl (Tryz.zeroValue60 _) (by kernel_rfl)) ?_
              clear hS; rintro _ w ⟨g341, rfl, s⟩
              refine and_keep trivial fun hS => ?_; clear ha; intro a ha
              refine hd_call (i := 7) ha rfl (by kernel_rfl) (by kernel_rfl) (by kernel_rfl) (Vm.p_txn i (by omega) _ _ _ s) ?_
              clear hS; rintro _ w ⟨rfl, s⟩
              refine ⟨_, rfl, and_keep trivial fun hS => ?_⟩; clear ha; intro a ha
              refine hd_call (i := 9) ha rfl (by kernel_rfl) (by kernel_rfl) (by kernel_rfl) (Vm.p_at wv (by omega) _ _ _ s) ?_
              clear hS; rintro _ w ⟨rfl, s⟩
              refine ⟨_, rfl, and_keep trivial fun hS => ?_⟩; clear ha; intro a ha
              replace s := s.at_ (j := 2) rfl
              replace s : St W (Tb g2 rA :: .blk g341 [.string (str []), .string (str []), .bool false, .bool false, .int .i64 0, .int .i64 0, .int .i64 0, .int .i64 0, .int .i64 0, .string (str []), .int .i64 0, .int .i64 0, .int .i64 0, .int .i64 0, .slice none 0 0] 60 :: .blk g191 [.int .u8 (((UInt8.ofNat (97 + k)).toNat : Nat) : Int)] 5 :: T) w := s
              refine hd_call (i := 10) ha rfl (by kernel_rfl) (by kernel_rfl) (by kernel_rfl) (hg1 _ _ s) ?_
              clear hS; rintro _ w ⟨rfl, s⟩
              refine ⟨_, rfl, and_keep trivial fun hS => ?_⟩; clear ha; intro a ha
              refine yk (i := 11) (.tuple #[F1, .int .i64 e1]) ha hS ?_
              refine yyk (i := 12) (F1) hS ?_
              refine yyk (i := 13) (.int .i64 e1) hS ?_; clear ha; intro a ha
              replace s := ((s.at_ (j := 2) rfl).at_ (j := 1) rfl).at_ (j := 2) rfl
              replace s : St W (.blk g341 [.string (str []), .string (str []), .bool false, .bool false, .int .i64 0, .int .i64 0, .int .i64 0, .int .i64 0, .int .i64 0, .string (str []), .int .i64 0, .int .i64 0, .int .i64 0, .int .i64 0, .slice none 0 0] 60 :: Tb g2 rA :: .blk g191 [.int .u8 (((UInt8.ofNat (97 + k)).toNat : Nat) : Int)] 5 :: T) w := s
              exact K _ _ _ (by kernel_rfl) ⟨g191, g341, (hpick ha), s⟩
            ·
             skip
             refine hat_call (i := 7) ha rfl (by kernel_rfl) (by kernel_rfl) (Vm.p_txn i (by omega) _ _ _ s) ?_
             clear hS; rintro _ w ⟨rfl, s⟩
             refine ⟨_, rfl, and_keep trivial fun hS => ?_⟩; clear ha; intro a ha
             refine Head.three (i := 5) (j := 9) (k := 14) (by kernel_rfl) ?_ ?_ ?_
             ·
              skip
              refine hat_ex (i := 5) ha rfl (by kernel_rfl) (ex_bstr (c := 1) (b := (UInt8.ofNat (97 + k))) 0 s rfl rfl (by kernel_rfl) Tryz.underlying101 Tryz.underlying5 Tryz.underlying9) ?_
              clear hS; rintro _ w ⟨rfl, s⟩
              replace s : St W (.blk g191 [.int .u8 (((UInt8.ofNat (97 + k)).toNat : Nat) : Int)] 5 :: Tb g2 rA :: T) w := s
              refine and_keep trivial fun hS => ?_; clear ha; intro a ha
              refine Head.two (i := 9) (j := 14) (by kernel_rfl) ?_ ?_
              ·
               skip
               refine hat_call (i := 9) ha rfl (by kernel_rfl) (by kernel_rfl) (Vm.p_at wv (by omega) _ _ _ s) ?_
               clear hS; rintro _ w ⟨rfl, s⟩
               refine ⟨_, rfl, and_keep trivial fun hS => ?_⟩; clear ha; intro a ha
               refine Head.two (i := 10) (j := 14) (by kernel_rfl) ?_ ?_
               ·
                skip
                replace s := s.at_ (j := 1) rfl
                replace s : St W (Tb g2 rA :: .blk g191 [.int .u8 (((UInt8.ofNat (97 + k)).toNat : Nat) : Int)] 5 :: T) w := s
                refine hat_call (i := 10) ha rfl (by kernel_rfl) (by kernel_rfl) (hg1 _ _ s) ?_
                clear hS; rintro _ w ⟨rfl, s⟩
                refine ⟨_, rfl, and_keep trivial fun hS => ?_⟩; clear ha; intro a ha
                refine yk (i := 11) (.tuple #[F1, .int .i64 e1]) ha hS ?_
                refine yyk (i := 12) (F1) hS ?_
                refine yyk (i := 13) (.int .i64 e1) hS ?_; clear ha; intro a ha
                refine hd_ex (i := 14) ha rfl (by kernel_rfl) (by kernel_rfl) (ex_alloc [.string (str []), .string (str []), .bool false, .bool false, .int .i64 0, .int .i64 0, .int .i64 0, .int .i64 0, .int .i64 0, .string (str []), .int .i64 0, .int .i64 0, .int .i64 0, .int .i64 0, .slice none 0 0] s rfl (Tryz.zeroValue60 _) (by kernel_rfl)) ?_
                clear hS; rintro _ w ⟨g341, rfl, s⟩
                refine and_keep trivial fun hS => ?_; clear ha; intro a ha
                exact K _ _ _ (by kernel_rfl) ⟨g191, g341, (hpick ha), s⟩
               ·
                skip
                refine hat_ex (i := 14) ha rfl (by kernel_rfl) (ex_alloc [.string (str []), .string (str []), .bool false, .bool false, .int .i64 0, .int .i64 0, .int .i64 0, .int .i64 0, .int .i64 0, .string (str []), .int .i64 0, .int .i64 0, .int .i64 0, .int .i64 0, .slice none 0 0] s rfl (Tryz.zeroValue60 _) (by kernel_rfl)) ?_
                clear hS; rintro _ w ⟨g341, rfl, s⟩
                refine and_keep trivial fun hS => ?_; clear ha; intro a ha
                replace s := s.at_ (j := 2) rfl
                replace s : St W (Tb g2 rA :: .blk g341 [.string (str []), .string (str []), .bool false, .bool false, .int .i64 0, .int .i64 0, .int .i64 0, .int .i64 0, .int .i64 0, .string (str []), .int .i64 0, .int .i64 0, .int .i64 0, .int .i64 0, .slice none 0 0] 60 :: .blk g191 [.int .u8 (((UInt8.ofNat (97 + k)).toNat : Nat) : Int)] 5 :: T) w := s
                refine hd_call (i := 10) ha rfl (by kernel_rfl) (by kernel_rfl) (by kernel_rfl) (hg1 _ _ s) ?_
                clear hS; rintro _ w ⟨rfl, s⟩
                refine ⟨_, rfl, and_keep trivial fun hS => ?_⟩; clear ha; intro a ha
                refine yk (i := 11) (.tuple #[F1, .int .i64 e1]) ha hS ?_
                refine yyk (i := 12) (F1) hS ?_
                refine yyk (i := 13) (.int .i64 e1) hS ?_; clear ha; intro a ha
                replace s := ((s.at_ (j := 2) rfl).at_ (j := 1) rfl).at_ (j := 2) rfl
                replace s : St W (.blk g341 [.string (str []), .string (str []), .bool false, .bool false, .int .i64 0, .int .i64 0, .int .i64 0, .int .i64 0, .int .i64 0, .string (str []), .int .i64 0, .int .i64 0, .int .i64 0, .int .i64 0, .slice none 0 0] 60 :: Tb g2 rA :: .blk g191 [.int .u8 (((UInt8.ofNat (97 + k)).toNat : Nat) : Int)] 5 :: T) w := s
                exact K _ _ _ (by kernel_rfl) ⟨g191, g341, (hpick ha), s⟩
              ·
               skip
               refine hat_ex (i := 14) ha rfl (by kernel_rfl) (ex_alloc [.string (str []), .string (str []), .bool false, .bool false, .int .i64 0, .int .i64 0, .int .i64 0, .int .i64 0, .int .i64 0, .string (str []), .int .i64 0, .int .i64 0, .int .i64 0, .int .i64 0, .slice none 0 0] s rfl (Tryz.zeroValue60 _) (by kernel_rfl)) ?_
               clear hS; rintro _ w ⟨g341, rfl, s⟩
               refine and_keep trivial fun hS => ?_; clear ha; intro a ha
               refine hd_call (i := 9) ha rfl (by kernel_rfl) (by kernel_rfl) (by kernel_rfl) (Vm.p_at wv (by omega) _ _ _ s) ?_
               clear hS; rintro _ w ⟨rfl, s⟩
               refine ⟨_, rfl, and_keep trivial fun hS => ?_⟩; clear ha; intro a ha
               replace s := s.at_ (j := 2) rfl
               replace s : St W (Tb g2 rA :: .blk g341 [.string (str []), .string (str []), .bool false, .bool false, .int .i64 0, .int .i64 0, .int .i64 0, .int .i64 0, .int .i64 0, .string (str []), .int .i64 0, .int .i64 0, .int .i64 0, .int .i64 0, .slice none 0 0] 60 :: .blk g191 [.int .u8 (((UInt8.ofNat (97 + k)).toNat : Nat) : Int)] 5 :: T) w := s
               refine hd_call (i := 10) ha rfl (by kernel_rfl) (by kernel_rfl) (by kernel_rfl) (hg1 _ _ s) ?_
               clear hS; rintro _ w ⟨rfl, s⟩
               refine ⟨_, rfl, and_keep trivial fun hS => ?_⟩; clear ha; intro a ha
               refine yk (i := 11) (.tuple #[F1, .int .i64 e1]) ha hS ?_
               refine yyk (i := 12) (F1) hS ?_
               refine yyk (i := 13) (.int .i64 e1) hS ?_; clear ha; intro a ha
               replace s := ((s.at_ (j := 2) rfl).at_ (j := 1) rfl).at_ (j := 2) rfl
               replace s : St W (.blk g341 [.string (str []), .string (str []), .bool false, .bool false, .int .i64 0, .int .i64 0, .int .i64 0, .int .i64 0, .int .i64 0, .string (str []), .int .i64 0, .int .i64 0, .int .i64 0, .int .i64 0, .slice none 0 0] 60 :: Tb g2 rA :: .blk g191 [.int .u8 (((UInt8.ofNat (97 + k)).toNat : Nat) : Int)] 5 :: T) w := s
               exact K _ _ _ (by kernel_rfl) ⟨g191, g341, (hpick ha), s⟩
             ·
              skip
              refine hat_call (i := 9) ha rfl (by kernel_rfl) (by kernel_rfl) (Vm.p_at wv (by omega) _ _ _ s) ?_
              clear hS; rintro _ w ⟨rfl, s⟩
              refine ⟨_, rfl, and_keep trivial fun hS => ?_⟩; clear ha; intro a ha
              refine Head.two (i := 5) (j := 14) (by kernel_rfl) ?_ ?_
              ·
               skip
               refine hat_ex (i := 5) ha rfl (by kernel_rfl) (ex_bstr (c := 1) (b := (UInt8.ofNat (97 + k))) 0 s rfl rfl (by kernel_rfl) Tryz.underlying101 Tryz.underlying5 Tryz.underlying9) ?_
               clear hS; rintro _ w ⟨rfl, s⟩
               replace s : St W (.blk g191 [.int .u8 (((UInt8.ofNat (97 + k)).toNat : Nat) : Int)] 5 :: Tb g2 rA :: T) w := s
               refine and_keep trivial fun hS => ?_; clear ha; intro a ha
               refine Head.two (i := 10) (j := 14) (by kernel_rfl) ?_ ?_
               ·
                skip
                replace s := s.at_ (j := 1) rfl
                replace s : St W (Tb g2 rA :: .blk g191 [.int .u8 (((UInt8.ofNat (97 + k)).toNat : Nat) : Int)] 5 :: T) w := s
                refine hat_call (i := 10) ha rfl (by kernel_rfl) (by kernel_rfl) (hg1 _ _ s) ?_
                clear hS; rintro _ w ⟨rfl, s⟩
                refine ⟨_, rfl, and_keep trivial fun hS => ?_⟩; clear ha; intro a ha
                refine yk (i := 11) (.tuple #[F1, .int .i64 e1]) ha hS ?_
                refine yyk (i := 12) (F1) hS ?_
                refine yyk (i := 13) (.int .i64 e1) hS ?_; clear ha; intro a ha
                refine hd_ex (i := 14) ha rfl (by kernel_rfl) (by kernel_rfl) (ex_alloc [.string (str []), .string (str []), .bool false, .bool false, .int .i64 0, .int .i64 0, .int .i64 0, .int .i64 0, .int .i64 0, .string (str []), .int .i64 0, .int .i64 0, .int .i64 0, .int .i64 0, .slice none 0 0] s rfl (Tryz.zeroValue60 _) (by kernel_rfl)) ?_
                clear hS; rintro _ w ⟨g341, rfl, s⟩
                refine and_keep trivial fun hS => ?_; clear ha; intro a ha
                exact K _ _ _ (by kernel_rfl) ⟨g191, g341, (hpick ha), s⟩
               ·
                skip
                refine hat_ex (i := 14) ha rfl (by kernel_rfl) (ex_alloc [.string (str []), .string (str []), .bool false, .bool false, .int .i64 0, .int .i64 0, .int .i64 0, .int .i64 0, .int .i64 0, .string (str []), .int .i64 0, .int .i64 0, .int .i64 0, .int .i64 0, .slice none 0 0] s rfl (Tryz.zeroValue60 _) (by kernel_rfl)) ?_
                clear hS; rintro _ w ⟨g341, rfl, s⟩
                refine and_keep trivial fun hS => ?_; clear ha; intro a ha
                replace s := s.at_ (j := 2) rfl
                replace s : St W (Tb g2 rA :: .blk g341 [.string (str []), .string (str []), .bool false, .bool false, .int .i64 0, .int .i64 0, .int .i64 0, .int .i64 0, .int .i64 0, .string (str []), .int .i64 0, .int .i64 0, .int .i64 0, .int .i64 0, .slice none 0 0] 60 :: .blk g191 [.int .u8 (((UInt8.ofNat (97 + k)).toNat : Nat) : Int)] 5 :: T) w := s
                refine hd_call (i := 10) ha rfl (by kernel_rfl) (by kernel_rfl) (by kernel_rfl) (hg1 _ _ s) ?_
                clear hS; rintro _ w ⟨rfl, s⟩
                refine ⟨_, rfl, and_keep trivial fun hS => ?_⟩; clear ha; intro a ha
                refine yk (i := 11) (.tuple #[F1, .int .i64 e1]) ha hS ?_
                refine yyk (i := 12) (F1) hS ?_
                refine yyk (i := 13) (.int .i64 e1) hS ?_; clear ha; intro a ha
                replace s := ((s.at_ (j := 2) rfl).at_ (j := 1) rfl).at_ (j := 2) rfl
                replace s : St W (.blk g341 [.string (str []), .string (str []), .bool false, .bool false, .int .i64 0, .int .i64 0, .int .i64 0, .int .i64 0, .int .i64 0, .string (str []), .int .i64 0, .int .i64 0, .int .i64 0, .int .i64 0, .slice none 0 0] 60 :: Tb g2 rA :: .blk g191 [.int .u8 (((UInt8.ofNat (97 + k)).toNat : Nat) : Int)] 5 :: T) w := s
                exact K _ _ _ (by kernel_rfl) ⟨g191, g341, (hpick ha), s⟩
              ·
               skip
               refine hat_ex (i := 14) ha rfl (by kernel_rfl) (ex_alloc [.string (str []), .string (str []), .bool false, .bool false, .int .i64 0, .int .i64 0, .int .i64 0, .int .i64 0, .int .i64 0, .string (str []), .int .i64 0, .int .i64 0, .int .i64 0, .int .i64 0, .slice none 0 0] s rfl (Tryz.zeroValue60 _) (by kernel_rfl)) ?_
               clear hS; rintro _ w ⟨g341, rfl, s⟩
               refine and_keep trivial fun hS => ?_; clear ha; intro a ha
               refine hd_ex (i := 5) ha rfl (by kernel_rfl) (by kernel_rfl) (ex_bstr (c := 1) (b := (UInt8.ofNat (97 + k))) 1 s rfl rfl (by kernel_rfl) Tryz.underlying101 Tryz.underlying5 Tryz.underlying9) ?_
               clear hS; rintro _ w ⟨rfl, s⟩
               replace s : St W (.blk g341 [.string (str []), .string (str []), .bool false, .bool false, .int .i64 0, .int .i64 0, .int .i64 0, .int .i64 0, .int .i64 0, .string (str []), .int .i64 0, .int .i64 0, .int .i64 0, .int .i64 0, .slice none 0 0] 60 :: .blk g191 [.int .u8 (((UInt8.ofNat (97 + k)).toNat : Nat) : Int)] 5 :: Tb g2 rA :: T) w := s
               refine and_keep trivial fun hS => ?_; clear ha; intro a ha
               replace s := s.at_ (j := 2) rfl
               replace s : St W (Tb g2 rA :: .blk g341 [.string (str []), .string (str []), .bool false, .bool false, .int .i64 0, .int .i64 0, .int .i64 0, .int .i64 0, .int .i64 0, .string (str []), .int .i64 0, .int .i64 0, .int .i64 0, .int .i64 0, .slice none 0 0] 60 :: .blk g191 [.int .u8 (((UInt8.ofNat (97 + k)).toNat : Nat) : Int)] 5 :: T) w := s
               refine hd_call (i := 10) ha rfl (by kernel_rfl) (by kernel_rfl) (by kernel_rfl) (hg1 _ _ s) ?_
               clear hS; rintro _ w ⟨rfl, s⟩
               refine ⟨_, rfl, and_keep trivial fun hS => ?_⟩; clear ha; intro a ha
               refine yk (i := 11) (.tuple #[F1, .int .i64 e1]) ha hS ?_
               refine yyk (i := 12) (F1) hS ?_
               refine yyk (i := 13) (.int .i64 e1) hS ?_; clear ha; intro a ha
               replace s := ((s.at_ (j := 2) rfl).at_ (j := 1) rfl).at_ (j := 2) rfl
               replace s : St W (.blk g341 [.string (str []), .string (str []), .bool false, .bool false, .int .i64 0, .int .i64 0, .int .i64 0, .int .i64 0, .int .i64 0, .string (str []), .int .i64 0, .int .i64 0, .int .i64 0, .int .i64 0, .slice none 0 0] 60 :: Tb g2 rA :: .blk g191 [.int .u8 (((UInt8.ofNat (97 + k)).toNat : Nat) : Int)] 5 :: T) w := s
               exact K _ _ _ (by kernel_rfl) ⟨g191, g341, (hpick ha), s⟩
             ·
              skip
              refine hat_ex (i := 14) ha rfl (by kernel_rfl) (ex_alloc [.string (str []), .string (str []), .bool false, .bool false, .int .i64 0, .int .i64 0, .int .i64 0, .int .i64 0, .int .i64 0, .string (str []), .int .i64 0, .int .i64 0, .int .i64 0, .int .i64 0, .slice none 0 0] s rfl (Tryz.zeroValue60 _) (by kernel_rfl)) ?_
              clear hS; rintro _ w ⟨g341, rfl, s⟩
              refine and_keep trivial fun hS => ?_; clear ha; intro a ha
              refine Head.two (i := 5) (j := 9) (by kernel_rfl) ?_ ?_
              ·
               skip
               refine hat_ex (i := 5) ha rfl (by kernel_rfl) (ex_bstr (c := 1) (b := (UInt8.ofNat (97 + k))) 1 s rfl rfl (by kernel_rfl) Tryz.underlying101 Tryz.underlying5 Tryz.underlying9) ?_
               clear hS; rintro _ w ⟨rfl, s⟩
               replace s : St W (.blk g341 [.string (str []), .string (str []), .bool false, .bool false, .int .i64 0, .int .i64 0, .int .i64 0, .int .i64 0, .int .i64 0, .string (str []), .int .i64 0, .int .i64 0, .int .i64 0, .int .i64 0, .slice none 0 0] 60 :: .blk g191 [.int .u8 (((UInt8.ofNat (97 + k)).toNat : Nat) : Int)] 5 :: Tb g2 rA :: T) w := s
               refine and_keep trivial fun hS => ?_; clear ha; intro a ha
               refine hd_call (i := 9) ha rfl (by kernel_rfl) (by kernel_rfl) (by kernel_rfl) (Vm.p_at wv (by omega) _ _ _ s) ?_
               clear hS; rintro _ w ⟨rfl, s⟩
               refine ⟨_, rfl, and_keep trivial fun hS => ?_⟩; clear ha; intro a ha
               replace s := s.at_ (j := 2) rfl
               replace s : St W (Tb g2 rA :: .blk g341 [.string (str []), .string (str []), .bool false, .bool false, .int .i64 0, .int .i64 0, .int .i64 0, .int .i64 0, .int .i64 0, .string (str []), .int .i64 0, .int .i64 0, .int .i64 0, .int .i64 0, .slice none 0 0] 60 :: .blk g191 [.int .u8 (((UInt8.ofNat (97 + k)).toNat : Nat) : Int)] 5 :: T) w := s
               refine hd_call (i := 10) ha rfl (by kernel_rfl) (by kernel_rfl) (by kernel_rfl) (hg1 _ _ s) ?_
               clear hS; rintro _ w ⟨rfl, s⟩
               refine ⟨_, rfl, and_keep trivial fun hS => ?_⟩; clear ha; intro a ha
               refine yk (i := 11) (.tuple #[F1, .int .i64 e1]) ha hS ?_
               refine yyk (i := 12) (F1) hS ?_
               refine yyk (i := 13) (.int .i64 e1) hS ?_; clear ha; intro a ha
               replace s := ((s.at_ (j := 2) rfl).at_ (j := 1) rfl).at_ (j := 2) rfl
               replace s : St W (.blk g341 [.string (str []), .string (str []), .bool false, .bool false, .int .i64 0, .int .i64 0, .int .i64 0, .int .i64 0, .int .i64 0, .string (str []), .int .i64 0, .int .i64 0, .int .i64 0, .int .i64 0, .slice none 0 0] 60 :: Tb g2 rA :: .blk g191 [.int .u8 (((UInt8.ofNat (97 + k)).toNat : Nat) : Int)] 5 :: T) w := s
               exact K _ _ _ (by kernel_rfl) ⟨g191, g341, (hpick ha), s⟩
              ·
               skip
               refine hat_call (i := 9) ha rfl (by kernel_rfl) (by kernel_rfl) (Vm.p_at wv (by omega) _ _ _ s) ?_
               clear hS; rintro _ w ⟨rfl, s⟩
               refine ⟨_, rfl, and_keep trivial fun hS => ?_⟩; clear ha; intro a ha
               refine hd_ex (i := 5) ha rfl (by kernel_rfl) (by kernel_rfl) (ex_bstr (c := 1) (b := (UInt8.ofNat (97 + k))) 1 s rfl rfl (by kernel_rfl) Tryz.underlying101 Tryz.underlying5 Tryz.underlying9) ?_
               clear hS; rintro _ w ⟨rfl, s⟩
               replace s : St W (.blk g341 [.string (str []), .string (str []), .bool false, .bool false, .int .i64 0, .int .i64 0, .int .i64 0, .int .i64 0, .int .i64 0, .string (str []), .int .i64 0, .int .i64 0, .int .i64 0, .int .i64 0, .slice none 0 0] 60 :: .blk g191 [.int .u8 (((UInt8.ofNat (97 + k)).toNat : Nat) : Int)] 5 :: Tb g2 rA :: T) w := s
               refine and_keep trivial fun hS => ?_; clear ha; intro a ha
               replace s := s.at_ (j := 2) rfl
               replace s : St W (Tb g2 rA :: .blk g341 [.string (str []), .string (str []), .bool false, .bool false, .int .i64 0, .int .i64 0, .int .i64 0, .int .i64 0, .int .i64 0, .string (str []), .int .i64 0, .int .i64 0, .int .i64 0, .int .i64 0, .slice none 0 0] 60 :: .blk g191 [.int .u8 (((UInt8.ofNat (97 + k)).toNat : Nat) : Int)] 5 :: T) w := s
               refine hd_call (i := 10) ha rfl (by kernel_rfl) (by kernel_rfl) (by kernel_rfl) (hg1 _ _ s) ?_
               clear hS; rintro _ w ⟨rfl, s⟩
               refine ⟨_, rfl, and_keep trivial fun hS => ?_⟩; clear ha; intro a ha
               refine yk (i := 11) (.tuple #[F1, .int .i64 e1]) ha hS ?_
               refine yyk (i := 12) (F1) hS ?_
               refine yyk (i := 13) (.int .i64 e1) hS ?_; clear ha; intro a ha
               replace s := ((s.at_ (j := 2) rfl).at_ (j := 1) rfl).at_ (j := 2) rfl
               replace s : St W (.blk g341 [.string (str []), .string (str []), .bool false, .bool false, .int .i64 0, .int .i64 0, .int .i64 0, .int .i64 0, .int .i64 0, .string (str []), .int .i64 0, .int .i64 0, .int .i64 0, .int .i64 0, .slice none 0 0] 60 :: Tb g2 rA :: .blk g191 [.int .u8 (((UInt8.ofNat (97 + k)).toNat : Nat) : Int)] 5 :: T) w := s
               exact K _ _ _ (by kernel_rfl) ⟨g191, g341, (hpick ha), s⟩
            ·
             skip
             refine hat_ex (i := 14) ha rfl (by kernel_rfl) (ex_alloc [.string (str []), .string (str []), .bool false, .bool false, .int .i64 0, .int .i64 0, .int .i64 0, .int .i64 0, .int .i64 0, .string (str []), .int .i64 0, .int .i64 0, .int .i64 0, .int .i64 0, .slice none 0 0] s rfl (Tryz.zeroValue60 _) (by kernel_rfl)) ?_
             clear hS; rintro _ w ⟨g341, rfl, s⟩
             refine and_keep trivial fun hS => ?_; clear ha; intro a ha
             refine Head.two (i := 5) (j := 7) (by kernel_rfl) ?_ ?_
             ·
              skip
              refine hat_ex (i := 5) ha rfl (by kernel_rfl) (ex_bstr (c := 1) (b := (UInt8.ofNat (97 + k))) 1 s rfl rfl (by kernel_rfl) Tryz.underlying101 Tryz.underlying5 Tryz.underlying9) ?_
              clear hS; rintro _ w ⟨rfl, s⟩
              replace s : St W (.blk g341 [.string (str []), .string (str []), .bool false, .bool false, .int .i64 0, .int .i64 0, .int .i64 0, .int .i64 0, .int .i64 0, .string (str []), .int .i64 0, .int .i64 0, .int .i64 0, .int .i64 0, .slice none 0 0] 60 :: .blk g191 [.int .u8 (((UInt8.ofNat (97 + k)).toNat : Nat) : Int)] 5 :: Tb g2 rA :: T) w := s
              refine and_keep trivial fun hS => ?_; clear ha; intro a ha
              refine hd_call (i := 7) ha rfl (by kernel_rfl) (by kernel_rfl) (by kernel_rfl) (Vm.p_txn i (by omega) _ _ _ s) ?_
              clear hS; rintro _ w ⟨rfl, s⟩
              refine ⟨_, rfl, and_keep trivial fun hS => ?_⟩; clear ha; intro a ha
              refine hd_call (i := 9) ha rfl (by kernel_rfl) (by kernel_rfl) (by kernel_rfl) (Vm.p_at wv (by omega) _ _ _ s) ?_
              clear hS; rintro _ w ⟨rfl, s⟩
              refine ⟨_, rfl, and_keep trivial fun hS => ?_⟩; clear ha; intro a ha
              replace s := s.at_ (j := 2) rfl
              replace s : St W (Tb g2 rA :: .blk g341 [.string (str []), .string (str []), .bool false, .bool false, .int .i64 0, .int .i64 0, .int .i64 0, .int .i64 0, .int .i64 0, .string (str []), .int .i64 0, .int .i64 0, .int .i64 0, .int .i64 0, .slice none 0 0] 60 :: .blk g191 [.int .u8 (((UInt8.ofNat (97 + k)).toNat : Nat) : Int)] 5 :: T) w := s
              refine hd_call (i := 10) ha rfl (by kernel_rfl) (by kernel_rfl) (by kernel_rfl) (hg1 _ _ s) ?_
              clear hS; rintro _ w ⟨rfl, s⟩
              refine ⟨_, rfl, and_keep trivial fun hS => ?_⟩; clear ha; intro a ha
              refine yk (i := 11) (.tuple #[F1, .int .i64 e1]) ha hS ?_
              refine yyk (i := 12) (F1) hS ?_
              refine yyk (i := 13) (.int .i64 e1) hS ?_; clear ha; intro a ha
              replace s := ((s.at_ (j := 2) rfl).at_ (j := 1) rfl).at_ (j := 2) rfl
              replace s : St W (.blk g341 [.string (str []), .string (str []), .bool false, .bool false, .int .i64 0, .int .i64 0, .int .i64 0, .int .i64 0, .int .i64 0, .string (str []), .int .i64 0, .int .i64 0, .int .i64 0, .int .i64 0, .slice none 0 0] 60 :: Tb g2 rA :: .blk g191 [.int .u8 (((UInt8.ofNat (97 + k)).toNat : Nat) : Int)] 5 :: T) w := s
              exact K _ _ _ (by kernel_rfl) ⟨g191, g341, (hpick ha), s⟩
             ·
              skip
              refine hat_call (i := 7) ha rfl (by kernel_rfl) (by kernel_rfl) (Vm.p_txn i (by omega) _ _ _ s) ?_
              clear hS; rintro _ w ⟨rfl, s⟩
              refine ⟨_, rfl, and_keep trivial fun hS => ?_⟩; clear ha; intro a ha
              refine Head.two (i := 5) (j := 9) (by kernel_rfl) ?_ ?_
              ·
               skip
               refine hat_ex (i := 5) ha rfl (by kernel_rfl) (ex_bstr (c := 1) (b := (UInt8.ofNat (97 + k))) 1 s rfl rfl (by kernel_rfl) Tryz.underlying101 Tryz.underlying5 Tryz.underlying9) ?_
               clear hS; rintro _ w ⟨rfl, s⟩
               replace s : St W (.blk g341 [.string (str []), .string (str []), .bool false, .bool false, .int .i64 0, .int .i64 0, .int .i64 0, .int .i64 0, .int .i64 0, .string (str []), .int .i64 0, .int .i64 0, .int .i64 0, .int .i64 0, .slice none 0 0] 60 :: .blk g191 [.int .u8 (((UInt8.ofNat (97 + k)).toNat : Nat) : Int)] 5 :: Tb g2 rA :: T) w := s
               refine and_keep trivial fun hS => ?_; clear ha; intro a ha
               refine hd_call (i := 9) ha rfl (by kernel_rfl) (by kernel_rfl) (by kernel_rfl) (Vm.p_at wv (by omega) _ _ _ s) ?_
               clear hS; rintro _ w ⟨rfl, s⟩
               refine ⟨_, rfl, and_keep trivial fun hS => ?_⟩; clear ha; intro a ha
               replace s := s.at_ (j := 2) rfl
               replace s : St W (Tb g2 rA :: .blk g341 [.string (str []), .string (str []), .bool false, .bool false, .int .i64 0, .int .i64 0, .int .i64 0, .int .i64 0, .int .i64 0, .string (str []), .int .i64 0, .int .i64 0, .int .i64 0, .int .i64 0, .slice none 0 0] 60 :: .blk g191 [.int .u8 (((UInt8.ofNat (97 + k)).toNat : Nat) : Int)] 5 :: T) w := s
               refine hd_call (i := 10) ha rfl (by kernel_rfl) (by kernel_rfl) (by kernel_rfl) (hg1 _ _ s) ?_
               clear hS; rintro _ w ⟨rfl, s⟩
               refine ⟨_, rfl, and_keep trivial fun hS => ?_⟩; clear ha; intro a ha
               refine yk (i := 11) (.tuple #[F1, .int .i64 e1]) ha hS ?_
               refine yyk (i := 12) (F1) hS ?_
               refine yyk (i := 13) (.int .i64 e1) hS ?_; clear ha; intro a ha
               replace s := ((s.at_ (j := 2) rfl).at_ (j := 1) rfl).at_ (j := 2) rfl
               replace s : St W (.blk g341 [.string (str []), .string (str []), .bool false, .bool false, .int .i64 0, .int .i64 0, .int .i64 0, .int .i64 0, .int .i64 0, .string (str []), .int .i64 0, .int .i64 0, .int .i64 0, .int .i64 0, .slice none 0 0] 60 :: Tb g2 rA :: .blk g191 [.int .u8 (((UInt8.ofNat (97 + k)).toNat : Nat) : Int)] 5 :: T) w := s
               exact K _ _ _ (by kernel_rfl) ⟨g191, g341, (hpick ha), s⟩
              ·
               skip
               refine hat_call (i := 9) ha rfl (by kernel_rfl) (by kernel_rfl) (Vm.p_at wv (by omega) _ _ _ s) ?_
               clear hS; rintro _ w ⟨rfl, s⟩
               refine ⟨_, rfl, and_keep trivial fun hS => ?_⟩; clear ha; intro a ha
               refine hd_ex (i := 5) ha rfl (by kernel_rfl) (by kernel_rfl) (ex_bstr (c := 1) (b := (UInt8.ofNat (97 + k))) 1 s rfl rfl (by kernel_rfl) Tryz.underlying101 Tryz.underlying5 Tryz.underlying9) ?_
               clear hS; rintro _ w ⟨rfl, s⟩
               replace s : St W (.blk g341 [.string (str []), .string (str []), .bool false, .bool false, .int .i64 0, .int .i64 0, .int .i64 0, .int .i64 0, .int .i64 0, .string (str []), .int .i64 0, .int .i64 0, .int .i64 0, .int .i64 0, .slice none 0 0] 60 :: .blk g191 [.int .u8 (((UInt8.ofNat (97 + k)).toNat : Nat) : Int)] 5 :: Tb g2 rA :: T) w := s
               refine and_keep trivial fun hS => ?_; clear ha; intro a ha
               replace s := s.at_ (j := 2) rfl
               replace s : St W (Tb g2 rA :: .blk g341 [.string (str []), .string (str []), .bool false, .bool false, .int .i64 0, .int .i64 0, .int .i64 0, .int .i64 0, .int .i64 0, .string (str []), .int .i64 0, .int .i64 0, .int .i64 0, .int .i64 0, .slice none 0 0] 60 :: .blk g191 [.int .u8 (((UInt8.ofNat (97 + k)).toNat : Nat) : Int)] 5 :: T) w := s
               refine hd_call (i := 10) ha rfl (by kernel_rfl) (by kernel_rfl) (by kernel_rfl) (hg1 _ _ s) ?_
               clear hS; rintro _ w ⟨rfl, s⟩
               refine ⟨_, rfl, and_keep trivial fun hS => ?_⟩; clear ha; intro a ha
               refine yk (i := 11) (.tuple #[F1, .int .i64 e1]) ha hS ?_
               refine yyk (i := 12) (F1) hS ?_
               refine yyk (i := 13) (.int .i64 e1) hS ?_; clear ha; intro a ha
               replace s := ((s.at_ (j := 2) rfl).at_ (j := 1) rfl).at_ (j := 2) rfl
               replace s : St W (.blk g341 [.string (str []), .string (str []), .bool false, .bool false, .int .i64 0, .int .i64 0, .int .i64 0, .int .i64 0, .int .i64 0, .string (str []), .int .i64 0, .int .i64 0, .int .i64 0, .int .i64 0, .slice none 0 0] 60 :: Tb g2 rA :: .blk g191 [.int .u8 (((UInt8.ofNat (97 + k)).toNat : Nat) : Int)] 5 :: T) w := s
               exact K _ _ _ (by kernel_rfl) ⟨g191, g341, (hpick ha), s⟩
           ·
            skip
            refine hat_call (i := 7) ha rfl (by kernel_rfl) (by kernel_rfl) (Vm.p_txn i (by omega) _ _ _ s) ?_
            clear hS; rintro _ w ⟨rfl, s⟩
            refine ⟨_, rfl, and_keep trivial fun hS => ?_⟩; clear ha; intro a ha
            refine Head.three (i := 4) (j := 9) (k := 14) (by kernel_rfl) ?_ ?_ ?_
            ·
             skip
             refine hat_ex (i := 4) ha rfl (by kernel_rfl) (ex_buildSlice elt101 _ zs101 [.int .u8 (((UInt8.ofNat (97 + k)).toNat : Nat) : Int)] s rfl (by kernel_rfl) (by decide)) ?_
             clear hS; rintro _ w ⟨g191, rfl, s⟩
             refine and_keep trivial fun hS => ?_; clear ha; intro a ha
             refine Head.three (i := 5) (j := 9) (k := 14) (by kernel_rfl) ?_ ?_ ?_
             ·
              skip
              refine hat_ex (i := 5) ha rfl (by kernel_rfl) (ex_bstr (c := 1) (b := (UInt8.ofNat (97 + k))) 0 s rfl rfl (by kernel_rfl) Tryz.underlying101 Tryz.underlying5 Tryz.underlying9) ?_
              clear hS; rintro _ w ⟨rfl, s⟩
              replace s : St W (.blk g191 [.int .u8 (((UInt8.ofNat (97 + k)).toNat : Nat) : Int)] 5 :: Tb g2 rA :: T) w := s
              refine and_keep trivial fun hS => ?_; clear ha; intro a ha
              refine Head.two (i := 9) (j := 14) (by kernel_rfl) ?_ ?_
              ·
               skip
               refine hat_call (i := 9) ha rfl (by kernel_rfl) (by kernel_rfl) (Vm.p_at wv (by omega) _ _ _ s) ?_
               clear hS; rintro _ w ⟨rfl, s⟩
               refine ⟨_, rfl, and_keep trivial fun hS => ?_⟩; clear ha; intro a ha
               refine Head.two (i := 10) (j := 14) (by kernel_rfl) ?_ ?_
               ·
                skip
                replace s := s.at_ (j := 1) rfl
                replace s : St W (Tb g2 rA :: .blk g191 [.int .u8 (((UInt8.ofNat (97 + k)).toNat : Nat) : Int)] 5 :: T) w := s
                refine hat_call (i := 10) ha rfl (by kernel_rfl) (by kernel_rfl) (hg1 _ _ s) ?_
                clear hS; rintro _ w ⟨rfl, s⟩
                refine ⟨_, rfl, and_keep trivial fun hS => ?_⟩; clear ha; intro a ha
                refine yk (i := 11) (.tuple #[F1, .int .i64 e1]) ha hS ?_
                refine yyk (i := 12) (F1) hS ?_
                refine yyk (i := 13) (.int .i64 e1) hS ?_; clear ha; intro a ha
                refine hd_ex (i := 14) ha rfl (by kernel_rfl) (by kernel_rfl) (ex_alloc [.string (str []), .string (str []), .bool false, .bool false, .int .i64 0, .int .i64 0, .int .i64 0, .int .i64 0, .int .i64 0, .string (str []), .int .i64 0, .int .i64 0, .int .i64 0, .int .i64 0, .slice none 0 0] s rfl (Tryz.zeroValue60 _) (by kernel_rfl)) ?_
                clear hS; rintro _ w ⟨g341, rfl, s⟩
                refine and_keep trivial fun hS => ?_; clear ha; intro a ha
                exact K _ _ _ (by kernel_rfl) ⟨g191, g341, (hpick ha), s⟩
               ·
                skip
                refine hat_ex (i := 14) ha rfl (by kernel_rfl) (ex_alloc [.string (str []), .string (str []), .bool false, .bool false, .int .i64 0, .int .i64 0, .int .i64 0, .int .i64 0, .int .i64 0, .string (str []), .int .i64 0, .int .i64 0, .int .i64 0, .int .i64 0, .slice none 0 0] s rfl (Tryz.zeroValue60 _) (by kernel_rfl)) ?_
                clear hS; rintro _ w ⟨g341, rfl, s⟩
                refine and_keep trivial fun hS => ?_; clear ha; intro a ha
                replace s := s.at_ (j := 2) rfl
                replace s : St W (Tb g2 rA :: .blk g341 [.string (str []), .string (str []), .bool false, .bool false, .int .i64 0, .int .i64 0, .int .i64 0, .int .i64 0, .int .i64 0, .string (str []), .int .i64 0, .int .i64 0, .int .i64 0, .int .i64 0, .slice none 0 0] 60 :: .blk g191 [.int .u8 (((UInt8.ofNat (97 + k)).toNat : Nat) : Int)] 5 :: T) w := s
                refine hd_call (i := 10) ha rfl (by kernel_rfl) (by kernel_rfl) (by kernel_rfl) (hg1 _ _ s) ?_
                clear hS; rintro _ w ⟨rfl, s⟩
                refine ⟨_, rfl, and_keep trivial fun hS => ?_⟩; clear ha; intro a ha
                refine yk (i := 11) (.tuple #[F1, .int .i64 e1]) ha hS ?_
                refine yyk (i := 12) (F1) hS ?_
                refine yyk (i := 13) (.int .i64 e1) hS ?_; clear ha; intro a ha
                replace s := ((s.at_ (j := 2) rfl).at_ (j := 1) rfl).at_ (j := 2) rfl
                replace s : St W (.blk g341 [.string (str []), .string (str []), .bool false, .bool false, .int .i64 0, .int .i64 0, .int .i64 0, .int .i64 0, .int .i64 0, .string (str []), .int .i64 0, .int .i64 0, .int .i64 0, .int .i64 0, .slice none 0 0] 60 :: Tb g2 rA :: .blk g191 [.int .u8 (((UInt8.ofNat (97 + k)).toNat : Nat) : Int)] 5 :: T) w := s
                exact K _ _ _ (by kernel_rfl) ⟨g191, g341, (hpick ha), s⟩
              ·
               skip
               refine hat_ex (i := 14) ha rfl (by kernel_rfl) (ex_alloc [.string (str []), .string (str []), .bool false, .bool false, .int .i64 0, .int .i64 0, .int .i64 0, .int .i64 0, .int .i64 0, .string (str []), .int .i64 0, .int .i64 0, .int .i64 0, .int .i64 0, .slice none 0 0] s rfl (Tryz.zeroValue60 _) (by kernel_rfl)) ?_
               clear hS; rintro _ w ⟨g341, rfl, s⟩
               refine and_keep trivial fun hS => ?_; clear ha; intro a ha
               refine hd_call (i := 9) ha rfl (by kernel_rfl) (by kernel_rfl) (by kernel_rfl) (Vm.p_at wv (by omega) _ _ _ s) ?_
               clear hS; rintro _ w ⟨rfl, s⟩
               refine ⟨_, rfl, and_keep trivial fun hS => ?_⟩; clear ha; intro a ha
               replace s := s.at_ (j := 2) rfl
               replace s : St W (Tb g2 rA :: .blk g341 [.string (str []), .string (str []), .bool false, .bool false, .int .i64 0, .int .i64 0, .int .i64 0, .int .i64 0, .int .i64 0, .string (str []), .int .i64 0, .int .i64 0, .int .i64 0, .int .i64 0, .slice none 0 0] 60 :: .blk g191 [.int .u8 (((UInt8.ofNat (97 + k)).toNat : Nat) : Int)] 5 :: T) w := s
               refine hd_call (i := 10) ha rfl (by kernel_rfl) (by kernel_rfl) (by kernel_rfl) (hg1 _ _ s) ?_
               clear hS; rintro _ w ⟨rfl, s⟩
               refine ⟨_, rfl, and_keep trivial fun hS => ?_⟩; clear ha; intro a ha
               refine yk (i := 11) (.tuple #[F1, .int .i64 e1]) ha hS ?_
               refine yyk (i := 12) (F1) hS ?_
               refine yyk (i := 13) (.int .i64 e1) hS ?_; clear ha; intro a ha
               replace s := ((s.at_ (j := 2) rfl).at_ (j := 1) rfl).at_ (j := 2) rfl
               replace s : St W (.blk g341 [.string (str []), .string (str []), .bool false, .bool false, .int .i64 0, .int .i64 0, .int .i64 0, .int .i64 0, .int .i64 0, .string (str []), .int .i64 0, .int .i64 0, .int .i64 0, .int .i64 0, .slice none 0 0] 60 :: Tb g2 rA :: .blk g191 [.int .u8 (((UInt8.ofNat (97 + k)).toNat : Nat) : Int)] 5 :: T) w := s
               exact K _ _ _ (by kernel_rfl) ⟨g191, g341, (hpick ha), s⟩
             ·
              skip
              refine hat_call (i := 9) ha rfl (by kernel_rfl) (by kernel_rfl) (Vm.p_at wv (by omega) _ _ _ s) ?_
              clear hS; rintro _ w ⟨rfl, s⟩
              refine ⟨_, rfl, and_keep trivial fun hS => ?_⟩; clear ha; intro a ha
              refine Head.two (i := 5) (j := 14) (by kernel_rfl) ?_ ?_
              ·
               skip
               refine hat_ex (i := 5) ha rfl (by kernel_rfl) (ex_bstr (c := 1) (b := (UInt8.ofNat (97 + k))) 0 s rfl rfl (by kernel_rfl) Tryz.underlying101 Tryz.underlying5 Tryz.underlying9) ?_
               clear hS; rintro _ w ⟨rfl, s⟩
               replace s : St W (.blk g191 [.int .u8 (((UInt8.ofNat (97 + k)).toNat : Nat) : Int)] 5 :: Tb g2 rA :: T) w := s
               refine and_keep trivial fun hS => ?_; clear ha; intro a ha
               refine Head.two (i := 10) (j := 14) (by kernel_rfl) ?_ ?_
               ·
                skip
                replace s := s.at_ (j := 1) rfl
                replace s : St W (Tb g2 rA :: .blk g191 [.int .u8 (((UInt8.ofNat (97 + k)).toNat : Nat) : Int)] 5 :: T) w := s
                refine hat_call (i := 10) ha rfl (by kernel_rfl) (by kernel_rfl) (hg1 _ _ s) ?_
                clear hS; rintro _ w ⟨rfl, s⟩
                refine ⟨_, rfl, and_keep trivial fun hS => ?_⟩; clear ha; intro a ha
                refine yk (i := 11) (.tuple #[F1, .int .i64 e1]) ha hS ?_
                refine yyk (i := 12) (F1) hS ?_
                refine yyk (i := 13) (.int .i64 e1) hS ?_; clear ha; intro a ha
                refine hd_ex (i := 14) ha rfl (by kernel_rfl) (by kernel_rfl) (ex_alloc [.string (str []), .string (str []), .bool false, .bool false, .int .i64 0, .int .i64 0, .int .i64 0, .int .i64 0, .int .i64 0, .string (str []), .int .i64 0, .int .i64 0, .int .i64 0, .int .i64 0, .slice none 0 0] s rfl (Tryz.zeroValue60 _) (by kernel_rfl)) ?_
                clear hS; rintro _ w ⟨g341, rfl, s⟩
                refine and_keep trivial fun hS => ?_; clear ha; intro a ha
                exact K _ _ _ (by kernel_rfl) ⟨g191, g341, (hpick ha), s⟩
               ·
                skip
                refine hat_ex (i := 14) ha rfl (by kernel_rfl) (ex_alloc [.string (str []), .string (str []), .bool false, .bool false, .int .i64 0, .int .i64 0, .int .i64 0, .int .i64 0, .int .i64 0, .string (str []), .int .i64 0, .int .i64 0, .int .i64 0, .int .i64 0, .slice none 0 0] s rfl (Tryz.zeroValue60 _) (by kernel_rfl)) ?_
                clear hS; rintro _ w ⟨g341, rfl, s⟩
                refine and_keep trivial fun hS => ?_; clear ha; intro a ha
                replace s := s.at_ (j := 2) rfl
                replace s : St W (Tb g2 rA :: .blk g341 [.string (str []), .string (str []), .bool false, .bool false, .int .i64 0, .int .i64 0, .int .i64 0, .int .i64 0, .int .i64 0, .string (str []), .int .i64 0, .int .i64 0, .int .i64 0, .int .i64 0, .slice none 0 0] 60 :: .blk g191 [.int .u8 (((UInt8.ofNat (97 + k)).toNat : Nat) : Int)] 5 :: T) w := s
                refine hd_call (i := 10) ha rfl (by kernel_rfl) (by kernel_rfl) (by kernel_rfl) (hg1 _ _ s) ?_
                clear hS; rintro _ w ⟨rfl, s⟩
                refine ⟨_, rfl, and_keep trivial fun hS => ?_⟩; clear ha; intro a ha
                refine yk (i := 11) (.tuple #[F1, .int .i64 e1]) ha hS ?_
                refine yyk (i := 12) (F1) hS ?_
                refine yyk (i := 13) (.int .i64 e1) hS ?_; clear ha; intro a ha
                replace s := ((s.at_ (j := 2) rfl).at_ (j := 1) rfl).at_ (j := 2) rfl
                replace s : St W (.blk g341 [.string (str []), .string (str []), .bool false, .bool false, .int .i64 0, .int .i64 0, .int .i64 0, .int .i64 0, .int .i64 0, .string (str []), .int .i64 0, .int .i64 0, .int .i64 0, .int .i64 0, .slice none 0 0] 60 :: Tb g2 rA :: .blk g191 [.int .u8 (((UInt8.ofNat (97 + k)).toNat : Nat) : Int)] 5 :: T) w := s
                exact K _ _ _ (by kernel_rfl) ⟨g191, g341, (hpick ha), s⟩
              ·
               skip
               refine hat_ex (i := 14) ha rfl (by kernel_rfl) (ex_alloc [.string (str []), .string (str []), .bool false, .bool false, .int .i64 0, .int .i64 0, .int .i64 0, .int .i64 0, .int .i64 0, .string (str []), .int .i64 0, .int .i64 0, .int .i64 0, .int .i64 0, .slice none 0 0] s rfl (Tryz.zeroValue60 _) (by kernel_rfl)) ?_
               clear hS; rintro _ w ⟨g341, rfl, s⟩
               refine and_keep trivial fun hS => ?_; clear ha; intro a ha
               refine hd_ex (i := 5) ha rfl (by kernel_rfl) (by kernel_rfl) (ex_bstr (c := 1) (b := (UInt8.ofNat (97 + k))) 1 s rfl rfl (by kernel_rfl) Tryz.underlying101 Tryz.underlying5 Tryz.underlying9) ?_
               clear hS; rintro _ w ⟨rfl, s⟩
               replace s : St W (.blk g341 [.string (str []), .string (str []), .bool false, .bool false, .int .i64 0, .int .i64 0, .int .i64 0, .int .i64 0, .int .i64 0, .string (str []), .int .i64 0, .int .i64 0, .int .i64 0, .int .i64 0, .slice none 0 0] 60 :: .blk g191 [.int .u8 (((UInt8.ofNat (97 + k)).toNat : Nat) : Int)] 5 :: Tb g2 rA :: T) w := s
               refine and_keep trivial fun hS => ?_; clear ha; intro a ha
               replace s := s.at_ (j := 2) rfl
               replace s : St W (Tb g2 rA :: .blk g341 [.string (str []), .string (str []), .bool false, .bool false, .int .i64 0, .int .i64 0, .int .i64 0, .int .i64 0, .int .i64 0, .string (str []), .int .i64 0, .int .i64 0, .int .i64 0, .int .i64 0, .slice none 0 0] 60 :: .blk g191 [.int .u8 (((UInt8.ofNat (97 + k)).toNat : Nat) : Int)] 5 :: T) w := s
               refine hd_call (i := 10) ha rfl (by kernel_rfl) (by kernel_rfl) (by kernel_rfl) (hg1 _ _ s) ?_
               clear hS; rintro _ w ⟨rfl, s⟩
               refine ⟨_, rfl, and_keep trivial fun hS => ?_⟩; clear ha; intro a ha
               refine yk (i := 11) (.tuple #[F1, .int .i64 e1]) ha hS ?_
               refine yyk (i := 12) (F1) hS ?_
               refine yyk (i := 13) (.int .i64 e1) hS ?_; clear ha; intro a ha
               replace s := ((s.at_ (j := 2) rfl).at_ (j := 1) rfl).at_ (j := 2) rfl
               replace s : St W (.blk g341 [.string (str []), .string (str []), .bool false, .bool false, .int .i64 0, .int .i64 0, .int .i64 0, .int .i64 0, .int .i64 0, .string (str []), .int .i64 0, .int .i64 0, .int .i64 0, .int .i64 0, .slice none 0 0] 60 :: Tb g2 rA :: .blk g191 [.int .u8 (((UInt8.ofNat (97 + k)).toNat : Nat) : Int)] 5 :: T) w := s
               exact K _ _ _ (by kernel_rfl) ⟨g191, g341, (hpick ha), s⟩
             ·
              skip
              refine hat_ex (i := 14) ha rfl (by kernel_rfl) (ex_alloc [.string (str []), .string (str []), .bool false, .bool false, .int .i64 0, .int .i64 0, .int .i64 0, .int .i64 0, .int .i64 0, .string (str []), .int .i64 0, .int .i64 0, .int .i64 0, .int .i64 0, .slice none 0 0] s rfl (Tryz.zeroValue60 _) (by kernel_rfl)) ?_
              clear hS; rintro _ w ⟨g341, rfl, s⟩
              refine and_keep trivial fun hS => ?_; clear ha; intro a ha
              refine Head.two (i := 5) (j := 9) (by kernel_rfl) ?_ ?_
              ·
               skip
               refine hat_ex (i := 5) ha rfl (by kernel_rfl) (ex_bstr (c := 1) (b := (UInt8.ofNat (97 + k))) 1 s rfl rfl (by kernel_rfl) Tryz.underlying101 Tryz.underlying5 Tryz.underlying9) ?_
               clear hS; rintro _ w ⟨rfl, s⟩
               replace s : St W (.blk g341 [.string (str []), .string (str []), .bool false, .bool false, .int .i64 0, .int .i64 0, .int .i64 0, .int .i64 0, .int .i64 0, .string (str []), .int .i64 0, .int .i64 0, .int .i64 0, .int .i64 0, .slice none 0 0] 60 :: .blk g191 [.int .u8 (((UInt8.ofNat (97 + k)).toNat : Nat) : Int)] 5 :: Tb g2 rA :: T) w := s
               refine and_keep trivial fun hS => ?_; clear ha; intro a ha
               refine hd_call (i := 9) ha rfl (by kernel_rfl) (by kernel_rfl) (by kernel_rfl) (Vm.p_at wv (by omega) _ _ _ s) ?_
               clear hS; rintro _ w ⟨rfl, s⟩
               refine ⟨_, rfl, and_keep trivial fun hS => ?_⟩; clear ha; intro a ha
               replace s := s.at_ (j := 2) rfl
               replace s : St W (Tb g2 rA :: .blk g341 [.string (str []), .string (str []), .bool false, .bool false, .int .i64 0, .int .i64 0, .int .i64 0, .int .i64 0, .int .i64 0, .string (str []), .int .i64 0, .int .i64 0, .int .i64 0, .int .i64 0, .slice none 0 0] 60 :: .blk g191 [.int .u8 (((UInt8.ofNat (97 + k)).toNat : Nat) : Int)] 5 :: T) w := s
               refine hd_call (i := 10) ha rfl (by kernel_rfl) (by kernel_rfl) (by kernel_rfl) (hg1 _ _ s) ?_
               clear hS; rintro _ w ⟨rfl, s⟩
               refine ⟨_, rfl, and_keep trivial fun hS => ?_⟩; clear ha; intro a ha
               refine yk (i := 11) (.tuple #[F1, .int .i64 e1]) ha hS ?_
               refine yyk (i := 12) (F1) hS ?_
               refine yyk (i := 13) (.int .i64 e1) hS ?_; clear ha; intro a ha
               replace s := ((s.at_ (j := 2) rfl).at_ (j := 1) rfl).at_ (j := 2) rfl
               replace s : St W (.blk g341 [.string (str []), .string (str []), .bool false, .bool false, .int .i64 0, .int .i64 0, .int .i64 0, .int .i64 0, .int .i64 0, .string (str []), .int .i64 0, .int .i64 0, .int .i64 0, .int .i64 0, .slice none 0 0] 60 :: Tb g2 rA :: .blk g191 [.int .u8 (((UInt8.ofNat (97 + k)).toNat : Nat) : Int)] 5 :: T) w := s
               exact K _ _ _ (by kernel_rfl) ⟨g191, g341, (hpick ha), s⟩
              ·
               skip
               refine hat_call (i := 9) ha rfl (by kernel_rfl) (by kernel_rfl) (Vm.p_at wv (by omega) _ _ _ s) ?_
               clear hS; rintro _ w ⟨rfl, s⟩
               refine ⟨_, rfl, and_keep trivial fun hS => ?_⟩; clear ha; intro a ha
               refine hd_ex (i := 5) ha rfl (by kernel_rfl) (by kernel_rfl) (ex_bstr (c := 1) (b := (UInt8.ofNat (97 + k))) 1 s rfl rfl (by kernel_rfl) Tryz.underlying101 Tryz.underlying5 Tryz.underlying9) ?_
               clear hS; rintro _ w ⟨rfl, s⟩
               replace s : St W (.blk g341 [.string (str []), .string (str []), .bool false, .bool false, .int .i64 0, .int .i64 0, .int .i64 0, .int .i64 0, .int .i64 0, .string (str []), .int .i64 0, .int .i64 0, .int .i64 0, .int .i64 0, .slice none 0 0] 60 :: .blk g191 [.int .u8 (((UInt8.ofNat (97 + k)).toNat : Nat) : Int)] 5 :: Tb g2 rA :: T) w := s
               refine and_keep trivial fun hS => ?_; clear ha; intro a ha
               replace s := s.at_ (j := 2) rfl
               replace s : St W (Tb g2 rA :: .blk g341 [.string (str []), .string (str []), .bool false, .bool false, .int .i64 0, .int .i64 0, .int .i64 0, .int .i64 0, .int .i64 0, .string (str []), .int .i64 0, .int .i64 0, .int .i64 0, .int .i64 0, .slice none 0 0] 60 :: .blk g191 [.int .u8 (((UInt8.ofNat (97 + k)).toNat : Nat) : Int)] 5 :: T) w := s
               refine hd_call (i := 10) ha rfl (by kernel_rfl) (by kernel_rfl) (by kernel_rfl) (hg1 _ _ s) ?_
               clear hS; rintro _ w ⟨rfl, s⟩
               refine ⟨_, rfl, and_keep trivial fun hS => ?_⟩; clear ha; intro a ha
               refine yk (i := 11) (.tuple #[F1, .int .i64 e1]) ha hS ?_
               refine yyk (i := 12) (F1) hS ?_
               refine yyk (i := 13) (.int .i64 e1) hS ?_; clear ha; intro a ha
               replace s := ((s.at_ (j := 2) rfl).at_ (j := 1) rfl).at_ (j := 2) rfl
               replace s : St W (.blk g341 [.string (str []), .string (str []), .bool false, .bool false, .int .i64 0, .int .i64 0, .int .i64 0, .int .i64 0, .int .i64 0, .string (str []), .int .i64 0, .int .i64 0, .int .i64 0, .int .i64 0, .slice none 0 0] 60 :: Tb g2 rA :: .blk g191 [.int .u8 (((UInt8.ofNat (97 + k)).toNat : Nat) : Int)] 5 :: T) w := s
               exact K _ _ _ (by kernel_rfl) ⟨g191, g341, (hpick ha), s⟩
            ·
             skip
             refine hat_call (i := 9) ha rfl (by kernel_rfl) (by kernel_rfl) (Vm.p_at wv (by omega) _ _ _ s) ?_
             clear hS; rintro _ w ⟨rfl, s⟩
             refine ⟨_, rfl, and_keep trivial fun hS => ?_⟩; clear ha; intro a ha
             refine Head.two (i := 4) (j := 14) (by kernel_rfl) ?_ ?_
             ·
              skip
              refine hat_ex (i := 4) ha rfl (by kernel_rfl) (ex_buildSlice elt101 _ zs101 [.int .u8 (((UInt8.ofNat (97 + k)).toNat : Nat) : Int)] s rfl (by kernel_rfl) (by decide)) ?_
              clear hS; rintro _ w ⟨g191, rfl, s⟩
              refine and_keep trivial fun hS => ?_; clear ha; intro a ha
              refine Head.two (i := 5) (j := 14) (by kernel_rfl) ?_ ?_
              ·
               skip
               refine hat_ex (i := 5) ha rfl (by kernel_rfl) (ex_bstr (c := 1) (b := (UInt8.ofNat (97 + k))) 0 s rfl rfl (by kernel_rfl) Tryz.underlying101 Tryz.underlying5 Tryz.underlying9) ?_
               clear hS; rintro _ w ⟨rfl, s⟩
               replace s : St W (.blk g191 [.int .u8 (((UInt8.ofNat (97 + k)).toNat : Nat) : Int)] 5 :: Tb g2 rA :: T) w := s
               refine and_keep trivial fun hS => ?_; clear ha; intro a ha
               refine Head.two (i := 10) (j := 14) (by kernel_rfl) ?_ ?_
               ·
                skip
                replace s := s.at_ (j := 1) rfl
                replace s : St W (Tb g2 rA :: .blk g191 [.int .u8 (((UInt8.ofNat (97 + k)).toNat : Nat) : Int)] 5 :: T) w := s
                refine hat_call (i := 10) ha rfl (by kernel_rfl) (by kernel_rfl) (hg1 _ _ s) ?_
                clear hS; rintro _ w ⟨rfl, s⟩
                refine ⟨_, rfl, and_keep trivial fun hS => ?_⟩; clear ha; intro a ha
                refine yk (i := 11) (.tuple #[F1, .int .i64 e1]) ha hS ?_
                refine yyk (i := 12) (F1) hS ?_
                refine yyk (i := 13) (.int .i64 e1) hS ?_; clear ha; intro a ha
                refine hd_ex (i := 14) ha rfl (by kernel_rfl) (by kernel_rfl) (ex_alloc [.string (str []), .string (str []), .bool false, .bool false, .int .i64 0, .int .i64 0, .int .i64 0, .int .i64 0, .int .i64 0, .string (str []), .int .i64 0, .int .i64 0, .int .i64 0, .int .i64 0, .slice none 0 0] s rfl (Tryz.zeroValue60 _) (by kernel_rfl)) ?_
                clear hS; rintro _ w ⟨g341, rfl, s⟩
                refine and_keep trivial fun hS => ?_; clear ha; intro a ha
                exact K _ _ _ (by kernel_rfl) ⟨g191, g341, (hpick ha), s⟩
               ·
                skip
                refine hat_ex (i := 14) ha rfl (by kernel_rfl) (ex_alloc [.string (str []), .string (str []), .bool false, .bool false, .int .i64 0, .int .i64 0, .int .i64 0, .int .i64 0, .int .i64 0, .string (str []), .int .i64 0, .int .i64 0, .int .i64 0, .int .i64 0, .slice none 0 0] s rfl (Tryz.zeroValue60 _) (by kernel_rfl)) ?_
                clear hS; rintro _ w ⟨g341, rfl, s⟩
                refine and_keep trivial fun hS => ?_; clear ha; intro a ha
                replace s := s.at_ (j := 2) rfl
                replace s : St W (Tb g2 rA :: .blk g341 [.string (str []), .string (str []), .bool false, .bool false, .int .i64 0, .int .i64 0, .int .i64 0, .int .i64 0, .int .i64 0, .string (str []), .int .i64 0, .int .i64 0, .int .i64 0, .int .i64 0, .slice none 0 0] 60 :: .blk g191 [.int .u8 (((UInt8.ofNat (97 + k)).toNat : Nat) : Int)] 5 :: T) w := s
                refine hd_call (i := 10) ha rfl (by kernel_rfl) (by kernel_rfl) (by kernel_rfl) (hg1 _ _ s) ?_
                clear hS; rintro _ w ⟨rfl, s⟩
                refine ⟨_, rfl, and_keep trivial fun hS => ?_⟩; clear ha; intro a ha
                refine yk (i := 11) (.tuple #[F1, .int .i64 e1]) ha hS ?_
                refine yyk (i := 12) (F1) hS ?_
                refine yyk (i := 13) (.int .i64 e1) hS ?_; clear ha; intro a ha
                replace s := ((s.at_ (j := 2) rfl).at_ (j := 1) rfl).at_ (j := 2) rfl
                replace s : St W (.blk g341 [.string (str []), .string (str []), .bool false, .bool false, .int .i64 0, .int .i64 0, .int .i64 0, .int .i64 0, .int .i64 0, .string (str []), .int .i64 0, .int .i64 0, .int .i64 0, .int .i64 0, .slice none 0 0] 60 :: Tb g2 rA :: .blk g191 [.int .u8 (((UInt8.ofNat (97 + k)).toNat : Nat) : Int)] 5 :: T) w := s
                exact K _ _ _ (by kernel_rfl) ⟨g191, g341, (hpick ha), s⟩
              ·
               skip
               refine hat_ex (i := 14) ha rfl (by kernel_rfl) (ex_alloc [.string (str []), .string (str []), .bool false, .bool false, .int .i64 0, .int .i64 0, .int .i64 0, .int .i64 0, .int .i64 0, .string (str []), .int .i64 0, .int .i64 0, .int .i64 0, .int .i64 0, .slice none 0 0] s rfl (Tryz.zeroValue60 _) (by kernel_rfl)) ?_
               clear hS; rintro _ w ⟨g341, rfl, s⟩
               refine and_keep trivial fun hS => ?_; clear ha; intro a ha
               refine hd_ex (i := 5) ha rfl (by kernel_rfl) (by kernel_rfl) (ex_bstr (c := 1) (b := (UInt8.ofNat (97 + k))) 1 s rfl rfl (by kernel_rfl) Tryz.underlying101 Tryz.underlying5 Tryz.underlying9) ?_
               clear hS; rintro _ w ⟨rfl, s⟩
               replace s : St W (.blk g341 [.string (str []), .string (str []), .bool false, .bool false, .int .i64 0, .int .i64 0, .int .i64 0, .int .i64 0, .int .i64 0, .string (str []), .int .i64 0, .int .i64 0, .int .i64 0, .int .i64 0, .slice none 0 0] 60 :: .blk g191 [.int .u8 (((UInt8.ofNat (97 + k)).toNat : Nat) : Int)] 5 :: Tb g2 rA :: T) w := s
               refine and_keep trivial fun hS => ?_; clear ha; intro a ha
               replace s := s.at_ (j := 2) rfl
               replace s : St W (Tb g2 rA :: .blk g341 [.string (str []), .string (str []), .bool false, .bool false, .int .i64 0, .int .i64 0, .int .i64 0, .int .i64 0, .int .i64 0, .string (str []), .int .i64 0, .int .i64 0, .int .i64 0, .int .i64 0, .slice none 0 0] 60 :: .blk g191 [.int .u8 (((UInt8.ofNat (97 + k)).toNat : Nat) : Int)] 5 :: T) w := s
               refine hd_call (i := 10) ha rfl (by kernel_rfl) (by kernel_rfl) (by kernel_rfl) (hg1 _ _ s) ?_
               clear hS; rintro _ w ⟨rfl, s⟩
               refine ⟨_, rfl, and_keep trivial fun hS => ?_⟩; clear ha; intro a ha
               refine yk (i := 11) (.tuple #[F1, .int .i64 e1]) ha hS ?_
               refine yyk (i := 12) (F1) hS ?_
               refine yyk (i := 13) (.int .i64 e1) hS ?_; clear ha; intro a ha
               replace s := ((s.at_ (j := 2) rfl).at_ (j := 1) rfl).at_ (j := 2) rfl
               replace s : St W (.blk g341 [.string (str []), .string (str []), .bool false, .bool false, .int .i64 0, .int .i64 0, .int .i64 0, .int .i64 0, .int .i64 0, .string (str []), .int .i64 0, .int .i64 0, .int .i64 0, .int .i64 0, .slice none 0 0] 60 :: Tb g2 rA :: .blk g191 [.int .u8 (((UInt8.ofNat (97 + k)).toNat : Nat) : Int)] 5 :: T) w := s
               exact K _ _ _ (by kernel_rfl) ⟨g191, g341, (hpick ha), s⟩
             ·
              skip
              refine hat_ex (i := 14) ha rfl (by kernel_rfl) (ex_alloc [.string (str []), .string (str []), .bool false, .bool false, .int .i64 0, .int .i64 0, .int .i64 0, .int .i64 0, .int .i64 0, .string (str []), .int .i64 0, .int .i64 0, .int .i64 0, .int .i64 0, .slice none 0 0] s rfl (Tryz.zeroValue60 _) (by kernel_rfl)) ?_
              clear hS; rintro _ w ⟨g341, rfl, s⟩
              refine and_keep trivial fun hS => ?_; clear ha; intro a ha
              refine hd_ex (i := 4) ha rfl (by kernel_rfl) (by kernel_rfl) (ex_buildSlice elt101 _ zs101 [.int .u8 (((UInt8.ofNat (97 + k)).toNat : Nat) : Int)] s rfl (by kernel_rfl) (by decide)) ?_
              clear hS; rintro _ w ⟨g191, rfl, s⟩
              refine and_keep trivial fun hS => ?_; clear ha; intro a ha
              refine hd_ex (i := 5) ha rfl (by kernel_rfl) (by kernel_rfl) (ex_bstr (c := 1) (b := (UInt8.ofNat (97 + k))) 0 s rfl rfl (by kernel_rfl) Tryz.underlying101 Tryz.underlying5 Tryz.underlying9) ?_
              clear hS; rintro _ w ⟨rfl, s⟩
              replace s : St W (.blk g191 [.int .u8 (((UInt8.ofNat (97 + k)).toNat : Nat) : Int)] 5 :: .blk g341 [.string (str []), .string (str []), .bool false, .bool false, .int .i64 0, .int .i64 0, .int .i64 0, .int .i64 0, .int .i64 0, .string (str []), .int .i64 0, .int .i64 0, .int .i64 0, .int .i64 0, .slice none 0 0] 60 :: Tb g2 rA :: T) w := s
              refine and_keep trivial fun hS => ?_; clear ha; intro a ha
              replace s := s.at_ (j := 2) rfl
              replace s : St W (Tb g2 rA :: .blk g191 [.int .u8 (((UInt8.ofNat (97 + k)).toNat : Nat) : Int)] 5 :: .blk g341 [.string (str []), .string (str []), .bool false, .bool false, .int .i64 0, .int .i64 0, .int .i64 0, .int .i64 0, .int .i64 0, .string (str []), .int .i64 0, .int .i64 0, .int .i64 0, .int .i64 0, .slice none 0 0] 60 :: T) w := s
              refine hd_call (i := 10) ha rfl (by kernel_rfl) (by kernel_rfl) (by kernel_rfl) (hg1 _ _ s) ?_
              clear hS; rintro _ w ⟨rfl, s⟩
              refine ⟨_, rfl, and_keep trivial fun hS => ?_⟩; clear ha; intro a ha
              refine yk (i := 11) (.tuple #[F1, .int .i64 e1]) ha hS ?_
              refine yyk (i := 12) (F1) hS ?_
              refine yyk (i := 13) (.int .i64 e1) hS ?_; clear ha; intro a ha
              replace s := ((s.at_ (j := 1) rfl).at_ (j := 1) rfl).at_ (j := 2) rfl
              replace s : St W (.blk g341 [.string (str []), .string (str []), .bool false, .bool false, .int .i64 0, .int .i64 0, .int .i64 0, .int .i64 0, .int .i64 0, .string (str []), .int .i64 0, .int .i64 0, .int .i64 0, .int .i64 0, .slice none 0 0] 60 :: Tb g2 rA :: .blk g191 [.int .u8 (((UInt8.ofNat (97 + k)).toNat : Nat) : Int)] 5 :: T) w := s
              exact K _ _ _ (by kernel_rfl) ⟨g191, g341, (hpick ha), s⟩
            ·
             skip
             refine hat_ex (i := 14) ha rfl (by kernel_rfl) (ex_alloc [.string (str []), .string (str []), .bool false, .bool false, .int .i64 0, .int .i64 0, .int .i64 0, .int .i64 0, .int .i64 0, .string (str []), .int .i64 0, .int .i64 0, .int .i64 0, .int .i64 0, .slice none 0 0] s rfl (Tryz.zeroValue60 _) (by kernel_rfl)) ?_
             clear hS; rintro _ w ⟨g341, rfl, s⟩
             refine and_keep trivial fun hS => ?_; clear ha; intro a ha
             refine Head.two (i := 4) (j := 9) (by kernel_rfl) ?_ ?_
             ·
              skip
              refine hat_ex (i := 4) ha rfl (by kernel_rfl) (ex_buildSlice elt101 _ zs101 [.int .u8 (((UInt8.ofNat (97 + k)).toNat : Nat) : Int)] s rfl (by kernel_rfl) (by decide)) ?_
              clear hS; rintro _ w ⟨g191, rfl, s⟩
              refine and_keep trivial fun hS => ?_; clear ha; intro a ha
              refine Head.two (i := 5) (j := 9) (by kernel_rfl) ?_ ?_
              ·
               skip
               refine hat_ex (i := 5) ha rfl (by kernel_rfl) (ex_bstr (c := 1) (b := (UInt8.ofNat (97 + k))) 0 s rfl rfl (by kernel_rfl) Tryz.underlying101 Tryz.underlying5 Tryz.underlying9) ?_
               clear hS; rintro _ w ⟨rfl, s⟩
               replace s : St W (.blk g191 [.int .u8 (((UInt8.ofNat (97 + k)).toNat : Nat) : Int)] 5 :: .blk g341 [.string (str []), .string (str []), .bool false, .bool false, .int .i64 0, .int .i64 0, .int .i64 0, .int .i64 0, .int .i64 0, .string (str []), .int .i64 0, .int .i64 0, .int .i64 0, .int .i64 0, .slice none 0 0] 60 :: Tb g2 rA :: T) w := s
               refine and_keep trivial fun hS => ?_; clear ha; intro a ha
               refine hd_call (i := 9) ha rfl (by kernel_rfl) (by kernel_rfl) (by kernel_rfl) (Vm.p_at wv (by omega) _ _ _ s) ?_
               clear hS; rintro _ w ⟨rfl, s⟩
               refine ⟨_, rfl, and_keep trivial fun hS => ?_⟩; clear ha; intro a ha
               replace s := s.at_ (j := 2) rfl
               replace s : St W (Tb g2 rA :: .blk g191 [.int .u8 (((UInt8.ofNat (97 + k)).toNat : Nat) : Int)] 5 :: .blk g341 [.string (str []), .string (str []), .bool false, .bool false, .int .i64 0, .int .i64 0, .int .i64 0, .int .i64 0, .int .i64 0, .string (str []), .int .i64 0, .int .i64 0, .int .i64 0, .int .i64 0, .slice none 0 0] 60 :: T) w := s
               refine hd_call (i := 10) ha rfl (by kernel_rfl) (by kernel_rfl) (by kernel_rfl) (hg1 _ _ s) ?_
               clear hS; rintro _ w ⟨rfl, s⟩
               refine ⟨_, rfl, and_keep trivial fun hS => ?_⟩; clear ha; intro a ha
               refine yk (i := 11) (.tuple #[F1, .int .i64 e1]) ha hS ?_
               refine yyk (i := 12) (F1) hS ?_
               refine yyk (i := 13) (.int .i64 e1) hS ?_; clear ha; intro a ha
               replace s := ((s.at_ (j := 1) rfl).at_ (j := 1) rfl).at_ (j := 2) rfl
               replace s : St W (.blk g341 [.string (str []), .string (str []), .bool false, .bool false, .int .i64 0, .int .i64 0, .int .i64 0, .int .i64 0, .int .i64 0, .string (str []), .int .i64 0, .int .i64 0, .int .i64 0, .int .i64 0, .slice none 0 0] 60 :: Tb g2 rA :: .blk g191 [.int .u8 (((UInt8.ofNat (97 + k)).toNat : Nat) : Int)] 5 :: T) w := s
               exact K _ _ _ (by kernel_rfl) ⟨g191, g341, (hpick ha), s⟩
              ·
               skip
               refine hat_call (i := 9) ha rfl (by kernel_rfl) (by kernel_rfl) (Vm.p_at wv (by omega) _ _ _ s) ?_
               clear hS; rintro _ w ⟨rfl, s⟩
               refine ⟨_, rfl, and_keep trivial fun hS => ?_⟩; clear ha; intro a ha
               refine hd_ex (i := 5) ha rfl (by kernel_rfl) (by kernel_rfl) (ex_bstr (c := 1) (b := (UInt8.ofNat (97 + k))) 0 s rfl rfl (by kernel_rfl) Tryz.underlying101 Tryz.underlying5 Tryz.underlying9) ?_
               clear hS; rintro _ w ⟨rfl, s⟩
               replace s : St W (.blk g191 [.int .u8 (((UInt8.ofNat (97 + k)).toNat : Nat) : Int)] 5 :: .blk g341 [.string (str []), .string (str []), .bool false, .bool false, .int .i64 0, .int .i64 0, .int .i64 0, .int .i64 0, .int .i64 0, .string (str []), .int .i64 0, .int .i64 0, .int .i64 0, .int .i64 0, .slice none 0 0] 60 :: Tb g2 rA :: T) w := s
               refine and_keep trivial fun hS => ?_; clear ha; intro a ha
               replace s := s.at_ (j := 2) rfl
               replace s : St W (Tb g2 rA :: .blk g191 [.int .u8 (((UInt8.ofNat (97 + k)).toNat : Nat) : Int)] 5 :: .blk g341 [.string (str []), .string (str []), .bool false, .bool false, .int .i64 0, .int .i64 0, .int .i64 0, .int .i64 0, .int .i64 0, .string (str []), .int .i64 0, .int .i64 0, .int .i64 0, .int .i64 0, .slice none 0 0] 60 :: T) w := s
               refine hd_call (i := 10) ha rfl (by kernel_rfl) (by kernel_rfl) (by kernel_rfl) (hg1 _ _ s) ?_
               clear hS; rintro _ w ⟨rfl, s⟩
               refine ⟨_, rfl, and_keep trivial fun hS => ?_⟩; clear ha; intro a ha
               refine yk (i := 11) (.tuple #[F1, .int .i64 e1]) ha hS ?_
               refine yyk (i := 12) (F1) hS ?_
               refine yyk (i := 13) (.int .i64 e1) hS ?_; clear ha; intro a ha
               replace s := ((s.at_ (j := 1) rfl).at_ (j := 1) rfl).at_ (j := 2) rfl
               replace s : St W (.blk g341 [.string (str []), .string (str []), .bool false, .bool false, .int .i64 0, .int .i64 0, .int .i64 0, .int .i64 0, .int .i64 0, .string (str []), .int .i64 0, .int .i64 0, .int .i64 0, .int .i64 0, .slice none 0 0] 60 :: Tb g2 rA :: .blk g191 [.int .u8 (((UInt8.ofNat (97 + k)).toNat : Nat) : Int)] 5 :: T) w := s
               exact K _ _ _ (by kernel_rfl) ⟨g191, g341, (hpick ha), s⟩
             ·
              skip
              refine hat_call (i := 9) ha rfl (by kernel_rfl) (by kernel_rfl) (Vm.p_at wv (by omega) _ _ _ s) ?_
              clear hS; rintro _ w ⟨rfl, s⟩
              refine ⟨_, rfl, and_keep trivial fun hS => ?_⟩; clear ha; intro a ha
              refine hd_ex (i := 4) ha rfl (by kernel_rfl) (by kernel_rfl) (ex_buildSlice elt101 _ zs101 [.int .u8 (((UInt8.ofNat (97 + k)).toNat : Nat) : Int)] s rfl (by kernel_rfl) (by decide)) ?_
              clear hS; rintro _ w ⟨g191, rfl, s⟩
              refine and_keep trivial fun hS => ?_; clear ha; intro a ha
              refine hd_ex (i := 5) ha rfl (by kernel_rfl) (by kernel_rfl) (ex_bstr (c := 1) (b := (UInt8.ofNat (97 + k))) 0 s rfl rfl (by kernel_rfl) Tryz.underlying101 Tryz.underlying5 Tryz.underlying9) ?_
              clear hS; rintro _ w ⟨rfl, s⟩
              replace s : St W (.blk g191 [.int .u8 (((UInt8.ofNat (97 + k)).toNat : Nat) : Int)] 5 :: .blk g341 [.string (str []), .string (str []), .bool false, .bool false, .int .i64 0, .int .i64 0, .int .i64 0, .int .i64 0, .int .i64 0, .string (str []), .int .i64 0, .int .i64 0, .int .i64 0, .int .i64 0, .slice none 0 0] 60 :: Tb g2 rA :: T) w := s
              refine and_keep trivial fun hS => ?_; clear ha; intro a ha
              replace s := s.at_ (j := 2) rfl
              replace s : St W (Tb g2 rA :: .blk g191 [.int .u8 (((UInt8.ofNat (97 + k)).toNat : Nat) : Int)] 5 :: .blk g341 [.string (str []), .string (str []), .bool false, .bool false, .int .i64 0, .int .i64 0, .int .i64 0, .int .i64 0, .int .i64 0, .string (str []), .int .i64 0, .int .i64 0, .int .i64 0, .int .i64 0, .slice none 0 0] 60 :: T) w := s
              refine hd_call (i := 10) ha rfl (by kernel_rfl) (by kernel_rfl) (by kernel_rfl) (hg1 _ _ s) ?_
              clear hS; rintro _ w ⟨rfl, s⟩
              refine ⟨_, rfl, and_keep trivial fun hS => ?_⟩; clear ha; intro a ha
              refine yk (i := 11) (.tuple #[F1, .int .i64 e1]) ha hS ?_
              refine yyk (i := 12) (F1) hS ?_
              refine yyk (i := 13) (.int .i64 e1) hS ?_; clear ha; intro a ha
              replace s := ((s.at_ (j := 1) rfl).at_ (j := 1) rfl).at_ (j := 2) rfl
              replace s : St W (.blk g341 [.string (str []), .string (str []), .bool false, .bool false, .int .i64 0, .int .i64 0, .int .i64 0, .int .i64 0, .int .i64 0, .string (str []), .int .i64 0, .int .i64 0, .int .i64 0, .int .i64 0, .slice none 0 0] 60 :: Tb g2 rA :: .blk g191 [.int .u8 (((UInt8.ofNat (97 + k)).toNat : Nat) : Int)] 5 :: T) w := s
              exact K _ _ _ (by kernel_rfl) ⟨g191, g341, (hpick ha), s⟩
           ·
            skip
            refine hat_ex (i := 14) ha rfl (by kernel_rfl) (ex_alloc [.string (str []), .string (str []), .bool false, .bool false, .int .i64 0, .int .i64 0, .int .i64 0, .int .i64 0, .int .i64 0, .string (str []), .int .i64 0, .int .i64 0, .int .i64 0, .int .i64 0, .slice none 0 0] s rfl (Tryz.zeroValue60 _) (by kernel_rfl)) ?_
            clear hS; rintro _ w ⟨g341, rfl, s⟩
            refine and_keep trivial fun hS => ?_; clear ha; intro a ha
            refine Head.two (i := 4) (j := 7) (by kernel_rfl) ?_ ?_
            ·
             skip
             refine hat_ex (i := 4) ha rfl (by kernel_rfl) (ex_buildSlice elt101 _ zs101 [.int .u8 (((UInt8.ofNat (97 + k)).toNat : Nat) : Int)] s rfl (by kernel_rfl) (by decide)) ?_
             clear hS; rintro _ w ⟨g191, rfl, s⟩
             refine and_keep trivial fun hS => ?_; clear ha; intro a ha
             refine Head.two (i := 5) (j := 7) (by kernel_rfl) ?_ ?_
             ·
              skip
              refine hat_ex (i := 5) ha rfl (by kernel_rfl) (ex_bstr (c := 1) (b := (UInt8.ofNat (97 + k))) 0 s rfl rfl (by kernel_rfl) Tryz.underlying101 Tryz.underlying5 Tryz.underlying9) ?_
              clear hS; rintro _ w ⟨rfl, s⟩
              replace s : St W (.blk g191 [.int .u8 (((UInt8.ofNat (97 + k)).toNat : Nat) : Int)] 5 :: .blk g341 [.string (str []), .string (str []), .bool false, .bool false, .int .i64 0, .int .i64 0, .int .i64 0, .int .i64 0, .int .i64 0, .string (str []), .int .i64 0, .int .i64 0, .int .i64 0, .int .i64 0, .slice none 0 0] 60 :: Tb g2 rA :: T) w := s
              refine and_keep trivial fun hS => ?_; clear ha; intro a ha
              refine hd_call (i := 7) ha rfl (by kernel_rfl) (by kernel_rfl) (by kernel_rfl) (Vm.p_txn i (by omega) _ _ _ s) ?_
              clear hS; rintro _ w ⟨rfl, s⟩
              refine ⟨_, rfl, and_keep trivial fun hS => ?_⟩; clear ha; intro a ha
              refine hd_call (i := 9) ha rfl (by kernel_rfl) (by kernel_rfl) (by kernel_rfl) (Vm.p_at wv (by omega) _ _ _ s) ?_
              clear hS; rintro _ w ⟨rfl, s⟩
              refine ⟨_, rfl, and_keep trivial fun hS => ?_⟩; clear ha; intro a ha
              replace s := s.at_ (j := 2) rfl
              replace s : St W (Tb g2 rA :: .blk g191 [.int .u8 (((UInt8.ofNat (97 + k)).toNat : Nat) : Int)] 5 :: .blk g341 [.string (str []), .string (str []), .bool false, .bool false, .int .i64 0, .int .i64 0, .int .i64 0, .int .i64 0, .int .i64 0, .string (str []), .int .i64 0, .int .i64 0, .int .i64 0, .int .i64 0, .slice none 0 0] 60 :: T) w := s
              refine hd_call (i := 10) ha rfl (by kernel_rfl) (by kernel_rfl) (by kernel_rfl) (hg1 _ _ s) ?_
              clear hS; rintro _ w ⟨rfl, s⟩
              refine ⟨_, rfl, and_keep trivial fun hS => ?_⟩; clear ha; intro a ha
              refine yk (i := 11) (.tuple #[F1, .int .i64 e1]) ha hS ?_
              refine yyk (i := 12) (F1) hS ?_
              refine yyk (i := 13) (.int .i64 e1) hS ?_; clear ha; intro a ha
              replace s := ((s.at_ (j := 1) rfl).at_ (j := 1) rfl).at_ (j := 2) rfl
              replace s : St W (.blk g341 [.string (str []), .string (str []), .bool false, .bool false, .int .i64 0, .int .i64 0, .int .i64 0, .int .i64 0, .int .i64 0, .string (str []), .int .i64 0, .int .i64 0, .int .i64 0, .int .i64 0, .slice none 0 0] 60 :: Tb g2 rA :: .blk g191 [.int .u8 (((UInt8.ofNat (97 + k)).toNat : Nat) : Int)] 5 :: T) w := s
              exact K _ _ _ (by kernel_rfl) ⟨g191, g341, (hpick ha), s⟩
             ·
              skip
              refine hat_call (i := 7) ha rfl (by kernel_rfl) (by kernel_rfl) (Vm.p_txn i (by omega) _ _ _ s) ?_
              clear hS; rintro _ w ⟨rfl, s⟩
              refine ⟨_, rfl, and_keep trivial fun hS => ?_⟩; clear ha; intro a ha
              refine Head.two (i := 5) (j := 9) (by kernel_rfl) ?_ ?_
              ·
               skip
               refine hat_ex (i := 5) ha rfl (by kernel_rfl) (ex_bstr (c := 1) (b := (UInt8.ofNat (97 + k))) 0 s rfl rfl (by kernel_rfl) Tryz.underlying101 Tryz.underlying5 Tryz.underlying9) ?_
               clear hS; rintro _ w ⟨rfl, s⟩
               replace s : St W (.blk g191 [.int .u8 (((UInt8.ofNat (97 + k)).toNat : Nat) : Int)] 5 :: .blk g341 [.string (str []), .string (str []), .bool false, .bool false, .int .i64 0, .int .i64 0, .int .i64 0, .int .i64 0, .int .i64 0, .string (str []), .int .i64 0, .int .i64 0, .int .i64 0, .int .i64 0, .slice none 0 0] 60 :: Tb g2 rA :: T) w := s
               refine and_keep trivial fun hS => ?_; clear ha; intro a ha
               refine hd_call (i := 9) ha rfl (by kernel_rfl) (by kernel_rfl) (by kernel_rfl) (Vm.p_at wv (by omega) _ _ _ s) ?_
               clear hS; rintro _ w ⟨rfl, s⟩
               refine ⟨_, rfl, and_keep trivial fun hS => ?_⟩; clear ha; intro a ha
               replace s := s.at_ (j := 2) rfl
               replace s : St W (Tb g2 rA :: .blk g191 [.int .u8 (((UInt8.ofNat (97 + k)).toNat : Nat) : Int)] 5 :: .blk g341 [.string (str []), .string (str []), .bool false, .bool false, .int .i64 0, .int .i64 0, .int .i64 0, .int .i64 0, .int .i64 0, .string (str []), .int .i64 0, .int .i64 0, .int .i64 0, .int .i64 0, .slice none 0 0] 60 :: T) w := s
               refine hd_call (i := 10) ha rfl (by kernel_rfl) (by kernel_rfl) (by kernel_rfl) (hg1 _ _ s) ?_
               clear hS; rintro _ w ⟨rfl, s⟩
               refine ⟨_, rfl, and_keep trivial fun hS => ?_⟩; clear ha; intro a ha
               refine yk (i := 11) (.tuple #[F1, .int .i64 e1]) ha hS ?_
               refine yyk (i := 12) (F1) hS ?_
               refine yyk (i := 13) (.int .i64 e1) hS ?_; clear ha; intro a ha
               replace s := ((s.at_ (j := 1) rfl).at_ (j := 1) rfl).at_ (j := 2) rfl
               replace s : St W (.blk g341 [.string (str []), .string (str []), .bool false, .bool false, .int .i64 0, .int .i64 0, .int .i64 0, .int .i64 0, .int .i64 0, .string (str []), .int .i64 0, .int .i64 0, .int .i64 0, .int .i64 0, .slice none 0 0] 60 :: Tb g2 rA :: .blk g191 [.int .u8 (((UInt8.ofNat (97 + k)).toNat : Nat) : Int)] 5 :: T) w := s
               exact K _ _ _ (by kernel_rfl) ⟨g191, g341, (hpick ha), s⟩
              ·
               skip
               refine hat_call (i := 9) ha rfl (by kernel_rfl) (by kernel_rfl) (Vm.p_at wv (by omega) _ _ _ s) ?_
               clear hS; rintro _ w ⟨rfl, s⟩
               refine ⟨_, rfl, and_keep trivial fun hS => ?_⟩; clear ha; intro a ha
               refine hd_ex (i := 5) ha rfl (by kernel_rfl) (by kernel_rfl) (ex_bstr (c := 1) (b := (UInt8.ofNat (97 + k))) 0 s rfl rfl (by kernel_rfl) Tryz.underlying101 Tryz.underlying5 Tryz.underlying9) ?_
               clear hS; rintro _ w ⟨rfl, s⟩
               replace s : St W (.blk g191 [.int .u8 (((UInt8.ofNat (97 + k)).toNat : Nat) : Int)] 5 :: .blk g341 [.string (str []), .string (str []), .bool false, .bool false, .int .i64 0, .int .i64 0, .int .i64 0, .int .i64 0, .int .i64 0, .string (str []), .int .i64 0, .int .i64 0, .int .i64 0, .int .i64 0, .slice none 0 0] 60 :: Tb g2 rA :: T) w := s
               refine and_keep trivial fun hS => ?_; clear ha; intro a ha
               replace s := s.at_ (j := 2) rfl
               replace s : St W (Tb g2 rA :: .blk g191 [.int .u8 (((UInt8.ofNat (97 + k)).toNat : Nat) : Int)] 5 :: .blk g341 [.string (str []), .string (str []), .bool false, .bool false, .int .i64 0, .int .i64 0, .int .i64 0, .int .i64 0, .int .i64 0, .string (str []), .int .i64 0, .int .i64 0, .int .i64 0, .int .i64 0, .slice none 0 0] 60 :: T) w := s
               refine hd_call (i := 10) ha rfl (by kernel_rfl) (by kernel_rfl) (by kernel_rfl) (hg1 _ _ s) ?_
               clear hS; rintro _ w ⟨rfl, s⟩
               refine ⟨_, rfl, and_keep trivial fun hS => ?_⟩; clear ha; intro a ha
               refine yk (i := 11) (.tuple #[F1, .int .i64 e1]) ha hS ?_
               refine yyk (i := 12) (F1) hS ?_
               refine yyk (i := 13) (.int .i64 e1) hS ?_; clear ha; intro a ha
               replace s := ((s.at_ (j := 1) rfl).at_ (j := 1) rfl).at_ (j := 2) rfl
               replace s : St W (.blk g341 [.string (str []), .string (str []), .bool false, .bool false, .int .i64 0, .int .i64 0, .int .i64 0, .int .i64 0, .int .i64 0, .string (str []), .int .i64 0, .int .i64 0, .int .i64 0, .int .i64 0, .slice none 0 0] 60 :: Tb g2 rA :: .blk g191 [.int .u8 (((UInt8.ofNat (97 + k)).toNat : Nat) : Int)] 5 :: T) w := s
               exact K _ _ _ (by kernel_rfl) ⟨g191, g341, (hpick ha), s⟩
            ·
             skip
             refine hat_call (i := 7) ha rfl (by kernel_rfl) (by kernel_rfl) (Vm.p_txn i (by omega) _ _ _ s) ?_
             clear hS; rintro _ w ⟨rfl, s⟩
             refine ⟨_, rfl, and_keep trivial fun hS => ?_⟩; clear ha; intro a ha
             refine Head.two (i := 4) (j := 9) (by kernel_rfl) ?_ ?_
             ·
              skip
              refine hat_ex (i := 4) ha rfl (by kernel_rfl) (ex_buildSlice elt101 _ zs101 [.int .u8 (((UInt8.ofNat (97 + k)).toNat : Nat) : Int)] s rfl (by kernel_rfl) (by decide)) ?_
              clear hS; rintro _ w ⟨g191, rfl, s⟩
              refine and_keep trivial fun hS => ?_; clear ha; intro a ha
              refine Head.two (i := 5) (j := 9) (by kernel_rfl) ?_ ?_
              ·
               skip
               refine hat_ex (i := 5) ha rfl (by kernel_rfl) (ex_bstr (c := 1) (b := (UInt8.ofNat (97 + k))) 0 s rfl rfl (by kernel_rfl) Tryz.underlying101 Tryz.underlying5 Tryz.underlying9) ?_
               clear hS; rintro _ w ⟨rfl, s⟩
               replace s : St W (.blk g191 [.int .u8 (((UInt8.ofNat (97 + k)).toNat : Nat) : Int)] 5 :: .blk g341 [.string (str []), .string (str []), .bool false, .bool false, .int .i64 0, .int .i64 0, .int .i64 0, .int .i64 0, .int .i64 0, .string (str []), .int .i64 0, .int .i64 0, .int .i64 0, .int .i64 0, .slice none 0 0] 60 :: Tb g2 rA :: T) w := s
               refine and_keep trivial fun hS => ?_; clear ha; intro a ha
               refine hd_call (i := 9) ha rfl (by kernel_rfl) (by kernel_rfl) (by kernel_rfl) (Vm.p_at wv (by omega) _ _ _ s) ?_
               clear hS; rintro _ w ⟨rfl, s⟩
               refine ⟨_, rfl, and_keep trivial fun hS => ?_⟩; clear ha; intro a ha
               replace s := s.at_ (j := 2) rfl
               replace s : St W (Tb g2 rA :: .blk g191 [.int .u8 (((UInt8.ofNat (97 + k)).toNat : Nat) : Int)] 5 :: .blk g341 [.string (str []), .string (str []), .bool false, .bool false, .int .i64 0, .int .i64 0, .int .i64 0, .int .i64 0, .int .i64 0, .string (str []), .int .i64 0, .int .i64 0, .int .i64 0, .int .i64 0, .slice none 0 0] 60 :: T) w := s
               refine hd_call (i := 10) ha rfl (by kernel_rfl) (by kernel_rfl) (by kernel_rfl) (hg1 _ _ s) ?_
               clear hS; rintro _ w ⟨rfl, s⟩
               refine ⟨_, rfl, and_keep trivial fun hS => ?_⟩; clear ha; intro a ha
               refine yk (i := 11) (.tuple #[F1, .int .i64 e1]) ha hS ?_
               refine yyk (i := 12) (F1) hS ?_
               refine yyk (i := 13) (.int .i64 e1) hS ?_; clear ha; intro a ha
               replace s := ((s.at_ (j := 1) rfl).at_ (j := 1) rfl).at_ (j := 2) rfl
               replace s : St W (.blk g341 [.string (str []), .string (str []), .bool false, .bool false, .int .i64 0, .int .i64 0, .int .i64 0, .int .i64 0, .int .i64 0, .string (str []), .int .i64 0, .int .i64 0, .int .i64 0, .int .i64 0, .slice none 0 0] 60 :: Tb g2 rA :: .blk g191 [.int .u8 (((UInt8.ofNat (97 + k)).toNat : Nat) : Int)] 5 :: T) w := s
               exact K _ _ _ (by kernel_rfl) ⟨g191, g341, (hpick ha), s⟩
              ·
               skip
               refine hat_call (i := 9) ha rfl (by kernel_rfl) (by kernel_rfl) (Vm.p_at wv (by omega) _ _ _ s) ?_
               clear hS; rintro _ w ⟨rfl, s⟩
               refine ⟨_, rfl, and_keep trivial fun hS => ?_⟩; clear ha; intro a ha
               refine hd_ex (i := 5) ha rfl (by kernel_rfl) (by kernel_rfl) (ex_bstr (c := 1) (b := (UInt8.ofNat (97 + k))) 0 s rfl rfl (by kernel_rfl) Tryz.underlying101 Tryz.underlying5 Tryz.underlying9) ?_
               clear hS; rintro _ w ⟨rfl, s⟩
               replace s : St W (.blk g191 [.int .u8 (((UInt8.ofNat (97 + k)).toNat : Nat) : Int)] 5 :: .blk g341 [.string (str []), .string (str []), .bool false, .bool false, .int .i64 0, .int .i64 0, .int .i64 0, .int .i64 0, .int .i64 0, .string (str []), .int .i64 0, .int .i64 0, .int .i64 0, .int .i64 0, .slice none 0 0] 60 :: Tb g2 rA :: T) w := s
               refine and_keep trivial fun hS => ?_; clear ha; intro a ha
               replace s := s.at_ (j := 2) rfl
               replace s : St W (Tb g2 rA :: .blk g191 [.int .u8 (((UInt8.ofNat (97 + k)).toNat : Nat) : Int)] 5 :: .blk g341 [.string (str []), .string (str []), .bool false, .bool false, .int .i64 0, .int .i64 0, .int .i64 0, .int .i64 0, .int .i64 0, .string (str []), .int .i64 0, .int .i64 0, .int .i64 0, .int .i64 0, .slice none 0 0] 60 :: T) w := s
               refine hd_call (i := 10) ha rfl (by kernel_rfl) (by kernel_rfl) (by kernel_rfl) (hg1 _ _ s) ?_
               clear hS; rintro _ w ⟨rfl, s⟩
               refine ⟨_, rfl, and_keep trivial fun hS => ?_⟩; clear ha; intro a ha
               refine yk (i := 11) (.tuple #[F1, .int .i64 e1]) ha hS ?_
               refine yyk (i := 12) (F1) hS ?_
               refine yyk (i := 13) (.int .i64 e1) hS ?_; clear ha; intro a ha
               replace s := ((s.at_ (j := 1) rfl).at_ (j := 1) rfl).at_ (j := 2) rfl
               replace s : St W (.blk g341 [.string (str []), .string (str []), .bool false, .bool false, .int .i64 0, .int .i64 0, .int .i64 0, .int .i64 0, .int .i64 0, .string (str []), .int .i64 0, .int .i64 0, .int .i64 0, .int .i64 0, .slice none 0 0] 60 :: Tb g2 rA :: .blk g191 [.int .u8 (((UInt8.ofNat (97 + k)).toNat : Nat) : Int)] 5 :: T) w := s
               exact K _ _ _ (by kernel_rfl) ⟨g191, g341, (hpick ha), s⟩
             ·
              skip
              refine hat_call (i := 9) ha rfl (by kernel_rfl) (by kernel_rfl) (Vm.p_at wv (by omega) _ _ _ s) ?_
              clear hS; rintro _ w ⟨rfl, s⟩
              refine ⟨_, rfl, and_keep trivial fun hS => ?_⟩; clear ha; intro a ha
              refine hd_ex (i := 4) ha rfl (by kernel_rfl) (by kernel_rfl) (ex_buildSlice elt101 _ zs101 [.int .u8 (((UInt8.ofNat (97 + k)).toNat : Nat) : Int)] s rfl (by kernel_rfl) (by decide)) ?_
              clear hS; rintro _ w ⟨g191, rfl, s⟩
              refine and_keep trivial fun hS => ?_; clear ha; intro a ha
              refine hd_ex (i := 5) ha rfl (by kernel_rfl) (by kernel_rfl) (ex_bstr (c := 1) (b := (UInt8.ofNat (97 + k))) 0 s rfl rfl (by kernel_rfl) Tryz.underlying101 Tryz.underlying5 Tryz.underlying9) ?_
              clear hS; rintro _ w ⟨rfl, s⟩
              replace s : St W (.blk g191 [.int .u8 (((UInt8.ofNat (97 + k)).toNat : Nat) : Int)] 5 :: .blk g341 [.string (str []), .string (str []), .bool false, .bool false, .int .i64 0, .int .i64 0, .int .i64 0, .int .i64 0, .int .i64 0, .string (str []), .int .i64 0, .int .i64 0, .int .i64 0, .int .i64 0, .slice none 0 0] 60 :: Tb g2 rA :: T) w := s
              refine and_keep trivial fun hS => ?_; clear ha; intro a ha
              replace s := s.at_ (j := 2) rfl
              replace s : St W (Tb g2 rA :: .blk g191 [.int .u8 (((UInt8.ofNat (97 + k)).toNat : Nat) : Int)] 5 :: .blk g341 [.string (str []), .string (str []), .bool false, .bool false, .int .i64 0, .int .i64 0, .int .i64 0, .int .i64 0, .int .i64 0, .string (str []), .int .i64 0, .int .i64 0, .int .i64 0, .int .i64 0, .slice none 0 0] 60 :: T) w := s
              refine hd_call (i := 10) ha rfl (by kernel_rfl) (by kernel_rfl) (by kernel_rfl) (hg1 _ _ s) ?_
              clear hS; rintro _ w ⟨rfl, s⟩
              refine ⟨_, rfl, and_keep trivial fun hS => ?_⟩; clear ha; intro a ha
              refine yk (i := 11) (.tuple #[F1, .int .i64 e1]) ha hS ?_
              refine yyk (i := 12) (F1) hS ?_
              refine yyk (i := 13) (.int .i64 e1) hS ?_; clear ha; intro a ha
              replace s := ((s.at_ (j := 1) rfl).at_ (j := 1) rfl).at_ (j := 2) rfl
              replace s : St W (.blk g341 [.string (str []), .string (str []), .bool false, .bool false, .int .i64 0, .int .i64 0, .int .i64 0, .int .i64 0, .int .i64 0, .string (str []), .int .i64 0, .int .i64 0, .int .i64 0, .int .i64 0, .slice none 0 0] 60 :: Tb g2 rA :: .blk g191 [.int .u8 (((UInt8.ofNat (97 + k)).toNat : Nat) : Int)] 5 :: T) w := s
              exact K _ _ _ (by kernel_rfl) ⟨g191, g341, (hpick ha), s⟩
          clear ha s hS; rintro a w ⟨g191, g341, ha, s⟩
          have hS : (fun w => True) w := trivial
          subst hF1
          refine hd_exd (i := 15) ha rfl (by kernel_rfl) (by kernel_rfl) (ex_store (of_ := 0) 0 [.string (str [(UInt8.ofNat (97 + k))]), .string (str []), .bool b1, .bool false, .int .i64 z1, .int .i64 0, .int .i64 0, .int .i64 0, .int .i64 0, .string (str []), .int .i64 0, .int .i64 0, .int .i64 0, .int .i64 0, .slice none 0 0] s rfl rfl (by kernel_rfl) (by kernel_rfl) (Tryz.sizeOf60 _) rfl (by simp [Value.oneCell']) (Nat.le_of_ble_eq_true rfl)) ?_
          clear hS; rintro w s
          replace s : St W (.blk g341 [.string (str [(UInt8.ofNat (97 + k))]), .string (str []), .bool b1, .bool false, .int .i64 z1, .int .i64 0, .int .i64 0, .int .i64 0, .int .i64 0, .string (str []), .int .i64 0, .int .i64 0, .int .i64 0, .int .i64 0, .slice none 0 0] 60 :: Tb g2 rA :: .blk g191 [.int .u8 (((UInt8.ofNat (97 + k)).toNat : Nat) : Int)] 5 :: T) w := s
          refine and_keep trivial fun hS => ?_; clear ha; intro a ha
          refine Head.done (by kernel_rfl) ?_
          clear hS; simp only [List.drop_succ_cons, List.drop_zero]
          refine zv (.int .i64 e1) ha ?_; clear ha; intro a ha
          refine zn2 ?_
          rw [hT] at s
          replace s := (((s.at_ (j := 4) rfl).at_ (j := 2) rfl).at_ (j := 4) rfl).at_ (j := 3) rfl
          replace s : St W (.blk g341 [.string (str [(UInt8.ofNat (97 + k))]), .string (str []), .bool b1, .bool false, .int .i64 z1, .int .i64 0, .int .i64 0, .int .i64 0, .int .i64 0, .string (str []), .int .i64 0, .int .i64 0, .int .i64 0, .int .i64 0, .slice none 0 0] 60 :: Tb gt rB :: Tb g2 rA :: .blk vp [.pointer (some ⟨gs, 0, none⟩), .pointer (some ⟨gt, 0, none⟩)] 26 :: L) w := s.keep 4 1
          exact ⟨g341, (hpick ha), s⟩
         ·
          clear ha s; rintro a w ⟨gr1, ha, s⟩
          refine wp_between (fun a w => ∃ gr2 : Nat, Has a 183 [(7, .pointer (some ⟨vp, 0, none⟩)), (16, .int .i64 wv), (17, .pointer (some ⟨g2, 0, none⟩)), (20, .int .i64 i), (21, .int .i64 ((k : Nat) : Int)), (22, .pointer (some ⟨gr1, 0, none⟩)), (23, .int .i64 e1), (24, .pointer (some ⟨gr2, 0, none⟩)), (25, .int .i64 e2)] ∧ St W (.blk gr2 [.string (str [(UInt8.ofNat (97 + k))]), .string (str []), .bool b2, .bool false, .int .i64 z2, .int .i64 0, .int .i64 0, .int .i64 0, .int .i64 0, .string (str []), .int .i64 0, .int .i64 0, .int .i64 0, .int .i64 0, .slice none 0 0] 60 :: .blk gr1 [.string (str [(UInt8.ofNat (97 + k))]), .string (str []), .bool b1, .bool false, .int .i64 z1, .int .i64 0, .int .i64 0, .int .i64 0, .int .i64 0, .string (str []), .int .i64 0, .int .i64 0, .int .i64 0, .int .i64 0, .slice none 0 0] 60 :: Tb gt rB :: Tb g2 rA :: .blk vp [.pointer (some ⟨gs, 0, none⟩), .pointer (some ⟨gt, 0, none⟩)] 26 :: L) w) ?_ ?_
          ·
           skip
           replace s := (s.at_ (j := 3) rfl).at_ (j := 2) rfl
           replace s : St W (Tb gt rB :: .blk vp [.pointer (some ⟨gs, 0, none⟩), .pointer (some ⟨gt, 0, none⟩)] 26 :: .blk gr1 [.string (str [(UInt8.ofNat (97 + k))]), .string (str []), .bool b1, .bool false, .int .i64 z1, .int .i64 0, .int .i64 0, .int .i64 0, .int .i64 0, .string (str []), .int .i64 0, .int .i64 0, .int .i64 0, .int .i64 0, .slice none 0 0] 60 :: Tb g2 rA :: L) w := s
           obtain ⟨T, hT⟩ : ∃ T, T = .blk gr1 [.string (str [(UInt8.ofNat (97 + k))]), .string (str []), .bool b1, .bool false, .int .i64 z1, .int .i64 0, .int .i64 0, .int .i64 0, .int .i64 0, .string (str []), .int .i64 0, .int .i64 0, .int .i64 0, .int .i64 0, .slice none 0 0] 60 :: Tb g2 rA :: L := ⟨_, rfl⟩
           rw [← hT] at s
           refine wp_region_head 17 (fun w => BlkIs vp [.pointer (some ⟨gs, 0, none⟩), .pointer (some ⟨gt, 0, none⟩)] w ∧ True) (by kernel_rfl) (by decide) ?_
           replace s := s.drew; generalize _root_.Go.World.drew _ = w at s ⊢
           have hS : (fun w => BlkIs vp [.pointer (some ⟨gs, 0, none⟩), .pointer (some ⟨gt, 0, none⟩)] w ∧ True) w := ⟨s.blkIs 1 rfl, trivial⟩
           refine yk (i := 0) (.pointer (some ⟨vp, 1, none⟩)) ha hS ?_
           refine yyv (i := 1) (.pointer (some ⟨gt, 0, none⟩)) (fun w hS => run_load1 (of_ := 1) hS.1 rfl (by kernel_rfl) Tryz.isAgg24 rfl) hS ?_
           refine yyk (i := 2) (.int .i64 ((k : Nat) : Int)) hS ?_
           refine yyv (i := 3) (.int .i64 ((97 + k : Nat) : Int)) (fun w hS => (run_arith ((97 : Int) + ((k : Nat) : Int)) ((97 + k : Nat) : Int) rfl (by kernel_rfl) (by kernel_rfl) (.inl ⟨rfl, rfl⟩) (by rw [wrap64_in (by omega)]; omega) _)) hS ?_
           refine yyv (i := 4) (.int .u8 (((UInt8.ofNat (97 + k)).toNat : Nat) : Int)) (fun w hS => (run_conv (p := ((97 + k : Nat) : Int)) (((UInt8.ofNat (97 + k)).toNat : Nat) : Int) rfl (by kernel_rfl) Tryz.underlying3 Tryz.underlying5 (conv_u8 _ (by omega)) _)) hS ?_
           refine yyk (i := 7) (.int .i64 i) hS ?_
           refine yyk (i := 9) (.int .i64 wv) hS ?_; clear ha; intro a ha
           refine Head.fork (k := 1) [true, true, true, true, true, true, true, true, true, true, true, true, true, true, true, true, false, false] (fun a w => ∃ (g372 : Nat) (g522 : Nat), Has a 183 [(7, .pointer (some ⟨vp, 0, none⟩)), (16, .int .i64 wv), (17, .pointer (some ⟨g2, 0, none⟩)), (20, .int .i64 i), (21, .int .i64 ((k : Nat) : Int)), (22, .pointer (some ⟨gr1, 0, none⟩)), (23, .int .i64 e1), (140, .pointer (some ⟨vp, 1, none⟩)), (141, .pointer (some ⟨gt, 0, none⟩)), (142, .int .i64 ((k : Nat) : Int)), (143, .int .i64 ((97 + k : Nat) : Int)), (144, .int .u8 (((UInt8.ofNat (97 + k)).toNat : Nat) : Int)), (147, .int .i64 i), (149, .int .i64 wv), (145, .slice (some ⟨g372, 0, none⟩) 1 1), (146, .string (str [(UInt8.ofNat (97 + k))])), (148, .agg #[.int .i64 7, .int .i64 0, .int .i64 1, .string (str [98]), .int .i64 i, .int .i64 0, .int .i64 i, .int .i64 0, .int .i64 i, .int .i64 0, .int .i64 i, .int .i64 0]), (150, .agg #[.int .i64 wv, .int .i64 0]), (151, .tuple #[F2, .int .i64 e2]), (139, .tuple #[F2, .int .i64 e2]), (152, F2), (153, .int .i64 e2), (24, .pointer (some ⟨g522, 0, none⟩))] ∧ St W (.blk g522 [.string (str []), .string (str []), .bool false, .bool false, .int .i64 0, .int .i64 0, .int .i64 0, .int .i64 0, .int .i64 0, .string (str []), .int .i64 0, .int .i64 0, .int .i64 0, .int .i64 0, .slice none 0 0] 60 :: Tb gt rB :: .blk g372 [.int .u8 (((UInt8.ofNat (97 + k)).toNat : Nat) : Int)] 5 :: .blk vp [.pointer (some ⟨gs, 0, none⟩), .pointer (some ⟨gt, 0, none⟩)] 26 :: T) w) ?_ ?_
           ·
            intro K
            refine Head.three (i := 5) (j := 8) (k := 15) (by kernel_rfl) ?_ ?_ ?_
            ·
             skip
             refine hat_ex (i := 5) ha rfl (by kernel_rfl) (ex_buildSlice elt101 _ zs101 [.int .u8 (((UInt8.ofNat (97 + k)).toNat : Nat) : Int)] s rfl (by kernel_rfl) (by decide)) ?_
             clear hS; rintro _ w ⟨g372, rfl, s⟩
             refine and_keep ⟨s.blkIs 2 rfl, trivial⟩ fun hS => ?_; clear ha; intro a ha
             refine Head.three (i := 6) (j := 8) (k := 15) (by kernel_rfl) ?_ ?_ ?_
             ·
              skip
              refine hat_ex (i := 6) ha rfl (by kernel_rfl) (ex_bstr (c := 1) (b := (UInt8.ofNat (97 + k))) 0 s rfl rfl (by kernel_rfl) Tryz.underlying101 Tryz.underlying5 Tryz.underlying9) ?_
              clear hS; rintro _ w ⟨rfl, s⟩
              replace s : St W (.blk g372 [.int .u8 (((UInt8.ofNat (97 + k)).toNat : Nat) : Int)] 5 :: Tb gt rB :: .blk vp [.pointer (some ⟨gs, 0, none⟩), .pointer (some ⟨gt, 0, none⟩)] 26 :: T) w := s
              refine and_keep ⟨s.blkIs 2 rfl, trivial⟩ fun hS => ?_; clear ha; intro a ha
              refine Head.two (i := 8) (j := 15) (by kernel_rfl) ?_ ?_
              ·
               skip
               refine hat_call (i := 8) ha rfl (by kernel_rfl) (by kernel_rfl) (Vm.p_txn i (by omega) _ _ _ s) ?_
               clear hS; rintro _ w ⟨rfl, s⟩
               refine ⟨_, rfl, and_keep ⟨s.blkIs 2 rfl, trivial⟩ fun hS => ?_⟩; clear ha; intro a ha
               refine Head.two (i := 10) (j := 15) (by kernel_rfl) ?_ ?_
               ·
                skip
                refine hat_call (i := 10) ha rfl (by kernel_rfl) (by kernel_rfl) (Vm.p_at wv (by omega) _ _ _ s) ?_
                clear hS; rintro _ w ⟨rfl, s⟩
                refine ⟨_, rfl, and_keep ⟨s.blkIs 2 rfl, trivial⟩ fun hS => ?_⟩; clear ha; intro a ha
                refine Head.two (i := 11) (j := 15) (by kernel_rfl) ?_ ?_
                ·
                 skip
                 replace s := s.at_ (j := 1) rfl
                 replace s : St W (Tb gt rB :: .blk g372 [.int .u8 (((UInt8.ofNat (97 + k)).toNat : Nat) : Int)] 5 :: .blk vp [.pointer (some ⟨gs, 0, none⟩), .pointer (some ⟨gt, 0, none⟩)] 26 :: T) w := s
                 refine hat_call (i := 11) ha rfl (by kernel_rfl) (by kernel_rfl) (hg2 _ _ s) ?_
                 clear hS; rintro _ w ⟨rfl, s⟩
                 refine ⟨_, rfl, and_keep ⟨s.blkIs 2 rfl, trivial⟩ fun hS => ?_⟩; clear ha; intro a ha
                 refine yk (i := 12) (.tuple #[F2, .int .i64 e2]) ha hS ?_
                 refine yyk (i := 13) (F2) hS ?_
                 refine yyk (i := 14) (.int .i64 e2) hS ?_; clear ha; intro a ha
                 refine hd_ex (i := 15) ha rfl (by kernel_rfl) (by kernel_rfl) (ex_alloc [.string (str []), .string (str []), .bool false, .bool false, .int .i64 0, .int .i64 0, .int .i64 0, .int .i64 0, .int .i64 0, .string (str []), .int .i64 0, .int .i64 0, .int .i64 0, .int .i64 0, .slice none 0 0] s rfl (Tryz.zeroValue60 _) (by kernel_rfl)) ?_
                 clear hS; rintro _ w ⟨g522, rfl, s⟩
                 refine and_keep ⟨s.blkIs 3 rfl, trivial⟩ fun hS => ?_; clear ha; intro a ha
                 exact K _ _ _ (by kernel_rfl) ⟨g372, g522, (hpick ha), s⟩
                ·
                 skip
                 refine hat_ex (i := 15) ha rfl (by kernel_rfl) (ex_alloc [.string (str []), .string (str []), .bool false, .bool false, .int .i64 0, .int .i64 0, .int .i64 0, .int .i64 0, .int .i64 0, .string (str []), .int .i64 0, .int .i64 0, .int .i64 0, .int .i64 0, .slice none 0 0] s rfl (Tryz.zeroValue60 _) (by kernel_rfl)) ?_
                 clear hS; rintro _ w ⟨g522, rfl, s⟩
                 refine and_keep ⟨s.blkIs 3 rfl, trivial⟩ fun hS => ?_; clear ha; intro a ha
                 replace s := s.at_ (j := 2) rfl
                 replace s : St W (Tb gt rB :: .blk g522 [.string (str []), .string (str []), .bool false, .bool false, .int .i64 0, .int .i64 0, .int .i64 0, .int .i64 0, .int .i64 0, .string (str []), .int .i64 0, .int .i64 0, .int .i64 0, .int .i64 0, .slice none 0 0] 60 :: .blk g372 [.int .u8 (((UInt8.ofNat (97 + k)).toNat : Nat) : Int)] 5 :: .blk vp [.pointer (some ⟨gs, 0, none⟩), .pointer (some ⟨gt, 0, none⟩)] 26 :: T) w := s
                 refine hd_call (i := 11) ha rfl (by kernel_rfl) (by kernel_rfl) (by kernel_rfl) (hg2 _ _ s) ?_
                 clear hS; rintro _ w ⟨rfl, s⟩
                 refine ⟨_, rfl, and_keep ⟨s.blkIs 3 rfl, trivial⟩ fun hS => ?_⟩; clear ha; intro a ha
                 refine yk (i := 12) (.tuple #[F2, .int .i64 e2]) ha hS ?_
                 refine yyk (i := 13) (F2) hS ?_
                 refine yyk (i := 14) (.int .i64 e2) hS ?_; clear ha; intro a ha
                 replace s := (((s.at_ (j := 3) rfl).at_ (j := 3) rfl).at_ (j := 2) rfl).at_ (j := 3) rfl
                 replace s : St W (.blk g522 [.string (str []), .string (str []), .bool false, .bool false, .int .i64 0, .int .i64 0, .int .i64 0, .int .i64 0, .int .i64 0, .string (str []), .int .i64 0, .int .i64 0, .int .i64 0, .int .i64 0, .slice none 0 0] 60 :: Tb gt rB :: .blk g372 [.int .u8 (((UInt8.ofNat (97 + k)).toNat : Nat) : Int)] 5 :: .blk vp [.pointer (some ⟨gs, 0, none⟩), .pointer (some ⟨gt, 0, none⟩)] 26 :: T) w := s
                 exact K _ _ _ (by kernel_rfl) ⟨g372, g522, (hpick ha), s⟩
               ·
                skip
                refine hat_ex (i := 15) ha rfl (by kernel_rfl) (ex_alloc [.string (str []), .string (str []), .bool false, .bool false, .int .i64 0, .int .i64 0, .int .i64 0, .int .i64 0, .int .i64 0, .string (str []), .int .i64 0, .int .i64 0, .int .i64 0, .int .i64 0, .slice none 0 0] s rfl (Tryz.zeroValue60 _) (by kernel_rfl)) ?_
                clear hS; rintro _ w ⟨g522, rfl, s⟩
                refine and_keep ⟨s.blkIs 3 rfl, trivial⟩ fun hS => ?_; clear ha; intro a ha
                refine hd_call (i := 10) ha rfl (by kernel_rfl) (by kernel_rfl) (by kernel_rfl) (Vm.p_at wv (by omega) _ _ _ s) ?_
                clear hS; rintro _ w ⟨rfl, s⟩
                refine ⟨_, rfl, and_keep ⟨s.blkIs 3 rfl, trivial⟩ fun hS => ?_⟩; clear ha; intro a ha
                replace s := s.at_ (j := 2) rfl
                replace s : St W (Tb gt rB :: .blk g522 [.string (str []), .string (str []), .bool false, .bool false, .int .i64 0, .int .i64 0, .int .i64 0, .int .i64 0, .int .i64 0, .string (str []), .int .i64 0, .int .i64 0, .int .i64 0, .int .i64 0, .slice none 0 0] 60 :: .blk g372 [.int .u8 (((UInt8.ofNat (97 + k)).toNat : Nat) : Int)] 5 :: .blk vp [.pointer (some ⟨gs, 0, none⟩), .pointer (some ⟨gt, 0, none⟩)] 26 :: T) w := s
                refine hd_call (i := 11) ha rfl (by kernel_rfl) (by kernel_rfl) (by kernel_rfl) (hg2 _ _ s) ?_
                clear hS; rintro _ w ⟨rfl, s⟩
                refine ⟨_, rfl, and_keep ⟨s.blkIs 3 rfl, trivial⟩ fun hS => ?_⟩; clear ha; intro a ha
                refine yk (i := 12) (.tuple #[F2, .int .i64 e2]) ha hS ?_
                refine yyk (i := 13) (F2) hS ?_
                refine yyk (i := 14) (.int .i64 e2) hS ?_; clear ha; intro a ha
                replace s := (((s.at_ (j := 3) rfl).at_ (j := 3) rfl).at_ (j := 2) rfl).at_ (j := 3) rfl
                replace s : St W (.blk g522 [.string (str []), .string (str []), .bool false, .bool false, .int .i64 0, .int .i64 0, .int .i64 0, .int .i64 0, .int .i64 0, .string (str []), .int .i64 0, .int .i64 0, .int .i64 0, .int .i64 0, .slice none 0 0] 60 :: Tb gt rB :: .blk g372 [.int .u8 (((UInt8.ofNat (97 + k)).toNat : Nat) : Int)] 5 :: .blk vp [.pointer (some ⟨gs, 0, none⟩), .pointer (some ⟨gt, 0, none⟩)] 26 :: T) w := s
                exact K _ _ _ (by kernel_rfl) ⟨g372, g522, (hpick ha), s⟩
              ·
               skip
               refine hat_ex (i := 15) ha rfl (by kernel_rfl) (ex_alloc [.string (str []), .string (str []), .bool false, .bool false, .int .i64 0, .int .i64 0, .int .i64 0, .int .i64 0, .int .i64 0, .string (str []), .int .i64 0, .int .i64 0, .int .i64 0, .int .i64 0, .slice none 0 0] s rfl (Tryz.zeroValue60 _) (by kernel_rfl)) ?_
               clear hS; rintro _ w ⟨g522, rfl, s⟩
               refine and_keep ⟨s.blkIs 3 rfl, trivial⟩ fun hS => ?_; clear ha; intro a ha
               refine hd_call (i := 8) ha rfl (by kernel_rfl) (by kernel_rfl) (by kernel_rfl) (Vm.p_txn i (by omega) _ _ _ s) ?_
               clear hS; rintro _ w ⟨rfl, s⟩
               refine ⟨_, rfl, and_keep ⟨s.blkIs 3 rfl, trivial⟩ fun hS => ?_⟩; clear ha; intro a ha
               refine hd_call (i := 10) ha rfl (by kernel_rfl) (by kernel_rfl) (by kernel_rfl) (Vm.p_at wv (by omega) _ _ _ s) ?_
               clear hS; rintro _ w ⟨rfl, s⟩
               refine ⟨_, rfl, and_keep ⟨s.blkIs 3 rfl, trivial⟩ fun hS => ?_⟩; clear ha; intro a ha
               replace s := s.at_ (j := 2) rfl
               replace s : St W (Tb gt rB :: .blk g522 [.string (str []), .string (str []), .bool false, .bool false, .int .i64 0, .int .i64 0, .int .i64 0, .int .i64 0, .int .i64 0, .string (str []), .int .i64 0, .int .i64 0, .int .i64 0, .int .i64 0, .slice none 0 0] 60 :: .blk g372 [.int .u8 (((UInt8.ofNat (97 + k)).toNat : Nat) : Int)] 5 :: .blk vp [.pointer (some ⟨gs, 0, none⟩), .pointer (some ⟨gt, 0, none⟩)] 26 :: T) w := s
               refine hd_call (i := 11) ha rfl (by kernel_rfl) (by kernel_rfl) (by kernel_rfl) (hg2 _ _ s) ?_
               clear hS; rintro _ w ⟨rfl, s⟩
               refine ⟨_, rfl, and_keep ⟨s.blkIs 3 rfl, trivial⟩ fun hS => ?_⟩; clear ha; intro a ha
               refine yk (i := 12) (.tuple #[F2, .int .i64 e2]) ha hS ?_
               refine yyk (i := 13) (F2) hS ?_
               refine yyk (i := 14) (.int .i64 e2) hS ?_; clear ha; intro a ha
               replace s := (((s.at_ (j := 3) rfl).at_ (j := 3) rfl).at_ (j := 2) rfl).at_ (j := 3) rfl
               replace s : St W (.blk g522 [.string (str []), .string (str []), .bool false, .bool false, .int .i64 0, .int .i64 0, .int .i64 0, .int .i64 0, .int .i64 0, .string (str []), .int .i64 0, .int .i64 0, .int .i64 0, .int .i64 0, .slice none 0 0] 60 :: Tb gt rB :: .blk g372 [.int .u8 (((UInt8.ofNat (97 + k)).toNat : Nat) : Int)] 5 :: .blk vp [.pointer (some ⟨gs, 0, none⟩), .pointer (some ⟨gt, 0, none⟩)] 26 :: T) w := s
               exact K _ _ _ (by kernel_rfl) ⟨g372, g522, (hpick ha), s⟩
             ·
              skip
              refine hat_call (i := 8) ha rfl (by kernel_rfl) (by kernel_rfl) (Vm.p_txn i (by omega) _ _ _ s) ?_
              clear hS; rintro _ w ⟨rfl, s⟩
              refine ⟨_, rfl, and_keep ⟨s.blkIs 2 rfl, trivial⟩ fun hS => ?_⟩; clear ha; intro a ha
              refine Head.three (i := 6) (j := 10) (k := 15) (by kernel_rfl) ?_ ?_ ?_
              ·
               skip
               refine hat_ex (i := 6) ha rfl (by kernel_rfl) (ex_bstr (c := 1) (b := (UInt8.ofNat (97 + k))) 0 s rfl rfl (by kernel_rfl) Tryz.underlying101 Tryz.underlying5 Tryz.underlying9) ?_
               clear hS; rintro _ w ⟨rfl, s⟩
               replace s : St W (.blk g372 [.int .u8 (((UInt8.ofNat (97 + k)).toNat : Nat) : Int)] 5 :: Tb gt rB :: .blk vp [.pointer (some ⟨gs, 0, none⟩), .pointer (some ⟨gt, 0, none⟩)] 26 :: T) w := s
               refine and_keep ⟨s.blkIs 2 rfl, trivial⟩ fun hS => ?_; clear ha; intro a ha
               refine Head.two (i := 10) (j := 15) (by kernel_rfl) ?_ ?_
               ·
                skip
                refine hat_call (i := 10) ha rfl (by kernel_rfl) (by kernel_rfl) (Vm.p_at wv (by omega) _ _ _ s) ?_
                clear hS; rintro _ w ⟨rfl, s⟩
                refine ⟨_, rfl, and_keep ⟨s.blkIs 2 rfl, trivial⟩ fun hS => ?_⟩; clear ha; intro a ha
                refine Head.two (i := 11) (j := 15) (by kernel_rfl) ?_ ?_
                ·
                 skip
                 replace s := s.at_ (j := 1) rfl
                 replace s : St W (Tb gt rB :: .blk g372 [.int .u8 (((UInt8.ofNat (97 + k)).toNat : Nat) : Int)] 5 :: .blk vp [.pointer (some ⟨gs, 0, none⟩), .pointer (some ⟨gt, 0, none⟩)] 26 :: T) w := s
                 refine hat_call (i := 11) ha rfl (by kernel_rfl) (by kernel_rfl) (hg2 _ _ s) ?_
                 clear hS; rintro _ w ⟨rfl, s⟩
                 refine ⟨_, rfl, and_keep ⟨s.blkIs 2 rfl, trivial⟩ fun hS => ?_⟩; clear ha; intro a ha
                 refine yk (i := 12) (.tuple #[F2, .int .i64 e2]) ha hS ?_
                 refine yyk (i := 13) (F2) hS ?_
                 refine yyk (i := 14) (.int .i64 e2) hS ?_; clear ha; intro a ha
                 refine hd_ex (i := 15) ha rfl (by kernel_rfl) (by kernel_rfl) (ex_alloc [.string (str []), .string (str []), .bool false, .bool false, .int .i64 0, .int .i64 0, .int .i64 0, .int .i64 0, .int .i64 0, .string (str []), .int .i64 0, .int .i64 0, .int .i64 0, .int .i64 0, .slice none 0 0] s rfl (Tryz.zeroValue60 _) (by kernel_rfl)) ?_
                 clear hS; rintro _ w ⟨g522, rfl, s⟩
                 refine and_keep ⟨s.blkIs 3 rfl, trivial⟩ fun hS => ?_; clear ha; intro a ha
                 exact K _ _ _ (by kernel_rfl) ⟨g372, g522, (hpick ha), s⟩
                ·
                 skip
                 refine hat_ex (i := 15) ha rfl (by kernel_rfl) (ex_alloc [.string (str []), .string (str []), .bool false, .bool false, .int .i64 0, .int .i64 0, .int .i64 0, .int .i64 0, .int .i64 0, .string (str []), .int .i64 0, .int .i64 0, .int .i64 0, .int .i64 0, .slice none 0 0] s rfl (Tryz.zeroValue60 _) (by kernel_rfl)) ?_
                 clear hS; rintro _ w ⟨g522, rfl, s⟩
                 refine and_keep ⟨s.blkIs 3 rfl, trivial⟩ fun hS => ?_; clear ha; intro a ha
                 replace s := s.at_ (j := 2) rfl
                 replace s : St W (Tb gt rB :: .blk g522 [.string (str []), .string (str []), .bool false, .bool false, .int .i64 0, .int .i64 0, .int .i64 0, .int .i64 0, .int .i64 0, .string (str []), .int .i64 0, .int .i64 0, .int .i64 0, .int .i64 0, .slice none 0 0] 60 :: .blk g372 [.int .u8 (((UInt8.ofNat (97 + k)).toNat : Nat) : Int)] 5 :: .blk vp [.pointer (some ⟨gs, 0, none⟩), .pointer (some ⟨gt, 0, none⟩)] 26 :: T) w := s
                 refine hd_call (i := 11) ha rfl (by kernel_rfl) (by kernel_rfl) (by kernel_rfl) (hg2 _ _ s) ?_
                 clear hS; rintro _ w ⟨rfl, s⟩
                 refine ⟨_, rfl, and_keep ⟨s.blkIs 3 rfl, trivial⟩ fun hS => ?_⟩; clear ha; intro a ha
                 refine yk (i := 12) (.tuple #[F2, .int .i64 e2]) ha hS ?_
                 refine yyk (i := 13) (F2) hS ?_
                 refine yyk (i := 14) (.int .i64 e2) hS ?_; clear ha; intro a ha
                 replace s := (((s.at_ (j := 3) rfl).at_ (j := 3) rfl).at_ (j := 2) rfl).at_ (j := 3) rfl
                 replace s : St W (.blk g522 [.string (str []), .string (str []), .bool false, .bool false, .int .i64 0, .int .i64 0, .int .i64 0, .int .i64 0, .int .i64 0, .string (str []), .int .i64 0, .int .i64 0, .int .i64 0, .int .i64 0, .slice none 0 0] 60 :: Tb gt rB :: .blk g372 [.int .u8 (((UInt8.ofNat (97 + k)).toNat : Nat) : Int)] 5 :: .blk vp [.pointer (some ⟨gs, 0, none⟩), .pointer (some ⟨gt, 0, none⟩)] 26 :: T) w := s
                 exact K _ _ _ (by kernel_rfl) ⟨g372, g522, (hpick ha), s⟩
               ·
                skip
                refine hat_ex (i := 15) ha rfl (by kernel_rfl) (ex_alloc [.string (str []), .string (str []), .bool false, .bool false, .int .i64 0, .int .i64 0, .int .i64 0, .int .i64 0, .int .i64 0, .string (str []), .int .i64 0, .int .i64 0, .int .i64 0, .int .i64 0, .slice none 0 0] s rfl (Tryz.zeroValue60 _) (by kernel_rfl)) ?_
                clear hS; rintro _ w ⟨g522, rfl, s⟩
                refine and_keep ⟨s.blkIs 3 rfl, trivial⟩ fun hS => ?_; clear ha; intro a ha
                refine hd_call (i := 10) ha rfl (by kernel_rfl) (by kernel_rfl) (by kernel_rfl) (Vm.p_at wv (by omega) _ _ _ s) ?_
                clear hS; rintro _ w ⟨rfl, s⟩
                refine ⟨_, rfl, and_keep ⟨s.blkIs 3 rfl, trivial⟩ fun hS => ?_⟩; clear ha; intro a ha
                replace s := s.at_ (j := 2) rfl
                replace s : St W (Tb gt rB :: .blk g522 [.string (str []), .string (str []), .bool false, .bool false, .int .i64 0, .int .i64 0, .int .i64 0, .int .i64 0, .int .i64 0, .string (str []), .int .i64 0, .int .i64 0, .int .i64 0, .int .i64 0, .slice none 0 0] 60 :: .blk g372 [.int .u8 (((UInt8.ofNat (97 + k)).toNat : Nat) : Int)] 5 :: .blk vp [.pointer (some ⟨gs, 0, none⟩), .pointer (some ⟨gt, 0, none⟩)] 26 :: T) w := s
                refine hd_call (i := 11) ha rfl (by kernel_rfl) (by kernel_rfl) (by kernel_rfl) (hg2 _ _ s) ?_
                clear hS; rintro _ w ⟨rfl, s⟩
                refine ⟨_, rfl, and_keep ⟨s.blkIs 3 rfl, trivial⟩ fun hS => ?_⟩; clear ha; intro a ha
                refine yk (i := 12) (.tuple #[F2, .int .i64 e2]) ha hS ?_
                refine yyk (i := 13) (F2) hS ?_
                refine yyk (i := 14) (.int .i64 e2) hS ?_; clear ha; intro a ha
                replace s := (((s.at_ (j := 3) rfl).at_ (j := 3) rfl).at_ (j := 2) rfl).at_ (j := 3) rfl
                replace s : St W (.blk g522 [.string (str []), .string (str []), .bool false, .bool false, .int .i64 0, .int .i64 0, .int .i64 0, .int .i64 0, .int .i64 0, .string (str []), .int .i64 0, .int .i64 0, .int .i64 0, .int .i64 0, .slice none 0 0] 60 :: Tb gt rB :: .blk g372 [.int .u8 (((UInt8.ofNat (97 + k)).toNat : Nat) : Int)] 5 :: .blk vp [.pointer (some ⟨gs, 0, none⟩), .pointer (some ⟨gt, 0, none⟩)] 26 :: T) w := s
                exact K _ _ _ (by kernel_rfl) ⟨g372, g522, (hpick ha), s⟩
              ·
               skip
               refine hat_call (i := 10) ha rfl (by kernel_rfl) (by kernel_rfl) (Vm.p_at wv (by omega) _ _ _ s) ?_
               clear hS; rintro _ w ⟨rfl, s⟩
               refine ⟨_, rfl, and_keep ⟨s.blkIs 2 rfl, trivial⟩ fun hS => ?_⟩; clear ha; intro a ha
               refine Head.two (i := 6) (j := 15) (by kernel_rfl) ?_ ?_
               ·
                skip
                refine hat_ex (i := 6) ha rfl (by kernel_rfl) (ex_bstr (c := 1) (b := (UInt8.ofNat (97 + k))) 0 s rfl rfl (by kernel_rfl) Tryz.underlying101 Tryz.underlying5 Tryz.underlying9) ?_
                clear hS; rintro _ w ⟨rfl, s⟩
                replace s : St W (.blk g372 [.int .u8 (((UInt8.ofNat (97 + k)).toNat : Nat) : Int)] 5 :: Tb gt rB :: .blk vp [.pointer (some ⟨gs, 0, none⟩), .pointer (some ⟨gt, 0, none⟩)] 26 :: T) w := s
                refine and_keep ⟨s.blkIs 2 rfl, trivial⟩ fun hS => ?_; clear ha; intro a ha
                refine Head.two (i := 11) (j := 15) (by kernel_rfl) ?_ ?_
                ·
                 skip
                 replace s := s.at_ (j := 1) rfl
                 replace s : St W (Tb gt rB :: .blk g372 [.int .u8 (((UInt8.ofNat (97 + k)).toNat : Nat) : Int)] 5 :: .blk vp [.pointer (some ⟨gs, 0, none⟩), .pointer (some ⟨gt, 0, none⟩)] 26 :: T) w := s
                 refine hat_call (i := 11) ha rfl (by kernel_rfl) (by kernel_rfl) (hg2 _ _ s) ?_
                 clear hS; rintro _ w ⟨rfl, s⟩
                 refine ⟨_, rfl, and_keep ⟨s.blkIs 2 rfl, trivial⟩ fun hS => ?_⟩; clear ha; intro a ha
                 refine yk (i := 12) (.tuple #[F2, .int .i64 e2]) ha hS ?_
                 refine yyk (i := 13) (F2) hS ?_
                 refine yyk (i := 14) (.int .i64 e2) hS ?_; clear ha; intro a ha
                 refine hd_ex (i := 15) ha rfl (by kernel_rfl) (by kernel_rfl) (ex_alloc [.string (str []), .string (str []), .bool false, .bool false, .int .i64 0, .int .i64 0, .int .i64 0, .int .i64 0, .int .i64 0, .string (str []), .int .i64 0, .int .i64 0, .int .i64 0, .int .i64 0, .slice none 0 0] s rfl (Tryz.zeroValue60 _) (by kernel_rfl)) ?_
                 clear hS; rintro _ w ⟨g522, rfl, s⟩
                 refine and_keep ⟨s.blkIs 3 rfl, trivial⟩ fun hS => ?_; clear ha; intro a ha
                 exact K _ _ _ (by kernel_rfl) ⟨g372, g522, (hpick ha), s⟩
                ·
                 skip
                 refine hat_ex (i := 15) ha rfl (by kernel_rfl) (ex_alloc [.string (str []), .string (str []), .bool false, .bool false, .int .i64 0, .int .i64 0, .int .i64 0, .int .i64 0, .int .i64 0, .string (str []), .int .i64 0, .int .i64 0, .int .i64 0, .int .i64 0, .slice none 0 0] s rfl (Tryz.zeroValue60 _) (by kernel_rfl)) ?_
                 clear hS; rintro _ w ⟨g522, rfl, s⟩
                 refine and_keep ⟨s.blkIs 3 rfl, trivial⟩ fun hS => ?_; clear ha; intro a ha
                 replace s := s.at_ (j := 2) rfl
                 replace s : St W (Tb gt rB :: .blk g522 [.string (str []), .string (str []), .bool false, .bool false, .int .i64 0, .int .i64 0, .int .i64 0, .int .i64 0, .int .i64 0, .string (str []), .int .i64 0, .int .i64 0, .int .i64 0, .int .i64 0, .slice none 0 0] 60 :: .blk g372 [.int .u8 (((UInt8.ofNat (97 + k)).toNat : Nat) : Int)] 5 :: .blk vp [.pointer (some ⟨gs, 0, none⟩), .pointer (some ⟨gt, 0, none⟩)] 26 :: T) w := s
                 refine hd_call (i := 11) ha rfl (by kernel_rfl) (by kernel_rfl) (by kernel_rfl) (hg2 _ _ s) ?_
                 clear hS; rintro _ w ⟨rfl, s⟩
                 refine ⟨_, rfl, and_keep ⟨s.blkIs 3 rfl, trivial⟩ fun hS => ?_⟩; clear ha; intro a ha
                 refine yk (i := 12) (.tuple #[F2, .int .i64 e2]) ha hS ?_
                 refine yyk (i := 13) (F2) hS ?_
                 refine yyk (i := 14) (.int .i64 e2) hS ?_; clear ha; intro a ha
                 replace s := (((s.at_ (j := 3) rfl).at_ (j := 3) rfl).at_ (j := 2) rfl).at_ (j := 3) rfl
                 replace s : St W (.blk g522 [.string (str []), .string (str []), .bool false, .bool false, .int .i64 0, .int .i64 0, .int .i64 0, .int .i64 0, .int .i64 0, .string (str []), .int .i64 0, .int .i64 0, .int .i64 0, .int .i64 0, .slice none 0 0] 60 :: Tb gt rB :: .blk g372 [.int .u8 (((UInt8.ofNat (97 + k)).toNat : Nat) : Int)] 5 :: .blk vp [.pointer (some ⟨gs, 0, none⟩), .pointer (some ⟨gt, 0, none⟩)] 26 :: T) w := s
                 exact K _ _ _ (by kernel_rfl) ⟨g372, g522, (hpick ha), s⟩
               ·
                skip
                refine hat_ex (i := 15) ha rfl (by kernel_rfl) (ex_alloc [.string (str []), .string (str []), .bool false, .bool false, .int .i64 0, .int .i64 0, .int .i64 0, .int .i64 0, .int .i64 0, .string (str []), .int .i64 0, .int .i64 0, .int .i64 0, .int .i64 0, .slice none 0 0] s rfl (Tryz.zeroValue60 _) (by kernel_rfl)) ?_
                clear hS; rintro _ w ⟨g522, rfl, s⟩
                refine and_keep ⟨s.blkIs 3 rfl, trivial⟩ fun hS => ?_; clear ha; intro a ha
                refine hd_ex (i := 6) ha rfl (by kernel_rfl) (by kernel_rfl) (ex_bstr (c := 1) (b := (UInt8.ofNat (97 + k))) 1 s rfl rfl (by kernel_rfl) Tryz.underlying101 Tryz.underlying5 Tryz.underlying9) ?_
                clear hS; rintro _ w ⟨rfl, s⟩
                replace s : St W (.blk g522 [.string (str []), .string (str []), .bool false, .bool false, .int .i64 0, .int .i64 0, .int .i64 0, .int .i64 0, .int .i64 0, .string (str []), .int .i64 0, .int .i64 0, .int .i64 0, .int .i64 0, .slice none 0 0] 60 :: .blk g372 [.int .u8 (((UInt8.ofNat (97 + k)).toNat : Nat) : Int)] 5 :: Tb gt rB :: .blk vp [.pointer (some ⟨gs, 0, none⟩), .pointer (some ⟨gt, 0, none⟩)] 26 :: T) w := s
                refine and_keep ⟨s.blkIs 3 rfl, trivial⟩ fun hS => ?_; clear ha; intro a ha
                replace s := s.at_ (j := 2) rfl
                replace s : St W (Tb gt rB :: .blk g522 [.string (str []), .string (str []), .bool false, .bool false, .int .i64 0, .int .i64 0, .int .i64 0, .int .i64 0, .int .i64 0, .string (str []), .int .i64 0, .int .i64 0, .int .i64 0, .int .i64 0, .slice none 0 0] 60 :: .blk g372 [.int .u8 (((UInt8.ofNat (97 + k)).toNat : Nat) : Int)] 5 :: .blk vp [.pointer (some ⟨gs, 0, none⟩), .pointer (some ⟨gt, 0, none⟩)] 26 :: T) w := s
                refine hd_call (i := 11) ha rfl (by kernel_rfl) (by kernel_rfl) (by kernel_rfl) (hg2 _ _ s) ?_
                clear hS; rintro _ w ⟨rfl, s⟩
                refine ⟨_, rfl, and_keep ⟨s.blkIs 3 rfl, trivial⟩ fun hS => ?_⟩; clear ha; intro a ha
                refine yk (i := 12) (.tuple #[F2, .int .i64 e2]) ha hS ?_
                refine yyk (i := 13) (F2) hS ?_
                refine yyk (i := 14) (.int .i64 e2) hS ?_; clear ha; intro a ha
                replace s := (((s.at_ (j := 3) rfl).at_ (j := 3) rfl).at_ (j := 2) rfl).at_ (j := 3) rfl
                replace s : St W (.blk g522 [.string (str []), .string (str []), .bool false, .bool false, .int .i64 0, .int .i64 0, .int .i64 0, .int .i64 0, .int .i64 0, .string (str []), .int .i64 0, .int .i64 0, .int .i64 0, .int .i64 0, .slice none 0 0] 60 :: Tb gt rB :: .blk g372 [.int .u8 (((UInt8.ofNat (97 + k)).toNat : Nat) : Int)] 5 :: .blk vp [.pointer (some ⟨gs, 0, none⟩), .pointer (some ⟨gt, 0, none⟩)] 26 :: T) w := s
                exact K _ _ _ (by kernel_rfl) ⟨g372, g522, (hpick ha), s⟩
              ·
               skip
               refine hat_ex (i := 15) ha rfl (by kernel_rfl) (ex_alloc [.string (str []), .string (str []), .bool false, .bool false, .int .i64 0, .int .i64 0, .int .i64 0, .int .i64 0, .int .i64 0, .string (str []), .int .i64 0, .int .i64 0, .int .i64 0, .int .i64 0, .slice none 0 0] s rfl (Tryz.zeroValue60 _) (by kernel_rfl)) ?_
               clear hS; rintro _ w ⟨g522, rfl, s⟩
               refine and_keep ⟨s.blkIs 3 rfl, trivial⟩ fun hS => ?_; clear ha; intro a ha
               refine Head.two (i := 6) (j := 10) (by kernel_rfl) ?_ ?_
               ·
                skip
                refine hat_ex (i := 6) ha rfl (by kernel_rfl) (ex_bstr (c := 1) (b := (UInt8.ofNat (97 + k))) 1 s rfl rfl (by kernel_rfl) Tryz.underlying101 Tryz.underlying5 Tryz.underlying9) ?_
                clear hS; rintro _ w ⟨rfl, s⟩
                replace s : St W (.blk g522 [.string (str []), .string (str []), .bool false, .bool false, .int .i64 0, .int .i64 0, .int .i64 0, .int .i64 0, .int .i64 0, .string (str []), .int .i64 0, .int .i64 0, .int .i64 0, .int .i64 0, .slice none 0 0] 60 :: .blk g372 [.int .u8 (((UInt8.ofNat (97 + k)).toNat : Nat) : Int)] 5 :: Tb gt rB :: .blk vp [.pointer (some ⟨gs, 0, none⟩), .pointer (some ⟨gt, 0, none⟩)] 26 :: T) w := s
                refine and_keep ⟨s.blkIs 3 rfl, trivial⟩ fun hS => ?_; clear ha; intro a ha
                refine hd_call (i := 10) ha rfl (by kernel_rfl) (by kernel_rfl) (by kernel_rfl) (Vm.p_at wv (by omega) _ _ _ s) ?_
                clear hS; rintro _ w ⟨rfl, s⟩
                refine ⟨_, rfl, and_keep ⟨s.blkIs 3 rfl, trivial⟩ fun hS => ?_⟩; clear ha; intro a ha
                replace s := s.at_ (j := 2) rfl
                replace s : St W (Tb gt rB :: .blk g522 [.string (str []), .string (str []), .bool false, .bool false, .int .i64 0, .int .i64 0, .int .i64 0, .int .i64 0, .int .i64 0, .string (str []), .int .i64 0, .int .i64 0, .int .i64 0, .int .i64 0, .slice none 0 0] 60 :: .blk g372 [.int .u8 (((UInt8.ofNat (97 + k)).toNat : Nat) : Int)] 5 :: .blk vp [.pointer (some ⟨gs, 0, none⟩), .pointer (some ⟨gt, 0, none⟩)] 26 :: T) w := s
                refine hd_call (i := 11) ha rfl (by kernel_rfl) (by kernel_rfl) (by kernel_rfl) (hg2 _ _ s) ?_
                clear hS; rintro _ w ⟨rfl, s⟩
                refine ⟨_, rfl, and_keep ⟨s.blkIs 3 rfl, trivial⟩ fun hS => ?_⟩; clear ha; intro a ha
                refine yk (i := 12) (.tuple #[F2, .int .i64 e2]) ha hS ?_
                refine yyk (i := 13) (F2) hS ?_
                refine yyk (i := 14) (.int .i64 e2) hS ?_; clear ha; intro a ha
                replace s := (((s.at_ (j := 3) rfl).at_ (j := 3) rfl).at_ (j := 2) rfl).at_ (j := 3) rfl
                replace s : St W (.blk g522 [.string (str []), .string (str []), .bool false, .bool false, .int .i64 0, .int .i64 0, .int .i64 0, .int .i64 0, .int .i64 0, .string (str []), .int .i64 0, .int .i64 0, .int .i64 0, .int .i64 0, .slice none 0 0] 60 :: Tb gt rB :: .blk g372 [.int .u8 (((UInt8.ofNat (97 + k)).toNat : Nat) : Int)] 5 :: .blk vp [.pointer (some ⟨gs, 0, none⟩), .pointer (some ⟨gt, 0, none⟩)] 26 :: T) w := s
                exact K _ _ _ (by kernel_rfl) ⟨g372, g522, (hpick ha), s⟩
               ·
                skip
                refine hat_call (i := 10) ha rfl (by kernel_rfl) (by kernel_rfl) (Vm.p_at wv (by omega) _ _ _ s) ?_
                clear hS; rintro _ w ⟨rfl, s⟩
                refine ⟨_, rfl, and_keep ⟨s.blkIs 3 rfl, trivial⟩ fun hS => ?_⟩; clear ha; intro a ha
                refine hd_ex (i := 6) ha rfl (by kernel_rfl) (by kernel_rfl) (ex_bstr (c := 1) (b := (UInt8.ofNat (97 + k))) 1 s rfl rfl (by kernel_rfl) Tryz.underlying101 Tryz.underlying5 Tryz.underlying9) ?_
                clear hS; rintro _ w ⟨rfl, s⟩
                replace s : St W (.blk g522 [.string (str []), .string (str []), .bool false, .bool false, .int .i64 0, .int .i64 0, .int .i64 0, .int .i64 0, .int .i64 0, .string (str []), .int .i64 0, .int .i64 0, .int .i64 0, .int .i64 0, .slice none 0 0] 60 :: .blk g372 [.int .u8 (((UInt8.ofNat (97 + k)).toNat : Nat) : Int)] 5 :: Tb gt rB :: .blk vp [.pointer (some ⟨gs, 0, none⟩), .pointer (some ⟨gt, 0, none⟩)] 26 :: T) w := s
                refine and_keep ⟨s.blkIs 3 rfl, trivial⟩ fun hS => ?_; clear ha; intro a ha
                replace s := s.at_ (j := 2) rfl
                replace s : St W (Tb gt rB :: .blk g522 [.string (str []), .string (str []), .bool false, .bool false, .int .i64 0, .int .i64 0, .int .i64 0, .int .i64 0, .int .i64 0, .string (str []), .int .i64 0, .int .i64 0, .int .i64 0, .int .i64 0, .slice none 0 0] 60 :: .blk g372 [.int .u8 (((UInt8.ofNat (97 + k)).toNat : Nat) : Int)] 5 :: .blk vp [.pointer (some ⟨gs, 0, none⟩), .pointer (some ⟨gt, 0, none⟩)] 26 :: T) w := s
                refine hd_call (i := 11) ha rfl (by kernel_rfl) (by kernel_rfl) (by kernel_rfl) (hg2 _ _ s) ?_
                clear hS; rintro _ w ⟨rfl, s⟩
                refine ⟨_, rfl, and_keep ⟨s.blkIs 3 rfl, trivial⟩ fun hS => ?_⟩; clear ha; intro a ha
                refine yk (i := 12) (.tuple #[F2, .int .i64 e2]) ha hS ?_
                refine yyk (i := 13) (F2) hS ?_
                refine yyk (i := 14) (.int .i64 e2) hS ?_; clear ha; intro a ha
                replace s := (((s.at_ (j := 3) rfl).at_ (j := 3) rfl).at_ (j := 2) rfl).at_ (j := 3) rfl
                replace s : St W (.blk g522 [.string (str []), .string (str []), .bool false, .bool false, .int .i64 0, .int .i64 0, .int .i64 0, .int .i64 0, .int .i64 0, .string (str []), .int .i64 0, .int .i64 0, .int .i64 0, .int .i64 0, .slice none 0 0] 60 :: Tb gt rB :: .blk g372 [.int .u8 (((UInt8.ofNat (97 + k)).toNat : Nat) : Int)] 5 :: .blk vp [.pointer (some ⟨gs, 0, none⟩), .pointer (some ⟨gt, 0, none⟩)] 26 :: T) w := s
                exact K _ _ _ (by kernel_rfl) ⟨g372, g522, (hpick ha), s⟩
             ·
              skip
              refine hat_ex (i := 15) ha rfl (by kernel_rfl) (ex_alloc [.string (str []), .string (str []), .bool false, .bool false, .int .i64 0, .int .i64 0, .int .i64 0, .int .i64 0, .int .i64 0, .string (str []), .int .i64 0, .int .i64 0, .int .i64 0, .int .i64 0, .slice none 0 0] s rfl (Tryz.zeroValue60 _) (by kernel_rfl)) ?_
              clear hS; rintro _ w ⟨g522, rfl, s⟩
              refine and_keep ⟨s.blkIs 3 rfl, trivial⟩ fun hS => ?_; clear ha; intro a ha
              refine Head.two (i := 6) (j := 8) (by kernel_rfl) ?_ ?_
              ·
               skip
               refine hat_ex (i := 6) ha rfl (by kernel_rfl) (ex_bstr (c := 1) (b := (UInt8.ofNat (97 + k))) 1 s rfl rfl (by kernel_rfl) Tryz.underlying101 Tryz.underlying5 Tryz.underlying9) ?_
               clear hS; rintro _ w ⟨rfl, s⟩
               replace s : St W (.blk g522 [.string (str []), .string (str []), .bool false, .bool false, .int .i64 0, .int .i64 0, .int .i64 0, .int .i64 0, .int .i64 0, .string (str []), .int .i64 0, .int .i64 0, .int .i64 0, .int .i64 0, .slice none 0 0] 60 :: .blk g372 [.int .u8 (((UInt8.ofNat (97 + k)).toNat : Nat) : Int)] 5 :: Tb gt rB :: .blk vp [.pointer (some ⟨gs, 0, none⟩), .pointer (some ⟨gt, 0, none⟩)] 26 :: T) w := s
               refine and_keep ⟨s.blkIs 3 rfl, trivial⟩ fun hS => ?_; clear ha; intro a ha
               refine hd_call (i := 8) ha rfl (by kernel_rfl) (by kernel_rfl) (by kernel_rfl) (Vm.p_txn i (by omega) _ _ _ s) ?_
               clear hS; rintro _ w ⟨rfl, s⟩
               refine ⟨_, rfl, and_keep ⟨s.blkIs 3 rfl, trivial⟩ fun hS => ?_⟩; clear ha; intro a ha
               refine hd_call (i := 10) ha rfl (by kernel_rfl) (by kernel_rfl) (by kernel_rfl) (Vm.p_at wv (by omega) _ _ _ s) ?_
               clear hS; rintro _ w ⟨rfl, s⟩
               refine ⟨_, rfl, and_keep ⟨s.blkIs 3 rfl, trivial⟩ fun hS => ?_⟩; clear ha; intro a ha
               replace s := s.at_ (j := 2) rfl
               replace s : St W (Tb gt rB :: .blk g522 [.string (str []), .string (str []), .bool false, .bool false, .int .i64 0, .int .i64 0, .int .i64 0, .int .i64 0, .int .i64 0, .string (str []), .int .i64 0, .int .i64 0, .int .i64 0, .int .i64 0, .slice none 0 0] 60 :: .blk g372 [.int .u8 (((UInt8.ofNat (97 + k)).toNat : Nat) : Int)] 5 :: .blk vp [.pointer (some ⟨gs, 0, none⟩), .pointer (some ⟨gt, 0, none⟩)] 26 :: T) w := s
               refine hd_call (i := 11) ha rfl (by kernel_rfl) (by kernel_rfl) (by kernel_rfl) (hg2 _ _ s) ?_
               clear hS; rintro _ w ⟨rfl, s⟩
               refine ⟨_, rfl, and_keep ⟨s.blkIs 3 rfl, trivial⟩ fun hS => ?_⟩; clear ha; intro a ha
               refine yk (i := 12) (.tuple #[F2, .int .i64 e2]) ha hS ?_
               refine yyk (i := 13) (F2) hS ?_
               refine yyk (i := 14) (.int .i64 e2) hS ?_; clear ha; intro a ha
               replace s := (((s.at_ (j := 3) rfl).at_ (j := 3) rfl).at_ (j := 2) rfl).at_ (j := 3) rfl
               replace s : St W (.blk g522 [.string (str []), .string (str []), .bool false, .bool false, .int .i64 0, .int .i64 0, .int .i64 0, .int .i64 0, .int .i64 0, .string (str []), .int .i64 0, .int .i64 0, .int .i64 0, .int .i64 0, .slice none 0 0] 60 :: Tb gt rB :: .blk g372 [.int .u8 (((UInt8.ofNat (97 + k)).toNat : Nat) : Int)] 5 :: .blk vp [.pointer (some ⟨gs, 0, none⟩), .pointer (some ⟨gt, 0, none⟩)] 26 :: T) w := s
               exact K _ _ _ (by kernel_rfl) ⟨g372, g522, (hpick ha), s⟩
              ·
               skip
               refine hat_call (i := 8) ha rfl (by kernel_rfl) (by kernel_rfl) (Vm.p_txn i (by omega) _ _ _ s) ?_
               clear hS; rintro _ w ⟨rfl, s⟩
               refine ⟨_, rfl, and_keep ⟨s.blkIs 3 rfl, trivial⟩ fun hS => ?_⟩; clear ha; intro a ha
               refine Head.two (i := 6) (j := 10) (by kernel_rfl) ?_ ?_
               ·
                skip
                refine hat_ex (i := 6) ha rfl (by kernel_rfl) (ex_bstr (c := 1) (b := (UInt8.ofNat (97 + k))) 1 s rfl rfl (by kernel_rfl) Tryz.underlying101 Tryz.underlying5 Tryz.underlying9) ?_
                clear hS; rintro _ w ⟨rfl, s⟩
                replace s : St W (.blk g522 [.string (str []), .string (str []), .bool false, .bool false, .int .i64 0, .int .i64 0, .int .i64 0, .int .i64 0, .int .i64 0, .string (str []), .int .i64 0, .int .i64 0, .int .i64 0, .int .i64 0, .slice none 0 0] 60 :: .blk g372 [.int .u8 (((UInt8.ofNat (97 + k)).toNat : Nat) : Int)] 5 :: Tb gt rB :: .blk vp [.pointer (some ⟨gs, 0, none⟩), .pointer (some ⟨gt, 0, none⟩)] 26 :: T) w := s
                refine and_keep ⟨s.blkIs 3 rfl, trivial⟩ fun hS => ?_; clear ha; intro a ha
                refine hd_call (i := 10) ha rfl (by kernel_rfl) (by kernel_rfl) (by kernel_rfl) (Vm.p_at wv (by omega) _ _ _ s) ?_
                clear hS; rintro _ w ⟨rfl, s⟩
                refine ⟨_, rfl, and_keep ⟨s.blkIs 3 rfl, trivial⟩ fun hS => ?_⟩; clear ha; intro a ha
                replace s := s.at_ (j := 2) rfl
                replace s : St W (Tb gt rB :: .blk g522 [.string (str []), .string (str []), .bool false, .bool false, .int .i64 0, .int .i64 0, .int .i64 0, .int .i64 0, .int .i64 0, .string (str []), .int .i64 0, .int .i64 0, .int .i64 0, .int .i64 0, .slice none 0 0] 60 :: .blk g372 [.int .u8 (((UInt8.ofNat (97 + k)).toNat : Nat) : Int)] 5 :: .blk vp [.pointer (some ⟨gs, 0, none⟩), .pointer (some ⟨gt, 0, none⟩)] 26 :: T) w := s
                refine hd_call (i := 11) ha rfl (by kernel_rfl) (by kernel_rfl) (by kernel_rfl) (hg2 _ _ s) ?_
                clear hS; rintro _ w ⟨rfl, s⟩
                refine ⟨_, rfl, and_keep ⟨s.blkIs 3 rfl, trivial⟩ fun hS => ?_⟩; clear ha; intro a ha
                refine yk (i := 12) (.tuple #[F2, .int .i64 e2]) ha hS ?_
                refine yyk (i := 13) (F2) hS ?_
                refine yyk (i := 14) (.int .i64 e2) hS ?_; clear ha; intro a ha
                replace s := (((s.at_ (j := 3) rfl).at_ (j := 3) rfl).at_ (j := 2) rfl).at_ (j := 3) rfl
                replace s : St W (.blk g522 [.string (str []), .string (str []), .bool false, .bool false, .int .i64 0, .int .i64 0, .int .i64 0, .int .i64 0, .int .i64 0, .string (str []), .int .i64 0, .int .i64 0, .int .i64 0, .int .i64 0, .slice none 0 0] 60 :: Tb gt rB :: .blk g372 [.int .u8 (((UInt8.ofNat (97 + k)).toNat : Nat) : Int)] 5 :: .blk vp [.pointer (some ⟨gs, 0, none⟩), .pointer (some ⟨gt, 0, none⟩)] 26 :: T) w := s
                exact K _ _ _ (by kernel_rfl) ⟨g372, g522, (hpick ha), s⟩
               ·
                skip
                refine hat_call (i := 10) ha rfl (by kernel_rfl) (by kernel_rfl) (Vm.p_at wv (by omega) _ _ _ s) ?_
                clear hS; rintro _ w ⟨rfl, s⟩
                refine ⟨_, rfl, and_keep ⟨s.blkIs 3 rfl, trivial⟩ fun hS => ?_⟩; clear ha; intro a ha
                refine hd_ex (i := 6) ha rfl (by kernel_rfl) (by kernel_rfl) (ex_bstr (c := 1) (b := (UInt8.ofNat (97 + k))) 1 s rfl rfl (by kernel_rfl) Tryz.underlying101 Tryz.underlying5 Tryz.underlying9) ?_
                clear hS; rintro _ w ⟨rfl, s⟩
                replace s : St W (.blk g522 [.string (str []), .string (str []), .bool false, .bool false, .int .i64 0, .int .i64 0, .int .i64 0, .int .i64 0, .int .i64 0, .string (str []), .int .i64 0, .int .i64 0, .int .i64 0, .int .i64 0, .slice none 0 0] 60 :: .blk g372 [.int .u8 (((UInt8.ofNat (97 + k)).toNat : Nat) : Int)] 5 :: Tb gt rB :: .blk vp [.pointer (some ⟨gs, 0, none⟩), .pointer (some ⟨gt, 0, none⟩)] 26 :: T) w := s
                refine and_keep ⟨s.blkIs 3 rfl, trivial⟩ fun hS => ?_; clear ha; intro a ha
                replace s := s.at_ (j := 2) rfl
                replace s : St W (Tb gt rB :: .blk g522 [.string (str []), .string (str []), .bool false, .bool false, .int .i64 0, .int .i64 0, .int .i64 0, .int .i64 0, .int .i64 0, .string (str []), .int .i64 0, .int .i64 0, .int .i64 0, .int .i64 0, .slice none 0 0] 60 :: .blk g372 [.int .u8 (((UInt8.ofNat (97 + k)).toNat : Nat) : Int)] 5 :: .blk vp [.pointer (some ⟨gs, 0, none⟩), .pointer (some ⟨gt, 0, none⟩)] 26 :: T) w := s
                refine hd_call (i := 11) ha rfl (by kernel_rfl) (by kernel_rfl) (by kernel_rfl) (hg2 _ _ s) ?_
                clear hS; rintro _ w ⟨rfl, s⟩
                refine ⟨_, rfl, and_keep ⟨s.blkIs 3 rfl, trivial⟩ fun hS => ?_⟩; clear ha; intro a ha
                refine yk (i := 12) (.tuple #[F2, .int .i64 e2]) ha hS ?_
                refine yyk (i := 13) (F2) hS ?_
                refine yyk (i := 14) (.int .i64 e2) hS ?_; clear ha; intro a ha
                replace s := (((s.at_ (j := 3) rfl).at_ (j := 3) rfl).at_ (j := 2) rfl).at_ (j := 3) rfl
                replace s : St W (.blk g522 [.string (str []), .string (str []), .bool false, .bool false, .int .i64 0, .int .i64 0, .int .i64 0, .int .i64 0, .int .i64 0, .string (str []), .int .i64 0, .int .i64 0, .int .i64 0, .int .i64 0, .slice none 0 0] 60 :: Tb gt rB :: .blk g372 [.int .u8 (((UInt8.ofNat (97 + k)).toNat : Nat) : Int)] 5 :: .blk vp [.pointer (some ⟨gs, 0, none⟩), .pointer (some ⟨gt, 0, none⟩)] 26 :: T) w := s
                exact K _ _ _ (by kernel_rfl) ⟨g372, g522, (hpick ha), s⟩
            ·
             skip
             refine hat_call (i := 8) ha rfl (by kernel_rfl) (by kernel_rfl) (Vm.p_txn i (by omega) _ _ _ s) ?_
             clear hS; rintro _ w ⟨rfl, s⟩
             refine ⟨_, rfl, and_keep ⟨s.blkIs 1 rfl, trivial⟩ fun hS => ?_⟩; clear ha; intro a ha
             refine Head.three (i := 5) (j := 10) (k := 15) (by kernel_rfl) ?_ ?_ ?_
             ·
              skip
              refine hat_ex (i := 5) ha rfl (by kernel_rfl) (ex_buildSlice elt101 _ zs101 [.int .u8 (((UInt8.ofNat (97 + k)).toNat : Nat) : Int)] s rfl (by kernel_rfl) (by decide)) ?_
              clear hS; rintro _ w ⟨g372, rfl, s⟩
              refine and_keep ⟨s.blkIs 2 rfl, trivial⟩ fun hS => ?_; clear ha; intro a ha
              refine Head.three (i := 6) (j := 10) (k := 15) (by kernel_rfl) ?_ ?_ ?_
              ·
               skip
               refine hat_ex (i := 6) ha rfl (by kernel_rfl) (ex_bstr (c := 1) (b := (UInt8.ofNat (97 + k))) 0 s rfl rfl (by kernel_rfl) Tryz.underlying101 Tryz.underlying5 Tryz.underlying9) ?_
               clear hS; rintro _ w ⟨rfl, s⟩
               replace s : St W (.blk g372 [.int .u8 (((UInt8.ofNat (97 + k)).toNat : Nat) : Int)] 5 :: Tb gt rB :: .blk vp [.pointer (some ⟨gs, 0, none⟩), .pointer (some ⟨gt, 0, none⟩)] 26 :: T) w := s
               refine and_keep ⟨s.blkIs 2 rfl, trivial⟩ fun hS => ?_; clear ha; intro a ha
               refine Head.two (i := 10) (j := 15) (by kernel_rfl) ?_ ?_
               ·
                skip
                refine hat_call (i := 10) ha rfl (by kernel_rfl) (by kernel_rfl) (Vm.p_at wv (by omega) _ _ _ s) ?_
                clear hS; rintro _ w ⟨rfl, s⟩
                refine ⟨_, rfl, and_keep ⟨s.blkIs 2 rfl, trivial⟩ fun hS => ?_⟩; clear ha; intro a ha
                refine Head.two (i := 11) (j := 15) (by kernel_rfl) ?_ ?_
                ·
                 skip
                 replace s := s.at_ (j := 1) rfl
                 replace s : St W (Tb gt rB :: .blk g372 [.int .u8 (((UInt8.ofNat (97 + k)).toNat : Nat) : Int)] 5 :: .blk vp [.pointer (some ⟨gs, 0, none⟩), .pointer (some ⟨gt, 0, none⟩)] 26 :: T) w := s
                 refine hat_call (i := 11) ha rfl (by kernel_rfl) (by kernel_rfl) (hg2 _ _ s) ?_
                 clear hS; rintro _ w ⟨rfl, s⟩
                 refine ⟨_, rfl, and_keep ⟨s.blkIs 2 rfl, trivial⟩ fun hS => ?_⟩; clear ha; intro a ha
                 refine yk (i := 12) (.tuple #[F2, .int .i64 e2]) ha hS ?_
                 refine yyk (i := 13) (F2) hS ?_
                 refine yyk (i := 14) (.int .i64 e2) hS ?_; clear ha; intro a ha
                 refine hd_ex (i := 15) ha rfl (by kernel_rfl) (by kernel_rfl) (ex_alloc [.string (str []), .string (str []), .bool false, .bool false, .int .i64 0, .int .i64 0, .int .i64 0, .int .i64 0, .int .i64 0, .string (str []), .int .i64 0, .int .i64 0, .int .i64 0, .int .i64 0, .slice none 0 0] s rfl (Tryz.zeroValue60 _) (by kernel_rfl)) ?_
                 clear hS; rintro _ w ⟨g522, rfl, s⟩
                 refine and_keep ⟨s.blkIs 3 rfl, trivial⟩ fun hS => ?_; clear ha; intro a ha
                 exact K _ _ _ (by kernel_rfl) ⟨g372, g522, (hpick ha), s⟩
                ·
                 skip
                 refine hat_ex (i := 15) ha rfl (by kernel_rfl) (ex_alloc [.string (str []), .string (str []), .bool false, .bool false, .int .i64 0, .int .i64 0, .int .i64 0, .int .i64 0, .int .i64 0, .string (str []), .int .i64 0, .int .i64 0, .int .i64 0, .int .i64 0, .slice none 0 0] s rfl (Tryz.zeroValue60 _) (by kernel_rfl)) ?_
                 clear hS; rintro _ w ⟨g522, rfl, s⟩
                 refine and_keep ⟨s.blkIs 3 rfl, trivial⟩ fun hS => ?_; clear ha; intro a ha
                 replace s := s.at_ (j := 2) rfl
                 replace s : St W (Tb gt rB :: .blk g522 [.string (str []), .string (str []), .bool false, .bool false, .int .i64 0, .int .i64 0, .int .i64 0, .int .i64 0, .int .i64 0, .string (str []), .int .i64 0, .int .i64 0, .int .i64 0, .int .i64 0, .slice none 0 0] 60 :: .blk g372 [.int .u8 (((UInt8.ofNat (97 + k)).toNat : Nat) : Int)] 5 :: .blk vp [.pointer (some ⟨gs, 0, none⟩), .pointer (some ⟨gt, 0, none⟩)] 26 :: T) w := s
                 refine hd_call (i := 11) ha rfl (by kernel_rfl) (by kernel_rfl) (by kernel_rfl) (hg2 _ _ s) ?_
                 clear hS; rintro _ w ⟨rfl, s⟩
                 refine ⟨_, rfl, and_keep ⟨s.blkIs 3 rfl, trivial⟩ fun hS => ?_⟩; clear ha; intro a ha
                 refine yk (i := 12) (.tuple #[F2, .int .i64 e2]) ha hS ?_
                 refine yyk (i := 13) (F2) hS ?_
                 refine yyk (i := 14) (.int .i64 e2) hS ?_; clear ha; intro a ha
                 replace s := (((s.at_ (j := 3) rfl).at_ (j := 3) rfl).at_ (j := 2) rfl).at_ (j := 3) rfl
                 replace s : St W (.blk g522 [.string (str []), .string (str []), .bool false, .bool false, .int .i64 0, .int .i64 0, .int .i64 0, .int .i64 0, .int .i64 0, .string (str []), .int .i64 0, .int .i64 0, .int .i64 0, .int .i64 0, .slice none 0 0] 60 :: Tb gt rB :: .blk g372 [.int .u8 (((UInt8.ofNat (97 + k)).toNat : Nat) : Int)] 5 :: .blk vp [.pointer (some ⟨gs, 0, none⟩), .pointer (some ⟨gt, 0, none⟩)] 26 :: T) w := s
                 exact K _ _ _ (by kernel_rfl) ⟨g372, g522, (hpick ha), s⟩
               ·
                skip
                refine hat_ex (i := 15) ha rfl (by kernel_rfl) (ex_alloc [.string (str []), .string (str []), .bool false, .bool false, .int .i64 0, .int .i64 0, .int .i64 0, .int .i64 0, .int .i64 0, .string (str []), .int .i64 0, .int .i64 0, .int .i64 0, .int .i64 0, .slice none 0 0] s rfl (Tryz.zeroValue60 _) (by kernel_rfl)) ?_
                clear hS; rintro _ w ⟨g522, rfl, s⟩
                refine and_keep ⟨s.blkIs 3 rfl, trivial⟩ fun hS => ?_; clear ha; intro a ha
                refine hd_call (i := 10) ha rfl (by kernel_rfl) (by kernel_rfl) (by kernel_rfl) (Vm.p_at wv (by omega) _ _ _ s) ?_
                clear hS; rintro _ w ⟨rfl, s⟩
                refine ⟨_, rfl, and_keep ⟨s.blkIs 3 rfl, trivial⟩ fun hS => ?_⟩; clear ha; intro a ha
                replace s := s.at_ (j := 2) rfl
                replace s : St W (Tb gt rB :: .blk g522 [.string (str []), .string (str []), .bool false, .bool false, .int .i64 0, .int .i64 0, .int .i64 0, .int .i64 0, .int .i64 0, .string (str []), .int .i64 0, .int .i64 0, .int .i64 0, .int .i64 0, .slice none 0 0] 60 :: .blk g372 [.int .u8 (((UInt8.ofNat (97 + k)).toNat : Nat) : Int)] 5 :: .blk vp [.pointer (some ⟨gs, 0, none⟩), .pointer (some ⟨gt, 0, none⟩)] 26 :: T) w := s
                refine hd_call (i := 11) ha rfl (by kernel_rfl) (by kernel_rfl) (by kernel_rfl) (hg2 _ _ s) ?_
                clear hS; rintro _ w ⟨rfl, s⟩
                refine ⟨_, rfl, and_keep ⟨s.blkIs 3 rfl, trivial⟩ fun hS => ?_⟩; clear ha; intro a ha
                refine yk (i := 12) (.tuple #[F2, .int .i64 e2]) ha hS ?_
                refine yyk (i := 13) (F2) hS ?_
                refine yyk (i := 14) (.int .i64 e2) hS ?_; clear ha; intro a ha
                replace s := (((s.at_ (j := 3) rfl).at_ (j := 3) rfl).at_ (j := 2) rfl).at_ (j := 3) rfl
                replace s : St W (.blk g522 [.string (str []), .string (str []), .bool false, .bool false, .int .i64 0, .int .i64 0, .int .i64 0, .int .i64 0, .int .i64 0, .string (str []), .int .i64 0, .int .i64 0, .int .i64 0, .int .i64 0, .slice none 0 0] 60 :: Tb gt rB :: .blk g372 [.int .u8 (((UInt8.ofNat (97 + k)).toNat : Nat) : Int)] 5 :: .blk vp [.pointer (some ⟨gs, 0, none⟩), .pointer (some ⟨gt, 0, none⟩)] 26 :: T) w := s
                exact K _ _ _ (by kernel_rfl) ⟨g372, g522, (hpick ha), s⟩
              ·
               skip
               refine hat_call (i := 10) ha rfl (by kernel_rfl) (by kernel_rfl) (Vm.p_at wv (by omega) _ _ _ s) ?_
               clear hS; rintro _ w ⟨rfl, s⟩
               refine ⟨_, rfl, and_keep ⟨s.blkIs 2 rfl, trivial⟩ fun hS => ?_⟩; clear ha; intro a ha
               refine Head.two (i := 6) (j := 15) (by kernel_rfl) ?_ ?_
               ·
                skip
                refine hat_ex (i := 6) ha rfl (by kernel_rfl) (ex_bstr (c := 1) (b := (UInt8.ofNat (97 + k))) 0 s rfl rfl (by kernel_rfl) Tryz.underlying101 Tryz.underlying5 Tryz.underlying9) ?_
                clear hS; rintro _ w ⟨rfl, s⟩
                replace s : St W (.blk g372 [.int .u8 (((UInt8.ofNat (97 + k)).toNat : Nat) : Int)] 5 :: Tb gt rB :: .blk vp [.pointer (some ⟨gs, 0, none⟩), .pointer (some ⟨gt, 0, none⟩)] 26 :: T) w := s
                refine and_keep ⟨s.blkIs 2 rfl, trivial⟩ fun hS => ?_; clear ha; intro a ha
                refine Head.two (i := 11) (j := 15) (by kernel_rfl) ?_ ?_
                ·
                 skip
                 replace s := s.at_ (j := 1) rfl
                 replace s : St W (Tb gt rB :: .blk g372 [.int .u8 (((UInt8.ofNat (97 + k)).toNat : Nat) : Int)] 5 :: .blk vp [.pointer (some ⟨gs, 0, none⟩), .pointer (some ⟨gt, 0, none⟩)] 26 :: T) w := s
                 refine hat_call (i := 11) ha rfl (by kernel_rfl) (by kernel_rfl) (hg2 _ _ s) ?_
                 clear hS; rintro _ w ⟨rfl, s⟩
                 refine ⟨_, rfl, and_keep ⟨s.blkIs 2 rfl, trivial⟩ fun hS => ?_⟩; clear ha; intro a ha
                 refine yk (i := 12) (.tuple #[F2, .int .i64 e2]) ha hS ?_
                 refine yyk (i := 13) (F2) hS ?_
                 refine yyk (i := 14) (.int .i64 e2) hS ?_; clear ha; intro a ha
                 refine hd_ex (i := 15) ha rfl (by kernel_rfl) (by kernel_rfl) (ex_alloc [.string (str []), .string (str []), .bool false, .bool false, .int .i64 0, .int .i64 0, .int .i64 0, .int .i64 0, .int .i64 0, .string (str []), .int .i64 0, .int .i64 0, .int .i64 0, .int .i64 0, .slice none 0 0] s rfl (Tryz.zeroValue60 _) (by kernel_rfl)) ?_
                 clear hS; rintro _ w ⟨g522, rfl, s⟩
                 refine and_keep ⟨s.blkIs 3 rfl, trivial⟩ fun hS => ?_; clear ha; intro a ha
                 exact K _ _ _ (by kernel_rfl) ⟨g372, g522, (hpick ha), s⟩
                ·
                 skip
                 refine hat_ex (i := 15) ha rfl (by kernel_rfl) (ex_alloc [.string (str []), .string (str []), .bool false, .bool false, .int .i64 0, .int .i64 0, .int .i64 0, .int .i64 0, .int .i64 0, .string (str []), .int .i64 0, .int .i64 0, .int .i64 0, .int .i64 0, .slice none 0 0] s rfl (Tryz.zeroValue60 _) (by kernel_rfl)) ?_
                 clear hS; rintro _ w ⟨g522, rfl, s⟩
                 refine and_keep ⟨s.blkIs 3 rfl, trivial⟩ fun hS => ?_; clear ha; intro a ha
                 replace s := s.at_ (j := 2) rfl
                 replace s : St W (Tb gt rB :: .blk g522 [.string (str []), .string (str []), .bool false, .bool false, .int .i64 0, .int .i64 0, .int .i64 0, .int .i64 0, .int .i64 0, .string (str []), .int .i64 0, .int .i64 0, .int .i64 0, .int .i64 0, .slice none 0 0] 60 :: .blk g372 [.int .u8 (((UInt8.ofNat (97 + k)).toNat : Nat) : Int)] 5 :: .blk vp [.pointer (some ⟨gs, 0, none⟩), .pointer (some ⟨gt, 0, none⟩)] 26 :: T) w := s
                 refine hd_call (i := 11) ha rfl (by kernel_rfl) (by kernel_rfl) (by kernel_rfl) (hg2 _ _ s) ?_
                 clear hS; rintro _ w ⟨rfl, s⟩
                 refine ⟨_, rfl, and_keep ⟨s.blkIs 3 rfl, trivial⟩ fun hS => ?_⟩; clear ha; intro a ha
                 refine yk (i := 12) (.tuple #[F2, .int .i64 e2]) ha hS ?_
                 refine yyk (i := 13) (F2) hS ?_
                 refine yyk (i := 14) (.int .i64 e2) hS ?_; clear ha; intro a ha
                 replace s := (((s.at_ (j := 3) rfl).at_ (j := 3) rfl).at_ (j := 2) rfl).at_ (j := 3) rfl
                 replace s : St W (.blk g522 [.string (str []), .string (str []), .bool false, .bool false, .int .i64 0, .int .i64 0, .int .i64 0, .int .i64 0, .int .i64 0, .string (str []), .int .i64 0, .int .i64 0, .int .i64 0, .int .i64 0, .slice none 0 0] 60 :: Tb gt rB :: .blk g372 [.int .u8 (((UInt8.ofNat (97 + k)).toNat : Nat) : Int)] 5 :: .blk vp [.pointer (some ⟨gs, 0, none⟩), .pointer (some ⟨gt, 0, none⟩)] 26 :: T) w := s
                 exact K _ _ _ (by kernel_rfl) ⟨g372, g522, (hpick ha), s⟩
               ·
                skip
                refine hat_ex (i := 15) ha rfl (by kernel_rfl) (ex_alloc [.string (str []), .string (str []), .bool false, .bool false, .int .i64 0, .int .i64 0, .int .i64 0, .int .i64 0, .int .i64 0, .string (str []), .int .i64 0, .int .i64 0, .int .i64 0, .int .i64 0, .slice none 0 0] s rfl (Tryz.zeroValue60 _) (by kernel_rfl)) ?_
                clear hS; rintro _ w ⟨g522, rfl, s⟩
                refine and_keep ⟨s.blkIs 3 rfl, trivial⟩ fun hS => ?_; clear ha; intro a ha
                refine hd_ex (i := 6) ha rfl (by kernel_rfl) (by kernel_rfl) (ex_bstr (c := 1) (b := (UInt8.ofNat (97 + k))) 1 s rfl rfl (by kernel_rfl) Tryz.underlying101 Tryz.underlying5 Tryz.underlying9) ?_
                clear hS; rintro _ w ⟨rfl, s⟩
                replace s : St W (.blk g522 [.string (str []), .string (str []), .bool false, .bool false, .int .i64 0, .int .i64 0, .int .i64 0, .int .i64 0, .int .i64 0, .string (str []), .int .i64 0, .int .i64 0, .int .i64 0, .int .i64 0, .slice none 0 0] 60 :: .blk g372 [.int .u8 (((UInt8.ofNat (97 + k)).toNat : Nat) : Int)] 5 :: Tb gt rB :: .blk vp [.pointer (some ⟨gs, 0, none⟩), .pointer (some ⟨gt, 0, none⟩)] 26 :: T) w := s
                refine and_keep ⟨s.blkIs 3 rfl, trivial⟩ fun hS => ?_; clear ha; intro a ha
                replace s := s.at_ (j := 2) rfl
                replace s : St W (Tb gt rB :: .blk g522 [.string (str []), .string (str []), .bool false, .bool false, .int .i64 0, .int .i64 0, .int .i64 0, .int .i64 0, .int .i64 0, .string (str []), .int .i64 0, .int .i64 0, .int .i64 0, .int .i64 0, .slice none 0 0] 60 :: .blk g372 [.int .u8 (((UInt8.ofNat (97 + k)).toNat : Nat) : Int)] 5 :: .blk vp [.pointer (some ⟨gs, 0, none⟩), .pointer (some ⟨gt, 0, none⟩)] 26 :: T) w := s
                refine hd_call (i := 11) ha rfl (by kernel_rfl) (by kernel_rfl) (by kernel_rfl) (hg2 _ _ s) ?_
                clear hS; rintro _ w ⟨rfl, s⟩
                refine ⟨_, rfl, and_keep ⟨s.blkIs 3 rfl, trivial⟩ fun hS => ?_⟩; clear ha; intro a ha
                refine yk (i := 12) (.tuple #[F2, .int .i64 e2]) ha hS ?_
                refine yyk (i := 13) (F2) hS ?_
                refine yyk (i := 14) (.int .i64 e2) hS ?_; clear ha; intro a ha
                replace s := (((s.at_ (j := 3) rfl).at_ (j := 3) rfl).at_ (j := 2) rfl).at_ (j := 3) rfl
                replace s : St W (.blk g522 [.string (str []), .string (str []), .bool false, .bool false, .int .i64 0, .int .i64 0, .int .i64 0, .int .i64 0, .int .i64 0, .string (str []), .int .i64 0, .int .i64 0, .int .i64 0, .int .i64 0, .slice none 0 0] 60 :: Tb gt rB :: .blk g372 [.int .u8 (((UInt8.ofNat (97 + k)).toNat : Nat) : Int)] 5 :: .blk vp [.pointer (some ⟨gs, 0, none⟩), .pointer (some ⟨gt, 0, none⟩)] 26 :: T) w := s
                exact K _ _ _ (by kernel_rfl) ⟨g372, g522, (hpick ha), s⟩
              ·
               skip
               refine hat_ex (i := 15) ha rfl (by kernel_rfl) (ex_alloc [.string (str []), .string (str []), .bool false, .bool false, .int .i64 0, .int .i64 0, .int .i64 0, .int .i64 0, .int .i64 0, .string (str []), .int .i64 0, .int .i64 0, .int .i64 0, .int .i64 0, .slice none 0 0] s rfl (Tryz.zeroValue60 _) (by kernel_rfl)) ?_
               clear hS; rintro _ w ⟨g522, rfl, s⟩
               refine and_keep ⟨s.blkIs 3 rfl, trivial⟩ fun hS => ?_; clear ha; intro a ha
               refine Head.two (i := 6) (j := 10) (by kernel_rfl) ?_ ?_
               ·
                skip
                refine hat_ex (i := 6) ha rfl (by kernel_rfl) (ex_bstr (c := 1) (b := (UInt8.ofNat (97 + k))) 1 s rfl rfl (by kernel_rfl) Tryz.underlying101 Tryz.underlying5 Tryz.underlying9) ?_
                clear hS; rintro _ w ⟨rfl, s⟩
                replace s : St W (.blk g522 [.string (str []), .string (str []), .bool false, .bool false, .int .i64 0, .int .i64 0, .int .i64 0, .int .i64 0, .int .i64 0, .string (str []), .int .i64 0, .int .i64 0, .int .i64 0, .int .i64 0, .slice none 0 0] 60 :: .blk g372 [.int .u8 (((UInt8.ofNat (97 + k)).toNat : Nat) : Int)] 5 :: Tb gt rB :: .blk vp [.pointer (some ⟨gs, 0, none⟩), .pointer (some ⟨gt, 0, none⟩)] 26 :: T) w := s
                refine and_keep ⟨s.blkIs 3 rfl, trivial⟩ fun hS => ?_; clear ha; intro a ha
                refine hd_call (i := 10) ha rfl (by kernel_rfl) (by kernel_rfl) (by kernel_rfl) (Vm.p_at wv (by omega) _ _ _ s) ?_
                clear hS; rintro _ w ⟨rfl, s⟩
                refine ⟨_, rfl, and_keep ⟨s.blkIs 3 rfl, trivial⟩ fun hS => ?_⟩; clear ha; intro a ha
                replace s := s.at_ (j := 2) rfl
                replace s : St W (Tb gt rB :: .blk g522 [.string (str []), .string (str []), .bool false, .bool false, .int .i64 0, .int .i64 0, .int .i64 0, .int .i64 0, .int .i64 0, .string (str []), .int .i64 0, .int .i64 0, .int .i64 0, .int .i64 0, .slice none 0 0] 60 :: .blk g372 [.int .u8 (((UInt8.ofNat (97 + k)).toNat : Nat) : Int)] 5 :: .blk vp [.pointer (some ⟨gs, 0, none⟩), .pointer (some ⟨gt, 0, none⟩)] 26 :: T) w := s
                refine hd_call (i := 11) ha rfl (by kernel_rfl) (by kernel_rfl) (by kernel_rfl) (hg2 _ _ s) ?_
                clear hS; rintro _ w ⟨rfl, s⟩
                refine ⟨_, rfl, and_keep ⟨s.blkIs 3 rfl, trivial⟩ fun hS => ?_⟩; clear ha; intro a ha
                refine yk (i := 12) (.tuple #[F2, .int .i64 e2]) ha hS ?_
                refine yyk (i := 13) (F2) hS ?_
                refine yyk (i := 14) (.int .i64 e2) hS ?_; clear ha; intro a ha
                replace s := (((s.at_ (j := 3) rfl).at_ (j := 3) rfl).at_ (j := 2) rfl).at_ (j := 3) rfl
                replace s : St W (.blk g522 [.string (str []), .string (str []), .bool false, .bool false, .int .i64 0, .int .i64 0, .int .i64 0, .int .i64 0, .int .i64 0, .string (str []), .int .i64 0, .int .i64 0, .int .i64 0, .int .i64 0, .slice none 0 0] 60 :: Tb gt rB :: .blk g372 [.int .u8 (((UInt8.ofNat (97 + k)).toNat : Nat) : Int)] 5 :: .blk vp [.pointer (some ⟨gs, 0, none⟩), .pointer (some ⟨gt, 0, none⟩)] 26 :: T) w := s
                exact K _ _ _ (by kernel_rfl) ⟨g372, g522, (hpick ha), s⟩
               ·
                skip
                refine hat_call (i := 10) ha rfl (by kernel_rfl) (by kernel_rfl) (Vm.p_at wv (by omega) _ _ _ s) ?_
                clear hS; rintro _ w ⟨rfl, s⟩
                refine ⟨_, rfl, and_keep ⟨s.blkIs 3 rfl, trivial⟩ fun hS => ?_⟩; clear ha; intro a ha
                refine hd_ex (i := 6) ha rfl (by kernel_rfl) (by kernel_rfl) (ex_bstr (c := 1) (b := (UInt8.ofNat (97 + k))) 1 s rfl rfl (by kernel_rfl) Tryz.underlying101 Tryz.underlying5 Tryz.underlying9) ?_
                clear hS; rintro _ w ⟨rfl, s⟩
                replace s : St W (.blk g522 [.string (str []), .string (str []), .bool false, .bool false, .int .i64 0, .int .i64 0, .int .i64 0, .int .i64 0, .int .i64 0, .string (str []), .int .i64 0, .int .i64 0, .int .i64 0, .int .i64 0, .slice none 0 0] 60 :: .blk g372 [.int .u8 (((UInt8.ofNat (97 + k)).toNat : Nat) : Int)] 5 :: Tb gt rB :: .blk vp [.pointer (some ⟨gs, 0, none⟩), .pointer (some ⟨gt, 0, none⟩)] 26 :: T) w := s
                refine and_keep ⟨s.blkIs 3 rfl, trivial⟩ fun hS => ?_; clear ha; intro a ha
                replace s := s.at_ (j := 2) rfl
                replace s : St W (Tb gt rB :: .blk g522 [.string (str []), .string (str []), .bool false, .bool false, .int .i64 0, .int .i64 0, .int .i64 0, .int .i64 0, .int .i64 0, .string (str []), .int .i64 0, .int .i64 0, .int .i64 0, .int .i64 0, .slice none 0 0] 60 :: .blk g372 [.int .u8 (((UInt8.ofNat (97 + k)).toNat : Nat) : Int)] 5 :: .blk vp [.pointer (some ⟨gs, 0, none⟩), .pointer (some ⟨gt, 0, none⟩)] 26 :: T) w := s
                refine hd_call (i := 11) ha rfl (by kernel_rfl) (by kernel_rfl) (by kernel_rfl) (hg2 _ _ s) ?_
                clear hS; rintro _ w ⟨rfl, s⟩
                refine ⟨_, rfl, and_keep ⟨s.blkIs 3 rfl, trivial⟩ fun hS => ?_⟩; clear ha; intro a ha
                refine yk (i := 12) (.tuple #[F2, .int .i64 e2]) ha hS ?_
                refine yyk (i := 13) (F2) hS ?_
                refine yyk (i := 14) (.int .i64 e2) hS ?_; clear ha; intro a ha
                replace s := (((s.at_ (j := 3) rfl).at_ (j := 3) rfl).at_ (j := 2) rfl).at_ (j := 3) rfl
                replace s : St W (.blk g522 [.string (str []), .string (str []), .bool false, .bool false, .int .i64 0, .int .i64 0, .int .i64 0, .int .i64 0, .int .i64 0, .string (str []), .int .i64 0, .int .i64 0, .int .i64 0, .int .i64 0, .slice none 0 0] 60 :: Tb gt rB :: .blk g372 [.int .u8 (((UInt8.ofNat (97 + k)).toNat : Nat) : Int)] 5 :: .blk vp [.pointer (some ⟨gs, 0, none⟩), .pointer (some ⟨gt, 0, none⟩)] 26 :: T) w := s
                exact K _ _ _ (by kernel_rfl) ⟨g372, g522, (hpick ha), s⟩
             ·
              skip
              refine hat_call (i := 10) ha rfl (by kernel_rfl) (by kernel_rfl) (Vm.p_at wv (by omega) _ _ _ s) ?_
              clear hS; rintro _ w ⟨rfl, s⟩
              refine ⟨_, rfl, and_keep ⟨s.blkIs 1 rfl, trivial⟩ fun hS => ?_⟩; clear ha; intro a ha
              refine Head.two (i := 5) (j := 15) (by kernel_rfl) ?_ ?_
              ·
               skip
               refine hat_ex (i := 5) ha rfl (by kernel_rfl) (ex_buildSlice elt101 _ zs101 [.int .u8 (((UInt8.ofNat (97 + k)).toNat : Nat) : Int)] s rfl (by kernel_rfl) (by decide)) ?_
               clear hS; rintro _ w ⟨g372, rfl, s⟩
               refine and_keep ⟨s.blkIs 2 rfl, trivial⟩ fun hS => ?_; clear ha; intro a ha
               refine Head.two (i := 6) (j := 15) (by kernel_rfl) ?_ ?_
               ·
                skip
                refine hat_ex (i := 6) ha rfl (by kernel_rfl) (ex_bstr (c := 1) (b := (UInt8.ofNat (97 + k))) 0 s rfl rfl (by kernel_rfl) Tryz.underlying101 Tryz.underlying5 Tryz.underlying9) ?_
                clear hS; rintro _ w ⟨rfl, s⟩
                replace s : St W (.blk g372 [.int .u8 (((UInt8.ofNat (97 + k)).toNat : Nat) : Int)] 5 :: Tb gt rB :: .blk vp [.pointer (some ⟨gs, 0, none⟩), .pointer (some ⟨gt, 0, none⟩)] 26 :: T) w := s
                refine and_keep ⟨s.blkIs 2 rfl, trivial⟩ fun hS => ?_; clear ha; intro a ha
                refine Head.two (i := 11) (j := 15) (by kernel_rfl) ?_ ?_
                ·
                 skip
                 replace s := s.at_ (j := 1) rfl
                 replace s : St W (Tb gt rB :: .blk g372 [.int .u8 (((UInt8.ofNat (97 + k)).toNat : Nat) : Int)] 5 :: .blk vp [.pointer (some ⟨gs, 0, none⟩), .pointer (some ⟨gt, 0, none⟩)] 26 :: T) w := s
                 refine hat_call (i := 11) ha rfl (by kernel_rfl) (by kernel_rfl) (hg2 _ _ s) ?_
                 clear hS; rintro _ w ⟨rfl, s⟩
                 refine ⟨_, rfl, and_keep ⟨s.blkIs 2 rfl, trivial⟩ fun hS => ?_⟩; clear ha; intro a ha
                 refine yk (i := 12) (.tuple #[F2, .int .i64 e2]) ha hS ?_
                 refine yyk (i := 13) (F2) hS ?_
                 refine yyk (i := 14) (.int .i64 e2) hS ?_; clear ha; intro a ha
                 refine hd_ex (i := 15) ha rfl (by kernel_rfl) (by kernel_rfl) (ex_alloc [.string (str []), .string (str []), .bool false, .bool false, .int .i64 0, .int .i64 0, .int .i64 0, .int .i64 0, .int .i64 0, .string (str []), .int .i64 0, .int .i64 0, .int .i64 0, .int .i64 0, .slice none 0 0] s rfl (Tryz.zeroValue60 _) (by kernel_rfl)) ?_
                 clear hS; rintro _ w ⟨g522, rfl, s⟩
                 refine and_keep ⟨s.blkIs 3 rfl, trivial⟩ fun hS => ?_; clear ha; intro a ha
                 exact K _ _ _ (by kernel_rfl) ⟨g372, g522, (hpick ha), s⟩
                ·
                 skip
                 refine hat_ex (i := 15) ha rfl (by kernel_rfl) (ex_alloc [.string (str []), .string (str []), .bool false, .bool false, .int .i64 0, .int .i64 0, .int .i64 0, .int .i64 0, .int .i64 0, .string (str []), .int .i64 0, .int .i64 0, .int .i64 0, .int .i64 0, .slice none 0 0] s rfl (Tryz.zeroValue60 _) (by kernel_rfl)) ?_
                 clear hS; rintro _ w ⟨g522, rfl, s⟩
                 refine and_keep ⟨s.blkIs 3 rfl, trivial⟩ fun hS => ?_; clear ha; intro a ha
                 replace s := s.at_ (j := 2) rfl
                 replace s : St W (Tb gt rB :: .blk g522 [.string (str []), .string (str []), .bool false, .bool false, .int .i64 0, .int .i64 0, .int .i64 0, .int .i64 0, .int .i64 0, .string (str []), .int .i64 0, .int .i64 0, .int .i64 0, .int .i64 0, .slice none 0 0] 60 :: .blk g372 [.int .u8 (((UInt8.ofNat (97 + k)).toNat : Nat) : Int)] 5 :: .blk vp [.pointer (some ⟨gs, 0, none⟩), .pointer (some ⟨gt, 0, none⟩)] 26 :: T) w := s
                 refine hd_call (i := 11) ha rfl (by kernel_rfl) (by kernel_rfl) (by kernel_rfl) (hg2 _ _ s) ?_
                 clear hS; rintro _ w ⟨rfl, s⟩
                 refine ⟨_, rfl, and_keep ⟨s.blkIs 3 rfl, trivial⟩ fun hS => ?_⟩; clear ha; intro a ha
                 refine yk (i := 12) (.tuple #[F2, .int .i64 e2]) ha hS ?_
                 refine yyk (i := 13) (F2) hS ?_
                 refine yyk (i := 14) (.int .i64 e2) hS ?_; clear ha; intro a ha
                 replace s := (((s.at_ (j := 3) rfl).at_ (j := 3) rfl).at_ (j := 2) rfl).at_ (j := 3) rfl
                 replace s : St W (.blk g522 [.string (str []), .string (str []), .bool false, .bool false, .int .i64 0, .int .i64 0, .int .i64 0, .int .i64 0, .int .i64 0, .string (str []), .int .i64 0, .int .i64 0, .int .i64 0, .int .i64 0, .slice none 0 0] 60 :: Tb gt rB :: .blk g372 [.int .u8 (((UInt8.ofNat (97 + k)).toNat : Nat) : Int)] 5 :: .blk vp [.pointer (some ⟨gs, 0, none⟩), .pointer (some ⟨gt, 0, none⟩)] 26 :: T) w := s
                 exact K _ _ _ (by kernel_rfl) ⟨g372, g522, (hpick ha), s⟩
               ·
                skip
                refine hat_ex (i := 15) ha rfl (by kernel_rfl) (ex_alloc [.string (str []), .string (str []), .bool false, .bool false, .int .i64 0, .int .i64 0, .int .i64 0, .int .i64 0, .int .i64 0, .string (str []), .int .i64 0, .int .i64 0, .int .i64 0, .int .i64 0, .slice none 0 0] s rfl (Tryz.zeroValue60 _) (by kernel_rfl)) ?_
                clear hS; rintro _ w ⟨g522, rfl, s⟩
                refine and_keep ⟨s.blkIs 3 rfl, trivial⟩ fun hS => ?_; clear ha; intro a ha
                refine hd_ex (i := 6) ha rfl (by kernel_rfl) (by kernel_rfl) (ex_bstr (c := 1) (b := (UInt8.ofNat (97 + k))) 1 s rfl rfl (by kernel_rfl) Tryz.underlying101 Tryz.underlying5 Tryz.underlying9) ?_
                clear hS; rintro _ w ⟨rfl, s⟩
                replace s : St W (.blk g522 [.string (str []), .string (str []), .bool false, .bool false, .int .i64 0, .int .i64 0, .int .i64 0, .int .i64 0, .int .i64 0, .string (str []), .int .i64 0, .int .i64 0, .int .i64 0, .int .i64 0, .slice none 0 0] 60 :: .blk g372 [.int .u8 (((UInt8.ofNat (97 + k)).toNat : Nat) : Int)] 5 :: Tb gt rB :: .blk vp [.pointer (some ⟨gs, 0, none⟩), .pointer (some ⟨gt, 0, none⟩)] 26 :: T) w := s
                refine and_keep ⟨s.blkIs 3 rfl, trivial⟩ fun hS => ?_; clear ha; intro a ha
                replace s := s.at_ (j := 2) rfl
                replace s : St W (Tb gt rB :: .blk g522 [.string (str []), .string (str []), .bool false, .bool false, .int .i64 0, .int .i64 0, .int .i64 0, .int .i64 0, .int .i64 0, .string (str []), .int .i64 0, .int .i64 0, .int .i64 0, .int .i64 0, .slice none 0 0] 60 :: .blk g372 [.int .u8 (((UInt8.ofNat (97 + k)).toNat : Nat) : Int)] 5 :: .blk vp [.pointer (some ⟨gs, 0, none⟩), .pointer (some ⟨gt, 0, none⟩)] 26 :: T) w := s
                refine hd_call (i := 11) ha rfl (by kernel_rfl) (by kernel_rfl) (by kernel_rfl) (hg2 _ _ s) ?_
                clear hS; rintro _ w ⟨rfl, s⟩
                refine ⟨_, rfl, and_keep ⟨s.blkIs 3 rfl, trivial⟩ fun hS => ?_⟩; clear ha; intro a ha
                refine yk (i := 12) (.tuple #[F2, .int .i64 e2]) ha hS ?_
                refine yyk (i := 13) (F2) hS ?_
                refine yyk (i := 14) (.int .i64 e2) hS ?_; clear ha; intro a ha
                replace s := (((s.at_ (j := 3) rfl).at_ (j := 3) rfl).at_ (j := 2) rfl).at_ (j := 3) rfl
                replace s : St W (.blk g522 [.string (str []), .string (str []), .bool false, .bool false, .int .i64 0, .int .i64 0, .int .i64 0, .int .i64 0, .int .i64 0, .string (str []), .int .i64 0, .int .i64 0, .int .i64 0, .int .i64 0, .slice none 0 0] 60 :: Tb gt rB :: .blk g372 [.int .u8 (((UInt8.ofNat (97 + k)).toNat : Nat) : Int)] 5 :: .blk vp [.pointer (some ⟨gs, 0, none⟩), .pointer (some ⟨gt, 0, none⟩)] 26 :: T) w := s
                exact K _ _ _ (by kernel_rfl) ⟨g372, g522, (hpick ha), s⟩
              ·
               skip
               refine hat_ex (i := 15) ha rfl (by kernel_rfl) (ex_alloc [.string (str []), .string (str []), .bool false, .bool false, .int .i64 0, .int .i64 0, .int .i64 0, .int .i64 0, .int .i64 0, .string (str []), .int .i64 0, .int .i64 0, .int .i64 0, .int .i64 0, .slice none 0 0] s rfl (Tryz.zeroValue60 _) (by kernel_rfl)) ?_
               clear hS; rintro _ w ⟨g522, rfl, s⟩
               refine and_keep ⟨s.blkIs 2 rfl, trivial⟩ fun hS => ?_; clear ha; intro a ha
               refine hd_ex (i := 5) ha rfl (by kernel_rfl) (by kernel_rfl) (ex_buildSlice elt101 _ zs101 [.int .u8 (((UInt8.ofNat (97 + k)).toNat : Nat) : Int)] s rfl (by kernel_rfl) (by decide)) ?_
               clear hS; rintro _ w ⟨g372, rfl, s⟩
               refine and_keep ⟨s.blkIs 3 rfl, trivial⟩ fun hS => ?_; clear ha; intro a ha
               refine hd_ex (i := 6) ha rfl (by kernel_rfl) (by kernel_rfl) (ex_bstr (c := 1) (b := (UInt8.ofNat (97 + k))) 0 s rfl rfl (by kernel_rfl) Tryz.underlying101 Tryz.underlying5 Tryz.underlying9) ?_
               clear hS; rintro _ w ⟨rfl, s⟩
               replace s : St W (.blk g372 [.int .u8 (((UInt8.ofNat (97 + k)).toNat : Nat) : Int)] 5 :: .blk g522 [.string (str []), .string (str []), .bool false, .bool false, .int .i64 0, .int .i64 0, .int .i64 0, .int .i64 0, .int .i64 0, .string (str []), .int .i64 0, .int .i64 0, .int .i64 0, .int .i64 0, .slice none 0 0] 60 :: Tb gt rB :: .blk vp [.pointer (some ⟨gs, 0, none⟩), .pointer (some ⟨gt, 0, none⟩)] 26 :: T) w := s
               refine and_keep ⟨s.blkIs 3 rfl, trivial⟩ fun hS => ?_; clear ha; intro a ha
               replace s := s.at_ (j := 2) rfl
               replace s : St W (Tb gt rB :: .blk g372 [.int .u8 (((UInt8.ofNat (97 + k)).toNat : Nat) : Int)] 5 :: .blk g522 [.string (str []), .string (str []), .bool false, .bool false, .int .i64 0, .int .i64 0, .int .i64 0, .int .i64 0, .int .i64 0, .string (str []), .int .i64 0, .int .i64 0, .int .i64 0, .int .i64 0, .slice none 0 0] 60 :: .blk vp [.pointer (some ⟨gs, 0, none⟩), .pointer (some ⟨gt, 0, none⟩)] 26 :: T) w := s
               refine hd_call (i := 11) ha rfl (by kernel_rfl) (by kernel_rfl) (by kernel_rfl) (hg2 _ _ s) ?_
               clear hS; rintro _ w ⟨rfl, s⟩
               refine ⟨_, rfl, and_keep ⟨s.blkIs 3 rfl, trivial⟩ fun hS => ?_⟩; clear ha; intro a ha
               refine yk (i := 12) (.tuple #[F2, .int .i64 e2]) ha hS ?_
               refine yyk (i := 13) (F2) hS ?_
               refine yyk (i := 14) (.int .i64 e2) hS ?_; clear ha; intro a ha
               replace s := (((s.at_ (j := 3) rfl).at_ (j := 2) rfl).at_ (j := 2) rfl).at_ (j := 3) rfl
               replace s : St W (.blk g522 [.string (str []), .string (str []), .bool false, .bool false, .int .i64 0, .int .i64 0, .int .i64 0, .int .i64 0, .int .i64 0, .string (str []), .int .i64 0, .int .i64 0, .int .i64 0, .int .i64 0, .slice none 0 0] 60 :: Tb gt rB :: .blk g372 [.int .u8 (((UInt8.ofNat (97 + k)).toNat : Nat) : Int)] 5 :: .blk vp [.pointer (some ⟨gs, 0, none⟩), .pointer (some ⟨gt, 0, none⟩)] 26 :: T) w := s
               exact K _ _ _ (by kernel_rfl) ⟨g372, g522, (hpick ha), s⟩
             ·
              skip
              refine hat_ex (i := 15) ha rfl (by kernel_rfl) (ex_alloc [.string (str []), .string (str []), .bool false, .bool false, .int .i64 0, .int .i64 0, .int .i64 0, .int .i64 0, .int .i64 0, .string (str []), .int .i64 0, .int .i64 0, .int .i64 0, .int .i64 0, .slice none 0 0] s rfl (Tryz.zeroValue60 _) (by kernel_rfl)) ?_
              clear hS; rintro _ w ⟨g522, rfl, s⟩
              refine and_keep ⟨s.blkIs 2 rfl, trivial⟩ fun hS => ?_; clear ha; intro a ha
              refine Head.two (i := 5) (j := 10) (by kernel_rfl) ?_ ?_
              ·
               skip
               refine hat_ex (i := 5) ha rfl (by kernel_rfl) (ex_buildSlice elt101 _ zs101 [.int .u8 (((UInt8.ofNat (97 + k)).toNat : Nat) : Int)] s rfl (by kernel_rfl) (by decide)) ?_
               clear hS; rintro _ w ⟨g372, rfl, s⟩
               refine and_keep ⟨s.blkIs 3 rfl, trivial⟩ fun hS => ?_; clear ha; intro a ha
               refine Head.two (i := 6) (j := 10) (by kernel_rfl) ?_ ?_
               ·
                skip
                refine hat_ex (i := 6) ha rfl (by kernel_rfl) (ex_bstr (c := 1) (b := (UInt8.ofNat (97 + k))) 0 s rfl rfl (by kernel_rfl) Tryz.underlying101 Tryz.underlying5 Tryz.underlying9) ?_
                clear hS; rintro _ w ⟨rfl, s⟩
                replace s : St W (.blk g372 [.int .u8 (((UInt8.ofNat (97 + k)).toNat : Nat) : Int)] 5 :: .blk g522 [.string (str []), .string (str []), .bool false, .bool false, .int .i64 0, .int .i64 0, .int .i64 0, .int .i64 0, .int .i64 0, .string (str []), .int .i64 0, .int .i64 0, .int .i64 0, .int .i64 0, .slice none 0 0] 60 :: Tb gt rB :: .blk vp [.pointer (some ⟨gs, 0, none⟩), .pointer (some ⟨gt, 0, none⟩)] 26 :: T) w := s
                refine and_keep ⟨s.blkIs 3 rfl, trivial⟩ fun hS => ?_; clear ha; intro a ha
                refine hd_call (i := 10) ha rfl (by kernel_rfl) (by kernel_rfl) (by kernel_rfl) (Vm.p_at wv (by omega) _ _ _ s) ?_
                clear hS; rintro _ w ⟨rfl, s⟩
                refine ⟨_, rfl, and_keep ⟨s.blkIs 3 rfl, trivial⟩ fun hS => ?_⟩; clear ha; intro a ha
                replace s := s.at_ (j := 2) rfl
                replace s : St W (Tb gt rB :: .blk g372 [.int .u8 (((UInt8.ofNat (97 + k)).toNat : Nat) : Int)] 5 :: .blk g522 [.string (str []), .string (str []), .bool false, .bool false, .int .i64 0, .int .i64 0, .int .i64 0, .int .i64 0, .int .i64 0, .string (str []), .int .i64 0, .int .i64 0, .int .i64 0, .int .i64 0, .slice none 0 0] 60 :: .blk vp [.pointer (some ⟨gs, 0, none⟩), .pointer (some ⟨gt, 0, none⟩)] 26 :: T) w := s
                refine hd_call (i := 11) ha rfl (by kernel_rfl) (by kernel_rfl) (by kernel_rfl) (hg2 _ _ s) ?_
                clear hS; rintro _ w ⟨rfl, s⟩
                refine ⟨_, rfl, and_keep ⟨s.blkIs 3 rfl, trivial⟩ fun hS => ?_⟩; clear ha; intro a ha
                refine yk (i := 12) (.tuple #[F2, .int .i64 e2]) ha hS ?_
                refine yyk (i := 13) (F2) hS ?_
                refine yyk (i := 14) (.int .i64 e2) hS ?_; clear ha; intro a ha
                replace s := (((s.at_ (j := 3) rfl).at_ (j := 2) rfl).at_ (j := 2) rfl).at_ (j := 3) rfl
                replace s : St W (.blk g522 [.string (str []), .string (str []), .bool false, .bool false, .int .i64 0, .int .i64 0, .int .i64 0, .int .i64 0, .int .i64 0, .string (str []), .int .i64 0, .int .i64 0, .int .i64 0, .int .i64 0, .slice none 0 0] 60 :: Tb gt rB :: .blk g372 [.int .u8 (((UInt8.ofNat (97 + k)).toNat : Nat) : Int)] 5 :: .blk vp [.pointer (some ⟨gs, 0, none⟩), .pointer (some ⟨gt, 0, none⟩)] 26 :: T) w := s
                exact K _ _ _ (by kernel_rfl) ⟨g372, g522, (hpick ha), s⟩
               ·
                skip
                refine hat_call (i := 10) ha rfl (by kernel_rfl) (by kernel_rfl) (Vm.p_at wv (by omega) _ _ _ s) ?_
                clear hS; rintro _ w ⟨rfl, s⟩
                refine ⟨_, rfl, and_keep ⟨s.blkIs 3 rfl, trivial⟩ fun hS => ?_⟩; clear ha; intro a ha
                refine hd_ex (i := 6) ha rfl (by kernel_rfl) (by kernel_rfl) (ex_bstr (c := 1) (b := (UInt8.ofNat (97 + k))) 0 s rfl rfl (by kernel_rfl) Tryz.underlying101 Tryz.underlying5 Tryz.underlying9) ?_
                clear hS; rintro _ w ⟨rfl, s⟩
                replace s : St W (.blk g372 [.int .u8 (((UInt8.ofNat (97 + k)).toNat : Nat) : Int)] 5 :: .blk g522 [.string (str []), .string (str []), .bool false, .bool false, .int .i64 0, .int .i64 0, .int .i64 0, .int .i64 0, .int .i64 0, .string (str []), .int .i64 0, .int .i64 0, .int .i64 0, .int .i64 0, .slice none 0 0] 60 :: Tb gt rB :: .blk vp [.pointer (some ⟨gs, 0, none⟩), .pointer (some ⟨gt, 0, none⟩)] 26 :: T) w := s
                refine and_keep ⟨s.blkIs 3 rfl, trivial⟩ fun hS => ?_; clear ha; intro a ha
                replace s := s.at_ (j := 2) rfl
                replace s : St W (Tb gt rB :: .blk g372 [.int .u8 (((UInt8.ofNat (97 + k)).toNat : Nat) : Int)] 5 :: .blk g522 [.string (str []), .string (str []), .bool false, .bool false, .int .i64 0, .int .i64 0, .int .i64 0, .int .i64 0, .int .i64 0, .string (str []), .int .i64 0, .int .i64 0, .int .i64 0, .int .i64 0, .slice none 0 0] 60 :: .blk vp [.pointer (some ⟨gs, 0, none⟩), .pointer (some ⟨gt, 0, none⟩)] 26 :: T) w := s
                refine hd_call (i := 11) ha rfl (by kernel_rfl) (by kernel_rfl) (by kernel_rfl) (hg2 _ _ s) ?_
                clear hS; rintro _ w ⟨rfl, s⟩
                refine ⟨_, rfl, and_keep ⟨s.blkIs 3 rfl, trivial⟩ fun hS => ?_⟩; clear ha; intro a ha
                refine yk (i := 12) (.tuple #[F2, .int .i64 e2]) ha hS ?_
                refine yyk (i := 13) (F2) hS ?_
                refine yyk (i := 14) (.int .i64 e2) hS ?_; clear ha; intro a ha
                replace s := (((s.at_ (j := 3) rfl).at_ (j := 2) rfl).at_ (j := 2) rfl).at_ (j := 3) rfl
                replace s : St W (.blk g522 [.string (str []), .string (str []), .bool false, .bool false, .int .i64 0, .int .i64 0, .int .i64 0, .int .i64 0, .int .i64 0, .string (str []), .int .i64 0, .int .i64 0, .int .i64 0, .int .i64 0, .slice none 0 0] 60 :: Tb gt rB :: .blk g372 [.int .u8 (((UInt8.ofNat (97 + k)).toNat : Nat) : Int)] 5 :: .blk vp [.pointer (some ⟨gs, 0, none⟩), .pointer (some ⟨gt, 0, none⟩)] 26 :: T) w := s
                exact K _ _ _ (by kernel_rfl) ⟨g372, g522, (hpick ha), s⟩
              ·
               skip
               refine hat_call (i := 10) ha rfl (by kernel_rfl) (by kernel_rfl) (Vm.p_at wv (by omega) _ _ _ s) ?_
               clear hS; rintro _ w ⟨rfl, s⟩
               refine ⟨_, rfl, and_keep ⟨s.blkIs 2 rfl, trivial⟩ fun hS => ?_⟩; clear ha; intro a ha
               refine hd_ex (i := 5) ha rfl (by kernel_rfl) (by kernel_rfl) (ex_buildSlice elt101 _ zs101 [.int .u8 (((UInt8.ofNat (97 + k)).toNat : Nat) : Int)] s rfl (by kernel_rfl) (by decide)) ?_
               clear hS; rintro _ w ⟨g372, rfl, s⟩
               refine and_keep ⟨s.blkIs 3 rfl, trivial⟩ fun hS => ?_; clear ha; intro a ha
               refine hd_ex (i := 6) ha rfl (by kernel_rfl) (by kernel_rfl) (ex_bstr (c := 1) (b := (UInt8.ofNat (97 + k))) 0 s rfl rfl (by kernel_rfl) Tryz.underlying101 Tryz.underlying5 Tryz.underlying9) ?_
               clear hS; rintro _ w ⟨rfl, s⟩
               replace s : St W (.blk g372 [.int .u8 (((UInt8.ofNat (97 + k)).toNat : Nat) : Int)] 5 :: .blk g522 [.string (str []), .string (str []), .bool false, .bool false, .int .i64 0, .int .i64 0, .int .i64 0, .int .i64 0, .int .i64 0, .string (str []), .int .i64 0, .int .i64 0, .int .i64 0, .int .i64 0, .slice none 0 0] 60 :: Tb gt rB :: .blk vp [.pointer (some ⟨gs, 0, none⟩), .pointer (some ⟨gt, 0, none⟩)] 26 :: T) w := s
               refine and_keep ⟨s.blkIs 3 rfl, trivial⟩ fun hS => ?_; clear ha; intro a ha
               replace s := s.at_ (j := 2) rfl
               replace s : St W (Tb gt rB :: .blk g372 [.int .u8 (((UInt8.ofNat (97 + k)).toNat : Nat) : Int)] 5 :: .blk g522 [.string (str []), .string (str []), .bool false, .bool false, .int .i64 0, .int .i64 0, .int .i64 0, .int .i64 0, .int .i64 0, .string (str []), .int .i64 0, .int .i64 0, .int .i64 0, .int .i64 0, .slice none 0 0] 60 :: .blk vp [.pointer (some ⟨gs, 0, none⟩), .pointer (some ⟨gt, 0, none⟩)] 26 :: T) w := s
               refine hd_call (i := 11) ha rfl (by kernel_rfl) (by kernel_rfl) (by kernel_rfl) (hg2 _ _ s) ?_
               clear hS; rintro _ w ⟨rfl, s⟩
               refine ⟨_, rfl, and_keep ⟨s.blkIs 3 rfl, trivial⟩ fun hS => ?_⟩; clear ha; intro a ha
               refine yk (i := 12) (.tuple #[F2, .int .i64 e2]) ha hS ?_
               refine yyk (i := 13) (F2) hS ?_
               refine yyk (i := 14) (.int .i64 e2) hS ?_; clear ha; intro a ha
               replace s := (((s.at_ (j := 3) rfl).at_ (j := 2) rfl).at_ (j := 2) rfl).at_ (j := 3) rfl
               replace s : St W (.blk g522 [.string (str []), .string (str []), .bool false, .bool false, .int .i64 0, .int .i64 0, .int .i64 0, .int .i64 0, .int .i64 0, .string (str []), .int .i64 0, .int .i64 0, .int .i64 0, .int .i64 0, .slice none 0 0] 60 :: Tb gt rB :: .blk g372 [.int .u8 (((UInt8.ofNat (97 + k)).toNat : Nat) : Int)] 5 :: .blk vp [.pointer (some ⟨gs, 0, none⟩), .pointer (some ⟨gt, 0, none⟩)] 26 :: T) w := s
               exact K _ _ _ (by kernel_rfl) ⟨g372, g522, (hpick ha), s⟩
            ·
             skip
             refine hat_ex (i := 15) ha rfl (by kernel_rfl) (ex_alloc [.string (str []), .string (str []), .bool false, .bool false, .int .i64 0, .int .i64 0, .int .i64 0, .int .i64 0, .int .i64 0, .string (str []), .int .i64 0, .int .i64 0, .int .i64 0, .int .i64 0, .slice none 0 0] s rfl (Tryz.zeroValue60 _) (by kernel_rfl)) ?_
             clear hS; rintro _ w ⟨g522, rfl, s⟩
             refine and_keep ⟨s.blkIs 2 rfl, trivial⟩ fun hS => ?_; clear ha; intro a ha
             refine Head.two (i := 5) (j := 8) (by kernel_rfl) ?_ ?_
             ·
              skip
              refine hat_ex (i := 5) ha rfl (by kernel_rfl) (ex_buildSlice elt101 _ zs101 [.int .u8 (((UInt8.ofNat (97 + k)).toNat : Nat) : Int)] s rfl (by kernel_rfl) (by decide)) ?_
              clear hS; rintro _ w ⟨g372, rfl, s⟩
              refine and_keep ⟨s.blkIs 3 rfl, trivial⟩ fun hS => ?_; clear ha; intro a ha
              refine Head.two (i := 6) (j := 8) (by kernel_rfl) ?_ ?_
              ·
               skip
               refine hat_ex (i := 6) ha rfl (by kernel_rfl) (ex_bstr (c := 1) (b := (UInt8.ofNat (97 + k))) 0 s rfl rfl (by kernel_rfl) Tryz.underlying101 Tryz.underlying5 Tryz.underlying9) ?_
               clear hS; rintro _ w ⟨rfl, s⟩
               replace s : St W (.blk g372 [.int .u8 (((UInt8.ofNat (97 + k)).toNat : Nat) : Int)] 5 :: .blk g522 [.string (str []), .string (str []), .bool false, .bool false, .int .i64 0, .int .i64 0, .int .i64 0, .int .i64 0, .int .i64 0, .string (str []), .int .i64 0, .int .i64 0, .int .i64 0, .int .i64 0, .slice none 0 0] 60 :: Tb gt rB :: .blk vp [.pointer (some ⟨gs, 0, none⟩), .pointer (some ⟨gt, 0, none⟩)] 26 :: T) w := s
               refine and_keep ⟨s.blkIs 3 rfl, trivial⟩ fun hS => ?_; clear ha; intro a ha
               refine hd_call (i := 8) ha rfl (by kernel_rfl) (by kernel_rfl) (by kernel_rfl) (Vm.p_txn i (by omega) _ _ _ s) ?_
               clear hS; rintro _ w ⟨rfl, s⟩
               refine ⟨_, rfl, and_keep ⟨s.blkIs 3 rfl, trivial⟩ fun hS => ?_⟩; clear ha; intro a ha
               refine hd_call (i := 10) ha rfl (by kernel_rfl) (by kernel_rfl) (by kernel_rfl) (Vm.p_at wv (by omega) _ _ _ s) ?_
               clear hS; rintro _ w ⟨rfl, s⟩
               refine ⟨_, rfl, and_keep ⟨s.blkIs 3 rfl, trivial⟩ fun hS => ?_⟩; clear ha; intro a ha
               replace s := s.at_ (j := 2) rfl
               replace s : St W (Tb gt rB :: .blk g372 [.int .u8 (((UInt8.ofNat (97 + k)).toNat : Nat) : Int)] 5 :: .blk g522 [.string (str []), .string (str []), .bool false, .bool false, .int .i64 0, .int .i64 0, .int .i64 0, .int .i64 0, .int .i64 0, .string (str []), .int .i64 0, .int .i64 0, .int .i64 0, .int .i64 0, .slice none 0 0] 60 :: .blk vp [.pointer (some ⟨gs, 0, none⟩), .pointer (some ⟨gt, 0, none⟩)] 26 :: T) w := s
               refine hd_call (i := 11) ha rfl (by kernel_rfl) (by kernel_rfl) (by kernel_rfl) (hg2 _ _ s) ?_
               clear hS; rintro _ w ⟨rfl, s⟩
               refine ⟨_, rfl, and_keep ⟨s.blkIs 3 rfl, trivial⟩ fun hS => ?_⟩; clear ha; intro a ha
               refine yk (i := 12) (.tuple #[F2, .int .i64 e2]) ha hS ?_
               refine yyk (i := 13) (F2) hS ?_
               refine yyk (i := 14) (.int .i64 e2) hS ?_; clear ha; intro a ha
               replace s := (((s.at_ (j := 3) rfl).at_ (j := 2) rfl).at_ (j := 2) rfl).at_ (j := 3) rfl
               replace s : St W (.blk g522 [.string (str []), .string (str []), .bool false, .bool false, .int .i64 0, .int .i64 0, .int .i64 0, .int .i64 0, .int .i64 0, .string (str []), .int .i64 0, .int .i64 0, .int .i64 0, .int .i64 0, .slice none 0 0] 60 :: Tb gt rB :: .blk g372 [.int .u8 (((UInt8.ofNat (97 + k)).toNat : Nat) : Int)] 5 :: .blk vp [.pointer (some ⟨gs, 0, none⟩), .pointer (some ⟨gt, 0, none⟩)] 26 :: T) w := s
               exact K _ _ _ (by kernel_rfl) ⟨g372, g522, (hpick ha), s⟩
              ·
               skip
               refine hat_call (i := 8) ha rfl (by kernel_rfl) (by kernel_rfl) (Vm.p_txn i (by omega) _ _ _ s) ?_
               clear hS; rintro _ w ⟨rfl, s⟩
               refine ⟨_, rfl, and_keep ⟨s.blkIs 3 rfl, trivial⟩ fun hS => ?_⟩; clear ha; intro a ha
               refine Head.two (i := 6) (j := 10) (by kernel_rfl) ?_ ?_
               ·
                skip
                refine hat_ex (i := 6) ha rfl (by kernel_rfl) (ex_bstr (c := 1) (b := (UInt8.ofNat (97 + k))) 0 s rfl rfl (by kernel_rfl) Tryz.underlying101 Tryz.underlying5 Tryz.underlying9) ?_
                clear hS; rintro _ w ⟨rfl, s⟩
                replace s : St W (.blk g372 [.int .u8 (((UInt8.ofNat (97 + k)).toNat : Nat) : Int)] 5 :: .blk g522 [.string (str []), .string (str []), .bool false, .bool false, .int .i64 0, .int .i64 0, .int .i64 0, .int .i64 0, .int .i64 0, .string (str []), .int .i64 0, .int .i64 0, .int .i64 0, .int .i64 0, .slice none 0 0] 60 :: Tb gt rB :: .blk vp [.pointer (some ⟨gs, 0, none⟩), .pointer (some ⟨gt, 0, none⟩)] 26 :: T) w := s
                refine and_keep ⟨s.blkIs 3 rfl, trivial⟩ fun hS => ?_; clear ha; intro a ha
                refine hd_call (i := 10) ha rfl (by kernel_rfl) (by kernel_rfl) (by kernel_rfl) (Vm.p_at wv (by omega) _ _ _ s) ?_
                clear hS; rintro _ w ⟨rfl, s⟩
                refine ⟨_, rfl, and_keep ⟨s.blkIs 3 rfl, trivial⟩ fun hS => ?_⟩; clear ha; intro a ha
                replace s := s.at_ (j := 2) rfl
                replace s : St W (Tb gt rB :: .blk g372 [.int .u8 (((UInt8.ofNat (97 + k)).toNat : Nat) : Int)] 5 :: .blk g522 [.string (str []), .string (str []), .bool false, .bool false, .int .i64 0, .int .i64 0, .int .i64 0, .int .i64 0, .int .i64 0, .string (str []), .int .i64 0, .int .i64 0, .int .i64 0, .int .i64 0, .slice none 0 0] 60 :: .blk vp [.pointer (some ⟨gs, 0, none⟩), .pointer (some ⟨gt, 0, none⟩)] 26 :: T) w := s
                refine hd_call (i := 11) ha rfl (by kernel_rfl) (by kernel_rfl) (by kernel_rfl) (hg2 _ _ s) ?_
                clear hS; rintro _ w ⟨rfl, s⟩
                refine ⟨_, rfl, and_keep ⟨s.blkIs 3 rfl, trivial⟩ fun hS => ?_⟩; clear ha; intro a ha
                refine yk (i := 12) (.tuple #[F2, .int .i64 e2]) ha hS ?_
                refine yyk (i := 13) (F2) hS ?_
                refine yyk (i := 14) (.int .i64 e2) hS ?_; clear ha; intro a ha
                replace s := (((s.at_ (j := 3) rfl).at_ (j := 2) rfl).at_ (j := 2) rfl).at_ (j := 3) rfl
                replace s : St W (.blk g522 [.string (str []), .string (str []), .bool false, .bool false, .int .i64 0, .int .i64 0, .int .i64 0, .int .i64 0, .int .i64 0, .string (str []), .int .i64 0, .int .i64 0, .int .i64 0, .int .i64 0, .slice none 0 0] 60 :: Tb gt rB :: .blk g372 [.int .u8 (((UInt8.ofNat (97 + k)).toNat : Nat) : Int)] 5 :: .blk vp [.pointer (some ⟨gs, 0, none⟩), .pointer (some ⟨gt, 0, none⟩)] 26 :: T) w := s
                exact K _ _ _ (by kernel_rfl) ⟨g372, g522, (hpick ha), s⟩
               ·
                skip
                refine hat_call (i := 10) ha rfl (by kernel_rfl) (by kernel_rfl) (Vm.p_at wv (by omega) _ _ _ s) ?_
                clear hS; rintro _ w ⟨rfl, s⟩
                refine ⟨_, rfl, and_keep ⟨s.blkIs 3 rfl, trivial⟩ fun hS => ?_⟩; clear ha; intro a ha
                refine hd_ex (i := 6) ha rfl (by kernel_rfl) (by kernel_rfl) (ex_bstr (c := 1) (b := (UInt8.ofNat (97 + k))) 0 s rfl rfl (by kernel_rfl) Tryz.underlying101 Tryz.underlying5 Tryz.underlying9) ?_
                clear hS; rintro _ w ⟨rfl, s⟩
                replace s : St W (.blk g372 [.int .u8 (((UInt8.ofNat (97 + k)).toNat : Nat) : Int)] 5 :: .blk g522 [.string (str []), .string (str []), .bool false, .bool false, .int .i64 0, .int .i64 0, .int .i64 0, .int .i64 0, .int .i64 0, .string (str []), .int .i64 0, .int .i64 0, .int .i64 0, .int .i64 0, .slice none 0 0] 60 :: Tb gt rB :: .blk vp [.pointer (some ⟨gs, 0, none⟩), .pointer (some ⟨gt, 0, none⟩)] 26 :: T) w := s
                refine and_keep ⟨s.blkIs 3 rfl, trivial⟩ fun hS => ?_; clear ha; intro a ha
                replace s := s.at_ (j := 2) rfl
                replace s : St W (Tb gt rB :: .blk g372 [.int .u8 (((UInt8.ofNat (97 + k)).toNat : Nat) : Int)] 5 :: .blk g522 [.string (str []), .string (str []), .bool false, .bool false, .int .i64 0, .int .i64 0, .int .i64 0, .int .i64 0, .int .i64 0, .string (str []), .int .i64 0, .int .i64 0, .int .i64 0, .int .i64 0, .slice none 0 0] 60 :: .blk vp [.pointer (some ⟨gs, 0, none⟩), .pointer (some ⟨gt, 0, none⟩)] 26 :: T) w := s
                refine hd_call (i := 11) ha rfl (by kernel_rfl) (by kernel_rfl) (by kernel_rfl) (hg2 _ _ s) ?_
                clear hS; rintro _ w ⟨rfl, s⟩
                refine ⟨_, rfl, and_keep ⟨s.blkIs 3 rfl, trivial⟩ fun hS => ?_⟩; clear ha; intro a ha
                refine yk (i := 12) (.tuple #[F2, .int .i64 e2]) ha hS ?_
                refine yyk (i := 13) (F2) hS ?_
                refine yyk (i := 14) (.int .i64 e2) hS ?_; clear ha; intro a ha
                replace s := (((s.at_ (j := 3) rfl).at_ (j := 2) rfl).at_ (j := 2) rfl).at_ (j := 3) rfl
                replace s : St W (.blk g522 [.string (str []), .string (str []), .bool false, .bool false, .int .i64 0, .int .i64 0, .int .i64 0, .int .i64 0, .int .i64 0, .string (str []), .int .i64 0, .int .i64 0, .int .i64 0, .int .i64 0, .slice none 0 0] 60 :: Tb gt rB :: .blk g372 [.int .u8 (((UInt8.ofNat (97 + k)).toNat : Nat) : Int)] 5 :: .blk vp [.pointer (some ⟨gs, 0, none⟩), .pointer (some ⟨gt, 0, none⟩)] 26 :: T) w := s
                exact K _ _ _ (by kernel_rfl) ⟨g372, g522, (hpick ha), s⟩
             ·
              skip
              refine hat_call (i := 8) ha rfl (by kernel_rfl) (by kernel_rfl) (Vm.p_txn i (by omega) _ _ _ s) ?_
              clear hS; rintro _ w ⟨rfl, s⟩
              refine ⟨_, rfl, and_keep ⟨s.blkIs 2 rfl, trivial⟩ fun hS => ?_⟩; clear ha; intro a ha
              refine Head.two (i := 5) (j := 10) (by kernel_rfl) ?_ ?_
              ·
               skip
               refine hat_ex (i := 5) ha rfl (by kernel_rfl) (ex_buildSlice elt101 _ zs101 [.int .u8 (((UInt8.ofNat (97 + k)).toNat : Nat) : Int)] s rfl (by kernel_rfl) (by decide)) ?_
               clear hS; rintro _ w ⟨g372, rfl, s⟩
               refine and_keep ⟨s.blkIs 3 rfl, trivial⟩ fun hS => ?_; clear ha; intro a ha
               refine Head.two (i := 6) (j := 10) (by kernel_rfl) ?_ ?_
               ·
                skip
                refine hat_ex (i := 6) ha rfl (by kernel_rfl) (ex_bstr (c := 1) (b := (UInt8.ofNat (97 + k))) 0 s rfl rfl (by kernel_rfl) Tryz.underlying101 Tryz.underlying5 Tryz.underlying9) ?_
                clear hS; rintro _ w ⟨rfl, s⟩
                replace s : St W (.blk g372 [.int .u8 (((UInt8.ofNat (97 + k)).toNat : Nat) : Int)] 5 :: .blk g522 [.string (str []), .string (str []), .bool false, .bool false, .int .i64 0, .int .i64 0, .int .i64 0, .int .i64 0, .int .i64 0, .string (str []), .int .i64 0, .int .i64 0, .int .i64 0, .int .i64 0, .slice none 0 0] 60 :: Tb gt rB :: .blk vp [.pointer (some ⟨gs, 0, none⟩), .pointer (some ⟨gt, 0, none⟩)] 26 :: T) w := s
                refine and_keep ⟨s.blkIs 3 rfl, trivial⟩ fun hS => ?_; clear ha; intro a ha
                refine hd_call (i := 10) ha rfl (by kernel_rfl) (by kernel_rfl) (by kernel_rfl) (Vm.p_at wv (by omega) _ _ _ s) ?_
                clear hS; rintro _ w ⟨rfl, s⟩
                refine ⟨_, rfl, and_keep ⟨s.blkIs 3 rfl, trivial⟩ fun hS => ?_⟩; clear ha; intro a ha
                replace s := s.at_ (j := 2) rfl
                replace s : St W (Tb gt rB :: .blk g372 [.int .u8 (((UInt8.ofNat (97 + k)).toNat : Nat) : Int)] 5 :: .blk g522 [.string (str []), .string (str []), .bool false, .bool false, .int .i64 0, .int .i64 0, .int .i64 0, .int .i64 0, .int .i64 0, .string (str []), .int .i64 0, .int .i64 0, .int .i64 0, .int .i64 0, .slice none 0 0] 60 :: .blk vp [.pointer (some ⟨gs, 0, none⟩), .pointer (some ⟨gt, 0, none⟩)] 26 :: T) w := s
                refine hd_call (i := 11) ha rfl (by kernel_rfl) (by kernel_rfl) (by kernel_rfl) (hg2 _ _ s) ?_
                clear hS; rintro _ w ⟨rfl, s⟩
                refine ⟨_, rfl, and_keep ⟨s.blkIs 3 rfl, trivial⟩ fun hS => ?_⟩; clear ha; intro a ha
                refine yk (i := 12) (.tuple #[F2, .int .i64 e2]) ha hS ?_
                refine yyk (i := 13) (F2) hS ?_
                refine yyk (i := 14) (.int .i64 e2) hS ?_; clear ha; intro a ha
                replace s := (((s.at_ (j := 3) rfl).at_ (j := 2) rfl).at_ (j := 2) rfl).at_ (j := 3) rfl
                replace s : St W (.blk g522 [.string (str []), .string (str []), .bool false, .bool false, .int .i64 0, .int .i64 0, .int .i64 0, .int .i64 0, .int .i64 0, .string (str []), .int .i64 0, .int .i64 0, .int .i64 0, .int .i64 0, .slice none 0 0] 60 :: Tb gt rB :: .blk g372 [.int .u8 (((UInt8.ofNat (97 + k)).toNat : Nat) : Int)] 5 :: .blk vp [.pointer (some ⟨gs, 0, none⟩), .pointer (some ⟨gt, 0, none⟩)] 26 :: T) w := s
                exact K _ _ _ (by kernel_rfl) ⟨g372, g522, (hpick ha), s⟩
               ·
                skip
                refine hat_call (i := 10) ha rfl (by kernel_rfl) (by kernel_rfl) (Vm.p_at wv (by omega) _ _ _ s) ?_
                clear hS; rintro _ w ⟨rfl, s⟩
                refine ⟨_, rfl, and_keep ⟨s.blkIs 3 rfl, trivial⟩ fun hS => ?_⟩; clear ha; intro a ha
                refine hd_ex (i := 6) ha rfl (by kernel_rfl) (by kernel_rfl) (ex_bstr (c := 1) (b := (UInt8.ofNat (97 + k))) 0 s rfl rfl (by kernel_rfl) Tryz.underlying101 Tryz.underlying5 Tryz.underlying9) ?_
                clear hS; rintro _ w ⟨rfl, s⟩
                replace s : St W (.blk g372 [.int .u8 (((UInt8.ofNat (97 + k)).toNat : Nat) : Int)] 5 :: .blk g522 [.string (str []), .string (str []), .bool false, .bool false, .int .i64 0, .int .i64 0, .int .i64 0, .int .i64 0, .int .i64 0, .string (str []), .int .i64 0, .int .i64 0, .int .i64 0, .int .i64 0, .slice none 0 0] 60 :: Tb gt rB :: .blk vp [.pointer (some ⟨gs, 0, none⟩), .pointer (some ⟨gt, 0, none⟩)] 26 :: T) w := s
                refine and_keep ⟨s.blkIs 3 rfl, trivial⟩ fun hS => ?_; clear ha; intro a ha
                replace s := s.at_ (j := 2) rfl
                replace s : St W (Tb gt rB :: .blk g372 [.int .u8 (((UInt8.ofNat (97 + k)).toNat : Nat) : Int)] 5 :: .blk g522 [.string (str []), .string (str []), .bool false, .bool false, .int .i64 0, .int .i64 0, .int .i64 0, .int .i64 0, .int .i64 0, .string (str []), .int .i64 0, .int .i64 0, .int .i64 0, .int .i64 0, .slice none 0 0] 60 :: .blk vp [.pointer (some ⟨gs, 0, none⟩), .pointer (some ⟨gt, 0, none⟩)] 26 :: T) w := s
                refine hd_call (i := 11) ha rfl (by kernel_rfl) (by kernel_rfl) (by kernel_rfl) (hg2 _ _ s) ?_
                clear hS; rintro _ w ⟨rfl, s⟩
                refine ⟨_, rfl, and_keep ⟨s.blkIs 3 rfl, trivial⟩ fun hS => ?_⟩; clear ha; intro a ha
                refine yk (i := 12) (.tuple #[F2, .int .i64 e2]) ha hS ?_
                refine yyk (i := 13) (F2) hS ?_
                refine yyk (i := 14) (.int .i64 e2) hS ?_; clear ha; intro a ha
                replace s := (((s.at_ (j := 3) rfl).at_ (j := 2) rfl).at_ (j := 2) rfl).at_ (j := 3) rfl
                replace s : St W (.blk g522 [.string (str []), .string (str []), .bool false, .bool false, .int .i64 0, .int .i64 0, .int .i64 0, .int .i64 0, .int .i64 0, .string (str []), .int .i64 0, .int .i64 0, .int .i64 0, .int .i64 0, .slice none 0 0] 60 :: Tb gt rB :: .blk g372 [.int .u8 (((UInt8.ofNat (97 + k)).toNat : Nat) : Int)] 5 :: .blk vp [.pointer (some ⟨gs, 0, none⟩), .pointer (some ⟨gt, 0, none⟩)] 26 :: T) w := s
                exact K _ _ _ (by kernel_rfl) ⟨g372, g522, (hpick ha), s⟩
              ·
               skip
               refine hat_call (i := 10) ha rfl (by kernel_rfl) (by kernel_rfl) (Vm.p_at wv (by omega) _ _ _ s) ?_
               clear hS; rintro _ w ⟨rfl, s⟩
               refine ⟨_, rfl, and_keep ⟨s.blkIs 2 rfl, trivial⟩ fun hS => ?_⟩; clear ha; intro a ha
               refine hd_ex (i := 5) ha rfl (by kernel_rfl) (by kernel_rfl) (ex_buildSlice elt101 _ zs101 [.int .u8 (((UInt8.ofNat (97 + k)).toNat : Nat) : Int)] s rfl (by kernel_rfl) (by decide)) ?_
               clear hS; rintro _ w ⟨g372, rfl, s⟩
               refine and_keep ⟨s.blkIs 3 rfl, trivial⟩ fun hS => ?_; clear ha; intro a ha
               refine hd_ex (i := 6) ha rfl (by kernel_rfl) (by kernel_rfl) (ex_bstr (c := 1) (b := (UInt8.ofNat (97 + k))) 0 s rfl rfl (by kernel_rfl) Tryz.underlying101 Tryz.underlying5 Tryz.underlying9) ?_
               clear hS; rintro _ w ⟨rfl, s⟩
               replace s : St W (.blk g372 [.int .u8 (((UInt8.ofNat (97 + k)).toNat : Nat) : Int)] 5 :: .blk g522 [.string (str []), .string (str []), .bool false, .bool false, .int .i64 0, .int .i64 0, .int .i64 0, .int .i64 0, .int .i64 0, .string (str []), .int .i64 0, .int .i64 0, .int .i64 0, .int .i64 0, .slice none 0 0] 60 :: Tb gt rB :: .blk vp [.pointer (some ⟨gs, 0, none⟩), .pointer (some ⟨gt, 0, none⟩)] 26 :: T) w := s
               refine and_keep ⟨s.blkIs 3 rfl, trivial⟩ fun hS => ?_; clear ha; intro a ha
               replace s := s.at_ (j := 2) rfl
               replace s : St W (Tb gt rB :: .blk g372 [.int .u8 (((UInt8.ofNat (97 + k)).toNat : Nat) : Int)] 5 :: .blk g522 [.string (str []), .string (str []), .bool false, .bool false, .int .i64 0, .int .i64 0, .int .i64 0, .int .i64 0, .int .i64 0, .string (str []), .int .i64 0, .int .i64 0, .int .i64 0, .int .i64 0, .slice none 0 0] 60 :: .blk vp [.pointer (some ⟨gs, 0, none⟩), .pointer (some ⟨gt, 0, none⟩)] 26 :: T) w := s
               refine hd_call (i := 11) ha rfl (by kernel_rfl) (by kernel_rfl) (by kernel_rfl) (hg2 _ _ s) ?_
               clear hS; rintro _ w ⟨rfl, s⟩
               refine ⟨_, rfl, and_keep ⟨s.blkIs 3 rfl, trivial⟩ fun hS => ?_⟩; clear ha; intro a ha
               refine yk (i := 12) (.tuple #[F2, .int .i64 e2]) ha hS ?_
               refine yyk (i := 13) (F2) hS ?_
               refine yyk (i := 14) (.int .i64 e2) hS ?_; clear ha; intro a ha
               replace s := (((s.at_ (j := 3) rfl).at_ (j := 2) rfl).at_ (j := 2) rfl).at_ (j := 3) rfl
               replace s : St W (.blk g522 [.string (str []), .string (str []), .bool false, .bool false, .int .i64 0, .int .i64 0, .int .i64 0, .int .i64 0, .int .i64 0, .string (str []), .int .i64 0, .int .i64 0, .int .i64 0, .int .i64 0, .slice none 0 0] 60 :: Tb gt rB :: .blk g372 [.int .u8 (((UInt8.ofNat (97 + k)).toNat : Nat) : Int)] 5 :: .blk vp [.pointer (some ⟨gs, 0, none⟩), .pointer (some ⟨gt, 0, none⟩)] 26 :: T) w := s
               exact K _ _ _ (by kernel_rfl) ⟨g372, g522, (hpick ha), s⟩
           clear ha s hS; rintro a w ⟨g372, g522, ha, s⟩
           have hS : (fun w => BlkIs vp [.pointer (some ⟨gs, 0, none⟩), .pointer (some ⟨gt, 0, none⟩)] w ∧ True) w := ⟨s.blkIs 3 rfl, trivial⟩
           subst hF2
           refine hd_exd (i := 16) ha rfl (by kernel_rfl) (by kernel_rfl) (ex_store (of_ := 0) 0 [.string (str [(UInt8.ofNat (97 + k))]), .string (str []), .bool b2, .bool false, .int .i64 z2, .int .i64 0, .int .i64 0, .int .i64 0, .int .i64 0, .string (str []), .int .i64 0, .int .i64 0, .int .i64 0, .int .i64 0, .slice none 0 0] s rfl rfl (by kernel_rfl) (by kernel_rfl) (Tryz.sizeOf60 _) rfl (by simp [Value.oneCell']) (Nat.le_of_ble_eq_true rfl)) ?_
           clear hS; rintro w s
           replace s : St W (.blk g522 [.string (str [(UInt8.ofNat (97 + k))]), .string (str []), .bool b2, .bool false, .int .i64 z2, .int .i64 0, .int .i64 0, .int .i64 0, .int .i64 0, .string (str []), .int .i64 0, .int .i64 0, .int .i64 0, .int .i64 0, .slice none 0 0] 60 :: Tb gt rB :: .blk g372 [.int .u8 (((UInt8.ofNat (97 + k)).toNat : Nat) : Int)] 5 :: .blk vp [.pointer (some ⟨gs, 0, none⟩), .pointer (some ⟨gt, 0, none⟩)] 26 :: T) w := s
           refine and_keep ⟨s.blkIs 3 rfl, trivial⟩ fun hS => ?_; clear ha; intro a ha
           refine Head.done (by kernel_rfl) ?_
           clear hS; simp only [List.drop_succ_cons, List.drop_zero]
           refine zv (.int .i64 e2) ha ?_; clear ha; intro a ha
           refine zn2 ?_
           rw [hT] at s
           replace s := ((((s.at_ (j := 3) rfl).at_ (j := 5) rfl).at_ (j := 3) rfl).at_ (j := 5) rfl).at_ (j := 4) rfl
           replace s : St W (.blk g522 [.string (str [(UInt8.ofNat (97 + k))]), .string (str []), .bool b2, .bool false, .int .i64 z2, .int .i64 0, .int .i64 0, .int .i64 0, .int .i64 0, .string (str []), .int .i64 0, .int .i64 0, .int .i64 0, .int .i64 0, .slice none 0 0] 60 :: .blk gr1 [.string (str [(UInt8.ofNat (97 + k))]), .string (str []), .bool b1, .bool false, .int .i64 z1, .int .i64 0, .int .i64 0, .int .i64 0, .int .i64 0, .string (str []), .int .i64 0, .int .i64 0, .int .i64 0, .int .i64 0, .slice none 0 0] 60 :: Tb gt rB :: Tb g2 rA :: .blk vp [.pointer (some ⟨gs, 0, none⟩), .pointer (some ⟨gt, 0, none⟩)] 26 :: L) w := s.keep 5 1
           exact ⟨g522, (hpick ha), s⟩
          ·
           clear ha s; rintro a w ⟨gr2, ha, s⟩
           refine zn1 ?_
           refine zv (.int .i64 e1) ha ?_
           refine zzv (.int .i64 e2) ?_
           refine zzw (.bool false) (run_known (show (e1 != e2) = false from bne_eq_false_iff_eq.2 hrel.1) (by kernel_rfl)) ?_
           refine zzv (.bool false) ?_
           refine zzv (.pointer (some ⟨gr1, 2, none⟩)) ?_
           refine zzw (.bool b1) (run_load1 (of_ := 2) (s.blkIs 1 rfl) rfl (by kernel_rfl) Tryz.isAgg4 rfl) ?_
           refine zzv (.pointer (some ⟨gr2, 2, none⟩)) ?_
           refine zzw (.bool b2) (run_load1 (of_ := 2) (s.blkIs 0 rfl) rfl (by kernel_rfl) Tryz.isAgg4 rfl) ?_
           refine zzw (.bool false) (run_known (show (b1 != b2) = false from bne_eq_false_iff_eq.2 hrel.2.1) (by kernel_rfl)) ?_
           refine zzv (.bool false) ?_
           refine zzv (.bool false) ?_
           refine zzv (.pointer (some ⟨gr1, 1, none⟩)) ?_
           refine zzw (.string (str [])) (run_load1 (of_ := 1) (s.blkIs 1 rfl) rfl (by kernel_rfl) Tryz.isAgg9 rfl) ?_
           refine zzv (.pointer (some ⟨gr2, 1, none⟩)) ?_
           refine zzw (.string (str [])) (run_load1 (of_ := 1) (s.blkIs 0 rfl) rfl (by kernel_rfl) Tryz.isAgg9 rfl) ?_
           refine zzw (.bool false) (run_known (show decide (([] : List UInt8) ≠ []) = false from by decide) (run_sneq (p := []) (q := []) rfl (by kernel_rfl) (by kernel_rfl) _)) ?_
           refine zzv (.bool false) ?_
           refine zzv (.bool false) ?_
           refine zzv (.int .i64 e1) ?_
           refine zzv (.bool (e1 == (121 : Int))) ?_
           refine zzv (.bool (e1 == (121 : Int))) ?_; clear ha; intro a ha
           rcases Bool.eq_false_or_eq_true (e1 == (121 : Int)) with hb | hb
           ·
            rw [hb] at ha; have hb_ := hb; replace hb := eq_of_beq hb
            have hz := hrel.2.2 hb
            subst hz
            refine zv (.pointer (some ⟨gr1, 4, none⟩)) ha ?_
            refine zzw (.agg #[.int .i64 z1, .int .i64 0]) (run_loadN (of_ := 4) [.int .i64 z1, .int .i64 0] (s.blkIs 1 rfl) rfl (by kernel_rfl) Tryz.isAgg33 Tryz.sizeOf33 rfl (Nat.le_of_ble_eq_true rfl)) ?_
            refine zzv (.pointer (some ⟨gr2, 4, none⟩)) ?_
            refine zzw (.agg #[.int .i64 z1, .int .i64 0]) (run_loadN (of_ := 4) [.int .i64 z1, .int .i64 0] (s.blkIs 0 rfl) rfl (by kernel_rfl) Tryz.isAgg33 Tryz.sizeOf33 rfl (Nat.le_of_ble_eq_true rfl)) ?_
            refine zzw (.bool false) (ne_stamp (z := z1) rfl (by kernel_rfl) (by kernel_rfl) _) ?_
            refine zzv (.bool false) ?_
            refine zzv (.bool false) ?_; clear ha; intro a ha
            refine zn2 ?_
            refine wp_false ha rfl (by kernel_rfl) ?_
            refine wp_skip ?_
            refine block_normal ?_
            refine then_normal ?_
            refine wp_region_lit ?_
            refine zv (.int .i64 ((k : Nat) : Int)) ha ?_
            refine zzw (.int .i64 ((k + 1 : Nat) : Int)) (run_arith (((k : Nat) : Int) + (1 : Int)) ((k + 1 : Nat) : Int) rfl (by kernel_rfl) (by kernel_rfl) (.inl ⟨rfl, rfl⟩) (by rw [wrap64_in (by omega)]; try omega) _) ?_
            refine zzv (.int .i64 ((k + 1 : Nat) : Int)) ?_; clear ha; intro a ha
            refine zn2 ?_
            replace s := ((s.at_ (j := 4) rfl).at_ (j := 4) rfl).at_ (j := 4) rfl
            replace s : St W (Tb gt rB :: Tb g2 rA :: .blk vp [.pointer (some ⟨gs, 0, none⟩), .pointer (some ⟨gt, 0, none⟩)] 26 :: L) w := s.keep 3 2
            exact ⟨k + 1, by omega, (hpick ha), s, by omega⟩
           ·
            rw [hb] at ha; have hb_ := hb; replace hb := ne_of_beq_false hb
            refine zp ha ?_
            refine zzp ?_
            refine zzp ?_
            refine zzp ?_
            refine zzp ?_
            refine zzv (.bool false) ?_
            refine zzv (.bool false) ?_; clear ha; intro a ha
            refine zn2 ?_
            refine wp_false ha rfl (by kernel_rfl) ?_
            refine wp_skip ?_
            refine block_normal ?_
            refine then_normal ?_
            refine wp_region_lit ?_
            refine zv (.int .i64 ((k : Nat) : Int)) ha ?_
            refine zzw (.int .i64 ((k + 1 : Nat) : Int)) (run_arith (((k : Nat) : Int) + (1 : Int)) ((k + 1 : Nat) : Int) rfl (by kernel_rfl) (by kernel_rfl) (.inl ⟨rfl, rfl⟩) (by rw [wrap64_in (by omega)]; try omega) _) ?_
            refine zzv (.int .i64 ((k + 1 : Nat) : Int)) ?_; clear ha; intro a ha
            refine zn2 ?_
            replace s := ((s.at_ (j := 4) rfl).at_ (j := 4) rfl).at_ (j := 4) rfl
            replace s : St W (Tb gt rB :: Tb g2 rA :: .blk vp [.pointer (some ⟨gs, 0, none⟩), .pointer (some ⟨gt, 0, none⟩)] 26 :: L) w := s.keep 3 2
            exact ⟨k + 1, by omega, (hpick ha), s, by omega⟩
        ·
         rw [hb] at ha; replace hb : ¬ (((k : Nat) : Int) < (2 : Int)) := of_decide_eq_false hb
         refine wp_exit ?_
         refine then_exit ?_
         refine then_exit ?_
         refine block_hit ?_
         refine block_normal ?_
         refine then_normal ?_
         refine wp_region_lit ?_
         refine zv (.int .i64 i) ha ?_
         refine zzw (.int .i64 (i + 1)) (run_arith (i + 1) (i + 1) rfl (by kernel_rfl) (by kernel_rfl) (.inl ⟨rfl, rfl⟩) (by rw [wrap64_in (by omega)]) _) ?_
         refine zzv (.int .i64 (i + 1)) ?_; clear ha; intro a ha
         refine zn2 ?_
         exact ⟨i + 1, by show (132 - (i + 1)).toNat < (132 - i).toNat; omega, (hpick ha), s, by omega⟩
      ·
       rw [hb] at ha; replace hb : ¬ (i ≤ (131 : Int)) := of_decide_eq_false hb
       refine wp_exit ?_
       refine then_exit ?_
       refine then_exit ?_
       refine block_hit ?_
       refine then_normal ?_
       refine zn1 ?_
       refine st_call ha (by kernel_rfl) (by kernel_rfl) ((Vm.pure_of Vm.awake_true) _ _ _ s) ?_
       rintro _ w ⟨rfl, s⟩
       refine ⟨_, rfl, ?_⟩; clear ha; intro a ha
       refine zv (.bool true) ha ?_; clear ha; intro a ha
       refine zn2 ?_
       refine wp_ret ?_
       refine ret_with (v := .bool true) ha (results_1 rfl ha (res_tmp (by kernel_rfl) (by kernel_rfl))) ?_
       replace s := s.tail.tail.tail
       replace s : St W (L) w := s
       exact ⟨rfl, s⟩

end Go.Proofs.YtagbmfdheppmoaaGreatDoor.B
