import Derived.Test.YtlkoppmenpeepaaB12
import Derived.Test.YtlkoppmenpeepaaSepH
namespace Go.Proofs.Ytlkoppmenpeepaa.B
open Go.RowKit Go.Maps Go.Sort Go.Shelf Go.Proofs.Ytlkoppmenpeepaa.Sep Go.Proofs.Ytlkoppmenpeepaa.P
set_option linter.unusedVariables false
set_option linter.unusedSimpArgs false

set_option maxRecDepth 100000 in
set_option maxHeartbeats 4000000 in
theorem ledges_true (W : World) (hW : W.drawn = 0) (L : List Chunk) (w : World) (A : Option Addr) (n c : Nat) (zs : List Int) (hr : Knows L fun w => Reads w 1 A n (zs.map (.int .i64))) (hl : zs.length = n) (hn : n ≤ 140737488351232) (p0 p1 : Int) (s : St W L w) :
    Calls Try.prog 6 #[.slice A n c, .agg #[.int .i64 p0, .int .i64 p1]] w fun e w' => e = .returned (.bool true) ∧ St W L w' := by
  refine enter_args (l := [.slice A n c, .agg #[.int .i64 p0, .int .i64 p1]]) Try.func6 rfl rfl (Nat.le_of_ble_eq_true rfl) ?_
  intro a ha; replace ha : Has a 137 [(0, .slice A n c), (1, .agg #[.int .i64 p0, .int .i64 p1])] := ha
  refine wp_seq ?_
  refine wp_region_lit ?_
  refine st_ex ha (by kernel_rfl) (ex_box [.int .i64 p0, .int .i64 p1] s rfl (by kernel_rfl)) ?_
  clear ha; rintro _ w a ⟨g1, rfl, s⟩ ha
  replace s : St W (.blk g1 [.int .i64 p0, .int .i64 p1] 51 :: L) w := s
  refine st_val (.bool false) ha (by kernel_rfl) (by kernel_rfl) ?_
  clear ha; intro a ha
  refine wpList_nil ?_
  refine then_normal ?_
  refine wp_seq ?_
  refine wp_seq ?_
  refine wp_region_lit ?_
  refine st_call ha (by kernel_rfl) (by kernel_rfl) (works_true W hW _ w s) ?_
  rintro _ w ⟨rfl, s⟩
  replace s : St W (.blk g1 [.int .i64 p0, .int .i64 p1] 51 :: L) w := s
  refine ⟨_, rfl, ?_⟩; clear ha; intro a ha
  refine st_val (.bool false) ha (by kernel_rfl) (by kernel_rfl) ?_
  clear ha; intro a ha
  refine wpList_nil ?_
  refine then_normal ?_
  refine wp_false ha rfl (by kernel_rfl) ?_
  refine wp_skip ?_
  refine then_normal ?_
  refine wp_seq ?_
  refine wp_region_lit ?_
  refine st_call ha (by kernel_rfl) (by kernel_rfl) (new_lob W _ w s) ?_
  rintro _ w ⟨g2, rfl, s⟩
  replace s : St W (Lob g2 [] :: .blk g1 [.int .i64 p0, .int .i64 p1] 51 :: L) w := s
  refine ⟨_, rfl, ?_⟩; clear ha; intro a ha
  refine st_val (.pointer (some ⟨g2, 0, none⟩)) ha (by kernel_rfl) (by kernel_rfl) ?_
  clear ha; intro a ha
  refine wpList_nil ?_
  refine then_normal ?_
  refine wp_between (fun a w => ∃ (g6 : Nat) (u v : Int), (0 ≤ u ∧ u < 5) ∧ (0 ≤ v ∧ v < 5) ∧ Has a 137 [(0, .slice A n c), (5, .pointer (some ⟨g2, 0, none⟩)), (6, .pointer (some ⟨g6, 0, none⟩))] ∧ St W (Lob g2 [] :: .blk g6 [.int .i64 ((1 : Int) + u), .int .i64 ((1 : Int) + v)] 51 :: L) w) ?_ ?_
  · skip
    refine wp_region_head 10 (fun w => BlkIs g1 [.int .i64 p0, .int .i64 p1] w ∧ True) (by kernel_rfl) (by decide) ?_
    replace s := s.drew; generalize _root_.Go.World.drew _ = w at s ⊢
    have hS : (fun w => BlkIs g1 [.int .i64 p0, .int .i64 p1] w ∧ True) w := ⟨s.blkIs 1 rfl, trivial⟩
    refine hd_val (i := 0) (.pointer (some ⟨g1, 0, none⟩)) ha rfl (by kernel_rfl) (fun _ _ _ h => h) (by kernel_rfl) (fun w hS => (by kernel_rfl)) hS ?_
    clear ha; intro a ha
    refine hd_val (i := 1) (.int .i64 p0) ha rfl (by kernel_rfl) (fun _ _ _ h => h) (by kernel_rfl) (fun w hS => run_load1 (of_ := 0) hS.1 rfl (by kernel_rfl) Try.isAgg3 rfl) hS ?_
    clear ha; intro a ha
    refine hd_val (i := 4) (.pointer (some ⟨g1, 1, none⟩)) ha rfl (by kernel_rfl) (fun _ _ _ h => h) (by kernel_rfl) (fun w hS => (by kernel_rfl)) hS ?_
    clear ha; intro a ha
    refine hd_val (i := 5) (.int .i64 p1) ha rfl (by kernel_rfl) (fun _ _ _ h => h) (by kernel_rfl) (fun w hS => run_load1 (of_ := 1) hS.1 rfl (by kernel_rfl) Try.isAgg3 rfl) hS ?_
    clear ha; intro a ha
    refine Head.two (i := 2) (j := 9) (by kernel_rfl) ?_ ?_
    · skip
      obtain ⟨u, hu⟩ : ∃ u : Int, p0 % 5 = u := ⟨_, rfl⟩
      have hub : 0 ≤ u ∧ u < 5 := by omega
      refine hat_call (i := 2) ha rfl (by kernel_rfl) (by kernel_rfl) (bring_to W _ w p0 5 u hu (by omega) (by omega) s) ?_
      clear hS; rintro _ w ⟨rfl, s⟩
      replace s : St W (Lob g2 [] :: .blk g1 [.int .i64 p0, .int .i64 p1] 51 :: L) w := s
      have hS : (fun w => BlkIs g1 [.int .i64 p0, .int .i64 p1] w ∧ True) w := ⟨s.blkIs 1 rfl, trivial⟩
      refine ⟨_, rfl, hS, ?_⟩; clear ha; intro a ha
      refine hd_val (i := 3) (.int .i64 ((1 : Int) + u)) ha rfl (by kernel_rfl) (fun _ _ _ h => h) (by kernel_rfl) (fun w hS => (run_arith ((1 : Int) + u) ((1 : Int) + u) rfl (by kernel_rfl) (by kernel_rfl) (.inl ⟨rfl, rfl⟩) (by rw [wrap64_in (by omega)]) _)) hS ?_
      clear ha; intro a ha
      refine Head.two (i := 6) (j := 9) (by kernel_rfl) ?_ ?_
      · skip
        obtain ⟨v, hv⟩ : ∃ v : Int, p1 % 5 = v := ⟨_, rfl⟩
        have hvb : 0 ≤ v ∧ v < 5 := by omega
        refine hat_call (i := 6) ha rfl (by kernel_rfl) (by kernel_rfl) (bring_to W _ w p1 5 v hv (by omega) (by omega) s) ?_
        clear hS; rintro _ w ⟨rfl, s⟩
        replace s : St W (Lob g2 [] :: .blk g1 [.int .i64 p0, .int .i64 p1] 51 :: L) w := s
        have hS : (fun w => BlkIs g1 [.int .i64 p0, .int .i64 p1] w ∧ True) w := ⟨s.blkIs 1 rfl, trivial⟩
        refine ⟨_, rfl, hS, ?_⟩; clear ha; intro a ha
        refine hd_val (i := 7) (.int .i64 ((1 : Int) + v)) ha rfl (by kernel_rfl) (fun _ _ _ h => h) (by kernel_rfl) (fun w hS => (run_arith ((1 : Int) + v) ((1 : Int) + v) rfl (by kernel_rfl) (by kernel_rfl) (.inl ⟨rfl, rfl⟩) (by rw [wrap64_in (by omega)]) _)) hS ?_
        clear ha; intro a ha
        refine hd_val (i := 8) (.agg #[.int .i64 ((1 : Int) + u), .int .i64 ((1 : Int) + v)]) ha rfl (by kernel_rfl) (fun _ _ _ h => h) (by kernel_rfl) (fun w hS => (by kernel_rfl)) hS ?_
        clear ha; intro a ha
        refine hd_ex (i := 9) ha rfl (by kernel_rfl) (by kernel_rfl) (ex_alloc [.int .i64 0, .int .i64 0] s rfl (Try.zeroValue51 _) (by kernel_rfl)) ?_
        clear hS; rintro _ w ⟨g3, rfl, s⟩
        replace s : St W (.blk g3 [.int .i64 0, .int .i64 0] 51 :: Lob g2 [] :: .blk g1 [.int .i64 p0, .int .i64 p1] 51 :: L) w := s
        have hS : (fun w => BlkIs g1 [.int .i64 p0, .int .i64 p1] w ∧ True) w := ⟨s.blkIs 2 rfl, trivial⟩
        refine ⟨hS, ?_⟩; clear ha; intro a ha
        refine Head.done (by kernel_rfl) ?_
        clear hS; simp only [List.drop_succ_cons, List.drop_zero]
        refine st_exd ha (by kernel_rfl) (ex_store (of_ := 0) 0 [.int .i64 ((1 : Int) + u), .int .i64 ((1 : Int) + v)] s rfl rfl (by kernel_rfl) (by kernel_rfl) (Try.sizeOf51 _) rfl (by simp [Value.oneCell']) (Nat.le_of_ble_eq_true rfl)) ?_
        clear ha; rintro w a s ha
        replace s : St W (.blk g3 [.int .i64 ((1 : Int) + u), .int .i64 ((1 : Int) + v)] 51 :: Lob g2 [] :: .blk g1 [.int .i64 p0, .int .i64 p1] 51 :: L) w := s
        refine wpList_nil ?_
        refine then_normal ?_
        replace s := s.at_ (j := 1) rfl
        replace s : St W (Lob g2 [] :: .blk g3 [.int .i64 ((1 : Int) + u), .int .i64 ((1 : Int) + v)] 51 :: .blk g1 [.int .i64 p0, .int .i64 p1] 51 :: L) w := s
        replace s : St W (Lob g2 [] :: .blk g3 [.int .i64 ((1 : Int) + u), .int .i64 ((1 : Int) + v)] 51 :: L) w := St.mid (A := [Lob g2 [], .blk g3 [.int .i64 ((1 : Int) + u), .int .i64 ((1 : Int) + v)] 51]) (B := [.blk g1 [.int .i64 p0, .int .i64 p1] 51]) s
        exact ⟨g3, u, v, by omega, by omega, (Has.cons ha (by kernel_rfl) (by kernel_rfl) (Has.cons ha (by kernel_rfl) (by kernel_rfl) (Has.cons ha (by kernel_rfl) (by kernel_rfl) (Has.nil ha)))), s⟩
      · skip
        refine hat_ex (i := 9) ha rfl (by kernel_rfl) (ex_alloc [.int .i64 0, .int .i64 0] s rfl (Try.zeroValue51 _) (by kernel_rfl)) ?_
        clear hS; rintro _ w ⟨g4, rfl, s⟩
        replace s : St W (.blk g4 [.int .i64 0, .int .i64 0] 51 :: Lob g2 [] :: .blk g1 [.int .i64 p0, .int .i64 p1] 51 :: L) w := s
        have hS : (fun w => BlkIs g1 [.int .i64 p0, .int .i64 p1] w ∧ True) w := ⟨s.blkIs 2 rfl, trivial⟩
        refine ⟨hS, ?_⟩; clear ha; intro a ha
        obtain ⟨v, hv⟩ : ∃ v : Int, p1 % 5 = v := ⟨_, rfl⟩
        have hvb : 0 ≤ v ∧ v < 5 := by omega
        refine hd_call (i := 6) ha rfl (by kernel_rfl) (by kernel_rfl) (by kernel_rfl) (bring_to W _ w p1 5 v hv (by omega) (by omega) s) ?_
        clear hS; rintro _ w ⟨rfl, s⟩
        replace s : St W (.blk g4 [.int .i64 0, .int .i64 0] 51 :: Lob g2 [] :: .blk g1 [.int .i64 p0, .int .i64 p1] 51 :: L) w := s
        have hS : (fun w => BlkIs g1 [.int .i64 p0, .int .i64 p1] w ∧ True) w := ⟨s.blkIs 2 rfl, trivial⟩
        refine ⟨_, rfl, hS, ?_⟩; clear ha; intro a ha
        refine hd_val (i := 7) (.int .i64 ((1 : Int) + v)) ha rfl (by kernel_rfl) (fun _ _ _ h => h) (by kernel_rfl) (fun w hS => (run_arith ((1 : Int) + v) ((1 : Int) + v) rfl (by kernel_rfl) (by kernel_rfl) (.inl ⟨rfl, rfl⟩) (by rw [wrap64_in (by omega)]) _)) hS ?_
        clear ha; intro a ha
        refine hd_val (i := 8) (.agg #[.int .i64 ((1 : Int) + u), .int .i64 ((1 : Int) + v)]) ha rfl (by kernel_rfl) (fun _ _ _ h => h) (by kernel_rfl) (fun w hS => (by kernel_rfl)) hS ?_
        clear ha; intro a ha
        refine Head.done (by kernel_rfl) ?_
        clear hS; simp only [List.drop_succ_cons, List.drop_zero]
        refine st_exd ha (by kernel_rfl) (ex_store (of_ := 0) 0 [.int .i64 ((1 : Int) + u), .int .i64 ((1 : Int) + v)] s rfl rfl (by kernel_rfl) (by kernel_rfl) (Try.sizeOf51 _) rfl (by simp [Value.oneCell']) (Nat.le_of_ble_eq_true rfl)) ?_
        clear ha; rintro w a s ha
        replace s : St W (.blk g4 [.int .i64 ((1 : Int) + u), .int .i64 ((1 : Int) + v)] 51 :: Lob g2 [] :: .blk g1 [.int .i64 p0, .int .i64 p1] 51 :: L) w := s
        refine wpList_nil ?_
        refine then_normal ?_
        replace s := s.at_ (j := 1) rfl
        replace s : St W (Lob g2 [] :: .blk g4 [.int .i64 ((1 : Int) + u), .int .i64 ((1 : Int) + v)] 51 :: .blk g1 [.int .i64 p0, .int .i64 p1] 51 :: L) w := s
        replace s : St W (Lob g2 [] :: .blk g4 [.int .i64 ((1 : Int) + u), .int .i64 ((1 : Int) + v)] 51 :: L) w := St.mid (A := [Lob g2 [], .blk g4 [.int .i64 ((1 : Int) + u), .int .i64 ((1 : Int) + v)] 51]) (B := [.blk g1 [.int .i64 p0, .int .i64 p1] 51]) s
        exact ⟨g4, u, v, by omega, by omega, (Has.cons ha (by kernel_rfl) (by kernel_rfl) (Has.cons ha (by kernel_rfl) (by kernel_rfl) (Has.cons ha (by kernel_rfl) (by kernel_rfl) (Has.nil ha)))), s⟩
    · skip
      refine hat_ex (i := 9) ha rfl (by kernel_rfl) (ex_alloc [.int .i64 0, .int .i64 0] s rfl (Try.zeroValue51 _) (by kernel_rfl)) ?_
      clear hS; rintro _ w ⟨g5, rfl, s⟩
      replace s : St W (.blk g5 [.int .i64 0, .int .i64 0] 51 :: Lob g2 [] :: .blk g1 [.int .i64 p0, .int .i64 p1] 51 :: L) w := s
      have hS : (fun w => BlkIs g1 [.int .i64 p0, .int .i64 p1] w ∧ True) w := ⟨s.blkIs 2 rfl, trivial⟩
      refine ⟨hS, ?_⟩; clear ha; intro a ha
      obtain ⟨u, hu⟩ : ∃ u : Int, p0 % 5 = u := ⟨_, rfl⟩
      have hub : 0 ≤ u ∧ u < 5 := by omega
      refine hd_call (i := 2) ha rfl (by kernel_rfl) (by kernel_rfl) (by kernel_rfl) (bring_to W _ w p0 5 u hu (by omega) (by omega) s) ?_
      clear hS; rintro _ w ⟨rfl, s⟩
      replace s : St W (.blk g5 [.int .i64 0, .int .i64 0] 51 :: Lob g2 [] :: .blk g1 [.int .i64 p0, .int .i64 p1] 51 :: L) w := s
      have hS : (fun w => BlkIs g1 [.int .i64 p0, .int .i64 p1] w ∧ True) w := ⟨s.blkIs 2 rfl, trivial⟩
      refine ⟨_, rfl, hS, ?_⟩; clear ha; intro a ha
      refine hd_val (i := 3) (.int .i64 ((1 : Int) + u)) ha rfl (by kernel_rfl) (fun _ _ _ h => h) (by kernel_rfl) (fun w hS => (run_arith ((1 : Int) + u) ((1 : Int) + u) rfl (by kernel_rfl) (by kernel_rfl) (.inl ⟨rfl, rfl⟩) (by rw [wrap64_in (by omega)]) _)) hS ?_
      clear ha; intro a ha
      obtain ⟨v, hv⟩ : ∃ v : Int, p1 % 5 = v := ⟨_, rfl⟩
      have hvb : 0 ≤ v ∧ v < 5 := by omega
      refine hd_call (i := 6) ha rfl (by kernel_rfl) (by kernel_rfl) (by kernel_rfl) (bring_to W _ w p1 5 v hv (by omega) (by omega) s) ?_
      clear hS; rintro _ w ⟨rfl, s⟩
      replace s : St W (.blk g5 [.int .i64 0, .int .i64 0] 51 :: Lob g2 [] :: .blk g1 [.int .i64 p0, .int .i64 p1] 51 :: L) w := s
      have hS : (fun w => BlkIs g1 [.int .i64 p0, .int .i64 p1] w ∧ True) w := ⟨s.blkIs 2 rfl, trivial⟩
      refine ⟨_, rfl, hS, ?_⟩; clear ha; intro a ha
      refine hd_val (i := 7) (.int .i64 ((1 : Int) + v)) ha rfl (by kernel_rfl) (fun _ _ _ h => h) (by kernel_rfl) (fun w hS => (run_arith ((1 : Int) + v) ((1 : Int) + v) rfl (by kernel_rfl) (by kernel_rfl) (.inl ⟨rfl, rfl⟩) (by rw [wrap64_in (by omega)]) _)) hS ?_
      clear ha; intro a ha
      refine hd_val (i := 8) (.agg #[.int .i64 ((1 : Int) + u), .int .i64 ((1 : Int) + v)]) ha rfl (by kernel_rfl) (fun _ _ _ h => h) (by kernel_rfl) (fun w hS => (by kernel_rfl)) hS ?_
      clear ha; intro a ha
      refine Head.done (by kernel_rfl) ?_
      clear hS; simp only [List.drop_succ_cons, List.drop_zero]
      refine st_exd ha (by kernel_rfl) (ex_store (of_ := 0) 0 [.int .i64 ((1 : Int) + u), .int .i64 ((1 : Int) + v)] s rfl rfl (by kernel_rfl) (by kernel_rfl) (Try.sizeOf51 _) rfl (by simp [Value.oneCell']) (Nat.le_of_ble_eq_true rfl)) ?_
      clear ha; rintro w a s ha
      replace s : St W (.blk g5 [.int .i64 ((1 : Int) + u), .int .i64 ((1 : Int) + v)] 51 :: Lob g2 [] :: .blk g1 [.int .i64 p0, .int .i64 p1] 51 :: L) w := s
      refine wpList_nil ?_
      refine then_normal ?_
      replace s := s.at_ (j := 1) rfl
      replace s : St W (Lob g2 [] :: .blk g5 [.int .i64 ((1 : Int) + u), .int .i64 ((1 : Int) + v)] 51 :: .blk g1 [.int .i64 p0, .int .i64 p1] 51 :: L) w := s
      replace s : St W (Lob g2 [] :: .blk g5 [.int .i64 ((1 : Int) + u), .int .i64 ((1 : Int) + v)] 51 :: L) w := St.mid (A := [Lob g2 [], .blk g5 [.int .i64 ((1 : Int) + u), .int .i64 ((1 : Int) + v)] 51]) (B := [.blk g1 [.int .i64 p0, .int .i64 p1] 51]) s
      exact ⟨g5, u, v, by omega, by omega, (Has.cons ha (by kernel_rfl) (by kernel_rfl) (Has.cons ha (by kernel_rfl) (by kernel_rfl) (Has.cons ha (by kernel_rfl) (by kernel_rfl) (Has.nil ha)))), s⟩
  · clear ha s; rintro a w ⟨g6, u, v, hub, hvb, ha, s⟩
    refine wp_seq ?_
    refine wp_region_lit ?_
    refine st_val (.bool false) ha (by kernel_rfl) (by kernel_rfl) ?_
    clear ha; intro a ha
    refine wpList_nil ?_
    refine then_normal ?_
    refine wp_seq ?_
    refine wp_seq ?_
    refine wp_region_lit ?_
    refine st_val (.int .i64 0) ha (by kernel_rfl) (by kernel_rfl) ?_
    clear ha; intro a ha
    refine wpList_nil ?_
    refine then_normal ?_
    refine wp_block ?_
    refine wp_loopG (G := (Nat × List Wt × Bool)) (fun ⟨k, l, b⟩ a w => Has a 137 [(0, .slice A n c), (5, .pointer (some ⟨g2, 0, none⟩)), (6, .pointer (some ⟨g6, 0, none⟩)), (7, .bool b), (8, .int .i64 ((k : Nat) : Int))] ∧ St W (Lob g2 l :: .blk g6 [.int .i64 ((1 : Int) + u), .int .i64 ((1 : Int) + v)] 51 :: L) w ∧ (k ≤ 60 ∧ Fine l ∧ Upto k l ∧ (b = true ↔ ∃ x ∈ l, pr x = (1 + u, 1 + v)))) (fun ⟨k, l, b⟩ => 60 - k) (0, [], false) ?_ ?_
    · exact ⟨(Has.cons ha (by kernel_rfl) (by kernel_rfl) (Has.cons ha (by kernel_rfl) (by kernel_rfl) (Has.cons ha (by kernel_rfl) (by kernel_rfl) (Has.cons ha (by kernel_rfl) (by kernel_rfl) (Has.cons ha (by kernel_rfl) (by kernel_rfl) (Has.nil ha)))))), s, ⟨Nat.zero_le _, Fine.nil, ⟨by simp, by simp⟩, by simp⟩⟩
    · clear ha s; rintro ⟨k, l, b⟩ a w ⟨ha, s, hp⟩
      refine wp_seq ?_
      refine wp_seq ?_
      refine wp_region_lit ?_
      refine st_val (.int .i64 ((k : Nat) : Int)) ha (by kernel_rfl) (by kernel_rfl) ?_
      clear ha; intro a ha
      refine st_val (.slice A n c) ha (by kernel_rfl) (by kernel_rfl) ?_
      clear ha; intro a ha
      refine st_val (.int .i64 ((n : Nat) : Int)) ha (by kernel_rfl) (by kernel_rfl) ?_
      clear ha; intro a ha
      refine st_val (.bool (decide (((k : Nat) : Int) < ((n : Nat) : Int)))) ha (by kernel_rfl) (by kernel_rfl) ?_
      clear ha; intro a ha
      refine st_val (.bool (decide (((k : Nat) : Int) < ((n : Nat) : Int)))) ha (by kernel_rfl) (by kernel_rfl) ?_
      clear ha; intro a ha
      rcases Bool.eq_false_or_eq_true (decide (((k : Nat) : Int) < ((n : Nat) : Int))) with hb | hb
      · rw [hb] at ha; replace hb : (((k : Nat) : Int) < ((n : Nat) : Int)) := of_decide_eq_true hb
        have hpf := hp.2.1
        have hpu := hp.2.2.1
        have hpb := hp.2.2.2
        obtain ⟨z, hz⟩ : ∃ z, zs[k]? = some z := ⟨_, List.getElem?_eq_getElem (by omega)⟩
        obtain ⟨ad, hA⟩ := Reads.addr (hr _ s.sat.tail.tail) (by omega)
        subst hA
        refine st_val (.int .i64 ((k : Nat) : Int)) ha (by kernel_rfl) (by kernel_rfl) ?_
        clear ha; intro a ha
        refine st_val (.bool (decide (((k : Nat) : Int) < (60 : Int)))) ha (by kernel_rfl) (by kernel_rfl) ?_
        clear ha; intro a ha
        refine st_val (.bool (decide (((k : Nat) : Int) < (60 : Int)))) ha (by kernel_rfl) (by kernel_rfl) ?_
        clear ha; intro a ha
        refine wpList_nil ?_
        refine then_normal ?_
        refine wp_part (decide (((k : Nat) : Int) < (60 : Int))) ha rfl (by kernel_rfl) (fun hb => ?_) (fun hb => ?_)
        · rw [hb] at ha; replace hb : (((k : Nat) : Int) < (60 : Int)) := of_decide_eq_true hb
          refine wp_skip ?_
          refine then_normal ?_
          refine wp_seq ?_
          refine wp_block ?_
          refine wp_seq ?_
          refine wp_region_lit ?_
          refine st_val (.slice (some ad) n c) ha (by kernel_rfl) (by kernel_rfl) ?_
          clear ha; intro a ha
          refine st_val (.int .i64 ((k : Nat) : Int)) ha (by kernel_rfl) (by kernel_rfl) ?_
          clear ha; intro a ha
          refine st_val (.pointer (some (ad.add (k * 1)))) ha (by kernel_rfl) (run_indexAddr' (kd := .i64) (i := ((k : Nat) : Int)) (n := n) (c := c) k rfl Try.underlying55 Try.sizeOf3 (by kernel_rfl) (by kernel_rfl) rfl (by first | assumption | omega) _) ?_
          clear ha; intro a ha
          refine st_val (.int .i64 z) ha (by kernel_rfl) (run_loadRow1 (m := k) ((hr _ s.sat.tail.tail)) rfl (by kernel_rfl) Try.isAgg3 (by rw [List.getElem?_map, hz]; rfl)) ?_
          clear ha; intro a ha
          obtain ⟨q, hq⟩ : ∃ q : Int, z % 25 = q := ⟨_, rfl⟩
          have hqb : 0 ≤ q ∧ q < 25 := by omega
          refine st_call ha (by kernel_rfl) (by kernel_rfl) (bring_to W _ w z 25 q hq (by omega) (by omega) s) ?_
          rintro _ w ⟨rfl, s⟩
          replace s : St W (Lob g2 l :: .blk g6 [.int .i64 ((1 : Int) + u), .int .i64 ((1 : Int) + v)] 51 :: L) w := s
          refine ⟨_, rfl, ?_⟩; clear ha; intro a ha
          refine st_val (.int .i64 q) ha (by kernel_rfl) (by kernel_rfl) ?_
          clear ha; intro a ha
          refine wpList_nil ?_
          refine then_normal ?_
          refine wp_seq ?_
          refine wp_region_lit ?_
          refine st_val (.int .i64 q) ha (by kernel_rfl) (by kernel_rfl) ?_
          clear ha; intro a ha
          refine st_val (.int .i64 (q / (5 : Int))) ha (by kernel_rfl) (run_quo (p := q) (q := (5 : Int)) (q / (5 : Int)) rfl (by kernel_rfl) (by kernel_rfl) (by omega) (by rw [Int.tdiv_eq_ediv_of_nonneg (by omega)]; exact wrap64_in (by omega)) _) ?_
          clear ha; intro a ha
          refine st_val (.int .i64 ((1 : Int) + (q / (5 : Int)))) ha (by kernel_rfl) (run_arith ((1 : Int) + (q / (5 : Int))) ((1 : Int) + (q / (5 : Int))) rfl (by kernel_rfl) (by kernel_rfl) (.inl ⟨rfl, rfl⟩) (by rw [wrap64_in (by omega)]) _) ?_
          clear ha; intro a ha
          refine st_val (.int .i64 q) ha (by kernel_rfl) (by kernel_rfl) ?_
          clear ha; intro a ha
          refine st_val (.int .i64 (q % (5 : Int))) ha (by kernel_rfl) (run_rem (p := q) (q := (5 : Int)) (q % (5 : Int)) rfl (by kernel_rfl) (by kernel_rfl) (by omega) (by rw [Int.tmod_eq_emod_of_nonneg (by omega)]) _) ?_
          clear ha; intro a ha
          refine st_val (.int .i64 ((1 : Int) + (q % (5 : Int)))) ha (by kernel_rfl) (run_arith ((1 : Int) + (q % (5 : Int))) ((1 : Int) + (q % (5 : Int))) rfl (by kernel_rfl) (by kernel_rfl) (.inl ⟨rfl, rfl⟩) (by rw [wrap64_in (by omega)]) _) ?_
          clear ha; intro a ha
          refine st_val (.int .i64 ((1 : Int) + (q / (5 : Int)))) ha (by kernel_rfl) (by kernel_rfl) ?_
          clear ha; intro a ha
          refine st_val (.int .i64 ((1 : Int) + (q % (5 : Int)))) ha (by kernel_rfl) (by kernel_rfl) ?_
          clear ha; intro a ha
          refine wpList_nil ?_
          refine then_normal ?_
          refine wp_seq ?_
          refine wp_seq ?_
          refine wp_region_lit ?_
          refine st_val (.pointer (some ⟨g2, 0, none⟩)) ha (by kernel_rfl) (by kernel_rfl) ?_
          clear ha; intro a ha
          refine st_val (.int .i64 ((k : Nat) : Int)) ha (by kernel_rfl) (by kernel_rfl) ?_
          clear ha; intro a ha
          refine st_val (.int .i64 ((k + 1 : Nat) : Int)) ha (by kernel_rfl) (run_arith (((k : Nat) : Int) + (1 : Int)) ((k + 1 : Nat) : Int) rfl (by kernel_rfl) (by kernel_rfl) (.inl ⟨rfl, rfl⟩) (by rw [wrap64_in (by omega)]; try omega) _) ?_
          clear ha; intro a ha
          refine st_val (.int .i64 ((1 : Int) + (q / (5 : Int)))) ha (by kernel_rfl) (by kernel_rfl) ?_
          clear ha; intro a ha
          refine st_val (.int .i64 ((1 : Int) + (q % (5 : Int)))) ha (by kernel_rfl) (by kernel_rfl) ?_
          clear ha; intro a ha
          refine st_call ha (by kernel_rfl) (by kernel_rfl) (wait_any W _ w ((k + 1 : Nat) : Int) ((1 : Int) + (q / (5 : Int))) ((1 : Int) + (q % (5 : Int))) [107] s) ?_
          rintro _ w ⟨rfl, s⟩
          replace s : St W (Lob g2 l :: .blk g6 [.int .i64 ((1 : Int) + u), .int .i64 ((1 : Int) + v)] 51 :: L) w := s
          refine ⟨_, rfl, ?_⟩; clear ha; intro a ha
          by_cases hab : (1 + q / 5 : Int) = 1 + q % 5
          · have hadd := add_eq (x := (⟨((k + 1 : Nat) : Int), [107], 1 + q / 5, 1 + q % 5⟩ : Wt)) (l := l) hab
            refine st_call ha (by kernel_rfl) (by kernel_rfl) (add_is W _ w g2 l (⟨((k + 1 : Nat) : Int), [107], 1 + q / 5, 1 + q % 5⟩ : Wt) 2 l hadd.1 hadd.2 hpf s) ?_
            rintro _ w ⟨rfl, s⟩
            replace s : St W (Lob g2 l :: .blk g6 [.int .i64 ((1 : Int) + u), .int .i64 ((1 : Int) + v)] 51 :: L) w := s
            refine ⟨_, rfl, ?_⟩; clear ha; intro a ha
            refine st_val (.bool false) ha (by kernel_rfl) (by kernel_rfl) ?_
            clear ha; intro a ha
            refine st_val (.int .i64 ((1 : Int) + (q / (5 : Int)))) ha (by kernel_rfl) (by kernel_rfl) ?_
            clear ha; intro a ha
            refine st_val (.int .i64 ((1 : Int) + (q % (5 : Int)))) ha (by kernel_rfl) (by kernel_rfl) ?_
            clear ha; intro a ha
            refine st_val (.bool false) ha (by kernel_rfl) (run_known (show (((1 : Int) + (q / (5 : Int))) != ((1 : Int) + (q % (5 : Int)))) = false from bne_eq_false_iff_eq.2 hab) (by kernel_rfl)) ?_
            clear ha; intro a ha
            refine st_val (.bool false) ha (by kernel_rfl) (by kernel_rfl) ?_
            clear ha; intro a ha
            refine wpList_nil ?_
            refine then_normal ?_
            refine wp_false ha rfl (by kernel_rfl) ?_
            refine wp_skip ?_
            refine then_normal ?_
            refine wp_region_lit ?_
            refine st_val (.bool b) ha (by kernel_rfl) (by kernel_rfl) ?_
            clear ha; intro a ha
            refine st_val (.bool b) ha (by kernel_rfl) (by kernel_rfl) ?_
            clear ha; intro a ha
            rcases Bool.eq_false_or_eq_true b with hb | hb
            · rw [hb] at ha; skip
              have hb1 := hb
              refine st_pass ha (by kernel_rfl) ?_
              clear ha; intro a ha
              refine st_pass ha (by kernel_rfl) ?_
              clear ha; intro a ha
              refine st_pass ha (by kernel_rfl) ?_
              clear ha; intro a ha
              refine st_pass ha (by kernel_rfl) ?_
              clear ha; intro a ha
              refine st_pass ha (by kernel_rfl) ?_
              clear ha; intro a ha
              refine st_pass ha (by kernel_rfl) ?_
              clear ha; intro a ha
              refine st_pass ha (by kernel_rfl) ?_
              clear ha; intro a ha
              refine st_pass ha (by kernel_rfl) ?_
              clear ha; intro a ha
              refine st_pass ha (by kernel_rfl) ?_
              clear ha; intro a ha
              refine st_pass ha (by kernel_rfl) ?_
              clear ha; intro a ha
              refine st_val (.bool true) ha (by kernel_rfl) (by kernel_rfl) ?_
              clear ha; intro a ha
              refine st_val (.bool true) ha (by kernel_rfl) (by kernel_rfl) ?_
              clear ha; intro a ha
              refine wpList_nil ?_
              refine block_normal ?_
              refine then_normal ?_
              refine wp_region_lit ?_
              refine st_val (.int .i64 ((k : Nat) : Int)) ha (by kernel_rfl) (by kernel_rfl) ?_
              clear ha; intro a ha
              refine st_val (.int .i64 ((k + 1 : Nat) : Int)) ha (by kernel_rfl) (run_arith (((k : Nat) : Int) + (1 : Int)) ((k + 1 : Nat) : Int) rfl (by kernel_rfl) (by kernel_rfl) (.inl ⟨rfl, rfl⟩) (by rw [wrap64_in (by omega)]; try omega) _) ?_
              clear ha; intro a ha
              refine st_val (.int .i64 ((k + 1 : Nat) : Int)) ha (by kernel_rfl) (by kernel_rfl) ?_
              clear ha; intro a ha
              refine wpList_nil ?_
              refine then_normal ?_
              exact ⟨(k + 1, l, true), (show 60 - (k + 1) < 60 - k by omega), (Has.cons ha (by kernel_rfl) (by kernel_rfl) (Has.cons ha (by kernel_rfl) (by kernel_rfl) (Has.cons ha (by kernel_rfl) (by kernel_rfl) (Has.cons ha (by kernel_rfl) (by kernel_rfl) (Has.cons ha (by kernel_rfl) (by kernel_rfl) (Has.nil ha)))))), s, (show k + 1 ≤ 60 by omega), hpf, hpu.up, ⟨fun _ => hpb.1 hb1, fun _ => rfl⟩⟩
            · rw [hb] at ha; skip
              have hb1 := hb
              refine st_val (.int .i64 ((1 : Int) + (q / (5 : Int)))) ha (by kernel_rfl) (by kernel_rfl) ?_
              clear ha; intro a ha
              refine st_val (.int .i64 ((1 : Int) + (q % (5 : Int)))) ha (by kernel_rfl) (by kernel_rfl) ?_
              clear ha; intro a ha
              refine st_val (.bool false) ha (by kernel_rfl) (run_known (show (((1 : Int) + (q / (5 : Int))) != ((1 : Int) + (q % (5 : Int)))) = false from bne_eq_false_iff_eq.2 hab) (by kernel_rfl)) ?_
              clear ha; intro a ha
              refine st_val (.bool false) ha (by kernel_rfl) (by kernel_rfl) ?_
              clear ha; intro a ha
              refine st_pass ha (by kernel_rfl) ?_
              clear ha; intro a ha
              refine st_pass ha (by kernel_rfl) ?_
              clear ha; intro a ha
              refine st_pass ha (by kernel_rfl) ?_
              clear ha; intro a ha
              refine st_pass ha (by kernel_rfl) ?_
              clear ha; intro a ha
              refine st_pass ha (by kernel_rfl) ?_
              clear ha; intro a ha
              refine st_val (.bool false) ha (by kernel_rfl) (by kernel_rfl) ?_
              clear ha; intro a ha
              refine st_val (.bool false) ha (by kernel_rfl) (by kernel_rfl) ?_
              clear ha; intro a ha
              refine st_val (.bool false) ha (by kernel_rfl) (by kernel_rfl) ?_
              clear ha; intro a ha
              refine wpList_nil ?_
              refine block_normal ?_
              refine then_normal ?_
              refine wp_region_lit ?_
              refine st_val (.int .i64 ((k : Nat) : Int)) ha (by kernel_rfl) (by kernel_rfl) ?_
              clear ha; intro a ha
              refine st_val (.int .i64 ((k + 1 : Nat) : Int)) ha (by kernel_rfl) (run_arith (((k : Nat) : Int) + (1 : Int)) ((k + 1 : Nat) : Int) rfl (by kernel_rfl) (by kernel_rfl) (.inl ⟨rfl, rfl⟩) (by rw [wrap64_in (by omega)]; try omega) _) ?_
              clear ha; intro a ha
              refine st_val (.int .i64 ((k + 1 : Nat) : Int)) ha (by kernel_rfl) (by kernel_rfl) ?_
              clear ha; intro a ha
              refine wpList_nil ?_
              refine then_normal ?_
              exact ⟨(k + 1, l, false), (show 60 - (k + 1) < 60 - k by omega), (Has.cons ha (by kernel_rfl) (by kernel_rfl) (Has.cons ha (by kernel_rfl) (by kernel_rfl) (Has.cons ha (by kernel_rfl) (by kernel_rfl) (Has.cons ha (by kernel_rfl) (by kernel_rfl) (Has.cons ha (by kernel_rfl) (by kernel_rfl) (Has.nil ha)))))), s, (show k + 1 ≤ 60 by omega), hpf, hpu.up, ⟨fun h => (by cases h), fun h => (by rw [hpb.2 h] at hb1; cases hb1)⟩⟩
          · have hadd := add_new (x := (⟨((k + 1 : Nat) : Int), [107], 1 + q / 5, 1 + q % 5⟩ : Wt)) hpu (by omega) rfl (by simp only; omega) (by simp only; omega) hab
            refine st_call ha (by kernel_rfl) (by kernel_rfl) (add_is W _ w g2 l (⟨((k + 1 : Nat) : Int), [107], 1 + q / 5, 1 + q % 5⟩ : Wt) 0 (l ++ [(⟨((k + 1 : Nat) : Int), [107], 1 + q / 5, 1 + q % 5⟩ : Wt)]) hadd.1 hadd.2 hpf s) ?_
            rintro _ w ⟨rfl, s⟩
            replace s : St W (Lob g2 (l ++ [(⟨((k + 1 : Nat) : Int), [107], 1 + q / 5, 1 + q % 5⟩ : Wt)]) :: .blk g6 [.int .i64 ((1 : Int) + u), .int .i64 ((1 : Int) + v)] 51 :: L) w := s
            refine ⟨_, rfl, ?_⟩; clear ha; intro a ha
            refine st_val (.bool true) ha (by kernel_rfl) (by kernel_rfl) ?_
            clear ha; intro a ha
            refine st_val (.int .i64 ((1 : Int) + (q / (5 : Int)))) ha (by kernel_rfl) (by kernel_rfl) ?_
            clear ha; intro a ha
            refine st_val (.int .i64 ((1 : Int) + (q % (5 : Int)))) ha (by kernel_rfl) (by kernel_rfl) ?_
            clear ha; intro a ha
            refine st_val (.bool true) ha (by kernel_rfl) (run_known (show (((1 : Int) + (q / (5 : Int))) != ((1 : Int) + (q % (5 : Int)))) = true from bne_iff_ne.2 hab) (by kernel_rfl)) ?_
            clear ha; intro a ha
            refine st_val (.bool false) ha (by kernel_rfl) (by kernel_rfl) ?_
            clear ha; intro a ha
            refine wpList_nil ?_
            refine then_normal ?_
            refine wp_false ha rfl (by kernel_rfl) ?_
            refine wp_skip ?_
            refine then_normal ?_
            refine wp_region_lit ?_
            refine st_val (.bool b) ha (by kernel_rfl) (by kernel_rfl) ?_
            clear ha; intro a ha
            refine st_val (.bool b) ha (by kernel_rfl) (by kernel_rfl) ?_
            clear ha; intro a ha
            rcases Bool.eq_false_or_eq_true b with hb | hb
            · rw [hb] at ha; skip
              have hb1 := hb
              refine st_pass ha (by kernel_rfl) ?_
              clear ha; intro a ha
              refine st_pass ha (by kernel_rfl) ?_
              clear ha; intro a ha
              refine st_pass ha (by kernel_rfl) ?_
              clear ha; intro a ha
              refine st_pass ha (by kernel_rfl) ?_
              clear ha; intro a ha
              refine st_pass ha (by kernel_rfl) ?_
              clear ha; intro a ha
              refine st_pass ha (by kernel_rfl) ?_
              clear ha; intro a ha
              refine st_pass ha (by kernel_rfl) ?_
              clear ha; intro a ha
              refine st_pass ha (by kernel_rfl) ?_
              clear ha; intro a ha
              refine st_pass ha (by kernel_rfl) ?_
              clear ha; intro a ha
              refine st_pass ha (by kernel_rfl) ?_
              clear ha; intro a ha
              refine st_val (.bool true) ha (by kernel_rfl) (by kernel_rfl) ?_
              clear ha; intro a ha
              refine st_val (.bool true) ha (by kernel_rfl) (by kernel_rfl) ?_
              clear ha; intro a ha
              refine wpList_nil ?_
              refine block_normal ?_
              refine then_normal ?_
              refine wp_region_lit ?_
              refine st_val (.int .i64 ((k : Nat) : Int)) ha (by kernel_rfl) (by kernel_rfl) ?_
              clear ha; intro a ha
              refine st_val (.int .i64 ((k + 1 : Nat) : Int)) ha (by kernel_rfl) (run_arith (((k : Nat) : Int) + (1 : Int)) ((k + 1 : Nat) : Int) rfl (by kernel_rfl) (by kernel_rfl) (.inl ⟨rfl, rfl⟩) (by rw [wrap64_in (by omega)]; try omega) _) ?_
              clear ha; intro a ha
              refine st_val (.int .i64 ((k + 1 : Nat) : Int)) ha (by kernel_rfl) (by kernel_rfl) ?_
              clear ha; intro a ha
              refine wpList_nil ?_
              refine then_normal ?_
              exact ⟨(k + 1, l ++ [(⟨((k + 1 : Nat) : Int), [107], 1 + q / 5, 1 + q % 5⟩ : Wt)], true), (show 60 - (k + 1) < 60 - k by omega), (Has.cons ha (by kernel_rfl) (by kernel_rfl) (Has.cons ha (by kernel_rfl) (by kernel_rfl) (Has.cons ha (by kernel_rfl) (by kernel_rfl) (Has.cons ha (by kernel_rfl) (by kernel_rfl) (Has.cons ha (by kernel_rfl) (by kernel_rfl) (Has.nil ha)))))), s, (show k + 1 ≤ 60 by omega), hadd.2 ▸ hpf.add (⟨((k + 1 : Nat) : Int), [107], 1 + q / 5, 1 + q % 5⟩ : Wt), hpu.snoc rfl, ⟨fun _ => by obtain ⟨x, hx, e⟩ := hpb.1 hb1; exact ⟨x, List.mem_append_left _ hx, e⟩, fun _ => rfl⟩⟩
            · rw [hb] at ha; skip
              have hb1 := hb
              refine st_val (.int .i64 ((1 : Int) + (q / (5 : Int)))) ha (by kernel_rfl) (by kernel_rfl) ?_
              clear ha; intro a ha
              refine st_val (.int .i64 ((1 : Int) + (q % (5 : Int)))) ha (by kernel_rfl) (by kernel_rfl) ?_
              clear ha; intro a ha
              refine st_val (.bool true) ha (by kernel_rfl) (run_known (show (((1 : Int) + (q / (5 : Int))) != ((1 : Int) + (q % (5 : Int)))) = true from bne_iff_ne.2 hab) (by kernel_rfl)) ?_
              clear ha; intro a ha
              refine st_val (.bool true) ha (by kernel_rfl) (by kernel_rfl) ?_
              clear ha; intro a ha
              refine st_val (.agg #[.int .i64 ((1 : Int) + u), .int .i64 ((1 : Int) + v)]) ha (by kernel_rfl) (run_loadN (of_ := 0) [.int .i64 ((1 : Int) + u), .int .i64 ((1 : Int) + v)] (s.blkIs 1 rfl) rfl (by kernel_rfl) Try.isAgg51 Try.sizeOf51 rfl (Nat.le_of_ble_eq_true rfl)) ?_
              clear ha; intro a ha
              refine st_val (.int .i64 ((1 : Int) + (q / (5 : Int)))) ha (by kernel_rfl) (by kernel_rfl) ?_
              clear ha; intro a ha
              refine st_val (.int .i64 ((1 : Int) + (q % (5 : Int)))) ha (by kernel_rfl) (by kernel_rfl) ?_
              clear ha; intro a ha
              refine st_val (.agg #[.int .i64 ((1 : Int) + (q / (5 : Int))), .int .i64 ((1 : Int) + (q % (5 : Int)))]) ha (by kernel_rfl) (by kernel_rfl) ?_
              clear ha; intro a ha
              refine st_val (.bool (decide (((1 : Int) + u, (1 : Int) + v) = ((1 : Int) + (q / (5 : Int)), (1 : Int) + (q % (5 : Int)))))) ha (by kernel_rfl) (run_pr (x := ((1 : Int) + u, (1 : Int) + v)) (y := ((1 : Int) + (q / (5 : Int)), (1 : Int) + (q % (5 : Int)))) (.inl rfl) rfl (by kernel_rfl) (by kernel_rfl) _) ?_
              clear ha; intro a ha
              refine st_val (.bool (decide (((1 : Int) + u, (1 : Int) + v) = ((1 : Int) + (q / (5 : Int)), (1 : Int) + (q % (5 : Int)))))) ha (by kernel_rfl) (by kernel_rfl) ?_
              clear ha; intro a ha
              refine st_val (.bool (decide (((1 : Int) + u, (1 : Int) + v) = ((1 : Int) + (q / (5 : Int)), (1 : Int) + (q % (5 : Int)))))) ha (by kernel_rfl) (by kernel_rfl) ?_
              clear ha; intro a ha
              refine st_val (.bool (decide (((1 : Int) + u, (1 : Int) + v) = ((1 : Int) + (q / (5 : Int)), (1 : Int) + (q % (5 : Int)))))) ha (by kernel_rfl) (by kernel_rfl) ?_
              clear ha; intro a ha
              refine wpList_nil ?_
              refine block_normal ?_
              refine then_normal ?_
              refine wp_region_lit ?_
              refine st_val (.int .i64 ((k : Nat) : Int)) ha (by kernel_rfl) (by kernel_rfl) ?_
              clear ha; intro a ha
              refine st_val (.int .i64 ((k + 1 : Nat) : Int)) ha (by kernel_rfl) (run_arith (((k : Nat) : Int) + (1 : Int)) ((k + 1 : Nat) : Int) rfl (by kernel_rfl) (by kernel_rfl) (.inl ⟨rfl, rfl⟩) (by rw [wrap64_in (by omega)]; try omega) _) ?_
              clear ha; intro a ha
              refine st_val (.int .i64 ((k + 1 : Nat) : Int)) ha (by kernel_rfl) (by kernel_rfl) ?_
              clear ha; intro a ha
              refine wpList_nil ?_
              refine then_normal ?_
              exact ⟨(k + 1, l ++ [(⟨((k + 1 : Nat) : Int), [107], 1 + q / 5, 1 + q % 5⟩ : Wt)], decide (((1 : Int) + u, (1 : Int) + v) = ((1 : Int) + (q / (5 : Int)), (1 : Int) + (q % (5 : Int))))), (show 60 - (k + 1) < 60 - k by omega), (Has.cons ha (by kernel_rfl) (by kernel_rfl) (Has.cons ha (by kernel_rfl) (by kernel_rfl) (Has.cons ha (by kernel_rfl) (by kernel_rfl) (Has.cons ha (by kernel_rfl) (by kernel_rfl) (Has.cons ha (by kernel_rfl) (by kernel_rfl) (Has.nil ha)))))), s, (show k + 1 ≤ 60 by omega), hadd.2 ▸ hpf.add (⟨((k + 1 : Nat) : Int), [107], 1 + q / 5, 1 + q % 5⟩ : Wt), hpu.snoc rfl, pair_put hpb hb1 rfl⟩
        · rw [hb] at ha; replace hb : ¬ (((k : Nat) : Int) < (60 : Int)) := of_decide_eq_false hb
          have hpf := hp.2.1
          have hpb := hp.2.2.2
          refine wp_exit ?_
          refine then_exit ?_
          refine then_exit ?_
          refine block_hit ?_
          refine then_normal ?_
          refine wp_seq ?_
          refine wp_region_lit ?_
          refine st_val (.pointer (some ⟨g2, 0, none⟩)) ha (by kernel_rfl) (by kernel_rfl) ?_
          clear ha; intro a ha
          refine st_call ha (by kernel_rfl) (by kernel_rfl) (edges_lob W hW _ w g2 l hpf s) ?_
          rintro _ w ⟨Ae, ce, e_, rfl, hE, s⟩
          have hel := hE.len_le
          have hll := hpf.2
          replace s : St W (Own 51 2 Ae e_.length ce (pcs e_) :: Lob g2 l :: .blk g6 [.int .i64 ((1 : Int) + u), .int .i64 ((1 : Int) + v)] 51 :: L) w := s
          refine ⟨_, rfl, ?_⟩; clear ha; intro a ha
          refine st_val (.slice Ae e_.length ce) ha (by kernel_rfl) (by kernel_rfl) ?_
          clear ha; intro a ha
          refine wpList_nil ?_
          refine then_normal ?_
          refine wp_seq ?_
          refine wp_region_lit ?_
          refine st_val (.bool false) ha (by kernel_rfl) (by kernel_rfl) ?_
          clear ha; intro a ha
          refine wpList_nil ?_
          refine then_normal ?_
          refine wp_seq ?_
          refine wp_seq ?_
          refine wp_region_lit ?_
          refine st_val (.int .i64 0) ha (by kernel_rfl) (by kernel_rfl) ?_
          clear ha; intro a ha
          refine wpList_nil ?_
          refine then_normal ?_
          refine wp_block ?_
          replace s := s.at_ (j := 2) rfl
          replace s : St W (.blk g6 [.int .i64 ((1 : Int) + u), .int .i64 ((1 : Int) + v)] 51 :: Own 51 2 Ae e_.length ce (pcs e_) :: Lob g2 l :: L) w := s
          replace s := s.at_ (j := 1) rfl
          replace s : St W (Own 51 2 Ae e_.length ce (pcs e_) :: .blk g6 [.int .i64 ((1 : Int) + u), .int .i64 ((1 : Int) + v)] 51 :: Lob g2 l :: L) w := s
          replace s : St W (Own 51 2 Ae e_.length ce (pcs e_) :: .blk g6 [.int .i64 ((1 : Int) + u), .int .i64 ((1 : Int) + v)] 51 :: L) w := St.mid (A := [Own 51 2 Ae e_.length ce (pcs e_), .blk g6 [.int .i64 ((1 : Int) + u), .int .i64 ((1 : Int) + v)] 51]) (B := [Lob g2 l]) s
          refine wp_loopG (G := (Nat × Bool)) (fun ⟨i, c2⟩ a w => Has a 137 [(6, .pointer (some ⟨g6, 0, none⟩)), (7, .bool b), (12, .slice Ae e_.length ce), (13, .bool c2), (14, .int .i64 ((i : Nat) : Int))] ∧ St W (Own 51 2 Ae e_.length ce (pcs e_) :: .blk g6 [.int .i64 ((1 : Int) + u), .int .i64 ((1 : Int) + v)] 51 :: L) w ∧ (i ≤ e_.length ∧ (c2 = true ↔ (1 + u, 1 + v) ∈ e_.take i))) (fun ⟨i, c2⟩ => e_.length - i) (0, false) ?_ ?_
          · exact ⟨(Has.cons ha (by kernel_rfl) (by kernel_rfl) (Has.cons ha (by kernel_rfl) (by kernel_rfl) (Has.cons ha (by kernel_rfl) (by kernel_rfl) (Has.cons ha (by kernel_rfl) (by kernel_rfl) (Has.cons ha (by kernel_rfl) (by kernel_rfl) (Has.nil ha)))))), s, ⟨Nat.zero_le _, by simp⟩⟩
          · clear ha s; rintro ⟨i, c2⟩ a w ⟨ha, s, hp⟩
            refine wp_seq ?_
            refine wp_seq ?_
            refine wp_region_lit ?_
            refine st_val (.int .i64 ((i : Nat) : Int)) ha (by kernel_rfl) (by kernel_rfl) ?_
            clear ha; intro a ha
            refine st_val (.slice Ae e_.length ce) ha (by kernel_rfl) (by kernel_rfl) ?_
            clear ha; intro a ha
            refine st_val (.int .i64 ((e_.length : Nat) : Int)) ha (by kernel_rfl) (by kernel_rfl) ?_
            clear ha; intro a ha
            refine st_val (.bool (decide (((i : Nat) : Int) < ((e_.length : Nat) : Int)))) ha (by kernel_rfl) (by kernel_rfl) ?_
            clear ha; intro a ha
            refine wpList_nil ?_
            refine then_normal ?_
            refine wp_part (decide (((i : Nat) : Int) < ((e_.length : Nat) : Int))) ha rfl (by kernel_rfl) (fun hb => ?_) (fun hb => ?_)
            · rw [hb] at ha; replace hb : (((i : Nat) : Int) < ((e_.length : Nat) : Int)) := of_decide_eq_true hb
              have hpc := hp.2
              obtain ⟨x, hx⟩ : ∃ x, e_[i]? = some x := ⟨_, List.getElem?_eq_getElem (by omega)⟩
              obtain ⟨ae, hAe⟩ := Own.addr (s.at_ (j := 0) rfl) (by omega)
              subst hAe
              refine wp_skip ?_
              refine then_normal ?_
              refine wp_seq ?_
              refine wp_block ?_
              refine wp_seq ?_
              refine wp_seq ?_
              refine wp_region_head 40 (fun w => Reads w 2 (some ae) e_.length (pcs e_) ∧ True) (by kernel_rfl) (by decide) ?_
              replace s := s.drew; generalize _root_.Go.World.drew _ = w at s ⊢
              have hS : (fun w => Reads w 2 (some ae) e_.length (pcs e_) ∧ True) w := ⟨(Own.reads (s.at_ (j := 0) rfl).1), trivial⟩
              refine hd_val (i := 0) (.int .i64 ((i : Nat) : Int)) ha rfl (by kernel_rfl) (fun _ _ _ h => h) (by kernel_rfl) (fun w hS => (by kernel_rfl)) hS ?_
              clear ha; intro a ha
              refine hd_val (i := 1) (.bool (decide (((i : Nat) : Int) > (0 : Int)))) ha rfl (by kernel_rfl) (fun _ _ _ h => h) (by kernel_rfl) (fun w hS => (by kernel_rfl)) hS ?_
              clear ha; intro a ha
              refine hd_val (i := 2) (.bool (decide (((i : Nat) : Int) > (0 : Int)))) ha rfl (by kernel_rfl) (fun _ _ _ h => h) (by kernel_rfl) (fun w hS => (by kernel_rfl)) hS ?_
              clear ha; intro a ha
              rcases Bool.eq_false_or_eq_true (decide (((i : Nat) : Int) > (0 : Int))) with hb | hb
              · rw [hb] at ha; replace hb : (((i : Nat) : Int) > (0 : Int)) := of_decide_eq_true hb
                obtain ⟨y, hy⟩ : ∃ y, e_[i - 1]? = some y := ⟨_, List.getElem?_eq_getElem (by omega)⟩
                have hyx : ltP y x := by
                  obtain ⟨h1, e1⟩ := List.getElem?_eq_some_iff.1 hx
                  obtain ⟨h2, e2⟩ := List.getElem?_eq_some_iff.1 hy
                  rw [← e1, ← e2]; exact List.pairwise_iff_getElem.1 hE.up (i - 1) i h2 h1 (by omega)
                unfold ltP at hyx
                refine hd_val (i := 3) (.slice (some ae) e_.length ce) ha rfl (by kernel_rfl) (fun _ _ _ h => h) (by kernel_rfl) (fun w hS => (by kernel_rfl)) hS ?_
                clear ha; intro a ha
                refine hd_val (i := 4) (.int .i64 ((i : Nat) : Int)) ha rfl (by kernel_rfl) (fun _ _ _ h => h) (by kernel_rfl) (fun w hS => (by kernel_rfl)) hS ?_
                clear ha; intro a ha
                refine hd_val (i := 5) (.pointer (some (ae.add (i * 2)))) ha rfl (by kernel_rfl) (fun _ _ _ h => h) (by kernel_rfl) (fun w hS => (run_indexAddr' (kd := .i64) (i := ((i : Nat) : Int)) (n := e_.length) (c := ce) i rfl Try.underlying47 Try.sizeOf51 (by kernel_rfl) (by kernel_rfl) rfl (by first | assumption | omega) _)) hS ?_
                clear ha; intro a ha
                refine hd_val (i := 6) (.pointer (some (ae.add (i * 2 + 0 * 1)))) ha rfl (by kernel_rfl) (fun _ _ _ h => h) (by kernel_rfl) (fun w hS => (run_indexArr_at (kd := .i64) (i := i * 2) (z := 0) 0 rfl Try.underlying51 Try.sizeOf3 (by kernel_rfl) (by kernel_rfl) rfl (by first | assumption | omega) _)) hS ?_
                clear ha; intro a ha
                refine hd_val (i := 7) (.int .i64 x.1) ha rfl (by kernel_rfl) (fun _ _ _ h => h) (by kernel_rfl) (fun w hS => run_loadAt1 (i := i * 2 + 0 * 1) hS.1 rfl (by kernel_rfl) Try.isAgg3 (by rw [show i * 2 + 0 * 1 = i * 2 + 0 by omega, pcs_at hx (by omega)]; rfl)) hS ?_
                clear ha; intro a ha
                refine hd_val (i := 8) (.slice (some ae) e_.length ce) ha rfl (by kernel_rfl) (fun _ _ _ h => h) (by kernel_rfl) (fun w hS => (by kernel_rfl)) hS ?_
                clear ha; intro a ha
                refine hd_val (i := 9) (.int .i64 ((i : Nat) : Int)) ha rfl (by kernel_rfl) (fun _ _ _ h => h) (by kernel_rfl) (fun w hS => (by kernel_rfl)) hS ?_
                clear ha; intro a ha
                refine hd_val (i := 10) (.int .i64 ((i - 1 : Nat) : Int)) ha rfl (by kernel_rfl) (fun _ _ _ h => h) (by kernel_rfl) (fun w hS => (run_arith (((i : Nat) : Int) - (1 : Int)) ((i - 1 : Nat) : Int) rfl (by kernel_rfl) (by kernel_rfl) (.inr (.inl ⟨rfl, rfl⟩)) (by rw [wrap64_in (by omega)]; try omega) _)) hS ?_
                clear ha; intro a ha
                refine hd_val (i := 11) (.pointer (some (ae.add ((i - 1) * 2)))) ha rfl (by kernel_rfl) (fun _ _ _ h => h) (by kernel_rfl) (fun w hS => (run_indexAddr' (kd := .i64) (i := ((i - 1 : Nat) : Int)) (n := e_.length) (c := ce) (i - 1) rfl Try.underlying47 Try.sizeOf51 (by kernel_rfl) (by kernel_rfl) rfl (by first | assumption | omega) _)) hS ?_
                clear ha; intro a ha
                refine hd_val (i := 12) (.pointer (some (ae.add ((i - 1) * 2 + 0 * 1)))) ha rfl (by kernel_rfl) (fun _ _ _ h => h) (by kernel_rfl) (fun w hS => (run_indexArr_at (kd := .i64) (i := (i - 1) * 2) (z := 0) 0 rfl Try.underlying51 Try.sizeOf3 (by kernel_rfl) (by kernel_rfl) rfl (by first | assumption | omega) _)) hS ?_
                clear ha; intro a ha
                refine hd_val (i := 13) (.int .i64 y.1) ha rfl (by kernel_rfl) (fun _ _ _ h => h) (by kernel_rfl) (fun w hS => run_loadAt1 (i := (i - 1) * 2 + 0 * 1) hS.1 rfl (by kernel_rfl) Try.isAgg3 (by rw [show (i - 1) * 2 + 0 * 1 = (i - 1) * 2 + 0 by omega, pcs_at hy (by omega)]; rfl)) hS ?_
                clear ha; intro a ha
                refine hd_val (i := 14) (.bool false) ha rfl (by kernel_rfl) (fun _ _ _ h => h) (by kernel_rfl) (fun w hS => (run_known (show (decide (x.1 < y.1)) = false from decide_eq_false (by omega)) (by kernel_rfl))) hS ?_
                clear ha; intro a ha
                refine hd_val (i := 15) (.bool false) ha rfl (by kernel_rfl) (fun _ _ _ h => h) (by kernel_rfl) (fun w hS => (by kernel_rfl)) hS ?_
                clear ha; intro a ha
                refine hd_val (i := 16) (.slice (some ae) e_.length ce) ha rfl (by kernel_rfl) (fun _ _ _ h => h) (by kernel_rfl) (fun w hS => (by kernel_rfl)) hS ?_
                clear ha; intro a ha
                refine hd_val (i := 17) (.int .i64 ((i : Nat) : Int)) ha rfl (by kernel_rfl) (fun _ _ _ h => h) (by kernel_rfl) (fun w hS => (by kernel_rfl)) hS ?_
                clear ha; intro a ha
                refine hd_val (i := 18) (.pointer (some (ae.add (i * 2)))) ha rfl (by kernel_rfl) (fun _ _ _ h => h) (by kernel_rfl) (fun w hS => (run_indexAddr' (kd := .i64) (i := ((i : Nat) : Int)) (n := e_.length) (c := ce) i rfl Try.underlying47 Try.sizeOf51 (by kernel_rfl) (by kernel_rfl) rfl (by first | assumption | omega) _)) hS ?_
                clear ha; intro a ha
                refine hd_val (i := 19) (.pointer (some (ae.add (i * 2 + 0 * 1)))) ha rfl (by kernel_rfl) (fun _ _ _ h => h) (by kernel_rfl) (fun w hS => (run_indexArr_at (kd := .i64) (i := i * 2) (z := 0) 0 rfl Try.underlying51 Try.sizeOf3 (by kernel_rfl) (by kernel_rfl) rfl (by first | assumption | omega) _)) hS ?_
                clear ha; intro a ha
                refine hd_val (i := 20) (.int .i64 x.1) ha rfl (by kernel_rfl) (fun _ _ _ h => h) (by kernel_rfl) (fun w hS => run_loadAt1 (i := i * 2 + 0 * 1) hS.1 rfl (by kernel_rfl) Try.isAgg3 (by rw [show i * 2 + 0 * 1 = i * 2 + 0 by omega, pcs_at hx (by omega)]; rfl)) hS ?_
                clear ha; intro a ha
                refine hd_val (i := 21) (.slice (some ae) e_.length ce) ha rfl (by kernel_rfl) (fun _ _ _ h => h) (by kernel_rfl) (fun w hS => (by kernel_rfl)) hS ?_
                clear ha; intro a ha
                refine hd_val (i := 22) (.int .i64 ((i : Nat) : Int)) ha rfl (by kernel_rfl) (fun _ _ _ h => h) (by kernel_rfl) (fun w hS => (by kernel_rfl)) hS ?_
                clear ha; intro a ha
                refine hd_val (i := 23) (.int .i64 ((i - 1 : Nat) : Int)) ha rfl (by kernel_rfl) (fun _ _ _ h => h) (by kernel_rfl) (fun w hS => (run_arith (((i : Nat) : Int) - (1 : Int)) ((i - 1 : Nat) : Int) rfl (by kernel_rfl) (by kernel_rfl) (.inr (.inl ⟨rfl, rfl⟩)) (by rw [wrap64_in (by omega)]; try omega) _)) hS ?_
                clear ha; intro a ha
                refine hd_val (i := 24) (.pointer (some (ae.add ((i - 1) * 2)))) ha rfl (by kernel_rfl) (fun _ _ _ h => h) (by kernel_rfl) (fun w hS => (run_indexAddr' (kd := .i64) (i := ((i - 1 : Nat) : Int)) (n := e_.length) (c := ce) (i - 1) rfl Try.underlying47 Try.sizeOf51 (by kernel_rfl) (by kernel_rfl) rfl (by first | assumption | omega) _)) hS ?_
                clear ha; intro a ha
                refine hd_val (i := 25) (.pointer (some (ae.add ((i - 1) * 2 + 0 * 1)))) ha rfl (by kernel_rfl) (fun _ _ _ h => h) (by kernel_rfl) (fun w hS => (run_indexArr_at (kd := .i64) (i := (i - 1) * 2) (z := 0) 0 rfl Try.underlying51 Try.sizeOf3 (by kernel_rfl) (by kernel_rfl) rfl (by first | assumption | omega) _)) hS ?_
                clear ha; intro a ha
                refine hd_val (i := 26) (.int .i64 y.1) ha rfl (by kernel_rfl) (fun _ _ _ h => h) (by kernel_rfl) (fun w hS => run_loadAt1 (i := (i - 1) * 2 + 0 * 1) hS.1 rfl (by kernel_rfl) Try.isAgg3 (by rw [show (i - 1) * 2 + 0 * 1 = (i - 1) * 2 + 0 by omega, pcs_at hy (by omega)]; rfl)) hS ?_
                clear ha; intro a ha
                refine hd_val (i := 27) (.bool (x.1 == y.1)) ha rfl (by kernel_rfl) (fun _ _ _ h => h) (by kernel_rfl) (fun w hS => (by kernel_rfl)) hS ?_
                clear ha; intro a ha
                refine hd_val (i := 28) (.bool (x.1 == y.1)) ha rfl (by kernel_rfl) (fun _ _ _ h => h) (by kernel_rfl) (fun w hS => (by kernel_rfl)) hS ?_
                clear ha; intro a ha
                rcases Bool.eq_false_or_eq_true (x.1 == y.1) with hb | hb
                · rw [hb] at ha; have hb_ := hb; replace hb := eq_of_beq hb
                  refine hd_val (i := 29) (.slice (some ae) e_.length ce) ha rfl (by kernel_rfl) (fun _ _ _ h => h) (by kernel_rfl) (fun w hS => (by kernel_rfl)) hS ?_
                  clear ha; intro a ha
                  refine hd_val (i := 30) (.int .i64 ((i : Nat) : Int)) ha rfl (by kernel_rfl) (fun _ _ _ h => h) (by kernel_rfl) (fun w hS => (by kernel_rfl)) hS ?_
                  clear ha; intro a ha
                  refine hd_val (i := 31) (.pointer (some (ae.add (i * 2)))) ha rfl (by kernel_rfl) (fun _ _ _ h => h) (by kernel_rfl) (fun w hS => (run_indexAddr' (kd := .i64) (i := ((i : Nat) : Int)) (n := e_.length) (c := ce) i rfl Try.underlying47 Try.sizeOf51 (by kernel_rfl) (by kernel_rfl) rfl (by first | assumption | omega) _)) hS ?_
                  clear ha; intro a ha
                  refine hd_val (i := 32) (.pointer (some (ae.add (i * 2 + 1 * 1)))) ha rfl (by kernel_rfl) (fun _ _ _ h => h) (by kernel_rfl) (fun w hS => (run_indexArr_at (kd := .i64) (i := i * 2) (z := 1) 1 rfl Try.underlying51 Try.sizeOf3 (by kernel_rfl) (by kernel_rfl) rfl (by first | assumption | omega) _)) hS ?_
                  clear ha; intro a ha
                  refine hd_val (i := 33) (.int .i64 x.2) ha rfl (by kernel_rfl) (fun _ _ _ h => h) (by kernel_rfl) (fun w hS => run_loadAt1 (i := i * 2 + 1 * 1) hS.1 rfl (by kernel_rfl) Try.isAgg3 (by rw [show i * 2 + 1 * 1 = i * 2 + 1 by omega, pcs_at hx (by omega)]; rfl)) hS ?_
                  clear ha; intro a ha
                  refine hd_val (i := 34) (.slice (some ae) e_.length ce) ha rfl (by kernel_rfl) (fun _ _ _ h => h) (by kernel_rfl) (fun w hS => (by kernel_rfl)) hS ?_
                  clear ha; intro a ha
                  refine hd_val (i := 35) (.int .i64 ((i : Nat) : Int)) ha rfl (by kernel_rfl) (fun _ _ _ h => h) (by kernel_rfl) (fun w hS => (by kernel_rfl)) hS ?_
                  clear ha; intro a ha
                  refine hd_val (i := 36) (.int .i64 ((i - 1 : Nat) : Int)) ha rfl (by kernel_rfl) (fun _ _ _ h => h) (by kernel_rfl) (fun w hS => (run_arith (((i : Nat) : Int) - (1 : Int)) ((i - 1 : Nat) : Int) rfl (by kernel_rfl) (by kernel_rfl) (.inr (.inl ⟨rfl, rfl⟩)) (by rw [wrap64_in (by omega)]; try omega) _)) hS ?_
                  clear ha; intro a ha
                  refine hd_val (i := 37) (.pointer (some (ae.add ((i - 1) * 2)))) ha rfl (by kernel_rfl) (fun _ _ _ h => h) (by kernel_rfl) (fun w hS => (run_indexAddr' (kd := .i64) (i := ((i - 1 : Nat) : Int)) (n := e_.length) (c := ce) (i - 1) rfl Try.underlying47 Try.sizeOf51 (by kernel_rfl) (by kernel_rfl) rfl (by first | assumption | omega) _)) hS ?_
                  clear ha; intro a ha
                  refine hd_val (i := 38) (.pointer (some (ae.add ((i - 1) * 2 + 1 * 1)))) ha rfl (by kernel_rfl) (fun _ _ _ h => h) (by kernel_rfl) (fun w hS => (run_indexArr_at (kd := .i64) (i := (i - 1) * 2) (z := 1) 1 rfl Try.underlying51 Try.sizeOf3 (by kernel_rfl) (by kernel_rfl) rfl (by first | assumption | omega) _)) hS ?_
                  clear ha; intro a ha
                  refine hd_val (i := 39) (.int .i64 y.2) ha rfl (by kernel_rfl) (fun _ _ _ h => h) (by kernel_rfl) (fun w hS => run_loadAt1 (i := (i - 1) * 2 + 1 * 1) hS.1 rfl (by kernel_rfl) Try.isAgg3 (by rw [show (i - 1) * 2 + 1 * 1 = (i - 1) * 2 + 1 by omega, pcs_at hy (by omega)]; rfl)) hS ?_
                  clear ha; intro a ha
                  refine Head.done (by kernel_rfl) ?_
                  clear hS; simp only [List.drop_succ_cons, List.drop_zero]
                  refine st_val (.bool false) ha (by kernel_rfl) (run_known (show (decide (x.2 ≤ y.2)) = false from decide_eq_false (by omega)) (by kernel_rfl)) ?_
                  clear ha; intro a ha
                  refine st_val (.bool false) ha (by kernel_rfl) (by kernel_rfl) ?_
                  clear ha; intro a ha
                  refine st_val (.bool false) ha (by kernel_rfl) (by kernel_rfl) ?_
                  clear ha; intro a ha
                  refine st_val (.bool false) ha (by kernel_rfl) (by kernel_rfl) ?_
                  clear ha; intro a ha
                  refine wpList_nil ?_
                  refine then_normal ?_
                  refine wp_false ha rfl (by kernel_rfl) ?_
                  refine wp_skip ?_
                  refine then_normal ?_
                  refine wp_region_head 7 (fun w => Reads w 2 (some ae) e_.length (pcs e_) ∧ BlkIs g6 [.int .i64 ((1 : Int) + u), .int .i64 ((1 : Int) + v)] w ∧ True) (by kernel_rfl) (by decide) ?_
                  replace s := s.drew; generalize _root_.Go.World.drew _ = w at s ⊢
                  have hS : (fun w => Reads w 2 (some ae) e_.length (pcs e_) ∧ BlkIs g6 [.int .i64 ((1 : Int) + u), .int .i64 ((1 : Int) + v)] w ∧ True) w := ⟨(Own.reads (s.at_ (j := 0) rfl).1), s.blkIs 1 rfl, trivial⟩
                  refine hd_val (i := 0) (.bool c2) ha rfl (by kernel_rfl) (fun _ _ _ h => h) (by kernel_rfl) (fun w hS => (by kernel_rfl)) hS ?_
                  clear ha; intro a ha
                  refine hd_val (i := 1) (.bool c2) ha rfl (by kernel_rfl) (fun _ _ _ h => h) (by kernel_rfl) (fun w hS => (by kernel_rfl)) hS ?_
                  clear ha; intro a ha
                  rcases Bool.eq_false_or_eq_true c2 with hb | hb
                  · rw [hb] at ha; skip
                    have hc1 := hb
                    refine hd_pass (i := 2) ha rfl (by kernel_rfl) (fun _ _ _ h => h) (by kernel_rfl) hS ?_
                    clear ha; intro a ha
                    refine hd_pass (i := 3) ha rfl (by kernel_rfl) (fun _ _ _ h => h) (by kernel_rfl) hS ?_
                    clear ha; intro a ha
                    refine hd_pass (i := 4) ha rfl (by kernel_rfl) (fun _ _ _ h => h) (by kernel_rfl) hS ?_
                    clear ha; intro a ha
                    refine hd_pass (i := 5) ha rfl (by kernel_rfl) (fun _ _ _ h => h) (by kernel_rfl) hS ?_
                    clear ha; intro a ha
                    refine hd_pass (i := 6) ha rfl (by kernel_rfl) (fun _ _ _ h => h) (by kernel_rfl) hS ?_
                    clear ha; intro a ha
                    refine Head.done (by kernel_rfl) ?_
                    clear hS; simp only [List.drop_succ_cons, List.drop_zero]
                    refine st_pass ha (by kernel_rfl) ?_
                    clear ha; intro a ha
                    refine st_val (.bool true) ha (by kernel_rfl) (by kernel_rfl) ?_
                    clear ha; intro a ha
                    refine st_val (.bool true) ha (by kernel_rfl) (by kernel_rfl) ?_
                    clear ha; intro a ha
                    refine wpList_nil ?_
                    refine block_normal ?_
                    refine then_normal ?_
                    refine wp_region_lit ?_
                    refine st_val (.int .i64 ((i : Nat) : Int)) ha (by kernel_rfl) (by kernel_rfl) ?_
                    clear ha; intro a ha
                    refine st_val (.int .i64 ((i + 1 : Nat) : Int)) ha (by kernel_rfl) (run_arith (((i : Nat) : Int) + (1 : Int)) ((i + 1 : Nat) : Int) rfl (by kernel_rfl) (by kernel_rfl) (.inl ⟨rfl, rfl⟩) (by rw [wrap64_in (by omega)]; try omega) _) ?_
                    clear ha; intro a ha
                    refine st_val (.int .i64 ((i + 1 : Nat) : Int)) ha (by kernel_rfl) (by kernel_rfl) ?_
                    clear ha; intro a ha
                    refine wpList_nil ?_
                    refine then_normal ?_
                    exact ⟨(i + 1, true), (show e_.length - (i + 1) < e_.length - i by omega), (Has.cons ha (by kernel_rfl) (by kernel_rfl) (Has.cons ha (by kernel_rfl) (by kernel_rfl) (Has.cons ha (by kernel_rfl) (by kernel_rfl) (Has.cons ha (by kernel_rfl) (by kernel_rfl) (Has.cons ha (by kernel_rfl) (by kernel_rfl) (Has.nil ha)))))), s, (show i + 1 ≤ e_.length by omega), ⟨fun _ => by rw [take_snoc hx]; exact List.mem_append_left _ (hpc.1 hc1), fun _ => rfl⟩⟩
                  · rw [hb] at ha; skip
                    have hc1 := hb
                    refine hd_val (i := 2) (.slice (some ae) e_.length ce) ha rfl (by kernel_rfl) (fun _ _ _ h => h) (by kernel_rfl) (fun w hS => (by kernel_rfl)) hS ?_
                    clear ha; intro a ha
                    refine hd_val (i := 3) (.int .i64 ((i : Nat) : Int)) ha rfl (by kernel_rfl) (fun _ _ _ h => h) (by kernel_rfl) (fun w hS => (by kernel_rfl)) hS ?_
                    clear ha; intro a ha
                    refine hd_val (i := 4) (.pointer (some (ae.add (i * 2)))) ha rfl (by kernel_rfl) (fun _ _ _ h => h) (by kernel_rfl) (fun w hS => (run_indexAddr' (kd := .i64) (i := ((i : Nat) : Int)) (n := e_.length) (c := ce) i rfl Try.underlying47 Try.sizeOf51 (by kernel_rfl) (by kernel_rfl) rfl (by first | assumption | omega) _)) hS ?_
                    clear ha; intro a ha
                    refine hd_val (i := 5) (.agg #[.int .i64 x.1, .int .i64 x.2]) ha rfl (by kernel_rfl) (fun _ _ _ h => h) (by kernel_rfl) (fun w hS => run_loadAtN (i := i * 2) [.int .i64 x.1, .int .i64 x.2] hS.1 rfl (by kernel_rfl) Try.isAgg51 Try.sizeOf51 (fun q_ hq_ => pcs_at hx hq_) rfl) hS ?_
                    clear ha; intro a ha
                    refine hd_val (i := 6) (.agg #[.int .i64 ((1 : Int) + u), .int .i64 ((1 : Int) + v)]) ha rfl (by kernel_rfl) (fun _ _ _ h => h) (by kernel_rfl) (fun w hS => run_loadN (of_ := 0) [.int .i64 ((1 : Int) + u), .int .i64 ((1 : Int) + v)] hS.2.1 rfl (by kernel_rfl) Try.isAgg51 Try.sizeOf51 rfl (Nat.le_of_ble_eq_true rfl)) hS ?_
                    clear ha; intro a ha
                    refine Head.done (by kernel_rfl) ?_
                    clear hS; simp only [List.drop_succ_cons, List.drop_zero]
                    refine st_val (.bool (decide (x = ((1 : Int) + u, (1 : Int) + v)))) ha (by kernel_rfl) (run_pr (x := x) (y := ((1 : Int) + u, (1 : Int) + v)) (.inl rfl) rfl (by kernel_rfl) (by kernel_rfl) _) ?_
                    clear ha; intro a ha
                    refine st_val (.bool (decide (x = ((1 : Int) + u, (1 : Int) + v)))) ha (by kernel_rfl) (by kernel_rfl) ?_
                    clear ha; intro a ha
                    refine st_val (.bool (decide (x = ((1 : Int) + u, (1 : Int) + v)))) ha (by kernel_rfl) (by kernel_rfl) ?_
                    clear ha; intro a ha
                    refine wpList_nil ?_
                    refine block_normal ?_
                    refine then_normal ?_
                    refine wp_region_lit ?_
                    refine st_val (.int .i64 ((i : Nat) : Int)) ha (by kernel_rfl) (by kernel_rfl) ?_
                    clear ha; intro a ha
                    refine st_val (.int .i64 ((i + 1 : Nat) : Int)) ha (by kernel_rfl) (run_arith (((i : Nat) : Int) + (1 : Int)) ((i + 1 : Nat) : Int) rfl (by kernel_rfl) (by kernel_rfl) (.inl ⟨rfl, rfl⟩) (by rw [wrap64_in (by omega)]; try omega) _) ?_
                    clear ha; intro a ha
                    refine st_val (.int .i64 ((i + 1 : Nat) : Int)) ha (by kernel_rfl) (by kernel_rfl) ?_
                    clear ha; intro a ha
                    refine wpList_nil ?_
                    refine then_normal ?_
                    exact ⟨(i + 1, decide (x = ((1 : Int) + u, (1 : Int) + v))), (show e_.length - (i + 1) < e_.length - i by omega), (Has.cons ha (by kernel_rfl) (by kernel_rfl) (Has.cons ha (by kernel_rfl) (by kernel_rfl) (Has.cons ha (by kernel_rfl) (by kernel_rfl) (Has.cons ha (by kernel_rfl) (by kernel_rfl) (Has.cons ha (by kernel_rfl) (by kernel_rfl) (Has.nil ha)))))), s, (show i + 1 ≤ e_.length by omega), mem_put hpc hc1 hx⟩
                · rw [hb] at ha; have hb_ := hb; replace hb := ne_of_beq_false hb
                  refine hd_pass (i := 29) ha rfl (by kernel_rfl) (fun _ _ _ h => h) (by kernel_rfl) hS ?_
                  clear ha; intro a ha
                  refine hd_pass (i := 30) ha rfl (by kernel_rfl) (fun _ _ _ h => h) (by kernel_rfl) hS ?_
                  clear ha; intro a ha
                  refine hd_pass (i := 31) ha rfl (by kernel_rfl) (fun _ _ _ h => h) (by kernel_rfl) hS ?_
                  clear ha; intro a ha
                  refine hd_pass (i := 32) ha rfl (by kernel_rfl) (fun _ _ _ h => h) (by kernel_rfl) hS ?_
                  clear ha; intro a ha
                  refine hd_pass (i := 33) ha rfl (by kernel_rfl) (fun _ _ _ h => h) (by kernel_rfl) hS ?_
                  clear ha; intro a ha
                  refine hd_pass (i := 34) ha rfl (by kernel_rfl) (fun _ _ _ h => h) (by kernel_rfl) hS ?_
                  clear ha; intro a ha
                  refine hd_pass (i := 35) ha rfl (by kernel_rfl) (fun _ _ _ h => h) (by kernel_rfl) hS ?_
                  clear ha; intro a ha
                  refine hd_pass (i := 36) ha rfl (by kernel_rfl) (fun _ _ _ h => h) (by kernel_rfl) hS ?_
                  clear ha; intro a ha
                  refine hd_pass (i := 37) ha rfl (by kernel_rfl) (fun _ _ _ h => h) (by kernel_rfl) hS ?_
                  clear ha; intro a ha
                  refine hd_pass (i := 38) ha rfl (by kernel_rfl) (fun _ _ _ h => h) (by kernel_rfl) hS ?_
                  clear ha; intro a ha
                  refine hd_pass (i := 39) ha rfl (by kernel_rfl) (fun _ _ _ h => h) (by kernel_rfl) hS ?_
                  clear ha; intro a ha
                  refine Head.done (by kernel_rfl) ?_
                  clear hS; simp only [List.drop_succ_cons, List.drop_zero]
                  refine st_pass ha (by kernel_rfl) ?_
                  clear ha; intro a ha
                  refine st_val (.bool false) ha (by kernel_rfl) (by kernel_rfl) ?_
                  clear ha; intro a ha
                  refine st_val (.bool false) ha (by kernel_rfl) (by kernel_rfl) ?_
                  clear ha; intro a ha
                  refine st_val (.bool false) ha (by kernel_rfl) (by kernel_rfl) ?_
                  clear ha; intro a ha
                  refine wpList_nil ?_
                  refine then_normal ?_
                  refine wp_false ha rfl (by kernel_rfl) ?_
                  refine wp_skip ?_
                  refine then_normal ?_
                  refine wp_region_head 7 (fun w => Reads w 2 (some ae) e_.length (pcs e_) ∧ BlkIs g6 [.int .i64 ((1 : Int) + u), .int .i64 ((1 : Int) + v)] w ∧ True) (by kernel_rfl) (by decide) ?_
                  replace s := s.drew; generalize _root_.Go.World.drew _ = w at s ⊢
                  have hS : (fun w => Reads w 2 (some ae) e_.length (pcs e_) ∧ BlkIs g6 [.int .i64 ((1 : Int) + u), .int .i64 ((1 : Int) + v)] w ∧ True) w := ⟨(Own.reads (s.at_ (j := 0) rfl).1), s.blkIs 1 rfl, trivial⟩
                  refine hd_val (i := 0) (.bool c2) ha rfl (by kernel_rfl) (fun _ _ _ h => h) (by kernel_rfl) (fun w hS => (by kernel_rfl)) hS ?_
                  clear ha; intro a ha
                  refine hd_val (i := 1) (.bool c2) ha rfl (by kernel_rfl) (fun _ _ _ h => h) (by kernel_rfl) (fun w hS => (by kernel_rfl)) hS ?_
                  clear ha; intro a ha
                  rcases Bool.eq_false_or_eq_true c2 with hb | hb
                  · rw [hb] at ha; skip
                    have hc1 := hb
                    refine hd_pass (i := 2) ha rfl (by kernel_rfl) (fun _ _ _ h => h) (by kernel_rfl) hS ?_
                    clear ha; intro a ha
                    refine hd_pass (i := 3) ha rfl (by kernel_rfl) (fun _ _ _ h => h) (by kernel_rfl) hS ?_
                    clear ha; intro a ha
                    refine hd_pass (i := 4) ha rfl (by kernel_rfl) (fun _ _ _ h => h) (by kernel_rfl) hS ?_
                    clear ha; intro a ha
                    refine hd_pass (i := 5) ha rfl (by kernel_rfl) (fun _ _ _ h => h) (by kernel_rfl) hS ?_
                    clear ha; intro a ha
                    refine hd_pass (i := 6) ha rfl (by kernel_rfl) (fun _ _ _ h => h) (by kernel_rfl) hS ?_
                    clear ha; intro a ha
                    refine Head.done (by kernel_rfl) ?_
                    clear hS; simp only [List.drop_succ_cons, List.drop_zero]
                    refine st_pass ha (by kernel_rfl) ?_
                    clear ha; intro a ha
                    refine st_val (.bool true) ha (by kernel_rfl) (by kernel_rfl) ?_
                    clear ha; intro a ha
                    refine st_val (.bool true) ha (by kernel_rfl) (by kernel_rfl) ?_
                    clear ha; intro a ha
                    refine wpList_nil ?_
                    refine block_normal ?_
                    refine then_normal ?_
                    refine wp_region_lit ?_
                    refine st_val (.int .i64 ((i : Nat) : Int)) ha (by kernel_rfl) (by kernel_rfl) ?_
                    clear ha; intro a ha
                    refine st_val (.int .i64 ((i + 1 : Nat) : Int)) ha (by kernel_rfl) (run_arith (((i : Nat) : Int) + (1 : Int)) ((i + 1 : Nat) : Int) rfl (by kernel_rfl) (by kernel_rfl) (.inl ⟨rfl, rfl⟩) (by rw [wrap64_in (by omega)]; try omega) _) ?_
                    clear ha; intro a ha
                    refine st_val (.int .i64 ((i + 1 : Nat) : Int)) ha (by kernel_rfl) (by kernel_rfl) ?_
                    clear ha; intro a ha
                    refine wpList_nil ?_
                    refine then_normal ?_
                    exact ⟨(i + 1, true), (show e_.length - (i + 1) < e_.length - i by omega), (Has.cons ha (by kernel_rfl) (by kernel_rfl) (Has.cons ha (by kernel_rfl) (by kernel_rfl) (Has.cons ha (by kernel_rfl) (by kernel_rfl) (Has.cons ha (by kernel_rfl) (by kernel_rfl) (Has.cons ha (by kernel_rfl) (by kernel_rfl) (Has.nil ha)))))), s, (show i + 1 ≤ e_.length by omega), ⟨fun _ => by rw [take_snoc hx]; exact List.mem_append_left _ (hpc.1 hc1), fun _ => rfl⟩⟩
                  · rw [hb] at ha; skip
                    have hc1 := hb
                    refine hd_val (i := 2) (.slice (some ae) e_.length ce) ha rfl (by kernel_rfl) (fun _ _ _ h => h) (by kernel_rfl) (fun w hS => (by kernel_rfl)) hS ?_
                    clear ha; intro a ha
                    refine hd_val (i := 3) (.int .i64 ((i : Nat) : Int)) ha rfl (by kernel_rfl) (fun _ _ _ h => h) (by kernel_rfl) (fun w hS => (by kernel_rfl)) hS ?_
                    clear ha; intro a ha
                    refine hd_val (i := 4) (.pointer (some (ae.add (i * 2)))) ha rfl (by kernel_rfl) (fun _ _ _ h => h) (by kernel_rfl) (fun w hS => (run_indexAddr' (kd := .i64) (i := ((i : Nat) : Int)) (n := e_.length) (c := ce) i rfl Try.underlying47 Try.sizeOf51 (by kernel_rfl) (by kernel_rfl) rfl (by first | assumption | omega) _)) hS ?_
                    clear ha; intro a ha
                    refine hd_val (i := 5) (.agg #[.int .i64 x.1, .int .i64 x.2]) ha rfl (by kernel_rfl) (fun _ _ _ h => h) (by kernel_rfl) (fun w hS => run_loadAtN (i := i * 2) [.int .i64 x.1, .int .i64 x.2] hS.1 rfl (by kernel_rfl) Try.isAgg51 Try.sizeOf51 (fun q_ hq_ => pcs_at hx hq_) rfl) hS ?_
                    clear ha; intro a ha
                    refine hd_val (i := 6) (.agg #[.int .i64 ((1 : Int) + u), .int .i64 ((1 : Int) + v)]) ha rfl (by kernel_rfl) (fun _ _ _ h => h) (by kernel_rfl) (fun w hS => run_loadN (of_ := 0) [.int .i64 ((1 : Int) + u), .int .i64 ((1 : Int) + v)] hS.2.1 rfl (by kernel_rfl) Try.isAgg51 Try.sizeOf51 rfl (Nat.le_of_ble_eq_true rfl)) hS ?_
                    clear ha; intro a ha
                    refine Head.done (by kernel_rfl) ?_
                    clear hS; simp only [List.drop_succ_cons, List.drop_zero]
                    refine st_val (.bool (decide (x = ((1 : Int) + u, (1 : Int) + v)))) ha (by kernel_rfl) (run_pr (x := x) (y := ((1 : Int) + u, (1 : Int) + v)) (.inl rfl) rfl (by kernel_rfl) (by kernel_rfl) _) ?_
                    clear ha; intro a ha
                    refine st_val (.bool (decide (x = ((1 : Int) + u, (1 : Int) + v)))) ha (by kernel_rfl) (by kernel_rfl) ?_
                    clear ha; intro a ha
                    refine st_val (.bool (decide (x = ((1 : Int) + u, (1 : Int) + v)))) ha (by kernel_rfl) (by kernel_rfl) ?_
                    clear ha; intro a ha
                    refine wpList_nil ?_
                    refine block_normal ?_
                    refine then_normal ?_
                    refine wp_region_lit ?_
                    refine st_val (.int .i64 ((i : Nat) : Int)) ha (by kernel_rfl) (by kernel_rfl) ?_
                    clear ha; intro a ha
                    refine st_val (.int .i64 ((i + 1 : Nat) : Int)) ha (by kernel_rfl) (run_arith (((i : Nat) : Int) + (1 : Int)) ((i + 1 : Nat) : Int) rfl (by kernel_rfl) (by kernel_rfl) (.inl ⟨rfl, rfl⟩) (by rw [wrap64_in (by omega)]; try omega) _) ?_
                    clear ha; intro a ha
                    refine st_val (.int .i64 ((i + 1 : Nat) : Int)) ha (by kernel_rfl) (by kernel_rfl) ?_
                    clear ha; intro a ha
                    refine wpList_nil ?_
                    refine then_normal ?_
                    exact ⟨(i + 1, decide (x = ((1 : Int) + u, (1 : Int) + v))), (show e_.length - (i + 1) < e_.length - i by omega), (Has.cons ha (by kernel_rfl) (by kernel_rfl) (Has.cons ha (by kernel_rfl) (by kernel_rfl) (Has.cons ha (by kernel_rfl) (by kernel_rfl) (Has.cons ha (by kernel_rfl) (by kernel_rfl) (Has.cons ha (by kernel_rfl) (by kernel_rfl) (Has.nil ha)))))), s, (show i + 1 ≤ e_.length by omega), mem_put hpc hc1 hx⟩
              · rw [hb] at ha; replace hb : ¬ (((i : Nat) : Int) > (0 : Int)) := of_decide_eq_false hb
                refine hd_pass (i := 3) ha rfl (by kernel_rfl) (fun _ _ _ h => h) (by kernel_rfl) hS ?_
                clear ha; intro a ha
                refine hd_pass (i := 4) ha rfl (by kernel_rfl) (fun _ _ _ h => h) (by kernel_rfl) hS ?_
                clear ha; intro a ha
                refine hd_pass (i := 5) ha rfl (by kernel_rfl) (fun _ _ _ h => h) (by kernel_rfl) hS ?_
                clear ha; intro a ha
                refine hd_pass (i := 6) ha rfl (by kernel_rfl) (fun _ _ _ h => h) (by kernel_rfl) hS ?_
                clear ha; intro a ha
                refine hd_pass (i := 7) ha rfl (by kernel_rfl) (fun _ _ _ h => h) (by kernel_rfl) hS ?_
                clear ha; intro a ha
                refine hd_pass (i := 8) ha rfl (by kernel_rfl) (fun _ _ _ h => h) (by kernel_rfl) hS ?_
                clear ha; intro a ha
                refine hd_pass (i := 9) ha rfl (by kernel_rfl) (fun _ _ _ h => h) (by kernel_rfl) hS ?_
                clear ha; intro a ha
                refine hd_pass (i := 10) ha rfl (by kernel_rfl) (fun _ _ _ h => h) (by kernel_rfl) hS ?_
                clear ha; intro a ha
                refine hd_pass (i := 11) ha rfl (by kernel_rfl) (fun _ _ _ h => h) (by kernel_rfl) hS ?_
                clear ha; intro a ha
                refine hd_pass (i := 12) ha rfl (by kernel_rfl) (fun _ _ _ h => h) (by kernel_rfl) hS ?_
                clear ha; intro a ha
                refine hd_pass (i := 13) ha rfl (by kernel_rfl) (fun _ _ _ h => h) (by kernel_rfl) hS ?_
                clear ha; intro a ha
                refine hd_pass (i := 14) ha rfl (by kernel_rfl) (fun _ _ _ h => h) (by kernel_rfl) hS ?_
                clear ha; intro a ha
                refine hd_pass (i := 15) ha rfl (by kernel_rfl) (fun _ _ _ h => h) (by kernel_rfl) hS ?_
                clear ha; intro a ha
                refine hd_pass (i := 16) ha rfl (by kernel_rfl) (fun _ _ _ h => h) (by kernel_rfl) hS ?_
                clear ha; intro a ha
                refine hd_pass (i := 17) ha rfl (by kernel_rfl) (fun _ _ _ h => h) (by kernel_rfl) hS ?_
                clear ha; intro a ha
                refine hd_pass (i := 18) ha rfl (by kernel_rfl) (fun _ _ _ h => h) (by kernel_rfl) hS ?_
                clear ha; intro a ha
                refine hd_pass (i := 19) ha rfl (by kernel_rfl) (fun _ _ _ h => h) (by kernel_rfl) hS ?_
                clear ha; intro a ha
                refine hd_pass (i := 20) ha rfl (by kernel_rfl) (fun _ _ _ h => h) (by kernel_rfl) hS ?_
                clear ha; intro a ha
                refine hd_pass (i := 21) ha rfl (by kernel_rfl) (fun _ _ _ h => h) (by kernel_rfl) hS ?_
                clear ha; intro a ha
                refine hd_pass (i := 22) ha rfl (by kernel_rfl) (fun _ _ _ h => h) (by kernel_rfl) hS ?_
                clear ha; intro a ha
                refine hd_pass (i := 23) ha rfl (by kernel_rfl) (fun _ _ _ h => h) (by kernel_rfl) hS ?_
                clear ha; intro a ha
                refine hd_pass (i := 24) ha rfl (by kernel_rfl) (fun _ _ _ h => h) (by kernel_rfl) hS ?_
                clear ha; intro a ha
                refine hd_pass (i := 25) ha rfl (by kernel_rfl) (fun _ _ _ h => h) (by kernel_rfl) hS ?_
                clear ha; intro a ha
                refine hd_pass (i := 26) ha rfl (by kernel_rfl) (fun _ _ _ h => h) (by kernel_rfl) hS ?_
                clear ha; intro a ha
                refine hd_pass (i := 27) ha rfl (by kernel_rfl) (fun _ _ _ h => h) (by kernel_rfl) hS ?_
                clear ha; intro a ha
                refine hd_pass (i := 28) ha rfl (by kernel_rfl) (fun _ _ _ h => h) (by kernel_rfl) hS ?_
                clear ha; intro a ha
                refine hd_pass (i := 29) ha rfl (by kernel_rfl) (fun _ _ _ h => h) (by kernel_rfl) hS ?_
                clear ha; intro a ha
                refine hd_pass (i := 30) ha rfl (by kernel_rfl) (fun _ _ _ h => h) (by kernel_rfl) hS ?_
                clear ha; intro a ha
                refine hd_pass (i := 31) ha rfl (by kernel_rfl) (fun _ _ _ h => h) (by kernel_rfl) hS ?_
                clear ha; intro a ha
                refine hd_pass (i := 32) ha rfl (by kernel_rfl) (fun _ _ _ h => h) (by kernel_rfl) hS ?_
                clear ha; intro a ha
                refine hd_pass (i := 33) ha rfl (by kernel_rfl) (fun _ _ _ h => h) (by kernel_rfl) hS ?_
                clear ha; intro a ha
                refine hd_pass (i := 34) ha rfl (by kernel_rfl) (fun _ _ _ h => h) (by kernel_rfl) hS ?_
                clear ha; intro a ha
                refine hd_pass (i := 35) ha rfl (by kernel_rfl) (fun _ _ _ h => h) (by kernel_rfl) hS ?_
                clear ha; intro a ha
                refine hd_pass (i := 36) ha rfl (by kernel_rfl) (fun _ _ _ h => h) (by kernel_rfl) hS ?_
                clear ha; intro a ha
                refine hd_pass (i := 37) ha rfl (by kernel_rfl) (fun _ _ _ h => h) (by kernel_rfl) hS ?_
                clear ha; intro a ha
                refine hd_pass (i := 38) ha rfl (by kernel_rfl) (fun _ _ _ h => h) (by kernel_rfl) hS ?_
                clear ha; intro a ha
                refine hd_pass (i := 39) ha rfl (by kernel_rfl) (fun _ _ _ h => h) (by kernel_rfl) hS ?_
                clear ha; intro a ha
                refine Head.done (by kernel_rfl) ?_
                clear hS; simp only [List.drop_succ_cons, List.drop_zero]
                refine st_pass ha (by kernel_rfl) ?_
                clear ha; intro a ha
                refine st_pass ha (by kernel_rfl) ?_
                clear ha; intro a ha
                refine st_pass ha (by kernel_rfl) ?_
                clear ha; intro a ha
                refine st_val (.bool false) ha (by kernel_rfl) (by kernel_rfl) ?_
                clear ha; intro a ha
                refine wpList_nil ?_
                refine then_normal ?_
                refine wp_false ha rfl (by kernel_rfl) ?_
                refine wp_skip ?_
                refine then_normal ?_
                refine wp_region_head 7 (fun w => Reads w 2 (some ae) e_.length (pcs e_) ∧ BlkIs g6 [.int .i64 ((1 : Int) + u), .int .i64 ((1 : Int) + v)] w ∧ True) (by kernel_rfl) (by decide) ?_
                replace s := s.drew; generalize _root_.Go.World.drew _ = w at s ⊢
                have hS : (fun w => Reads w 2 (some ae) e_.length (pcs e_) ∧ BlkIs g6 [.int .i64 ((1 : Int) + u), .int .i64 ((1 : Int) + v)] w ∧ True) w := ⟨(Own.reads (s.at_ (j := 0) rfl).1), s.blkIs 1 rfl, trivial⟩
                refine hd_val (i := 0) (.bool c2) ha rfl (by kernel_rfl) (fun _ _ _ h => h) (by kernel_rfl) (fun w hS => (by kernel_rfl)) hS ?_
                clear ha; intro a ha
                refine hd_val (i := 1) (.bool c2) ha rfl (by kernel_rfl) (fun _ _ _ h => h) (by kernel_rfl) (fun w hS => (by kernel_rfl)) hS ?_
                clear ha; intro a ha
                rcases Bool.eq_false_or_eq_true c2 with hb | hb
                · rw [hb] at ha; skip
                  have hc1 := hb
                  refine hd_pass (i := 2) ha rfl (by kernel_rfl) (fun _ _ _ h => h) (by kernel_rfl) hS ?_
                  clear ha; intro a ha
                  refine hd_pass (i := 3) ha rfl (by kernel_rfl) (fun _ _ _ h => h) (by kernel_rfl) hS ?_
                  clear ha; intro a ha
                  refine hd_pass (i := 4) ha rfl (by kernel_rfl) (fun _ _ _ h => h) (by kernel_rfl) hS ?_
                  clear ha; intro a ha
                  refine hd_pass (i := 5) ha rfl (by kernel_rfl) (fun _ _ _ h => h) (by kernel_rfl) hS ?_
                  clear ha; intro a ha
                  refine hd_pass (i := 6) ha rfl (by kernel_rfl) (fun _ _ _ h => h) (by kernel_rfl) hS ?_
                  clear ha; intro a ha
                  refine Head.done (by kernel_rfl) ?_
                  clear hS; simp only [List.drop_succ_cons, List.drop_zero]
                  refine st_pass ha (by kernel_rfl) ?_
                  clear ha; intro a ha
                  refine st_val (.bool true) ha (by kernel_rfl) (by kernel_rfl) ?_
                  clear ha; intro a ha
                  refine st_val (.bool true) ha (by kernel_rfl) (by kernel_rfl) ?_
                  clear ha; intro a ha
                  refine wpList_nil ?_
                  refine block_normal ?_
                  refine then_normal ?_
                  refine wp_region_lit ?_
                  refine st_val (.int .i64 ((i : Nat) : Int)) ha (by kernel_rfl) (by kernel_rfl) ?_
                  clear ha; intro a ha
                  refine st_val (.int .i64 ((i + 1 : Nat) : Int)) ha (by kernel_rfl) (run_arith (((i : Nat) : Int) + (1 : Int)) ((i + 1 : Nat) : Int) rfl (by kernel_rfl) (by kernel_rfl) (.inl ⟨rfl, rfl⟩) (by rw [wrap64_in (by omega)]; try omega) _) ?_
                  clear ha; intro a ha
                  refine st_val (.int .i64 ((i + 1 : Nat) : Int)) ha (by kernel_rfl) (by kernel_rfl) ?_
                  clear ha; intro a ha
                  refine wpList_nil ?_
                  refine then_normal ?_
                  exact ⟨(i + 1, true), (show e_.length - (i + 1) < e_.length - i by omega), (Has.cons ha (by kernel_rfl) (by kernel_rfl) (Has.cons ha (by kernel_rfl) (by kernel_rfl) (Has.cons ha (by kernel_rfl) (by kernel_rfl) (Has.cons ha (by kernel_rfl) (by kernel_rfl) (Has.cons ha (by kernel_rfl) (by kernel_rfl) (Has.nil ha)))))), s, (show i + 1 ≤ e_.length by omega), ⟨fun _ => by rw [take_snoc hx]; exact List.mem_append_left _ (hpc.1 hc1), fun _ => rfl⟩⟩
                · rw [hb] at ha; skip
                  have hc1 := hb
                  refine hd_val (i := 2) (.slice (some ae) e_.length ce) ha rfl (by kernel_rfl) (fun _ _ _ h => h) (by kernel_rfl) (fun w hS => (by kernel_rfl)) hS ?_
                  clear ha; intro a ha
                  refine hd_val (i := 3) (.int .i64 ((i : Nat) : Int)) ha rfl (by kernel_rfl) (fun _ _ _ h => h) (by kernel_rfl) (fun w hS => (by kernel_rfl)) hS ?_
                  clear ha; intro a ha
                  refine hd_val (i := 4) (.pointer (some (ae.add (i * 2)))) ha rfl (by kernel_rfl) (fun _ _ _ h => h) (by kernel_rfl) (fun w hS => (run_indexAddr' (kd := .i64) (i := ((i : Nat) : Int)) (n := e_.length) (c := ce) i rfl Try.underlying47 Try.sizeOf51 (by kernel_rfl) (by kernel_rfl) rfl (by first | assumption | omega) _)) hS ?_
                  clear ha; intro a ha
                  refine hd_val (i := 5) (.agg #[.int .i64 x.1, .int .i64 x.2]) ha rfl (by kernel_rfl) (fun _ _ _ h => h) (by kernel_rfl) (fun w hS => run_loadAtN (i := i * 2) [.int .i64 x.1, .int .i64 x.2] hS.1 rfl (by kernel_rfl) Try.isAgg51 Try.sizeOf51 (fun q_ hq_ => pcs_at hx hq_) rfl) hS ?_
                  clear ha; intro a ha
                  refine hd_val (i := 6) (.agg #[.int .i64 ((1 : Int) + u), .int .i64 ((1 : Int) + v)]) ha rfl (by kernel_rfl) (fun _ _ _ h => h) (by kernel_rfl) (fun w hS => run_loadN (of_ := 0) [.int .i64 ((1 : Int) + u), .int .i64 ((1 : Int) + v)] hS.2.1 rfl (by kernel_rfl) Try.isAgg51 Try.sizeOf51 rfl (Nat.le_of_ble_eq_true rfl)) hS ?_
                  clear ha; intro a ha
                  refine Head.done (by kernel_rfl) ?_
                  clear hS; simp only [List.drop_succ_cons, List.drop_zero]
                  refine st_val (.bool (decide (x = ((1 : Int) + u, (1 : Int) + v)))) ha (by kernel_rfl) (run_pr (x := x) (y := ((1 : Int) + u, (1 : Int) + v)) (.inl rfl) rfl (by kernel_rfl) (by kernel_rfl) _) ?_
                  clear ha; intro a ha
                  refine st_val (.bool (decide (x = ((1 : Int) + u, (1 : Int) + v)))) ha (by kernel_rfl) (by kernel_rfl) ?_
                  clear ha; intro a ha
                  refine st_val (.bool (decide (x = ((1 : Int) + u, (1 : Int) + v)))) ha (by kernel_rfl) (by kernel_rfl) ?_
                  clear ha; intro a ha
                  refine wpList_nil ?_
                  refine block_normal ?_
                  refine then_normal ?_
                  refine wp_region_lit ?_
                  refine st_val (.int .i64 ((i : Nat) : Int)) ha (by kernel_rfl) (by kernel_rfl) ?_
                  clear ha; intro a ha
                  refine st_val (.int .i64 ((i + 1 : Nat) : Int)) ha (by kernel_rfl) (run_arith (((i : Nat) : Int) + (1 : Int)) ((i + 1 : Nat) : Int) rfl (by kernel_rfl) (by kernel_rfl) (.inl ⟨rfl, rfl⟩) (by rw [wrap64_in (by omega)]; try omega) _) ?_
                  clear ha; intro a ha
                  refine st_val (.int .i64 ((i + 1 : Nat) : Int)) ha (by kernel_rfl) (by kernel_rfl) ?_
                  clear ha; intro a ha
                  refine wpList_nil ?_
                  refine then_normal ?_
                  exact ⟨(i + 1, decide (x = ((1 : Int) + u, (1 : Int) + v))), (show e_.length - (i + 1) < e_.length - i by omega), (Has.cons ha (by kernel_rfl) (by kernel_rfl) (Has.cons ha (by kernel_rfl) (by kernel_rfl) (Has.cons ha (by kernel_rfl) (by kernel_rfl) (Has.cons ha (by kernel_rfl) (by kernel_rfl) (Has.cons ha (by kernel_rfl) (by kernel_rfl) (Has.nil ha)))))), s, (show i + 1 ≤ e_.length by omega), mem_put hpc hc1 hx⟩
            · rw [hb] at ha; replace hb : ¬ (((i : Nat) : Int) < ((e_.length : Nat) : Int)) := of_decide_eq_false hb
              refine wp_exit ?_
              refine then_exit ?_
              refine then_exit ?_
              refine block_hit ?_
              refine then_normal ?_
              refine wp_seq ?_
              refine wp_region_lit ?_
              refine st_val (.bool b) ha (by kernel_rfl) (by kernel_rfl) ?_
              clear ha; intro a ha
              refine st_val (.bool c2) ha (by kernel_rfl) (by kernel_rfl) ?_
              clear ha; intro a ha
              refine st_val (.bool (b == c2)) ha (by kernel_rfl) (by kernel_rfl) ?_
              clear ha; intro a ha
              refine st_val (.bool (b == c2)) ha (by kernel_rfl) (by kernel_rfl) ?_
              clear ha; intro a ha
              refine wpList_nil ?_
              refine then_normal ?_
              refine wp_ret ?_
              refine ret_with (v := .bool (b == c2)) ha (results_1 rfl ha (res_tmp (by kernel_rfl) (by kernel_rfl))) ?_
              replace s := s.tail.tail
              replace s : St W (L) w := s
              have hc := hp.2
              rw [List.take_of_length_le (by omega)] at hc
              have hbc : b = c2 := by rw [Bool.eq_iff_iff, hpb, hc, hE.mem]
              subst hbc
              exact ⟨by simp, s⟩
      · rw [hb] at ha; replace hb : ¬ (((k : Nat) : Int) < ((n : Nat) : Int)) := of_decide_eq_false hb
        have hpf := hp.2.1
        have hpb := hp.2.2.2
        refine st_pass ha (by kernel_rfl) ?_
        clear ha; intro a ha
        refine st_pass ha (by kernel_rfl) ?_
        clear ha; intro a ha
        refine st_val (.bool false) ha (by kernel_rfl) (by kernel_rfl) ?_
        clear ha; intro a ha
        refine wpList_nil ?_
        refine then_normal ?_
        refine wp_false ha rfl (by kernel_rfl) ?_
        refine wp_exit ?_
        refine then_exit ?_
        refine then_exit ?_
        refine block_hit ?_
        refine then_normal ?_
        refine wp_seq ?_
        refine wp_region_lit ?_
        refine st_val (.pointer (some ⟨g2, 0, none⟩)) ha (by kernel_rfl) (by kernel_rfl) ?_
        clear ha; intro a ha
        refine st_call ha (by kernel_rfl) (by kernel_rfl) (edges_lob W hW _ w g2 l hpf s) ?_
        rintro _ w ⟨Ae, ce, e_, rfl, hE, s⟩
        have hel := hE.len_le
        have hll := hpf.2
        replace s : St W (Own 51 2 Ae e_.length ce (pcs e_) :: Lob g2 l :: .blk g6 [.int .i64 ((1 : Int) + u), .int .i64 ((1 : Int) + v)] 51 :: L) w := s
        refine ⟨_, rfl, ?_⟩; clear ha; intro a ha
        refine st_val (.slice Ae e_.length ce) ha (by kernel_rfl) (by kernel_rfl) ?_
        clear ha; intro a ha
        refine wpList_nil ?_
        refine then_normal ?_
        refine wp_seq ?_
        refine wp_region_lit ?_
        refine st_val (.bool false) ha (by kernel_rfl) (by kernel_rfl) ?_
        clear ha; intro a ha
        refine wpList_nil ?_
        refine then_normal ?_
        refine wp_seq ?_
        refine wp_seq ?_
        refine wp_region_lit ?_
        refine st_val (.int .i64 0) ha (by kernel_rfl) (by kernel_rfl) ?_
        clear ha; intro a ha
        refine wpList_nil ?_
        refine then_normal ?_
        refine wp_block ?_
        replace s := s.at_ (j := 2) rfl
        replace s : St W (.blk g6 [.int .i64 ((1 : Int) + u), .int .i64 ((1 : Int) + v)] 51 :: Own 51 2 Ae e_.length ce (pcs e_) :: Lob g2 l :: L) w := s
        replace s := s.at_ (j := 1) rfl
        replace s : St W (Own 51 2 Ae e_.length ce (pcs e_) :: .blk g6 [.int .i64 ((1 : Int) + u), .int .i64 ((1 : Int) + v)] 51 :: Lob g2 l :: L) w := s
        replace s : St W (Own 51 2 Ae e_.length ce (pcs e_) :: .blk g6 [.int .i64 ((1 : Int) + u), .int .i64 ((1 : Int) + v)] 51 :: L) w := St.mid (A := [Own 51 2 Ae e_.length ce (pcs e_), .blk g6 [.int .i64 ((1 : Int) + u), .int .i64 ((1 : Int) + v)] 51]) (B := [Lob g2 l]) s
        refine wp_loopG (G := (Nat × Bool)) (fun ⟨i, c2⟩ a w => Has a 137 [(6, .pointer (some ⟨g6, 0, none⟩)), (7, .bool b), (12, .slice Ae e_.length ce), (13, .bool c2), (14, .int .i64 ((i : Nat) : Int))] ∧ St W (Own 51 2 Ae e_.length ce (pcs e_) :: .blk g6 [.int .i64 ((1 : Int) + u), .int .i64 ((1 : Int) + v)] 51 :: L) w ∧ (i ≤ e_.length ∧ (c2 = true ↔ (1 + u, 1 + v) ∈ e_.take i))) (fun ⟨i, c2⟩ => e_.length - i) (0, false) ?_ ?_
        · exact ⟨(Has.cons ha (by kernel_rfl) (by kernel_rfl) (Has.cons ha (by kernel_rfl) (by kernel_rfl) (Has.cons ha (by kernel_rfl) (by kernel_rfl) (Has.cons ha (by kernel_rfl) (by kernel_rfl) (Has.cons ha (by kernel_rfl) (by kernel_rfl) (Has.nil ha)))))), s, ⟨Nat.zero_le _, by simp⟩⟩
        · clear ha s; rintro ⟨i, c2⟩ a w ⟨ha, s, hp⟩
          refine wp_seq ?_
          refine wp_seq ?_
          refine wp_region_lit ?_
          refine st_val (.int .i64 ((i : Nat) : Int)) ha (by kernel_rfl) (by kernel_rfl) ?_
          clear ha; intro a ha
          refine st_val (.slice Ae e_.length ce) ha (by kernel_rfl) (by kernel_rfl) ?_
          clear ha; intro a ha
          refine st_val (.int .i64 ((e_.length : Nat) : Int)) ha (by kernel_rfl) (by kernel_rfl) ?_
          clear ha; intro a ha
          refine st_val (.bool (decide (((i : Nat) : Int) < ((e_.length : Nat) : Int)))) ha (by kernel_rfl) (by kernel_rfl) ?_
          clear ha; intro a ha
          refine wpList_nil ?_
          refine then_normal ?_
          refine wp_part (decide (((i : Nat) : Int) < ((e_.length : Nat) : Int))) ha rfl (by kernel_rfl) (fun hb => ?_) (fun hb => ?_)
          · rw [hb] at ha; replace hb : (((i : Nat) : Int) < ((e_.length : Nat) : Int)) := of_decide_eq_true hb
            have hpc := hp.2
            obtain ⟨x, hx⟩ : ∃ x, e_[i]? = some x := ⟨_, List.getElem?_eq_getElem (by omega)⟩
            obtain ⟨ae, hAe⟩ := Own.addr (s.at_ (j := 0) rfl) (by omega)
            subst hAe
            refine wp_skip ?_
            refine then_normal ?_
            refine wp_seq ?_
            refine wp_block ?_
            refine wp_seq ?_
            refine wp_seq ?_
            refine wp_region_head 40 (fun w => Reads w 2 (some ae) e_.length (pcs e_) ∧ True) (by kernel_rfl) (by decide) ?_
            replace s := s.drew; generalize _root_.Go.World.drew _ = w at s ⊢
            have hS : (fun w => Reads w 2 (some ae) e_.length (pcs e_) ∧ True) w := ⟨(Own.reads (s.at_ (j := 0) rfl).1), trivial⟩
            refine hd_val (i := 0) (.int .i64 ((i : Nat) : Int)) ha rfl (by kernel_rfl) (fun _ _ _ h => h) (by kernel_rfl) (fun w hS => (by kernel_rfl)) hS ?_
            clear ha; intro a ha
            refine hd_val (i := 1) (.bool (decide (((i : Nat) : Int) > (0 : Int)))) ha rfl (by kernel_rfl) (fun _ _ _ h => h) (by kernel_rfl) (fun w hS => (by kernel_rfl)) hS ?_
            clear ha; intro a ha
            refine hd_val (i := 2) (.bool (decide (((i : Nat) : Int) > (0 : Int)))) ha rfl (by kernel_rfl) (fun _ _ _ h => h) (by kernel_rfl) (fun w hS => (by kernel_rfl)) hS ?_
            clear ha; intro a ha
            rcases Bool.eq_false_or_eq_true (decide (((i : Nat) : Int) > (0 : Int))) with hb | hb
            · rw [hb] at ha; replace hb : (((i : Nat) : Int) > (0 : Int)) := of_decide_eq_true hb
              obtain ⟨y, hy⟩ : ∃ y, e_[i - 1]? = some y := ⟨_, List.getElem?_eq_getElem (by omega)⟩
              have hyx : ltP y x := by
                obtain ⟨h1, e1⟩ := List.getElem?_eq_some_iff.1 hx
                obtain ⟨h2, e2⟩ := List.getElem?_eq_some_iff.1 hy
                rw [← e1, ← e2]; exact List.pairwise_iff_getElem.1 hE.up (i - 1) i h2 h1 (by omega)
              unfold ltP at hyx
              refine hd_val (i := 3) (.slice (some ae) e_.length ce) ha rfl (by kernel_rfl) (fun _ _ _ h => h) (by kernel_rfl) (fun w hS => (by kernel_rfl)) hS ?_
              clear ha; intro a ha
              refine hd_val (i := 4) (.int .i64 ((i : Nat) : Int)) ha rfl (by kernel_rfl) (fun _ _ _ h => h) (by kernel_rfl) (fun w hS => (by kernel_rfl)) hS ?_
              clear ha; intro a ha
              refine hd_val (i := 5) (.pointer (some (ae.add (i * 2)))) ha rfl (by kernel_rfl) (fun _ _ _ h => h) (by kernel_rfl) (fun w hS => (run_indexAddr' (kd := .i64) (i := ((i : Nat) : Int)) (n := e_.length) (c := ce) i rfl Try.underlying47 Try.sizeOf51 (by kernel_rfl) (by kernel_rfl) rfl (by first | assumption | omega) _)) hS ?_
              clear ha; intro a ha
              refine hd_val (i := 6) (.pointer (some (ae.add (i * 2 + 0 * 1)))) ha rfl (by kernel_rfl) (fun _ _ _ h => h) (by kernel_rfl) (fun w hS => (run_indexArr_at (kd := .i64) (i := i * 2) (z := 0) 0 rfl Try.underlying51 Try.sizeOf3 (by kernel_rfl) (by kernel_rfl) rfl (by first | assumption | omega) _)) hS ?_
              clear ha; intro a ha
              refine hd_val (i := 7) (.int .i64 x.1) ha rfl (by kernel_rfl) (fun _ _ _ h => h) (by kernel_rfl) (fun w hS => run_loadAt1 (i := i * 2 + 0 * 1) hS.1 rfl (by kernel_rfl) Try.isAgg3 (by rw [show i * 2 + 0 * 1 = i * 2 + 0 by omega, pcs_at hx (by omega)]; rfl)) hS ?_
              clear ha; intro a ha
              refine hd_val (i := 8) (.slice (some ae) e_.length ce) ha rfl (by kernel_rfl) (fun _ _ _ h => h) (by kernel_rfl) (fun w hS => (by kernel_rfl)) hS ?_
              clear ha; intro a ha
              refine hd_val (i := 9) (.int .i64 ((i : Nat) : Int)) ha rfl (by kernel_rfl) (fun _ _ _ h => h) (by kernel_rfl) (fun w hS => (by kernel_rfl)) hS ?_
              clear ha; intro a ha
              refine hd_val (i := 10) (.int .i64 ((i - 1 : Nat) : Int)) ha rfl (by kernel_rfl) (fun _ _ _ h => h) (by kernel_rfl) (fun w hS => (run_arith (((i : Nat) : Int) - (1 : Int)) ((i - 1 : Nat) : Int) rfl (by kernel_rfl) (by kernel_rfl) (.inr (.inl ⟨rfl, rfl⟩)) (by rw [wrap64_in (by omega)]; try omega) _)) hS ?_
              clear ha; intro a ha
              refine hd_val (i := 11) (.pointer (some (ae.add ((i - 1) * 2)))) ha rfl (by kernel_rfl) (fun _ _ _ h => h) (by kernel_rfl) (fun w hS => (run_indexAddr' (kd := .i64) (i := ((i - 1 : Nat) : Int)) (n := e_.length) (c := ce) (i - 1) rfl Try.underlying47 Try.sizeOf51 (by kernel_rfl) (by kernel_rfl) rfl (by first | assumption | omega) _)) hS ?_
              clear ha; intro a ha
              refine hd_val (i := 12) (.pointer (some (ae.add ((i - 1) * 2 + 0 * 1)))) ha rfl (by kernel_rfl) (fun _ _ _ h => h) (by kernel_rfl) (fun w hS => (run_indexArr_at (kd := .i64) (i := (i - 1) * 2) (z := 0) 0 rfl Try.underlying51 Try.sizeOf3 (by kernel_rfl) (by kernel_rfl) rfl (by first | assumption | omega) _)) hS ?_
              clear ha; intro a ha
              refine hd_val (i := 13) (.int .i64 y.1) ha rfl (by kernel_rfl) (fun _ _ _ h => h) (by kernel_rfl) (fun w hS => run_loadAt1 (i := (i - 1) * 2 + 0 * 1) hS.1 rfl (by kernel_rfl) Try.isAgg3 (by rw [show (i - 1) * 2 + 0 * 1 = (i - 1) * 2 + 0 by omega, pcs_at hy (by omega)]; rfl)) hS ?_
              clear ha; intro a ha
              refine hd_val (i := 14) (.bool false) ha rfl (by kernel_rfl) (fun _ _ _ h => h) (by kernel_rfl) (fun w hS => (run_known (show (decide (x.1 < y.1)) = false from decide_eq_false (by omega)) (by kernel_rfl))) hS ?_
              clear ha; intro a ha
              refine hd_val (i := 15) (.bool false) ha rfl (by kernel_rfl) (fun _ _ _ h => h) (by kernel_rfl) (fun w hS => (by kernel_rfl)) hS ?_
              clear ha; intro a ha
              refine hd_val (i := 16) (.slice (some ae) e_.length ce) ha rfl (by kernel_rfl) (fun _ _ _ h => h) (by kernel_rfl) (fun w hS => (by kernel_rfl)) hS ?_
              clear ha; intro a ha
              refine hd_val (i := 17) (.int .i64 ((i : Nat) : Int)) ha rfl (by kernel_rfl) (fun _ _ _ h => h) (by kernel_rfl) (fun w hS => (by kernel_rfl)) hS ?_
              clear ha; intro a ha
              refine hd_val (i := 18) (.pointer (some (ae.add (i * 2)))) ha rfl (by kernel_rfl) (fun _ _ _ h => h) (by kernel_rfl) (fun w hS => (run_indexAddr' (kd := .i64) (i := ((i : Nat) : Int)) (n := e_.length) (c := ce) i rfl Try.underlying47 Try.sizeOf51 (by kernel_rfl) (by kernel_rfl) rfl (by first | assumption | omega) _)) hS ?_
              clear ha; intro a ha
              refine hd_val (i := 19) (.pointer (some (ae.add (i * 2 + 0 * 1)))) ha rfl (by kernel_rfl) (fun _ _ _ h => h) (by kernel_rfl) (fun w hS => (run_indexArr_at (kd := .i64) (i := i * 2) (z := 0) 0 rfl Try.underlying51 Try.sizeOf3 (by kernel_rfl) (by kernel_rfl) rfl (by first | assumption | omega) _)) hS ?_
              clear ha; intro a ha
              refine hd_val (i := 20) (.int .i64 x.1) ha rfl (by kernel_rfl) (fun _ _ _ h => h) (by kernel_rfl) (fun w hS => run_loadAt1 (i := i * 2 + 0 * 1) hS.1 rfl (by kernel_rfl) Try.isAgg3 (by rw [show i * 2 + 0 * 1 = i * 2 + 0 by omega, pcs_at hx (by omega)]; rfl)) hS ?_
              clear ha; intro a ha
              refine hd_val (i := 21) (.slice (some ae) e_.length ce) ha rfl (by kernel_rfl) (fun _ _ _ h => h) (by kernel_rfl) (fun w hS => (by kernel_rfl)) hS ?_
              clear ha; intro a ha
              refine hd_val (i := 22) (.int .i64 ((i : Nat) : Int)) ha rfl (by kernel_rfl) (fun _ _ _ h => h) (by kernel_rfl) (fun w hS => (by kernel_rfl)) hS ?_
              clear ha; intro a ha
              refine hd_val (i := 23) (.int .i64 ((i - 1 : Nat) : Int)) ha rfl (by kernel_rfl) (fun _ _ _ h => h) (by kernel_rfl) (fun w hS => (run_arith (((i : Nat) : Int) - (1 : Int)) ((i - 1 : Nat) : Int) rfl (by kernel_rfl) (by kernel_rfl) (.inr (.inl ⟨rfl, rfl⟩)) (by rw [wrap64_in (by omega)]; try omega) _)) hS ?_
              clear ha; intro a ha
              refine hd_val (i := 24) (.pointer (some (ae.add ((i - 1) * 2)))) ha rfl (by kernel_rfl) (fun _ _ _ h => h) (by kernel_rfl) (fun w hS => (run_indexAddr' (kd := .i64) (i := ((i - 1 : Nat) : Int)) (n := e_.length) (c := ce) (i - 1) rfl Try.underlying47 Try.sizeOf51 (by kernel_rfl) (by kernel_rfl) rfl (by first | assumption | omega) _)) hS ?_
              clear ha; intro a ha
              refine hd_val (i := 25) (.pointer (some (ae.add ((i - 1) * 2 + 0 * 1)))) ha rfl (by kernel_rfl) (fun _ _ _ h => h) (by kernel_rfl) (fun w hS => (run_indexArr_at (kd := .i64) (i := (i - 1) * 2) (z := 0) 0 rfl Try.underlying51 Try.sizeOf3 (by kernel_rfl) (by kernel_rfl) rfl (by first | assumption | omega) _)) hS ?_
              clear ha; intro a ha
              refine hd_val (i := 26) (.int .i64 y.1) ha rfl (by kernel_rfl) (fun _ _ _ h => h) (by kernel_rfl) (fun w hS => run_loadAt1 (i := (i - 1) * 2 + 0 * 1) hS.1 rfl (by kernel_rfl) Try.isAgg3 (by rw [show (i - 1) * 2 + 0 * 1 = (i - 1) * 2 + 0 by omega, pcs_at hy (by omega)]; rfl)) hS ?_
              clear ha; intro a ha
              refine hd_val (i := 27) (.bool (x.1 == y.1)) ha rfl (by kernel_rfl) (fun _ _ _ h => h) (by kernel_rfl) (fun w hS => (by kernel_rfl)) hS ?_
              clear ha; intro a ha
              refine hd_val (i := 28) (.bool (x.1 == y.1)) ha rfl (by kernel_rfl) (fun _ _ _ h => h) (by kernel_rfl) (fun w hS => (by kernel_rfl)) hS ?_
              clear ha; intro a ha
              rcases Bool.eq_false_or_eq_true (x.1 == y.1) with hb | hb
              · rw [hb] at ha; have hb_ := hb; replace hb := eq_of_beq hb
                refine hd_val (i := 29) (.slice (some ae) e_.length ce) ha rfl (by kernel_rfl) (fun _ _ _ h => h) (by kernel_rfl) (fun w hS => (by kernel_rfl)) hS ?_
                clear ha; intro a ha
                refine hd_val (i := 30) (.int .i64 ((i : Nat) : Int)) ha rfl (by kernel_rfl) (fun _ _ _ h => h) (by kernel_rfl) (fun w hS => (by kernel_rfl)) hS ?_
                clear ha; intro a ha
                refine hd_val (i := 31) (.pointer (some (ae.add (i * 2)))) ha rfl (by kernel_rfl) (fun _ _ _ h => h) (by kernel_rfl) (fun w hS => (run_indexAddr' (kd := .i64) (i := ((i : Nat) : Int)) (n := e_.length) (c := ce) i rfl Try.underlying47 Try.sizeOf51 (by kernel_rfl) (by kernel_rfl) rfl (by first | assumption | omega) _)) hS ?_
                clear ha; intro a ha
                refine hd_val (i := 32) (.pointer (some (ae.add (i * 2 + 1 * 1)))) ha rfl (by kernel_rfl) (fun _ _ _ h => h) (by kernel_rfl) (fun w hS => (run_indexArr_at (kd := .i64) (i := i * 2) (z := 1) 1 rfl Try.underlying51 Try.sizeOf3 (by kernel_rfl) (by kernel_rfl) rfl (by first | assumption | omega) _)) hS ?_
                clear ha; intro a ha
                refine hd_val (i := 33) (.int .i64 x.2) ha rfl (by kernel_rfl) (fun _ _ _ h => h) (by kernel_rfl) (fun w hS => run_loadAt1 (i := i * 2 + 1 * 1) hS.1 rfl (by kernel_rfl) Try.isAgg3 (by rw [show i * 2 + 1 * 1 = i * 2 + 1 by omega, pcs_at hx (by omega)]; rfl)) hS ?_
                clear ha; intro a ha
                refine hd_val (i := 34) (.slice (some ae) e_.length ce) ha rfl (by kernel_rfl) (fun _ _ _ h => h) (by kernel_rfl) (fun w hS => (by kernel_rfl)) hS ?_
                clear ha; intro a ha
                refine hd_val (i := 35) (.int .i64 ((i : Nat) : Int)) ha rfl (by kernel_rfl) (fun _ _ _ h => h) (by kernel_rfl) (fun w hS => (by kernel_rfl)) hS ?_
                clear ha; intro a ha
                refine hd_val (i := 36) (.int .i64 ((i - 1 : Nat) : Int)) ha rfl (by kernel_rfl) (fun _ _ _ h => h) (by kernel_rfl) (fun w hS => (run_arith (((i : Nat) : Int) - (1 : Int)) ((i - 1 : Nat) : Int) rfl (by kernel_rfl) (by kernel_rfl) (.inr (.inl ⟨rfl, rfl⟩)) (by rw [wrap64_in (by omega)]; try omega) _)) hS ?_
                clear ha; intro a ha
                refine hd_val (i := 37) (.pointer (some (ae.add ((i - 1) * 2)))) ha rfl (by kernel_rfl) (fun _ _ _ h => h) (by kernel_rfl) (fun w hS => (run_indexAddr' (kd := .i64) (i := ((i - 1 : Nat) : Int)) (n := e_.length) (c := ce) (i - 1) rfl Try.underlying47 Try.sizeOf51 (by kernel_rfl) (by kernel_rfl) rfl (by first | assumption | omega) _)) hS ?_
                clear ha; intro a ha
                refine hd_val (i := 38) (.pointer (some (ae.add ((i - 1) * 2 + 1 * 1)))) ha rfl (by kernel_rfl) (fun _ _ _ h => h) (by kernel_rfl) (fun w hS => (run_indexArr_at (kd := .i64) (i := (i - 1) * 2) (z := 1) 1 rfl Try.underlying51 Try.sizeOf3 (by kernel_rfl) (by kernel_rfl) rfl (by first | assumption | omega) _)) hS ?_
                clear ha; intro a ha
                refine hd_val (i := 39) (.int .i64 y.2) ha rfl (by kernel_rfl) (fun _ _ _ h => h) (by kernel_rfl) (fun w hS => run_loadAt1 (i := (i - 1) * 2 + 1 * 1) hS.1 rfl (by kernel_rfl) Try.isAgg3 (by rw [show (i - 1) * 2 + 1 * 1 = (i - 1) * 2 + 1 by omega, pcs_at hy (by omega)]; rfl)) hS ?_
                clear ha; intro a ha
                refine Head.done (by kernel_rfl) ?_
                clear hS; simp only [List.drop_succ_cons, List.drop_zero]
                refine st_val (.bool false) ha (by kernel_rfl) (run_known (show (decide (x.2 ≤ y.2)) = false from decide_eq_false (by omega)) (by kernel_rfl)) ?_
                clear ha; intro a ha
                refine st_val (.bool false) ha (by kernel_rfl) (by kernel_rfl) ?_
                clear ha; intro a ha
                refine st_val (.bool false) ha (by kernel_rfl) (by kernel_rfl) ?_
                clear ha; intro a ha
                refine st_val (.bool false) ha (by kernel_rfl) (by kernel_rfl) ?_
                clear ha; intro a ha
                refine wpList_nil ?_
                refine then_normal ?_
                refine wp_false ha rfl (by kernel_rfl) ?_
                refine wp_skip ?_
                refine then_normal ?_
                refine wp_region_head 7 (fun w => Reads w 2 (some ae) e_.length (pcs e_) ∧ BlkIs g6 [.int .i64 ((1 : Int) + u), .int .i64 ((1 : Int) + v)] w ∧ True) (by kernel_rfl) (by decide) ?_
                replace s := s.drew; generalize _root_.Go.World.drew _ = w at s ⊢
                have hS : (fun w => Reads w 2 (some ae) e_.length (pcs e_) ∧ BlkIs g6 [.int .i64 ((1 : Int) + u), .int .i64 ((1 : Int) + v)] w ∧ True) w := ⟨(Own.reads (s.at_ (j := 0) rfl).1), s.blkIs 1 rfl, trivial⟩
                refine hd_val (i := 0) (.bool c2) ha rfl (by kernel_rfl) (fun _ _ _ h => h) (by kernel_rfl) (fun w hS => (by kernel_rfl)) hS ?_
                clear ha; intro a ha
                refine hd_val (i := 1) (.bool c2) ha rfl (by kernel_rfl) (fun _ _ _ h => h) (by kernel_rfl) (fun w hS => (by kernel_rfl)) hS ?_
                clear ha; intro a ha
                rcases Bool.eq_false_or_eq_true c2 with hb | hb
                · rw [hb] at ha; skip
                  have hc1 := hb
                  refine hd_pass (i := 2) ha rfl (by kernel_rfl) (fun _ _ _ h => h) (by kernel_rfl) hS ?_
                  clear ha; intro a ha
                  refine hd_pass (i := 3) ha rfl (by kernel_rfl) (fun _ _ _ h => h) (by kernel_rfl) hS ?_
                  clear ha; intro a ha
                  refine hd_pass (i := 4) ha rfl (by kernel_rfl) (fun _ _ _ h => h) (by kernel_rfl) hS ?_
                  clear ha; intro a ha
                  refine hd_pass (i := 5) ha rfl (by kernel_rfl) (fun _ _ _ h => h) (by kernel_rfl) hS ?_
                  clear ha; intro a ha
                  refine hd_pass (i := 6) ha rfl (by kernel_rfl) (fun _ _ _ h => h) (by kernel_rfl) hS ?_
                  clear ha; intro a ha
                  refine Head.done (by kernel_rfl) ?_
                  clear hS; simp only [List.drop_succ_cons, List.drop_zero]
                  refine st_pass ha (by kernel_rfl) ?_
                  clear ha; intro a ha
                  refine st_val (.bool true) ha (by kernel_rfl) (by kernel_rfl) ?_
                  clear ha; intro a ha
                  refine st_val (.bool true) ha (by kernel_rfl) (by kernel_rfl) ?_
                  clear ha; intro a ha
                  refine wpList_nil ?_
                  refine block_normal ?_
                  refine then_normal ?_
                  refine wp_region_lit ?_
                  refine st_val (.int .i64 ((i : Nat) : Int)) ha (by kernel_rfl) (by kernel_rfl) ?_
                  clear ha; intro a ha
                  refine st_val (.int .i64 ((i + 1 : Nat) : Int)) ha (by kernel_rfl) (run_arith (((i : Nat) : Int) + (1 : Int)) ((i + 1 : Nat) : Int) rfl (by kernel_rfl) (by kernel_rfl) (.inl ⟨rfl, rfl⟩) (by rw [wrap64_in (by omega)]; try omega) _) ?_
                  clear ha; intro a ha
                  refine st_val (.int .i64 ((i + 1 : Nat) : Int)) ha (by kernel_rfl) (by kernel_rfl) ?_
                  clear ha; intro a ha
                  refine wpList_nil ?_
                  refine then_normal ?_
                  exact ⟨(i + 1, true), (show e_.length - (i + 1) < e_.length - i by omega), (Has.cons ha (by kernel_rfl) (by kernel_rfl) (Has.cons ha (by kernel_rfl) (by kernel_rfl) (Has.cons ha (by kernel_rfl) (by kernel_rfl) (Has.cons ha (by kernel_rfl) (by kernel_rfl) (Has.cons ha (by kernel_rfl) (by kernel_rfl) (Has.nil ha)))))), s, (show i + 1 ≤ e_.length by omega), ⟨fun _ => by rw [take_snoc hx]; exact List.mem_append_left _ (hpc.1 hc1), fun _ => rfl⟩⟩
                · rw [hb] at ha; skip
                  have hc1 := hb
                  refine hd_val (i := 2) (.slice (some ae) e_.length ce) ha rfl (by kernel_rfl) (fun _ _ _ h => h) (by kernel_rfl) (fun w hS => (by kernel_rfl)) hS ?_
                  clear ha; intro a ha
                  refine hd_val (i := 3) (.int .i64 ((i : Nat) : Int)) ha rfl (by kernel_rfl) (fun _ _ _ h => h) (by kernel_rfl) (fun w hS => (by kernel_rfl)) hS ?_
                  clear ha; intro a ha
                  refine hd_val (i := 4) (.pointer (some (ae.add (i * 2)))) ha rfl (by kernel_rfl) (fun _ _ _ h => h) (by kernel_rfl) (fun w hS => (run_indexAddr' (kd := .i64) (i := ((i : Nat) : Int)) (n := e_.length) (c := ce) i rfl Try.underlying47 Try.sizeOf51 (by kernel_rfl) (by kernel_rfl) rfl (by first | assumption | omega) _)) hS ?_
                  clear ha; intro a ha
                  refine hd_val (i := 5) (.agg #[.int .i64 x.1, .int .i64 x.2]) ha rfl (by kernel_rfl) (fun _ _ _ h => h) (by kernel_rfl) (fun w hS => run_loadAtN (i := i * 2) [.int .i64 x.1, .int .i64 x.2] hS.1 rfl (by kernel_rfl) Try.isAgg51 Try.sizeOf51 (fun q_ hq_ => pcs_at hx hq_) rfl) hS ?_
                  clear ha; intro a ha
                  refine hd_val (i := 6) (.agg #[.int .i64 ((1 : Int) + u), .int .i64 ((1 : Int) + v)]) ha rfl (by kernel_rfl) (fun _ _ _ h => h) (by kernel_rfl) (fun w hS => run_loadN (of_ := 0) [.int .i64 ((1 : Int) + u), .int .i64 ((1 : Int) + v)] hS.2.1 rfl (by kernel_rfl) Try.isAgg51 Try.sizeOf51 rfl (Nat.le_of_ble_eq_true rfl)) hS ?_
                  clear ha; intro a ha
                  refine Head.done (by kernel_rfl) ?_
                  clear hS; simp only [List.drop_succ_cons, List.drop_zero]
                  refine st_val (.bool (decide (x = ((1 : Int) + u, (1 : Int) + v)))) ha (by kernel_rfl) (run_pr (x := x) (y := ((1 : Int) + u, (1 : Int) + v)) (.inl rfl) rfl (by kernel_rfl) (by kernel_rfl) _) ?_
                  clear ha; intro a ha
                  refine st_val (.bool (decide (x = ((1 : Int) + u, (1 : Int) + v)))) ha (by kernel_rfl) (by kernel_rfl) ?_
                  clear ha; intro a ha
                  refine st_val (.bool (decide (x = ((1 : Int) + u, (1 : Int) + v)))) ha (by kernel_rfl) (by kernel_rfl) ?_
                  clear ha; intro a ha
                  refine wpList_nil ?_
                  refine block_normal ?_
                  refine then_normal ?_
                  refine wp_region_lit ?_
                  refine st_val (.int .i64 ((i : Nat) : Int)) ha (by kernel_rfl) (by kernel_rfl) ?_
                  clear ha; intro a ha
                  refine st_val (.int .i64 ((i + 1 : Nat) : Int)) ha (by kernel_rfl) (run_arith (((i : Nat) : Int) + (1 : Int)) ((i + 1 : Nat) : Int) rfl (by kernel_rfl) (by kernel_rfl) (.inl ⟨rfl, rfl⟩) (by rw [wrap64_in (by omega)]; try omega) _) ?_
                  clear ha; intro a ha
                  refine st_val (.int .i64 ((i + 1 : Nat) : Int)) ha (by kernel_rfl) (by kernel_rfl) ?_
                  clear ha; intro a ha
                  refine wpList_nil ?_
                  refine then_normal ?_
                  exact ⟨(i + 1, decide (x = ((1 : Int) + u, (1 : Int) + v))), (show e_.length - (i + 1) < e_.length - i by omega), (Has.cons ha (by kernel_rfl) (by kernel_rfl) (Has.cons ha (by kernel_rfl) (by kernel_rfl) (Has.cons ha (by kernel_rfl) (by kernel_rfl) (Has.cons ha (by kernel_rfl) (by kernel_rfl) (Has.cons ha (by kernel_rfl) (by kernel_rfl) (Has.nil ha)))))), s, (show i + 1 ≤ e_.length by omega), mem_put hpc hc1 hx⟩
              · rw [hb] at ha; have hb_ := hb; replace hb := ne_of_beq_false hb
                refine hd_pass (i := 29) ha rfl (by kernel_rfl) (fun _ _ _ h => h) (by kernel_rfl) hS ?_
                clear ha; intro a ha
                refine hd_pass (i := 30) ha rfl (by kernel_rfl) (fun _ _ _ h => h) (by kernel_rfl) hS ?_
                clear ha; intro a ha
                refine hd_pass (i := 31) ha rfl (by kernel_rfl) (fun _ _ _ h => h) (by kernel_rfl) hS ?_
                clear ha; intro a ha
                refine hd_pass (i := 32) ha rfl (by kernel_rfl) (fun _ _ _ h => h) (by kernel_rfl) hS ?_
                clear ha; intro a ha
                refine hd_pass (i := 33) ha rfl (by kernel_rfl) (fun _ _ _ h => h) (by kernel_rfl) hS ?_
                clear ha; intro a ha
                refine hd_pass (i := 34) ha rfl (by kernel_rfl) (fun _ _ _ h => h) (by kernel_rfl) hS ?_
                clear ha; intro a ha
                refine hd_pass (i := 35) ha rfl (by kernel_rfl) (fun _ _ _ h => h) (by kernel_rfl) hS ?_
                clear ha; intro a ha
                refine hd_pass (i := 36) ha rfl (by kernel_rfl) (fun _ _ _ h => h) (by kernel_rfl) hS ?_
                clear ha; intro a ha
                refine hd_pass (i := 37) ha rfl (by kernel_rfl) (fun _ _ _ h => h) (by kernel_rfl) hS ?_
                clear ha; intro a ha
                refine hd_pass (i := 38) ha rfl (by kernel_rfl) (fun _ _ _ h => h) (by kernel_rfl) hS ?_
                clear ha; intro a ha
                refine hd_pass (i := 39) ha rfl (by kernel_rfl) (fun _ _ _ h => h) (by kernel_rfl) hS ?_
                clear ha; intro a ha
                refine Head.done (by kernel_rfl) ?_
                clear hS; simp only [List.drop_succ_cons, List.drop_zero]
                refine st_pass ha (by kernel_rfl) ?_
                clear ha; intro a ha
                refine st_val (.bool false) ha (by kernel_rfl) (by kernel_rfl) ?_
                clear ha; intro a ha
                refine st_val (.bool false) ha (by kernel_rfl) (by kernel_rfl) ?_
                clear ha; intro a ha
                refine st_val (.bool false) ha (by kernel_rfl) (by kernel_rfl) ?_
                clear ha; intro a ha
                refine wpList_nil ?_
                refine then_normal ?_
                refine wp_false ha rfl (by kernel_rfl) ?_
                refine wp_skip ?_
                refine then_normal ?_
                refine wp_region_head 7 (fun w => Reads w 2 (some ae) e_.length (pcs e_) ∧ BlkIs g6 [.int .i64 ((1 : Int) + u), .int .i64 ((1 : Int) + v)] w ∧ True) (by kernel_rfl) (by decide) ?_
                replace s := s.drew; generalize _root_.Go.World.drew _ = w at s ⊢
                have hS : (fun w => Reads w 2 (some ae) e_.length (pcs e_) ∧ BlkIs g6 [.int .i64 ((1 : Int) + u), .int .i64 ((1 : Int) + v)] w ∧ True) w := ⟨(Own.reads (s.at_ (j := 0) rfl).1), s.blkIs 1 rfl, trivial⟩
                refine hd_val (i := 0) (.bool c2) ha rfl (by kernel_rfl) (fun _ _ _ h => h) (by kernel_rfl) (fun w hS => (by kernel_rfl)) hS ?_
                clear ha; intro a ha
                refine hd_val (i := 1) (.bool c2) ha rfl (by kernel_rfl) (fun _ _ _ h => h) (by kernel_rfl) (fun w hS => (by kernel_rfl)) hS ?_
                clear ha; intro a ha
                rcases Bool.eq_false_or_eq_true c2 with hb | hb
                · rw [hb] at ha; skip
                  have hc1 := hb
                  refine hd_pass (i := 2) ha rfl (by kernel_rfl) (fun _ _ _ h => h) (by kernel_rfl) hS ?_
                  clear ha; intro a ha
                  refine hd_pass (i := 3) ha rfl (by kernel_rfl) (fun _ _ _ h => h) (by kernel_rfl) hS ?_
                  clear ha; intro a ha
                  refine hd_pass (i := 4) ha rfl (by kernel_rfl) (fun _ _ _ h => h) (by kernel_rfl) hS ?_
                  clear ha; intro a ha
                  refine hd_pass (i := 5) ha rfl (by kernel_rfl) (fun _ _ _ h => h) (by kernel_rfl) hS ?_
                  clear ha; intro a ha
                  refine hd_pass (i := 6) ha rfl (by kernel_rfl) (fun _ _ _ h => h) (by kernel_rfl) hS ?_
                  clear ha; intro a ha
                  refine Head.done (by kernel_rfl) ?_
                  clear hS; simp only [List.drop_succ_cons, List.drop_zero]
                  refine st_pass ha (by kernel_rfl) ?_
                  clear ha; intro a ha
                  refine st_val (.bool true) ha (by kernel_rfl) (by kernel_rfl) ?_
                  clear ha; intro a ha
                  refine st_val (.bool true) ha (by kernel_rfl) (by kernel_rfl) ?_
                  clear ha; intro a ha
                  refine wpList_nil ?_
                  refine block_normal ?_
                  refine then_normal ?_
                  refine wp_region_lit ?_
                  refine st_val (.int .i64 ((i : Nat) : Int)) ha (by kernel_rfl) (by kernel_rfl) ?_
                  clear ha; intro a ha
                  refine st_val (.int .i64 ((i + 1 : Nat) : Int)) ha (by kernel_rfl) (run_arith (((i : Nat) : Int) + (1 : Int)) ((i + 1 : Nat) : Int) rfl (by kernel_rfl) (by kernel_rfl) (.inl ⟨rfl, rfl⟩) (by rw [wrap64_in (by omega)]; try omega) _) ?_
                  clear ha; intro a ha
                  refine st_val (.int .i64 ((i + 1 : Nat) : Int)) ha (by kernel_rfl) (by kernel_rfl) ?_
                  clear ha; intro a ha
                  refine wpList_nil ?_
                  refine then_normal ?_
                  exact ⟨(i + 1, true), (show e_.length - (i + 1) < e_.length - i by omega), (Has.cons ha (by kernel_rfl) (by kernel_rfl) (Has.cons ha (by kernel_rfl) (by kernel_rfl) (Has.cons ha (by kernel_rfl) (by kernel_rfl) (Has.cons ha (by kernel_rfl) (by kernel_rfl) (Has.cons ha (by kernel_rfl) (by kernel_rfl) (Has.nil ha)))))), s, (show i + 1 ≤ e_.length by omega), ⟨fun _ => by rw [take_snoc hx]; exact List.mem_append_left _ (hpc.1 hc1), fun _ => rfl⟩⟩
                · rw [hb] at ha; skip
                  have hc1 := hb
                  refine hd_val (i := 2) (.slice (some ae) e_.length ce) ha rfl (by kernel_rfl) (fun _ _ _ h => h) (by kernel_rfl) (fun w hS => (by kernel_rfl)) hS ?_
                  clear ha; intro a ha
                  refine hd_val (i := 3) (.int .i64 ((i : Nat) : Int)) ha rfl (by kernel_rfl) (fun _ _ _ h => h) (by kernel_rfl) (fun w hS => (by kernel_rfl)) hS ?_
                  clear ha; intro a ha
                  refine hd_val (i := 4) (.pointer (some (ae.add (i * 2)))) ha rfl (by kernel_rfl) (fun _ _ _ h => h) (by kernel_rfl) (fun w hS => (run_indexAddr' (kd := .i64) (i := ((i : Nat) : Int)) (n := e_.length) (c := ce) i rfl Try.underlying47 Try.sizeOf51 (by kernel_rfl) (by kernel_rfl) rfl (by first | assumption | omega) _)) hS ?_
                  clear ha; intro a ha
                  refine hd_val (i := 5) (.agg #[.int .i64 x.1, .int .i64 x.2]) ha rfl (by kernel_rfl) (fun _ _ _ h => h) (by kernel_rfl) (fun w hS => run_loadAtN (i := i * 2) [.int .i64 x.1, .int .i64 x.2] hS.1 rfl (by kernel_rfl) Try.isAgg51 Try.sizeOf51 (fun q_ hq_ => pcs_at hx hq_) rfl) hS ?_
                  clear ha; intro a ha
                  refine hd_val (i := 6) (.agg #[.int .i64 ((1 : Int) + u), .int .i64 ((1 : Int) + v)]) ha rfl (by kernel_rfl) (fun _ _ _ h => h) (by kernel_rfl) (fun w hS => run_loadN (of_ := 0) [.int .i64 ((1 : Int) + u), .int .i64 ((1 : Int) + v)] hS.2.1 rfl (by kernel_rfl) Try.isAgg51 Try.sizeOf51 rfl (Nat.le_of_ble_eq_true rfl)) hS ?_
                  clear ha; intro a ha
                  refine Head.done (by kernel_rfl) ?_
                  clear hS; simp only [List.drop_succ_cons, List.drop_zero]
                  refine st_val (.bool (decide (x = ((1 : Int) + u, (1 : Int) + v)))) ha (by kernel_rfl) (run_pr (x := x) (y := ((1 : Int) + u, (1 : Int) + v)) (.inl rfl) rfl (by kernel_rfl) (by kernel_rfl) _) ?_
                  clear ha; intro a ha
                  refine st_val (.bool (decide (x = ((1 : Int) + u, (1 : Int) + v)))) ha (by kernel_rfl) (by kernel_rfl) ?_
                  clear ha; intro a ha
                  refine st_val (.bool (decide (x = ((1 : Int) + u, (1 : Int) + v)))) ha (by kernel_rfl) (by kernel_rfl) ?_
                  clear ha; intro a ha
                  refine wpList_nil ?_
                  refine block_normal ?_
                  refine then_normal ?_
                  refine wp_region_lit ?_
                  refine st_val (.int .i64 ((i : Nat) : Int)) ha (by kernel_rfl) (by kernel_rfl) ?_
                  clear ha; intro a ha
                  refine st_val (.int .i64 ((i + 1 : Nat) : Int)) ha (by kernel_rfl) (run_arith (((i : Nat) : Int) + (1 : Int)) ((i + 1 : Nat) : Int) rfl (by kernel_rfl) (by kernel_rfl) (.inl ⟨rfl, rfl⟩) (by rw [wrap64_in (by omega)]; try omega) _) ?_
                  clear ha; intro a ha
                  refine st_val (.int .i64 ((i + 1 : Nat) : Int)) ha (by kernel_rfl) (by kernel_rfl) ?_
                  clear ha; intro a ha
                  refine wpList_nil ?_
                  refine then_normal ?_
                  exact ⟨(i + 1, decide (x = ((1 : Int) + u, (1 : Int) + v))), (show e_.length - (i + 1) < e_.length - i by omega), (Has.cons ha (by kernel_rfl) (by kernel_rfl) (Has.cons ha (by kernel_rfl) (by kernel_rfl) (Has.cons ha (by kernel_rfl) (by kernel_rfl) (Has.cons ha (by kernel_rfl) (by kernel_rfl) (Has.cons ha (by kernel_rfl) (by kernel_rfl) (Has.nil ha)))))), s, (show i + 1 ≤ e_.length by omega), mem_put hpc hc1 hx⟩
            · rw [hb] at ha; replace hb : ¬ (((i : Nat) : Int) > (0 : Int)) := of_decide_eq_false hb
              refine hd_pass (i := 3) ha rfl (by kernel_rfl) (fun _ _ _ h => h) (by kernel_rfl) hS ?_
              clear ha; intro a ha
              refine hd_pass (i := 4) ha rfl (by kernel_rfl) (fun _ _ _ h => h) (by kernel_rfl) hS ?_
              clear ha; intro a ha
              refine hd_pass (i := 5) ha rfl (by kernel_rfl) (fun _ _ _ h => h) (by kernel_rfl) hS ?_
              clear ha; intro a ha
              refine hd_pass (i := 6) ha rfl (by kernel_rfl) (fun _ _ _ h => h) (by kernel_rfl) hS ?_
              clear ha; intro a ha
              refine hd_pass (i := 7) ha rfl (by kernel_rfl) (fun _ _ _ h => h) (by kernel_rfl) hS ?_
              clear ha; intro a ha
              refine hd_pass (i := 8) ha rfl (by kernel_rfl) (fun _ _ _ h => h) (by kernel_rfl) hS ?_
              clear ha; intro a ha
              refine hd_pass (i := 9) ha rfl (by kernel_rfl) (fun _ _ _ h => h) (by kernel_rfl) hS ?_
              clear ha; intro a ha
              refine hd_pass (i := 10) ha rfl (by kernel_rfl) (fun _ _ _ h => h) (by kernel_rfl) hS ?_
              clear ha; intro a ha
              refine hd_pass (i := 11) ha rfl (by kernel_rfl) (fun _ _ _ h => h) (by kernel_rfl) hS ?_
              clear ha; intro a ha
              refine hd_pass (i := 12) ha rfl (by kernel_rfl) (fun _ _ _ h => h) (by kernel_rfl) hS ?_
              clear ha; intro a ha
              refine hd_pass (i := 13) ha rfl (by kernel_rfl) (fun _ _ _ h => h) (by kernel_rfl) hS ?_
              clear ha; intro a ha
              refine hd_pass (i := 14) ha rfl (by kernel_rfl) (fun _ _ _ h => h) (by kernel_rfl) hS ?_
              clear ha; intro a ha
              refine hd_pass (i := 15) ha rfl (by kernel_rfl) (fun _ _ _ h => h) (by kernel_rfl) hS ?_
              clear ha; intro a ha
              refine hd_pass (i := 16) ha rfl (by kernel_rfl) (fun _ _ _ h => h) (by kernel_rfl) hS ?_
              clear ha; intro a ha
              refine hd_pass (i := 17) ha rfl (by kernel_rfl) (fun _ _ _ h => h) (by kernel_rfl) hS ?_
              clear ha; intro a ha
              refine hd_pass (i := 18) ha rfl (by kernel_rfl) (fun _ _ _ h => h) (by kernel_rfl) hS ?_
              clear ha; intro a ha
              refine hd_pass (i := 19) ha rfl (by kernel_rfl) (fun _ _ _ h => h) (by kernel_rfl) hS ?_
              clear ha; intro a ha
              refine hd_pass (i := 20) ha rfl (by kernel_rfl) (fun _ _ _ h => h) (by kernel_rfl) hS ?_
              clear ha; intro a ha
              refine hd_pass (i := 21) ha rfl (by kernel_rfl) (fun _ _ _ h => h) (by kernel_rfl) hS ?_
              clear ha; intro a ha
              refine hd_pass (i := 22) ha rfl (by kernel_rfl) (fun _ _ _ h => h) (by kernel_rfl) hS ?_
              clear ha; intro a ha
              refine hd_pass (i := 23) ha rfl (by kernel_rfl) (fun _ _ _ h => h) (by kernel_rfl) hS ?_
              clear ha; intro a ha
              refine hd_pass (i := 24) ha rfl (by kernel_rfl) (fun _ _ _ h => h) (by kernel_rfl) hS ?_
              clear ha; intro a ha
              refine hd_pass (i := 25) ha rfl (by kernel_rfl) (fun _ _ _ h => h) (by kernel_rfl) hS ?_
              clear ha; intro a ha
              refine hd_pass (i := 26) ha rfl (by kernel_rfl) (fun _ _ _ h => h) (by kernel_rfl) hS ?_
              clear ha; intro a ha
              refine hd_pass (i := 27) ha rfl (by kernel_rfl) (fun _ _ _ h => h) (by kernel_rfl) hS ?_
              clear ha; intro a ha
              refine hd_pass (i := 28) ha rfl (by kernel_rfl) (fun _ _ _ h => h) (by kernel_rfl) hS ?_
              clear ha; intro a ha
              refine hd_pass (i := 29) ha rfl (by kernel_rfl) (fun _ _ _ h => h) (by kernel_rfl) hS ?_
              clear ha; intro a ha
              refine hd_pass (i := 30) ha rfl (by kernel_rfl) (fun _ _ _ h => h) (by kernel_rfl) hS ?_
              clear ha; intro a ha
              refine hd_pass (i := 31) ha rfl (by kernel_rfl) (fun _ _ _ h => h) (by kernel_rfl) hS ?_
              clear ha; intro a ha
              refine hd_pass (i := 32) ha rfl (by kernel_rfl) (fun _ _ _ h => h) (by kernel_rfl) hS ?_
              clear ha; intro a ha
              refine hd_pass (i := 33) ha rfl (by kernel_rfl) (fun _ _ _ h => h) (by kernel_rfl) hS ?_
              clear ha; intro a ha
              refine hd_pass (i := 34) ha rfl (by kernel_rfl) (fun _ _ _ h => h) (by kernel_rfl) hS ?_
              clear ha; intro a ha
              refine hd_pass (i := 35) ha rfl (by kernel_rfl) (fun _ _ _ h => h) (by kernel_rfl) hS ?_
              clear ha; intro a ha
              refine hd_pass (i := 36) ha rfl (by kernel_rfl) (fun _ _ _ h => h) (by kernel_rfl) hS ?_
              clear ha; intro a ha
              refine hd_pass (i := 37) ha rfl (by kernel_rfl) (fun _ _ _ h => h) (by kernel_rfl) hS ?_
              clear ha; intro a ha
              refine hd_pass (i := 38) ha rfl (by kernel_rfl) (fun _ _ _ h => h) (by kernel_rfl) hS ?_
              clear ha; intro a ha
              refine hd_pass (i := 39) ha rfl (by kernel_rfl) (fun _ _ _ h => h) (by kernel_rfl) hS ?_
              clear ha; intro a ha
              refine Head.done (by kernel_rfl) ?_
              clear hS; simp only [List.drop_succ_cons, List.drop_zero]
              refine st_pass ha (by kernel_rfl) ?_
              clear ha; intro a ha
              refine st_pass ha (by kernel_rfl) ?_
              clear ha; intro a ha
              refine st_pass ha (by kernel_rfl) ?_
              clear ha; intro a ha
              refine st_val (.bool false) ha (by kernel_rfl) (by kernel_rfl) ?_
              clear ha; intro a ha
              refine wpList_nil ?_
              refine then_normal ?_
              refine wp_false ha rfl (by kernel_rfl) ?_
              refine wp_skip ?_
              refine then_normal ?_
              refine wp_region_head 7 (fun w => Reads w 2 (some ae) e_.length (pcs e_) ∧ BlkIs g6 [.int .i64 ((1 : Int) + u), .int .i64 ((1 : Int) + v)] w ∧ True) (by kernel_rfl) (by decide) ?_
              replace s := s.drew; generalize _root_.Go.World.drew _ = w at s ⊢
              have hS : (fun w => Reads w 2 (some ae) e_.length (pcs e_) ∧ BlkIs g6 [.int .i64 ((1 : Int) + u), .int .i64 ((1 : Int) + v)] w ∧ True) w := ⟨(Own.reads (s.at_ (j := 0) rfl).1), s.blkIs 1 rfl, trivial⟩
              refine hd_val (i := 0) (.bool c2) ha rfl (by kernel_rfl) (fun _ _ _ h => h) (by kernel_rfl) (fun w hS => (by kernel_rfl)) hS ?_
              clear ha; intro a ha
              refine hd_val (i := 1) (.bool c2) ha rfl (by kernel_rfl) (fun _ _ _ h => h) (by kernel_rfl) (fun w hS => (by kernel_rfl)) hS ?_
              clear ha; intro a ha
              rcases Bool.eq_false_or_eq_true c2 with hb | hb
              · rw [hb] at ha; skip
                have hc1 := hb
                refine hd_pass (i := 2) ha rfl (by kernel_rfl) (fun _ _ _ h => h) (by kernel_rfl) hS ?_
                clear ha; intro a ha
                refine hd_pass (i := 3) ha rfl (by kernel_rfl) (fun _ _ _ h => h) (by kernel_rfl) hS ?_
                clear ha; intro a ha
                refine hd_pass (i := 4) ha rfl (by kernel_rfl) (fun _ _ _ h => h) (by kernel_rfl) hS ?_
                clear ha; intro a ha
                refine hd_pass (i := 5) ha rfl (by kernel_rfl) (fun _ _ _ h => h) (by kernel_rfl) hS ?_
                clear ha; intro a ha
                refine hd_pass (i := 6) ha rfl (by kernel_rfl) (fun _ _ _ h => h) (by kernel_rfl) hS ?_
                clear ha; intro a ha
                refine Head.done (by kernel_rfl) ?_
                clear hS; simp only [List.drop_succ_cons, List.drop_zero]
                refine st_pass ha (by kernel_rfl) ?_
                clear ha; intro a ha
                refine st_val (.bool true) ha (by kernel_rfl) (by kernel_rfl) ?_
                clear ha; intro a ha
                refine st_val (.bool true) ha (by kernel_rfl) (by kernel_rfl) ?_
                clear ha; intro a ha
                refine wpList_nil ?_
                refine block_normal ?_
                refine then_normal ?_
                refine wp_region_lit ?_
                refine st_val (.int .i64 ((i : Nat) : Int)) ha (by kernel_rfl) (by kernel_rfl) ?_
                clear ha; intro a ha
                refine st_val (.int .i64 ((i + 1 : Nat) : Int)) ha (by kernel_rfl) (run_arith (((i : Nat) : Int) + (1 : Int)) ((i + 1 : Nat) : Int) rfl (by kernel_rfl) (by kernel_rfl) (.inl ⟨rfl, rfl⟩) (by rw [wrap64_in (by omega)]; try omega) _) ?_
                clear ha; intro a ha
                refine st_val (.int .i64 ((i + 1 : Nat) : Int)) ha (by kernel_rfl) (by kernel_rfl) ?_
                clear ha; intro a ha
                refine wpList_nil ?_
                refine then_normal ?_
                exact ⟨(i + 1, true), (show e_.length - (i + 1) < e_.length - i by omega), (Has.cons ha (by kernel_rfl) (by kernel_rfl) (Has.cons ha (by kernel_rfl) (by kernel_rfl) (Has.cons ha (by kernel_rfl) (by kernel_rfl) (Has.cons ha (by kernel_rfl) (by kernel_rfl) (Has.cons ha (by kernel_rfl) (by kernel_rfl) (Has.nil ha)))))), s, (show i + 1 ≤ e_.length by omega), ⟨fun _ => by rw [take_snoc hx]; exact List.mem_append_left _ (hpc.1 hc1), fun _ => rfl⟩⟩
              · rw [hb] at ha; skip
                have hc1 := hb
                refine hd_val (i := 2) (.slice (some ae) e_.length ce) ha rfl (by kernel_rfl) (fun _ _ _ h => h) (by kernel_rfl) (fun w hS => (by kernel_rfl)) hS ?_
                clear ha; intro a ha
                refine hd_val (i := 3) (.int .i64 ((i : Nat) : Int)) ha rfl (by kernel_rfl) (fun _ _ _ h => h) (by kernel_rfl) (fun w hS => (by kernel_rfl)) hS ?_
                clear ha; intro a ha
                refine hd_val (i := 4) (.pointer (some (ae.add (i * 2)))) ha rfl (by kernel_rfl) (fun _ _ _ h => h) (by kernel_rfl) (fun w hS => (run_indexAddr' (kd := .i64) (i := ((i : Nat) : Int)) (n := e_.length) (c := ce) i rfl Try.underlying47 Try.sizeOf51 (by kernel_rfl) (by kernel_rfl) rfl (by first | assumption | omega) _)) hS ?_
                clear ha; intro a ha
                refine hd_val (i := 5) (.agg #[.int .i64 x.1, .int .i64 x.2]) ha rfl (by kernel_rfl) (fun _ _ _ h => h) (by kernel_rfl) (fun w hS => run_loadAtN (i := i * 2) [.int .i64 x.1, .int .i64 x.2] hS.1 rfl (by kernel_rfl) Try.isAgg51 Try.sizeOf51 (fun q_ hq_ => pcs_at hx hq_) rfl) hS ?_
                clear ha; intro a ha
                refine hd_val (i := 6) (.agg #[.int .i64 ((1 : Int) + u), .int .i64 ((1 : Int) + v)]) ha rfl (by kernel_rfl) (fun _ _ _ h => h) (by kernel_rfl) (fun w hS => run_loadN (of_ := 0) [.int .i64 ((1 : Int) + u), .int .i64 ((1 : Int) + v)] hS.2.1 rfl (by kernel_rfl) Try.isAgg51 Try.sizeOf51 rfl (Nat.le_of_ble_eq_true rfl)) hS ?_
                clear ha; intro a ha
                refine Head.done (by kernel_rfl) ?_
                clear hS; simp only [List.drop_succ_cons, List.drop_zero]
                refine st_val (.bool (decide (x = ((1 : Int) + u, (1 : Int) + v)))) ha (by kernel_rfl) (run_pr (x := x) (y := ((1 : Int) + u, (1 : Int) + v)) (.inl rfl) rfl (by kernel_rfl) (by kernel_rfl) _) ?_
                clear ha; intro a ha
                refine st_val (.bool (decide (x = ((1 : Int) + u, (1 : Int) + v)))) ha (by kernel_rfl) (by kernel_rfl) ?_
                clear ha; intro a ha
                refine st_val (.bool (decide (x = ((1 : Int) + u, (1 : Int) + v)))) ha (by kernel_rfl) (by kernel_rfl) ?_
                clear ha; intro a ha
                refine wpList_nil ?_
                refine block_normal ?_
                refine then_normal ?_
                refine wp_region_lit ?_
                refine st_val (.int .i64 ((i : Nat) : Int)) ha (by kernel_rfl) (by kernel_rfl) ?_
                clear ha; intro a ha
                refine st_val (.int .i64 ((i + 1 : Nat) : Int)) ha (by kernel_rfl) (run_arith (((i : Nat) : Int) + (1 : Int)) ((i + 1 : Nat) : Int) rfl (by kernel_rfl) (by kernel_rfl) (.inl ⟨rfl, rfl⟩) (by rw [wrap64_in (by omega)]; try omega) _) ?_
                clear ha; intro a ha
                refine st_val (.int .i64 ((i + 1 : Nat) : Int)) ha (by kernel_rfl) (by kernel_rfl) ?_
                clear ha; intro a ha
                refine wpList_nil ?_
                refine then_normal ?_
                exact ⟨(i + 1, decide (x = ((1 : Int) + u, (1 : Int) + v))), (show e_.length - (i + 1) < e_.length - i by omega), (Has.cons ha (by kernel_rfl) (by kernel_rfl) (Has.cons ha (by kernel_rfl) (by kernel_rfl) (Has.cons ha (by kernel_rfl) (by kernel_rfl) (Has.cons ha (by kernel_rfl) (by kernel_rfl) (Has.cons ha (by kernel_rfl) (by kernel_rfl) (Has.nil ha)))))), s, (show i + 1 ≤ e_.length by omega), mem_put hpc hc1 hx⟩
          · rw [hb] at ha; replace hb : ¬ (((i : Nat) : Int) < ((e_.length : Nat) : Int)) := of_decide_eq_false hb
            refine wp_exit ?_
            refine then_exit ?_
            refine then_exit ?_
            refine block_hit ?_
            refine then_normal ?_
            refine wp_seq ?_
            refine wp_region_lit ?_
            refine st_val (.bool b) ha (by kernel_rfl) (by kernel_rfl) ?_
            clear ha; intro a ha
            refine st_val (.bool c2) ha (by kernel_rfl) (by kernel_rfl) ?_
            clear ha; intro a ha
            refine st_val (.bool (b == c2)) ha (by kernel_rfl) (by kernel_rfl) ?_
            clear ha; intro a ha
            refine st_val (.bool (b == c2)) ha (by kernel_rfl) (by kernel_rfl) ?_
            clear ha; intro a ha
            refine wpList_nil ?_
            refine then_normal ?_
            refine wp_ret ?_
            refine ret_with (v := .bool (b == c2)) ha (results_1 rfl ha (res_tmp (by kernel_rfl) (by kernel_rfl))) ?_
            replace s := s.tail.tail
            replace s : St W (L) w := s
            have hc := hp.2
            rw [List.take_of_length_le (by omega)] at hc
            have hbc : b = c2 := by rw [Bool.eq_iff_iff, hpb, hc, hE.mem]
            subst hbc
            exact ⟨by simp, s⟩

end Go.Proofs.Ytlkoppmenpeepaa.B
