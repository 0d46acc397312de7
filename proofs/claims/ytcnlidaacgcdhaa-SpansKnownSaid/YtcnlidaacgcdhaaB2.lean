import Derived.Test.YtcnlidaacgcdhaaB1
namespace Go.Proofs.Ytcnlidaacgcdhaa.B
open Go.RowKit Go.Proofs.Ytcnlidaacgcdhaa.Sep Go.Proofs.Ytcnlidaacgcdhaa.P
set_option linter.unusedVariables false
set_option linter.unusedSimpArgs false

set_option maxRecDepth 100000 in
set_option maxHeartbeats 4000000 in
theorem sweep_ok (W : World) (L : List Chunk) (w : World) (A B : Option Addr) (n m ca cb N : Nat) (la lb : List Span) (g : Nat) (wn : Int → Int → Bool) (hra : Knows L fun w => Reads w 2 A n (sps la)) (hrb : Knows L fun w => Reads w 2 B m (sps lb)) (han : la.length = n) (hbm : lb.length = m) (hoka : ∀ s ∈ la, chk s = 0) (hokb : ∀ s ∈ lb, chk s = 0) (hn : n ≤ 1000) (hm : m ≤ 1000) (hNdef : 2 * n + 2 * m = N) (eg : ∀ args w, (callFunc g args).run Try.prog w = .ok (.enter g args) w) (hw : ∀ (V : World) (M : List Chunk) (w : World) (x y : Int), St V M w → Calls Try.prog g #[.int .i64 x, .int .i64 y] w fun e w' => e = .returned (.bool (wn x y)) ∧ St V M w') (h0 : wn 0 0 = false) (s : St W L w) :
    Calls Try.prog 23 #[.slice A n ca, .slice B m cb, .func (.func g) #[] #[]] w fun e w' => ∃ A' c' cl, e = .returned (.tuple #[.slice A' cl.length c', .int .i64 0]) ∧ Canon cl (fun k => wn (cnt la k) (cnt lb k)) ∧ (∀ s ∈ cl, s.1.length ≤ 33 ∧ s.2.length ≤ 33) ∧ cl.length ≤ N ∧ St W (Own 29 2 A' cl.length c' (sps cl) :: L) w' := by
  have hN0 : N = (evs 0 la ++ evs 1 lb).length := by rw [List.length_append, evs_len, evs_len, han, hbm]; omega
  have hlta : ∀ s ∈ la, s.1 < s.2 := fun s h => (chk_ok (hoka s h)).2.2
  have hltb : ∀ s ∈ lb, s.1 < s.2 := fun s h => (chk_ok (hokb s h)).2.2
  refine enter_args (l := [.slice A n ca, .slice B m cb, .func (.func g) #[] #[]]) Try.func23 rfl rfl (Nat.le_of_ble_eq_true rfl) ?_
  intro a ha; replace ha : Has a 126 [(0, .slice A n ca), (1, .slice B m cb), (2, .func (.func g) #[] #[])] := ha
  refine wp_seq ?_
  refine wp_region_lit ?_
  refine st_val (.slice none 0 0) ha (by kernel_rfl) (by kernel_rfl) ?_
  clear ha; intro a ha
  refine st_val (.int .i64 0) ha (by kernel_rfl) (by kernel_rfl) ?_
  clear ha; intro a ha
  refine wpList_nil ?_
  refine then_normal ?_
  refine wp_seq ?_
  refine wp_seq ?_
  refine wp_region_lit ?_
  refine st_val (.slice A n ca) ha (by kernel_rfl) (by kernel_rfl) ?_
  clear ha; intro a ha
  refine st_val (.int .i64 ((n : Nat) : Int)) ha (by kernel_rfl) (by kernel_rfl) ?_
  clear ha; intro a ha
  refine st_val (.bool false) ha (by kernel_rfl) (run_known (show (decide (((n : Nat) : Int) > (1000 : Int))) = false from decide_eq_false (by omega)) (by kernel_rfl)) ?_
  clear ha; intro a ha
  refine st_val (.bool false) ha (by kernel_rfl) (by kernel_rfl) ?_
  clear ha; intro a ha
  refine st_val (.slice B m cb) ha (by kernel_rfl) (by kernel_rfl) ?_
  clear ha; intro a ha
  refine st_val (.int .i64 ((m : Nat) : Int)) ha (by kernel_rfl) (by kernel_rfl) ?_
  clear ha; intro a ha
  refine st_val (.bool false) ha (by kernel_rfl) (run_known (show (decide (((m : Nat) : Int) > (1000 : Int))) = false from decide_eq_false (by omega)) (by kernel_rfl)) ?_
  clear ha; intro a ha
  refine st_val (.bool false) ha (by kernel_rfl) (by kernel_rfl) ?_
  clear ha; intro a ha
  refine wpList_nil ?_
  refine then_normal ?_
  refine wp_false ha rfl (by kernel_rfl) ?_
  refine wp_skip ?_
  refine then_normal ?_
  refine wp_seq ?_
  refine wp_region_lit ?_
  refine st_val (.slice none 0 0) ha (by kernel_rfl) (by kernel_rfl) ?_
  clear ha; intro a ha
  refine wpList_nil ?_
  refine then_normal ?_
  refine wp_seq ?_
  refine wp_seq ?_
  refine wp_region_lit ?_
  refine st_val (.slice A n ca) ha (by kernel_rfl) (by kernel_rfl) ?_
  clear ha; intro a ha
  refine st_val (.slice B m cb) ha (by kernel_rfl) (by kernel_rfl) ?_
  clear ha; intro a ha
  refine st_val (.agg #[.slice A n ca, .slice B m cb]) ha (by kernel_rfl) (by kernel_rfl) ?_
  clear ha; intro a ha
  refine st_val (.int .i64 0) ha (by kernel_rfl) (by kernel_rfl) ?_
  clear ha; intro a ha
  refine wpList_nil ?_
  refine then_normal ?_
  refine wp_block ?_
  refine wp_loop_rounds 3 ?_
  show Code.rounds _ _ _ 3 _ _
  rw [rounds_succ]
  refine wp_seq ?_
  refine wp_region_lit ?_
  refine st_val (.bool true) ha (by kernel_rfl) (by kernel_rfl) ?_
  clear ha; intro a ha
  refine wpList_nil ?_
  refine then_normal ?_
  refine wp_seq ?_
  refine wp_true ha rfl (by kernel_rfl) ?_
  refine wp_skip ?_
  refine then_normal ?_
  refine wp_seq ?_
  refine wp_block ?_
  refine wp_seq ?_
  refine wp_region_lit ?_
  refine st_val (.int .i64 0) ha (by kernel_rfl) (by kernel_rfl) ?_
  clear ha; intro a ha
  refine st_val (.slice A n ca) ha (by kernel_rfl) (by kernel_rfl) ?_
  clear ha; intro a ha
  refine st_val (.int .i64 0) ha (by kernel_rfl) (by kernel_rfl) ?_
  clear ha; intro a ha
  refine st_val (.slice A n ca) ha (by kernel_rfl) (by kernel_rfl) ?_
  clear ha; intro a ha
  refine wpList_nil ?_
  refine then_normal ?_
  refine wp_seq ?_
  refine wp_region_lit ?_
  refine st_val (.slice A n ca) ha (by kernel_rfl) (by kernel_rfl) ?_
  clear ha; intro a ha
  refine st_val (.int .i64 ((n : Nat) : Int)) ha (by kernel_rfl) (by kernel_rfl) ?_
  clear ha; intro a ha
  refine st_val (.int .i64 0) ha (by kernel_rfl) (by kernel_rfl) ?_
  clear ha; intro a ha
  refine wpList_nil ?_
  refine then_normal ?_
  refine wp_block ?_
  replace s := Own.none_ (e := 66) (k := 3) none s
  replace s : St W (Own 66 3 none (2 * 0) 0 (evcs (evs 0 (la.take 0))) :: L) w := s
  refine wp_loopG (G := (Nat × Option Addr × Nat)) (fun ⟨k, A8, c8⟩ a w => Has a 126 [(0, .slice A n ca), (1, .slice B m cb), (2, .func (.func g) #[] #[]), (9, .int .i64 0), (30, .agg #[.slice A n ca, .slice B m cb]), (31, .int .i64 0), (35, .slice A n ca), (36, .int .i64 ((n : Nat) : Int)), (37, .int .i64 ((k : Nat) : Int)), (8, .slice A8 (2 * k) c8)] ∧ St W (Own 66 3 A8 (2 * k) c8 (evcs (evs 0 (la.take k))) :: L) w ∧ (k ≤ n)) (fun ⟨k, A8, c8⟩ => n - k) (0, none, 0) ?_ ?_
  · exact ⟨(Has.cons ha (by kernel_rfl) (by kernel_rfl) (Has.cons ha (by kernel_rfl) (by kernel_rfl) (Has.cons ha (by kernel_rfl) (by kernel_rfl) (Has.cons ha (by kernel_rfl) (by kernel_rfl) (Has.cons ha (by kernel_rfl) (by kernel_rfl) (Has.cons ha (by kernel_rfl) (by kernel_rfl) (Has.cons ha (by kernel_rfl) (by kernel_rfl) (Has.cons ha (by kernel_rfl) (by kernel_rfl) (Has.cons ha (by kernel_rfl) (by kernel_rfl) (Has.cons ha (by kernel_rfl) (by kernel_rfl) (Has.nil ha))))))))))), s, Nat.zero_le _⟩
  · clear ha s; rintro ⟨k, A8, c8⟩ a w ⟨ha, s, hp⟩
    refine wp_seq ?_
    refine wp_region_lit ?_
    refine st_val (.bool (decide (((k : Nat) : Int) < ((n : Nat) : Int)))) ha (by kernel_rfl) (by kernel_rfl) ?_
    clear ha; intro a ha
    refine wpList_nil ?_
    refine then_normal ?_
    refine wp_seq ?_
    refine wp_part (decide (((k : Nat) : Int) < ((n : Nat) : Int))) ha rfl (by kernel_rfl) (fun hb => ?_) (fun hb => ?_)
    · rw [hb] at ha; replace hb : (((k : Nat) : Int) < ((n : Nat) : Int)) := of_decide_eq_true hb
      obtain ⟨x, hx⟩ : ∃ x, la[k]? = some x := ⟨_, List.getElem?_eq_getElem (by omega)⟩
      have hck := hoka x (List.mem_of_getElem? hx)
      obtain ⟨ada, hA⟩ := Reads.addr (hra _ (Sat.drops (A := [Own 66 3 A8 (2 * k) c8 (evcs (evs 0 (la.take k)))]) s.sat)) (by omega)
      subst hA
      refine wp_skip ?_
      refine then_normal ?_
      refine wp_seq ?_
      refine wp_block ?_
      refine wp_seq ?_
      refine wp_region_lit ?_
      refine st_val (.pointer (some (ada.add (k * 2)))) ha (by kernel_rfl) (run_indexAddr' (kd := .i64) (i := ((k : Nat) : Int)) (n := n) (c := ca) k rfl Try.underlying22 Try.sizeOf29 (by kernel_rfl) (by kernel_rfl) rfl (by first | assumption | omega) _) ?_
      clear ha; intro a ha
      refine st_val (.agg #[.string (str x.1), .string (str x.2)]) ha (by kernel_rfl) (run_loadAtN (i := k * 2) [.string (str x.1), .string (str x.2)] ((hra _ (Sat.drops (A := [Own 66 3 A8 (2 * k) c8 (evcs (evs 0 (la.take k)))]) s.sat))) rfl (by kernel_rfl) Try.isAgg29 Try.sizeOf29 (fun j hj => sps_at hx hj) rfl) ?_
      clear ha; intro a ha
      refine st_ex ha (by kernel_rfl) (ex_alloc [.string (str []), .string (str [])] s rfl (Try.zeroValue29 _) (by kernel_rfl)) ?_
      clear ha; rintro _ w a ⟨g1, rfl, s⟩ ha
      replace s : St W (.blk g1 [.string (str []), .string (str [])] 29 :: Own 66 3 A8 (2 * k) c8 (evcs (evs 0 (la.take k))) :: L) w := s
      refine st_exd ha (by kernel_rfl) (ex_store (of_ := 0) 0 [.string (str x.1), .string (str x.2)] s rfl rfl (by kernel_rfl) (by kernel_rfl) (Try.sizeOf29 _) rfl (by simp [Value.oneCell']) (Nat.le_of_ble_eq_true rfl)) ?_
      clear ha; rintro w a s ha
      replace s : St W (.blk g1 [.string (str x.1), .string (str x.2)] 29 :: Own 66 3 A8 (2 * k) c8 (evcs (evs 0 (la.take k))) :: L) w := s
      refine wpList_nil ?_
      refine then_normal ?_
      refine wp_seq ?_
      refine wp_seq ?_
      refine wp_region_lit ?_
      refine st_val (.agg #[.string (str x.1), .string (str x.2)]) ha (by kernel_rfl) (run_loadN (of_ := 0) [.string (str x.1), .string (str x.2)] (s.blkIs 0 rfl) rfl (by kernel_rfl) Try.isAgg29 Try.sizeOf29 rfl (Nat.le_of_ble_eq_true rfl)) ?_
      clear ha; intro a ha
      refine st_call ha (by kernel_rfl) (by kernel_rfl) (check_any W _ w x s) ?_
      rintro _ w ⟨rfl, s⟩
      replace s : St W (.blk g1 [.string (str x.1), .string (str x.2)] 29 :: Own 66 3 A8 (2 * k) c8 (evcs (evs 0 (la.take k))) :: L) w := s
      refine ⟨_, rfl, ?_⟩; clear ha; intro a ha
      refine st_val (.int .i64 (chk x)) ha (by kernel_rfl) (by kernel_rfl) ?_
      clear ha; intro a ha
      refine wpList_nil ?_
      refine then_normal ?_
      refine wp_seq ?_
      refine wp_region_lit ?_
      refine st_val (.int .i64 (chk x)) ha (by kernel_rfl) (by kernel_rfl) ?_
      clear ha; intro a ha
      refine st_val (.bool false) ha (by kernel_rfl) (run_known (show ((chk x) != (0 : Int)) = false from by rw [hck]; rfl) (by kernel_rfl)) ?_
      clear ha; intro a ha
      refine wpList_nil ?_
      refine then_normal ?_
      refine wp_false ha rfl (by kernel_rfl) ?_
      refine wp_skip ?_
      refine then_normal ?_
      refine wp_region_lit ?_
      refine st_val (.slice A8 (2 * k) c8) ha (by kernel_rfl) (by kernel_rfl) ?_
      clear ha; intro a ha
      refine st_val (.pointer (some ⟨g1, 0, none⟩)) ha (by kernel_rfl) (by kernel_rfl) ?_
      clear ha; intro a ha
      refine st_val (.string (str x.1)) ha (by kernel_rfl) (run_load1 (of_ := 0) (s.blkIs 0 rfl) rfl (by kernel_rfl) Try.isAgg9 rfl) ?_
      clear ha; intro a ha
      refine st_val (.int .i64 0) ha (by kernel_rfl) (by kernel_rfl) ?_
      clear ha; intro a ha
      refine st_val (.agg #[.string (str x.1), .int .i64 0, .int .i64 1]) ha (by kernel_rfl) (by kernel_rfl) ?_
      clear ha; intro a ha
      refine st_val (.pointer (some ⟨g1, 1, none⟩)) ha (by kernel_rfl) (by kernel_rfl) ?_
      clear ha; intro a ha
      refine st_val (.string (str x.2)) ha (by kernel_rfl) (run_load1 (of_ := 1) (s.blkIs 0 rfl) rfl (by kernel_rfl) Try.isAgg9 rfl) ?_
      clear ha; intro a ha
      refine st_val (.int .i64 0) ha (by kernel_rfl) (by kernel_rfl) ?_
      clear ha; intro a ha
      refine st_val (.agg #[.string (str x.2), .int .i64 0, .int .i64 (-1)]) ha (by kernel_rfl) (by kernel_rfl) ?_
      clear ha; intro a ha
      refine st_ex ha (by kernel_rfl) (ex_buildSlice elt63 _ zs63 [.string (str x.1), .int .i64 0, .int .i64 1, .string (str x.2), .int .i64 0, .int .i64 (-1)] s rfl (by kernel_rfl) (by decide)) ?_
      clear ha; rintro _ w a ⟨g2, rfl, s⟩ ha
      replace s : St W (.blk g2 [.string (str x.1), .int .i64 0, .int .i64 1, .string (str x.2), .int .i64 0, .int .i64 (-1)] 66 :: .blk g1 [.string (str x.1), .string (str x.2)] 29 :: Own 66 3 A8 (2 * k) c8 (evcs (evs 0 (la.take k))) :: L) w := s
      refine st_ex ha (by kernel_rfl) (ex_append (m := 2) (d' := 2) elt63 (by decide) 2 [.string (str x.1), .int .i64 0, .int .i64 1, .string (str x.2), .int .i64 0, .int .i64 (-1)] s rfl (by kernel_rfl) (by kernel_rfl) rfl (reads_blk (s.blkIs 0 rfl) rfl) (by simp [Value.oneCell']) (by simp only [maxLen]; omega) (by omega)) ?_
      clear ha; rintro _ w a ⟨A3, c4, rfl, hA_, s⟩ ha
      replace s : St W (.blk g2 [.string (str x.1), .int .i64 0, .int .i64 1, .string (str x.2), .int .i64 0, .int .i64 (-1)] 66 :: .blk g1 [.string (str x.1), .string (str x.2)] 29 :: Own 66 3 A3 (2 * k + 2) c4 ((evcs (evs 0 (la.take k))) ++ [.string (str x.1), .int .i64 0, .int .i64 1, .string (str x.2), .int .i64 0, .int .i64 (-1)]) :: L) w := s
      refine st_val (.slice A3 (2 * k + 2) c4) ha (by kernel_rfl) (by kernel_rfl) ?_
      clear ha; intro a ha
      refine wpList_nil ?_
      refine block_normal ?_
      refine then_normal ?_
      refine wp_region_lit ?_
      refine st_val (.int .i64 ((k + 1 : Nat) : Int)) ha (by kernel_rfl) (run_arith (((k : Nat) : Int) + (1 : Int)) ((k + 1 : Nat) : Int) rfl (by kernel_rfl) (by kernel_rfl) (.inl ⟨rfl, rfl⟩) (by rw [wrap64_in (by omega)]; try omega) _) ?_
      clear ha; intro a ha
      refine st_val (.int .i64 ((k + 1 : Nat) : Int)) ha (by kernel_rfl) (by kernel_rfl) ?_
      clear ha; intro a ha
      refine wpList_nil ?_
      refine then_normal ?_
      replace s := s.at_ (j := 2) rfl
      replace s : St W (Own 66 3 A3 (2 * k + 2) c4 ((evcs (evs 0 (la.take k))) ++ [.string (str x.1), .int .i64 0, .int .i64 1, .string (str x.2), .int .i64 0, .int .i64 (-1)]) :: .blk g2 [.string (str x.1), .int .i64 0, .int .i64 1, .string (str x.2), .int .i64 0, .int .i64 (-1)] 66 :: .blk g1 [.string (str x.1), .string (str x.2)] 29 :: L) w := s
      replace s : St W (Own 66 3 A3 (2 * k + 2) c4 ((evcs (evs 0 (la.take k))) ++ [.string (str x.1), .int .i64 0, .int .i64 1, .string (str x.2), .int .i64 0, .int .i64 (-1)]) :: L) w := St.mid (A := [Own 66 3 A3 (2 * k + 2) c4 ((evcs (evs 0 (la.take k))) ++ [.string (str x.1), .int .i64 0, .int .i64 1, .string (str x.2), .int .i64 0, .int .i64 (-1)])]) (B := [.blk g2 [.string (str x.1), .int .i64 0, .int .i64 1, .string (str x.2), .int .i64 0, .int .i64 (-1)] 66, .blk g1 [.string (str x.1), .string (str x.2)] 29]) s
      replace s : St W (Own 66 3 A3 (2 * (k + 1)) c4 (evcs (evs 0 (la.take (k + 1)))) :: L) w := by rw [evs_take hx]; rw [evcs_append]; exact s
      exact ⟨(k + 1, A3, c4), (show n - (k + 1) < n - k by omega), (Has.cons ha (by kernel_rfl) (by kernel_rfl) (Has.cons ha (by kernel_rfl) (by kernel_rfl) (Has.cons ha (by kernel_rfl) (by kernel_rfl) (Has.cons ha (by kernel_rfl) (by kernel_rfl) (Has.cons ha (by kernel_rfl) (by kernel_rfl) (Has.cons ha (by kernel_rfl) (by kernel_rfl) (Has.cons ha (by kernel_rfl) (by kernel_rfl) (Has.cons ha (by kernel_rfl) (by kernel_rfl) (Has.cons ha (by kernel_rfl) (by kernel_rfl) (Has.cons ha (by kernel_rfl) (by kernel_rfl) (Has.nil ha))))))))))), s, (show k + 1 ≤ n by omega)⟩
    · rw [hb] at ha; replace hb : ¬ (((k : Nat) : Int) < ((n : Nat) : Int)) := of_decide_eq_false hb
      have hk : k = n := by omega
      rw [hk] at s ha
      rw [show la.take n = la from List.take_of_length_le (by omega)] at s
      replace s : St W (Own 66 3 A8 (2 * n) c8 (evcs (evs 0 la)) :: L) w := s
      refine wp_exit ?_
      refine then_exit ?_
      refine then_exit ?_
      refine block_hit ?_
      refine block_normal ?_
      refine then_normal ?_
      refine wp_region_lit ?_
      refine st_val (.int .i64 1) ha (by kernel_rfl) (by kernel_rfl) ?_
      clear ha; intro a ha
      refine st_val (.int .i64 1) ha (by kernel_rfl) (by kernel_rfl) ?_
      clear ha; intro a ha
      refine wpList_nil ?_
      refine then_normal ?_
      show Code.rounds _ _ _ 2 _ _
      rw [rounds_succ]
      refine wp_seq ?_
      refine wp_region_lit ?_
      refine st_val (.bool true) ha (by kernel_rfl) (by kernel_rfl) ?_
      clear ha; intro a ha
      refine wpList_nil ?_
      refine then_normal ?_
      refine wp_seq ?_
      refine wp_true ha rfl (by kernel_rfl) ?_
      refine wp_skip ?_
      refine then_normal ?_
      refine wp_seq ?_
      refine wp_block ?_
      refine wp_seq ?_
      refine wp_region_lit ?_
      refine st_val (.int .i64 1) ha (by kernel_rfl) (by kernel_rfl) ?_
      clear ha; intro a ha
      refine st_val (.slice B m cb) ha (by kernel_rfl) (by kernel_rfl) ?_
      clear ha; intro a ha
      refine st_val (.int .i64 1) ha (by kernel_rfl) (by kernel_rfl) ?_
      clear ha; intro a ha
      refine st_val (.slice B m cb) ha (by kernel_rfl) (by kernel_rfl) ?_
      clear ha; intro a ha
      refine wpList_nil ?_
      refine then_normal ?_
      refine wp_seq ?_
      refine wp_region_lit ?_
      refine st_val (.slice B m cb) ha (by kernel_rfl) (by kernel_rfl) ?_
      clear ha; intro a ha
      refine st_val (.int .i64 ((m : Nat) : Int)) ha (by kernel_rfl) (by kernel_rfl) ?_
      clear ha; intro a ha
      refine st_val (.int .i64 0) ha (by kernel_rfl) (by kernel_rfl) ?_
      clear ha; intro a ha
      refine wpList_nil ?_
      refine then_normal ?_
      refine wp_block ?_
      replace s : St W (Own 66 3 A8 (2 * n + 2 * 0) c8 (evcs (evs 0 la ++ evs 1 (lb.take 0))) :: L) w := by rw [show evs 1 (lb.take 0) = [] from rfl, List.append_nil]; exact s
      refine wp_loopG (G := (Nat × Option Addr × Nat)) (fun ⟨k, A8, c8⟩ a w => Has a 126 [(0, .slice A n ca), (1, .slice B m cb), (2, .func (.func g) #[] #[]), (9, .int .i64 1), (30, .agg #[.slice A n ca, .slice B m cb]), (31, .int .i64 1), (35, .slice B m cb), (36, .int .i64 ((m : Nat) : Int)), (37, .int .i64 ((k : Nat) : Int)), (8, .slice A8 (2 * n + 2 * k) c8)] ∧ St W (Own 66 3 A8 (2 * n + 2 * k) c8 (evcs (evs 0 la ++ evs 1 (lb.take k))) :: L) w ∧ (k ≤ m)) (fun ⟨k, A8, c8⟩ => m - k) (0, A8, c8) ?_ ?_
      · exact ⟨(Has.cons ha (by kernel_rfl) (by kernel_rfl) (Has.cons ha (by kernel_rfl) (by kernel_rfl) (Has.cons ha (by kernel_rfl) (by kernel_rfl) (Has.cons ha (by kernel_rfl) (by kernel_rfl) (Has.cons ha (by kernel_rfl) (by kernel_rfl) (Has.cons ha (by kernel_rfl) (by kernel_rfl) (Has.cons ha (by kernel_rfl) (by kernel_rfl) (Has.cons ha (by kernel_rfl) (by kernel_rfl) (Has.cons ha (by kernel_rfl) (by kernel_rfl) (Has.cons ha (by kernel_rfl) (by kernel_rfl) (Has.nil ha))))))))))), s, Nat.zero_le _⟩
      · clear ha s; rintro ⟨k, A8, c8⟩ a w ⟨ha, s, hp⟩
        refine wp_seq ?_
        refine wp_region_lit ?_
        refine st_val (.bool (decide (((k : Nat) : Int) < ((m : Nat) : Int)))) ha (by kernel_rfl) (by kernel_rfl) ?_
        clear ha; intro a ha
        refine wpList_nil ?_
        refine then_normal ?_
        refine wp_seq ?_
        refine wp_part (decide (((k : Nat) : Int) < ((m : Nat) : Int))) ha rfl (by kernel_rfl) (fun hb => ?_) (fun hb => ?_)
        · rw [hb] at ha; replace hb : (((k : Nat) : Int) < ((m : Nat) : Int)) := of_decide_eq_true hb
          obtain ⟨x, hx⟩ : ∃ x, lb[k]? = some x := ⟨_, List.getElem?_eq_getElem (by omega)⟩
          have hck := hokb x (List.mem_of_getElem? hx)
          obtain ⟨adb, hA⟩ := Reads.addr (hrb _ (Sat.drops (A := [Own 66 3 A8 (2 * n + 2 * k) c8 (evcs (evs 0 la ++ evs 1 (lb.take k)))]) s.sat)) (by omega)
          subst hA
          refine wp_skip ?_
          refine then_normal ?_
          refine wp_seq ?_
          refine wp_block ?_
          refine wp_seq ?_
          refine wp_region_lit ?_
          refine st_val (.pointer (some (adb.add (k * 2)))) ha (by kernel_rfl) (run_indexAddr' (kd := .i64) (i := ((k : Nat) : Int)) (n := m) (c := cb) k rfl Try.underlying22 Try.sizeOf29 (by kernel_rfl) (by kernel_rfl) rfl (by first | assumption | omega) _) ?_
          clear ha; intro a ha
          refine st_val (.agg #[.string (str x.1), .string (str x.2)]) ha (by kernel_rfl) (run_loadAtN (i := k * 2) [.string (str x.1), .string (str x.2)] ((hrb _ (Sat.drops (A := [Own 66 3 A8 (2 * n + 2 * k) c8 (evcs (evs 0 la ++ evs 1 (lb.take k)))]) s.sat))) rfl (by kernel_rfl) Try.isAgg29 Try.sizeOf29 (fun j hj => sps_at hx hj) rfl) ?_
          clear ha; intro a ha
          refine st_ex ha (by kernel_rfl) (ex_alloc [.string (str []), .string (str [])] s rfl (Try.zeroValue29 _) (by kernel_rfl)) ?_
          clear ha; rintro _ w a ⟨g5, rfl, s⟩ ha
          replace s : St W (.blk g5 [.string (str []), .string (str [])] 29 :: Own 66 3 A8 (2 * n + 2 * k) c8 (evcs (evs 0 la ++ evs 1 (lb.take k))) :: L) w := s
          refine st_exd ha (by kernel_rfl) (ex_store (of_ := 0) 0 [.string (str x.1), .string (str x.2)] s rfl rfl (by kernel_rfl) (by kernel_rfl) (Try.sizeOf29 _) rfl (by simp [Value.oneCell']) (Nat.le_of_ble_eq_true rfl)) ?_
          clear ha; rintro w a s ha
          replace s : St W (.blk g5 [.string (str x.1), .string (str x.2)] 29 :: Own 66 3 A8 (2 * n + 2 * k) c8 (evcs (evs 0 la ++ evs 1 (lb.take k))) :: L) w := s
          refine wpList_nil ?_
          refine then_normal ?_
          refine wp_seq ?_
          refine wp_seq ?_
          refine wp_region_lit ?_
          refine st_val (.agg #[.string (str x.1), .string (str x.2)]) ha (by kernel_rfl) (run_loadN (of_ := 0) [.string (str x.1), .string (str x.2)] (s.blkIs 0 rfl) rfl (by kernel_rfl) Try.isAgg29 Try.sizeOf29 rfl (Nat.le_of_ble_eq_true rfl)) ?_
          clear ha; intro a ha
          refine st_call ha (by kernel_rfl) (by kernel_rfl) (check_any W _ w x s) ?_
          rintro _ w ⟨rfl, s⟩
          replace s : St W (.blk g5 [.string (str x.1), .string (str x.2)] 29 :: Own 66 3 A8 (2 * n + 2 * k) c8 (evcs (evs 0 la ++ evs 1 (lb.take k))) :: L) w := s
          refine ⟨_, rfl, ?_⟩; clear ha; intro a ha
          refine st_val (.int .i64 (chk x)) ha (by kernel_rfl) (by kernel_rfl) ?_
          clear ha; intro a ha
          refine wpList_nil ?_
          refine then_normal ?_
          refine wp_seq ?_
          refine wp_region_lit ?_
          refine st_val (.int .i64 (chk x)) ha (by kernel_rfl) (by kernel_rfl) ?_
          clear ha; intro a ha
          refine st_val (.bool false) ha (by kernel_rfl) (run_known (show ((chk x) != (0 : Int)) = false from by rw [hck]; rfl) (by kernel_rfl)) ?_
          clear ha; intro a ha
          refine wpList_nil ?_
          refine then_normal ?_
          refine wp_false ha rfl (by kernel_rfl) ?_
          refine wp_skip ?_
          refine then_normal ?_
          refine wp_region_lit ?_
          refine st_val (.slice A8 (2 * n + 2 * k) c8) ha (by kernel_rfl) (by kernel_rfl) ?_
          clear ha; intro a ha
          refine st_val (.pointer (some ⟨g5, 0, none⟩)) ha (by kernel_rfl) (by kernel_rfl) ?_
          clear ha; intro a ha
          refine st_val (.string (str x.1)) ha (by kernel_rfl) (run_load1 (of_ := 0) (s.blkIs 0 rfl) rfl (by kernel_rfl) Try.isAgg9 rfl) ?_
          clear ha; intro a ha
          refine st_val (.int .i64 1) ha (by kernel_rfl) (by kernel_rfl) ?_
          clear ha; intro a ha
          refine st_val (.agg #[.string (str x.1), .int .i64 1, .int .i64 1]) ha (by kernel_rfl) (by kernel_rfl) ?_
          clear ha; intro a ha
          refine st_val (.pointer (some ⟨g5, 1, none⟩)) ha (by kernel_rfl) (by kernel_rfl) ?_
          clear ha; intro a ha
          refine st_val (.string (str x.2)) ha (by kernel_rfl) (run_load1 (of_ := 1) (s.blkIs 0 rfl) rfl (by kernel_rfl) Try.isAgg9 rfl) ?_
          clear ha; intro a ha
          refine st_val (.int .i64 1) ha (by kernel_rfl) (by kernel_rfl) ?_
          clear ha; intro a ha
          refine st_val (.agg #[.string (str x.2), .int .i64 1, .int .i64 (-1)]) ha (by kernel_rfl) (by kernel_rfl) ?_
          clear ha; intro a ha
          refine st_ex ha (by kernel_rfl) (ex_buildSlice elt63 _ zs63 [.string (str x.1), .int .i64 1, .int .i64 1, .string (str x.2), .int .i64 1, .int .i64 (-1)] s rfl (by kernel_rfl) (by decide)) ?_
          clear ha; rintro _ w a ⟨g6, rfl, s⟩ ha
          replace s : St W (.blk g6 [.string (str x.1), .int .i64 1, .int .i64 1, .string (str x.2), .int .i64 1, .int .i64 (-1)] 66 :: .blk g5 [.string (str x.1), .string (str x.2)] 29 :: Own 66 3 A8 (2 * n + 2 * k) c8 (evcs (evs 0 la ++ evs 1 (lb.take k))) :: L) w := s
          refine st_ex ha (by kernel_rfl) (ex_append (m := 2) (d' := 2) elt63 (by decide) 2 [.string (str x.1), .int .i64 1, .int .i64 1, .string (str x.2), .int .i64 1, .int .i64 (-1)] s rfl (by kernel_rfl) (by kernel_rfl) rfl (reads_blk (s.blkIs 0 rfl) rfl) (by simp [Value.oneCell']) (by simp only [maxLen]; omega) (by omega)) ?_
          clear ha; rintro _ w a ⟨A7, c8, rfl, hA_, s⟩ ha
          replace s : St W (.blk g6 [.string (str x.1), .int .i64 1, .int .i64 1, .string (str x.2), .int .i64 1, .int .i64 (-1)] 66 :: .blk g5 [.string (str x.1), .string (str x.2)] 29 :: Own 66 3 A7 (2 * n + 2 * k + 2) c8 ((evcs (evs 0 la ++ evs 1 (lb.take k))) ++ [.string (str x.1), .int .i64 1, .int .i64 1, .string (str x.2), .int .i64 1, .int .i64 (-1)]) :: L) w := s
          refine st_val (.slice A7 (2 * n + 2 * k + 2) c8) ha (by kernel_rfl) (by kernel_rfl) ?_
          clear ha; intro a ha
          refine wpList_nil ?_
          refine block_normal ?_
          refine then_normal ?_
          refine wp_region_lit ?_
          refine st_val (.int .i64 ((k + 1 : Nat) : Int)) ha (by kernel_rfl) (run_arith (((k : Nat) : Int) + (1 : Int)) ((k + 1 : Nat) : Int) rfl (by kernel_rfl) (by kernel_rfl) (.inl ⟨rfl, rfl⟩) (by rw [wrap64_in (by omega)]; try omega) _) ?_
          clear ha; intro a ha
          refine st_val (.int .i64 ((k + 1 : Nat) : Int)) ha (by kernel_rfl) (by kernel_rfl) ?_
          clear ha; intro a ha
          refine wpList_nil ?_
          refine then_normal ?_
          replace s := s.at_ (j := 2) rfl
          replace s : St W (Own 66 3 A7 (2 * n + 2 * k + 2) c8 ((evcs (evs 0 la ++ evs 1 (lb.take k))) ++ [.string (str x.1), .int .i64 1, .int .i64 1, .string (str x.2), .int .i64 1, .int .i64 (-1)]) :: .blk g6 [.string (str x.1), .int .i64 1, .int .i64 1, .string (str x.2), .int .i64 1, .int .i64 (-1)] 66 :: .blk g5 [.string (str x.1), .string (str x.2)] 29 :: L) w := s
          replace s : St W (Own 66 3 A7 (2 * n + 2 * k + 2) c8 ((evcs (evs 0 la ++ evs 1 (lb.take k))) ++ [.string (str x.1), .int .i64 1, .int .i64 1, .string (str x.2), .int .i64 1, .int .i64 (-1)]) :: L) w := St.mid (A := [Own 66 3 A7 (2 * n + 2 * k + 2) c8 ((evcs (evs 0 la ++ evs 1 (lb.take k))) ++ [.string (str x.1), .int .i64 1, .int .i64 1, .string (str x.2), .int .i64 1, .int .i64 (-1)])]) (B := [.blk g6 [.string (str x.1), .int .i64 1, .int .i64 1, .string (str x.2), .int .i64 1, .int .i64 (-1)] 66, .blk g5 [.string (str x.1), .string (str x.2)] 29]) s
          replace s : St W (Own 66 3 A7 (2 * n + 2 * (k + 1)) c8 (evcs (evs 0 la ++ evs 1 (lb.take (k + 1)))) :: L) w := by rw [evs_take hx]; rw [← List.append_assoc]; rw [evcs_append]; exact s
          exact ⟨(k + 1, A7, c8), (show m - (k + 1) < m - k by omega), (Has.cons ha (by kernel_rfl) (by kernel_rfl) (Has.cons ha (by kernel_rfl) (by kernel_rfl) (Has.cons ha (by kernel_rfl) (by kernel_rfl) (Has.cons ha (by kernel_rfl) (by kernel_rfl) (Has.cons ha (by kernel_rfl) (by kernel_rfl) (Has.cons ha (by kernel_rfl) (by kernel_rfl) (Has.cons ha (by kernel_rfl) (by kernel_rfl) (Has.cons ha (by kernel_rfl) (by kernel_rfl) (Has.cons ha (by kernel_rfl) (by kernel_rfl) (Has.cons ha (by kernel_rfl) (by kernel_rfl) (Has.nil ha))))))))))), s, (show k + 1 ≤ m by omega)⟩
        · rw [hb] at ha; replace hb : ¬ (((k : Nat) : Int) < ((m : Nat) : Int)) := of_decide_eq_false hb
          have hk : k = m := by omega
          rw [hk] at s ha
          rw [show lb.take m = lb from List.take_of_length_le (by omega)] at s
          replace s : St W (Own 66 3 A8 (2 * n + 2 * m) c8 (evcs (evs 0 la ++ evs 1 lb)) :: L) w := s
          rw [hNdef] at s ha
          replace s : St W (Own 66 3 A8 N c8 (evcs (evs 0 la ++ evs 1 lb)) :: L) w := s
          refine wp_exit ?_
          refine then_exit ?_
          refine then_exit ?_
          refine block_hit ?_
          refine block_normal ?_
          refine then_normal ?_
          refine wp_region_lit ?_
          refine st_val (.int .i64 2) ha (by kernel_rfl) (by kernel_rfl) ?_
          clear ha; intro a ha
          refine st_val (.int .i64 2) ha (by kernel_rfl) (by kernel_rfl) ?_
          clear ha; intro a ha
          refine wpList_nil ?_
          refine then_normal ?_
          show Code.rounds _ _ _ 1 _ _
          rw [rounds_succ]
          refine wp_seq ?_
          refine wp_region_lit ?_
          refine st_val (.bool false) ha (by kernel_rfl) (by kernel_rfl) ?_
          clear ha; intro a ha
          refine wpList_nil ?_
          refine then_normal ?_
          refine wp_seq ?_
          refine wp_false ha rfl (by kernel_rfl) ?_
          refine wp_exit ?_
          refine then_exit ?_
          refine then_exit ?_
          refine block_hit ?_
          refine then_normal ?_
          refine wp_seq ?_
          refine wp_region_lit ?_
          refine st_val (.slice A8 N c8) ha (by kernel_rfl) (by kernel_rfl) ?_
          clear ha; intro a ha
          refine st_call ha (by kernel_rfl) (by kernel_rfl) (sort_events W _ w A8 N c8 c8 (evs 0 la ++ evs 1 lb) hN0 (by omega) s) ?_
          rintro _ w ⟨rfl, d, hperm, hsort, hdN, s⟩
          replace s : St W (Own 66 3 A8 N c8 (evcs d) :: L) w := s
          refine ⟨_, rfl, ?_⟩; clear ha; intro a ha
          refine wpList_nil ?_
          refine then_normal ?_
          refine wp_seq ?_
          refine wp_region_lit ?_
          refine st_val (.slice none 0 0) ha (by kernel_rfl) (by kernel_rfl) ?_
          clear ha; intro a ha
          refine wpList_nil ?_
          refine then_normal ?_
          refine wp_seq ?_
          refine wp_region_lit ?_
          refine st_ex ha (by kernel_rfl) (ex_alloc [.int .i64 0, .int .i64 0] s rfl (Try.zeroValue70 _) (by kernel_rfl)) ?_
          clear ha; rintro _ w a ⟨g9, rfl, s⟩ ha
          replace s : St W (.blk g9 [.int .i64 0, .int .i64 0] 70 :: Own 66 3 A8 N c8 (evcs d) :: L) w := s
          refine wpList_nil ?_
          refine then_normal ?_
          refine wp_seq ?_
          refine wp_region_lit ?_
          refine st_val (.bool false) ha (by kernel_rfl) (by kernel_rfl) ?_
          clear ha; intro a ha
          refine wpList_nil ?_
          refine then_normal ?_
          refine wp_seq ?_
          refine wp_seq ?_
          refine wp_region_lit ?_
          refine st_val (.slice A8 N c8) ha (by kernel_rfl) (by kernel_rfl) ?_
          clear ha; intro a ha
          refine st_val (.int .i64 ((N : Nat) : Int)) ha (by kernel_rfl) (by kernel_rfl) ?_
          clear ha; intro a ha
          refine st_val (.int .i64 0) ha (by kernel_rfl) (by kernel_rfl) ?_
          clear ha; intro a ha
          refine wpList_nil ?_
          refine then_normal ?_
          refine wp_block ?_
          replace s := Own.none_ (e := 29) (k := 2) none s
          have hej : ∀ e ∈ d, e.j = 0 ∨ e.j = 1 := fun e he => by
            rcases List.mem_append.1 (hperm.mem_iff.1 he) with h | h
            · exact .inl (evs_j h).1
            · exact .inr (evs_j h).1
          have hed : ∀ e ∈ d, e.d = 1 ∨ e.d = -1 := fun e he => by
            rcases List.mem_append.1 (hperm.mem_iff.1 he) with h | h
            · exact (evs_j h).2
            · exact (evs_j h).2
          have hpk : ∀ k, (fun k => wn (opn 0 d k) (opn 1 d k)) k = wn (opn 0 d k) (opn 1 d k) := fun _ => rfl
          replace s := s.at_ (j := 1) rfl
          replace s : St W (.blk g9 [.int .i64 0, .int .i64 0] 70 :: Own 29 2 none 0 0 [] :: Own 66 3 A8 N c8 (evcs d) :: L) w := s
          replace s := s.at_ (j := 1) rfl
          replace s : St W (Own 29 2 none 0 0 [] :: .blk g9 [.int .i64 0, .int .i64 0] 70 :: Own 66 3 A8 N c8 (evcs d) :: L) w := s
          replace s := s.at_ (j := 2) rfl
          replace s : St W (Own 66 3 A8 N c8 (evcs d) :: Own 29 2 none 0 0 [] :: .blk g9 [.int .i64 0, .int .i64 0] 70 :: L) w := s
          replace s : St W (Own 66 3 A8 N c8 (evcs d) :: Own 29 2 none ((([] : List Span) ++ fl none).length) 0 (sps (([] : List Span) ++ fl none)) :: .blk g9 [.int .i64 (prt 0 (d.take 0)), .int .i64 (prt 1 (d.take 0))] 70 :: L) w := s
          refine wp_loopG (G := (Nat × Option Addr × Nat × List Span × Option K)) (fun ⟨k, A14, c14, cl, f⟩ a w => Has a 126 [(2, .func (.func g) #[] #[]), (8, .slice A8 N c8), (15, .pointer (some ⟨g9, 0, none⟩)), (61, .slice A8 N c8), (62, .int .i64 ((N : Nat) : Int)), (63, .int .i64 ((k : Nat) : Int)), (14, .slice A14 ((cl ++ fl f).length) c14), (16, .bool f.isSome)] ∧ St W (Own 66 3 A8 N c8 (evcs d) :: Own 29 2 A14 ((cl ++ fl f).length) c14 (sps (cl ++ fl f)) :: .blk g9 [.int .i64 (prt 0 (d.take k)), .int .i64 (prt 1 (d.take k))] 70 :: L) w ∧ (k ≤ N ∧ Inv d (fun k => wn (opn 0 d k) (opn 1 d k)) (d.drop k) cl f ∧ (cl ++ fl f).length ≤ k)) (fun ⟨k, A14, c14, cl, f⟩ => N - k) (0, none, 0, [], none) ?_ ?_
          · exact ⟨(Has.cons ha (by kernel_rfl) (by kernel_rfl) (Has.cons ha (by kernel_rfl) (by kernel_rfl) (Has.cons ha (by kernel_rfl) (by kernel_rfl) (Has.cons ha (by kernel_rfl) (by kernel_rfl) (Has.cons ha (by kernel_rfl) (by kernel_rfl) (Has.cons ha (by kernel_rfl) (by kernel_rfl) (Has.cons ha (by kernel_rfl) (by kernel_rfl) (Has.cons ha (by kernel_rfl) (by kernel_rfl) (Has.nil ha))))))))), s, ⟨Nat.zero_le _, Inv.start (fun k hk => start_low hsort h0 k hk), Nat.zero_le _⟩⟩
          · clear ha s; rintro ⟨k, A14, c14, cl, f⟩ a w ⟨ha, s, hp⟩
            refine wp_seq ?_
            refine wp_region_lit ?_
            refine st_val (.bool (decide (((k : Nat) : Int) < ((N : Nat) : Int)))) ha (by kernel_rfl) (by kernel_rfl) ?_
            clear ha; intro a ha
            refine wpList_nil ?_
            refine then_normal ?_
            refine wp_seq ?_
            refine wp_part (decide (((k : Nat) : Int) < ((N : Nat) : Int))) ha rfl (by kernel_rfl) (fun hb => ?_) (fun hb => ?_)
            · rw [hb] at ha; replace hb : (((k : Nat) : Int) < ((N : Nat) : Int)) := of_decide_eq_true hb
              have hv := hp.2.1
              have hcl := hp.2.2
              obtain ⟨e, he⟩ : ∃ e, d[k]? = some e := ⟨_, List.getElem?_eq_getElem (by omega)⟩
              rw [drop_at he] at hv
              have hdk := hed e (List.mem_of_getElem? he)
              have htl : (d.take k).length = k := by rw [List.length_take]; omega
              have hs0 := prt_small (l := d.take k) (fun e h => hed e (List.mem_of_mem_take h)) 0
              have hs1 := prt_small (l := d.take k) (fun e h => hed e (List.mem_of_mem_take h)) e.j
              rw [htl] at hs0 hs1
              have hj := hej e (List.mem_of_getElem? he)
              obtain ⟨ade, hA⟩ := Own.addr (s.at_ (j := 0) rfl) (by omega)
              subst hA
              refine wp_skip ?_
              refine then_normal ?_
              refine wp_seq ?_
              refine wp_block ?_
              refine wp_seq ?_
              refine wp_region_lit ?_
              refine st_val (.int .i64 ((k : Nat) : Int)) ha (by kernel_rfl) (by kernel_rfl) ?_
              clear ha; intro a ha
              refine st_val (.pointer (some (ade.add (k * 3)))) ha (by kernel_rfl) (run_indexAddr' (kd := .i64) (i := ((k : Nat) : Int)) (n := N) (c := c8) k rfl Try.underlying63 Try.sizeOf66 (by kernel_rfl) (by kernel_rfl) rfl (by first | assumption | omega) _) ?_
              clear ha; intro a ha
              rcases f with _ | fx
              · rw [show (cl ++ fl none) = cl from List.append_nil cl] at s ha
                have hcl2 : cl.length ≤ k := by have := hcl; simp [fl] at this; exact this
                replace s : St W (Own 66 3 (some ade) N c8 (evcs d) :: Own 29 2 A14 cl.length c14 (sps cl) :: .blk g9 [.int .i64 (prt 0 (d.take k)), .int .i64 (prt 1 (d.take k))] 70 :: L) w := s
                refine st_val (.agg #[.string (str e.key), .int .i64 ((e.j : Nat) : Int), .int .i64 e.d]) ha (by kernel_rfl) (run_loadAtN (i := k * 3) [.string (str e.key), .int .i64 ((e.j : Nat) : Int), .int .i64 e.d] ((Knows.own (j := 0) rfl) _ s.sat) rfl (by kernel_rfl) Try.isAgg66 Try.sizeOf66 (fun q hq => evcs_at he hq) rfl) ?_
                clear ha; intro a ha
                refine st_ex ha (by kernel_rfl) (ex_alloc [.string (str []), .int .i64 0, .int .i64 0] s rfl (Try.zeroValue66 _) (by kernel_rfl)) ?_
                clear ha; rintro _ w a ⟨g10, rfl, s⟩ ha
                replace s : St W (.blk g10 [.string (str []), .int .i64 0, .int .i64 0] 66 :: Own 66 3 (some ade) N c8 (evcs d) :: Own 29 2 A14 cl.length c14 (sps cl) :: .blk g9 [.int .i64 (prt 0 (d.take k)), .int .i64 (prt 1 (d.take k))] 70 :: L) w := s
                refine st_val (.int .i64 ((k : Nat) : Int)) ha (by kernel_rfl) (by kernel_rfl) ?_
                clear ha; intro a ha
                refine st_exd ha (by kernel_rfl) (ex_store (of_ := 0) 0 [.string (str e.key), .int .i64 ((e.j : Nat) : Int), .int .i64 e.d] s rfl rfl (by kernel_rfl) (by kernel_rfl) (Try.sizeOf66 _) rfl (by simp [Value.oneCell']) (Nat.le_of_ble_eq_true rfl)) ?_
                clear ha; rintro w a s ha
                replace s : St W (.blk g10 [.string (str e.key), .int .i64 ((e.j : Nat) : Int), .int .i64 e.d] 66 :: Own 66 3 (some ade) N c8 (evcs d) :: Own 29 2 A14 cl.length c14 (sps cl) :: .blk g9 [.int .i64 (prt 0 (d.take k)), .int .i64 (prt 1 (d.take k))] 70 :: L) w := s
                refine wpList_nil ?_
                refine then_normal ?_
                refine wp_seq ?_
                refine wp_region_head 6 (fun w => BlkIs g10 [.string (str e.key), .int .i64 ((e.j : Nat) : Int), .int .i64 e.d] w ∧ BlkIs g9 [.int .i64 (prt 0 (d.take k)), .int .i64 (prt 1 (d.take k))] w ∧ True) (by kernel_rfl) (by decide) ?_
                replace s := s.drew; generalize _root_.Go.World.drew _ = w at s ⊢
                have hS : (fun w => BlkIs g10 [.string (str e.key), .int .i64 ((e.j : Nat) : Int), .int .i64 e.d] w ∧ BlkIs g9 [.int .i64 (prt 0 (d.take k)), .int .i64 (prt 1 (d.take k))] w ∧ True) w := ⟨s.blkIs 0 rfl, s.blkIs 3 rfl, trivial⟩
                refine hd_val (i := 0) (.pointer (some ⟨g10, 1, none⟩)) ha rfl (by kernel_rfl) (fun _ _ _ h => h) (by kernel_rfl) (fun w hS => (by kernel_rfl)) hS ?_
                clear ha; intro a ha
                refine hd_val (i := 1) (.int .i64 ((e.j : Nat) : Int)) ha rfl (by kernel_rfl) (fun _ _ _ h => h) (by kernel_rfl) (fun w hS => run_load1 (of_ := 1) hS.1 rfl (by kernel_rfl) Try.isAgg3 rfl) hS ?_
                clear ha; intro a ha
                refine hd_val (i := 2) (.pointer (some ⟨g9, e.j, none⟩)) ha rfl (by kernel_rfl) (fun _ _ _ h => h) (by kernel_rfl) (fun w hS => (run_indexArr (kd := .i64) (i := ((e.j : Nat) : Int)) e.j rfl Try.underlying70 Try.sizeOf3 (by kernel_rfl) (by kernel_rfl) rfl (by first | assumption | omega) _)) hS ?_
                clear ha; intro a ha
                refine hd_val (i := 3) (.int .i64 (prt e.j (d.take k))) ha rfl (by kernel_rfl) (fun _ _ _ h => h) (by kernel_rfl) (fun w hS => run_load1 (of_ := e.j) hS.2.1 rfl (by kernel_rfl) Try.isAgg3 (by rcases hj with h | h <;> rw [h] <;> rfl)) hS ?_
                clear ha; intro a ha
                refine hd_val (i := 4) (.pointer (some ⟨g10, 2, none⟩)) ha rfl (by kernel_rfl) (fun _ _ _ h => h) (by kernel_rfl) (fun w hS => (by kernel_rfl)) hS ?_
                clear ha; intro a ha
                refine hd_val (i := 5) (.int .i64 e.d) ha rfl (by kernel_rfl) (fun _ _ _ h => h) (by kernel_rfl) (fun w hS => run_load1 (of_ := 2) hS.1 rfl (by kernel_rfl) Try.isAgg3 rfl) hS ?_
                clear ha; intro a ha
                refine Head.done (by kernel_rfl) ?_
                clear hS; simp only [List.drop_succ_cons, List.drop_zero]
                refine st_val (.int .i64 ((prt e.j (d.take k)) + e.d)) ha (by kernel_rfl) (run_arith ((prt e.j (d.take k)) + e.d) ((prt e.j (d.take k)) + e.d) rfl (by kernel_rfl) (by kernel_rfl) (.inl ⟨rfl, rfl⟩) (by rw [wrap64_in (by omega)]) _) ?_
                clear ha; intro a ha
                refine st_val (.pointer (some ⟨g9, e.j, none⟩)) ha (by kernel_rfl) (run_indexArr (kd := .i64) (i := ((e.j : Nat) : Int)) e.j rfl Try.underlying70 Try.sizeOf3 (by kernel_rfl) (by kernel_rfl) rfl (by first | assumption | omega) _) ?_
                clear ha; intro a ha
                refine st_exd ha (by kernel_rfl) (ex_store_to (of_ := e.j) 3 [.int .i64 ((prt e.j (d.take k)) + e.d)] s (arrj he hj) rfl rfl (by kernel_rfl) (by kernel_rfl) (Try.sizeOf3 _) rfl (by simp [Value.oneCell']) (by simp only [List.length_cons, List.length_nil]; omega)) ?_
                clear ha; rintro w a s ha
                replace s : St W (.blk g10 [.string (str e.key), .int .i64 ((e.j : Nat) : Int), .int .i64 e.d] 66 :: Own 66 3 (some ade) N c8 (evcs d) :: Own 29 2 A14 cl.length c14 (sps cl) :: .blk g9 [.int .i64 (prt 0 (d.take (k + 1))), .int .i64 (prt 1 (d.take (k + 1)))] 70 :: L) w := s
                refine wpList_nil ?_
                refine then_normal ?_
                refine wp_seq ?_
                refine wp_seq ?_
                refine wp_region_head 14 (fun w => Reads w 3 (some ade) N (evcs d) ∧ BlkIs g10 [.string (str e.key), .int .i64 ((e.j : Nat) : Int), .int .i64 e.d] w ∧ True) (by kernel_rfl) (by decide) ?_
                replace s := s.drew; generalize _root_.Go.World.drew _ = w at s ⊢
                have hS : (fun w => Reads w 3 (some ade) N (evcs d) ∧ BlkIs g10 [.string (str e.key), .int .i64 ((e.j : Nat) : Int), .int .i64 e.d] w ∧ True) w := ⟨(Knows.own (j := 1) rfl) _ s.sat, s.blkIs 0 rfl, trivial⟩
                refine hd_val (i := 0) (.int .i64 ((k : Nat) : Int)) ha rfl (by kernel_rfl) (fun _ _ _ h => h) (by kernel_rfl) (fun w hS => (by kernel_rfl)) hS ?_
                clear ha; intro a ha
                refine hd_val (i := 1) (.int .i64 ((k + 1 : Nat) : Int)) ha rfl (by kernel_rfl) (fun _ _ _ h => h) (by kernel_rfl) (fun w hS => (run_arith (((k : Nat) : Int) + (1 : Int)) ((k + 1 : Nat) : Int) rfl (by kernel_rfl) (by kernel_rfl) (.inl ⟨rfl, rfl⟩) (by rw [wrap64_in (by omega)]; try omega) _)) hS ?_
                clear ha; intro a ha
                refine hd_val (i := 2) (.slice (some ade) N c8) ha rfl (by kernel_rfl) (fun _ _ _ h => h) (by kernel_rfl) (fun w hS => (by kernel_rfl)) hS ?_
                clear ha; intro a ha
                refine hd_val (i := 3) (.int .i64 ((N : Nat) : Int)) ha rfl (by kernel_rfl) (fun _ _ _ h => h) (by kernel_rfl) (fun w hS => (by kernel_rfl)) hS ?_
                clear ha; intro a ha
                refine hd_val (i := 4) (.bool (decide (((k + 1 : Nat) : Int) < ((N : Nat) : Int)))) ha rfl (by kernel_rfl) (fun _ _ _ h => h) (by kernel_rfl) (fun w hS => (by kernel_rfl)) hS ?_
                clear ha; intro a ha
                refine hd_val (i := 5) (.bool (decide (((k + 1 : Nat) : Int) < ((N : Nat) : Int)))) ha rfl (by kernel_rfl) (fun _ _ _ h => h) (by kernel_rfl) (fun w hS => (by kernel_rfl)) hS ?_
                clear ha; intro a ha
                rcases Bool.eq_false_or_eq_true (decide (((k + 1 : Nat) : Int) < ((N : Nat) : Int))) with hb | hb
                · rw [hb] at ha; replace hb : (((k + 1 : Nat) : Int) < ((N : Nat) : Int)) := of_decide_eq_true hb
                  obtain ⟨e2, he2⟩ : ∃ e2, d[k + 1]? = some e2 := ⟨_, List.getElem?_eq_getElem (by omega)⟩
                  refine hd_val (i := 6) (.slice (some ade) N c8) ha rfl (by kernel_rfl) (fun _ _ _ h => h) (by kernel_rfl) (fun w hS => (by kernel_rfl)) hS ?_
                  clear ha; intro a ha
                  refine hd_val (i := 7) (.int .i64 ((k : Nat) : Int)) ha rfl (by kernel_rfl) (fun _ _ _ h => h) (by kernel_rfl) (fun w hS => (by kernel_rfl)) hS ?_
                  clear ha; intro a ha
                  refine hd_val (i := 8) (.int .i64 ((k + 1 : Nat) : Int)) ha rfl (by kernel_rfl) (fun _ _ _ h => h) (by kernel_rfl) (fun w hS => (run_arith (((k : Nat) : Int) + (1 : Int)) ((k + 1 : Nat) : Int) rfl (by kernel_rfl) (by kernel_rfl) (.inl ⟨rfl, rfl⟩) (by rw [wrap64_in (by omega)]; try omega) _)) hS ?_
                  clear ha; intro a ha
                  refine hd_val (i := 9) (.pointer (some (ade.add ((k + 1) * 3)))) ha rfl (by kernel_rfl) (fun _ _ _ h => h) (by kernel_rfl) (fun w hS => (run_indexAddr' (kd := .i64) (i := ((k + 1 : Nat) : Int)) (n := N) (c := c8) (k + 1) rfl Try.underlying63 Try.sizeOf66 (by kernel_rfl) (by kernel_rfl) rfl (by first | assumption | omega) _)) hS ?_
                  clear ha; intro a ha
                  refine hd_val (i := 10) (.pointer (some (ade.add ((k + 1) * 3 + 0)))) ha rfl (by kernel_rfl) (fun _ _ _ h => h) (by kernel_rfl) (fun w hS => (run_fieldAddr_at (i := (k + 1) * 3) (off := 0) rfl Try.underlying66 rfl Try.sizeOf9 (by kernel_rfl) _)) hS ?_
                  clear ha; intro a ha
                  refine hd_val (i := 11) (.string (str e2.key)) ha rfl (by kernel_rfl) (fun _ _ _ h => h) (by kernel_rfl) (fun w hS => run_loadAt1 (i := (k + 1) * 3 + 0) hS.1 rfl (by kernel_rfl) Try.isAgg9 (by rw [evcs_at he2 (by omega)]; rfl)) hS ?_
                  clear ha; intro a ha
                  refine hd_val (i := 12) (.pointer (some ⟨g10, 0, none⟩)) ha rfl (by kernel_rfl) (fun _ _ _ h => h) (by kernel_rfl) (fun w hS => (by kernel_rfl)) hS ?_
                  clear ha; intro a ha
                  refine hd_val (i := 13) (.string (str e.key)) ha rfl (by kernel_rfl) (fun _ _ _ h => h) (by kernel_rfl) (fun w hS => run_load1 (of_ := 0) hS.2.1 rfl (by kernel_rfl) Try.isAgg9 rfl) hS ?_
                  clear ha; intro a ha
                  refine Head.done (by kernel_rfl) ?_
                  clear hS; simp only [List.drop_succ_cons, List.drop_zero]
                  refine st_val (.bool (decide (e2.key = e.key))) ha (by kernel_rfl) (run_seql (p := e2.key) (q := e.key) rfl (by kernel_rfl) (by kernel_rfl) _) ?_
                  clear ha; intro a ha
                  refine st_val (.bool (decide (e2.key = e.key))) ha (by kernel_rfl) (by kernel_rfl) ?_
                  clear ha; intro a ha
                  refine wpList_nil ?_
                  refine then_normal ?_
                  refine wp_part (decide (e2.key = e.key)) ha rfl (by kernel_rfl) (fun hb => ?_) (fun hb => ?_)
                  · rw [hb] at ha; replace hb : (e2.key = e.key) := of_decide_eq_true hb
                    refine wp_exit ?_
                    refine then_exit ?_
                    refine block_hit ?_
                    refine then_normal ?_
                    refine wp_region_lit ?_
                    refine st_val (.int .i64 ((k + 1 : Nat) : Int)) ha (by kernel_rfl) (run_arith (((k : Nat) : Int) + (1 : Int)) ((k + 1 : Nat) : Int) rfl (by kernel_rfl) (by kernel_rfl) (.inl ⟨rfl, rfl⟩) (by rw [wrap64_in (by omega)]; try omega) _) ?_
                    clear ha; intro a ha
                    refine st_val (.int .i64 ((k + 1 : Nat) : Int)) ha (by kernel_rfl) (by kernel_rfl) ?_
                    clear ha; intro a ha
                    refine wpList_nil ?_
                    refine then_normal ?_
                    replace s := s.at_ (j := 3) rfl
                    replace s : St W (.blk g9 [.int .i64 (prt 0 (d.take (k + 1))), .int .i64 (prt 1 (d.take (k + 1)))] 70 :: .blk g10 [.string (str e.key), .int .i64 ((e.j : Nat) : Int), .int .i64 e.d] 66 :: Own 66 3 (some ade) N c8 (evcs d) :: Own 29 2 A14 cl.length c14 (sps cl) :: L) w := s
                    replace s := s.at_ (j := 3) rfl
                    replace s : St W (Own 29 2 A14 cl.length c14 (sps cl) :: .blk g9 [.int .i64 (prt 0 (d.take (k + 1))), .int .i64 (prt 1 (d.take (k + 1)))] 70 :: .blk g10 [.string (str e.key), .int .i64 ((e.j : Nat) : Int), .int .i64 e.d] 66 :: Own 66 3 (some ade) N c8 (evcs d) :: L) w := s
                    replace s := s.at_ (j := 3) rfl
                    replace s : St W (Own 66 3 (some ade) N c8 (evcs d) :: Own 29 2 A14 cl.length c14 (sps cl) :: .blk g9 [.int .i64 (prt 0 (d.take (k + 1))), .int .i64 (prt 1 (d.take (k + 1)))] 70 :: .blk g10 [.string (str e.key), .int .i64 ((e.j : Nat) : Int), .int .i64 e.d] 66 :: L) w := s
                    replace s : St W (Own 66 3 (some ade) N c8 (evcs d) :: Own 29 2 A14 cl.length c14 (sps cl) :: .blk g9 [.int .i64 (prt 0 (d.take (k + 1))), .int .i64 (prt 1 (d.take (k + 1)))] 70 :: L) w := St.mid (A := [Own 66 3 (some ade) N c8 (evcs d), Own 29 2 A14 cl.length c14 (sps cl), .blk g9 [.int .i64 (prt 0 (d.take (k + 1))), .int .i64 (prt 1 (d.take (k + 1)))] 70]) (B := [.blk g10 [.string (str e.key), .int .i64 ((e.j : Nat) : Int), .int .i64 e.d] 66]) s
                    have hl2 : cl.length = (cl ++ fl none).length := by simp [fl]
                    rw [hl2] at s ha
                    replace s : St W (Own 66 3 (some ade) N c8 (evcs d) :: Own 29 2 A14 ((cl ++ fl none).length) c14 (sps (cl ++ fl none)) :: .blk g9 [.int .i64 (prt 0 (d.take (k + 1))), .int .i64 (prt 1 (d.take (k + 1)))] 70 :: L) w := by simpa [fl] using s
                    exact ⟨(k + 1, A14, c14, cl, none), (show N - (k + 1) < N - k by omega), (Has.cons ha (by kernel_rfl) (by kernel_rfl) (Has.cons ha (by kernel_rfl) (by kernel_rfl) (Has.cons ha (by kernel_rfl) (by kernel_rfl) (Has.cons ha (by kernel_rfl) (by kernel_rfl) (Has.cons ha (by kernel_rfl) (by kernel_rfl) (Has.cons ha (by kernel_rfl) (by kernel_rfl) (Has.cons ha (by kernel_rfl) (by kernel_rfl) (Has.cons ha (by kernel_rfl) (by kernel_rfl) (Has.nil ha))))))))), s, (show k + 1 ≤ N by omega), (hv.skip ((same_next he2).2 hb)), (show (cl ++ fl none).length ≤ k + 1 by rw [← hl2]; have := hcl; simp [fl] at this; omega)⟩
                  · rw [hb] at ha; replace hb : ¬ (e2.key = e.key) := of_decide_eq_false hb
                    have hns : ¬ same e (d.drop (k + 1)) := fun h => hb ((same_next he2).1 h)
                    refine wp_skip ?_
                    refine then_normal ?_
                    refine wp_seq ?_
                    refine wp_region_lit ?_
                    refine st_val (.func (.func g) #[] #[]) ha (by kernel_rfl) (by kernel_rfl) ?_
                    clear ha; intro a ha
                    refine st_val (.pointer (some ⟨g9, 0, none⟩)) ha (by kernel_rfl) (by kernel_rfl) ?_
                    clear ha; intro a ha
                    refine st_val (.int .i64 (prt 0 (d.take (k + 1)))) ha (by kernel_rfl) (run_load1 (of_ := 0) (s.blkIs 3 rfl) rfl (by kernel_rfl) Try.isAgg3 rfl) ?_
                    clear ha; intro a ha
                    refine st_val (.pointer (some ⟨g9, 1, none⟩)) ha (by kernel_rfl) (by kernel_rfl) ?_
                    clear ha; intro a ha
                    refine st_val (.int .i64 (prt 1 (d.take (k + 1)))) ha (by kernel_rfl) (run_load1 (of_ := 1) (s.blkIs 3 rfl) rfl (by kernel_rfl) Try.isAgg3 rfl) ?_
                    clear ha; intro a ha
                    refine st_call ha (by kernel_rfl) (run_callv (bs := #[]) rfl (by kernel_rfl) eg (by kernel_rfl)) (hw W _ w (prt 0 (d.take (k + 1))) (prt 1 (d.take (k + 1))) s) ?_
                    rintro _ w ⟨rfl, s⟩
                    replace s : St W (.blk g10 [.string (str e.key), .int .i64 ((e.j : Nat) : Int), .int .i64 e.d] 66 :: Own 66 3 (some ade) N c8 (evcs d) :: Own 29 2 A14 cl.length c14 (sps cl) :: .blk g9 [.int .i64 (prt 0 (d.take (k + 1))), .int .i64 (prt 1 (d.take (k + 1)))] 70 :: L) w := s
                    refine ⟨_, rfl, ?_⟩; clear ha; intro a ha
                    refine st_val (.bool (wn (prt 0 (d.take (k + 1))) (prt 1 (d.take (k + 1))))) ha (by kernel_rfl) (by kernel_rfl) ?_
                    clear ha; intro a ha
                    refine wpList_nil ?_
                    refine then_normal ?_
                    refine wp_block ?_
                    refine wp_seq ?_
                    refine wp_region_lit ?_
                    refine st_val (.bool (wn (prt 0 (d.take (k + 1))) (prt 1 (d.take (k + 1))))) ha (by kernel_rfl) (by kernel_rfl) ?_
                    clear ha; intro a ha
                    refine st_val (.bool (wn (prt 0 (d.take (k + 1))) (prt 1 (d.take (k + 1))))) ha (by kernel_rfl) (by kernel_rfl) ?_
                    clear ha; intro a ha
                    rcases Bool.eq_false_or_eq_true (wn (prt 0 (d.take (k + 1))) (prt 1 (d.take (k + 1)))) with hb | hb
                    · rw [hb] at ha; skip
                      have hnow := hb
                      refine st_val (.bool false) ha (by kernel_rfl) (by kernel_rfl) ?_
                      clear ha; intro a ha
                      refine st_val (.bool true) ha (by kernel_rfl) (by kernel_rfl) ?_
                      clear ha; intro a ha
                      refine st_val (.bool true) ha (by kernel_rfl) (by kernel_rfl) ?_
                      clear ha; intro a ha
                      refine st_val (.bool true) ha (by kernel_rfl) (by kernel_rfl) ?_
                      clear ha; intro a ha
                      refine wpList_nil ?_
                      refine then_normal ?_
                      refine wp_true ha rfl (by kernel_rfl) ?_
                      refine wp_seq ?_
                      refine wp_region_lit ?_
                      refine st_val (.slice A14 cl.length c14) ha (by kernel_rfl) (by kernel_rfl) ?_
                      clear ha; intro a ha
                      refine st_val (.pointer (some ⟨g10, 0, none⟩)) ha (by kernel_rfl) (by kernel_rfl) ?_
                      clear ha; intro a ha
                      refine st_val (.string (str e.key)) ha (by kernel_rfl) (run_load1 (of_ := 0) (s.blkIs 0 rfl) rfl (by kernel_rfl) Try.isAgg9 rfl) ?_
                      clear ha; intro a ha
                      refine st_val (.agg #[.string (str e.key), .string (str [])]) ha (by kernel_rfl) (by kernel_rfl) ?_
                      clear ha; intro a ha
                      refine st_ex ha (by kernel_rfl) (ex_buildSlice elt22 _ zs22 [.string (str e.key), .string (str [])] s rfl (by kernel_rfl) (by decide)) ?_
                      clear ha; rintro _ w a ⟨g11, rfl, s⟩ ha
                      replace s : St W (.blk g11 [.string (str e.key), .string (str [])] 29 :: .blk g10 [.string (str e.key), .int .i64 ((e.j : Nat) : Int), .int .i64 e.d] 66 :: Own 66 3 (some ade) N c8 (evcs d) :: Own 29 2 A14 cl.length c14 (sps cl) :: .blk g9 [.int .i64 (prt 0 (d.take (k + 1))), .int .i64 (prt 1 (d.take (k + 1)))] 70 :: L) w := s
                      refine st_ex ha (by kernel_rfl) (ex_append (m := 1) (d' := 1) elt22 (by decide) 3 [.string (str e.key), .string (str [])] s rfl (by kernel_rfl) (by kernel_rfl) rfl (reads_blk (s.blkIs 0 rfl) rfl) (by simp [Value.oneCell']) (by simp only [maxLen]; omega) (by omega)) ?_
                      clear ha; rintro _ w a ⟨A12, c13, rfl, hA_, s⟩ ha
                      replace s : St W (.blk g11 [.string (str e.key), .string (str [])] 29 :: .blk g10 [.string (str e.key), .int .i64 ((e.j : Nat) : Int), .int .i64 e.d] 66 :: Own 66 3 (some ade) N c8 (evcs d) :: Own 29 2 A12 (cl.length + 1) c13 ((sps cl) ++ [.string (str e.key), .string (str [])]) :: .blk g9 [.int .i64 (prt 0 (d.take (k + 1))), .int .i64 (prt 1 (d.take (k + 1)))] 70 :: L) w := s
                      refine st_val (.slice A12 (cl.length + 1) c13) ha (by kernel_rfl) (by kernel_rfl) ?_
                      clear ha; intro a ha
                      refine wpList_nil ?_
                      refine then_normal ?_
                      refine wp_region_lit ?_
                      refine st_val (.bool true) ha (by kernel_rfl) (by kernel_rfl) ?_
                      clear ha; intro a ha
                      refine wpList_nil ?_
                      refine block_normal ?_
                      refine block_normal ?_
                      refine then_normal ?_
                      refine wp_region_lit ?_
                      refine st_val (.int .i64 ((k + 1 : Nat) : Int)) ha (by kernel_rfl) (run_arith (((k : Nat) : Int) + (1 : Int)) ((k + 1 : Nat) : Int) rfl (by kernel_rfl) (by kernel_rfl) (.inl ⟨rfl, rfl⟩) (by rw [wrap64_in (by omega)]; try omega) _) ?_
                      clear ha; intro a ha
                      refine st_val (.int .i64 ((k + 1 : Nat) : Int)) ha (by kernel_rfl) (by kernel_rfl) ?_
                      clear ha; intro a ha
                      refine wpList_nil ?_
                      refine then_normal ?_
                      replace s := s.at_ (j := 4) rfl
                      replace s : St W (.blk g9 [.int .i64 (prt 0 (d.take (k + 1))), .int .i64 (prt 1 (d.take (k + 1)))] 70 :: .blk g11 [.string (str e.key), .string (str [])] 29 :: .blk g10 [.string (str e.key), .int .i64 ((e.j : Nat) : Int), .int .i64 e.d] 66 :: Own 66 3 (some ade) N c8 (evcs d) :: Own 29 2 A12 (cl.length + 1) c13 ((sps cl) ++ [.string (str e.key), .string (str [])]) :: L) w := s
                      replace s := s.at_ (j := 4) rfl
                      replace s : St W (Own 29 2 A12 (cl.length + 1) c13 ((sps cl) ++ [.string (str e.key), .string (str [])]) :: .blk g9 [.int .i64 (prt 0 (d.take (k + 1))), .int .i64 (prt 1 (d.take (k + 1)))] 70 :: .blk g11 [.string (str e.key), .string (str [])] 29 :: .blk g10 [.string (str e.key), .int .i64 ((e.j : Nat) : Int), .int .i64 e.d] 66 :: Own 66 3 (some ade) N c8 (evcs d) :: L) w := s
                      replace s := s.at_ (j := 4) rfl
                      replace s : St W (Own 66 3 (some ade) N c8 (evcs d) :: Own 29 2 A12 (cl.length + 1) c13 ((sps cl) ++ [.string (str e.key), .string (str [])]) :: .blk g9 [.int .i64 (prt 0 (d.take (k + 1))), .int .i64 (prt 1 (d.take (k + 1)))] 70 :: .blk g11 [.string (str e.key), .string (str [])] 29 :: .blk g10 [.string (str e.key), .int .i64 ((e.j : Nat) : Int), .int .i64 e.d] 66 :: L) w := s
                      replace s : St W (Own 66 3 (some ade) N c8 (evcs d) :: Own 29 2 A12 (cl.length + 1) c13 ((sps cl) ++ [.string (str e.key), .string (str [])]) :: .blk g9 [.int .i64 (prt 0 (d.take (k + 1))), .int .i64 (prt 1 (d.take (k + 1)))] 70 :: L) w := St.mid (A := [Own 66 3 (some ade) N c8 (evcs d), Own 29 2 A12 (cl.length + 1) c13 ((sps cl) ++ [.string (str e.key), .string (str [])]), .blk g9 [.int .i64 (prt 0 (d.take (k + 1))), .int .i64 (prt 1 (d.take (k + 1)))] 70]) (B := [.blk g11 [.string (str e.key), .string (str [])] 29, .blk g10 [.string (str e.key), .int .i64 ((e.j : Nat) : Int), .int .i64 e.d] 66]) s
                      have hl2 : cl.length + 1 = (cl ++ fl (some e.key)).length := by simp [fl]
                      rw [hl2] at s ha
                      replace s : St W (Own 66 3 (some ade) N c8 (evcs d) :: Own 29 2 A12 ((cl ++ fl (some e.key)).length) c13 (sps (cl ++ fl (some e.key))) :: .blk g9 [.int .i64 (prt 0 (d.take (k + 1))), .int .i64 (prt 1 (d.take (k + 1)))] 70 :: L) w := by rw [sps_append]; exact s
                      exact ⟨(k + 1, A12, c13, cl, (some e.key)), (show N - (k + 1) < N - k by omega), (Has.cons ha (by kernel_rfl) (by kernel_rfl) (Has.cons ha (by kernel_rfl) (by kernel_rfl) (Has.cons ha (by kernel_rfl) (by kernel_rfl) (Has.cons ha (by kernel_rfl) (by kernel_rfl) (Has.cons ha (by kernel_rfl) (by kernel_rfl) (Has.cons ha (by kernel_rfl) (by kernel_rfl) (Has.cons ha (by kernel_rfl) (by kernel_rfl) (Has.cons ha (by kernel_rfl) (by kernel_rfl) (Has.nil ha))))))))), s, (show k + 1 ≤ N by omega), (hv.open_ hpk (take_at he) hsort hns (by rw [take_snoc he]; exact hnow)), (show (cl ++ fl (some e.key)).length ≤ k + 1 by rw [← hl2]; have := hcl; simp [fl] at this; omega)⟩
                    · rw [hb] at ha; skip
                      have hnow := hb
                      refine st_pass ha (by kernel_rfl) ?_
                      clear ha; intro a ha
                      refine st_pass ha (by kernel_rfl) ?_
                      clear ha; intro a ha
                      refine st_val (.bool false) ha (by kernel_rfl) (by kernel_rfl) ?_
                      clear ha; intro a ha
                      refine st_val (.bool false) ha (by kernel_rfl) (by kernel_rfl) ?_
                      clear ha; intro a ha
                      refine wpList_nil ?_
                      refine then_normal ?_
                      refine wp_false ha rfl (by kernel_rfl) ?_
                      refine wp_seq ?_
                      refine wp_region_lit ?_
                      refine st_val (.bool false) ha (by kernel_rfl) (by kernel_rfl) ?_
                      clear ha; intro a ha
                      refine st_val (.bool true) ha (by kernel_rfl) (by kernel_rfl) ?_
                      clear ha; intro a ha
                      refine st_val (.bool true) ha (by kernel_rfl) (by kernel_rfl) ?_
                      clear ha; intro a ha
                      refine st_val (.bool false) ha (by kernel_rfl) (by kernel_rfl) ?_
                      clear ha; intro a ha
                      refine st_val (.bool false) ha (by kernel_rfl) (by kernel_rfl) ?_
                      clear ha; intro a ha
                      refine st_val (.bool false) ha (by kernel_rfl) (by kernel_rfl) ?_
                      clear ha; intro a ha
                      refine wpList_nil ?_
                      refine then_normal ?_
                      refine wp_false ha rfl (by kernel_rfl) ?_
                      refine wp_skip ?_
                      refine block_normal ?_
                      refine block_normal ?_
                      refine then_normal ?_
                      refine wp_region_lit ?_
                      refine st_val (.int .i64 ((k + 1 : Nat) : Int)) ha (by kernel_rfl) (run_arith (((k : Nat) : Int) + (1 : Int)) ((k + 1 : Nat) : Int) rfl (by kernel_rfl) (by kernel_rfl) (.inl ⟨rfl, rfl⟩) (by rw [wrap64_in (by omega)]; try omega) _) ?_
                      clear ha; intro a ha
                      refine st_val (.int .i64 ((k + 1 : Nat) : Int)) ha (by kernel_rfl) (by kernel_rfl) ?_
                      clear ha; intro a ha
                      refine wpList_nil ?_
                      refine then_normal ?_
                      replace s := s.at_ (j := 3) rfl
                      replace s : St W (.blk g9 [.int .i64 (prt 0 (d.take (k + 1))), .int .i64 (prt 1 (d.take (k + 1)))] 70 :: .blk g10 [.string (str e.key), .int .i64 ((e.j : Nat) : Int), .int .i64 e.d] 66 :: Own 66 3 (some ade) N c8 (evcs d) :: Own 29 2 A14 cl.length c14 (sps cl) :: L) w := s
                      replace s := s.at_ (j := 3) rfl
                      replace s : St W (Own 29 2 A14 cl.length c14 (sps cl) :: .blk g9 [.int .i64 (prt 0 (d.take (k + 1))), .int .i64 (prt 1 (d.take (k + 1)))] 70 :: .blk g10 [.string (str e.key), .int .i64 ((e.j : Nat) : Int), .int .i64 e.d] 66 :: Own 66 3 (some ade) N c8 (evcs d) :: L) w := s
                      replace s := s.at_ (j := 3) rfl
                      replace s : St W (Own 66 3 (some ade) N c8 (evcs d) :: Own 29 2 A14 cl.length c14 (sps cl) :: .blk g9 [.int .i64 (prt 0 (d.take (k + 1))), .int .i64 (prt 1 (d.take (k + 1)))] 70 :: .blk g10 [.string (str e.key), .int .i64 ((e.j : Nat) : Int), .int .i64 e.d] 66 :: L) w := s
                      replace s : St W (Own 66 3 (some ade) N c8 (evcs d) :: Own 29 2 A14 cl.length c14 (sps cl) :: .blk g9 [.int .i64 (prt 0 (d.take (k + 1))), .int .i64 (prt 1 (d.take (k + 1)))] 70 :: L) w := St.mid (A := [Own 66 3 (some ade) N c8 (evcs d), Own 29 2 A14 cl.length c14 (sps cl), .blk g9 [.int .i64 (prt 0 (d.take (k + 1))), .int .i64 (prt 1 (d.take (k + 1)))] 70]) (B := [.blk g10 [.string (str e.key), .int .i64 ((e.j : Nat) : Int), .int .i64 e.d] 66]) s
                      have hl2 : cl.length = (cl ++ fl none).length := by simp [fl]
                      rw [hl2] at s ha
                      replace s : St W (Own 66 3 (some ade) N c8 (evcs d) :: Own 29 2 A14 ((cl ++ fl none).length) c14 (sps (cl ++ fl none)) :: .blk g9 [.int .i64 (prt 0 (d.take (k + 1))), .int .i64 (prt 1 (d.take (k + 1)))] 70 :: L) w := by simpa [fl] using s
                      exact ⟨(k + 1, A14, c14, cl, none), (show N - (k + 1) < N - k by omega), (Has.cons ha (by kernel_rfl) (by kernel_rfl) (Has.cons ha (by kernel_rfl) (by kernel_rfl) (Has.cons ha (by kernel_rfl) (by kernel_rfl) (Has.cons ha (by kernel_rfl) (by kernel_rfl) (Has.cons ha (by kernel_rfl) (by kernel_rfl) (Has.cons ha (by kernel_rfl) (by kernel_rfl) (Has.cons ha (by kernel_rfl) (by kernel_rfl) (Has.cons ha (by kernel_rfl) (by kernel_rfl) (Has.nil ha))))))))), s, (show k + 1 ≤ N by omega), (hv.stay hpk (take_at he) hsort hns (by rw [take_snoc he]; simpa using hnow)), (show (cl ++ fl none).length ≤ k + 1 by rw [← hl2]; have := hcl; simp [fl] at this; omega)⟩
                · rw [hb] at ha; replace hb : ¬ (((k + 1 : Nat) : Int) < ((N : Nat) : Int)) := of_decide_eq_false hb
                  have hns : ¬ same e (d.drop (k + 1)) := by rw [List.drop_of_length_le (by omega)]; exact fun h => h
                  refine hd_pass (i := 6) ha rfl (by kernel_rfl) (fun _ _ _ h => h) (by kernel_rfl) hS ?_
                  clear ha; intro a ha
                  refine hd_pass (i := 7) ha rfl (by kernel_rfl) (fun _ _ _ h => h) (by kernel_rfl) hS ?_
                  clear ha; intro a ha
                  refine hd_pass (i := 8) ha rfl (by kernel_rfl) (fun _ _ _ h => h) (by kernel_rfl) hS ?_
                  clear ha; intro a ha
                  refine hd_pass (i := 9) ha rfl (by kernel_rfl) (fun _ _ _ h => h) (by kernel_rfl) hS ?_
                  clear ha; intro a ha
                  refine hd_pass (i := 10) ha rfl (by kernel_rfl) (fun _ _ _ h => h) (by kernel_rfl) hS ?_
                  clear ha; intro a ha
                  refine hd_pass (i := 11) ha rfl (by kernel_rfl) (fun _ _ _ h => h) (by kernel_rfl) hS ?_
                  clear ha; intro a ha
                  refine hd_pass (i := 12) ha rfl (by kernel_rfl) (fun _ _ _ h => h) (by kernel_rfl) hS ?_
                  clear ha; intro a ha
                  refine hd_pass (i := 13) ha rfl (by kernel_rfl) (fun _ _ _ h => h) (by kernel_rfl) hS ?_
                  clear ha; intro a ha
                  refine Head.done (by kernel_rfl) ?_
                  clear hS; simp only [List.drop_succ_cons, List.drop_zero]
                  refine st_pass ha (by kernel_rfl) ?_
                  clear ha; intro a ha
                  refine st_val (.bool false) ha (by kernel_rfl) (by kernel_rfl) ?_
                  clear ha; intro a ha
                  refine wpList_nil ?_
                  refine then_normal ?_
                  refine wp_false ha rfl (by kernel_rfl) ?_
                  refine wp_skip ?_
                  refine then_normal ?_
                  refine wp_seq ?_
                  refine wp_region_lit ?_
                  refine st_val (.func (.func g) #[] #[]) ha (by kernel_rfl) (by kernel_rfl) ?_
                  clear ha; intro a ha
                  refine st_val (.pointer (some ⟨g9, 0, none⟩)) ha (by kernel_rfl) (by kernel_rfl) ?_
                  clear ha; intro a ha
                  refine st_val (.int .i64 (prt 0 (d.take (k + 1)))) ha (by kernel_rfl) (run_load1 (of_ := 0) (s.blkIs 3 rfl) rfl (by kernel_rfl) Try.isAgg3 rfl) ?_
                  clear ha; intro a ha
                  refine st_val (.pointer (some ⟨g9, 1, none⟩)) ha (by kernel_rfl) (by kernel_rfl) ?_
                  clear ha; intro a ha
                  refine st_val (.int .i64 (prt 1 (d.take (k + 1)))) ha (by kernel_rfl) (run_load1 (of_ := 1) (s.blkIs 3 rfl) rfl (by kernel_rfl) Try.isAgg3 rfl) ?_
                  clear ha; intro a ha
                  refine st_call ha (by kernel_rfl) (run_callv (bs := #[]) rfl (by kernel_rfl) eg (by kernel_rfl)) (hw W _ w (prt 0 (d.take (k + 1))) (prt 1 (d.take (k + 1))) s) ?_
                  rintro _ w ⟨rfl, s⟩
                  replace s : St W (.blk g10 [.string (str e.key), .int .i64 ((e.j : Nat) : Int), .int .i64 e.d] 66 :: Own 66 3 (some ade) N c8 (evcs d) :: Own 29 2 A14 cl.length c14 (sps cl) :: .blk g9 [.int .i64 (prt 0 (d.take (k + 1))), .int .i64 (prt 1 (d.take (k + 1)))] 70 :: L) w := s
                  refine ⟨_, rfl, ?_⟩; clear ha; intro a ha
                  refine st_val (.bool (wn (prt 0 (d.take (k + 1))) (prt 1 (d.take (k + 1))))) ha (by kernel_rfl) (by kernel_rfl) ?_
                  clear ha; intro a ha
                  refine wpList_nil ?_
                  refine then_normal ?_
                  refine wp_block ?_
                  refine wp_seq ?_
                  refine wp_region_lit ?_
                  refine st_val (.bool (wn (prt 0 (d.take (k + 1))) (prt 1 (d.take (k + 1))))) ha (by kernel_rfl) (by kernel_rfl) ?_
                  clear ha; intro a ha
                  refine st_val (.bool (wn (prt 0 (d.take (k + 1))) (prt 1 (d.take (k + 1))))) ha (by kernel_rfl) (by kernel_rfl) ?_
                  clear ha; intro a ha
                  rcases Bool.eq_false_or_eq_true (wn (prt 0 (d.take (k + 1))) (prt 1 (d.take (k + 1)))) with hb | hb
                  · rw [hb] at ha; skip
                    have hnow := hb
                    refine st_val (.bool false) ha (by kernel_rfl) (by kernel_rfl) ?_
                    clear ha; intro a ha
                    refine st_val (.bool true) ha (by kernel_rfl) (by kernel_rfl) ?_
                    clear ha; intro a ha
                    refine st_val (.bool true) ha (by kernel_rfl) (by kernel_rfl) ?_
                    clear ha; intro a ha
                    refine st_val (.bool true) ha (by kernel_rfl) (by kernel_rfl) ?_
                    clear ha; intro a ha
                    refine wpList_nil ?_
                    refine then_normal ?_
                    refine wp_true ha rfl (by kernel_rfl) ?_
                    refine wp_seq ?_
                    refine wp_region_lit ?_
                    refine st_val (.slice A14 cl.length c14) ha (by kernel_rfl) (by kernel_rfl) ?_
                    clear ha; intro a ha
                    refine st_val (.pointer (some ⟨g10, 0, none⟩)) ha (by kernel_rfl) (by kernel_rfl) ?_
                    clear ha; intro a ha
                    refine st_val (.string (str e.key)) ha (by kernel_rfl) (run_load1 (of_ := 0) (s.blkIs 0 rfl) rfl (by kernel_rfl) Try.isAgg9 rfl) ?_
                    clear ha; intro a ha
                    refine st_val (.agg #[.string (str e.key), .string (str [])]) ha (by kernel_rfl) (by kernel_rfl) ?_
                    clear ha; intro a ha
                    refine st_ex ha (by kernel_rfl) (ex_buildSlice elt22 _ zs22 [.string (str e.key), .string (str [])] s rfl (by kernel_rfl) (by decide)) ?_
                    clear ha; rintro _ w a ⟨g14, rfl, s⟩ ha
                    replace s : St W (.blk g14 [.string (str e.key), .string (str [])] 29 :: .blk g10 [.string (str e.key), .int .i64 ((e.j : Nat) : Int), .int .i64 e.d] 66 :: Own 66 3 (some ade) N c8 (evcs d) :: Own 29 2 A14 cl.length c14 (sps cl) :: .blk g9 [.int .i64 (prt 0 (d.take (k + 1))), .int .i64 (prt 1 (d.take (k + 1)))] 70 :: L) w := s
                    refine st_ex ha (by kernel_rfl) (ex_append (m := 1) (d' := 1) elt22 (by decide) 3 [.string (str e.key), .string (str [])] s rfl (by kernel_rfl) (by kernel_rfl) rfl (reads_blk (s.blkIs 0 rfl) rfl) (by simp [Value.oneCell']) (by simp only [maxLen]; omega) (by omega)) ?_
                    clear ha; rintro _ w a ⟨A15, c16, rfl, hA_, s⟩ ha
                    replace s : St W (.blk g14 [.string (str e.key), .string (str [])] 29 :: .blk g10 [.string (str e.key), .int .i64 ((e.j : Nat) : Int), .int .i64 e.d] 66 :: Own 66 3 (some ade) N c8 (evcs d) :: Own 29 2 A15 (cl.length + 1) c16 ((sps cl) ++ [.string (str e.key), .string (str [])]) :: .blk g9 [.int .i64 (prt 0 (d.take (k + 1))), .int .i64 (prt 1 (d.take (k + 1)))] 70 :: L) w := s
                    refine st_val (.slice A15 (cl.length + 1) c16) ha (by kernel_rfl) (by kernel_rfl) ?_
                    clear ha; intro a ha
                    refine wpList_nil ?_
                    refine then_normal ?_
                    refine wp_region_lit ?_
                    refine st_val (.bool true) ha (by kernel_rfl) (by kernel_rfl) ?_
                    clear ha; intro a ha
                    refine wpList_nil ?_
                    refine block_normal ?_
                    refine block_normal ?_
                    refine then_normal ?_
                    refine wp_region_lit ?_
                    refine st_val (.int .i64 ((k + 1 : Nat) : Int)) ha (by kernel_rfl) (run_arith (((k : Nat) : Int) + (1 : Int)) ((k + 1 : Nat) : Int) rfl (by kernel_rfl) (by kernel_rfl) (.inl ⟨rfl, rfl⟩) (by rw [wrap64_in (by omega)]; try omega) _) ?_
                    clear ha; intro a ha
                    refine st_val (.int .i64 ((k + 1 : Nat) : Int)) ha (by kernel_rfl) (by kernel_rfl) ?_
                    clear ha; intro a ha
                    refine wpList_nil ?_
                    refine then_normal ?_
                    replace s := s.at_ (j := 4) rfl
                    replace s : St W (.blk g9 [.int .i64 (prt 0 (d.take (k + 1))), .int .i64 (prt 1 (d.take (k + 1)))] 70 :: .blk g14 [.string (str e.key), .string (str [])] 29 :: .blk g10 [.string (str e.key), .int .i64 ((e.j : Nat) : Int), .int .i64 e.d] 66 :: Own 66 3 (some ade) N c8 (evcs d) :: Own 29 2 A15 (cl.length + 1) c16 ((sps cl) ++ [.string (str e.key), .string (str [])]) :: L) w := s
                    replace s := s.at_ (j := 4) rfl
                    replace s : St W (Own 29 2 A15 (cl.length + 1) c16 ((sps cl) ++ [.string (str e.key), .string (str [])]) :: .blk g9 [.int .i64 (prt 0 (d.take (k + 1))), .int .i64 (prt 1 (d.take (k + 1)))] 70 :: .blk g14 [.string (str e.key), .string (str [])] 29 :: .blk g10 [.string (str e.key), .int .i64 ((e.j : Nat) : Int), .int .i64 e.d] 66 :: Own 66 3 (some ade) N c8 (evcs d) :: L) w := s
                    replace s := s.at_ (j := 4) rfl
                    replace s : St W (Own 66 3 (some ade) N c8 (evcs d) :: Own 29 2 A15 (cl.length + 1) c16 ((sps cl) ++ [.string (str e.key), .string (str [])]) :: .blk g9 [.int .i64 (prt 0 (d.take (k + 1))), .int .i64 (prt 1 (d.take (k + 1)))] 70 :: .blk g14 [.string (str e.key), .string (str [])] 29 :: .blk g10 [.string (str e.key), .int .i64 ((e.j : Nat) : Int), .int .i64 e.d] 66 :: L) w := s
                    replace s : St W (Own 66 3 (some ade) N c8 (evcs d) :: Own 29 2 A15 (cl.length + 1) c16 ((sps cl) ++ [.string (str e.key), .string (str [])]) :: .blk g9 [.int .i64 (prt 0 (d.take (k + 1))), .int .i64 (prt 1 (d.take (k + 1)))] 70 :: L) w := St.mid (A := [Own 66 3 (some ade) N c8 (evcs d), Own 29 2 A15 (cl.length + 1) c16 ((sps cl) ++ [.string (str e.key), .string (str [])]), .blk g9 [.int .i64 (prt 0 (d.take (k + 1))), .int .i64 (prt 1 (d.take (k + 1)))] 70]) (B := [.blk g14 [.string (str e.key), .string (str [])] 29, .blk g10 [.string (str e.key), .int .i64 ((e.j : Nat) : Int), .int .i64 e.d] 66]) s
                    have hl2 : cl.length + 1 = (cl ++ fl (some e.key)).length := by simp [fl]
                    rw [hl2] at s ha
                    replace s : St W (Own 66 3 (some ade) N c8 (evcs d) :: Own 29 2 A15 ((cl ++ fl (some e.key)).length) c16 (sps (cl ++ fl (some e.key))) :: .blk g9 [.int .i64 (prt 0 (d.take (k + 1))), .int .i64 (prt 1 (d.take (k + 1)))] 70 :: L) w := by rw [sps_append]; exact s
                    exact ⟨(k + 1, A15, c16, cl, (some e.key)), (show N - (k + 1) < N - k by omega), (Has.cons ha (by kernel_rfl) (by kernel_rfl) (Has.cons ha (by kernel_rfl) (by kernel_rfl) (Has.cons ha (by kernel_rfl) (by kernel_rfl) (Has.cons ha (by kernel_rfl) (by kernel_rfl) (Has.cons ha (by kernel_rfl) (by kernel_rfl) (Has.cons ha (by kernel_rfl) (by kernel_rfl) (Has.cons ha (by kernel_rfl) (by kernel_rfl) (Has.cons ha (by kernel_rfl) (by kernel_rfl) (Has.nil ha))))))))), s, (show k + 1 ≤ N by omega), (hv.open_ hpk (take_at he) hsort hns (by rw [take_snoc he]; exact hnow)), (show (cl ++ fl (some e.key)).length ≤ k + 1 by rw [← hl2]; have := hcl; simp [fl] at this; omega)⟩
                  · rw [hb] at ha; skip
                    have hnow := hb
                    refine st_pass ha (by kernel_rfl) ?_
                    clear ha; intro a ha
                    refine st_pass ha (by kernel_rfl) ?_
                    clear ha; intro a ha
                    refine st_val (.bool false) ha (by kernel_rfl) (by kernel_rfl) ?_
                    clear ha; intro a ha
                    refine st_val (.bool false) ha (by kernel_rfl) (by kernel_rfl) ?_
                    clear ha; intro a ha
                    refine wpList_nil ?_
                    refine then_normal ?_
                    refine wp_false ha rfl (by kernel_rfl) ?_
                    refine wp_seq ?_
                    refine wp_region_lit ?_
                    refine st_val (.bool false) ha (by kernel_rfl) (by kernel_rfl) ?_
                    clear ha; intro a ha
                    refine st_val (.bool true) ha (by kernel_rfl) (by kernel_rfl) ?_
                    clear ha; intro a ha
                    refine st_val (.bool true) ha (by kernel_rfl) (by kernel_rfl) ?_
                    clear ha; intro a ha
                    refine st_val (.bool false) ha (by kernel_rfl) (by kernel_rfl) ?_
                    clear ha; intro a ha
                    refine st_val (.bool false) ha (by kernel_rfl) (by kernel_rfl) ?_
                    clear ha; intro a ha
                    refine st_val (.bool false) ha (by kernel_rfl) (by kernel_rfl) ?_
                    clear ha; intro a ha
                    refine wpList_nil ?_
                    refine then_normal ?_
                    refine wp_false ha rfl (by kernel_rfl) ?_
                    refine wp_skip ?_
                    refine block_normal ?_
                    refine block_normal ?_
                    refine then_normal ?_
                    refine wp_region_lit ?_
                    refine st_val (.int .i64 ((k + 1 : Nat) : Int)) ha (by kernel_rfl) (run_arith (((k : Nat) : Int) + (1 : Int)) ((k + 1 : Nat) : Int) rfl (by kernel_rfl) (by kernel_rfl) (.inl ⟨rfl, rfl⟩) (by rw [wrap64_in (by omega)]; try omega) _) ?_
                    clear ha; intro a ha
                    refine st_val (.int .i64 ((k + 1 : Nat) : Int)) ha (by kernel_rfl) (by kernel_rfl) ?_
                    clear ha; intro a ha
                    refine wpList_nil ?_
                    refine then_normal ?_
                    replace s := s.at_ (j := 3) rfl
                    replace s : St W (.blk g9 [.int .i64 (prt 0 (d.take (k + 1))), .int .i64 (prt 1 (d.take (k + 1)))] 70 :: .blk g10 [.string (str e.key), .int .i64 ((e.j : Nat) : Int), .int .i64 e.d] 66 :: Own 66 3 (some ade) N c8 (evcs d) :: Own 29 2 A14 cl.length c14 (sps cl) :: L) w := s
                    replace s := s.at_ (j := 3) rfl
                    replace s : St W (Own 29 2 A14 cl.length c14 (sps cl) :: .blk g9 [.int .i64 (prt 0 (d.take (k + 1))), .int .i64 (prt 1 (d.take (k + 1)))] 70 :: .blk g10 [.string (str e.key), .int .i64 ((e.j : Nat) : Int), .int .i64 e.d] 66 :: Own 66 3 (some ade) N c8 (evcs d) :: L) w := s
                    replace s := s.at_ (j := 3) rfl
                    replace s : St W (Own 66 3 (some ade) N c8 (evcs d) :: Own 29 2 A14 cl.length c14 (sps cl) :: .blk g9 [.int .i64 (prt 0 (d.take (k + 1))), .int .i64 (prt 1 (d.take (k + 1)))] 70 :: .blk g10 [.string (str e.key), .int .i64 ((e.j : Nat) : Int), .int .i64 e.d] 66 :: L) w := s
                    replace s : St W (Own 66 3 (some ade) N c8 (evcs d) :: Own 29 2 A14 cl.length c14 (sps cl) :: .blk g9 [.int .i64 (prt 0 (d.take (k + 1))), .int .i64 (prt 1 (d.take (k + 1)))] 70 :: L) w := St.mid (A := [Own 66 3 (some ade) N c8 (evcs d), Own 29 2 A14 cl.length c14 (sps cl), .blk g9 [.int .i64 (prt 0 (d.take (k + 1))), .int .i64 (prt 1 (d.take (k + 1)))] 70]) (B := [.blk g10 [.string (str e.key), .int .i64 ((e.j : Nat) : Int), .int .i64 e.d] 66]) s
                    have hl2 : cl.length = (cl ++ fl none).length := by simp [fl]
                    rw [hl2] at s ha
                    replace s : St W (Own 66 3 (some ade) N c8 (evcs d) :: Own 29 2 A14 ((cl ++ fl none).length) c14 (sps (cl ++ fl none)) :: .blk g9 [.int .i64 (prt 0 (d.take (k + 1))), .int .i64 (prt 1 (d.take (k + 1)))] 70 :: L) w := by simpa [fl] using s
                    exact ⟨(k + 1, A14, c14, cl, none), (show N - (k + 1) < N - k by omega), (Has.cons ha (by kernel_rfl) (by kernel_rfl) (Has.cons ha (by kernel_rfl) (by kernel_rfl) (Has.cons ha (by kernel_rfl) (by kernel_rfl) (Has.cons ha (by kernel_rfl) (by kernel_rfl) (Has.cons ha (by kernel_rfl) (by kernel_rfl) (Has.cons ha (by kernel_rfl) (by kernel_rfl) (Has.cons ha (by kernel_rfl) (by kernel_rfl) (Has.cons ha (by kernel_rfl) (by kernel_rfl) (Has.nil ha))))))))), s, (show k + 1 ≤ N by omega), (hv.stay hpk (take_at he) hsort hns (by rw [take_snoc he]; simpa using hnow)), (show (cl ++ fl none).length ≤ k + 1 by rw [← hl2]; have := hcl; simp [fl] at this; omega)⟩
              · have hlen : (cl ++ fl (some fx)).length = cl.length + 1 := by simp [fl]
                have hfl : cl ++ fl (some fx) = cl ++ [(fx, [])] := rfl
                rw [hlen] at s ha; rw [hfl] at s
                have hcl2 : cl.length + 1 ≤ k := by rw [← hlen]; exact hcl
                replace s : St W (Own 66 3 (some ade) N c8 (evcs d) :: Own 29 2 A14 (cl.length + 1) c14 (sps (cl ++ [(fx, [])])) :: .blk g9 [.int .i64 (prt 0 (d.take k)), .int .i64 (prt 1 (d.take k))] 70 :: L) w := s
                obtain ⟨ado, hAo⟩ := Own.addr (s.at_ (j := 1) rfl) (by omega)
                subst hAo
                refine st_val (.agg #[.string (str e.key), .int .i64 ((e.j : Nat) : Int), .int .i64 e.d]) ha (by kernel_rfl) (run_loadAtN (i := k * 3) [.string (str e.key), .int .i64 ((e.j : Nat) : Int), .int .i64 e.d] ((Knows.own (j := 0) rfl) _ s.sat) rfl (by kernel_rfl) Try.isAgg66 Try.sizeOf66 (fun q hq => evcs_at he hq) rfl) ?_
                clear ha; intro a ha
                refine st_ex ha (by kernel_rfl) (ex_alloc [.string (str []), .int .i64 0, .int .i64 0] s rfl (Try.zeroValue66 _) (by kernel_rfl)) ?_
                clear ha; rintro _ w a ⟨g17, rfl, s⟩ ha
                replace s : St W (.blk g17 [.string (str []), .int .i64 0, .int .i64 0] 66 :: Own 66 3 (some ade) N c8 (evcs d) :: Own 29 2 (some ado) (cl.length + 1) c14 (sps (cl ++ [(fx, [])])) :: .blk g9 [.int .i64 (prt 0 (d.take k)), .int .i64 (prt 1 (d.take k))] 70 :: L) w := s
                refine st_val (.int .i64 ((k : Nat) : Int)) ha (by kernel_rfl) (by kernel_rfl) ?_
                clear ha; intro a ha
                refine st_exd ha (by kernel_rfl) (ex_store (of_ := 0) 0 [.string (str e.key), .int .i64 ((e.j : Nat) : Int), .int .i64 e.d] s rfl rfl (by kernel_rfl) (by kernel_rfl) (Try.sizeOf66 _) rfl (by simp [Value.oneCell']) (Nat.le_of_ble_eq_true rfl)) ?_
                clear ha; rintro w a s ha
                replace s : St W (.blk g17 [.string (str e.key), .int .i64 ((e.j : Nat) : Int), .int .i64 e.d] 66 :: Own 66 3 (some ade) N c8 (evcs d) :: Own 29 2 (some ado) (cl.length + 1) c14 (sps (cl ++ [(fx, [])])) :: .blk g9 [.int .i64 (prt 0 (d.take k)), .int .i64 (prt 1 (d.take k))] 70 :: L) w := s
                refine wpList_nil ?_
                refine then_normal ?_
                refine wp_seq ?_
                refine wp_region_head 6 (fun w => BlkIs g17 [.string (str e.key), .int .i64 ((e.j : Nat) : Int), .int .i64 e.d] w ∧ BlkIs g9 [.int .i64 (prt 0 (d.take k)), .int .i64 (prt 1 (d.take k))] w ∧ True) (by kernel_rfl) (by decide) ?_
                replace s := s.drew; generalize _root_.Go.World.drew _ = w at s ⊢
                have hS : (fun w => BlkIs g17 [.string (str e.key), .int .i64 ((e.j : Nat) : Int), .int .i64 e.d] w ∧ BlkIs g9 [.int .i64 (prt 0 (d.take k)), .int .i64 (prt 1 (d.take k))] w ∧ True) w := ⟨s.blkIs 0 rfl, s.blkIs 3 rfl, trivial⟩
                refine hd_val (i := 0) (.pointer (some ⟨g17, 1, none⟩)) ha rfl (by kernel_rfl) (fun _ _ _ h => h) (by kernel_rfl) (fun w hS => (by kernel_rfl)) hS ?_
                clear ha; intro a ha
                refine hd_val (i := 1) (.int .i64 ((e.j : Nat) : Int)) ha rfl (by kernel_rfl) (fun _ _ _ h => h) (by kernel_rfl) (fun w hS => run_load1 (of_ := 1) hS.1 rfl (by kernel_rfl) Try.isAgg3 rfl) hS ?_
                clear ha; intro a ha
                refine hd_val (i := 2) (.pointer (some ⟨g9, e.j, none⟩)) ha rfl (by kernel_rfl) (fun _ _ _ h => h) (by kernel_rfl) (fun w hS => (run_indexArr (kd := .i64) (i := ((e.j : Nat) : Int)) e.j rfl Try.underlying70 Try.sizeOf3 (by kernel_rfl) (by kernel_rfl) rfl (by first | assumption | omega) _)) hS ?_
                clear ha; intro a ha
                refine hd_val (i := 3) (.int .i64 (prt e.j (d.take k))) ha rfl (by kernel_rfl) (fun _ _ _ h => h) (by kernel_rfl) (fun w hS => run_load1 (of_ := e.j) hS.2.1 rfl (by kernel_rfl) Try.isAgg3 (by rcases hj with h | h <;> rw [h] <;> rfl)) hS ?_
                clear ha; intro a ha
                refine hd_val (i := 4) (.pointer (some ⟨g17, 2, none⟩)) ha rfl (by kernel_rfl) (fun _ _ _ h => h) (by kernel_rfl) (fun w hS => (by kernel_rfl)) hS ?_
                clear ha; intro a ha
                refine hd_val (i := 5) (.int .i64 e.d) ha rfl (by kernel_rfl) (fun _ _ _ h => h) (by kernel_rfl) (fun w hS => run_load1 (of_ := 2) hS.1 rfl (by kernel_rfl) Try.isAgg3 rfl) hS ?_
                clear ha; intro a ha
                refine Head.done (by kernel_rfl) ?_
                clear hS; simp only [List.drop_succ_cons, List.drop_zero]
                refine st_val (.int .i64 ((prt e.j (d.take k)) + e.d)) ha (by kernel_rfl) (run_arith ((prt e.j (d.take k)) + e.d) ((prt e.j (d.take k)) + e.d) rfl (by kernel_rfl) (by kernel_rfl) (.inl ⟨rfl, rfl⟩) (by rw [wrap64_in (by omega)]) _) ?_
                clear ha; intro a ha
                refine st_val (.pointer (some ⟨g9, e.j, none⟩)) ha (by kernel_rfl) (run_indexArr (kd := .i64) (i := ((e.j : Nat) : Int)) e.j rfl Try.underlying70 Try.sizeOf3 (by kernel_rfl) (by kernel_rfl) rfl (by first | assumption | omega) _) ?_
                clear ha; intro a ha
                refine st_exd ha (by kernel_rfl) (ex_store_to (of_ := e.j) 3 [.int .i64 ((prt e.j (d.take k)) + e.d)] s (arrj he hj) rfl rfl (by kernel_rfl) (by kernel_rfl) (Try.sizeOf3 _) rfl (by simp [Value.oneCell']) (by simp only [List.length_cons, List.length_nil]; omega)) ?_
                clear ha; rintro w a s ha
                replace s : St W (.blk g17 [.string (str e.key), .int .i64 ((e.j : Nat) : Int), .int .i64 e.d] 66 :: Own 66 3 (some ade) N c8 (evcs d) :: Own 29 2 (some ado) (cl.length + 1) c14 (sps (cl ++ [(fx, [])])) :: .blk g9 [.int .i64 (prt 0 (d.take (k + 1))), .int .i64 (prt 1 (d.take (k + 1)))] 70 :: L) w := s
                refine wpList_nil ?_
                refine then_normal ?_
                refine wp_seq ?_
                refine wp_seq ?_
                refine wp_region_head 14 (fun w => Reads w 3 (some ade) N (evcs d) ∧ BlkIs g17 [.string (str e.key), .int .i64 ((e.j : Nat) : Int), .int .i64 e.d] w ∧ True) (by kernel_rfl) (by decide) ?_
                replace s := s.drew; generalize _root_.Go.World.drew _ = w at s ⊢
                have hS : (fun w => Reads w 3 (some ade) N (evcs d) ∧ BlkIs g17 [.string (str e.key), .int .i64 ((e.j : Nat) : Int), .int .i64 e.d] w ∧ True) w := ⟨(Knows.own (j := 1) rfl) _ s.sat, s.blkIs 0 rfl, trivial⟩
                refine hd_val (i := 0) (.int .i64 ((k : Nat) : Int)) ha rfl (by kernel_rfl) (fun _ _ _ h => h) (by kernel_rfl) (fun w hS => (by kernel_rfl)) hS ?_
                clear ha; intro a ha
                refine hd_val (i := 1) (.int .i64 ((k + 1 : Nat) : Int)) ha rfl (by kernel_rfl) (fun _ _ _ h => h) (by kernel_rfl) (fun w hS => (run_arith (((k : Nat) : Int) + (1 : Int)) ((k + 1 : Nat) : Int) rfl (by kernel_rfl) (by kernel_rfl) (.inl ⟨rfl, rfl⟩) (by rw [wrap64_in (by omega)]; try omega) _)) hS ?_
                clear ha; intro a ha
                refine hd_val (i := 2) (.slice (some ade) N c8) ha rfl (by kernel_rfl) (fun _ _ _ h => h) (by kernel_rfl) (fun w hS => (by kernel_rfl)) hS ?_
                clear ha; intro a ha
                refine hd_val (i := 3) (.int .i64 ((N : Nat) : Int)) ha rfl (by kernel_rfl) (fun _ _ _ h => h) (by kernel_rfl) (fun w hS => (by kernel_rfl)) hS ?_
                clear ha; intro a ha
                refine hd_val (i := 4) (.bool (decide (((k + 1 : Nat) : Int) < ((N : Nat) : Int)))) ha rfl (by kernel_rfl) (fun _ _ _ h => h) (by kernel_rfl) (fun w hS => (by kernel_rfl)) hS ?_
                clear ha; intro a ha
                refine hd_val (i := 5) (.bool (decide (((k + 1 : Nat) : Int) < ((N : Nat) : Int)))) ha rfl (by kernel_rfl) (fun _ _ _ h => h) (by kernel_rfl) (fun w hS => (by kernel_rfl)) hS ?_
                clear ha; intro a ha
                rcases Bool.eq_false_or_eq_true (decide (((k + 1 : Nat) : Int) < ((N : Nat) : Int))) with hb | hb
                · rw [hb] at ha; replace hb : (((k + 1 : Nat) : Int) < ((N : Nat) : Int)) := of_decide_eq_true hb
                  obtain ⟨e2, he2⟩ : ∃ e2, d[k + 1]? = some e2 := ⟨_, List.getElem?_eq_getElem (by omega)⟩
                  refine hd_val (i := 6) (.slice (some ade) N c8) ha rfl (by kernel_rfl) (fun _ _ _ h => h) (by kernel_rfl) (fun w hS => (by kernel_rfl)) hS ?_
                  clear ha; intro a ha
                  refine hd_val (i := 7) (.int .i64 ((k : Nat) : Int)) ha rfl (by kernel_rfl) (fun _ _ _ h => h) (by kernel_rfl) (fun w hS => (by kernel_rfl)) hS ?_
                  clear ha; intro a ha
                  refine hd_val (i := 8) (.int .i64 ((k + 1 : Nat) : Int)) ha rfl (by kernel_rfl) (fun _ _ _ h => h) (by kernel_rfl) (fun w hS => (run_arith (((k : Nat) : Int) + (1 : Int)) ((k + 1 : Nat) : Int) rfl (by kernel_rfl) (by kernel_rfl) (.inl ⟨rfl, rfl⟩) (by rw [wrap64_in (by omega)]; try omega) _)) hS ?_
                  clear ha; intro a ha
                  refine hd_val (i := 9) (.pointer (some (ade.add ((k + 1) * 3)))) ha rfl (by kernel_rfl) (fun _ _ _ h => h) (by kernel_rfl) (fun w hS => (run_indexAddr' (kd := .i64) (i := ((k + 1 : Nat) : Int)) (n := N) (c := c8) (k + 1) rfl Try.underlying63 Try.sizeOf66 (by kernel_rfl) (by kernel_rfl) rfl (by first | assumption | omega) _)) hS ?_
                  clear ha; intro a ha
                  refine hd_val (i := 10) (.pointer (some (ade.add ((k + 1) * 3 + 0)))) ha rfl (by kernel_rfl) (fun _ _ _ h => h) (by kernel_rfl) (fun w hS => (run_fieldAddr_at (i := (k + 1) * 3) (off := 0) rfl Try.underlying66 rfl Try.sizeOf9 (by kernel_rfl) _)) hS ?_
                  clear ha; intro a ha
                  refine hd_val (i := 11) (.string (str e2.key)) ha rfl (by kernel_rfl) (fun _ _ _ h => h) (by kernel_rfl) (fun w hS => run_loadAt1 (i := (k + 1) * 3 + 0) hS.1 rfl (by kernel_rfl) Try.isAgg9 (by rw [evcs_at he2 (by omega)]; rfl)) hS ?_
                  clear ha; intro a ha
                  refine hd_val (i := 12) (.pointer (some ⟨g17, 0, none⟩)) ha rfl (by kernel_rfl) (fun _ _ _ h => h) (by kernel_rfl) (fun w hS => (by kernel_rfl)) hS ?_
                  clear ha; intro a ha
                  refine hd_val (i := 13) (.string (str e.key)) ha rfl (by kernel_rfl) (fun _ _ _ h => h) (by kernel_rfl) (fun w hS => run_load1 (of_ := 0) hS.2.1 rfl (by kernel_rfl) Try.isAgg9 rfl) hS ?_
                  clear ha; intro a ha
                  refine Head.done (by kernel_rfl) ?_
                  clear hS; simp only [List.drop_succ_cons, List.drop_zero]
                  refine st_val (.bool (decide (e2.key = e.key))) ha (by kernel_rfl) (run_seql (p := e2.key) (q := e.key) rfl (by kernel_rfl) (by kernel_rfl) _) ?_
                  clear ha; intro a ha
                  refine st_val (.bool (decide (e2.key = e.key))) ha (by kernel_rfl) (by kernel_rfl) ?_
                  clear ha; intro a ha
                  refine wpList_nil ?_
                  refine then_normal ?_
                  refine wp_part (decide (e2.key = e.key)) ha rfl (by kernel_rfl) (fun hb => ?_) (fun hb => ?_)
                  · rw [hb] at ha; replace hb : (e2.key = e.key) := of_decide_eq_true hb
                    refine wp_exit ?_
                    refine then_exit ?_
                    refine block_hit ?_
                    refine then_normal ?_
                    refine wp_region_lit ?_
                    refine st_val (.int .i64 ((k + 1 : Nat) : Int)) ha (by kernel_rfl) (run_arith (((k : Nat) : Int) + (1 : Int)) ((k + 1 : Nat) : Int) rfl (by kernel_rfl) (by kernel_rfl) (.inl ⟨rfl, rfl⟩) (by rw [wrap64_in (by omega)]; try omega) _) ?_
                    clear ha; intro a ha
                    refine st_val (.int .i64 ((k + 1 : Nat) : Int)) ha (by kernel_rfl) (by kernel_rfl) ?_
                    clear ha; intro a ha
                    refine wpList_nil ?_
                    refine then_normal ?_
                    replace s := s.at_ (j := 3) rfl
                    replace s : St W (.blk g9 [.int .i64 (prt 0 (d.take (k + 1))), .int .i64 (prt 1 (d.take (k + 1)))] 70 :: .blk g17 [.string (str e.key), .int .i64 ((e.j : Nat) : Int), .int .i64 e.d] 66 :: Own 66 3 (some ade) N c8 (evcs d) :: Own 29 2 (some ado) (cl.length + 1) c14 (sps (cl ++ [(fx, [])])) :: L) w := s
                    replace s := s.at_ (j := 3) rfl
                    replace s : St W (Own 29 2 (some ado) (cl.length + 1) c14 (sps (cl ++ [(fx, [])])) :: .blk g9 [.int .i64 (prt 0 (d.take (k + 1))), .int .i64 (prt 1 (d.take (k + 1)))] 70 :: .blk g17 [.string (str e.key), .int .i64 ((e.j : Nat) : Int), .int .i64 e.d] 66 :: Own 66 3 (some ade) N c8 (evcs d) :: L) w := s
                    replace s := s.at_ (j := 3) rfl
                    replace s : St W (Own 66 3 (some ade) N c8 (evcs d) :: Own 29 2 (some ado) (cl.length + 1) c14 (sps (cl ++ [(fx, [])])) :: .blk g9 [.int .i64 (prt 0 (d.take (k + 1))), .int .i64 (prt 1 (d.take (k + 1)))] 70 :: .blk g17 [.string (str e.key), .int .i64 ((e.j : Nat) : Int), .int .i64 e.d] 66 :: L) w := s
                    replace s : St W (Own 66 3 (some ade) N c8 (evcs d) :: Own 29 2 (some ado) (cl.length + 1) c14 (sps (cl ++ [(fx, [])])) :: .blk g9 [.int .i64 (prt 0 (d.take (k + 1))), .int .i64 (prt 1 (d.take (k + 1)))] 70 :: L) w := St.mid (A := [Own 66 3 (some ade) N c8 (evcs d), Own 29 2 (some ado) (cl.length + 1) c14 (sps (cl ++ [(fx, [])])), .blk g9 [.int .i64 (prt 0 (d.take (k + 1))), .int .i64 (prt 1 (d.take (k + 1)))] 70]) (B := [.blk g17 [.string (str e.key), .int .i64 ((e.j : Nat) : Int), .int .i64 e.d] 66]) s
                    have hl2 : cl.length + 1 = (cl ++ fl (some fx)).length := by simp [fl]
                    rw [hl2] at s ha
                    replace s : St W (Own 66 3 (some ade) N c8 (evcs d) :: Own 29 2 (some ado) ((cl ++ fl (some fx)).length) c14 (sps (cl ++ fl (some fx))) :: .blk g9 [.int .i64 (prt 0 (d.take (k + 1))), .int .i64 (prt 1 (d.take (k + 1)))] 70 :: L) w := by exact s
                    exact ⟨(k + 1, (some ado), c14, cl, (some fx)), (show N - (k + 1) < N - k by omega), (Has.cons ha (by kernel_rfl) (by kernel_rfl) (Has.cons ha (by kernel_rfl) (by kernel_rfl) (Has.cons ha (by kernel_rfl) (by kernel_rfl) (Has.cons ha (by kernel_rfl) (by kernel_rfl) (Has.cons ha (by kernel_rfl) (by kernel_rfl) (Has.cons ha (by kernel_rfl) (by kernel_rfl) (Has.cons ha (by kernel_rfl) (by kernel_rfl) (Has.cons ha (by kernel_rfl) (by kernel_rfl) (Has.nil ha))))))))), s, (show k + 1 ≤ N by omega), (hv.skip ((same_next he2).2 hb)), (show (cl ++ fl (some fx)).length ≤ k + 1 by rw [← hl2]; have := hcl; simp [fl] at this; omega)⟩
                  · rw [hb] at ha; replace hb : ¬ (e2.key = e.key) := of_decide_eq_false hb
                    have hns : ¬ same e (d.drop (k + 1)) := fun h => hb ((same_next he2).1 h)
                    refine wp_skip ?_
                    refine then_normal ?_
                    refine wp_seq ?_
                    refine wp_region_lit ?_
                    refine st_val (.func (.func g) #[] #[]) ha (by kernel_rfl) (by kernel_rfl) ?_
                    clear ha; intro a ha
                    refine st_val (.pointer (some ⟨g9, 0, none⟩)) ha (by kernel_rfl) (by kernel_rfl) ?_
                    clear ha; intro a ha
                    refine st_val (.int .i64 (prt 0 (d.take (k + 1)))) ha (by kernel_rfl) (run_load1 (of_ := 0) (s.blkIs 3 rfl) rfl (by kernel_rfl) Try.isAgg3 rfl) ?_
                    clear ha; intro a ha
                    refine st_val (.pointer (some ⟨g9, 1, none⟩)) ha (by kernel_rfl) (by kernel_rfl) ?_
                    clear ha; intro a ha
                    refine st_val (.int .i64 (prt 1 (d.take (k + 1)))) ha (by kernel_rfl) (run_load1 (of_ := 1) (s.blkIs 3 rfl) rfl (by kernel_rfl) Try.isAgg3 rfl) ?_
                    clear ha; intro a ha
                    refine st_call ha (by kernel_rfl) (run_callv (bs := #[]) rfl (by kernel_rfl) eg (by kernel_rfl)) (hw W _ w (prt 0 (d.take (k + 1))) (prt 1 (d.take (k + 1))) s) ?_
                    rintro _ w ⟨rfl, s⟩
                    replace s : St W (.blk g17 [.string (str e.key), .int .i64 ((e.j : Nat) : Int), .int .i64 e.d] 66 :: Own 66 3 (some ade) N c8 (evcs d) :: Own 29 2 (some ado) (cl.length + 1) c14 (sps (cl ++ [(fx, [])])) :: .blk g9 [.int .i64 (prt 0 (d.take (k + 1))), .int .i64 (prt 1 (d.take (k + 1)))] 70 :: L) w := s
                    refine ⟨_, rfl, ?_⟩; clear ha; intro a ha
                    refine st_val (.bool (wn (prt 0 (d.take (k + 1))) (prt 1 (d.take (k + 1))))) ha (by kernel_rfl) (by kernel_rfl) ?_
                    clear ha; intro a ha
                    refine wpList_nil ?_
                    refine then_normal ?_
                    refine wp_block ?_
                    refine wp_seq ?_
                    refine wp_region_lit ?_
                    refine st_val (.bool (wn (prt 0 (d.take (k + 1))) (prt 1 (d.take (k + 1))))) ha (by kernel_rfl) (by kernel_rfl) ?_
                    clear ha; intro a ha
                    refine st_val (.bool (wn (prt 0 (d.take (k + 1))) (prt 1 (d.take (k + 1))))) ha (by kernel_rfl) (by kernel_rfl) ?_
                    clear ha; intro a ha
                    rcases Bool.eq_false_or_eq_true (wn (prt 0 (d.take (k + 1))) (prt 1 (d.take (k + 1)))) with hb | hb
                    · rw [hb] at ha; skip
                      have hnow := hb
                      refine st_val (.bool true) ha (by kernel_rfl) (by kernel_rfl) ?_
                      clear ha; intro a ha
                      refine st_val (.bool false) ha (by kernel_rfl) (by kernel_rfl) ?_
                      clear ha; intro a ha
                      refine st_val (.bool false) ha (by kernel_rfl) (by kernel_rfl) ?_
                      clear ha; intro a ha
                      refine st_val (.bool false) ha (by kernel_rfl) (by kernel_rfl) ?_
                      clear ha; intro a ha
                      refine wpList_nil ?_
                      refine then_normal ?_
                      refine wp_false ha rfl (by kernel_rfl) ?_
                      refine wp_seq ?_
                      refine wp_region_lit ?_
                      refine st_val (.bool true) ha (by kernel_rfl) (by kernel_rfl) ?_
                      clear ha; intro a ha
                      refine st_val (.bool false) ha (by kernel_rfl) (by kernel_rfl) ?_
                      clear ha; intro a ha
                      refine st_val (.bool false) ha (by kernel_rfl) (by kernel_rfl) ?_
                      clear ha; intro a ha
                      refine st_pass ha (by kernel_rfl) ?_
                      clear ha; intro a ha
                      refine st_val (.bool false) ha (by kernel_rfl) (by kernel_rfl) ?_
                      clear ha; intro a ha
                      refine st_val (.bool false) ha (by kernel_rfl) (by kernel_rfl) ?_
                      clear ha; intro a ha
                      refine wpList_nil ?_
                      refine then_normal ?_
                      refine wp_false ha rfl (by kernel_rfl) ?_
                      refine wp_skip ?_
                      refine block_normal ?_
                      refine block_normal ?_
                      refine then_normal ?_
                      refine wp_region_lit ?_
                      refine st_val (.int .i64 ((k + 1 : Nat) : Int)) ha (by kernel_rfl) (run_arith (((k : Nat) : Int) + (1 : Int)) ((k + 1 : Nat) : Int) rfl (by kernel_rfl) (by kernel_rfl) (.inl ⟨rfl, rfl⟩) (by rw [wrap64_in (by omega)]; try omega) _) ?_
                      clear ha; intro a ha
                      refine st_val (.int .i64 ((k + 1 : Nat) : Int)) ha (by kernel_rfl) (by kernel_rfl) ?_
                      clear ha; intro a ha
                      refine wpList_nil ?_
                      refine then_normal ?_
                      replace s := s.at_ (j := 3) rfl
                      replace s : St W (.blk g9 [.int .i64 (prt 0 (d.take (k + 1))), .int .i64 (prt 1 (d.take (k + 1)))] 70 :: .blk g17 [.string (str e.key), .int .i64 ((e.j : Nat) : Int), .int .i64 e.d] 66 :: Own 66 3 (some ade) N c8 (evcs d) :: Own 29 2 (some ado) (cl.length + 1) c14 (sps (cl ++ [(fx, [])])) :: L) w := s
                      replace s := s.at_ (j := 3) rfl
                      replace s : St W (Own 29 2 (some ado) (cl.length + 1) c14 (sps (cl ++ [(fx, [])])) :: .blk g9 [.int .i64 (prt 0 (d.take (k + 1))), .int .i64 (prt 1 (d.take (k + 1)))] 70 :: .blk g17 [.string (str e.key), .int .i64 ((e.j : Nat) : Int), .int .i64 e.d] 66 :: Own 66 3 (some ade) N c8 (evcs d) :: L) w := s
                      replace s := s.at_ (j := 3) rfl
                      replace s : St W (Own 66 3 (some ade) N c8 (evcs d) :: Own 29 2 (some ado) (cl.length + 1) c14 (sps (cl ++ [(fx, [])])) :: .blk g9 [.int .i64 (prt 0 (d.take (k + 1))), .int .i64 (prt 1 (d.take (k + 1)))] 70 :: .blk g17 [.string (str e.key), .int .i64 ((e.j : Nat) : Int), .int .i64 e.d] 66 :: L) w := s
                      replace s : St W (Own 66 3 (some ade) N c8 (evcs d) :: Own 29 2 (some ado) (cl.length + 1) c14 (sps (cl ++ [(fx, [])])) :: .blk g9 [.int .i64 (prt 0 (d.take (k + 1))), .int .i64 (prt 1 (d.take (k + 1)))] 70 :: L) w := St.mid (A := [Own 66 3 (some ade) N c8 (evcs d), Own 29 2 (some ado) (cl.length + 1) c14 (sps (cl ++ [(fx, [])])), .blk g9 [.int .i64 (prt 0 (d.take (k + 1))), .int .i64 (prt 1 (d.take (k + 1)))] 70]) (B := [.blk g17 [.string (str e.key), .int .i64 ((e.j : Nat) : Int), .int .i64 e.d] 66]) s
                      have hl2 : cl.length + 1 = (cl ++ fl (some fx)).length := by simp [fl]
                      rw [hl2] at s ha
                      replace s : St W (Own 66 3 (some ade) N c8 (evcs d) :: Own 29 2 (some ado) ((cl ++ fl (some fx)).length) c14 (sps (cl ++ fl (some fx))) :: .blk g9 [.int .i64 (prt 0 (d.take (k + 1))), .int .i64 (prt 1 (d.take (k + 1)))] 70 :: L) w := by exact s
                      exact ⟨(k + 1, (some ado), c14, cl, (some fx)), (show N - (k + 1) < N - k by omega), (Has.cons ha (by kernel_rfl) (by kernel_rfl) (Has.cons ha (by kernel_rfl) (by kernel_rfl) (Has.cons ha (by kernel_rfl) (by kernel_rfl) (Has.cons ha (by kernel_rfl) (by kernel_rfl) (Has.cons ha (by kernel_rfl) (by kernel_rfl) (Has.cons ha (by kernel_rfl) (by kernel_rfl) (Has.cons ha (by kernel_rfl) (by kernel_rfl) (Has.cons ha (by kernel_rfl) (by kernel_rfl) (Has.nil ha))))))))), s, (show k + 1 ≤ N by omega), (hv.stay hpk (take_at he) hsort hns (by rw [take_snoc he]; simpa using hnow)), (show (cl ++ fl (some fx)).length ≤ k + 1 by rw [← hl2]; have := hcl; simp [fl] at this; omega)⟩
                    · rw [hb] at ha; skip
                      have hnow := hb
                      refine st_pass ha (by kernel_rfl) ?_
                      clear ha; intro a ha
                      refine st_pass ha (by kernel_rfl) ?_
                      clear ha; intro a ha
                      refine st_val (.bool false) ha (by kernel_rfl) (by kernel_rfl) ?_
                      clear ha; intro a ha
                      refine st_val (.bool false) ha (by kernel_rfl) (by kernel_rfl) ?_
                      clear ha; intro a ha
                      refine wpList_nil ?_
                      refine then_normal ?_
                      refine wp_false ha rfl (by kernel_rfl) ?_
                      refine wp_seq ?_
                      refine wp_region_lit ?_
                      refine st_val (.bool false) ha (by kernel_rfl) (by kernel_rfl) ?_
                      clear ha; intro a ha
                      refine st_val (.bool true) ha (by kernel_rfl) (by kernel_rfl) ?_
                      clear ha; intro a ha
                      refine st_val (.bool true) ha (by kernel_rfl) (by kernel_rfl) ?_
                      clear ha; intro a ha
                      refine st_val (.bool true) ha (by kernel_rfl) (by kernel_rfl) ?_
                      clear ha; intro a ha
                      refine st_val (.bool true) ha (by kernel_rfl) (by kernel_rfl) ?_
                      clear ha; intro a ha
                      refine st_val (.bool true) ha (by kernel_rfl) (by kernel_rfl) ?_
                      clear ha; intro a ha
                      refine wpList_nil ?_
                      refine then_normal ?_
                      refine wp_true ha rfl (by kernel_rfl) ?_
                      refine wp_seq ?_
                      refine wp_region_lit ?_
                      refine st_val (.slice (some ado) (cl.length + 1) c14) ha (by kernel_rfl) (by kernel_rfl) ?_
                      clear ha; intro a ha
                      refine st_val (.slice (some ado) (cl.length + 1) c14) ha (by kernel_rfl) (by kernel_rfl) ?_
                      clear ha; intro a ha
                      refine st_val (.int .i64 ((cl.length + 1 : Nat) : Int)) ha (by kernel_rfl) (by kernel_rfl) ?_
                      clear ha; intro a ha
                      refine st_val (.int .i64 ((cl.length : Nat) : Int)) ha (by kernel_rfl) (run_arith (((cl.length + 1 : Nat) : Int) - (1 : Int)) ((cl.length : Nat) : Int) rfl (by kernel_rfl) (by kernel_rfl) (.inr (.inl ⟨rfl, rfl⟩)) (by rw [wrap64_in (by omega)]; try omega) _) ?_
                      clear ha; intro a ha
                      refine st_val (.pointer (some ⟨g17, 0, none⟩)) ha (by kernel_rfl) (by kernel_rfl) ?_
                      clear ha; intro a ha
                      refine st_val (.string (str e.key)) ha (by kernel_rfl) (run_load1 (of_ := 0) (s.blkIs 0 rfl) rfl (by kernel_rfl) Try.isAgg9 rfl) ?_
                      clear ha; intro a ha
                      refine st_val (.pointer (some (ado.add (cl.length * 2)))) ha (by kernel_rfl) (run_indexAddr' (kd := .i64) (i := ((cl.length : Nat) : Int)) (n := (cl.length + 1)) (c := c14) cl.length rfl Try.underlying22 Try.sizeOf29 (by kernel_rfl) (by kernel_rfl) rfl (by first | assumption | omega) _) ?_
                      clear ha; intro a ha
                      refine st_val (.pointer (some (ado.add (cl.length * 2 + 1)))) ha (by kernel_rfl) (run_fieldAddr_at (i := cl.length * 2) (off := 1) rfl Try.underlying29 rfl Try.sizeOf9 (by kernel_rfl) _) ?_
                      clear ha; intro a ha
                      refine st_exd ha (by kernel_rfl) (ex_store_own (i := cl.length * 2 + 1) 2 [.string (str e.key)] s (sps_put cl fx e.key) rfl rfl (by kernel_rfl) (by kernel_rfl) (Try.sizeOf9 _) rfl (by simp [Value.oneCell']) (by simp) (by rw [sps_len]; simp only [List.length_append, List.length_cons, List.length_nil]; omega)) ?_
                      clear ha; rintro w a s ha
                      replace s : St W (.blk g17 [.string (str e.key), .int .i64 ((e.j : Nat) : Int), .int .i64 e.d] 66 :: Own 66 3 (some ade) N c8 (evcs d) :: Own 29 2 (some ado) (cl.length + 1) c14 (sps (cl ++ [(fx, e.key)])) :: .blk g9 [.int .i64 (prt 0 (d.take (k + 1))), .int .i64 (prt 1 (d.take (k + 1)))] 70 :: L) w := s
                      refine wpList_nil ?_
                      refine then_normal ?_
                      refine wp_region_lit ?_
                      refine st_val (.bool false) ha (by kernel_rfl) (by kernel_rfl) ?_
                      clear ha; intro a ha
                      refine wpList_nil ?_
                      refine block_normal ?_
                      refine block_normal ?_
                      refine then_normal ?_
                      refine wp_region_lit ?_
                      refine st_val (.int .i64 ((k + 1 : Nat) : Int)) ha (by kernel_rfl) (run_arith (((k : Nat) : Int) + (1 : Int)) ((k + 1 : Nat) : Int) rfl (by kernel_rfl) (by kernel_rfl) (.inl ⟨rfl, rfl⟩) (by rw [wrap64_in (by omega)]; try omega) _) ?_
                      clear ha; intro a ha
                      refine st_val (.int .i64 ((k + 1 : Nat) : Int)) ha (by kernel_rfl) (by kernel_rfl) ?_
                      clear ha; intro a ha
                      refine wpList_nil ?_
                      refine then_normal ?_
                      replace s := s.at_ (j := 3) rfl
                      replace s : St W (.blk g9 [.int .i64 (prt 0 (d.take (k + 1))), .int .i64 (prt 1 (d.take (k + 1)))] 70 :: .blk g17 [.string (str e.key), .int .i64 ((e.j : Nat) : Int), .int .i64 e.d] 66 :: Own 66 3 (some ade) N c8 (evcs d) :: Own 29 2 (some ado) (cl.length + 1) c14 (sps (cl ++ [(fx, e.key)])) :: L) w := s
                      replace s := s.at_ (j := 3) rfl
                      replace s : St W (Own 29 2 (some ado) (cl.length + 1) c14 (sps (cl ++ [(fx, e.key)])) :: .blk g9 [.int .i64 (prt 0 (d.take (k + 1))), .int .i64 (prt 1 (d.take (k + 1)))] 70 :: .blk g17 [.string (str e.key), .int .i64 ((e.j : Nat) : Int), .int .i64 e.d] 66 :: Own 66 3 (some ade) N c8 (evcs d) :: L) w := s
                      replace s := s.at_ (j := 3) rfl
                      replace s : St W (Own 66 3 (some ade) N c8 (evcs d) :: Own 29 2 (some ado) (cl.length + 1) c14 (sps (cl ++ [(fx, e.key)])) :: .blk g9 [.int .i64 (prt 0 (d.take (k + 1))), .int .i64 (prt 1 (d.take (k + 1)))] 70 :: .blk g17 [.string (str e.key), .int .i64 ((e.j : Nat) : Int), .int .i64 e.d] 66 :: L) w := s
                      replace s : St W (Own 66 3 (some ade) N c8 (evcs d) :: Own 29 2 (some ado) (cl.length + 1) c14 (sps (cl ++ [(fx, e.key)])) :: .blk g9 [.int .i64 (prt 0 (d.take (k + 1))), .int .i64 (prt 1 (d.take (k + 1)))] 70 :: L) w := St.mid (A := [Own 66 3 (some ade) N c8 (evcs d), Own 29 2 (some ado) (cl.length + 1) c14 (sps (cl ++ [(fx, e.key)])), .blk g9 [.int .i64 (prt 0 (d.take (k + 1))), .int .i64 (prt 1 (d.take (k + 1)))] 70]) (B := [.blk g17 [.string (str e.key), .int .i64 ((e.j : Nat) : Int), .int .i64 e.d] 66]) s
                      have hl2 : cl.length + 1 = ((cl ++ [(fx, e.key)]) ++ fl none).length := by simp [fl]
                      rw [hl2] at s ha
                      replace s : St W (Own 66 3 (some ade) N c8 (evcs d) :: Own 29 2 (some ado) (((cl ++ [(fx, e.key)]) ++ fl none).length) c14 (sps ((cl ++ [(fx, e.key)]) ++ fl none)) :: .blk g9 [.int .i64 (prt 0 (d.take (k + 1))), .int .i64 (prt 1 (d.take (k + 1)))] 70 :: L) w := by simpa [fl] using s
                      exact ⟨(k + 1, (some ado), c14, (cl ++ [(fx, e.key)]), none), (show N - (k + 1) < N - k by omega), (Has.cons ha (by kernel_rfl) (by kernel_rfl) (Has.cons ha (by kernel_rfl) (by kernel_rfl) (Has.cons ha (by kernel_rfl) (by kernel_rfl) (Has.cons ha (by kernel_rfl) (by kernel_rfl) (Has.cons ha (by kernel_rfl) (by kernel_rfl) (Has.cons ha (by kernel_rfl) (by kernel_rfl) (Has.cons ha (by kernel_rfl) (by kernel_rfl) (Has.cons ha (by kernel_rfl) (by kernel_rfl) (Has.nil ha))))))))), s, (show k + 1 ≤ N by omega), (hv.close hpk (take_at he) hsort hns (by rw [take_snoc he]; exact hnow)), (show ((cl ++ [(fx, e.key)]) ++ fl none).length ≤ k + 1 by rw [← hl2]; have := hcl; simp [fl] at this; omega)⟩
                · rw [hb] at ha; replace hb : ¬ (((k + 1 : Nat) : Int) < ((N : Nat) : Int)) := of_decide_eq_false hb
                  have hns : ¬ same e (d.drop (k + 1)) := by rw [List.drop_of_length_le (by omega)]; exact fun h => h
                  refine hd_pass (i := 6) ha rfl (by kernel_rfl) (fun _ _ _ h => h) (by kernel_rfl) hS ?_
                  clear ha; intro a ha
                  refine hd_pass (i := 7) ha rfl (by kernel_rfl) (fun _ _ _ h => h) (by kernel_rfl) hS ?_
                  clear ha; intro a ha
                  refine hd_pass (i := 8) ha rfl (by kernel_rfl) (fun _ _ _ h => h) (by kernel_rfl) hS ?_
                  clear ha; intro a ha
                  refine hd_pass (i := 9) ha rfl (by kernel_rfl) (fun _ _ _ h => h) (by kernel_rfl) hS ?_
                  clear ha; intro a ha
                  refine hd_pass (i := 10) ha rfl (by kernel_rfl) (fun _ _ _ h => h) (by kernel_rfl) hS ?_
                  clear ha; intro a ha
                  refine hd_pass (i := 11) ha rfl (by kernel_rfl) (fun _ _ _ h => h) (by kernel_rfl) hS ?_
                  clear ha; intro a ha
                  refine hd_pass (i := 12) ha rfl (by kernel_rfl) (fun _ _ _ h => h) (by kernel_rfl) hS ?_
                  clear ha; intro a ha
                  refine hd_pass (i := 13) ha rfl (by kernel_rfl) (fun _ _ _ h => h) (by kernel_rfl) hS ?_
                  clear ha; intro a ha
                  refine Head.done (by kernel_rfl) ?_
                  clear hS; simp only [List.drop_succ_cons, List.drop_zero]
                  refine st_pass ha (by kernel_rfl) ?_
                  clear ha; intro a ha
                  refine st_val (.bool false) ha (by kernel_rfl) (by kernel_rfl) ?_
                  clear ha; intro a ha
                  refine wpList_nil ?_
                  refine then_normal ?_
                  refine wp_false ha rfl (by kernel_rfl) ?_
                  refine wp_skip ?_
                  refine then_normal ?_
                  refine wp_seq ?_
                  refine wp_region_lit ?_
                  refine st_val (.func (.func g) #[] #[]) ha (by kernel_rfl) (by kernel_rfl) ?_
                  clear ha; intro a ha
                  refine st_val (.pointer (some ⟨g9, 0, none⟩)) ha (by kernel_rfl) (by kernel_rfl) ?_
                  clear ha; intro a ha
                  refine st_val (.int .i64 (prt 0 (d.take (k + 1)))) ha (by kernel_rfl) (run_load1 (of_ := 0) (s.blkIs 3 rfl) rfl (by kernel_rfl) Try.isAgg3 rfl) ?_
                  clear ha; intro a ha
                  refine st_val (.pointer (some ⟨g9, 1, none⟩)) ha (by kernel_rfl) (by kernel_rfl) ?_
                  clear ha; intro a ha
                  refine st_val (.int .i64 (prt 1 (d.take (k + 1)))) ha (by kernel_rfl) (run_load1 (of_ := 1) (s.blkIs 3 rfl) rfl (by kernel_rfl) Try.isAgg3 rfl) ?_
                  clear ha; intro a ha
                  refine st_call ha (by kernel_rfl) (run_callv (bs := #[]) rfl (by kernel_rfl) eg (by kernel_rfl)) (hw W _ w (prt 0 (d.take (k + 1))) (prt 1 (d.take (k + 1))) s) ?_
                  rintro _ w ⟨rfl, s⟩
                  replace s : St W (.blk g17 [.string (str e.key), .int .i64 ((e.j : Nat) : Int), .int .i64 e.d] 66 :: Own 66 3 (some ade) N c8 (evcs d) :: Own 29 2 (some ado) (cl.length + 1) c14 (sps (cl ++ [(fx, [])])) :: .blk g9 [.int .i64 (prt 0 (d.take (k + 1))), .int .i64 (prt 1 (d.take (k + 1)))] 70 :: L) w := s
                  refine ⟨_, rfl, ?_⟩; clear ha; intro a ha
                  refine st_val (.bool (wn (prt 0 (d.take (k + 1))) (prt 1 (d.take (k + 1))))) ha (by kernel_rfl) (by kernel_rfl) ?_
                  clear ha; intro a ha
                  refine wpList_nil ?_
                  refine then_normal ?_
                  refine wp_block ?_
                  refine wp_seq ?_
                  refine wp_region_lit ?_
                  refine st_val (.bool (wn (prt 0 (d.take (k + 1))) (prt 1 (d.take (k + 1))))) ha (by kernel_rfl) (by kernel_rfl) ?_
                  clear ha; intro a ha
                  refine st_val (.bool (wn (prt 0 (d.take (k + 1))) (prt 1 (d.take (k + 1))))) ha (by kernel_rfl) (by kernel_rfl) ?_
                  clear ha; intro a ha
                  rcases Bool.eq_false_or_eq_true (wn (prt 0 (d.take (k + 1))) (prt 1 (d.take (k + 1)))) with hb | hb
                  · rw [hb] at ha; skip
                    have hnow := hb
                    refine st_val (.bool true) ha (by kernel_rfl) (by kernel_rfl) ?_
                    clear ha; intro a ha
                    refine st_val (.bool false) ha (by kernel_rfl) (by kernel_rfl) ?_
                    clear ha; intro a ha
                    refine st_val (.bool false) ha (by kernel_rfl) (by kernel_rfl) ?_
                    clear ha; intro a ha
                    refine st_val (.bool false) ha (by kernel_rfl) (by kernel_rfl) ?_
                    clear ha; intro a ha
                    refine wpList_nil ?_
                    refine then_normal ?_
                    refine wp_false ha rfl (by kernel_rfl) ?_
                    refine wp_seq ?_
                    refine wp_region_lit ?_
                    refine st_val (.bool true) ha (by kernel_rfl) (by kernel_rfl) ?_
                    clear ha; intro a ha
                    refine st_val (.bool false) ha (by kernel_rfl) (by kernel_rfl) ?_
                    clear ha; intro a ha
                    refine st_val (.bool false) ha (by kernel_rfl) (by kernel_rfl) ?_
                    clear ha; intro a ha
                    refine st_pass ha (by kernel_rfl) ?_
                    clear ha; intro a ha
                    refine st_val (.bool false) ha (by kernel_rfl) (by kernel_rfl) ?_
                    clear ha; intro a ha
                    refine st_val (.bool false) ha (by kernel_rfl) (by kernel_rfl) ?_
                    clear ha; intro a ha
                    refine wpList_nil ?_
                    refine then_normal ?_
                    refine wp_false ha rfl (by kernel_rfl) ?_
                    refine wp_skip ?_
                    refine block_normal ?_
                    refine block_normal ?_
                    refine then_normal ?_
                    refine wp_region_lit ?_
                    refine st_val (.int .i64 ((k + 1 : Nat) : Int)) ha (by kernel_rfl) (run_arith (((k : Nat) : Int) + (1 : Int)) ((k + 1 : Nat) : Int) rfl (by kernel_rfl) (by kernel_rfl) (.inl ⟨rfl, rfl⟩) (by rw [wrap64_in (by omega)]; try omega) _) ?_
                    clear ha; intro a ha
                    refine st_val (.int .i64 ((k + 1 : Nat) : Int)) ha (by kernel_rfl) (by kernel_rfl) ?_
                    clear ha; intro a ha
                    refine wpList_nil ?_
                    refine then_normal ?_
                    replace s := s.at_ (j := 3) rfl
                    replace s : St W (.blk g9 [.int .i64 (prt 0 (d.take (k + 1))), .int .i64 (prt 1 (d.take (k + 1)))] 70 :: .blk g17 [.string (str e.key), .int .i64 ((e.j : Nat) : Int), .int .i64 e.d] 66 :: Own 66 3 (some ade) N c8 (evcs d) :: Own 29 2 (some ado) (cl.length + 1) c14 (sps (cl ++ [(fx, [])])) :: L) w := s
                    replace s := s.at_ (j := 3) rfl
                    replace s : St W (Own 29 2 (some ado) (cl.length + 1) c14 (sps (cl ++ [(fx, [])])) :: .blk g9 [.int .i64 (prt 0 (d.take (k + 1))), .int .i64 (prt 1 (d.take (k + 1)))] 70 :: .blk g17 [.string (str e.key), .int .i64 ((e.j : Nat) : Int), .int .i64 e.d] 66 :: Own 66 3 (some ade) N c8 (evcs d) :: L) w := s
                    replace s := s.at_ (j := 3) rfl
                    replace s : St W (Own 66 3 (some ade) N c8 (evcs d) :: Own 29 2 (some ado) (cl.length + 1) c14 (sps (cl ++ [(fx, [])])) :: .blk g9 [.int .i64 (prt 0 (d.take (k + 1))), .int .i64 (prt 1 (d.take (k + 1)))] 70 :: .blk g17 [.string (str e.key), .int .i64 ((e.j : Nat) : Int), .int .i64 e.d] 66 :: L) w := s
                    replace s : St W (Own 66 3 (some ade) N c8 (evcs d) :: Own 29 2 (some ado) (cl.length + 1) c14 (sps (cl ++ [(fx, [])])) :: .blk g9 [.int .i64 (prt 0 (d.take (k + 1))), .int .i64 (prt 1 (d.take (k + 1)))] 70 :: L) w := St.mid (A := [Own 66 3 (some ade) N c8 (evcs d), Own 29 2 (some ado) (cl.length + 1) c14 (sps (cl ++ [(fx, [])])), .blk g9 [.int .i64 (prt 0 (d.take (k + 1))), .int .i64 (prt 1 (d.take (k + 1)))] 70]) (B := [.blk g17 [.string (str e.key), .int .i64 ((e.j : Nat) : Int), .int .i64 e.d] 66]) s
                    have hl2 : cl.length + 1 = (cl ++ fl (some fx)).length := by simp [fl]
                    rw [hl2] at s ha
                    replace s : St W (Own 66 3 (some ade) N c8 (evcs d) :: Own 29 2 (some ado) ((cl ++ fl (some fx)).length) c14 (sps (cl ++ fl (some fx))) :: .blk g9 [.int .i64 (prt 0 (d.take (k + 1))), .int .i64 (prt 1 (d.take (k + 1)))] 70 :: L) w := by exact s
                    exact ⟨(k + 1, (some ado), c14, cl, (some fx)), (show N - (k + 1) < N - k by omega), (Has.cons ha (by kernel_rfl) (by kernel_rfl) (Has.cons ha (by kernel_rfl) (by kernel_rfl) (Has.cons ha (by kernel_rfl) (by kernel_rfl) (Has.cons ha (by kernel_rfl) (by kernel_rfl) (Has.cons ha (by kernel_rfl) (by kernel_rfl) (Has.cons ha (by kernel_rfl) (by kernel_rfl) (Has.cons ha (by kernel_rfl) (by kernel_rfl) (Has.cons ha (by kernel_rfl) (by kernel_rfl) (Has.nil ha))))))))), s, (show k + 1 ≤ N by omega), (hv.stay hpk (take_at he) hsort hns (by rw [take_snoc he]; simpa using hnow)), (show (cl ++ fl (some fx)).length ≤ k + 1 by rw [← hl2]; have := hcl; simp [fl] at this; omega)⟩
                  · rw [hb] at ha; skip
                    have hnow := hb
                    refine st_pass ha (by kernel_rfl) ?_
                    clear ha; intro a ha
                    refine st_pass ha (by kernel_rfl) ?_
                    clear ha; intro a ha
                    refine st_val (.bool false) ha (by kernel_rfl) (by kernel_rfl) ?_
                    clear ha; intro a ha
                    refine st_val (.bool false) ha (by kernel_rfl) (by kernel_rfl) ?_
                    clear ha; intro a ha
                    refine wpList_nil ?_
                    refine then_normal ?_
                    refine wp_false ha rfl (by kernel_rfl) ?_
                    refine wp_seq ?_
                    refine wp_region_lit ?_
                    refine st_val (.bool false) ha (by kernel_rfl) (by kernel_rfl) ?_
                    clear ha; intro a ha
                    refine st_val (.bool true) ha (by kernel_rfl) (by kernel_rfl) ?_
                    clear ha; intro a ha
                    refine st_val (.bool true) ha (by kernel_rfl) (by kernel_rfl) ?_
                    clear ha; intro a ha
                    refine st_val (.bool true) ha (by kernel_rfl) (by kernel_rfl) ?_
                    clear ha; intro a ha
                    refine st_val (.bool true) ha (by kernel_rfl) (by kernel_rfl) ?_
                    clear ha; intro a ha
                    refine st_val (.bool true) ha (by kernel_rfl) (by kernel_rfl) ?_
                    clear ha; intro a ha
                    refine wpList_nil ?_
                    refine then_normal ?_
                    refine wp_true ha rfl (by kernel_rfl) ?_
                    refine wp_seq ?_
                    refine wp_region_lit ?_
                    refine st_val (.slice (some ado) (cl.length + 1) c14) ha (by kernel_rfl) (by kernel_rfl) ?_
                    clear ha; intro a ha
                    refine st_val (.slice (some ado) (cl.length + 1) c14) ha (by kernel_rfl) (by kernel_rfl) ?_
                    clear ha; intro a ha
                    refine st_val (.int .i64 ((cl.length + 1 : Nat) : Int)) ha (by kernel_rfl) (by kernel_rfl) ?_
                    clear ha; intro a ha
                    refine st_val (.int .i64 ((cl.length : Nat) : Int)) ha (by kernel_rfl) (run_arith (((cl.length + 1 : Nat) : Int) - (1 : Int)) ((cl.length : Nat) : Int) rfl (by kernel_rfl) (by kernel_rfl) (.inr (.inl ⟨rfl, rfl⟩)) (by rw [wrap64_in (by omega)]; try omega) _) ?_
                    clear ha; intro a ha
                    refine st_val (.pointer (some ⟨g17, 0, none⟩)) ha (by kernel_rfl) (by kernel_rfl) ?_
                    clear ha; intro a ha
                    refine st_val (.string (str e.key)) ha (by kernel_rfl) (run_load1 (of_ := 0) (s.blkIs 0 rfl) rfl (by kernel_rfl) Try.isAgg9 rfl) ?_
                    clear ha; intro a ha
                    refine st_val (.pointer (some (ado.add (cl.length * 2)))) ha (by kernel_rfl) (run_indexAddr' (kd := .i64) (i := ((cl.length : Nat) : Int)) (n := (cl.length + 1)) (c := c14) cl.length rfl Try.underlying22 Try.sizeOf29 (by kernel_rfl) (by kernel_rfl) rfl (by first | assumption | omega) _) ?_
                    clear ha; intro a ha
                    refine st_val (.pointer (some (ado.add (cl.length * 2 + 1)))) ha (by kernel_rfl) (run_fieldAddr_at (i := cl.length * 2) (off := 1) rfl Try.underlying29 rfl Try.sizeOf9 (by kernel_rfl) _) ?_
                    clear ha; intro a ha
                    refine st_exd ha (by kernel_rfl) (ex_store_own (i := cl.length * 2 + 1) 2 [.string (str e.key)] s (sps_put cl fx e.key) rfl rfl (by kernel_rfl) (by kernel_rfl) (Try.sizeOf9 _) rfl (by simp [Value.oneCell']) (by simp) (by rw [sps_len]; simp only [List.length_append, List.length_cons, List.length_nil]; omega)) ?_
                    clear ha; rintro w a s ha
                    replace s : St W (.blk g17 [.string (str e.key), .int .i64 ((e.j : Nat) : Int), .int .i64 e.d] 66 :: Own 66 3 (some ade) N c8 (evcs d) :: Own 29 2 (some ado) (cl.length + 1) c14 (sps (cl ++ [(fx, e.key)])) :: .blk g9 [.int .i64 (prt 0 (d.take (k + 1))), .int .i64 (prt 1 (d.take (k + 1)))] 70 :: L) w := s
                    refine wpList_nil ?_
                    refine then_normal ?_
                    refine wp_region_lit ?_
                    refine st_val (.bool false) ha (by kernel_rfl) (by kernel_rfl) ?_
                    clear ha; intro a ha
                    refine wpList_nil ?_
                    refine block_normal ?_
                    refine block_normal ?_
                    refine then_normal ?_
                    refine wp_region_lit ?_
                    refine st_val (.int .i64 ((k + 1 : Nat) : Int)) ha (by kernel_rfl) (run_arith (((k : Nat) : Int) + (1 : Int)) ((k + 1 : Nat) : Int) rfl (by kernel_rfl) (by kernel_rfl) (.inl ⟨rfl, rfl⟩) (by rw [wrap64_in (by omega)]; try omega) _) ?_
                    clear ha; intro a ha
                    refine st_val (.int .i64 ((k + 1 : Nat) : Int)) ha (by kernel_rfl) (by kernel_rfl) ?_
                    clear ha; intro a ha
                    refine wpList_nil ?_
                    refine then_normal ?_
                    replace s := s.at_ (j := 3) rfl
                    replace s : St W (.blk g9 [.int .i64 (prt 0 (d.take (k + 1))), .int .i64 (prt 1 (d.take (k + 1)))] 70 :: .blk g17 [.string (str e.key), .int .i64 ((e.j : Nat) : Int), .int .i64 e.d] 66 :: Own 66 3 (some ade) N c8 (evcs d) :: Own 29 2 (some ado) (cl.length + 1) c14 (sps (cl ++ [(fx, e.key)])) :: L) w := s
                    replace s := s.at_ (j := 3) rfl
                    replace s : St W (Own 29 2 (some ado) (cl.length + 1) c14 (sps (cl ++ [(fx, e.key)])) :: .blk g9 [.int .i64 (prt 0 (d.take (k + 1))), .int .i64 (prt 1 (d.take (k + 1)))] 70 :: .blk g17 [.string (str e.key), .int .i64 ((e.j : Nat) : Int), .int .i64 e.d] 66 :: Own 66 3 (some ade) N c8 (evcs d) :: L) w := s
                    replace s := s.at_ (j := 3) rfl
                    replace s : St W (Own 66 3 (some ade) N c8 (evcs d) :: Own 29 2 (some ado) (cl.length + 1) c14 (sps (cl ++ [(fx, e.key)])) :: .blk g9 [.int .i64 (prt 0 (d.take (k + 1))), .int .i64 (prt 1 (d.take (k + 1)))] 70 :: .blk g17 [.string (str e.key), .int .i64 ((e.j : Nat) : Int), .int .i64 e.d] 66 :: L) w := s
                    replace s : St W (Own 66 3 (some ade) N c8 (evcs d) :: Own 29 2 (some ado) (cl.length + 1) c14 (sps (cl ++ [(fx, e.key)])) :: .blk g9 [.int .i64 (prt 0 (d.take (k + 1))), .int .i64 (prt 1 (d.take (k + 1)))] 70 :: L) w := St.mid (A := [Own 66 3 (some ade) N c8 (evcs d), Own 29 2 (some ado) (cl.length + 1) c14 (sps (cl ++ [(fx, e.key)])), .blk g9 [.int .i64 (prt 0 (d.take (k + 1))), .int .i64 (prt 1 (d.take (k + 1)))] 70]) (B := [.blk g17 [.string (str e.key), .int .i64 ((e.j : Nat) : Int), .int .i64 e.d] 66]) s
                    have hl2 : cl.length + 1 = ((cl ++ [(fx, e.key)]) ++ fl none).length := by simp [fl]
                    rw [hl2] at s ha
                    replace s : St W (Own 66 3 (some ade) N c8 (evcs d) :: Own 29 2 (some ado) (((cl ++ [(fx, e.key)]) ++ fl none).length) c14 (sps ((cl ++ [(fx, e.key)]) ++ fl none)) :: .blk g9 [.int .i64 (prt 0 (d.take (k + 1))), .int .i64 (prt 1 (d.take (k + 1)))] 70 :: L) w := by simpa [fl] using s
                    exact ⟨(k + 1, (some ado), c14, (cl ++ [(fx, e.key)]), none), (show N - (k + 1) < N - k by omega), (Has.cons ha (by kernel_rfl) (by kernel_rfl) (Has.cons ha (by kernel_rfl) (by kernel_rfl) (Has.cons ha (by kernel_rfl) (by kernel_rfl) (Has.cons ha (by kernel_rfl) (by kernel_rfl) (Has.cons ha (by kernel_rfl) (by kernel_rfl) (Has.cons ha (by kernel_rfl) (by kernel_rfl) (Has.cons ha (by kernel_rfl) (by kernel_rfl) (Has.cons ha (by kernel_rfl) (by kernel_rfl) (Has.nil ha))))))))), s, (show k + 1 ≤ N by omega), (hv.close hpk (take_at he) hsort hns (by rw [take_snoc he]; exact hnow)), (show ((cl ++ [(fx, e.key)]) ++ fl none).length ≤ k + 1 by rw [← hl2]; have := hcl; simp [fl] at this; omega)⟩
            · rw [hb] at ha; replace hb : ¬ (((k : Nat) : Int) < ((N : Nat) : Int)) := of_decide_eq_false hb
              have hk : k = N := by omega
              have hv := hp.2.1
              have hcl := hp.2.2
              rw [hk, List.drop_of_length_le (by omega)] at hv
              obtain ⟨rfl, hcan⟩ := hv.done (end_low hsort hperm hlta hltb h0)
              rw [show cl ++ fl none = cl from List.append_nil cl] at s ha hcl
              replace s : St W (Own 66 3 A8 N c8 (evcs d) :: Own 29 2 A14 cl.length c14 (sps cl) :: .blk g9 [.int .i64 (prt 0 (d.take k)), .int .i64 (prt 1 (d.take k))] 70 :: L) w := s
              refine wp_exit ?_
              refine then_exit ?_
              refine then_exit ?_
              refine block_hit ?_
              refine then_normal ?_
              refine wp_seq ?_
              refine wp_region_lit ?_
              refine st_val (.slice A14 cl.length c14) ha (by kernel_rfl) (by kernel_rfl) ?_
              clear ha; intro a ha
              refine st_val (.slice A14 cl.length c14) ha (by kernel_rfl) (by kernel_rfl) ?_
              clear ha; intro a ha
              refine st_val (.int .i64 0) ha (by kernel_rfl) (by kernel_rfl) ?_
              clear ha; intro a ha
              refine wpList_nil ?_
              refine then_normal ?_
              refine wp_ret ?_
              refine ret_with (v := .tuple #[.slice A14 cl.length c14, .int .i64 0]) ha (results_2 rfl ha (res_tmp (by kernel_rfl) (by kernel_rfl)) (res_tmp (by kernel_rfl) (by kernel_rfl))) ?_
              replace s := s.at_ (j := 1) rfl
              replace s : St W (Own 29 2 A14 cl.length c14 (sps cl) :: Own 66 3 A8 N c8 (evcs d) :: .blk g9 [.int .i64 (prt 0 (d.take k)), .int .i64 (prt 1 (d.take k))] 70 :: L) w := s
              replace s : St W (Own 29 2 A14 cl.length c14 (sps cl) :: L) w := St.mid (A := [Own 29 2 A14 cl.length c14 (sps cl)]) (B := [Own 66 3 A8 N c8 (evcs d), .blk g9 [.int .i64 (prt 0 (d.take k)), .int .i64 (prt 1 (d.take k))] 70]) s
              exact ⟨_, _, cl, rfl, hcan.congr (fun k => by rw [(opn_all hperm hlta hltb k).1, (opn_all hperm hlta hltb k).2]), ends_small hperm hoka hokb hv.ends, by omega, s⟩

end Go.Proofs.Ytcnlidaacgcdhaa.B
