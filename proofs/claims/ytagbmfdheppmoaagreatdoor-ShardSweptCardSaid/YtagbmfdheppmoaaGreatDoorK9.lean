import Derived.Test.YtagbmfdheppmoaaGreatDoorK8
import Derived.Test.YtagbmfdheppmoaaGreatDoorSepP
import Derived.KernelRfl
namespace Go.Proofs.YtagbmfdheppmoaaGreatDoor.B
open Go.RowKit Go.Proofs.YtagbmfdheppmoaaGreatDoor.Sep
set_option linter.unusedVariables false
set_option linter.unusedSimpArgs false

theorem after_nil (rows : List Rw) : after rows [] = rows := by
  unfold after
  exact List.filter_eq_self.2 fun x _ => by simp
theorem seg_all (rows : List Rw) : seg rows [] [] = rows := by
  unfold seg
  rw [after_nil]
  have : ∀ l : List Rw, l.takeWhile (below_ []) = l := fun l => by
    induction l with
    | nil => rfl
    | cons x l ih => rw [List.takeWhile_cons_of_pos (by simp [below_]), ih]
  exact this rows
theorem tput_snoc {rows : List Rw} (h : Rise rows) {i : Nat} {x : Rw} (hx : rows[i]? = some x) : tput (rows.take i) x.1 x.2 = rows.take (i + 1) := by
  have h1 : ∀ y ∈ rows.take i, y.1 < x.1 := fun y hy => by
    obtain ⟨j, hj⟩ := List.getElem?_of_mem hy
    rw [List.getElem?_take] at hj
    split at hj
    · rename_i hji
      obtain ⟨a1, rfl⟩ := List.getElem?_eq_some_iff.1 hj
      obtain ⟨a2, rfl⟩ := List.getElem?_eq_some_iff.1 hx
      exact List.pairwise_iff_getElem.1 h j i a1 a2 hji
    · cases hj
  unfold tput
  rw [List.filter_eq_self.2 fun y hy => decide_eq_true (h1 y hy), List.filter_eq_nil_iff.2 fun y hy => by simp [klt_asymm (h1 y hy)], List.take_add_one, hx]
  rfl
theorem rows_node {r : List Nd} {rows : List Rw} (h : r.map kv = rows) {i : Nat} {x : Rw} (hx : rows[i]? = some x) : ∃ z ∈ r, kv z = x := by
  subst h
  have := List.mem_of_getElem? hx
  obtain ⟨z, h1, h2⟩ := List.mem_map.1 this
  exact ⟨z, h1, h2⟩

theorem Copy_spec (W : World) (L : List Chunk) (w : World) (gt : Nat) (rows : List Rw) (hlen : rows.length < 1000000000) (s : St W (Tb gt rows :: L) w) :
    Calls Tryz.prog 36 #[.pointer (some ⟨gt, 0, none⟩)] w fun e w' => ∃ g2 : Nat, e = .returned (.pointer (some ⟨g2, 0, none⟩)) ∧ St W (Tb g2 rows :: Tb gt rows :: L) w' := by
  refine J.calls_out (m := 2) ?_
  refine J.enter_args (l := [.pointer (some ⟨gt, 0, none⟩)]) Tryz.func36 rfl rfl (Nat.le_of_ble_eq_true rfl) ?_
  intro a ha; replace ha : J.Has [] a 31 [(0, .pointer (some ⟨gt, 0, none⟩))] := ha
  refine J.wp_seq ?_
  refine J.wp_region_lit ?_
  refine J.st_ex ha (by kernel_rfl) (ex_box [.pointer (some ⟨gt, 0, none⟩)] s rfl (by kernel_rfl)) ?_
  clear ha; rintro _ w a ⟨v1, rfl, s⟩ ha
  refine J.st_val (.pointer none) ha (by kernel_rfl) (by kernel_rfl) ?_
  clear ha; intro a ha
  refine J.wpList_nil ?_
  refine then_normal ?_
  refine J.wp_seq ?_
  refine J.wp_seq ?_
  refine J.wp_region_lit ?_
  refine J.st_val (.pointer (some ⟨gt, 0, none⟩)) ha (by kernel_rfl) (run_load1 (of_ := 0) (s.blkIs 0 rfl) rfl (by kernel_rfl) Tryz.isAgg24 rfl) ?_
  clear ha; intro a ha
  replace s := s.at_ (j := 1) rfl
  replace s : St W (Tb gt rows :: .blk v1 [.pointer (some ⟨gt, 0, none⟩)] 24 :: L) w := s
  refine J.st_call ha (by kernel_rfl) (by kernel_rfl) (none_spec W _ _ gt _ s) ?_
  rintro _ w ⟨rfl, s⟩
  refine ⟨_, rfl, ?_⟩; clear ha; intro a ha
  refine J.wpList_nil ?_
  refine then_normal ?_
  refine J.wp_false ha rfl (by kernel_rfl) ?_
  refine J.wp_skip ?_
  refine then_normal ?_
  refine J.wp_seq ?_
  obtain ⟨gl, gx, sd, hd, r, X, ok, hrw, hbd, s⟩ := tb_open s
  refine J.wp_region_lit ?_
  refine J.st_val (.pointer (some ⟨gt, 0, none⟩)) ha (by kernel_rfl) (run_load1 (of_ := 0) (s.blkIs 4 rfl) rfl (by kernel_rfl) Tryz.isAgg24 rfl) ?_
  clear ha; intro a ha
  refine J.st_val (.pointer (some ⟨gt, 0, none⟩)) ha (by kernel_rfl) (by kernel_rfl) ?_
  clear ha; intro a ha
  refine J.st_val (.pointer (some ⟨gt, 2, none⟩)) ha (by kernel_rfl) (by kernel_rfl) ?_
  clear ha; intro a ha
  refine J.st_val (.int .i64 sd) ha (by kernel_rfl) (run_load1 (of_ := 2) (s.blkIs 0 rfl) rfl (by kernel_rfl) Tryz.isAgg3 rfl) ?_
  clear ha; intro a ha
  refine J.st_call ha (by kernel_rfl) (by kernel_rfl) (TNew_spec W _ _ sd s) ?_
  rintro _ w ⟨g2, rfl, s⟩
  refine ⟨_, rfl, ?_⟩; clear ha; intro a ha
  refine J.st_ex ha (by kernel_rfl) (ex_alloc [.pointer none] s rfl (Tryz.zeroValue24 _) (by kernel_rfl)) ?_
  clear ha; rintro _ w a ⟨v3, rfl, s⟩ ha
  refine J.st_exd ha (by kernel_rfl) (ex_store (of_ := 0) 0 [.pointer (some ⟨g2, 0, none⟩)] s rfl rfl (by kernel_rfl) (by kernel_rfl) (Tryz.sizeOf24 _) rfl (by simp [Value.oneCell']) (Nat.le_of_ble_eq_true rfl)) ?_
  clear ha; rintro w a s ha
  replace s : St W (.blk v3 [.pointer (some ⟨g2, 0, none⟩)] 24 :: Tb g2 [] :: .blk gt [.pointer (some ⟨gl, 0, none⟩), .func (.func 127) #[] #[.pointer (some ⟨gx, 0, none⟩)], .int .i64 sd] 117 :: .blk gx [.int .u64 X] 224 :: .blk gl [.pointer (some ⟨hd.g, 0, none⟩), .int .i64 ((r.length : Nat) : Int)] 220 :: SkF (hd :: r) (canon (hd :: r)) :: .blk v1 [.pointer (some ⟨gt, 0, none⟩)] 24 :: L) w := s
  refine J.wpList_nil ?_
  refine then_normal ?_
  refine J.wp_seq ?_
  refine J.wp_seq ?_
  replace s := (((s.at_ (j := 5) rfl).at_ (j := 5) rfl).at_ (j := 5) rfl).at_ (j := 5) rfl
  replace s : St W (.blk gt [.pointer (some ⟨gl, 0, none⟩), .func (.func 127) #[] #[.pointer (some ⟨gx, 0, none⟩)], .int .i64 sd] 117 :: .blk gx [.int .u64 X] 224 :: .blk gl [.pointer (some ⟨hd.g, 0, none⟩), .int .i64 ((r.length : Nat) : Int)] 220 :: SkF (hd :: r) (canon (hd :: r)) :: .blk v3 [.pointer (some ⟨g2, 0, none⟩)] 24 :: Tb g2 [] :: .blk v1 [.pointer (some ⟨gt, 0, none⟩)] 24 :: L) w := s
  replace s := tb_close ok hrw hbd s
  refine J.wp_region_lit ?_
  refine J.st_val (.pointer (some ⟨gt, 0, none⟩)) ha (by kernel_rfl) (run_load1 (of_ := 0) (s.blkIs 3 rfl) rfl (by kernel_rfl) Tryz.isAgg24 rfl) ?_
  clear ha; intro a ha
  refine J.st_call ha (by kernel_rfl) (by kernel_rfl) (All_spec W _ _ gt [] [] s) ?_
  rintro _ w ⟨b1, b2, b3, rfl, s⟩
  refine ⟨_, rfl, ?_⟩; clear ha; intro a ha
  refine J.wpList_nil ?_
  refine then_normal ?_
  refine J.wp_block ?_
  replace s := ((((((s.at_ (j := 4) rfl).at_ (j := 6) rfl).at_ (j := 6) rfl).at_ (j := 5) rfl).at_ (j := 5) rfl).at_ (j := 5) rfl).at_ (j := 6) rfl
  replace s : St W (Tb gt rows :: .blk b1 [.pointer (some ⟨gt, 0, none⟩)] 24 :: .blk b2 [.string (str [])] 9 :: .blk b3 [.string (str [])] 9 :: Tb g2 [] :: .blk v1 [.pointer (some ⟨gt, 0, none⟩)] 24 :: .blk v3 [.pointer (some ⟨g2, 0, none⟩)] 24 :: L) w := s
  replace ha : J.Has [] a 31 [(0, .pointer (some ⟨gt, 0, none⟩)), (1, .pointer (some ⟨v1, 0, none⟩)), (3, .pointer (some ⟨v3, 0, none⟩)), (14, .func (.func 97) #[] #[.pointer (some ⟨b1, 0, none⟩), .pointer (some ⟨b2, 0, none⟩), .pointer (some ⟨b3, 0, none⟩)])] := (J.Has.cons ha (by kernel_rfl) (by kernel_rfl) (J.Has.cons ha (by kernel_rfl) (by kernel_rfl) (J.Has.cons ha (by kernel_rfl) (by kernel_rfl) (J.Has.cons ha (by kernel_rfl) (by kernel_rfl) (J.Has.nil ha)))))
  refine J.wp_range (G := Unit) (GX := Unit) (C := [Tb gt rows, .blk b1 [.pointer (some ⟨gt, 0, none⟩)] 24, .blk b2 [.string (str [])] 9, .blk b3 [.string (str [])] 9]) (ys := ((seg rows [] []).map row2)) (ps := [15, 16]) (all_iter gt rows b1 b2 b3 [] []) (fun i u => True) (fun i u => [Tb g2 (rows.take i), .blk v1 [.pointer (some ⟨gt, 0, none⟩)] 24, .blk v3 [.pointer (some ⟨g2, 0, none⟩)] 24]) (fun c u => False) (fun c u => []) () ha rfl (by kernel_rfl) (fun args w => (by kernel_rfl)) (fun y hy => by obtain ⟨x, _, rfl⟩ := List.mem_map.1 hy; rfl) (by kernel_rfl) s trivial ?_ ?_ ?_
  · clear ha s; rintro l T i y u a w hy hp s ha
    rw [seg_all] at hy
    obtain ⟨x, hx, rfl⟩ : ∃ x, rows[i]? = some x ∧ y = row2 x := by
      rw [List.getElem?_map] at hy; cases hq : rows[i]? with
      | none => rw [hq] at hy; cases hy
      | some x => rw [hq] at hy; exact ⟨x, rfl, (Option.some.inj hy).symm⟩
    replace ha : J.Has [] a 31 [(16, .string (str x.2)), (15, .string (str x.1)), (0, .pointer (some ⟨gt, 0, none⟩)), (1, .pointer (some ⟨v1, 0, none⟩)), (3, .pointer (some ⟨v3, 0, none⟩)), (14, .func (.func 97) #[] #[.pointer (some ⟨b1, 0, none⟩), .pointer (some ⟨b2, 0, none⟩), .pointer (some ⟨b3, 0, none⟩)])] := ha
    replace s : St W (Tb gt rows :: .blk b1 [.pointer (some ⟨gt, 0, none⟩)] 24 :: .blk b2 [.string (str [])] 9 :: .blk b3 [.string (str [])] 9 :: Tb g2 (rows.take i) :: .blk v1 [.pointer (some ⟨gt, 0, none⟩)] 24 :: .blk v3 [.pointer (some ⟨g2, 0, none⟩)] 24 :: T) w := s
    refine J.wp_seq ?_
    refine J.wp_region_lit ?_
    refine J.st_val (.string (str x.1)) ha (by kernel_rfl) (by kernel_rfl) ?_
    clear ha; intro a ha
    refine J.wpList_nil ?_
    refine then_normal ?_
    refine J.wp_region_lit ?_
    refine J.st_val (.string (str x.2)) ha (by kernel_rfl) (by kernel_rfl) ?_
    clear ha; intro a ha
    refine J.wpList_nil ?_
    refine then_normal ?_
    refine ⟨[Tb gt rows, .blk b1 [.pointer (some ⟨gt, 0, none⟩)] 24, .blk b2 [.string (str [])] 9, .blk b3 [.string (str [])] 9, Tb g2 (rows.take i), .blk v1 [.pointer (some ⟨gt, 0, none⟩)] 24, .blk v3 [.pointer (some ⟨g2, 0, none⟩)] 24], s, fun T w s => ?_⟩
    replace s : St W (Tb gt rows :: .blk b1 [.pointer (some ⟨gt, 0, none⟩)] 24 :: .blk b2 [.string (str [])] 9 :: .blk b3 [.string (str [])] 9 :: Tb g2 (rows.take i) :: .blk v1 [.pointer (some ⟨gt, 0, none⟩)] 24 :: .blk v3 [.pointer (some ⟨g2, 0, none⟩)] 24 :: T) w := s
    refine J.wp_block ?_
    have hrise := tb_rise s
    obtain ⟨gl, gx, sd, hd, r, X, ok, hrw, hbd, s⟩ := tb_open s
    replace s := s.at_ (j := 7) rfl
    replace s : St W (Tb g2 (rows.take i) :: .blk gt [.pointer (some ⟨gl, 0, none⟩), .func (.func 127) #[] #[.pointer (some ⟨gx, 0, none⟩)], .int .i64 sd] 117 :: .blk gx [.int .u64 X] 224 :: .blk gl [.pointer (some ⟨hd.g, 0, none⟩), .int .i64 ((r.length : Nat) : Int)] 220 :: SkF (hd :: r) (canon (hd :: r)) :: .blk b1 [.pointer (some ⟨gt, 0, none⟩)] 24 :: .blk b2 [.string (str [])] 9 :: .blk b3 [.string (str [])] 9 :: .blk v1 [.pointer (some ⟨gt, 0, none⟩)] 24 :: .blk v3 [.pointer (some ⟨g2, 0, none⟩)] 24 :: T) w := s
    obtain ⟨gl2, gx2, sd2, hd2, r2, X2, ok2, hrw2, hbd2, s⟩ := tb_open s
    obtain ⟨z, hz, rfl⟩ := rows_node hrw hx
    have hfz := fnd_self ok.tail_lt hz; have hzn := ok.steps z (List.mem_cons_of_mem _ hz)
    have hln : r2.length < 1000000000 := by have h1 := congrArg List.length hrw2; rw [List.length_map, List.length_take] at h1; omega
    refine J.wp_region_head 12 (fun w => BlkIs v3 [.pointer (some ⟨g2, 0, none⟩)] w ∧ BlkIs g2 [.pointer (some ⟨gl2, 0, none⟩), .func (.func 127) #[] #[.pointer (some ⟨gx2, 0, none⟩)], .int .i64 sd2] w ∧ BlkIs v1 [.pointer (some ⟨gt, 0, none⟩)] w ∧ BlkIs gt [.pointer (some ⟨gl, 0, none⟩), .func (.func 127) #[] #[.pointer (some ⟨gx, 0, none⟩)], .int .i64 sd] w ∧ True) (by kernel_rfl) (by decide) ?_
    replace s := s.drew; generalize _root_.Go.World.drew _ = w at s ⊢
    have hS : (fun w => BlkIs v3 [.pointer (some ⟨g2, 0, none⟩)] w ∧ BlkIs g2 [.pointer (some ⟨gl2, 0, none⟩), .func (.func 127) #[] #[.pointer (some ⟨gx2, 0, none⟩)], .int .i64 sd2] w ∧ BlkIs v1 [.pointer (some ⟨gt, 0, none⟩)] w ∧ BlkIs gt [.pointer (some ⟨gl, 0, none⟩), .func (.func 127) #[] #[.pointer (some ⟨gx, 0, none⟩)], .int .i64 sd] w ∧ True) w := ⟨s.blkIs 12 rfl, s.blkIs 0 rfl, s.blkIs 11 rfl, s.blkIs 4 rfl, trivial⟩
    refine J.hd_val (i := 0) (.pointer (some ⟨g2, 0, none⟩)) ha rfl (by kernel_rfl) (fun _ _ _ h => h) (by kernel_rfl) (fun w hS => run_load1 (of_ := 0) hS.1 rfl (by kernel_rfl) Tryz.isAgg24 rfl) hS ?_
    clear ha; intro a ha
    refine J.hd_val (i := 1) (.pointer (some ⟨g2, 0, none⟩)) ha rfl (by kernel_rfl) (fun _ _ _ h => h) (by kernel_rfl) (fun w hS => (by kernel_rfl)) hS ?_
    clear ha; intro a ha
    refine J.hd_val (i := 2) (.pointer (some ⟨g2, 0, none⟩)) ha rfl (by kernel_rfl) (fun _ _ _ h => h) (by kernel_rfl) (fun w hS => (by kernel_rfl)) hS ?_
    clear ha; intro a ha
    refine J.hd_val (i := 3) (.pointer (some ⟨gl2, 0, none⟩)) ha rfl (by kernel_rfl) (fun _ _ _ h => h) (by kernel_rfl) (fun w hS => run_load1 (of_ := 0) hS.2.1 rfl (by kernel_rfl) Tryz.isAgg114 rfl) hS ?_
    clear ha; intro a ha
    refine J.hd_val (i := 4) (.string (str z.k)) ha rfl (by kernel_rfl) (fun _ _ _ h => h) (by kernel_rfl) (fun w hS => (by kernel_rfl)) hS ?_
    clear ha; intro a ha
    refine J.hd_val (i := 5) (.string (str z.v)) ha rfl (by kernel_rfl) (fun _ _ _ h => h) (by kernel_rfl) (fun w hS => (by kernel_rfl)) hS ?_
    clear ha; intro a ha
    refine J.hd_val (i := 6) (.pointer (some ⟨gt, 0, none⟩)) ha rfl (by kernel_rfl) (fun _ _ _ h => h) (by kernel_rfl) (fun w hS => run_load1 (of_ := 0) hS.2.2.1 rfl (by kernel_rfl) Tryz.isAgg24 rfl) hS ?_
    clear ha; intro a ha
    refine J.hd_val (i := 7) (.pointer (some ⟨gt, 0, none⟩)) ha rfl (by kernel_rfl) (fun _ _ _ h => h) (by kernel_rfl) (fun w hS => (by kernel_rfl)) hS ?_
    clear ha; intro a ha
    refine J.hd_val (i := 8) (.pointer (some ⟨gt, 0, none⟩)) ha rfl (by kernel_rfl) (fun _ _ _ h => h) (by kernel_rfl) (fun w hS => (by kernel_rfl)) hS ?_
    clear ha; intro a ha
    refine J.hd_val (i := 9) (.pointer (some ⟨gl, 0, none⟩)) ha rfl (by kernel_rfl) (fun _ _ _ h => h) (by kernel_rfl) (fun w hS => run_load1 (of_ := 0) hS.2.2.2.1 rfl (by kernel_rfl) Tryz.isAgg114 rfl) hS ?_
    clear ha; intro a ha
    refine J.hd_val (i := 10) (.string (str z.k)) ha rfl (by kernel_rfl) (fun _ _ _ h => h) (by kernel_rfl) (fun w hS => (by kernel_rfl)) hS ?_
    clear ha; intro a ha
    replace s := (s.at_ (j := 7) rfl).at_ (j := 7) rfl
    replace s : St W (.blk gl [.pointer (some ⟨hd.g, 0, none⟩), .int .i64 ((r.length : Nat) : Int)] 220 :: SkF (hd :: r) (canon (hd :: r)) :: .blk g2 [.pointer (some ⟨gl2, 0, none⟩), .func (.func 127) #[] #[.pointer (some ⟨gx2, 0, none⟩)], .int .i64 sd2] 117 :: .blk gx2 [.int .u64 X2] 224 :: .blk gl2 [.pointer (some ⟨hd2.g, 0, none⟩), .int .i64 ((r2.length : Nat) : Int)] 220 :: SkF (hd2 :: r2) (canon (hd2 :: r2)) :: .blk gt [.pointer (some ⟨gl, 0, none⟩), .func (.func 127) #[] #[.pointer (some ⟨gx, 0, none⟩)], .int .i64 sd] 117 :: .blk gx [.int .u64 X] 224 :: .blk b1 [.pointer (some ⟨gt, 0, none⟩)] 24 :: .blk b2 [.string (str [])] 9 :: .blk b3 [.string (str [])] 9 :: .blk v1 [.pointer (some ⟨gt, 0, none⟩)] 24 :: .blk v3 [.pointer (some ⟨g2, 0, none⟩)] 24 :: T) w := s
    refine J.hd_call (i := 11) ha rfl (by kernel_rfl) (by kernel_rfl) (by kernel_rfl) ((Steps_spec W _ _ gl hd r _ z.k ok s).mono fun e w h => (show _ ∧ _ from ⟨by have := h.1; rw [hfz] at this; exact this, h.2⟩)) ?_
    clear hS; rintro _ w ⟨rfl, s⟩
    have hS : (fun w => BlkIs v3 [.pointer (some ⟨g2, 0, none⟩)] w ∧ BlkIs g2 [.pointer (some ⟨gl2, 0, none⟩), .func (.func 127) #[] #[.pointer (some ⟨gx2, 0, none⟩)], .int .i64 sd2] w ∧ BlkIs v1 [.pointer (some ⟨gt, 0, none⟩)] w ∧ BlkIs gt [.pointer (some ⟨gl, 0, none⟩), .func (.func 127) #[] #[.pointer (some ⟨gx, 0, none⟩)], .int .i64 sd] w ∧ True) w := ⟨s.blkIs 12 rfl, s.blkIs 2 rfl, s.blkIs 11 rfl, s.blkIs 6 rfl, trivial⟩
    refine ⟨_, rfl, hS, ?_⟩; clear ha; intro a ha
    refine J.Head.done (by kernel_rfl) ?_
    clear hS; simp only [List.drop_succ_cons, List.drop_zero]
    replace s := (s.at_ (j := 5) rfl).at_ (j := 5) rfl
    replace s : St W (.blk gl2 [.pointer (some ⟨hd2.g, 0, none⟩), .int .i64 ((r2.length : Nat) : Int)] 220 :: SkF (hd2 :: r2) (canon (hd2 :: r2)) :: .blk gl [.pointer (some ⟨hd.g, 0, none⟩), .int .i64 ((r.length : Nat) : Int)] 220 :: SkF (hd :: r) (canon (hd :: r)) :: .blk g2 [.pointer (some ⟨gl2, 0, none⟩), .func (.func 127) #[] #[.pointer (some ⟨gx2, 0, none⟩)], .int .i64 sd2] 117 :: .blk gx2 [.int .u64 X2] 224 :: .blk gt [.pointer (some ⟨gl, 0, none⟩), .func (.func 127) #[] #[.pointer (some ⟨gx, 0, none⟩)], .int .i64 sd] 117 :: .blk gx [.int .u64 X] 224 :: .blk b1 [.pointer (some ⟨gt, 0, none⟩)] 24 :: .blk b2 [.string (str [])] 9 :: .blk b3 [.string (str [])] 9 :: .blk v1 [.pointer (some ⟨gt, 0, none⟩)] 24 :: .blk v3 [.pointer (some ⟨g2, 0, none⟩)] 24 :: T) w := s
    refine J.st_call ha (by kernel_rfl) (by kernel_rfl) (Put_spec W _ _ gl2 hd2 r2 z.k z.v z.n hzn.1 hzn.2 hln ok2 s) ?_
    rintro _ w ⟨r3, rfl, ok3, hrw3, s⟩
    refine ⟨_, rfl, ?_⟩; clear ha; intro a ha
    refine J.wpList_nil ?_
    refine ⟨rfl, ?_⟩
    refine block_normal ?_
    replace s := (((s.at_ (j := 1) rfl).at_ (j := 1) rfl).at_ (j := 5) rfl).at_ (j := 5) rfl
    replace s : St W (.blk g2 [.pointer (some ⟨gl2, 0, none⟩), .func (.func 127) #[] #[.pointer (some ⟨gx2, 0, none⟩)], .int .i64 sd2] 117 :: .blk gx2 [.int .u64 X2] 224 :: .blk gl2 [.pointer (some ⟨hd2.g, 0, none⟩), .int .i64 ((r3.length : Nat) : Int)] 220 :: SkF (hd2 :: r3) (canon (hd2 :: r3)) :: .blk gl [.pointer (some ⟨hd.g, 0, none⟩), .int .i64 ((r.length : Nat) : Int)] 220 :: SkF (hd :: r) (canon (hd :: r)) :: .blk gt [.pointer (some ⟨gl, 0, none⟩), .func (.func 127) #[] #[.pointer (some ⟨gx, 0, none⟩)], .int .i64 sd] 117 :: .blk gx [.int .u64 X] 224 :: .blk b1 [.pointer (some ⟨gt, 0, none⟩)] 24 :: .blk b2 [.string (str [])] 9 :: .blk b3 [.string (str [])] 9 :: .blk v1 [.pointer (some ⟨gt, 0, none⟩)] 24 :: .blk v3 [.pointer (some ⟨g2, 0, none⟩)] 24 :: T) w := s
    replace s := tb_close (rows := rows.take (i + 1)) ok3 (by rw [hrw3, hrw2]; exact tput_snoc hrise hx) (fun y hy => hbd y (List.mem_of_mem_take hy)) s
    replace s := (((s.at_ (j := 2) rfl).at_ (j := 2) rfl).at_ (j := 4) rfl).at_ (j := 4) rfl
    replace s : St W (.blk gt [.pointer (some ⟨gl, 0, none⟩), .func (.func 127) #[] #[.pointer (some ⟨gx, 0, none⟩)], .int .i64 sd] 117 :: .blk gx [.int .u64 X] 224 :: .blk gl [.pointer (some ⟨hd.g, 0, none⟩), .int .i64 ((r.length : Nat) : Int)] 220 :: SkF (hd :: r) (canon (hd :: r)) :: Tb g2 (rows.take (i + 1)) :: .blk b1 [.pointer (some ⟨gt, 0, none⟩)] 24 :: .blk b2 [.string (str [])] 9 :: .blk b3 [.string (str [])] 9 :: .blk v1 [.pointer (some ⟨gt, 0, none⟩)] 24 :: .blk v3 [.pointer (some ⟨g2, 0, none⟩)] 24 :: T) w := s
    replace s := tb_close ok hrw hbd s
    replace s := ((((((s.at_ (j := 6) rfl).at_ (j := 6) rfl).at_ (j := 3) rfl).at_ (j := 6) rfl).at_ (j := 6) rfl).at_ (j := 6) rfl).at_ (j := 6) rfl
    replace s : St W (Tb gt rows :: .blk b1 [.pointer (some ⟨gt, 0, none⟩)] 24 :: .blk b2 [.string (str [])] 9 :: .blk b3 [.string (str [])] 9 :: Tb g2 (rows.take (i + 1)) :: .blk v1 [.pointer (some ⟨gt, 0, none⟩)] 24 :: .blk v3 [.pointer (some ⟨g2, 0, none⟩)] 24 :: T) w := s
    exact ⟨u, trivial, s⟩
  · clear ha s; rintro D u a w hp s ha
    replace ha : J.Has [J.mark D] a 31 [(0, .pointer (some ⟨gt, 0, none⟩)), (1, .pointer (some ⟨v1, 0, none⟩)), (3, .pointer (some ⟨v3, 0, none⟩)), (14, .func (.func 97) #[] #[.pointer (some ⟨b1, 0, none⟩), .pointer (some ⟨b2, 0, none⟩), .pointer (some ⟨b3, 0, none⟩)])] := ha
    replace s : St W (Tb gt rows :: .blk b1 [.pointer (some ⟨gt, 0, none⟩)] 24 :: .blk b2 [.string (str [])] 9 :: .blk b3 [.string (str [])] 9 :: Tb g2 (rows.take ((seg rows [] []).map row2).length) :: .blk v1 [.pointer (some ⟨gt, 0, none⟩)] 24 :: .blk v3 [.pointer (some ⟨g2, 0, none⟩)] 24 :: J.objC D (.deferred (some [])) :: L) w := s
    refine block_normal ?_
    refine then_normal ?_
    refine J.wp_seq ?_
    refine J.wp_region_lit ?_
    refine J.st_val (.pointer (some ⟨g2, 0, none⟩)) ha (by kernel_rfl) (run_load1 (of_ := 0) (s.blkIs 6 rfl) rfl (by kernel_rfl) Tryz.isAgg24 rfl) ?_
    clear ha; intro a ha
    refine J.st_val (.pointer (some ⟨g2, 0, none⟩)) ha (by kernel_rfl) (by kernel_rfl) ?_
    clear ha; intro a ha
    refine J.wpList_nil ?_
    refine then_normal ?_
    refine J.wp_ret ?_
    replace s := s.at_ (j := 7) rfl
    replace s : St W (J.objC D (.deferred (some [])) :: Tb gt rows :: .blk b1 [.pointer (some ⟨gt, 0, none⟩)] 24 :: .blk b2 [.string (str [])] 9 :: .blk b3 [.string (str [])] 9 :: Tb g2 (rows.take ((seg rows [] []).map row2).length) :: .blk v1 [.pointer (some ⟨gt, 0, none⟩)] 24 :: .blk v3 [.pointer (some ⟨g2, 0, none⟩)] 24 :: L) w := s
    refine J.ret_with1 (v := .pointer (some ⟨g2, 0, none⟩)) ha s (fun w s => (results_1 (a := { a with defers := [] }) rfl ha.bare (res_tmp (by kernel_rfl) (by kernel_rfl)))) (fun w s => ?_)
    replace s := s.at_ (j := 4) rfl
    replace s : St W (Tb g2 (rows.take ((seg rows [] []).map row2).length) :: Tb gt rows :: L) w := s.keep 2 5
    exact ⟨g2, rfl, by rw [seg_all, List.length_map, List.take_length] at s; exact s⟩
  · clear ha s; rintro c D u a w - hp s ha
    exact hp.elim

end Go.Proofs.YtagbmfdheppmoaaGreatDoor.B
