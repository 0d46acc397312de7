import Derived.Test.YtfcbjcohepkkfaaB6
namespace Go.Proofs.Ytfcbjcohepkkfaa.B
open Go.RowKit Go.Maps Go.Sort Go.Shelf Go.Proofs.Ytfcbjcohepkkfaa.Sep Go.Proofs.Ytfcbjcohepkkfaa.P
set_option linter.unusedVariables false
set_option linter.unusedSimpArgs false
theorem rws_snoc {R : List Rw} {k : Nat} {x : Rw} (h : R[k]? = some x) : rws (R.take (k + 1)) = rws (R.take k) ++ rv x := by
  rw [take_snoc h, rws_append]; simp [rws]
theorem results_4 {P : Program} {a : Act} {N : Nat} {E : Env} {fn : Func} {w : World} {r1 r2 r3 r4 : ResultVar} {v1 v2 v3 v4 : Value} (h : fn.results = #[r1, r2, r3, r4]) (ha : Has a N E) (h1 : resIs P E w r1 v1) (h2 : resIs P E w r2 v2) (h3 : resIs P E w r3 v3) (h4 : resIs P E w r4 v4) :
    (results fn a.tmps).run P w = .ok (.tuple #[v1, v2, v3, v4]) w := by
  rw [results_eq]
  simp [h, resIs_run ha h1, resIs_run ha h2, resIs_run ha h3, resIs_run ha h4]
/-- What Check answers, by what is found. -/
def found (ds : List Tn) (o : List Nat) : Option (Nat × Nat) := first [] (things ds o)
def rowsOf (ds : List Tn) (o : List Nat) : List Rw := left [] (things ds o)

theorem check_ok (W : World) (hW : W.drawn = 0) (L : List Chunk) (w : World) (A : Option Addr) (ca : Nat) (ds : List Dn) (hr : Knows L (DonesIn A ds)) (hn : Bn ds) (h0 : code (tns ds) = 0) (s : St W L w) :
    Calls Try.prog 24 #[.slice A ds.length ca] w fun e w' => ∃ o, e = .returned (.tuple #[.int .i64 ((fst (found (tns ds) o) : Nat) : Int), .int .i64 ((snd (found (tns ds) o) : Nat) : Int), .bool (found (tns ds) o).isSome, .int .i64 0]) ∧ IsOrd (tns ds) o ∧ St W L w' := by
  refine enter_args (l := [.slice A ds.length ca]) Try.func24 rfl rfl (Nat.le_of_ble_eq_true rfl) ?_
  intro a ha; replace ha : Has a 16 [(0, .slice A ds.length ca)] := ha
  refine wp_seq ?_
  refine wp_region_lit ?_
  refine st_ex ha (by kernel_rfl) (ex_alloc [.int .i64 0] s rfl (Try.zeroValue3 _) (by kernel_rfl)) ?_
  clear ha; rintro _ w a ⟨g1, rfl, s⟩ ha
  replace s : St W (.blk g1 [.int .i64 0] 3 :: L) w := s
  refine st_ex ha (by kernel_rfl) (ex_alloc [.int .i64 0] s rfl (Try.zeroValue3 _) (by kernel_rfl)) ?_
  clear ha; rintro _ w a ⟨g2, rfl, s⟩ ha
  replace s : St W (.blk g2 [.int .i64 0] 3 :: .blk g1 [.int .i64 0] 3 :: L) w := s
  refine st_ex ha (by kernel_rfl) (ex_alloc [.bool false] s rfl (Try.zeroValue4 _) (by kernel_rfl)) ?_
  clear ha; rintro _ w a ⟨g3, rfl, s⟩ ha
  replace s : St W (.blk g3 [.bool false] 4 :: .blk g2 [.int .i64 0] 3 :: .blk g1 [.int .i64 0] 3 :: L) w := s
  refine st_val (.int .i64 0) ha (by kernel_rfl) (by kernel_rfl) ?_
  clear ha; intro a ha
  refine wpList_nil ?_
  refine then_normal ?_
  refine wp_seq ?_
  refine wp_region_lit ?_
  refine st_val (.slice A ds.length ca) ha (by kernel_rfl) (by kernel_rfl) ?_
  clear ha; intro a ha
  refine st_val (.func (.func 32) #[] #[.pointer (some ⟨g3, 0, none⟩), .pointer (some ⟨g1, 0, none⟩), .pointer (some ⟨g2, 0, none⟩)]) ha (by kernel_rfl) (by kernel_rfl) ?_
  clear ha; intro a ha
  replace s := s.at_ (j := 1) rfl
  replace s : St W (.blk g2 [.int .i64 0] 3 :: .blk g3 [.bool false] 4 :: .blk g1 [.int .i64 0] 3 :: L) w := s
  replace s := s.at_ (j := 2) rfl
  replace s : St W (.blk g1 [.int .i64 0] 3 :: .blk g2 [.int .i64 0] 3 :: .blk g3 [.bool false] 4 :: L) w := s
  replace s := s.at_ (j := 2) rfl
  replace s : St W (.blk g3 [.bool false] 4 :: .blk g1 [.int .i64 0] 3 :: .blk g2 [.int .i64 0] 3 :: L) w := s
  replace s : St W (.blk g3 [.bool ((none : Option (Nat × Nat)).isSome)] 4 :: .blk g1 [.int .i64 ((fst (none : Option (Nat × Nat)) : Nat) : Int)] 3 :: .blk g2 [.int .i64 ((snd (none : Option (Nat × Nat)) : Nat) : Int)] 3 :: L) w := s
  refine st_call ha (by kernel_rfl) (by kernel_rfl) (play_chk_ok W hW _ w A ca ds (fun w s => hr w s) hn g3 g1 g2 h0 s) ?_
  rintro _ w ⟨gm, D, o, rfl, ho, hD, s⟩
  replace s : St W (MapT Try.prog 9 encS gm D :: .blk g3 [.bool ((first [] (things (tns ds) o)).isSome)] 4 :: .blk g1 [.int .i64 ((fst (first [] (things (tns ds) o)) : Nat) : Int)] 3 :: .blk g2 [.int .i64 ((snd (first [] (things (tns ds) o)) : Nat) : Int)] 3 :: L) w := s
  refine ⟨_, rfl, ?_⟩; clear ha; intro a ha
  refine st_val (.tuple #[.map (some gm), .int .i64 0]) ha (by kernel_rfl) (by kernel_rfl) ?_
  clear ha; intro a ha
  refine st_val (.map (some gm)) ha (by kernel_rfl) (by kernel_rfl) ?_
  clear ha; intro a ha
  refine st_val (.int .i64 0) ha (by kernel_rfl) (by kernel_rfl) ?_
  clear ha; intro a ha
  refine st_val (.int .i64 0) ha (by kernel_rfl) (by kernel_rfl) ?_
  clear ha; intro a ha
  refine wpList_nil ?_
  refine then_normal ?_
  refine wp_seq ?_
  refine wp_region_head 7 (fun w => BlkIs g1 [.int .i64 ((fst (first [] (things (tns ds) o)) : Nat) : Int)] w ∧ BlkIs g2 [.int .i64 ((snd (first [] (things (tns ds) o)) : Nat) : Int)] w ∧ BlkIs g3 [.bool ((first [] (things (tns ds) o)).isSome)] w ∧ True) (by kernel_rfl) (by decide) ?_
  replace s := s.drew; generalize _root_.Go.World.drew _ = w at s ⊢
  have hS : (fun w => BlkIs g1 [.int .i64 ((fst (first [] (things (tns ds) o)) : Nat) : Int)] w ∧ BlkIs g2 [.int .i64 ((snd (first [] (things (tns ds) o)) : Nat) : Int)] w ∧ BlkIs g3 [.bool ((first [] (things (tns ds) o)).isSome)] w ∧ True) w := ⟨s.blkIs 2 rfl, s.blkIs 3 rfl, s.blkIs 1 rfl, trivial⟩
  refine hd_val (i := 0) (.int .i64 ((fst (first [] (things (tns ds) o)) : Nat) : Int)) ha rfl (by kernel_rfl) (fun _ _ _ h => h) (by kernel_rfl) (fun w hS => run_load1 (of_ := 0) hS.1 rfl (by kernel_rfl) Try.isAgg3 rfl) hS ?_
  clear ha; intro a ha
  refine hd_val (i := 1) (.int .i64 ((snd (first [] (things (tns ds) o)) : Nat) : Int)) ha rfl (by kernel_rfl) (fun _ _ _ h => h) (by kernel_rfl) (fun w hS => run_load1 (of_ := 0) hS.2.1 rfl (by kernel_rfl) Try.isAgg3 rfl) hS ?_
  clear ha; intro a ha
  refine hd_val (i := 2) (.bool ((first [] (things (tns ds) o)).isSome)) ha rfl (by kernel_rfl) (fun _ _ _ h => h) (by kernel_rfl) (fun w hS => run_load1 (of_ := 0) hS.2.2.1 rfl (by kernel_rfl) Try.isAgg4 rfl) hS ?_
  clear ha; intro a ha
  refine hd_val (i := 3) (.int .i64 0) ha rfl (by kernel_rfl) (fun _ _ _ h => h) (by kernel_rfl) (fun w hS => (by kernel_rfl)) hS ?_
  clear ha; intro a ha
  refine hd_exd (i := 4) ha rfl (by kernel_rfl) (by kernel_rfl) (ex_store (of_ := 0) 2 [.int .i64 ((fst (first [] (things (tns ds) o)) : Nat) : Int)] s rfl rfl (by kernel_rfl) (by kernel_rfl) (Try.sizeOf3 _) rfl (by simp [Value.oneCell']) (Nat.le_of_ble_eq_true rfl)) ?_
  clear hS; rintro w s
  replace s : St W (MapT Try.prog 9 encS gm D :: .blk g3 [.bool ((first [] (things (tns ds) o)).isSome)] 4 :: .blk g1 [.int .i64 ((fst (first [] (things (tns ds) o)) : Nat) : Int)] 3 :: .blk g2 [.int .i64 ((snd (first [] (things (tns ds) o)) : Nat) : Int)] 3 :: L) w := s
  have hS : (fun w => BlkIs g1 [.int .i64 ((fst (first [] (things (tns ds) o)) : Nat) : Int)] w ∧ BlkIs g2 [.int .i64 ((snd (first [] (things (tns ds) o)) : Nat) : Int)] w ∧ BlkIs g3 [.bool ((first [] (things (tns ds) o)).isSome)] w ∧ True) w := ⟨s.blkIs 2 rfl, s.blkIs 3 rfl, s.blkIs 1 rfl, trivial⟩
  refine ⟨hS, ?_⟩; clear ha; intro a ha
  refine hd_exd (i := 5) ha rfl (by kernel_rfl) (by kernel_rfl) (ex_store (of_ := 0) 3 [.int .i64 ((snd (first [] (things (tns ds) o)) : Nat) : Int)] s rfl rfl (by kernel_rfl) (by kernel_rfl) (Try.sizeOf3 _) rfl (by simp [Value.oneCell']) (Nat.le_of_ble_eq_true rfl)) ?_
  clear hS; rintro w s
  replace s : St W (MapT Try.prog 9 encS gm D :: .blk g3 [.bool ((first [] (things (tns ds) o)).isSome)] 4 :: .blk g1 [.int .i64 ((fst (first [] (things (tns ds) o)) : Nat) : Int)] 3 :: .blk g2 [.int .i64 ((snd (first [] (things (tns ds) o)) : Nat) : Int)] 3 :: L) w := s
  have hS : (fun w => BlkIs g1 [.int .i64 ((fst (first [] (things (tns ds) o)) : Nat) : Int)] w ∧ BlkIs g2 [.int .i64 ((snd (first [] (things (tns ds) o)) : Nat) : Int)] w ∧ BlkIs g3 [.bool ((first [] (things (tns ds) o)).isSome)] w ∧ True) w := ⟨s.blkIs 2 rfl, s.blkIs 3 rfl, s.blkIs 1 rfl, trivial⟩
  refine ⟨hS, ?_⟩; clear ha; intro a ha
  refine hd_exd (i := 6) ha rfl (by kernel_rfl) (by kernel_rfl) (ex_store (of_ := 0) 1 [.bool ((first [] (things (tns ds) o)).isSome)] s rfl rfl (by kernel_rfl) (by kernel_rfl) (Try.sizeOf4 _) rfl (by simp [Value.oneCell']) (Nat.le_of_ble_eq_true rfl)) ?_
  clear hS; rintro w s
  replace s : St W (MapT Try.prog 9 encS gm D :: .blk g3 [.bool ((first [] (things (tns ds) o)).isSome)] 4 :: .blk g1 [.int .i64 ((fst (first [] (things (tns ds) o)) : Nat) : Int)] 3 :: .blk g2 [.int .i64 ((snd (first [] (things (tns ds) o)) : Nat) : Int)] 3 :: L) w := s
  have hS : (fun w => BlkIs g1 [.int .i64 ((fst (first [] (things (tns ds) o)) : Nat) : Int)] w ∧ BlkIs g2 [.int .i64 ((snd (first [] (things (tns ds) o)) : Nat) : Int)] w ∧ BlkIs g3 [.bool ((first [] (things (tns ds) o)).isSome)] w ∧ True) w := ⟨s.blkIs 2 rfl, s.blkIs 3 rfl, s.blkIs 1 rfl, trivial⟩
  refine ⟨hS, ?_⟩; clear ha; intro a ha
  refine Head.done (by kernel_rfl) ?_
  clear hS; simp only [List.drop_succ_cons, List.drop_zero]
  refine st_val (.int .i64 0) ha (by kernel_rfl) (by kernel_rfl) ?_
  clear ha; intro a ha
  refine wpList_nil ?_
  refine then_normal ?_
  refine wp_ret ?_
  refine ret_with (v := .tuple #[.int .i64 ((fst (first [] (things (tns ds) o)) : Nat) : Int), .int .i64 ((snd (first [] (things (tns ds) o)) : Nat) : Int), .bool ((first [] (things (tns ds) o)).isSome), .int .i64 0]) ha (results_4 rfl ha (res_cell1 (s.blkIs 2 rfl) (by kernel_rfl) (by kernel_rfl) Try.isAgg3 rfl) (res_cell1 (s.blkIs 3 rfl) (by kernel_rfl) (by kernel_rfl) Try.isAgg3 rfl) (res_cell1 (s.blkIs 1 rfl) (by kernel_rfl) (by kernel_rfl) Try.isAgg4 rfl) (res_tmp (by kernel_rfl) (by kernel_rfl))) ?_
  replace s := s.tail.tail.tail.tail
  replace s : St W (L) w := s
  exact ⟨o, rfl, ho, s⟩

theorem check_no (W : World) (hW : W.drawn = 0) (L : List Chunk) (w : World) (A : Option Addr) (ca : Nat) (ds : List Dn) (hr : Knows L (DonesIn A ds)) (hn : Bn ds) (h0 : code (tns ds) ≠ 0) (s : St W L w) :
    Calls Try.prog 24 #[.slice A ds.length ca] w fun e w' => e = .returned (.tuple #[.int .i64 0, .int .i64 0, .bool false, .int .i64 (code (tns ds))]) ∧ St W L w' := by
  refine enter_args (l := [.slice A ds.length ca]) Try.func24 rfl rfl (Nat.le_of_ble_eq_true rfl) ?_
  intro a ha; replace ha : Has a 16 [(0, .slice A ds.length ca)] := ha
  refine wp_seq ?_
  refine wp_region_lit ?_
  refine st_ex ha (by kernel_rfl) (ex_alloc [.int .i64 0] s rfl (Try.zeroValue3 _) (by kernel_rfl)) ?_
  clear ha; rintro _ w a ⟨g1, rfl, s⟩ ha
  replace s : St W (.blk g1 [.int .i64 0] 3 :: L) w := s
  refine st_ex ha (by kernel_rfl) (ex_alloc [.int .i64 0] s rfl (Try.zeroValue3 _) (by kernel_rfl)) ?_
  clear ha; rintro _ w a ⟨g2, rfl, s⟩ ha
  replace s : St W (.blk g2 [.int .i64 0] 3 :: .blk g1 [.int .i64 0] 3 :: L) w := s
  refine st_ex ha (by kernel_rfl) (ex_alloc [.bool false] s rfl (Try.zeroValue4 _) (by kernel_rfl)) ?_
  clear ha; rintro _ w a ⟨g3, rfl, s⟩ ha
  replace s : St W (.blk g3 [.bool false] 4 :: .blk g2 [.int .i64 0] 3 :: .blk g1 [.int .i64 0] 3 :: L) w := s
  refine st_val (.int .i64 0) ha (by kernel_rfl) (by kernel_rfl) ?_
  clear ha; intro a ha
  refine wpList_nil ?_
  refine then_normal ?_
  refine wp_seq ?_
  refine wp_region_lit ?_
  refine st_val (.slice A ds.length ca) ha (by kernel_rfl) (by kernel_rfl) ?_
  clear ha; intro a ha
  refine st_val (.func (.func 32) #[] #[.pointer (some ⟨g3, 0, none⟩), .pointer (some ⟨g1, 0, none⟩), .pointer (some ⟨g2, 0, none⟩)]) ha (by kernel_rfl) (by kernel_rfl) ?_
  clear ha; intro a ha
  replace s := s.at_ (j := 1) rfl
  replace s : St W (.blk g2 [.int .i64 0] 3 :: .blk g3 [.bool false] 4 :: .blk g1 [.int .i64 0] 3 :: L) w := s
  replace s := s.at_ (j := 2) rfl
  replace s : St W (.blk g1 [.int .i64 0] 3 :: .blk g2 [.int .i64 0] 3 :: .blk g3 [.bool false] 4 :: L) w := s
  replace s := s.at_ (j := 2) rfl
  replace s : St W (.blk g3 [.bool false] 4 :: .blk g1 [.int .i64 0] 3 :: .blk g2 [.int .i64 0] 3 :: L) w := s
  replace s : St W (.blk g3 [.bool ((none : Option (Nat × Nat)).isSome)] 4 :: .blk g1 [.int .i64 ((fst (none : Option (Nat × Nat)) : Nat) : Int)] 3 :: .blk g2 [.int .i64 ((snd (none : Option (Nat × Nat)) : Nat) : Int)] 3 :: L) w := s
  refine st_call ha (by kernel_rfl) (by kernel_rfl) (play_chk_no W hW _ w A ca ds (fun w s => hr w s) hn g3 g1 g2 h0 s) ?_
  rintro _ w ⟨rfl, s⟩
  replace s : St W (.blk g3 [.bool ((none : Option (Nat × Nat)).isSome)] 4 :: .blk g1 [.int .i64 ((fst (none : Option (Nat × Nat)) : Nat) : Int)] 3 :: .blk g2 [.int .i64 ((snd (none : Option (Nat × Nat)) : Nat) : Int)] 3 :: L) w := s
  refine ⟨_, rfl, ?_⟩; clear ha; intro a ha
  refine st_val (.tuple #[.map none, .int .i64 (code (tns ds))]) ha (by kernel_rfl) (by kernel_rfl) ?_
  clear ha; intro a ha
  refine st_val (.map none) ha (by kernel_rfl) (by kernel_rfl) ?_
  clear ha; intro a ha
  refine st_val (.int .i64 (code (tns ds))) ha (by kernel_rfl) (by kernel_rfl) ?_
  clear ha; intro a ha
  refine st_val (.int .i64 (code (tns ds))) ha (by kernel_rfl) (by kernel_rfl) ?_
  clear ha; intro a ha
  refine wpList_nil ?_
  refine then_normal ?_
  refine wp_seq ?_
  refine wp_region_head 7 (fun w => BlkIs g1 [.int .i64 ((fst (none : Option (Nat × Nat)) : Nat) : Int)] w ∧ BlkIs g2 [.int .i64 ((snd (none : Option (Nat × Nat)) : Nat) : Int)] w ∧ BlkIs g3 [.bool ((none : Option (Nat × Nat)).isSome)] w ∧ True) (by kernel_rfl) (by decide) ?_
  replace s := s.drew; generalize _root_.Go.World.drew _ = w at s ⊢
  have hS : (fun w => BlkIs g1 [.int .i64 ((fst (none : Option (Nat × Nat)) : Nat) : Int)] w ∧ BlkIs g2 [.int .i64 ((snd (none : Option (Nat × Nat)) : Nat) : Int)] w ∧ BlkIs g3 [.bool ((none : Option (Nat × Nat)).isSome)] w ∧ True) w := ⟨s.blkIs 1 rfl, s.blkIs 2 rfl, s.blkIs 0 rfl, trivial⟩
  refine hd_val (i := 0) (.int .i64 ((fst (none : Option (Nat × Nat)) : Nat) : Int)) ha rfl (by kernel_rfl) (fun _ _ _ h => h) (by kernel_rfl) (fun w hS => run_load1 (of_ := 0) hS.1 rfl (by kernel_rfl) Try.isAgg3 rfl) hS ?_
  clear ha; intro a ha
  refine hd_val (i := 1) (.int .i64 ((snd (none : Option (Nat × Nat)) : Nat) : Int)) ha rfl (by kernel_rfl) (fun _ _ _ h => h) (by kernel_rfl) (fun w hS => run_load1 (of_ := 0) hS.2.1 rfl (by kernel_rfl) Try.isAgg3 rfl) hS ?_
  clear ha; intro a ha
  refine hd_val (i := 2) (.bool ((none : Option (Nat × Nat)).isSome)) ha rfl (by kernel_rfl) (fun _ _ _ h => h) (by kernel_rfl) (fun w hS => run_load1 (of_ := 0) hS.2.2.1 rfl (by kernel_rfl) Try.isAgg4 rfl) hS ?_
  clear ha; intro a ha
  refine hd_val (i := 3) (.int .i64 (code (tns ds))) ha rfl (by kernel_rfl) (fun _ _ _ h => h) (by kernel_rfl) (fun w hS => (by kernel_rfl)) hS ?_
  clear ha; intro a ha
  refine hd_exd (i := 4) ha rfl (by kernel_rfl) (by kernel_rfl) (ex_store (of_ := 0) 1 [.int .i64 ((fst (none : Option (Nat × Nat)) : Nat) : Int)] s rfl rfl (by kernel_rfl) (by kernel_rfl) (Try.sizeOf3 _) rfl (by simp [Value.oneCell']) (Nat.le_of_ble_eq_true rfl)) ?_
  clear hS; rintro w s
  replace s : St W (.blk g3 [.bool ((none : Option (Nat × Nat)).isSome)] 4 :: .blk g1 [.int .i64 ((fst (none : Option (Nat × Nat)) : Nat) : Int)] 3 :: .blk g2 [.int .i64 ((snd (none : Option (Nat × Nat)) : Nat) : Int)] 3 :: L) w := s
  have hS : (fun w => BlkIs g1 [.int .i64 ((fst (none : Option (Nat × Nat)) : Nat) : Int)] w ∧ BlkIs g2 [.int .i64 ((snd (none : Option (Nat × Nat)) : Nat) : Int)] w ∧ BlkIs g3 [.bool ((none : Option (Nat × Nat)).isSome)] w ∧ True) w := ⟨s.blkIs 1 rfl, s.blkIs 2 rfl, s.blkIs 0 rfl, trivial⟩
  refine ⟨hS, ?_⟩; clear ha; intro a ha
  refine hd_exd (i := 5) ha rfl (by kernel_rfl) (by kernel_rfl) (ex_store (of_ := 0) 2 [.int .i64 ((snd (none : Option (Nat × Nat)) : Nat) : Int)] s rfl rfl (by kernel_rfl) (by kernel_rfl) (Try.sizeOf3 _) rfl (by simp [Value.oneCell']) (Nat.le_of_ble_eq_true rfl)) ?_
  clear hS; rintro w s
  replace s : St W (.blk g3 [.bool ((none : Option (Nat × Nat)).isSome)] 4 :: .blk g1 [.int .i64 ((fst (none : Option (Nat × Nat)) : Nat) : Int)] 3 :: .blk g2 [.int .i64 ((snd (none : Option (Nat × Nat)) : Nat) : Int)] 3 :: L) w := s
  have hS : (fun w => BlkIs g1 [.int .i64 ((fst (none : Option (Nat × Nat)) : Nat) : Int)] w ∧ BlkIs g2 [.int .i64 ((snd (none : Option (Nat × Nat)) : Nat) : Int)] w ∧ BlkIs g3 [.bool ((none : Option (Nat × Nat)).isSome)] w ∧ True) w := ⟨s.blkIs 1 rfl, s.blkIs 2 rfl, s.blkIs 0 rfl, trivial⟩
  refine ⟨hS, ?_⟩; clear ha; intro a ha
  refine hd_exd (i := 6) ha rfl (by kernel_rfl) (by kernel_rfl) (ex_store (of_ := 0) 0 [.bool ((none : Option (Nat × Nat)).isSome)] s rfl rfl (by kernel_rfl) (by kernel_rfl) (Try.sizeOf4 _) rfl (by simp [Value.oneCell']) (Nat.le_of_ble_eq_true rfl)) ?_
  clear hS; rintro w s
  replace s : St W (.blk g3 [.bool ((none : Option (Nat × Nat)).isSome)] 4 :: .blk g1 [.int .i64 ((fst (none : Option (Nat × Nat)) : Nat) : Int)] 3 :: .blk g2 [.int .i64 ((snd (none : Option (Nat × Nat)) : Nat) : Int)] 3 :: L) w := s
  have hS : (fun w => BlkIs g1 [.int .i64 ((fst (none : Option (Nat × Nat)) : Nat) : Int)] w ∧ BlkIs g2 [.int .i64 ((snd (none : Option (Nat × Nat)) : Nat) : Int)] w ∧ BlkIs g3 [.bool ((none : Option (Nat × Nat)).isSome)] w ∧ True) w := ⟨s.blkIs 1 rfl, s.blkIs 2 rfl, s.blkIs 0 rfl, trivial⟩
  refine ⟨hS, ?_⟩; clear ha; intro a ha
  refine Head.done (by kernel_rfl) ?_
  clear hS; simp only [List.drop_succ_cons, List.drop_zero]
  refine st_val (.int .i64 (code (tns ds))) ha (by kernel_rfl) (by kernel_rfl) ?_
  clear ha; intro a ha
  refine wpList_nil ?_
  refine then_normal ?_
  refine wp_ret ?_
  refine ret_with (v := .tuple #[.int .i64 ((fst (none : Option (Nat × Nat)) : Nat) : Int), .int .i64 ((snd (none : Option (Nat × Nat)) : Nat) : Int), .bool ((none : Option (Nat × Nat)).isSome), .int .i64 (code (tns ds))]) ha (results_4 rfl ha (res_cell1 (s.blkIs 1 rfl) (by kernel_rfl) (by kernel_rfl) Try.isAgg3 rfl) (res_cell1 (s.blkIs 2 rfl) (by kernel_rfl) (by kernel_rfl) Try.isAgg3 rfl) (res_cell1 (s.blkIs 0 rfl) (by kernel_rfl) (by kernel_rfl) Try.isAgg4 rfl) (res_tmp (by kernel_rfl) (by kernel_rfl))) ?_
  replace s := s.tail.tail.tail
  replace s : St W (L) w := s
  exact ⟨rfl, s⟩

end Go.Proofs.Ytfcbjcohepkkfaa.B
