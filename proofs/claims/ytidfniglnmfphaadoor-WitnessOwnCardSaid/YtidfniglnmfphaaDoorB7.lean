import Derived.Test.YtidfniglnmfphaaDoorB6
namespace Go.Proofs.YtidfniglnmfphaaDoor.B
open Go.RowKit Go.Maps Go.Sort Go.Shelf Go.Proofs.YtidfniglnmfphaaDoor.Sep Go.Proofs.YtidfniglnmfphaaDoor.P
set_option linter.unusedVariables false
set_option linter.unusedSimpArgs false
theorem rws_snoc {R : List Rw} {k : Nat} {x : Rw} (h : R[k]? = some x) : rws (R.take (k + 1)) = rws (R.take k) ++ rv x := by
  rw [take_snoc h, rws_append]; simp [rws]
theorem results_4 {P : Program} {a : Act} {N : Nat} {E : Env} {fn : Func} {w : World} {r1 r2 r3 r4 : ResultVar} {v1 v2 v3 v4 : Value} (h : fn.results = #[r1, r2, r3, r4]) (ha : Has a N E) (h1 : resIs P E w r1 v1) (h2 : resIs P E w r2 v2) (h3 : resIs P E w r3 v3) (h4 : resIs P E w r4 v4) :
    (results fn a.tmps).run P w = .ok (.tuple #[v1, v2, v3, v4]) w := by
  rw [results_eq]
  simp [h, resIs_run ha h1, resIs_run ha h2, resIs_run ha h3, resIs_run ha h4]
/-- What Check answers, by what is found. -/
def found (ds : List Tn) (o : List Nat) : Option (Nat × Nat) := first [] (things ds o)
def rowsOf (ds : List Tn) (o : List Nat) : List Rw := left [] (things ds o)

theorem check_ok (W : World) (hW : W.drawn = 0) (L : List Chunk) (w : World) (A : Option Addr) (ca : Nat) (ds : List Dn) (hr : Knows L (DonesIn A ds)) (hn : Bn ds) (h0 : code (tns ds) = 0) (s : St W L w) :
    Calls Tryd.prog 17 #[.slice A ds.length ca] w fun e w' => ∃ o, e = .returned (.tuple #[.int .i64 ((fst (found (tns ds) o) : Nat) : Int), .int .i64 ((snd (found (tns ds) o) : Nat) : Int), .bool (found (tns ds) o).isSome, .int .i64 0]) ∧ IsOrd (tns ds) o ∧ St W L w' := by
  refine enter_args (l := [.slice A ds.length ca]) Tryd.func17 rfl rfl (Nat.le_of_ble_eq_true rfl) ?_
  intro a ha; replace ha : Has a 16 [(0, .slice A ds.length ca)] := ha
  refine wp_seq ?_
  refine wp_region_lit ?_
  refine st_ex ha (by kernel_rfl) (ex_alloc [.int .i64 0] s rfl (Tryd.zeroValue3 _) (by kernel_rfl)) ?_
  clear ha; rintro _ w a ⟨g1, rfl, s⟩ ha
  replace s : St W (.blk g1 [.int .i64 0] 3 :: L) w := s
  refine st_ex ha (by kernel_rfl) (ex_alloc [.int .i64 0] s rfl (Tryd.zeroValue3 _) (by kernel_rfl)) ?_
  clear ha; rintro _ w a ⟨g2, rfl, s⟩ ha
  replace s : St W (.blk g2 [.int .i64 0] 3 :: .blk g1 [.int .i64 0] 3 :: L) w := s
  refine st_ex ha (by kernel_rfl) (ex_alloc [.bool false] s rfl (Tryd.zeroValue4 _) (by kernel_rfl)) ?_
  clear ha; rintro _ w a ⟨g3, rfl, s⟩ ha
  replace s : St W (.blk g3 [.bool false] 4 :: .blk g2 [.int .i64 0] 3 :: .blk g1 [.int .i64 0] 3 :: L) w := s
  refine st_val (.int .i64 0) ha (by kernel_rfl) (by kernel_rfl) ?_
  clear ha; intro a ha
  refine wpList_nil ?_
  refine then_normal ?_
  refine wp_seq ?_
  refine wp_region_lit ?_
  refine st_val (.slice A ds.length ca) ha (by kernel_rfl) (by kernel_rfl) ?_
  clear ha; intro a ha
  refine st_val (.func (.func 28) #[] #[.pointer (some ⟨g3, 0, none⟩), .pointer (some ⟨g1, 0, none⟩), .pointer (some ⟨g2, 0, none⟩)]) ha (by kernel_rfl) (by kernel_rfl) ?_
  clear ha; intro a ha
  replace s := s.at_ (j := 1) rfl
  replace s : St W (.blk g2 [.int .i64 0] 3 :: .blk g3 [.bool false] 4 :: .blk g1 [.int .i64 0] 3 :: L) w := s
  replace s := s.at_ (j := 2) rfl
  replace s : St W (.blk g1 [.int .i64 0] 3 :: .blk g2 [.int .i64 0] 3 :: .blk g3 [.bool false] 4 :: L) w := s
  replace s := s.at_ (j := 2) rfl
  replace s : St W (.blk g3 [.bool false] 4 :: .blk g1 [.int .i64 0] 3 :: .blk g2 [.int .i64 0] 3 :: L) w := s
  replace s : St W (.blk g3 [.bool ((none : Option (Nat × Nat)).isSome)] 4 :: .blk g1 [.int .i64 ((fst (none : Option (Nat × Nat)) : Nat) : Int)] 3 :: .blk g2 [.int .i64 ((snd (none : Option (Nat × Nat)) : Nat) : Int)] 3 :: L) w := s
  refine st_call ha (by kernel_rfl) (by kernel_rfl) (play_chk_ok W hW _ w A ca ds (fun w s => hr w s) hn g3 g1 g2 h0 s) ?_
  rintro _ w ⟨gm, D, o, rfl, ho, hD, s⟩
  replace s : St W (MapT Tryd.prog 9 encS gm D :: .blk g3 [.bool ((first [] (things (tns ds) o)).isSome)] 4 :: .blk g1 [.int .i64 ((fst (first [] (things (tns ds) o)) : Nat) : Int)] 3 :: .blk g2 [.int .i64 ((snd (first [] (things (tns ds) o)) : Nat) : Int)] 3 :: L) w := s
  refine ⟨_, rfl, ?_⟩; clear ha; intro a ha
  refine st_val (.tuple #[.map (some gm), .int .i64 0]) ha (by kernel_rfl) (by kernel_rfl) ?_
  clear ha; intro a ha
  refine st_val (.map (some gm)) ha (by kernel_rfl) (by kernel_rfl) ?_
  clear ha; intro a ha
  refine st_val (.int .i64 0) ha (by kernel_rfl) (by kernel_rfl) ?_
  clear ha; intro a ha
  refine st_val (.int .i64 0) ha (by kernel_rfl) (by kernel_rfl) ?_
  clear ha; intro a ha
  refine wpList_nil ?_
  refine then_normal ?_
  refine wp_seq ?_
  refine wp_region_head 7 (fun w => BlkIs g1 [.int .i64 ((fst (first [] (things (tns ds) o)) : Nat) : Int)] w ∧ BlkIs g2 [.int .i64 ((snd (first [] (things (tns ds) o)) : Nat) : Int)] w ∧ BlkIs g3 [.bool ((first [] (things (tns ds) o)).isSome)] w ∧ True) (by kernel_rfl) (by decide) ?_
  replace s := s.drew; generalize _root_.Go.World.drew _ = w at s ⊢
  have hS : (fun w => BlkIs g1 [.int .i64 ((fst (first [] (things (tns ds) o)) : Nat) : Int)] w ∧ BlkIs g2 [.int .i64 ((snd (first [] (things (tns ds) o)) : Nat) : Int)] w ∧ BlkIs g3 [.bool ((first [] (things (tns ds) o)).isSome)] w ∧ True) w := ⟨s.blkIs 2 rfl, s.blkIs 3 rfl, s.blkIs 1 rfl, trivial⟩
  refine hd_val (i := 0) (.int .i64 ((fst (first [] (things (tns ds) o)) : Nat) : Int)) ha rfl (by kernel_rfl) (fun _ _ _ h => h) (by kernel_rfl) (fun w hS => run_load1 (of_ := 0) hS.1 rfl (by kernel_rfl) Tryd.isAgg3 rfl) hS ?_
  clear ha; intro a ha
  refine hd_val (i := 1) (.int .i64 ((snd (first [] (things (tns ds) o)) : Nat) : Int)) ha rfl (by kernel_rfl) (fun _ _ _ h => h) (by kernel_rfl) (fun w hS => run_load1 (of_ := 0) hS.2.1 rfl (by kernel_rfl) Tryd.isAgg3 rfl) hS ?_
  clear ha; intro a ha
  refine hd_val (i := 2) (.bool ((first [] (things (tns ds) o)).isSome)) ha rfl (by kernel_rfl) (fun _ _ _ h => h) (by kernel_rfl) (fun w hS => run_load1 (of_ := 0) hS.2.2.1 rfl (by kernel_rfl) Tryd.isAgg4 rfl) hS ?_
  clear ha; intro a ha
  refine hd_val (i := 3) (.int .i64 0) ha rfl (by kernel_rfl) (fun _ _ _ h => h) (by kernel_rfl) (fun w hS => (by kernel_rfl)) hS ?_
  clear ha; intro a ha
  refine hd_exd (i := 4) ha rfl (by kernel_rfl) (by kernel_rfl) (ex_store (of_ := 0) 2 [.int .i64 ((fst (first [] (things (tns ds) o)) : Nat) : Int)] s rfl rfl (by kernel_rfl) (by kernel_rfl) (Tryd.sizeOf3 _) rfl (by simp [Value.oneCell']) (Nat.le_of_ble_eq_true rfl)) ?_
  clear hS; rintro w s
  replace s : St W (MapT Tryd.prog 9 encS gm D :: .blk g3 [.bool ((first [] (things (tns ds) o)).isSome)] 4 :: .blk g1 [.int .i64 ((fst (first [] (things (tns ds) o)) : Nat) : Int)] 3 :: .blk g2 [.int .i64 ((snd (first [] (things (tns ds) o)) : Nat) : Int)] 3 :: L) w := s
  have hS : (fun w => BlkIs g1 [.int .i64 ((fst (first [] (things (tns ds) o)) : Nat) : Int)] w ∧ BlkIs g2 [.int .i64 ((snd (first [] (things (tns ds) o)) : Nat) : Int)] w ∧ BlkIs g3 [.bool ((first [] (things (tns ds) o)).isSome)] w ∧ True) w := ⟨s.blkIs 2 rfl, s.blkIs 3 rfl, s.blkIs 1 rfl, trivial⟩
  refine ⟨hS, ?_⟩; clear ha; intro a ha
  refine hd_exd (i := 5) ha rfl (by kernel_rfl) (by kernel_rfl) (ex_store (of_ := 0) 3 [.int .i64 ((snd (first [] (things (tns ds) o)) : Nat) : Int)] s rfl rfl (by kernel_rfl) (by kernel_rfl) (Tryd.sizeOf3 _) rfl (by simp [Value.oneCell']) (Nat.le_of_ble_eq_true rfl)) ?_
  clear hS; rintro w s
  replace s : St W (MapT Tryd.prog 9 encS gm D :: .blk g3 [.bool ((first [] (things (tns ds) o)).isSome)] 4 :: .blk g1 [.int .i64 ((fst (first [] (things (tns ds) o)) : Nat) : Int)] 3 :: .blk g2 [.int .i64 ((snd (first [] (things (tns ds) o)) : Nat) : Int)] 3 :: L) w := s
  have hS : (fun w => BlkIs g1 [.int .i64 ((fst (first [] (things (tns ds) o)) : Nat) : Int)] w ∧ BlkIs g2 [.int .i64 ((snd (first [] (things (tns ds) o)) : Nat) : Int)] w ∧ BlkIs g3 [.bool ((first [] (things (tns ds) o)).isSome)] w ∧ True) w := ⟨s.blkIs 2 rfl, s.blkIs 3 rfl, s.blkIs 1 rfl, trivial⟩
  refine ⟨hS, ?_⟩; clear ha; intro a ha
  refine hd_exd (i := 6) ha rfl (by kernel_rfl) (by kernel_rfl) (ex_store (of_ := 0) 1 [.bool ((first [] (things (tns ds) o)).isSome)] s rfl rfl (by kernel_rfl) (by kernel_rfl) (Tryd.sizeOf4 _) rfl (by simp [Value.oneCell']) (Nat.le_of_ble_eq_true rfl)) ?_
  clear hS; rintro w s
  replace s : St W (MapT Tryd.prog 9 encS gm D :: .blk g3 [.bool ((first [] (things (tns ds) o)).isSome)] 4 :: .blk g1 [.int .i64 ((fst (first [] (things (tns ds) o)) : Nat) : Int)] 3 :: .blk g2 [.int .i64 ((snd (first [] (things (tns ds) o)) : Nat) : Int)] 3 :: L) w := s
  have hS : (fun w => BlkIs g1 [.int .i64 ((fst (first [] (things (tns ds) o)) : Nat) : Int)] w ∧ BlkIs g2 [.int .i64 ((snd (first [] (things (tns ds) o)) : Nat) : Int)] w ∧ BlkIs g3 [.bool ((first [] (things (tns ds) o)).isSome)] w ∧ True) w := ⟨s.blkIs 2 rfl, s.blkIs 3 rfl, s.blkIs 1 rfl, trivial⟩
  refine ⟨hS, ?_⟩; clear ha; intro a ha
  refine Head.done (by kernel_rfl) ?_
  clear hS; simp only [List.drop_succ_cons, List.drop_zero]
  refine st_val (.int .i64 0) ha (by kernel_rfl) (by kernel_rfl) ?_
  clear ha; intro a ha
  refine wpList_nil ?_
  refine then_normal ?_
  refine wp_ret ?_
  refine ret_with (v := .tuple #[.int .i64 ((fst (first [] (things (tns ds) o)) : Nat) : Int), .int .i64 ((snd (first [] (things (tns ds) o)) : Nat) : Int), .bool ((first [] (things (tns ds) o)).isSome), .int .i64 0]) ha (results_4 rfl ha (res_cell1 (s.blkIs 2 rfl) (by kernel_rfl) (by kernel_rfl) Tryd.isAgg3 rfl) (res_cell1 (s.blkIs 3 rfl) (by kernel_rfl) (by kernel_rfl) Tryd.isAgg3 rfl) (res_cell1 (s.blkIs 1 rfl) (by kernel_rfl) (by kernel_rfl) Tryd.isAgg4 rfl) (res_tmp (by kernel_rfl) (by kernel_rfl))) ?_
  replace s := s.tail.tail.tail.tail
  replace s : St W (L) w := s
  exact ⟨o, rfl, ho, s⟩

theorem check_no (W : World) (hW : W.drawn = 0) (L : List Chunk) (w : World) (A : Option Addr) (ca : Nat) (ds : List Dn) (hr : Knows L (DonesIn A ds)) (hn : Bn ds) (h0 : code (tns ds) ≠ 0) (s : St W L w) :
    Calls Tryd.prog 17 #[.slice A ds.length ca] w fun e w' => e = .returned (.tuple #[.int .i64 0, .int .i64 0, .bool false, .int .i64 (code (tns ds))]) ∧ St W L w' := by
  refine enter_args (l := [.slice A ds.length ca]) Tryd.func17 rfl rfl (Nat.le_of_ble_eq_true rfl) ?_
  intro a ha; replace ha : Has a 16 [(0, .slice A ds.length ca)] := ha
  refine wp_seq ?_
  refine wp_region_lit ?_
  refine st_ex ha (by kernel_rfl) (ex_alloc [.int .i64 0] s rfl (Tryd.zeroValue3 _) (by kernel_rfl)) ?_
  clear ha; rintro _ w a ⟨g1, rfl, s⟩ ha
  replace s : St W (.blk g1 [.int .i64 0] 3 :: L) w := s
  refine st_ex ha (by kernel_rfl) (ex_alloc [.int .i64 0] s rfl (Tryd.zeroValue3 _) (by kernel_rfl)) ?_
  clear ha; rintro _ w a ⟨g2, rfl, s⟩ ha
  replace s : St W (.blk g2 [.int .i64 0] 3 :: .blk g1 [.int .i64 0] 3 :: L) w := s
  refine st_ex ha (by kernel_rfl) (ex_alloc [.bool false] s rfl (Tryd.zeroValue4 _) (by kernel_rfl)) ?_
  clear ha; rintro _ w a ⟨g3, rfl, s⟩ ha
  replace s : St W (.blk g3 [.bool false] 4 :: .blk g2 [.int .i64 0] 3 :: .blk g1 [.int .i64 0] 3 :: L) w := s
  refine st_val (.int .i64 0) ha (by kernel_rfl) (by kernel_rfl) ?_
  clear ha; intro a ha
  refine wpList_nil ?_
  refine then_normal ?_
  refine wp_seq ?_
  refine wp_region_lit ?_
  refine st_val (.slice A ds.length ca) ha (by kernel_rfl) (by kernel_rfl) ?_
  clear ha; intro a ha
  refine st_val (.func (.func 28) #[] #[.pointer (some ⟨g3, 0, none⟩), .pointer (some ⟨g1, 0, none⟩), .pointer (some ⟨g2, 0, none⟩)]) ha (by kernel_rfl) (by kernel_rfl) ?_
  clear ha; intro a ha
  replace s := s.at_ (j := 1) rfl
  replace s : St W (.blk g2 [.int .i64 0] 3 :: .blk g3 [.bool false] 4 :: .blk g1 [.int .i64 0] 3 :: L) w := s
  replace s := s.at_ (j := 2) rfl
  replace s : St W (.blk g1 [.int .i64 0] 3 :: .blk g2 [.int .i64 0] 3 :: .blk g3 [.bool false] 4 :: L) w := s
  replace s := s.at_ (j := 2) rfl
  replace s : St W (.blk g3 [.bool false] 4 :: .blk g1 [.int .i64 0] 3 :: .blk g2 [.int .i64 0] 3 :: L) w := s
  replace s : St W (.blk g3 [.bool ((none : Option (Nat × Nat)).isSome)] 4 :: .blk g1 [.int .i64 ((fst (none : Option (Nat × Nat)) : Nat) : Int)] 3 :: .blk g2 [.int .i64 ((snd (none : Option (Nat × Nat)) : Nat) : Int)] 3 :: L) w := s
  refine st_call ha (by kernel_rfl) (by kernel_rfl) (play_chk_no W hW _ w A ca ds (fun w s => hr w s) hn g3 g1 g2 h0 s) ?_
  rintro _ w ⟨rfl, s⟩
  replace s : St W (.blk g3 [.bool ((none : Option (Nat × Nat)).isSome)] 4 :: .blk g1 [.int .i64 ((fst (none : Option (Nat × Nat)) : Nat) : Int)] 3 :: .blk g2 [.int .i64 ((snd (none : Option (Nat × Nat)) : Nat) : Int)] 3 :: L) w := s
  refine ⟨_, rfl, ?_⟩; clear ha; intro a ha
  refine st_val (.tuple #[.map none, .int .i64 (code (tns ds))]) ha (by kernel_rfl) (by kernel_rfl) ?_
  clear ha; intro a ha
  refine st_val (.map none) ha (by kernel_rfl) (by kernel_rfl) ?_
  clear ha; intro a ha
  refine st_val (.int .i64 (code (tns ds))) ha (by kernel_rfl) (by kernel_rfl) ?_
  clear ha; intro a ha
  refine st_val (.int .i64 (code (tns ds))) ha (by kernel_rfl) (by kernel_rfl) ?_
  clear ha; intro a ha
  refine wpList_nil ?_
  refine then_normal ?_
  refine wp_seq ?_
  refine wp_region_head 7 (fun w => BlkIs g1 [.int .i64 ((fst (none : Option (Nat × Nat)) : Nat) : Int)] w ∧ BlkIs g2 [.int .i64 ((snd (none : Option (Nat × Nat)) : Nat) : Int)] w ∧ BlkIs g3 [.bool ((none : Option (Nat × Nat)).isSome)] w ∧ True) (by kernel_rfl) (by decide) ?_
  replace s := s.drew; generalize _root_.Go.World.drew _ = w at s ⊢
  have hS : (fun w => BlkIs g1 [.int .i64 ((fst (none : Option (Nat × Nat)) : Nat) : Int)] w ∧ BlkIs g2 [.int .i64 ((snd (none : Option (Nat × Nat)) : Nat) : Int)] w ∧ BlkIs g3 [.bool ((none : Option (Nat × Nat)).isSome)] w ∧ True) w := ⟨s.blkIs 1 rfl, s.blkIs 2 rfl, s.blkIs 0 rfl, trivial⟩
  refine hd_val (i := 0) (.int .i64 ((fst (none : Option (Nat × Nat)) : Nat) : Int)) ha rfl (by kernel_rfl) (fun _ _ _ h => h) (by kernel_rfl) (fun w hS => run_load1 (of_ := 0) hS.1 rfl (by kernel_rfl) Tryd.isAgg3 rfl) hS ?_
  clear ha; intro a ha
  refine hd_val (i := 1) (.int .i64 ((snd (none : Option (Nat × Nat)) : Nat) : Int)) ha rfl (by kernel_rfl) (fun _ _ _ h => h) (by kernel_rfl) (fun w hS => run_load1 (of_ := 0) hS.2.1 rfl (by kernel_rfl) Tryd.isAgg3 rfl) hS ?_
  clear ha; intro a ha
  refine hd_val (i := 2) (.bool ((none : Option (Nat × Nat)).isSome)) ha rfl (by kernel_rfl) (fun _ _ _ h => h) (by kernel_rfl) (fun w hS => run_load1 (of_ := 0) hS.2.2.1 rfl (by kernel_rfl) Tryd.isAgg4 rfl) hS ?_
  clear ha; intro a ha
  refine hd_val (i := 3) (.int .i64 (code (tns ds))) ha rfl (by kernel_rfl) (fun _ _ _ h => h) (by kernel_rfl) (fun w hS => (by kernel_rfl)) hS ?_
  clear ha; intro a ha
  refine hd_exd (i := 4) ha rfl (by kernel_rfl) (by kernel_rfl) (ex_store (of_ := 0) 1 [.int .i64 ((fst (none : Option (Nat × Nat)) : Nat) : Int)] s rfl rfl (by kernel_rfl) (by kernel_rfl) (Tryd.sizeOf3 _) rfl (by simp [Value.oneCell']) (Nat.le_of_ble_eq_true rfl)) ?_
  clear hS; rintro w s
  replace s : St W (.blk g3 [.bool ((none : Option (Nat × Nat)).isSome)] 4 :: .blk g1 [.int .i64 ((fst (none : Option (Nat × Nat)) : Nat) : Int)] 3 :: .blk g2 [.int .i64 ((snd (none : Option (Nat × Nat)) : Nat) : Int)] 3 :: L) w := s
  have hS : (fun w => BlkIs g1 [.int .i64 ((fst (none : Option (Nat × Nat)) : Nat) : Int)] w ∧ BlkIs g2 [.int .i64 ((snd (none : Option (Nat × Nat)) : Nat) : Int)] w ∧ BlkIs g3 [.bool ((none : Option (Nat × Nat)).isSome)] w ∧ True) w := ⟨s.blkIs 1 rfl, s.blkIs 2 rfl, s.blkIs 0 rfl, trivial⟩
  refine ⟨hS, ?_⟩; clear ha; intro a ha
  refine hd_exd (i := 5) ha rfl (by kernel_rfl) (by kernel_rfl) (ex_store (of_ := 0) 2 [.int .i64 ((snd (none : Option (Nat × Nat)) : Nat) : Int)] s rfl rfl (by kernel_rfl) (by kernel_rfl) (Tryd.sizeOf3 _) rfl (by simp [Value.oneCell']) (Nat.le_of_ble_eq_true rfl)) ?_
  clear hS; rintro w s
  replace s : St W (.blk g3 [.bool ((none : Option (Nat × Nat)).isSome)] 4 :: .blk g1 [.int .i64 ((fst (none : Option (Nat × Nat)) : Nat) : Int)] 3 :: .blk g2 [.int .i64 ((snd (none : Option (Nat × Nat)) : Nat) : Int)] 3 :: L) w := s
  have hS : (fun w => BlkIs g1 [.int .i64 ((fst (none : Option (Nat × Nat)) : Nat) : Int)] w ∧ BlkIs g2 [.int .i64 ((snd (none : Option (Nat × Nat)) : Nat) : Int)] w ∧ BlkIs g3 [.bool ((none : Option (Nat × Nat)).isSome)] w ∧ True) w := ⟨s.blkIs 1 rfl, s.blkIs 2 rfl, s.blkIs 0 rfl, trivial⟩
  refine ⟨hS, ?_⟩; clear ha; intro a ha
  refine hd_exd (i := 6) ha rfl (by kernel_rfl) (by kernel_rfl) (ex_store (of_ := 0) 0 [.bool ((none : Option (Nat × Nat)).isSome)] s rfl rfl (by kernel_rfl) (by kernel_rfl) (Tryd.sizeOf4 _) rfl (by simp [Value.oneCell']) (Nat.le_of_ble_eq_true rfl)) ?_
  clear hS; rintro w s
  replace s : St W (.blk g3 [.bool ((none : Option (Nat × Nat)).isSome)] 4 :: .blk g1 [.int .i64 ((fst (none : Option (Nat × Nat)) : Nat) : Int)] 3 :: .blk g2 [.int .i64 ((snd (none : Option (Nat × Nat)) : Nat) : Int)] 3 :: L) w := s
  have hS : (fun w => BlkIs g1 [.int .i64 ((fst (none : Option (Nat × Nat)) : Nat) : Int)] w ∧ BlkIs g2 [.int .i64 ((snd (none : Option (Nat × Nat)) : Nat) : Int)] w ∧ BlkIs g3 [.bool ((none : Option (Nat × Nat)).isSome)] w ∧ True) w := ⟨s.blkIs 1 rfl, s.blkIs 2 rfl, s.blkIs 0 rfl, trivial⟩
  refine ⟨hS, ?_⟩; clear ha; intro a ha
  refine Head.done (by kernel_rfl) ?_
  clear hS; simp only [List.drop_succ_cons, List.drop_zero]
  refine st_val (.int .i64 (code (tns ds))) ha (by kernel_rfl) (by kernel_rfl) ?_
  clear ha; intro a ha
  refine wpList_nil ?_
  refine then_normal ?_
  refine wp_ret ?_
  refine ret_with (v := .tuple #[.int .i64 ((fst (none : Option (Nat × Nat)) : Nat) : Int), .int .i64 ((snd (none : Option (Nat × Nat)) : Nat) : Int), .bool ((none : Option (Nat × Nat)).isSome), .int .i64 (code (tns ds))]) ha (results_4 rfl ha (res_cell1 (s.blkIs 1 rfl) (by kernel_rfl) (by kernel_rfl) Tryd.isAgg3 rfl) (res_cell1 (s.blkIs 2 rfl) (by kernel_rfl) (by kernel_rfl) Tryd.isAgg3 rfl) (res_cell1 (s.blkIs 0 rfl) (by kernel_rfl) (by kernel_rfl) Tryd.isAgg4 rfl) (res_tmp (by kernel_rfl) (by kernel_rfl))) ?_
  replace s := s.tail.tail.tail
  replace s : St W (L) w := s
  exact ⟨rfl, s⟩

theorem rows_ok (W : World) (hW : W.drawn = 0) (L : List Chunk) (w : World) (A : Option Addr) (ca : Nat) (ds : List Dn) (hr : Knows L (DonesIn A ds)) (hn : Bn ds) (h0 : code (tns ds) = 0) (s : St W L w) :
    Calls Tryd.prog 13 #[.slice A ds.length ca] w fun e w' => ∃ B c o, e = .returned (.tuple #[.slice B (rowsOf (tns ds) o).length c, .int .i64 0]) ∧ IsOrd (tns ds) o ∧ St W (Own 53 2 B (rowsOf (tns ds) o).length c (rws (rowsOf (tns ds) o)) :: L) w' := by
  have hpost := order_post h0
  refine enter_args (l := [.slice A ds.length ca]) Tryd.func13 rfl rfl (Nat.le_of_ble_eq_true rfl) ?_
  intro a ha; replace ha : Has a 33 [(0, .slice A ds.length ca)] := ha
  refine wp_seq ?_
  refine wp_region_lit ?_
  refine st_val (.slice none 0 0) ha (by kernel_rfl) (by kernel_rfl) ?_
  clear ha; intro a ha
  refine st_val (.int .i64 0) ha (by kernel_rfl) (by kernel_rfl) ?_
  clear ha; intro a ha
  refine wpList_nil ?_
  refine then_normal ?_
  refine wp_seq ?_
  refine wp_region_lit ?_
  refine st_val (.slice A ds.length ca) ha (by kernel_rfl) (by kernel_rfl) ?_
  clear ha; intro a ha
  refine st_call ha (by kernel_rfl) (by kernel_rfl) (play_rows_ok W hW _ w A ca ds (fun w s => hr w s) hn h0 s) ?_
  rintro _ w ⟨gm, D, o, rfl, ho, hD, s⟩
  replace s : St W (MapT Tryd.prog 9 encS gm D :: L) w := s
  refine ⟨_, rfl, ?_⟩; clear ha; intro a ha
  refine st_val (.tuple #[.map (some gm), .int .i64 0]) ha (by kernel_rfl) (by kernel_rfl) ?_
  clear ha; intro a ha
  refine st_val (.map (some gm)) ha (by kernel_rfl) (by kernel_rfl) ?_
  clear ha; intro a ha
  refine st_val (.int .i64 0) ha (by kernel_rfl) (by kernel_rfl) ?_
  clear ha; intro a ha
  refine st_val (.map (some gm)) ha (by kernel_rfl) (by kernel_rfl) ?_
  clear ha; intro a ha
  refine st_val (.int .i64 0) ha (by kernel_rfl) (by kernel_rfl) ?_
  clear ha; intro a ha
  refine wpList_nil ?_
  refine then_normal ?_
  refine wp_seq ?_
  refine wp_seq ?_
  refine wp_region_lit ?_
  refine st_val (.int .i64 0) ha (by kernel_rfl) (by kernel_rfl) ?_
  clear ha; intro a ha
  refine st_val (.bool false) ha (by kernel_rfl) (by kernel_rfl) ?_
  clear ha; intro a ha
  refine wpList_nil ?_
  refine then_normal ?_
  refine wp_false ha rfl (by kernel_rfl) ?_
  refine wp_skip ?_
  refine then_normal ?_
  refine wp_seq ?_
  refine wp_region_lit ?_
  refine st_val (.slice none 0 0) ha (by kernel_rfl) (by kernel_rfl) ?_
  clear ha; intro a ha
  refine wpList_nil ?_
  refine then_normal ?_
  refine wp_seq ?_
  refine wp_seq ?_
  refine wp_region_lit ?_
  refine st_val (.map (some gm)) ha (by kernel_rfl) (by kernel_rfl) ?_
  clear ha; intro a ha
  refine st_call ha (by kernel_rfl) (by kernel_rfl) (keys_any W _ w gm s) ?_
  rintro _ w ⟨b1, rfl, s⟩
  replace s : St W (.blk b1 [.map (some gm)] 60 :: MapT Tryd.prog 9 encS gm D :: L) w := s
  refine ⟨_, rfl, ?_⟩; clear ha; intro a ha
  obtain ⟨R, hR⟩ : ∃ R, R = (left [] (things (tns ds) o)) := ⟨_, rfl⟩
  rw [← hR] at hD
  have hRn : R.length ≤ 1000000 := by rw [hR]; exact left_all_le ho hpost.2.2.2
  refine st_call ha (by kernel_rfl) (by kernel_rfl) (sorted_ok W hW _ w b1 gm D R hD (Knows.cells (j := 0) rfl) (Knows.mapIs (j := 1) rfl) hRn s) ?_
  rintro _ w ⟨A2, c3, rfl, s⟩
  replace s : St W (Own 9 1 A2 R.length c3 (strs (kys R)) :: .blk b1 [.map (some gm)] 60 :: MapT Tryd.prog 9 encS gm D :: L) w := s
  refine ⟨_, rfl, ?_⟩; clear ha; intro a ha
  refine st_val (.int .i64 ((R.length : Nat) : Int)) ha (by kernel_rfl) (by kernel_rfl) ?_
  clear ha; intro a ha
  refine st_val (.int .i64 0) ha (by kernel_rfl) (by kernel_rfl) ?_
  clear ha; intro a ha
  refine wpList_nil ?_
  refine then_normal ?_
  refine wp_block ?_
  replace s := Own.none_ (e := 53) (k := 2) none s
  replace s : St W (Own 53 2 none 0 0 [] :: Own 9 1 A2 R.length c3 (strs (kys R)) :: .blk b1 [.map (some gm)] 60 :: MapT Tryd.prog 9 encS gm D :: L) w := s
  replace s := s.at_ (j := 3) rfl
  replace s : St W (MapT Tryd.prog 9 encS gm D :: Own 53 2 none 0 0 [] :: Own 9 1 A2 R.length c3 (strs (kys R)) :: .blk b1 [.map (some gm)] 60 :: L) w := s
  replace s := s.at_ (j := 2) rfl
  replace s : St W (Own 9 1 A2 R.length c3 (strs (kys R)) :: MapT Tryd.prog 9 encS gm D :: Own 53 2 none 0 0 [] :: .blk b1 [.map (some gm)] 60 :: L) w := s
  replace s := s.at_ (j := 2) rfl
  replace s : St W (Own 53 2 none 0 0 [] :: Own 9 1 A2 R.length c3 (strs (kys R)) :: MapT Tryd.prog 9 encS gm D :: .blk b1 [.map (some gm)] 60 :: L) w := s
  replace s : St W (Own 53 2 none 0 0 [] :: Own 9 1 A2 R.length c3 (strs (kys R)) :: MapT Tryd.prog 9 encS gm D :: L) w := St.mid (A := [Own 53 2 none 0 0 [], Own 9 1 A2 R.length c3 (strs (kys R)), MapT Tryd.prog 9 encS gm D]) (B := [.blk b1 [.map (some gm)] 60]) s
  refine wp_loopG (G := (Nat × Option Addr × Nat)) (fun ⟨k, B, cb⟩ a w => Has a 33 [(4, .map (some gm)), (19, .slice A2 R.length c3), (20, .int .i64 ((R.length : Nat) : Int)), (6, .slice B k cb), (21, .int .i64 ((k : Nat) : Int))] ∧ St W (Own 53 2 B k cb (rws (R.take k)) :: Own 9 1 A2 R.length c3 (strs (kys R)) :: MapT Tryd.prog 9 encS gm D :: L) w ∧ k ≤ R.length) (fun ⟨k, B, cb⟩ => R.length - k) (0, none, 0) ?_ ?_
  · exact ⟨(Has.cons ha (by kernel_rfl) (by kernel_rfl) (Has.cons ha (by kernel_rfl) (by kernel_rfl) (Has.cons ha (by kernel_rfl) (by kernel_rfl) (Has.cons ha (by kernel_rfl) (by kernel_rfl) (Has.cons ha (by kernel_rfl) (by kernel_rfl) (Has.nil ha)))))), s, Nat.zero_le _⟩
  · clear ha s; rintro ⟨k, B, cb⟩ a w ⟨ha, s, hp⟩
    refine wp_seq ?_
    refine wp_region_lit ?_
    refine st_val (.bool (decide (((k : Nat) : Int) < ((R.length : Nat) : Int)))) ha (by kernel_rfl) (by kernel_rfl) ?_
    clear ha; intro a ha
    refine wpList_nil ?_
    refine then_normal ?_
    refine wp_seq ?_
    refine wp_part (decide (((k : Nat) : Int) < ((R.length : Nat) : Int))) ha rfl (by kernel_rfl) (fun hb => ?_) (fun hb => ?_)
    · rw [hb] at ha; replace hb : (((k : Nat) : Int) < ((R.length : Nat) : Int)) := of_decide_eq_true hb
      obtain ⟨x, hx⟩ : ∃ x, R[k]? = some x := ⟨_, List.getElem?_eq_getElem (by omega)⟩
      obtain ⟨ad4, hA⟩ := Own.addr (s.at_ (j := 1) rfl) (by omega)
      subst hA
      refine wp_skip ?_
      refine then_normal ?_
      refine wp_seq ?_
      refine wp_block ?_
      refine wp_seq ?_
      refine wp_region_lit ?_
      refine st_val (.pointer (some (ad4.add (k * 1)))) ha (by kernel_rfl) (run_indexAddr' (kd := .i64) (i := ((k : Nat) : Int)) (n := R.length) (c := c3) k rfl Tryd.underlying64 Tryd.sizeOf9 (by kernel_rfl) (by kernel_rfl) rfl (by first | assumption | omega) _) ?_
      clear ha; intro a ha
      refine st_val (.string (str x.key)) ha (by kernel_rfl) (run_loadRow1 (m := k) ((Own.reads (s.at_ (j := 1) rfl).1)) rfl (by kernel_rfl) Tryd.isAgg9 (strs_at (keys_at hx))) ?_
      clear ha; intro a ha
      refine st_val (.string (str x.key)) ha (by kernel_rfl) (by kernel_rfl) ?_
      clear ha; intro a ha
      refine wpList_nil ?_
      refine then_normal ?_
      refine wp_region_lit ?_
      refine st_val (.slice B k cb) ha (by kernel_rfl) (by kernel_rfl) ?_
      clear ha; intro a ha
      refine st_val (.map (some gm)) ha (by kernel_rfl) (by kernel_rfl) ?_
      clear ha; intro a ha
      refine st_val (.string (str x.key)) ha (by kernel_rfl) (by kernel_rfl) ?_
      clear ha; intro a ha
      refine st_val (.agg #[.string (str x.key), .string (str x.val)]) ha (by kernel_rfl) (run_lookup (a := x.key) (.agg #[.string (str x.key), .string (str x.val)]) (s.mapIs 2 rfl) rfl (by kernel_rfl) (by kernel_rfl) encS_inj keyed9 Tryd.underlying60 Tryd.zeroValue53 (key9 (hD.2.2 _ (List.mem_of_getElem? hx))) (by rw [hD.get_mem (List.mem_of_getElem? hx)]; rfl)) ?_
      clear ha; intro a ha
      refine st_ex ha (by kernel_rfl) (ex_buildSlice elt37 _ zs37 [.string (str x.key), .string (str x.val)] s rfl (by kernel_rfl) (by decide)) ?_
      clear ha; rintro _ w a ⟨g5, rfl, s⟩ ha
      replace s : St W (.blk g5 [.string (str x.key), .string (str x.val)] 53 :: Own 53 2 B k cb (rws (R.take k)) :: Own 9 1 (some ad4) R.length c3 (strs (kys R)) :: MapT Tryd.prog 9 encS gm D :: L) w := s
      refine st_ex ha (by kernel_rfl) (ex_append (m := 1) (d' := 1) elt37 (by decide) 1 [.string (str x.key), .string (str x.val)] s rfl (by kernel_rfl) (by kernel_rfl) rfl (reads_blk (s.blkIs 0 rfl) rfl) (by simp [Value.oneCell']) (by simp only [maxLen]; omega) (by omega)) ?_
      clear ha; rintro _ w a ⟨A6, c7, rfl, hA_, s⟩ ha
      replace s : St W (.blk g5 [.string (str x.key), .string (str x.val)] 53 :: Own 53 2 A6 (k + 1) c7 ((rws (R.take k)) ++ [.string (str x.key), .string (str x.val)]) :: Own 9 1 (some ad4) R.length c3 (strs (kys R)) :: MapT Tryd.prog 9 encS gm D :: L) w := s
      refine st_val (.slice A6 (k + 1) c7) ha (by kernel_rfl) (by kernel_rfl) ?_
      clear ha; intro a ha
      refine wpList_nil ?_
      refine block_normal ?_
      refine then_normal ?_
      refine wp_region_lit ?_
      refine st_val (.int .i64 ((k + 1 : Nat) : Int)) ha (by kernel_rfl) (run_arith (((k : Nat) : Int) + (1 : Int)) ((k + 1 : Nat) : Int) rfl (by kernel_rfl) (by kernel_rfl) (.inl ⟨rfl, rfl⟩) (by rw [wrap64_in (by omega)]; try omega) _) ?_
      clear ha; intro a ha
      refine st_val (.int .i64 ((k + 1 : Nat) : Int)) ha (by kernel_rfl) (by kernel_rfl) ?_
      clear ha; intro a ha
      refine wpList_nil ?_
      refine then_normal ?_
      replace s := s.at_ (j := 3) rfl
      replace s : St W (MapT Tryd.prog 9 encS gm D :: .blk g5 [.string (str x.key), .string (str x.val)] 53 :: Own 53 2 A6 (k + 1) c7 ((rws (R.take k)) ++ [.string (str x.key), .string (str x.val)]) :: Own 9 1 (some ad4) R.length c3 (strs (kys R)) :: L) w := s
      replace s := s.at_ (j := 3) rfl
      replace s : St W (Own 9 1 (some ad4) R.length c3 (strs (kys R)) :: MapT Tryd.prog 9 encS gm D :: .blk g5 [.string (str x.key), .string (str x.val)] 53 :: Own 53 2 A6 (k + 1) c7 ((rws (R.take k)) ++ [.string (str x.key), .string (str x.val)]) :: L) w := s
      replace s := s.at_ (j := 3) rfl
      replace s : St W (Own 53 2 A6 (k + 1) c7 ((rws (R.take k)) ++ [.string (str x.key), .string (str x.val)]) :: Own 9 1 (some ad4) R.length c3 (strs (kys R)) :: MapT Tryd.prog 9 encS gm D :: .blk g5 [.string (str x.key), .string (str x.val)] 53 :: L) w := s
      replace s : St W (Own 53 2 A6 (k + 1) c7 ((rws (R.take k)) ++ [.string (str x.key), .string (str x.val)]) :: Own 9 1 (some ad4) R.length c3 (strs (kys R)) :: MapT Tryd.prog 9 encS gm D :: L) w := St.mid (A := [Own 53 2 A6 (k + 1) c7 ((rws (R.take k)) ++ [.string (str x.key), .string (str x.val)]), Own 9 1 (some ad4) R.length c3 (strs (kys R)), MapT Tryd.prog 9 encS gm D]) (B := [.blk g5 [.string (str x.key), .string (str x.val)] 53]) s
      rw [show [.string (str x.key), .string (str x.val)] = rv x from rfl, ← rws_snoc hx] at s
      exact ⟨(k + 1, A6, c7), (show R.length - (k + 1) < R.length - k by omega), (Has.cons ha (by kernel_rfl) (by kernel_rfl) (Has.cons ha (by kernel_rfl) (by kernel_rfl) (Has.cons ha (by kernel_rfl) (by kernel_rfl) (Has.cons ha (by kernel_rfl) (by kernel_rfl) (Has.cons ha (by kernel_rfl) (by kernel_rfl) (Has.nil ha)))))), s, (show k + 1 ≤ R.length by omega)⟩
    · rw [hb] at ha; replace hb : ¬ (((k : Nat) : Int) < ((R.length : Nat) : Int)) := of_decide_eq_false hb
      have hk : k = R.length := by omega
      subst hk
      rw [List.take_length] at s
      refine wp_exit ?_
      refine then_exit ?_
      refine then_exit ?_
      refine block_hit ?_
      refine then_normal ?_
      refine wp_seq ?_
      refine wp_region_lit ?_
      refine st_val (.slice B R.length cb) ha (by kernel_rfl) (by kernel_rfl) ?_
      clear ha; intro a ha
      refine st_val (.slice B R.length cb) ha (by kernel_rfl) (by kernel_rfl) ?_
      clear ha; intro a ha
      refine st_val (.int .i64 0) ha (by kernel_rfl) (by kernel_rfl) ?_
      clear ha; intro a ha
      refine wpList_nil ?_
      refine then_normal ?_
      refine wp_ret ?_
      refine ret_with (v := .tuple #[.slice B R.length cb, .int .i64 0]) ha (results_2 rfl ha (res_tmp (by kernel_rfl) (by kernel_rfl)) (res_tmp (by kernel_rfl) (by kernel_rfl))) ?_
      replace s : St W (Own 53 2 B R.length cb (rws R) :: L) w := St.mid (A := [Own 53 2 B R.length cb (rws R)]) (B := [Own 9 1 A2 R.length c3 (strs (kys R)), MapT Tryd.prog 9 encS gm D]) s
      unfold rowsOf
      exact ⟨B, cb, o, by rw [← hR], ho, by rw [← hR]; exact s⟩

theorem rows_no (W : World) (hW : W.drawn = 0) (L : List Chunk) (w : World) (A : Option Addr) (ca : Nat) (ds : List Dn) (hr : Knows L (DonesIn A ds)) (hn : Bn ds) (h0 : code (tns ds) ≠ 0) (s : St W L w) :
    Calls Tryd.prog 13 #[.slice A ds.length ca] w fun e w' => e = .returned (.tuple #[.slice none 0 0, .int .i64 (code (tns ds))]) ∧ St W L w' := by
  refine enter_args (l := [.slice A ds.length ca]) Tryd.func13 rfl rfl (Nat.le_of_ble_eq_true rfl) ?_
  intro a ha; replace ha : Has a 33 [(0, .slice A ds.length ca)] := ha
  refine wp_seq ?_
  refine wp_region_lit ?_
  refine st_val (.slice none 0 0) ha (by kernel_rfl) (by kernel_rfl) ?_
  clear ha; intro a ha
  refine st_val (.int .i64 0) ha (by kernel_rfl) (by kernel_rfl) ?_
  clear ha; intro a ha
  refine wpList_nil ?_
  refine then_normal ?_
  refine wp_seq ?_
  refine wp_region_lit ?_
  refine st_val (.slice A ds.length ca) ha (by kernel_rfl) (by kernel_rfl) ?_
  clear ha; intro a ha
  refine st_call ha (by kernel_rfl) (by kernel_rfl) (play_rows_no W hW _ w A ca ds (fun w s => hr w s) hn h0 s) ?_
  rintro _ w ⟨rfl, s⟩
  replace s : St W (L) w := s
  refine ⟨_, rfl, ?_⟩; clear ha; intro a ha
  refine st_val (.tuple #[.map none, .int .i64 (code (tns ds))]) ha (by kernel_rfl) (by kernel_rfl) ?_
  clear ha; intro a ha
  refine st_val (.map none) ha (by kernel_rfl) (by kernel_rfl) ?_
  clear ha; intro a ha
  refine st_val (.int .i64 (code (tns ds))) ha (by kernel_rfl) (by kernel_rfl) ?_
  clear ha; intro a ha
  refine st_val (.map none) ha (by kernel_rfl) (by kernel_rfl) ?_
  clear ha; intro a ha
  refine st_val (.int .i64 (code (tns ds))) ha (by kernel_rfl) (by kernel_rfl) ?_
  clear ha; intro a ha
  refine wpList_nil ?_
  refine then_normal ?_
  refine wp_seq ?_
  refine wp_seq ?_
  refine wp_region_lit ?_
  refine st_val (.int .i64 (code (tns ds))) ha (by kernel_rfl) (by kernel_rfl) ?_
  clear ha; intro a ha
  refine st_val (.bool true) ha (by kernel_rfl) (run_known (show ((code (tns ds)) != (0 : Int)) = true from bne_iff_ne.2 (by omega)) (by kernel_rfl)) ?_
  clear ha; intro a ha
  refine wpList_nil ?_
  refine then_normal ?_
  refine wp_true ha rfl (by kernel_rfl) ?_
  refine wp_seq ?_
  refine wp_region_lit ?_
  refine st_val (.int .i64 (code (tns ds))) ha (by kernel_rfl) (by kernel_rfl) ?_
  clear ha; intro a ha
  refine st_val (.slice none 0 0) ha (by kernel_rfl) (by kernel_rfl) ?_
  clear ha; intro a ha
  refine st_val (.int .i64 (code (tns ds))) ha (by kernel_rfl) (by kernel_rfl) ?_
  clear ha; intro a ha
  refine wpList_nil ?_
  refine then_normal ?_
  refine wp_ret ?_
  refine then_ret ?_
  refine ret_with (v := .tuple #[.slice none 0 0, .int .i64 (code (tns ds))]) ha (results_2 rfl ha (res_tmp (by kernel_rfl) (by kernel_rfl)) (res_tmp (by kernel_rfl) (by kernel_rfl))) ?_
  exact ⟨rfl, s⟩

end Go.Proofs.YtidfniglnmfphaaDoor.B
