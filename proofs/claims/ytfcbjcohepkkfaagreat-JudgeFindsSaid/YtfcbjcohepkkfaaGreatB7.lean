import Derived.Test.YtfcbjcohepkkfaaGreatB6
import Derived.Test.YtfcbjcohepkkfaaGreatSepY
namespace Go.Proofs.YtfcbjcohepkkfaaGreat.B
open Go.RowKit Go.Maps Go.Sort Go.Shelf Go.Proofs.YtfcbjcohepkkfaaGreat.Sep Go.Proofs.YtfcbjcohepkkfaaGreat.P
set_option linter.unusedVariables false
set_option linter.unusedSimpArgs false
theorem rws_snoc {R : List Rw} {k : Nat} {x : Rw} (h : R[k]? = some x) : rws (R.take (k + 1)) = rws (R.take k) ++ rv x := by
 rw [take_snoc h, rws_append]; simp [rws]
theorem results_4 {P : Program} {a : Act} {N : Nat} {E : Env} {fn : Func} {w : World} {r1 r2 r3 r4 : ResultVar} {v1 v2 v3 v4 : Value} (h : fn.results = #[r1, r2, r3, r4]) (ha : Has a N E) (h1 : resIs P E w r1 v1) (h2 : resIs P E w r2 v2) (h3 : resIs P E w r3 v3) (h4 : resIs P E w r4 v4) :
  (results fn a.tmps).run P w = .ok (.tuple #[v1, v2, v3, v4]) w := by
 rw [results_eq]
 simp [h, resIs_run ha h1, resIs_run ha h2, resIs_run ha h3, resIs_run ha h4]
/-- What Check answers, by what is found. -/
def found (ds : List Tn) (o : List Nat) : Option (Nat × Nat) := first [] (things ds o)
def rowsOf (ds : List Tn) (o : List Nat) : List Rw := left [] (things ds o)

theorem check_ok (W : World) (hW : W.drawn = 0) (L : List Chunk) (w : World) (A : Option Addr) (ca : Nat) (ds : List Dn) (hr : Knows L (DonesIn A ds)) (hn : Bn ds) (h0 : code (tns ds) = 0) (s : St W L w) :
  Calls Tryz.prog 19 #[.slice A ds.length ca] w fun e w' => ∃ o, e = .returned (.tuple #[.int .i64 ((fst (found (tns ds) o) : Nat) : Int), .int .i64 ((snd (found (tns ds) o) : Nat) : Int), .bool (found (tns ds) o).isSome, .int .i64 0]) ∧ IsOrd (tns ds) o ∧ St W L w' := by
 refine enter_args (l := [.slice A ds.length ca]) Tryz.func19 rfl rfl (Nat.le_of_ble_eq_true rfl) ?_
 intro a ha; replace ha : Has a 16 [(0, .slice A ds.length ca)] := ha
 refine zn1 ?_
 refine zze ha (ex_alloc [.int .i64 0] s rfl (Tryz.zeroValue3 _) (by kernel_rfl)) ?_
 clear ha; rintro _ w a ⟨g1, rfl, s⟩ ha
 refine zze ha (ex_alloc [.int .i64 0] s rfl (Tryz.zeroValue3 _) (by kernel_rfl)) ?_
 clear ha; rintro _ w a ⟨g2, rfl, s⟩ ha
 refine zze ha (ex_alloc [.bool false] s rfl (Tryz.zeroValue4 _) (by kernel_rfl)) ?_
 clear ha; rintro _ w a ⟨g3, rfl, s⟩ ha
 refine zv (.int .i64 0) ha ?_; clear ha; intro a ha
 refine zn4 ?_
 refine zv (.slice A ds.length ca) ha ?_
 refine zzv (.func (.func 39) #[] #[.pointer (some ⟨g3, 0, none⟩), .pointer (some ⟨g1, 0, none⟩), .pointer (some ⟨g2, 0, none⟩)]) ?_; clear ha; intro a ha
 replace s := ((s.at_ (j := 1) rfl).at_ (j := 2) rfl).at_ (j := 2) rfl
 dsimp only [List.eraseIdx] at s
 refine zzc ha (play_chk_ok W hW _ w A ca ds (fun w s => hr w s) hn g3 g1 g2 h0 s) ?_
 rintro _ w ⟨gm, D, o, rfl, ho, hD, s⟩
 refine ⟨_, rfl, ?_⟩; clear ha; intro a ha
 refine zv (.tuple #[.map (some gm), .int .i64 0]) ha ?_
 refine zzv (.map (some gm)) ?_
 refine zzv (.int .i64 0) ?_
 refine zzv (.int .i64 0) ?_; clear ha; intro a ha
 refine zn2 ?_
 refine wp_seq ?_
 refine wp_region_head 7 (fun w => BlkIs g1 [.int .i64 ((fst (first [] (things (tns ds) o)) : Nat) : Int)] w ∧ BlkIs g2 [.int .i64 ((snd (first [] (things (tns ds) o)) : Nat) : Int)] w ∧ BlkIs g3 [.bool ((first [] (things (tns ds) o)).isSome)] w ∧ True) (by kernel_rfl) (by decide) ?_
 replace s := s.drew; generalize _root_.Go.World.drew _ = w at s ⊢
 have hS : (fun w => BlkIs g1 [.int .i64 ((fst (first [] (things (tns ds) o)) : Nat) : Int)] w ∧ BlkIs g2 [.int .i64 ((snd (first [] (things (tns ds) o)) : Nat) : Int)] w ∧ BlkIs g3 [.bool ((first [] (things (tns ds) o)).isSome)] w ∧ True) w := ⟨s.blkIs 2 rfl, s.blkIs 3 rfl, s.blkIs 1 rfl, trivial⟩
 refine yv (i := 0) (.int .i64 ((fst (first [] (things (tns ds) o)) : Nat) : Int)) ha (fun w hS => run_load1 (of_ := 0) hS.1 rfl (by kernel_rfl) Tryz.isAgg3 rfl) hS ?_
 refine yyv (i := 1) (.int .i64 ((snd (first [] (things (tns ds) o)) : Nat) : Int)) (fun w hS => run_load1 (of_ := 0) hS.2.1 rfl (by kernel_rfl) Tryz.isAgg3 rfl) hS ?_
 refine yyv (i := 2) (.bool ((first [] (things (tns ds) o)).isSome)) (fun w hS => run_load1 (of_ := 0) hS.2.2.1 rfl (by kernel_rfl) Tryz.isAgg4 rfl) hS ?_
 refine yyk (i := 3) (.int .i64 0) hS ?_; clear ha; intro a ha
 refine hd_exd (i := 4) ha rfl (by kernel_rfl) (by kernel_rfl) (ex_store (of_ := 0) 2 [.int .i64 ((fst (first [] (things (tns ds) o)) : Nat) : Int)] s rfl rfl (by kernel_rfl) (by kernel_rfl) (Tryz.sizeOf3 _) rfl (by simp [Value.oneCell']) (Nat.le_of_ble_eq_true rfl)) ?_
 clear hS; rintro w s
 dsimp only [List.set, putAt] at s
 have hS : (fun w => BlkIs g1 [.int .i64 ((fst (first [] (things (tns ds) o)) : Nat) : Int)] w ∧ BlkIs g2 [.int .i64 ((snd (first [] (things (tns ds) o)) : Nat) : Int)] w ∧ BlkIs g3 [.bool ((first [] (things (tns ds) o)).isSome)] w ∧ True) w := ⟨s.blkIs 2 rfl, s.blkIs 3 rfl, s.blkIs 1 rfl, trivial⟩
 refine ⟨hS, ?_⟩; clear ha; intro a ha
 refine hd_exd (i := 5) ha rfl (by kernel_rfl) (by kernel_rfl) (ex_store (of_ := 0) 3 [.int .i64 ((snd (first [] (things (tns ds) o)) : Nat) : Int)] s rfl rfl (by kernel_rfl) (by kernel_rfl) (Tryz.sizeOf3 _) rfl (by simp [Value.oneCell']) (Nat.le_of_ble_eq_true rfl)) ?_
 clear hS; rintro w s
 dsimp only [List.set, putAt] at s
 have hS : (fun w => BlkIs g1 [.int .i64 ((fst (first [] (things (tns ds) o)) : Nat) : Int)] w ∧ BlkIs g2 [.int .i64 ((snd (first [] (things (tns ds) o)) : Nat) : Int)] w ∧ BlkIs g3 [.bool ((first [] (things (tns ds) o)).isSome)] w ∧ True) w := ⟨s.blkIs 2 rfl, s.blkIs 3 rfl, s.blkIs 1 rfl, trivial⟩
 refine ⟨hS, ?_⟩; clear ha; intro a ha
 refine hd_exd (i := 6) ha rfl (by kernel_rfl) (by kernel_rfl) (ex_store (of_ := 0) 1 [.bool ((first [] (things (tns ds) o)).isSome)] s rfl rfl (by kernel_rfl) (by kernel_rfl) (Tryz.sizeOf4 _) rfl (by simp [Value.oneCell']) (Nat.le_of_ble_eq_true rfl)) ?_
 clear hS; rintro w s
 dsimp only [List.set, putAt] at s
 have hS : (fun w => BlkIs g1 [.int .i64 ((fst (first [] (things (tns ds) o)) : Nat) : Int)] w ∧ BlkIs g2 [.int .i64 ((snd (first [] (things (tns ds) o)) : Nat) : Int)] w ∧ BlkIs g3 [.bool ((first [] (things (tns ds) o)).isSome)] w ∧ True) w := ⟨s.blkIs 2 rfl, s.blkIs 3 rfl, s.blkIs 1 rfl, trivial⟩
 refine ⟨hS, ?_⟩; clear ha; intro a ha
 refine Head.done (by kernel_rfl) ?_
 clear hS; simp only [List.drop_succ_cons, List.drop_zero]
 refine zv (.int .i64 0) ha ?_; clear ha; intro a ha
 refine zn2 ?_
 refine wp_ret ?_
 refine ret_with (v := .tuple #[.int .i64 ((fst (first [] (things (tns ds) o)) : Nat) : Int), .int .i64 ((snd (first [] (things (tns ds) o)) : Nat) : Int), .bool ((first [] (things (tns ds) o)).isSome), .int .i64 0]) ha (results_4 rfl ha (res_cell1 (s.blkIs 2 rfl) (by kernel_rfl) (by kernel_rfl) Tryz.isAgg3 rfl) (res_cell1 (s.blkIs 3 rfl) (by kernel_rfl) (by kernel_rfl) Tryz.isAgg3 rfl) (res_cell1 (s.blkIs 1 rfl) (by kernel_rfl) (by kernel_rfl) Tryz.isAgg4 rfl) (res_tmp (by kernel_rfl) (by kernel_rfl))) ?_
 replace s := s.tail.tail.tail.tail
 replace s : St W (L) w := s
 exact ⟨o, rfl, ho, s⟩

theorem check_no (W : World) (hW : W.drawn = 0) (L : List Chunk) (w : World) (A : Option Addr) (ca : Nat) (ds : List Dn) (hr : Knows L (DonesIn A ds)) (hn : Bn ds) (h0 : code (tns ds) ≠ 0) (s : St W L w) :
  Calls Tryz.prog 19 #[.slice A ds.length ca] w fun e w' => e = .returned (.tuple #[.int .i64 0, .int .i64 0, .bool false, .int .i64 (code (tns ds))]) ∧ St W L w' := by
 refine enter_args (l := [.slice A ds.length ca]) Tryz.func19 rfl rfl (Nat.le_of_ble_eq_true rfl) ?_
 intro a ha; replace ha : Has a 16 [(0, .slice A ds.length ca)] := ha
 refine zn1 ?_
 refine zze ha (ex_alloc [.int .i64 0] s rfl (Tryz.zeroValue3 _) (by kernel_rfl)) ?_
 clear ha; rintro _ w a ⟨g1, rfl, s⟩ ha
 refine zze ha (ex_alloc [.int .i64 0] s rfl (Tryz.zeroValue3 _) (by kernel_rfl)) ?_
 clear ha; rintro _ w a ⟨g2, rfl, s⟩ ha
 refine zze ha (ex_alloc [.bool false] s rfl (Tryz.zeroValue4 _) (by kernel_rfl)) ?_
 clear ha; rintro _ w a ⟨g3, rfl, s⟩ ha
 refine zv (.int .i64 0) ha ?_; clear ha; intro a ha
 refine zn4 ?_
 refine zv (.slice A ds.length ca) ha ?_
 refine zzv (.func (.func 39) #[] #[.pointer (some ⟨g3, 0, none⟩), .pointer (some ⟨g1, 0, none⟩), .pointer (some ⟨g2, 0, none⟩)]) ?_; clear ha; intro a ha
 replace s := ((s.at_ (j := 1) rfl).at_ (j := 2) rfl).at_ (j := 2) rfl
 dsimp only [List.eraseIdx] at s
 refine zzc ha (play_chk_no W hW _ w A ca ds (fun w s => hr w s) hn g3 g1 g2 h0 s) ?_
 rintro _ w ⟨rfl, s⟩
 refine ⟨_, rfl, ?_⟩; clear ha; intro a ha
 refine zv (.tuple #[.map none, .int .i64 (code (tns ds))]) ha ?_
 refine zzv (.map none) ?_
 refine zzv (.int .i64 (code (tns ds))) ?_
 refine zzv (.int .i64 (code (tns ds))) ?_; clear ha; intro a ha
 refine zn2 ?_
 refine wp_seq ?_
 refine wp_region_head 7 (fun w => BlkIs g1 [.int .i64 ((fst (none : Option (Nat × Nat)) : Nat) : Int)] w ∧ BlkIs g2 [.int .i64 ((snd (none : Option (Nat × Nat)) : Nat) : Int)] w ∧ BlkIs g3 [.bool ((none : Option (Nat × Nat)).isSome)] w ∧ True) (by kernel_rfl) (by decide) ?_
 replace s := s.drew; generalize _root_.Go.World.drew _ = w at s ⊢
 have hS : (fun w => BlkIs g1 [.int .i64 ((fst (none : Option (Nat × Nat)) : Nat) : Int)] w ∧ BlkIs g2 [.int .i64 ((snd (none : Option (Nat × Nat)) : Nat) : Int)] w ∧ BlkIs g3 [.bool ((none : Option (Nat × Nat)).isSome)] w ∧ True) w := ⟨s.blkIs 1 rfl, s.blkIs 2 rfl, s.blkIs 0 rfl, trivial⟩
 refine yv (i := 0) (.int .i64 ((fst (none : Option (Nat × Nat)) : Nat) : Int)) ha (fun w hS => run_load1 (of_ := 0) hS.1 rfl (by kernel_rfl) Tryz.isAgg3 rfl) hS ?_
 refine yyv (i := 1) (.int .i64 ((snd (none : Option (Nat × Nat)) : Nat) : Int)) (fun w hS => run_load1 (of_ := 0) hS.2.1 rfl (by kernel_rfl) Tryz.isAgg3 rfl) hS ?_
 refine yyv (i := 2) (.bool ((none : Option (Nat × Nat)).isSome)) (fun w hS => run_load1 (of_ := 0) hS.2.2.1 rfl (by kernel_rfl) Tryz.isAgg4 rfl) hS ?_
 refine yyk (i := 3) (.int .i64 (code (tns ds))) hS ?_; clear ha; intro a ha
 refine hd_exd (i := 4) ha rfl (by kernel_rfl) (by kernel_rfl) (ex_store (of_ := 0) 1 [.int .i64 ((fst (none : Option (Nat × Nat)) : Nat) : Int)] s rfl rfl (by kernel_rfl) (by kernel_rfl) (Tryz.sizeOf3 _) rfl (by simp [Value.oneCell']) (Nat.le_of_ble_eq_true rfl)) ?_
 clear hS; rintro w s
 dsimp only [List.set, putAt] at s
 have hS : (fun w => BlkIs g1 [.int .i64 ((fst (none : Option (Nat × Nat)) : Nat) : Int)] w ∧ BlkIs g2 [.int .i64 ((snd (none : Option (Nat × Nat)) : Nat) : Int)] w ∧ BlkIs g3 [.bool ((none : Option (Nat × Nat)).isSome)] w ∧ True) w := ⟨s.blkIs 1 rfl, s.blkIs 2 rfl, s.blkIs 0 rfl, trivial⟩
 refine ⟨hS, ?_⟩; clear ha; intro a ha
 refine hd_exd (i := 5) ha rfl (by kernel_rfl) (by kernel_rfl) (ex_store (of_ := 0) 2 [.int .i64 ((snd (none : Option (Nat × Nat)) : Nat) : Int)] s rfl rfl (by kernel_rfl) (by kernel_rfl) (Tryz.sizeOf3 _) rfl (by simp [Value.oneCell']) (Nat.le_of_ble_eq_true rfl)) ?_
 clear hS; rintro w s
 dsimp only [List.set, putAt] at s
 have hS : (fun w => BlkIs g1 [.int .i64 ((fst (none : Option (Nat × Nat)) : Nat) : Int)] w ∧ BlkIs g2 [.int .i64 ((snd (none : Option (Nat × Nat)) : Nat) : Int)] w ∧ BlkIs g3 [.bool ((none : Option (Nat × Nat)).isSome)] w ∧ True) w := ⟨s.blkIs 1 rfl, s.blkIs 2 rfl, s.blkIs 0 rfl, trivial⟩
 refine ⟨hS, ?_⟩; clear ha; intro a ha
 refine hd_exd (i := 6) ha rfl (by kernel_rfl) (by kernel_rfl) (ex_store (of_ := 0) 0 [.bool ((none : Option (Nat × Nat)).isSome)] s rfl rfl (by kernel_rfl) (by kernel_rfl) (Tryz.sizeOf4 _) rfl (by simp [Value.oneCell']) (Nat.le_of_ble_eq_true rfl)) ?_
 clear hS; rintro w s
 dsimp only [List.set, putAt] at s
 have hS : (fun w => BlkIs g1 [.int .i64 ((fst (none : Option (Nat × Nat)) : Nat) : Int)] w ∧ BlkIs g2 [.int .i64 ((snd (none : Option (Nat × Nat)) : Nat) : Int)] w ∧ BlkIs g3 [.bool ((none : Option (Nat × Nat)).isSome)] w ∧ True) w := ⟨s.blkIs 1 rfl, s.blkIs 2 rfl, s.blkIs 0 rfl, trivial⟩
 refine ⟨hS, ?_⟩; clear ha; intro a ha
 refine Head.done (by kernel_rfl) ?_
 clear hS; simp only [List.drop_succ_cons, List.drop_zero]
 refine zv (.int .i64 (code (tns ds))) ha ?_; clear ha; intro a ha
 refine zn2 ?_
 refine wp_ret ?_
 refine ret_with (v := .tuple #[.int .i64 ((fst (none : Option (Nat × Nat)) : Nat) : Int), .int .i64 ((snd (none : Option (Nat × Nat)) : Nat) : Int), .bool ((none : Option (Nat × Nat)).isSome), .int .i64 (code (tns ds))]) ha (results_4 rfl ha (res_cell1 (s.blkIs 1 rfl) (by kernel_rfl) (by kernel_rfl) Tryz.isAgg3 rfl) (res_cell1 (s.blkIs 2 rfl) (by kernel_rfl) (by kernel_rfl) Tryz.isAgg3 rfl) (res_cell1 (s.blkIs 0 rfl) (by kernel_rfl) (by kernel_rfl) Tryz.isAgg4 rfl) (res_tmp (by kernel_rfl) (by kernel_rfl))) ?_
 replace s := s.tail.tail.tail
 replace s : St W (L) w := s
 exact ⟨rfl, s⟩

end Go.Proofs.YtfcbjcohepkkfaaGreat.B
