import Derived.Test.YtfcbjcohepkkfaaGreatJ4
import Derived.Test.YtfcbjcohepkkfaaGreatSepY
namespace Go.Proofs.YtfcbjcohepkkfaaGreat.B
open Go.RowKit Go.Maps Go.Sort Go.Shelf Go.Proofs.YtfcbjcohepkkfaaGreat.Sep Go.Proofs.YtfcbjcohepkkfaaGreat.P
set_option linter.unusedVariables false
set_option linter.unusedSimpArgs false
theorem MapI.back {W w : World} {L : List Chunk} {g gi : Nat} {T T2 : List (Int × Nat × Tx)} {V : List Nat} (e : T2.map ent = T.map ent) (s : St W (MapI Tryz.prog 3 encI g (T.map ent) gi V :: L) w) : St W (MapT Tryz.prog 3 encI g (T2.map ent) :: L) w := by
 rw [e]; exact MapI.done s

set_option maxHeartbeats 4000000 in
theorem see_any (W : World) (L : List Chunk) (w : World) (g gd gt : Nat) (k : Look) (Dd : List (Int × Value)) (T : List (Int × Nat × Tx)) (n : Nat) (hk : LkOk k Dd T n) (hn : n ≤ 1000000) (x : Ev) (hmx : mayB k.ti x = true) (s : St W (Chunk.blk g [.int .i64 k.ti, .int .i64 k.most, .map (some gd), .map (some gt)] 43 :: MapT Tryz.prog 3 encI gd Dd :: MapT Tryz.prog 3 encI gt (T.map ent) :: Blks T :: L) w) :
  Calls Tryz.prog 17 #[.pointer (some ⟨g, 0, none⟩), .agg (evv x).toArray] w fun e w' => ∃ (Dd2 : List (Int × Value)) (T2 : List (Int × Nat × Tx)), e = .returned (.tuple #[]) ∧ LkOk (seeL k x) Dd2 T2 (n + 1) ∧ St W (Chunk.blk g [.int .i64 (seeL k x).ti, .int .i64 (seeL k x).most, .map (some gd), .map (some gt)] 43 :: MapT Tryz.prog 3 encI gd Dd2 :: MapT Tryz.prog 3 encI gt (T2.map ent) :: Blks T2 :: L) w' := by
 have hmn := may_node hmx
 refine enter_args (l := [.pointer (some ⟨g, 0, none⟩), .agg (evv x).toArray]) Tryz.func17 rfl rfl (Nat.le_of_ble_eq_true rfl) ?_
 intro a ha; replace ha : Has a 111 [(0, .pointer (some ⟨g, 0, none⟩)), (1, .agg (evv x).toArray)] := ha
 refine zn1 ?_
 refine zze ha (ex_box (evv x) s rfl (by kernel_rfl)) ?_
 clear ha; rintro _ w a ⟨g1, rfl, s⟩ ha
 refine zn4 ?_
 refine zv (.pointer (some ⟨g, 0, none⟩)) ha ?_
 refine zzv (.pointer (some ⟨g1, 0, none⟩)) ?_
 refine zzw (.int .i64 x.ti) (zl1 0 0) ?_
 refine zzv (.pointer (some ⟨g, 0, none⟩)) ?_
 refine zzv (.pointer (some ⟨g, 0, none⟩)) ?_; clear ha; intro a ha
 refine zzd ha (ex_store (of_ := 0) 1 [.int .i64 x.ti] s rfl rfl (by kernel_rfl) (by kernel_rfl) (Tryz.sizeOf3 _) rfl (by simp [Value.oneCell']) (Nat.le_of_ble_eq_true rfl)) ?_
 clear ha; rintro w a s ha
 dsimp only [List.set, putAt] at s
 refine zn2 ?_
 refine wp_seq ?_
 refine zn1 ?_
 refine zv (.pointer (some ⟨g1, 1, none⟩)) ha ?_
 refine zzw (.int .i64 x.kind) (zl1 0 1) ?_; clear ha; intro a ha
 refine zn2 ?_
 refine wp_block ?_
 refine zn1 ?_
 refine zv (.bool (x.kind == (5 : Int))) ha ?_
 refine zzv (.bool (x.kind == (5 : Int))) ?_; clear ha; intro a ha
 refine zn2 ?_
 refine zzh (x.kind == (5 : Int)) ha ?_ ?_ <;> intro hb
 ·
  rw [hb] at ha; replace hb := eq_of_beq hb
  refine wp_seq ?_
  refine wp_region_head 6 (fun w => BlkIs g [.int .i64 x.ti, .int .i64 k.most, .map (some gd), .map (some gt)] w ∧ BlkIs g1 (evv x) w ∧ True) (by kernel_rfl) (by decide) ?_
  replace s := s.drew; generalize _root_.Go.World.drew _ = w at s ⊢
  have hS : (fun w => BlkIs g [.int .i64 x.ti, .int .i64 k.most, .map (some gd), .map (some gt)] w ∧ BlkIs g1 (evv x) w ∧ True) w := ⟨s.blkIs 1 rfl, s.blkIs 0 rfl, trivial⟩
  refine yk (i := 0) (.pointer (some ⟨g, 0, none⟩)) ha hS ?_
  refine yyk (i := 1) (.pointer (some ⟨g, 0, none⟩)) hS ?_
  refine yyk (i := 2) (.pointer (some ⟨g, 2, none⟩)) hS ?_
  refine yyv (i := 3) (.map (some gd)) (fun w hS => run_load1 (of_ := 2) hS.1 rfl (by kernel_rfl) Tryz.isAgg40 rfl) hS ?_
  refine yyk (i := 4) (.pointer (some ⟨g1, 2, none⟩)) hS ?_
  refine yyv (i := 5) (.int .i64 x.node) (fun w hS => run_load1 (of_ := 2) hS.2.1 rfl (by kernel_rfl) Tryz.isAgg3 rfl) hS ?_; clear ha; intro a ha
  refine Head.done (by kernel_rfl) ?_
  clear hS; simp only [List.drop_succ_cons, List.drop_zero]
  refine zzd ha (ex_mapUpdate (a := x.node) 2 (.bool true) s rfl rfl (by kernel_rfl) (by kernel_rfl) (by kernel_rfl) encI_inj keyed3 Tryz.underlying40 (key3 (by omega)) (by have := hk.room.1; simp only [maxLen]; omega)) ?_
  clear ha; rintro w a s ha
  dsimp only [List.set, putAt] at s
  refine zn2 ?_
  refine wp_seq ?_
  refine zn1 ?_
  refine zv (.pointer (some ⟨g, 0, none⟩)) ha ?_
  refine zzv (.pointer (some ⟨g, 0, none⟩)) ?_
  refine zzv (.pointer (some ⟨g, 3, none⟩)) ?_
  refine zzw (.map (some gt)) (zl1 1 3) ?_; clear ha; intro a ha
  refine zze ha (ex_range 3 s rfl rfl (by kernel_rfl) Tryz.underlying41) ?_
  clear ha; rintro _ w a ⟨gi2, rfl, s⟩ ha
  refine zn2 ?_
  refine wp_block ?_
  replace s := (((s.at_ (j := 4) rfl).at_ (j := 4) rfl).at_ (j := 4) rfl).at_ (j := 4) rfl
  dsimp only [List.eraseIdx] at s
  replace s : St W (.blk g [.int .i64 x.ti, .int .i64 k.most, .map (some gd), .map (some gt)] 43 :: MapT Tryz.prog 3 encI gd (mput Dd x.node (.bool true)) :: MapI Tryz.prog 3 encI gt (T.map ent) gi2 [] :: Blks (dnAt x.node [] T) :: .blk g1 (evv x) 37 :: L) w := by rw [dnAt_nil]; exact s
  refine wp_loopG (G := (List Nat)) (fun V a w => Has a 111 [(0, .pointer (some ⟨g, 0, none⟩)), (3, .pointer (some ⟨g1, 0, none⟩)), (26, .pointer (some ⟨gi2, 0, none⟩))] ∧ St W (.blk g [.int .i64 x.ti, .int .i64 k.most, .map (some gd), .map (some gt)] 43 :: MapT Tryz.prog 3 encI gd (mput Dd x.node (.bool true)) :: MapI Tryz.prog 3 encI gt (T.map ent) gi2 V :: Blks (dnAt x.node V T) :: .blk g1 (evv x) 37 :: L) w ∧ True) (fun V => ((List.range T.length).filter fun r => decide (r ∉ V)).length) [] ?_ ?_
  ·
   exact ⟨(Has.cons ha (by kernel_rfl) (by kernel_rfl) (Has.cons ha (by kernel_rfl) (by kernel_rfl) (Has.cons ha (by kernel_rfl) (by kernel_rfl) (Has.nil ha)))), s, trivial⟩
  clear ha s; rintro V a w ⟨ha, s, hp⟩
  refine zn1 ?_
  refine zze ha (ex_next 2 s rfl rfl (by kernel_rfl)) ?_
  clear ha; rintro _ w a (⟨rfl, hall, s⟩ | ⟨q3, pq3, hpq3, hnq3, rfl, s⟩) ha
  ·
   skip
   refine zv (.bool false) ha ?_; clear ha; intro a ha
   refine zn2 ?_
   refine wp_seq ?_
   refine wp_false ha rfl (by kernel_rfl) ?_
   refine wp_exit ?_
   refine then_exit ?_
   refine then_exit ?_
   refine block_hit ?_
   refine then_normal ?_
   refine wp_ret ?_
   refine block_ret ?_
   refine then_ret ?_
   refine ret_with (v := .tuple #[]) ha (results_0 rfl _) ?_
   replace s := (((s.at_ (j := 1) rfl).at_ (j := 1) rfl).at_ (j := 3) rfl).at_ (j := 3) rfl
   replace s := s.k4_1
   have hall2 := dnAt_all (nd := x.node) (V := V) (T := T) (fun q h => hall q (by rw [List.length_map]; exact h))
   have hmm := dnAt_ids x.node V T
   rw [hall2] at s hmm
   replace s := MapI.back hmm s
   replace s := s.at_ (j := 2) rfl
   replace s := s.at_ (j := 3) rfl
   replace s := (s.perm (List.Perm.swap _ _ _))
   have hmo : (seeL k x).most = k.most := by unfold seeL; simp [*]
   refine ⟨mput Dd x.node (.bool true), T.map (fun y => (y.1, y.2.1, downTx x.node y.2.2)), rfl, hk.down (by assumption) hmn.2.2.2.1, ?_⟩
   rw [hmo]
   exact s
  skip
  rw [List.getElem?_map] at hpq3
  obtain ⟨⟨i, b, t⟩, hq2, rfl⟩ := Option.map_eq_some_iff.1 hpq3
  have hdn : (dnAt x.node V T)[q3]? = some (i, b, t) := by rw [dnAt_at, hq2]; simp [hnq3]
  replace s := s.at_ (j := 3) rfl
  replace s : St W (Blks (dnAt x.node V T) :: .blk g [.int .i64 x.ti, .int .i64 k.most, .map (some gd), .map (some gt)] 43 :: MapT Tryz.prog 3 encI gd (mput Dd x.node (.bool true)) :: MapI Tryz.prog 3 encI gt (T.map ent) gi2 (V ++ [q3]) :: .blk g1 (evv x) 37 :: L) w := s
  replace s := Blks.open_ hdn s
  refine zv (.bool true) ha ?_; clear ha; intro a ha
  refine zn2 ?_
  refine wp_seq ?_
  refine wp_true ha rfl (by kernel_rfl) ?_
  refine wp_skip ?_
  refine then_normal ?_
  refine wp_block ?_
  refine zn1 ?_
  refine zze ha (ex_entry 4 s rfl (by rw [List.getElem?_map, hq2]; rfl) rfl (by kernel_rfl)) ?_
  clear ha; rintro _ w a ⟨rfl, s⟩ ha
  refine zv (.pointer (some ⟨b, 0, none⟩)) ha ?_
  refine zzv (.pointer (some ⟨b, 0, none⟩)) ?_; clear ha; intro a ha
  refine zn2 ?_
  refine wp_seq ?_
  refine wp_region_head 6 (fun w => BlkIs b (txv t) w ∧ BlkIs g1 (evv x) w ∧ True) (by kernel_rfl) (by decide) ?_
  replace s := s.drew; generalize _root_.Go.World.drew _ = w at s ⊢
  have hS : (fun w => BlkIs b (txv t) w ∧ BlkIs g1 (evv x) w ∧ True) w := ⟨s.blkIs 0 rfl, s.blkIs 5 rfl, trivial⟩
  refine yk (i := 0) (.pointer (some ⟨b, 0, none⟩)) ha hS ?_
  refine yyk (i := 1) (.pointer (some ⟨b, 0, none⟩)) hS ?_
  refine yyk (i := 2) (.pointer (some ⟨b, 0, none⟩)) hS ?_
  refine yyv (i := 3) (.int .i64 t.node) (fun w hS => run_load1 (of_ := 0) hS.1 rfl (by kernel_rfl) Tryz.isAgg3 rfl) hS ?_
  refine yyk (i := 4) (.pointer (some ⟨g1, 2, none⟩)) hS ?_
  refine yyv (i := 5) (.int .i64 x.node) (fun w hS => run_load1 (of_ := 2) hS.2.1 rfl (by kernel_rfl) Tryz.isAgg3 rfl) hS ?_; clear ha; intro a ha
  refine Head.done (by kernel_rfl) ?_
  clear hS; simp only [List.drop_succ_cons, List.drop_zero]
  refine zv (.bool (t.node == x.node)) ha ?_; clear ha; intro a ha
  refine zn2 ?_
  refine zzh (t.node == x.node) ha ?_ ?_ <;> intro hb
  ·
   rw [hb] at ha; replace hb := eq_of_beq hb
   refine wp_region_lit ?_
   refine zv (.pointer (some ⟨b, 0, none⟩)) ha ?_
   refine zzv (.pointer (some ⟨b, 0, none⟩)) ?_
   refine zzv (.pointer (some ⟨b, 1, none⟩)) ?_; clear ha; intro a ha
   refine zzd ha (ex_store (of_ := 1) 0 [.int .i64 2] s rfl rfl (by kernel_rfl) (by kernel_rfl) (Tryz.sizeOf3 _) rfl (by simp [Value.oneCell']) (Nat.le_of_ble_eq_true rfl)) ?_
   clear ha; rintro w a s ha
   dsimp only [List.set, putAt] at s
   refine wpList_nil ?_
   refine block_normal ?_
   refine then_normal ?_
   replace s := Blks.close hdn (⟨t.node, 2, t.began, t.ask, t.comm, t.abrt, t.epoch, t.wall, t.logic⟩ : Tx) s
   have hdt : downTx x.node t = (⟨t.node, 2, t.began, t.ask, t.comm, t.abrt, t.epoch, t.wall, t.logic⟩ : Tx) := by unfold downTx; first | rw [if_pos (by assumption)] | rw [if_neg (by assumption)]
   rw [← hdt, dnAt_snoc hq2] at s
   replace s := ((((s.at_ (j := 4) rfl).at_ (j := 1) rfl).at_ (j := 4) rfl).at_ (j := 4) rfl).at_ (j := 4) rfl
   dsimp only [List.eraseIdx] at s
   exact ⟨V ++ [q3], left_meas (List.getElem?_eq_some_iff.1 hq2).1 hnq3, (Has.cons ha (by kernel_rfl) (by kernel_rfl) (Has.cons ha (by kernel_rfl) (by kernel_rfl) (Has.cons ha (by kernel_rfl) (by kernel_rfl) (Has.nil ha)))), s, trivial⟩
  rw [hb] at ha; replace hb := ne_of_beq_false hb
  refine wp_skip ?_
  refine block_normal ?_
  refine then_normal ?_
  replace s := Blks.close hdn (⟨t.node, t.stand, t.began, t.ask, t.comm, t.abrt, t.epoch, t.wall, t.logic⟩ : Tx) s
  have hdt : downTx x.node t = (⟨t.node, t.stand, t.began, t.ask, t.comm, t.abrt, t.epoch, t.wall, t.logic⟩ : Tx) := by unfold downTx; first | rw [if_pos (by assumption)] | rw [if_neg (by assumption)]
  rw [← hdt, dnAt_snoc hq2] at s
  replace s := ((((s.at_ (j := 4) rfl).at_ (j := 1) rfl).at_ (j := 4) rfl).at_ (j := 4) rfl).at_ (j := 4) rfl
  dsimp only [List.eraseIdx] at s
  exact ⟨V ++ [q3], left_meas (List.getElem?_eq_some_iff.1 hq2).1 hnq3, (Has.cons ha (by kernel_rfl) (by kernel_rfl) (Has.cons ha (by kernel_rfl) (by kernel_rfl) (Has.cons ha (by kernel_rfl) (by kernel_rfl) (Has.nil ha)))), s, trivial⟩
 rw [hb] at ha; replace hb := ne_of_beq_false hb
 refine zn1 ?_
 refine zv (.bool (x.kind == (6 : Int))) ha ?_
 refine zzv (.bool (x.kind == (6 : Int))) ?_; clear ha; intro a ha
 refine zn2 ?_
 refine zzh (x.kind == (6 : Int)) ha ?_ ?_ <;> intro hb
 ·
  rw [hb] at ha; replace hb := eq_of_beq hb
  refine wp_seq ?_
  refine wp_region_head 6 (fun w => BlkIs g [.int .i64 x.ti, .int .i64 k.most, .map (some gd), .map (some gt)] w ∧ BlkIs g1 (evv x) w ∧ True) (by kernel_rfl) (by decide) ?_
  replace s := s.drew; generalize _root_.Go.World.drew _ = w at s ⊢
  have hS : (fun w => BlkIs g [.int .i64 x.ti, .int .i64 k.most, .map (some gd), .map (some gt)] w ∧ BlkIs g1 (evv x) w ∧ True) w := ⟨s.blkIs 1 rfl, s.blkIs 0 rfl, trivial⟩
  refine yk (i := 0) (.pointer (some ⟨g, 0, none⟩)) ha hS ?_
  refine yyk (i := 1) (.pointer (some ⟨g, 0, none⟩)) hS ?_
  refine yyk (i := 2) (.pointer (some ⟨g, 2, none⟩)) hS ?_
  refine yyv (i := 3) (.map (some gd)) (fun w hS => run_load1 (of_ := 2) hS.1 rfl (by kernel_rfl) Tryz.isAgg40 rfl) hS ?_
  refine yyk (i := 4) (.pointer (some ⟨g1, 2, none⟩)) hS ?_
  refine yyv (i := 5) (.int .i64 x.node) (fun w hS => run_load1 (of_ := 2) hS.2.1 rfl (by kernel_rfl) Tryz.isAgg3 rfl) hS ?_; clear ha; intro a ha
  refine Head.done (by kernel_rfl) ?_
  clear hS; simp only [List.drop_succ_cons, List.drop_zero]
  refine zze ha (ex_delete (a := x.node) 2 s rfl rfl (by kernel_rfl) (by kernel_rfl) encI_inj keyed3 Tryz.underlying40 (key3 (by omega))) ?_
  clear ha; rintro _ w a ⟨rfl, s⟩ ha
  refine zn2 ?_
  refine wp_ret ?_
  refine block_ret ?_
  refine then_ret ?_
  refine ret_with (v := .tuple #[]) ha (results_0 rfl _) ?_
  replace s := (((s.at_ (j := 4) rfl).at_ (j := 4) rfl).at_ (j := 4) rfl).at_ (j := 4) rfl
  replace s := s.k4_1
  have hmo : (seeL k x).most = k.most := by unfold seeL; simp [*]
  refine ⟨mdel Dd x.node, T, rfl, hk.upE (by assumption), ?_⟩
  rw [hmo]
  exact s
 rw [hb] at ha; replace hb := ne_of_beq_false hb
 have hhx : hasB x = true := has_iff.2 (by omega)
 have hid := may_has hmx hhx
 refine wp_skip ?_
 refine block_normal ?_
 refine then_normal ?_
 refine zn1 ?_
 refine zv (.pointer (some ⟨g, 0, none⟩)) ha ?_
 refine zzv (.pointer (some ⟨g1, 3, none⟩)) ?_
 refine zzw (.int .i64 x.id) (zl1 0 3) ?_; clear ha; intro a ha
 replace s := (((s.at_ (j := 4) rfl).at_ (j := 4) rfl).at_ (j := 4) rfl).at_ (j := 4) rfl
 dsimp only [List.eraseIdx] at s
 refine zzc ha (txn_any W _ w g gd gt ⟨x.ti, k.most, k.dn, k.tx⟩ Dd T n ⟨hk.dn, hk.tx, hk.nodup, hk.room, hk.most⟩ hn x.id (by omega) s) ?_
 rintro _ w ⟨T2, q, b, rfl, ht2, hk2, s⟩
 replace hk2 : LkOk k Dd T2 (n + 1) := ⟨hk2.dn, hk2.tx, hk2.nodup, hk2.room, hk2.most⟩
 obtain ⟨t, ht⟩ : ∃ t, t = k.tx x.id := ⟨_, rfl⟩
 replace ht2 : T2[q]? = some (x.id, b, k.tx x.id) := ht2
 rw [← ht] at ht2
 replace s := s.at_ (j := 3) rfl
 dsimp only [List.eraseIdx] at s
 replace s := Blks.open_ ht2 s
 refine ⟨_, rfl, ?_⟩; clear ha; intro a ha
 refine zv (.pointer (some ⟨b, 0, none⟩)) ha ?_; clear ha; intro a ha
 refine zn2 ?_
 refine wp_seq ?_
 refine zn1 ?_
 refine zv (.pointer (some ⟨g1, 1, none⟩)) ha ?_
 refine zzw (.int .i64 x.kind) (zl1 5 1) ?_; clear ha; intro a ha
 refine zn2 ?_
 refine wp_block ?_
 refine zn1 ?_
 refine zv (.bool (x.kind == (1 : Int))) ha ?_
 refine zzv (.bool (x.kind == (1 : Int))) ?_; clear ha; intro a ha
 refine zn2 ?_
 refine zzh (x.kind == (1 : Int)) ha ?_ ?_ <;> intro hb
 ·
  rw [hb] at ha; replace hb := eq_of_beq hb
  refine zn1 ?_
  refine zv (.pointer (some ⟨g, 0, none⟩)) ha ?_
  refine zzv (.pointer (some ⟨g1, 3, none⟩)) ?_
  refine zzw (.int .i64 x.id) (zl1 5 3) ?_
  refine zzv (.pointer (some ⟨g, 0, none⟩)) ?_
  refine zzv (.pointer (some ⟨g, 1, none⟩)) ?_; clear ha; intro a ha
  refine zzd ha (ex_store (of_ := 1) 2 [.int .i64 x.id] s rfl rfl (by kernel_rfl) (by kernel_rfl) (Tryz.sizeOf3 _) rfl (by simp [Value.oneCell']) (Nat.le_of_ble_eq_true rfl)) ?_
  clear ha; rintro w a s ha
  dsimp only [List.set, putAt] at s
  refine zn2 ?_
  refine wp_region_head 7 (fun w => BlkIs g1 (evv x) w ∧ True) (by kernel_rfl) (by decide) ?_
  replace s := s.drew; generalize _root_.Go.World.drew _ = w at s ⊢
  have hS : (fun w => BlkIs g1 (evv x) w ∧ True) w := ⟨s.blkIs 5 rfl, trivial⟩
  refine yk (i := 0) (.pointer (some ⟨b, 0, none⟩)) ha hS ?_
  refine yyk (i := 1) (.pointer (some ⟨b, 0, none⟩)) hS ?_
  refine yyk (i := 2) (.pointer (some ⟨g1, 2, none⟩)) hS ?_
  refine yyv (i := 3) (.int .i64 x.node) (fun w hS => run_load1 (of_ := 2) hS.1 rfl (by kernel_rfl) Tryz.isAgg3 rfl) hS ?_
  refine yyk (i := 4) (.pointer (some ⟨b, 0, none⟩)) hS ?_
  refine yyk (i := 5) (.pointer (some ⟨b, 2, none⟩)) hS ?_; clear ha; intro a ha
  refine hd_exd (i := 6) ha rfl (by kernel_rfl) (by kernel_rfl) (ex_store (of_ := 2) 0 [.bool true] s rfl rfl (by kernel_rfl) (by kernel_rfl) (Tryz.sizeOf4 _) rfl (by simp [Value.oneCell']) (Nat.le_of_ble_eq_true rfl)) ?_
  clear hS; rintro w s
  dsimp only [List.set, putAt] at s
  have hS : (fun w => BlkIs g1 (evv x) w ∧ True) w := ⟨s.blkIs 5 rfl, trivial⟩
  refine ⟨hS, ?_⟩; clear ha; intro a ha
  refine Head.done (by kernel_rfl) ?_
  clear hS; simp only [List.drop_succ_cons, List.drop_zero]
  refine zv (.pointer (some ⟨b, 0, none⟩)) ha ?_
  refine zzv (.pointer (some ⟨b, 0, none⟩)) ?_; clear ha; intro a ha
  refine zzd ha (ex_store (of_ := 0) 0 [.int .i64 x.node] s rfl rfl (by kernel_rfl) (by kernel_rfl) (Tryz.sizeOf3 _) rfl (by simp [Value.oneCell']) (Nat.le_of_ble_eq_true rfl)) ?_
  clear ha; rintro w a s ha
  dsimp only [List.set, putAt] at s
  refine wpList_nil ?_
  refine block_normal ?_
  refine then_normal ?_
  refine zn1 ?_
  refine zw (.agg (evv x).toArray) ha (zln 5 0) ?_; clear ha; intro a ha
  refine zzc ha (com_any W _ w x s) ?_
  rintro _ w ⟨rfl, s⟩
  refine ⟨_, rfl, ?_⟩; clear ha; intro a ha
  refine zn2 ?_
  refine zzh (comB x) ha ?_ ?_ <;> intro hb
  ·
   rw [hb] at ha; skip
   refine wp_region_lit ?_
   refine zv (.pointer (some ⟨b, 0, none⟩)) ha ?_
   refine zzv (.pointer (some ⟨g1, 4, none⟩)) ?_
   refine zzw (.int .i64 x.epoch) (zl1 5 4) ?_
   refine zzv (.pointer (some ⟨g1, 12, none⟩)) ?_
   refine zzw (.agg #[.int .i64 x.wall, .int .i64 x.logic]) (zln 5 12) ?_
   refine zzv (.agg #[.bool true, .bool false, .int .i64 x.epoch, .int .i64 x.wall, .int .i64 x.logic]) ?_
   refine zzv (.pointer (some ⟨b, 0, none⟩)) ?_
   refine zzv (.pointer (some ⟨b, 19, none⟩)) ?_; clear ha; intro a ha
   refine zzd ha (ex_store (of_ := 19) 0 [.bool true, .bool false, .int .i64 x.epoch, .int .i64 x.wall, .int .i64 x.logic] s rfl rfl (by kernel_rfl) (by kernel_rfl) (Tryz.sizeOf70 _) rfl (by simp [Value.oneCell']) (Nat.le_of_ble_eq_true rfl)) ?_
   clear ha; rintro w a s ha
   dsimp only [List.set, putAt] at s
   refine wpList_nil ?_
   refine end_with (v := .tuple #[]) ha (results_0 rfl _) ?_
   replace s := s.k5_1
   have he2 : endTx x (ownTx x (k.tx x.id)) = (⟨x.node, t.stand, true, t.ask, true, false, x.epoch, x.wall, x.logic⟩ : Tx) := by rw [← ht]; clear s ha ht2 hk2 hk ht; unfold endTx ownTx; simp [*]
   have hmo : (seeL k x).most = x.id := by clear s ha ht2 hk2 hk ht; unfold seeL; simp [*]
   replace s := Blks.close ht2 (⟨x.node, t.stand, true, t.ask, true, false, x.epoch, x.wall, x.logic⟩ : Tx) s
   replace s := s.at_ (j := 3) rfl
   replace s := s.at_ (j := 3) rfl
   replace s := s.at_ (j := 3) rfl
   rw [← ent_set ht2 (⟨x.node, t.stand, true, t.ask, true, false, x.epoch, x.wall, x.logic⟩ : Tx)] at s
   rw [ht] at ht2
   refine ⟨Dd, T2.set q (x.id, b, (⟨x.node, t.stand, true, t.ask, true, false, x.epoch, x.wall, x.logic⟩ : Tx)), rfl, hk2.own (has_iff.1 hhx).2 hid ht2 he2, ?_⟩
   rw [hmo]
   exact s
  rw [hb] at ha; skip
  refine zn1 ?_
  refine zw (.agg (evv x).toArray) ha (zln 5 0) ?_; clear ha; intro a ha
  refine zzc ha (abr_any W _ w x s) ?_
  rintro _ w ⟨rfl, s⟩
  refine ⟨_, rfl, ?_⟩; clear ha; intro a ha
  refine zn2 ?_
  refine zzh (abrB x) ha ?_ ?_ <;> intro hb
  ·
   rw [hb] at ha; skip
   refine wp_region_lit ?_
   refine zv (.pointer (some ⟨b, 0, none⟩)) ha ?_
   refine zzv (.pointer (some ⟨b, 0, none⟩)) ?_
   refine zzv (.pointer (some ⟨b, 19, none⟩)) ?_
   refine zzv (.pointer (some ⟨b, 20, none⟩)) ?_; clear ha; intro a ha
   refine zzd ha (ex_store (of_ := 20) 0 [.bool true] s rfl rfl (by kernel_rfl) (by kernel_rfl) (Tryz.sizeOf4 _) rfl (by simp [Value.oneCell']) (Nat.le_of_ble_eq_true rfl)) ?_
   clear ha; rintro w a s ha
   dsimp only [List.set, putAt] at s
   refine wpList_nil ?_
   refine end_with (v := .tuple #[]) ha (results_0 rfl _) ?_
   replace s := s.k5_1
   have he2 : endTx x (ownTx x (k.tx x.id)) = (⟨x.node, t.stand, true, t.ask, t.comm, true, t.epoch, t.wall, t.logic⟩ : Tx) := by rw [← ht]; clear s ha ht2 hk2 hk ht; unfold endTx ownTx; simp [*]
   have hmo : (seeL k x).most = x.id := by clear s ha ht2 hk2 hk ht; unfold seeL; simp [*]
   replace s := Blks.close ht2 (⟨x.node, t.stand, true, t.ask, t.comm, true, t.epoch, t.wall, t.logic⟩ : Tx) s
   replace s := s.at_ (j := 3) rfl
   replace s := s.at_ (j := 3) rfl
   replace s := s.at_ (j := 3) rfl
   rw [← ent_set ht2 (⟨x.node, t.stand, true, t.ask, t.comm, true, t.epoch, t.wall, t.logic⟩ : Tx)] at s
   rw [ht] at ht2
   refine ⟨Dd, T2.set q (x.id, b, (⟨x.node, t.stand, true, t.ask, t.comm, true, t.epoch, t.wall, t.logic⟩ : Tx)), rfl, hk2.own (has_iff.1 hhx).2 hid ht2 he2, ?_⟩
   rw [hmo]
   exact s
  rw [hb] at ha; skip
  refine wp_skip ?_
  refine end_with (v := .tuple #[]) ha (results_0 rfl _) ?_
  replace s := s.k5_1
  have he2 : endTx x (ownTx x (k.tx x.id)) = (⟨x.node, t.stand, true, t.ask, t.comm, t.abrt, t.epoch, t.wall, t.logic⟩ : Tx) := by rw [← ht]; clear s ha ht2 hk2 hk ht; unfold endTx ownTx; simp [*]
  have hmo : (seeL k x).most = x.id := by clear s ha ht2 hk2 hk ht; unfold seeL; simp [*]
  replace s := Blks.close ht2 (⟨x.node, t.stand, true, t.ask, t.comm, t.abrt, t.epoch, t.wall, t.logic⟩ : Tx) s
  replace s := s.at_ (j := 3) rfl
  replace s := s.at_ (j := 3) rfl
  replace s := s.at_ (j := 3) rfl
  rw [← ent_set ht2 (⟨x.node, t.stand, true, t.ask, t.comm, t.abrt, t.epoch, t.wall, t.logic⟩ : Tx)] at s
  rw [ht] at ht2
  refine ⟨Dd, T2.set q (x.id, b, (⟨x.node, t.stand, true, t.ask, t.comm, t.abrt, t.epoch, t.wall, t.logic⟩ : Tx)), rfl, hk2.own (has_iff.1 hhx).2 hid ht2 he2, ?_⟩
  rw [hmo]
  exact s
 rw [hb] at ha; replace hb := ne_of_beq_false hb
 refine zn1 ?_
 refine zv (.bool (x.kind == (2 : Int))) ha ?_
 refine zzv (.bool (x.kind == (2 : Int))) ?_; clear ha; intro a ha
 refine zn2 ?_
 refine zzh (x.kind == (2 : Int)) ha ?_ ?_ <;> intro hb
 ·
  rw [hb] at ha; replace hb := eq_of_beq hb
  refine wp_region_lit ?_
  refine zv (.pointer (some ⟨b, 0, none⟩)) ha ?_
  refine zzv (.pointer (some ⟨b, 0, none⟩)) ?_
  refine zzw (.agg (evv x).toArray) (zln 5 0) ?_
  refine zzv (.pointer (some ⟨b, 0, none⟩)) ?_
  refine zzv (.pointer (some ⟨b, 3, none⟩)) ?_; clear ha; intro a ha
  refine zzd ha (ex_store (of_ := 3) 0 (evv x) s rfl rfl (by kernel_rfl) (by kernel_rfl) (Tryz.sizeOf37 _) rfl (by simp [evv, txv, Value.oneCell']) (Nat.le_of_ble_eq_true rfl)) ?_
  clear ha; rintro w a s ha
  replace s : St W (.blk b [.int .i64 t.node, .int .i64 t.stand, .bool t.began, .int .i64 x.ti, .int .i64 x.kind, .int .i64 x.node, .int .i64 x.id, .int .i64 x.epoch, .int .i64 x.op, .string (str x.key), .string (str x.val), .string (str x.frm), .string (str x.to), .bool x.is, .slice x.A x.rows.length x.c, .int .i64 x.wall, .int .i64 x.logic, .int .i64 x.err, .int .i64 x.status, .bool t.comm, .bool t.abrt, .int .i64 t.epoch, .int .i64 t.wall, .int .i64 t.logic] 72 :: BRest T2 q :: .blk g [.int .i64 x.ti, .int .i64 k.most, .map (some gd), .map (some gt)] 43 :: MapT Tryz.prog 3 encI gd Dd :: MapT Tryz.prog 3 encI gt (T2.map ent) :: .blk g1 (evv x) 37 :: L) w := s
  refine zv (.pointer (some ⟨b, 0, none⟩)) ha ?_
  refine zzv (.pointer (some ⟨b, 1, none⟩)) ?_; clear ha; intro a ha
  refine zzd ha (ex_store (of_ := 1) 0 [.int .i64 1] s rfl rfl (by kernel_rfl) (by kernel_rfl) (Tryz.sizeOf3 _) rfl (by simp [Value.oneCell']) (Nat.le_of_ble_eq_true rfl)) ?_
  clear ha; rintro w a s ha
  replace s : St W (.blk b [.int .i64 t.node, .int .i64 1, .bool t.began, .int .i64 x.ti, .int .i64 x.kind, .int .i64 x.node, .int .i64 x.id, .int .i64 x.epoch, .int .i64 x.op, .string (str x.key), .string (str x.val), .string (str x.frm), .string (str x.to), .bool x.is, .slice x.A x.rows.length x.c, .int .i64 x.wall, .int .i64 x.logic, .int .i64 x.err, .int .i64 x.status, .bool t.comm, .bool t.abrt, .int .i64 t.epoch, .int .i64 t.wall, .int .i64 t.logic] 72 :: BRest T2 q :: .blk g [.int .i64 x.ti, .int .i64 k.most, .map (some gd), .map (some gt)] 43 :: MapT Tryz.prog 3 encI gd Dd :: MapT Tryz.prog 3 encI gt (T2.map ent) :: .blk g1 (evv x) 37 :: L) w := s
  refine wpList_nil ?_
  refine block_normal ?_
  refine then_normal ?_
  refine zn1 ?_
  refine zw (.agg (evv x).toArray) ha (zln 5 0) ?_; clear ha; intro a ha
  refine zzc ha (com_any W _ w x s) ?_
  rintro _ w ⟨rfl, s⟩
  refine ⟨_, rfl, ?_⟩; clear ha; intro a ha
  refine zn2 ?_
  refine zzh (comB x) ha ?_ ?_ <;> intro hb
  ·
   rw [hb] at ha; skip
   refine wp_region_lit ?_
   refine zv (.pointer (some ⟨b, 0, none⟩)) ha ?_
   refine zzv (.pointer (some ⟨g1, 4, none⟩)) ?_
   refine zzw (.int .i64 x.epoch) (zl1 5 4) ?_
   refine zzv (.pointer (some ⟨g1, 12, none⟩)) ?_
   refine zzw (.agg #[.int .i64 x.wall, .int .i64 x.logic]) (zln 5 12) ?_
   refine zzv (.agg #[.bool true, .bool false, .int .i64 x.epoch, .int .i64 x.wall, .int .i64 x.logic]) ?_
   refine zzv (.pointer (some ⟨b, 0, none⟩)) ?_
   refine zzv (.pointer (some ⟨b, 19, none⟩)) ?_; clear ha; intro a ha
   refine zzd ha (ex_store (of_ := 19) 0 [.bool true, .bool false, .int .i64 x.epoch, .int .i64 x.wall, .int .i64 x.logic] s rfl rfl (by kernel_rfl) (by kernel_rfl) (Tryz.sizeOf70 _) rfl (by simp [Value.oneCell']) (Nat.le_of_ble_eq_true rfl)) ?_
   clear ha; rintro w a s ha
   replace s : St W (.blk b [.int .i64 t.node, .int .i64 1, .bool t.began, .int .i64 x.ti, .int .i64 x.kind, .int .i64 x.node, .int .i64 x.id, .int .i64 x.epoch, .int .i64 x.op, .string (str x.key), .string (str x.val), .string (str x.frm), .string (str x.to), .bool x.is, .slice x.A x.rows.length x.c, .int .i64 x.wall, .int .i64 x.logic, .int .i64 x.err, .int .i64 x.status, .bool true, .bool false, .int .i64 x.epoch, .int .i64 x.wall, .int .i64 x.logic] 72 :: BRest T2 q :: .blk g [.int .i64 x.ti, .int .i64 k.most, .map (some gd), .map (some gt)] 43 :: MapT Tryz.prog 3 encI gd Dd :: MapT Tryz.prog 3 encI gt (T2.map ent) :: .blk g1 (evv x) 37 :: L) w := s
   refine wpList_nil ?_
   refine end_with (v := .tuple #[]) ha (results_0 rfl _) ?_
   replace s : St W (.blk b [.int .i64 t.node, .int .i64 1, .bool t.began, .int .i64 x.ti, .int .i64 x.kind, .int .i64 x.node, .int .i64 x.id, .int .i64 x.epoch, .int .i64 x.op, .string (str x.key), .string (str x.val), .string (str x.frm), .string (str x.to), .bool x.is, .slice x.A x.rows.length x.c, .int .i64 x.wall, .int .i64 x.logic, .int .i64 x.err, .int .i64 x.status, .bool true, .bool false, .int .i64 x.epoch, .int .i64 x.wall, .int .i64 x.logic] 72 :: BRest T2 q :: .blk g [.int .i64 x.ti, .int .i64 k.most, .map (some gd), .map (some gt)] 43 :: MapT Tryz.prog 3 encI gd Dd :: MapT Tryz.prog 3 encI gt (T2.map ent) :: L) w := s.keep 5 1
   have he2 : endTx x (ownTx x (k.tx x.id)) = (⟨t.node, 1, t.began, x, true, false, x.epoch, x.wall, x.logic⟩ : Tx) := by rw [← ht]; clear s ha ht2 hk2 hk ht; unfold endTx ownTx; simp [*]
   have hmo : (seeL k x).most = k.most := by clear s ha ht2 hk2 hk ht; unfold seeL; simp [*]
   replace s := Blks.close ht2 (⟨t.node, 1, t.began, x, true, false, x.epoch, x.wall, x.logic⟩ : Tx) s
   replace s := s.at_ (j := 3) rfl
   replace s := s.at_ (j := 3) rfl
   replace s := s.at_ (j := 3) rfl
   rw [← ent_set ht2 (⟨t.node, 1, t.began, x, true, false, x.epoch, x.wall, x.logic⟩ : Tx)] at s
   rw [ht] at ht2
   refine ⟨Dd, T2.set q (x.id, b, (⟨t.node, 1, t.began, x, true, false, x.epoch, x.wall, x.logic⟩ : Tx)), rfl, hk2.own (has_iff.1 hhx).2 hid ht2 he2, ?_⟩
   rw [hmo]
   exact s
  rw [hb] at ha; skip
  refine zn1 ?_
  refine zw (.agg (evv x).toArray) ha (zln 5 0) ?_; clear ha; intro a ha
  refine zzc ha (abr_any W _ w x s) ?_
  rintro _ w ⟨rfl, s⟩
  refine ⟨_, rfl, ?_⟩; clear ha; intro a ha
  refine zn2 ?_
  refine zzh (abrB x) ha ?_ ?_ <;> intro hb
  ·
   rw [hb] at ha; skip
   refine wp_region_lit ?_
   refine zv (.pointer (some ⟨b, 0, none⟩)) ha ?_
   refine zzv (.pointer (some ⟨b, 0, none⟩)) ?_
   refine zzv (.pointer (some ⟨b, 19, none⟩)) ?_
   refine zzv (.pointer (some ⟨b, 20, none⟩)) ?_; clear ha; intro a ha
   refine zzd ha (ex_store (of_ := 20) 0 [.bool true] s rfl rfl (by kernel_rfl) (by kernel_rfl) (Tryz.sizeOf4 _) rfl (by simp [Value.oneCell']) (Nat.le_of_ble_eq_true rfl)) ?_
   clear ha; rintro w a s ha
   dsimp only [List.set, putAt] at s
   refine wpList_nil ?_
   refine end_with (v := .tuple #[]) ha (results_0 rfl _) ?_
   replace s := s.k5_1
   have he2 : endTx x (ownTx x (k.tx x.id)) = (⟨t.node, 1, t.began, x, t.comm, true, t.epoch, t.wall, t.logic⟩ : Tx) := by rw [← ht]; clear s ha ht2 hk2 hk ht; unfold endTx ownTx; simp [*]
   have hmo : (seeL k x).most = k.most := by clear s ha ht2 hk2 hk ht; unfold seeL; simp [*]
   replace s := Blks.close ht2 (⟨t.node, 1, t.began, x, t.comm, true, t.epoch, t.wall, t.logic⟩ : Tx) s
   replace s := s.at_ (j := 3) rfl
   replace s := s.at_ (j := 3) rfl
   replace s := s.at_ (j := 3) rfl
   rw [← ent_set ht2 (⟨t.node, 1, t.began, x, t.comm, true, t.epoch, t.wall, t.logic⟩ : Tx)] at s
   rw [ht] at ht2
   refine ⟨Dd, T2.set q (x.id, b, (⟨t.node, 1, t.began, x, t.comm, true, t.epoch, t.wall, t.logic⟩ : Tx)), rfl, hk2.own (has_iff.1 hhx).2 hid ht2 he2, ?_⟩
   rw [hmo]
   exact s
  rw [hb] at ha; skip
  refine wp_skip ?_
  refine end_with (v := .tuple #[]) ha (results_0 rfl _) ?_
  replace s := s.k5_1
  have he2 : endTx x (ownTx x (k.tx x.id)) = (⟨t.node, 1, t.began, x, t.comm, t.abrt, t.epoch, t.wall, t.logic⟩ : Tx) := by rw [← ht]; clear s ha ht2 hk2 hk ht; unfold endTx ownTx; simp [*]
  have hmo : (seeL k x).most = k.most := by clear s ha ht2 hk2 hk ht; unfold seeL; simp [*]
  replace s := Blks.close ht2 (⟨t.node, 1, t.began, x, t.comm, t.abrt, t.epoch, t.wall, t.logic⟩ : Tx) s
  replace s := s.at_ (j := 3) rfl
  replace s := s.at_ (j := 3) rfl
  replace s := s.at_ (j := 3) rfl
  rw [← ent_set ht2 (⟨t.node, 1, t.began, x, t.comm, t.abrt, t.epoch, t.wall, t.logic⟩ : Tx)] at s
  rw [ht] at ht2
  refine ⟨Dd, T2.set q (x.id, b, (⟨t.node, 1, t.began, x, t.comm, t.abrt, t.epoch, t.wall, t.logic⟩ : Tx)), rfl, hk2.own (has_iff.1 hhx).2 hid ht2 he2, ?_⟩
  rw [hmo]
  exact s
 rw [hb] at ha; replace hb := ne_of_beq_false hb
 refine zn1 ?_
 refine zv (.bool (x.kind == (3 : Int))) ha ?_
 refine zzv (.bool (x.kind == (3 : Int))) ?_; clear ha; intro a ha
 refine zn2 ?_
 refine zzh (x.kind == (3 : Int)) ha ?_ ?_ <;> intro hb
 ·
  rw [hb] at ha; replace hb := eq_of_beq hb
  refine zn1 ?_
  refine zv (.pointer (some ⟨b, 0, none⟩)) ha ?_
  refine zzv (.pointer (some ⟨b, 0, none⟩)) ?_
  refine zzv (.pointer (some ⟨b, 1, none⟩)) ?_; clear ha; intro a ha
  refine zzd ha (ex_store (of_ := 1) 0 [.int .i64 0] s rfl rfl (by kernel_rfl) (by kernel_rfl) (Tryz.sizeOf3 _) rfl (by simp [Value.oneCell']) (Nat.le_of_ble_eq_true rfl)) ?_
  clear ha; rintro w a s ha
  dsimp only [List.set, putAt] at s
  refine zn4 ?_
  refine zv (.pointer (some ⟨g1, 14, none⟩)) ha ?_
  refine zzw (.int .i64 x.err) (zl1 5 14) ?_
  refine zzv (.bool (x.err == (0 : Int))) ?_
  refine zzv (.bool (x.err == (0 : Int))) ?_; clear ha; intro a ha
  rcases Bool.eq_false_or_eq_true (x.err == (0 : Int)) with hb | hb
  ·
   rw [hb] at ha; replace hb := eq_of_beq hb
   refine zv (.pointer (some ⟨g1, 5, none⟩)) ha ?_
   refine zzw (.int .i64 x.op) (zl1 5 5) ?_
   refine zzv (.bool (decide (x.op ≥ (6 : Int)))) ?_
   refine zzv (.bool (decide (x.op ≥ (6 : Int)))) ?_; clear ha; intro a ha
   refine zn2 ?_
   refine zzh (decide (x.op ≥ (6 : Int))) ha ?_ ?_ <;> intro hb
   ·
    rw [hb] at ha; replace hb : (x.op ≥ (6 : Int)) := of_decide_eq_true hb
    refine wp_region_lit ?_
    refine zv (.pointer (some ⟨b, 0, none⟩)) ha ?_
    refine zzv (.pointer (some ⟨b, 0, none⟩)) ?_
    refine zzv (.pointer (some ⟨b, 1, none⟩)) ?_; clear ha; intro a ha
    refine zzd ha (ex_store (of_ := 1) 0 [.int .i64 3] s rfl rfl (by kernel_rfl) (by kernel_rfl) (Tryz.sizeOf3 _) rfl (by simp [Value.oneCell']) (Nat.le_of_ble_eq_true rfl)) ?_
    clear ha; rintro w a s ha
    dsimp only [List.set, putAt] at s
    refine wpList_nil ?_
    refine block_normal ?_
    refine then_normal ?_
    refine zn1 ?_
    refine zw (.agg (evv x).toArray) ha (zln 5 0) ?_; clear ha; intro a ha
    refine zzc ha (com_any W _ w x s) ?_
    rintro _ w ⟨rfl, s⟩
    refine ⟨_, rfl, ?_⟩; clear ha; intro a ha
    refine zn2 ?_
    refine zzh (comB x) ha ?_ ?_ <;> intro hb
    ·
     rw [hb] at ha; skip
     refine wp_region_lit ?_
     refine zv (.pointer (some ⟨b, 0, none⟩)) ha ?_
     refine zzv (.pointer (some ⟨g1, 4, none⟩)) ?_
     refine zzw (.int .i64 x.epoch) (zl1 5 4) ?_
     refine zzv (.pointer (some ⟨g1, 12, none⟩)) ?_
     refine zzw (.agg #[.int .i64 x.wall, .int .i64 x.logic]) (zln 5 12) ?_
     refine zzv (.agg #[.bool true, .bool false, .int .i64 x.epoch, .int .i64 x.wall, .int .i64 x.logic]) ?_
     refine zzv (.pointer (some ⟨b, 0, none⟩)) ?_
     refine zzv (.pointer (some ⟨b, 19, none⟩)) ?_; clear ha; intro a ha
     refine zzd ha (ex_store (of_ := 19) 0 [.bool true, .bool false, .int .i64 x.epoch, .int .i64 x.wall, .int .i64 x.logic] s rfl rfl (by kernel_rfl) (by kernel_rfl) (Tryz.sizeOf70 _) rfl (by simp [Value.oneCell']) (Nat.le_of_ble_eq_true rfl)) ?_
     clear ha; rintro w a s ha
     dsimp only [List.set, putAt] at s
     refine wpList_nil ?_
     refine end_with (v := .tuple #[]) ha (results_0 rfl _) ?_
     replace s := s.k5_1
     have he2 : endTx x (ownTx x (k.tx x.id)) = (⟨t.node, 3, t.began, t.ask, true, false, x.epoch, x.wall, x.logic⟩ : Tx) := by rw [← ht]; clear s ha ht2 hk2 hk ht; unfold endTx ownTx; simp [*]
     have hmo : (seeL k x).most = k.most := by clear s ha ht2 hk2 hk ht; unfold seeL; simp [*]
     replace s := Blks.close ht2 (⟨t.node, 3, t.began, t.ask, true, false, x.epoch, x.wall, x.logic⟩ : Tx) s
     replace s := s.at_ (j := 3) rfl
     replace s := s.at_ (j := 3) rfl
     replace s := s.at_ (j := 3) rfl
     rw [← ent_set ht2 (⟨t.node, 3, t.began, t.ask, true, false, x.epoch, x.wall, x.logic⟩ : Tx)] at s
     rw [ht] at ht2
     refine ⟨Dd, T2.set q (x.id, b, (⟨t.node, 3, t.began, t.ask, true, false, x.epoch, x.wall, x.logic⟩ : Tx)), rfl, hk2.own (has_iff.1 hhx).2 hid ht2 he2, ?_⟩
     rw [hmo]
     exact s
    rw [hb] at ha; skip
    refine zn1 ?_
    refine zw (.agg (evv x).toArray) ha (zln 5 0) ?_; clear ha; intro a ha
    refine zzc ha (abr_any W _ w x s) ?_
    rintro _ w ⟨rfl, s⟩
    refine ⟨_, rfl, ?_⟩; clear ha; intro a ha
    refine zn2 ?_
    refine zzh (abrB x) ha ?_ ?_ <;> intro hb
    ·
     rw [hb] at ha; skip
     refine wp_region_lit ?_
     refine zv (.pointer (some ⟨b, 0, none⟩)) ha ?_
     refine zzv (.pointer (some ⟨b, 0, none⟩)) ?_
     refine zzv (.pointer (some ⟨b, 19, none⟩)) ?_
     refine zzv (.pointer (some ⟨b, 20, none⟩)) ?_; clear ha; intro a ha
     refine zzd ha (ex_store (of_ := 20) 0 [.bool true] s rfl rfl (by kernel_rfl) (by kernel_rfl) (Tryz.sizeOf4 _) rfl (by simp [Value.oneCell']) (Nat.le_of_ble_eq_true rfl)) ?_
     clear ha; rintro w a s ha
     dsimp only [List.set, putAt] at s
     refine wpList_nil ?_
     refine end_with (v := .tuple #[]) ha (results_0 rfl _) ?_
     replace s := s.k5_1
     have he2 : endTx x (ownTx x (k.tx x.id)) = (⟨t.node, 3, t.began, t.ask, t.comm, true, t.epoch, t.wall, t.logic⟩ : Tx) := by rw [← ht]; clear s ha ht2 hk2 hk ht; unfold endTx ownTx; simp [*]
     have hmo : (seeL k x).most = k.most := by clear s ha ht2 hk2 hk ht; unfold seeL; simp [*]
     replace s := Blks.close ht2 (⟨t.node, 3, t.began, t.ask, t.comm, true, t.epoch, t.wall, t.logic⟩ : Tx) s
     replace s := s.at_ (j := 3) rfl
     replace s := s.at_ (j := 3) rfl
     replace s := s.at_ (j := 3) rfl
     rw [← ent_set ht2 (⟨t.node, 3, t.began, t.ask, t.comm, true, t.epoch, t.wall, t.logic⟩ : Tx)] at s
     rw [ht] at ht2
     refine ⟨Dd, T2.set q (x.id, b, (⟨t.node, 3, t.began, t.ask, t.comm, true, t.epoch, t.wall, t.logic⟩ : Tx)), rfl, hk2.own (has_iff.1 hhx).2 hid ht2 he2, ?_⟩
     rw [hmo]
     exact s
    rw [hb] at ha; skip
    refine wp_skip ?_
    refine end_with (v := .tuple #[]) ha (results_0 rfl _) ?_
    replace s := s.k5_1
    have he2 : endTx x (ownTx x (k.tx x.id)) = (⟨t.node, 3, t.began, t.ask, t.comm, t.abrt, t.epoch, t.wall, t.logic⟩ : Tx) := by rw [← ht]; clear s ha ht2 hk2 hk ht; unfold endTx ownTx; simp [*]
    have hmo : (seeL k x).most = k.most := by clear s ha ht2 hk2 hk ht; unfold seeL; simp [*]
    replace s := Blks.close ht2 (⟨t.node, 3, t.began, t.ask, t.comm, t.abrt, t.epoch, t.wall, t.logic⟩ : Tx) s
    replace s := s.at_ (j := 3) rfl
    replace s := s.at_ (j := 3) rfl
    replace s := s.at_ (j := 3) rfl
    rw [← ent_set ht2 (⟨t.node, 3, t.began, t.ask, t.comm, t.abrt, t.epoch, t.wall, t.logic⟩ : Tx)] at s
    rw [ht] at ht2
    refine ⟨Dd, T2.set q (x.id, b, (⟨t.node, 3, t.began, t.ask, t.comm, t.abrt, t.epoch, t.wall, t.logic⟩ : Tx)), rfl, hk2.own (has_iff.1 hhx).2 hid ht2 he2, ?_⟩
    rw [hmo]
    exact s
   rw [hb] at ha; replace hb : ¬ (x.op ≥ (6 : Int)) := of_decide_eq_false hb
   refine wp_skip ?_
   refine block_normal ?_
   refine then_normal ?_
   refine zn1 ?_
   refine zw (.agg (evv x).toArray) ha (zln 5 0) ?_; clear ha; intro a ha
   refine zzc ha (com_any W _ w x s) ?_
   rintro _ w ⟨rfl, s⟩
   refine ⟨_, rfl, ?_⟩; clear ha; intro a ha
   refine zn2 ?_
   refine zzh (comB x) ha ?_ ?_ <;> intro hb
   ·
    rw [hb] at ha; skip
    refine wp_region_lit ?_
    refine zv (.pointer (some ⟨b, 0, none⟩)) ha ?_
    refine zzv (.pointer (some ⟨g1, 4, none⟩)) ?_
    refine zzw (.int .i64 x.epoch) (zl1 5 4) ?_
    refine zzv (.pointer (some ⟨g1, 12, none⟩)) ?_
    refine zzw (.agg #[.int .i64 x.wall, .int .i64 x.logic]) (zln 5 12) ?_
    refine zzv (.agg #[.bool true, .bool false, .int .i64 x.epoch, .int .i64 x.wall, .int .i64 x.logic]) ?_
    refine zzv (.pointer (some ⟨b, 0, none⟩)) ?_
    refine zzv (.pointer (some ⟨b, 19, none⟩)) ?_; clear ha; intro a ha
    refine zzd ha (ex_store (of_ := 19) 0 [.bool true, .bool false, .int .i64 x.epoch, .int .i64 x.wall, .int .i64 x.logic] s rfl rfl (by kernel_rfl) (by kernel_rfl) (Tryz.sizeOf70 _) rfl (by simp [Value.oneCell']) (Nat.le_of_ble_eq_true rfl)) ?_
    clear ha; rintro w a s ha
    dsimp only [List.set, putAt] at s
    refine wpList_nil ?_
    refine end_with (v := .tuple #[]) ha (results_0 rfl _) ?_
    replace s := s.k5_1
    have he2 : endTx x (ownTx x (k.tx x.id)) = (⟨t.node, 0, t.began, t.ask, true, false, x.epoch, x.wall, x.logic⟩ : Tx) := by rw [← ht]; clear s ha ht2 hk2 hk ht; unfold endTx ownTx; simp [*]
    have hmo : (seeL k x).most = k.most := by clear s ha ht2 hk2 hk ht; unfold seeL; simp [*]
    replace s := Blks.close ht2 (⟨t.node, 0, t.began, t.ask, true, false, x.epoch, x.wall, x.logic⟩ : Tx) s
    replace s := s.at_ (j := 3) rfl
    replace s := s.at_ (j := 3) rfl
    replace s := s.at_ (j := 3) rfl
    rw [← ent_set ht2 (⟨t.node, 0, t.began, t.ask, true, false, x.epoch, x.wall, x.logic⟩ : Tx)] at s
    rw [ht] at ht2
    refine ⟨Dd, T2.set q (x.id, b, (⟨t.node, 0, t.began, t.ask, true, false, x.epoch, x.wall, x.logic⟩ : Tx)), rfl, hk2.own (has_iff.1 hhx).2 hid ht2 he2, ?_⟩
    rw [hmo]
    exact s
   rw [hb] at ha; skip
   refine zn1 ?_
   refine zw (.agg (evv x).toArray) ha (zln 5 0) ?_; clear ha; intro a ha
   refine zzc ha (abr_any W _ w x s) ?_
   rintro _ w ⟨rfl, s⟩
   refine ⟨_, rfl, ?_⟩; clear ha; intro a ha
   refine zn2 ?_
   refine zzh (abrB x) ha ?_ ?_ <;> intro hb
   ·
    rw [hb] at ha; skip
    refine wp_region_lit ?_
    refine zv (.pointer (some ⟨b, 0, none⟩)) ha ?_
    refine zzv (.pointer (some ⟨b, 0, none⟩)) ?_
    refine zzv (.pointer (some ⟨b, 19, none⟩)) ?_
    refine zzv (.pointer (some ⟨b, 20, none⟩)) ?_; clear ha; intro a ha
    refine zzd ha (ex_store (of_ := 20) 0 [.bool true] s rfl rfl (by kernel_rfl) (by kernel_rfl) (Tryz.sizeOf4 _) rfl (by simp [Value.oneCell']) (Nat.le_of_ble_eq_true rfl)) ?_
    clear ha; rintro w a s ha
    dsimp only [List.set, putAt] at s
    refine wpList_nil ?_
    refine end_with (v := .tuple #[]) ha (results_0 rfl _) ?_
    replace s := s.k5_1
    have he2 : endTx x (ownTx x (k.tx x.id)) = (⟨t.node, 0, t.began, t.ask, t.comm, true, t.epoch, t.wall, t.logic⟩ : Tx) := by rw [← ht]; clear s ha ht2 hk2 hk ht; unfold endTx ownTx; simp [*]
    have hmo : (seeL k x).most = k.most := by clear s ha ht2 hk2 hk ht; unfold seeL; simp [*]
    replace s := Blks.close ht2 (⟨t.node, 0, t.began, t.ask, t.comm, true, t.epoch, t.wall, t.logic⟩ : Tx) s
    replace s := s.at_ (j := 3) rfl
    replace s := s.at_ (j := 3) rfl
    replace s := s.at_ (j := 3) rfl
    rw [← ent_set ht2 (⟨t.node, 0, t.began, t.ask, t.comm, true, t.epoch, t.wall, t.logic⟩ : Tx)] at s
    rw [ht] at ht2
    refine ⟨Dd, T2.set q (x.id, b, (⟨t.node, 0, t.began, t.ask, t.comm, true, t.epoch, t.wall, t.logic⟩ : Tx)), rfl, hk2.own (has_iff.1 hhx).2 hid ht2 he2, ?_⟩
    rw [hmo]
    exact s
   rw [hb] at ha; skip
   refine wp_skip ?_
   refine end_with (v := .tuple #[]) ha (results_0 rfl _) ?_
   replace s := s.k5_1
   have he2 : endTx x (ownTx x (k.tx x.id)) = (⟨t.node, 0, t.began, t.ask, t.comm, t.abrt, t.epoch, t.wall, t.logic⟩ : Tx) := by rw [← ht]; clear s ha ht2 hk2 hk ht; unfold endTx ownTx; simp [*]
   have hmo : (seeL k x).most = k.most := by clear s ha ht2 hk2 hk ht; unfold seeL; simp [*]
   replace s := Blks.close ht2 (⟨t.node, 0, t.began, t.ask, t.comm, t.abrt, t.epoch, t.wall, t.logic⟩ : Tx) s
   replace s := s.at_ (j := 3) rfl
   replace s := s.at_ (j := 3) rfl
   replace s := s.at_ (j := 3) rfl
   rw [← ent_set ht2 (⟨t.node, 0, t.began, t.ask, t.comm, t.abrt, t.epoch, t.wall, t.logic⟩ : Tx)] at s
   rw [ht] at ht2
   refine ⟨Dd, T2.set q (x.id, b, (⟨t.node, 0, t.began, t.ask, t.comm, t.abrt, t.epoch, t.wall, t.logic⟩ : Tx)), rfl, hk2.own (has_iff.1 hhx).2 hid ht2 he2, ?_⟩
   rw [hmo]
   exact s
  rw [hb] at ha; replace hb := ne_of_beq_false hb
  refine zp ha ?_
  iterate 2 refine zzp ?_
  refine zzv (.bool false) ?_; clear ha; intro a ha
  refine zn2 ?_
  refine wp_false ha rfl (by kernel_rfl) ?_
  refine wp_skip ?_
  refine block_normal ?_
  refine then_normal ?_
  refine zn1 ?_
  refine zw (.agg (evv x).toArray) ha (zln 5 0) ?_; clear ha; intro a ha
  refine zzc ha (com_any W _ w x s) ?_
  rintro _ w ⟨rfl, s⟩
  refine ⟨_, rfl, ?_⟩; clear ha; intro a ha
  refine zn2 ?_
  refine zzh (comB x) ha ?_ ?_ <;> intro hb
  ·
   rw [hb] at ha; skip
   refine wp_region_lit ?_
   refine zv (.pointer (some ⟨b, 0, none⟩)) ha ?_
   refine zzv (.pointer (some ⟨g1, 4, none⟩)) ?_
   refine zzw (.int .i64 x.epoch) (zl1 5 4) ?_
   refine zzv (.pointer (some ⟨g1, 12, none⟩)) ?_
   refine zzw (.agg #[.int .i64 x.wall, .int .i64 x.logic]) (zln 5 12) ?_
   refine zzv (.agg #[.bool true, .bool false, .int .i64 x.epoch, .int .i64 x.wall, .int .i64 x.logic]) ?_
   refine zzv (.pointer (some ⟨b, 0, none⟩)) ?_
   refine zzv (.pointer (some ⟨b, 19, none⟩)) ?_; clear ha; intro a ha
   refine zzd ha (ex_store (of_ := 19) 0 [.bool true, .bool false, .int .i64 x.epoch, .int .i64 x.wall, .int .i64 x.logic] s rfl rfl (by kernel_rfl) (by kernel_rfl) (Tryz.sizeOf70 _) rfl (by simp [Value.oneCell']) (Nat.le_of_ble_eq_true rfl)) ?_
   clear ha; rintro w a s ha
   dsimp only [List.set, putAt] at s
   refine wpList_nil ?_
   refine end_with (v := .tuple #[]) ha (results_0 rfl _) ?_
   replace s := s.k5_1
   have he2 : endTx x (ownTx x (k.tx x.id)) = (⟨t.node, 0, t.began, t.ask, true, false, x.epoch, x.wall, x.logic⟩ : Tx) := by rw [← ht]; clear s ha ht2 hk2 hk ht; unfold endTx ownTx; simp [*]
   have hmo : (seeL k x).most = k.most := by clear s ha ht2 hk2 hk ht; unfold seeL; simp [*]
   replace s := Blks.close ht2 (⟨t.node, 0, t.began, t.ask, true, false, x.epoch, x.wall, x.logic⟩ : Tx) s
   replace s := s.at_ (j := 3) rfl
   replace s := s.at_ (j := 3) rfl
   replace s := s.at_ (j := 3) rfl
   rw [← ent_set ht2 (⟨t.node, 0, t.began, t.ask, true, false, x.epoch, x.wall, x.logic⟩ : Tx)] at s
   rw [ht] at ht2
   refine ⟨Dd, T2.set q (x.id, b, (⟨t.node, 0, t.began, t.ask, true, false, x.epoch, x.wall, x.logic⟩ : Tx)), rfl, hk2.own (has_iff.1 hhx).2 hid ht2 he2, ?_⟩
   rw [hmo]
   exact s
  rw [hb] at ha; skip
  refine zn1 ?_
  refine zw (.agg (evv x).toArray) ha (zln 5 0) ?_; clear ha; intro a ha
  refine zzc ha (abr_any W _ w x s) ?_
  rintro _ w ⟨rfl, s⟩
  refine ⟨_, rfl, ?_⟩; clear ha; intro a ha
  refine zn2 ?_
  refine zzh (abrB x) ha ?_ ?_ <;> intro hb
  ·
   rw [hb] at ha; skip
   refine wp_region_lit ?_
   refine zv (.pointer (some ⟨b, 0, none⟩)) ha ?_
   refine zzv (.pointer (some ⟨b, 0, none⟩)) ?_
   refine zzv (.pointer (some ⟨b, 19, none⟩)) ?_
   refine zzv (.pointer (some ⟨b, 20, none⟩)) ?_; clear ha; intro a ha
   refine zzd ha (ex_store (of_ := 20) 0 [.bool true] s rfl rfl (by kernel_rfl) (by kernel_rfl) (Tryz.sizeOf4 _) rfl (by simp [Value.oneCell']) (Nat.le_of_ble_eq_true rfl)) ?_
   clear ha; rintro w a s ha
   dsimp only [List.set, putAt] at s
   refine wpList_nil ?_
   refine end_with (v := .tuple #[]) ha (results_0 rfl _) ?_
   replace s := s.k5_1
   have he2 : endTx x (ownTx x (k.tx x.id)) = (⟨t.node, 0, t.began, t.ask, t.comm, true, t.epoch, t.wall, t.logic⟩ : Tx) := by rw [← ht]; clear s ha ht2 hk2 hk ht; unfold endTx ownTx; simp [*]
   have hmo : (seeL k x).most = k.most := by clear s ha ht2 hk2 hk ht; unfold seeL; simp [*]
   replace s := Blks.close ht2 (⟨t.node, 0, t.began, t.ask, t.comm, true, t.epoch, t.wall, t.logic⟩ : Tx) s
   replace s := s.at_ (j := 3) rfl
   replace s := s.at_ (j := 3) rfl
   replace s := s.at_ (j := 3) rfl
   rw [← ent_set ht2 (⟨t.node, 0, t.began, t.ask, t.comm, true, t.epoch, t.wall, t.logic⟩ : Tx)] at s
   rw [ht] at ht2
   refine ⟨Dd, T2.set q (x.id, b, (⟨t.node, 0, t.began, t.ask, t.comm, true, t.epoch, t.wall, t.logic⟩ : Tx)), rfl, hk2.own (has_iff.1 hhx).2 hid ht2 he2, ?_⟩
   rw [hmo]
   exact s
  rw [hb] at ha; skip
  refine wp_skip ?_
  refine end_with (v := .tuple #[]) ha (results_0 rfl _) ?_
  replace s := s.k5_1
  have he2 : endTx x (ownTx x (k.tx x.id)) = (⟨t.node, 0, t.began, t.ask, t.comm, t.abrt, t.epoch, t.wall, t.logic⟩ : Tx) := by rw [← ht]; clear s ha ht2 hk2 hk ht; unfold endTx ownTx; simp [*]
  have hmo : (seeL k x).most = k.most := by clear s ha ht2 hk2 hk ht; unfold seeL; simp [*]
  replace s := Blks.close ht2 (⟨t.node, 0, t.began, t.ask, t.comm, t.abrt, t.epoch, t.wall, t.logic⟩ : Tx) s
  replace s := s.at_ (j := 3) rfl
  replace s := s.at_ (j := 3) rfl
  replace s := s.at_ (j := 3) rfl
  rw [← ent_set ht2 (⟨t.node, 0, t.began, t.ask, t.comm, t.abrt, t.epoch, t.wall, t.logic⟩ : Tx)] at s
  rw [ht] at ht2
  refine ⟨Dd, T2.set q (x.id, b, (⟨t.node, 0, t.began, t.ask, t.comm, t.abrt, t.epoch, t.wall, t.logic⟩ : Tx)), rfl, hk2.own (has_iff.1 hhx).2 hid ht2 he2, ?_⟩
  rw [hmo]
  exact s
 rw [hb] at ha; replace hb := ne_of_beq_false hb
 refine wp_skip ?_
 refine block_normal ?_
 refine then_normal ?_
 refine zn1 ?_
 refine zw (.agg (evv x).toArray) ha (zln 5 0) ?_; clear ha; intro a ha
 refine zzc ha (com_any W _ w x s) ?_
 rintro _ w ⟨rfl, s⟩
 refine ⟨_, rfl, ?_⟩; clear ha; intro a ha
 refine zn2 ?_
 refine zzh (comB x) ha ?_ ?_ <;> intro hb
 ·
  rw [hb] at ha; skip
  refine wp_region_lit ?_
  refine zv (.pointer (some ⟨b, 0, none⟩)) ha ?_
  refine zzv (.pointer (some ⟨g1, 4, none⟩)) ?_
  refine zzw (.int .i64 x.epoch) (zl1 5 4) ?_
  refine zzv (.pointer (some ⟨g1, 12, none⟩)) ?_
  refine zzw (.agg #[.int .i64 x.wall, .int .i64 x.logic]) (zln 5 12) ?_
  refine zzv (.agg #[.bool true, .bool false, .int .i64 x.epoch, .int .i64 x.wall, .int .i64 x.logic]) ?_
  refine zzv (.pointer (some ⟨b, 0, none⟩)) ?_
  refine zzv (.pointer (some ⟨b, 19, none⟩)) ?_; clear ha; intro a ha
  refine zzd ha (ex_store (of_ := 19) 0 [.bool true, .bool false, .int .i64 x.epoch, .int .i64 x.wall, .int .i64 x.logic] s rfl rfl (by kernel_rfl) (by kernel_rfl) (Tryz.sizeOf70 _) rfl (by simp [Value.oneCell']) (Nat.le_of_ble_eq_true rfl)) ?_
  clear ha; rintro w a s ha
  dsimp only [List.set, putAt] at s
  refine wpList_nil ?_
  refine end_with (v := .tuple #[]) ha (results_0 rfl _) ?_
  replace s := s.k5_1
  have he2 : endTx x (ownTx x (k.tx x.id)) = (⟨t.node, t.stand, t.began, t.ask, true, false, x.epoch, x.wall, x.logic⟩ : Tx) := by rw [← ht]; clear s ha ht2 hk2 hk ht; unfold endTx ownTx; simp [*]
  have hmo : (seeL k x).most = k.most := by clear s ha ht2 hk2 hk ht; unfold seeL; simp [*]
  replace s := Blks.close ht2 (⟨t.node, t.stand, t.began, t.ask, true, false, x.epoch, x.wall, x.logic⟩ : Tx) s
  replace s := s.at_ (j := 3) rfl
  replace s := s.at_ (j := 3) rfl
  replace s := s.at_ (j := 3) rfl
  rw [← ent_set ht2 (⟨t.node, t.stand, t.began, t.ask, true, false, x.epoch, x.wall, x.logic⟩ : Tx)] at s
  rw [ht] at ht2
  refine ⟨Dd, T2.set q (x.id, b, (⟨t.node, t.stand, t.began, t.ask, true, false, x.epoch, x.wall, x.logic⟩ : Tx)), rfl, hk2.own (has_iff.1 hhx).2 hid ht2 he2, ?_⟩
  rw [hmo]
  exact s
 rw [hb] at ha; skip
 refine zn1 ?_
 refine zw (.agg (evv x).toArray) ha (zln 5 0) ?_; clear ha; intro a ha
 refine zzc ha (abr_any W _ w x s) ?_
 rintro _ w ⟨rfl, s⟩
 refine ⟨_, rfl, ?_⟩; clear ha; intro a ha
 refine zn2 ?_
 refine zzh (abrB x) ha ?_ ?_ <;> intro hb
 ·
  rw [hb] at ha; skip
  refine wp_region_lit ?_
  refine zv (.pointer (some ⟨b, 0, none⟩)) ha ?_
  refine zzv (.pointer (some ⟨b, 0, none⟩)) ?_
  refine zzv (.pointer (some ⟨b, 19, none⟩)) ?_
  refine zzv (.pointer (some ⟨b, 20, none⟩)) ?_; clear ha; intro a ha
  refine zzd ha (ex_store (of_ := 20) 0 [.bool true] s rfl rfl (by kernel_rfl) (by kernel_rfl) (Tryz.sizeOf4 _) rfl (by simp [Value.oneCell']) (Nat.le_of_ble_eq_true rfl)) ?_
  clear ha; rintro w a s ha
  dsimp only [List.set, putAt] at s
  refine wpList_nil ?_
  refine end_with (v := .tuple #[]) ha (results_0 rfl _) ?_
  replace s := s.k5_1
  have he2 : endTx x (ownTx x (k.tx x.id)) = (⟨t.node, t.stand, t.began, t.ask, t.comm, true, t.epoch, t.wall, t.logic⟩ : Tx) := by rw [← ht]; clear s ha ht2 hk2 hk ht; unfold endTx ownTx; simp [*]
  have hmo : (seeL k x).most = k.most := by clear s ha ht2 hk2 hk ht; unfold seeL; simp [*]
  replace s := Blks.close ht2 (⟨t.node, t.stand, t.began, t.ask, t.comm, true, t.epoch, t.wall, t.logic⟩ : Tx) s
  replace s := s.at_ (j := 3) rfl
  replace s := s.at_ (j := 3) rfl
  replace s := s.at_ (j := 3) rfl
  rw [← ent_set ht2 (⟨t.node, t.stand, t.began, t.ask, t.comm, true, t.epoch, t.wall, t.logic⟩ : Tx)] at s
  rw [ht] at ht2
  refine ⟨Dd, T2.set q (x.id, b, (⟨t.node, t.stand, t.began, t.ask, t.comm, true, t.epoch, t.wall, t.logic⟩ : Tx)), rfl, hk2.own (has_iff.1 hhx).2 hid ht2 he2, ?_⟩
  rw [hmo]
  exact s
 rw [hb] at ha; skip
 refine wp_skip ?_
 refine end_with (v := .tuple #[]) ha (results_0 rfl _) ?_
 replace s := s.k5_1
 have he2 : endTx x (ownTx x (k.tx x.id)) = (⟨t.node, t.stand, t.began, t.ask, t.comm, t.abrt, t.epoch, t.wall, t.logic⟩ : Tx) := by rw [← ht]; clear s ha ht2 hk2 hk ht; unfold endTx ownTx; simp [*]
 have hmo : (seeL k x).most = k.most := by clear s ha ht2 hk2 hk ht; unfold seeL; simp [*]
 replace s := Blks.close ht2 (⟨t.node, t.stand, t.began, t.ask, t.comm, t.abrt, t.epoch, t.wall, t.logic⟩ : Tx) s
 replace s := s.at_ (j := 3) rfl
 replace s := s.at_ (j := 3) rfl
 replace s := s.at_ (j := 3) rfl
 rw [← ent_set ht2 (⟨t.node, t.stand, t.began, t.ask, t.comm, t.abrt, t.epoch, t.wall, t.logic⟩ : Tx)] at s
 rw [ht] at ht2
 refine ⟨Dd, T2.set q (x.id, b, (⟨t.node, t.stand, t.began, t.ask, t.comm, t.abrt, t.epoch, t.wall, t.logic⟩ : Tx)), rfl, hk2.own (has_iff.1 hhx).2 hid ht2 he2, ?_⟩
 rw [hmo]
 exact s

end Go.Proofs.YtfcbjcohepkkfaaGreat.B
