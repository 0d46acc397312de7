import Derived.Test.YtfcbjcohepkkfaaJ4
namespace Go.Proofs.Ytfcbjcohepkkfaa.B
open Go.RowKit Go.Maps Go.Sort Go.Shelf Go.Proofs.Ytfcbjcohepkkfaa.Sep Go.Proofs.Ytfcbjcohepkkfaa.P
set_option linter.unusedVariables false
set_option linter.unusedSimpArgs false
theorem MapI.back {W w : World} {L : List Chunk} {g gi : Nat} {T T2 : List (Int × Nat × Tx)} {V : List Nat} (e : T2.map ent = T.map ent) (s : St W (MapI Try.prog 3 encI g (T.map ent) gi V :: L) w) : St W (MapT Try.prog 3 encI g (T2.map ent) :: L) w := by
  rw [e]; exact MapI.done s

set_option maxHeartbeats 4000000 in
theorem see_any (W : World) (L : List Chunk) (w : World) (g gd gt : Nat) (k : Look) (Dd : List (Int × Value)) (T : List (Int × Nat × Tx)) (n : Nat) (hk : LkOk k Dd T n) (hn : n ≤ 1000000) (x : Ev) (hmx : mayB k.ti x = true) (s : St W (Chunk.blk g [.int .i64 k.ti, .int .i64 k.most, .map (some gd), .map (some gt)] 48 :: MapT Try.prog 3 encI gd Dd :: MapT Try.prog 3 encI gt (T.map ent) :: Blks T :: L) w) :
    Calls Try.prog 22 #[.pointer (some ⟨g, 0, none⟩), .agg (evv x).toArray] w fun e w' => ∃ (Dd2 : List (Int × Value)) (T2 : List (Int × Nat × Tx)), e = .returned (.tuple #[]) ∧ LkOk (seeL k x) Dd2 T2 (n + 1) ∧ St W (Chunk.blk g [.int .i64 (seeL k x).ti, .int .i64 (seeL k x).most, .map (some gd), .map (some gt)] 48 :: MapT Try.prog 3 encI gd Dd2 :: MapT Try.prog 3 encI gt (T2.map ent) :: Blks T2 :: L) w' := by
  have hmn := may_node hmx
  refine enter_args (l := [.pointer (some ⟨g, 0, none⟩), .agg (evv x).toArray]) Try.func22 rfl rfl (Nat.le_of_ble_eq_true rfl) ?_
  intro a ha; replace ha : Has a 111 [(0, .pointer (some ⟨g, 0, none⟩)), (1, .agg (evv x).toArray)] := ha
  refine wp_seq ?_
  refine wp_region_lit ?_
  refine st_ex ha (by kernel_rfl) (ex_box (evv x) s rfl (by kernel_rfl)) ?_
  clear ha; rintro _ w a ⟨g1, rfl, s⟩ ha
  refine wpList_nil ?_
  refine then_normal ?_
  refine wp_seq ?_
  refine wp_region_lit ?_
  refine st_val (.pointer (some ⟨g, 0, none⟩)) ha (by kernel_rfl) (by kernel_rfl) ?_
  clear ha; intro a ha
  refine st_val (.pointer (some ⟨g1, 0, none⟩)) ha (by kernel_rfl) (by kernel_rfl) ?_
  clear ha; intro a ha
  refine st_val (.int .i64 x.ti) ha (by kernel_rfl) (run_load1 (of_ := 0) (s.blkIs 0 rfl) rfl (by kernel_rfl) Try.isAgg3 rfl) ?_
  clear ha; intro a ha
  refine st_val (.pointer (some ⟨g, 0, none⟩)) ha (by kernel_rfl) (by kernel_rfl) ?_
  clear ha; intro a ha
  refine st_val (.pointer (some ⟨g, 0, none⟩)) ha (by kernel_rfl) (by kernel_rfl) ?_
  clear ha; intro a ha
  refine st_exd ha (by kernel_rfl) (ex_store (of_ := 0) 1 [.int .i64 x.ti] s rfl rfl (by kernel_rfl) (by kernel_rfl) (Try.sizeOf3 _) rfl (by simp [Value.oneCell']) (Nat.le_of_ble_eq_true rfl)) ?_
  clear ha; rintro w a s ha
  replace s : St W (.blk g1 (evv x) 36 :: .blk g [.int .i64 x.ti, .int .i64 k.most, .map (some gd), .map (some gt)] 48 :: MapT Try.prog 3 encI gd Dd :: MapT Try.prog 3 encI gt (T.map ent) :: Blks T :: L) w := s
  refine wpList_nil ?_
  refine then_normal ?_
  refine wp_seq ?_
  refine wp_seq ?_
  refine wp_region_lit ?_
  refine st_val (.pointer (some ⟨g1, 1, none⟩)) ha (by kernel_rfl) (by kernel_rfl) ?_
  clear ha; intro a ha
  refine st_val (.int .i64 x.kind) ha (by kernel_rfl) (run_load1 (of_ := 1) (s.blkIs 0 rfl) rfl (by kernel_rfl) Try.isAgg3 rfl) ?_
  clear ha; intro a ha
  refine wpList_nil ?_
  refine then_normal ?_
  refine wp_block ?_
  refine wp_seq ?_
  refine wp_region_lit ?_
  refine st_val (.bool (x.kind == (5 : Int))) ha (by kernel_rfl) (by kernel_rfl) ?_
  clear ha; intro a ha
  refine st_val (.bool (x.kind == (5 : Int))) ha (by kernel_rfl) (by kernel_rfl) ?_
  clear ha; intro a ha
  refine wpList_nil ?_
  refine then_normal ?_
  refine wp_part (x.kind == (5 : Int)) ha rfl (by kernel_rfl) (fun hb => ?_) (fun hb => ?_)
  · rw [hb] at ha; have hb_ := hb; replace hb := eq_of_beq hb
    refine wp_seq ?_
    refine wp_region_head 6 (fun w => BlkIs g [.int .i64 x.ti, .int .i64 k.most, .map (some gd), .map (some gt)] w ∧ BlkIs g1 (evv x) w ∧ True) (by kernel_rfl) (by decide) ?_
    replace s := s.drew; generalize _root_.Go.World.drew _ = w at s ⊢
    have hS : (fun w => BlkIs g [.int .i64 x.ti, .int .i64 k.most, .map (some gd), .map (some gt)] w ∧ BlkIs g1 (evv x) w ∧ True) w := ⟨s.blkIs 1 rfl, s.blkIs 0 rfl, trivial⟩
    refine hd_val (i := 0) (.pointer (some ⟨g, 0, none⟩)) ha rfl (by kernel_rfl) (fun _ _ _ h => h) (by kernel_rfl) (fun w hS => (by kernel_rfl)) hS ?_
    clear ha; intro a ha
    refine hd_val (i := 1) (.pointer (some ⟨g, 0, none⟩)) ha rfl (by kernel_rfl) (fun _ _ _ h => h) (by kernel_rfl) (fun w hS => (by kernel_rfl)) hS ?_
    clear ha; intro a ha
    refine hd_val (i := 2) (.pointer (some ⟨g, 2, none⟩)) ha rfl (by kernel_rfl) (fun _ _ _ h => h) (by kernel_rfl) (fun w hS => (by kernel_rfl)) hS ?_
    clear ha; intro a ha
    refine hd_val (i := 3) (.map (some gd)) ha rfl (by kernel_rfl) (fun _ _ _ h => h) (by kernel_rfl) (fun w hS => run_load1 (of_ := 2) hS.1 rfl (by kernel_rfl) Try.isAgg45 rfl) hS ?_
    clear ha; intro a ha
    refine hd_val (i := 4) (.pointer (some ⟨g1, 2, none⟩)) ha rfl (by kernel_rfl) (fun _ _ _ h => h) (by kernel_rfl) (fun w hS => (by kernel_rfl)) hS ?_
    clear ha; intro a ha
    refine hd_val (i := 5) (.int .i64 x.node) ha rfl (by kernel_rfl) (fun _ _ _ h => h) (by kernel_rfl) (fun w hS => run_load1 (of_ := 2) hS.2.1 rfl (by kernel_rfl) Try.isAgg3 rfl) hS ?_
    clear ha; intro a ha
    refine Head.done (by kernel_rfl) ?_
    clear hS; simp only [List.drop_succ_cons, List.drop_zero]
    refine st_exd ha (by kernel_rfl) (ex_mapUpdate (a := x.node) 2 (.bool true) s rfl rfl (by kernel_rfl) (by kernel_rfl) (by kernel_rfl) encI_inj keyed3 Try.underlying45 (key3 (by omega)) (by have := hk.room.1; simp only [maxLen]; omega)) ?_
    clear ha; rintro w a s ha
    replace s : St W (.blk g1 (evv x) 36 :: .blk g [.int .i64 x.ti, .int .i64 k.most, .map (some gd), .map (some gt)] 48 :: MapT Try.prog 3 encI gd (mput Dd x.node (.bool true)) :: MapT Try.prog 3 encI gt (T.map ent) :: Blks T :: L) w := s
    refine wpList_nil ?_
    refine then_normal ?_
    refine wp_seq ?_
    refine wp_seq ?_
    refine wp_region_lit ?_
    refine st_val (.pointer (some ⟨g, 0, none⟩)) ha (by kernel_rfl) (by kernel_rfl) ?_
    clear ha; intro a ha
    refine st_val (.pointer (some ⟨g, 0, none⟩)) ha (by kernel_rfl) (by kernel_rfl) ?_
    clear ha; intro a ha
    refine st_val (.pointer (some ⟨g, 3, none⟩)) ha (by kernel_rfl) (by kernel_rfl) ?_
    clear ha; intro a ha
    refine st_val (.map (some gt)) ha (by kernel_rfl) (run_load1 (of_ := 3) (s.blkIs 1 rfl) rfl (by kernel_rfl) Try.isAgg46 rfl) ?_
    clear ha; intro a ha
    refine st_ex ha (by kernel_rfl) (ex_range 3 s rfl rfl (by kernel_rfl) Try.underlying46) ?_
    clear ha; rintro _ w a ⟨gi2, rfl, s⟩ ha
    replace s : St W (.blk g1 (evv x) 36 :: .blk g [.int .i64 x.ti, .int .i64 k.most, .map (some gd), .map (some gt)] 48 :: MapT Try.prog 3 encI gd (mput Dd x.node (.bool true)) :: MapI Try.prog 3 encI gt (T.map ent) gi2 [] :: Blks T :: L) w := s
    refine wpList_nil ?_
    refine then_normal ?_
    refine wp_block ?_
    replace s := (((s.at_ (j := 4) rfl).at_ (j := 4) rfl).at_ (j := 4) rfl).at_ (j := 4) rfl
    replace s : St W (.blk g [.int .i64 x.ti, .int .i64 k.most, .map (some gd), .map (some gt)] 48 :: MapT Try.prog 3 encI gd (mput Dd x.node (.bool true)) :: MapI Try.prog 3 encI gt (T.map ent) gi2 [] :: Blks T :: .blk g1 (evv x) 36 :: L) w := s
    replace s : St W (.blk g [.int .i64 x.ti, .int .i64 k.most, .map (some gd), .map (some gt)] 48 :: MapT Try.prog 3 encI gd (mput Dd x.node (.bool true)) :: MapI Try.prog 3 encI gt (T.map ent) gi2 [] :: Blks (dnAt x.node [] T) :: .blk g1 (evv x) 36 :: L) w := by rw [dnAt_nil]; exact s
    refine wp_loopG (G := (List Nat)) (fun V a w => Has a 111 [(0, .pointer (some ⟨g, 0, none⟩)), (3, .pointer (some ⟨g1, 0, none⟩)), (26, .pointer (some ⟨gi2, 0, none⟩))] ∧ St W (.blk g [.int .i64 x.ti, .int .i64 k.most, .map (some gd), .map (some gt)] 48 :: MapT Try.prog 3 encI gd (mput Dd x.node (.bool true)) :: MapI Try.prog 3 encI gt (T.map ent) gi2 V :: Blks (dnAt x.node V T) :: .blk g1 (evv x) 36 :: L) w ∧ True) (fun V => ((List.range T.length).filter fun r => decide (r ∉ V)).length) [] ?_ ?_
    · exact ⟨(Has.cons ha (by kernel_rfl) (by kernel_rfl) (Has.cons ha (by kernel_rfl) (by kernel_rfl) (Has.cons ha (by kernel_rfl) (by kernel_rfl) (Has.nil ha)))), s, trivial⟩
    · clear ha s; rintro V a w ⟨ha, s, hp⟩
      refine wp_seq ?_
      refine wp_region_lit ?_
      refine st_ex ha (by kernel_rfl) (ex_next 2 s rfl rfl (by kernel_rfl)) ?_
      clear ha; rintro _ w a (⟨rfl, hall, s⟩ | ⟨q3, pq3, hpq3, hnq3, rfl, s⟩) ha
      · skip
        replace s : St W (.blk g [.int .i64 x.ti, .int .i64 k.most, .map (some gd), .map (some gt)] 48 :: MapT Try.prog 3 encI gd (mput Dd x.node (.bool true)) :: MapI Try.prog 3 encI gt (T.map ent) gi2 V :: Blks (dnAt x.node V T) :: .blk g1 (evv x) 36 :: L) w := s
        refine st_val (.bool false) ha (by kernel_rfl) (by kernel_rfl) ?_
        clear ha; intro a ha
        refine wpList_nil ?_
        refine then_normal ?_
        refine wp_seq ?_
        refine wp_false ha rfl (by kernel_rfl) ?_
        refine wp_exit ?_
        refine then_exit ?_
        refine then_exit ?_
        refine block_hit ?_
        refine then_normal ?_
        refine wp_ret ?_
        refine block_ret ?_
        refine then_ret ?_
        refine ret_with (v := .tuple #[]) ha (results_0 rfl _) ?_
        replace s := (((s.at_ (j := 1) rfl).at_ (j := 1) rfl).at_ (j := 3) rfl).at_ (j := 3) rfl
        replace s : St W (MapI Try.prog 3 encI gt (T.map ent) gi2 V :: Blks (dnAt x.node V T) :: .blk g [.int .i64 x.ti, .int .i64 k.most, .map (some gd), .map (some gt)] 48 :: MapT Try.prog 3 encI gd (mput Dd x.node (.bool true)) :: L) w := s.keep 4 1
        have hall2 := dnAt_all (nd := x.node) (V := V) (T := T) (fun q h => hall q (by rw [List.length_map]; exact h))
        have hmm := dnAt_ids x.node V T
        rw [hall2] at s hmm
        replace s := MapI.back hmm s
        replace s := s.at_ (j := 2) rfl
        replace s := s.at_ (j := 3) rfl
        replace s := (s.perm (List.Perm.swap _ _ _))
        have hmo : (seeL k x).most = k.most := by unfold seeL; simp [*]
        refine ⟨mput Dd x.node (.bool true), T.map (fun y => (y.1, y.2.1, downTx x.node y.2.2)), rfl, hk.down (by assumption) hmn.2.2.2.1, ?_⟩
        rw [hmo]
        exact s
      · skip
        rw [List.getElem?_map] at hpq3
        obtain ⟨⟨i, b, t⟩, hq2, rfl⟩ := Option.map_eq_some_iff.1 hpq3
        have hdn : (dnAt x.node V T)[q3]? = some (i, b, t) := by rw [dnAt_at, hq2]; simp [hnq3]
        replace s : St W (.blk g [.int .i64 x.ti, .int .i64 k.most, .map (some gd), .map (some gt)] 48 :: MapT Try.prog 3 encI gd (mput Dd x.node (.bool true)) :: MapI Try.prog 3 encI gt (T.map ent) gi2 (V ++ [q3]) :: Blks (dnAt x.node V T) :: .blk g1 (evv x) 36 :: L) w := s
        replace s := s.at_ (j := 3) rfl
        replace s : St W (Blks (dnAt x.node V T) :: .blk g [.int .i64 x.ti, .int .i64 k.most, .map (some gd), .map (some gt)] 48 :: MapT Try.prog 3 encI gd (mput Dd x.node (.bool true)) :: MapI Try.prog 3 encI gt (T.map ent) gi2 (V ++ [q3]) :: .blk g1 (evv x) 36 :: L) w := s
        replace s := Blks.open_ hdn s
        replace s : St W (.blk b (txv t) 67 :: BRest (dnAt x.node V T) q3 :: .blk g [.int .i64 x.ti, .int .i64 k.most, .map (some gd), .map (some gt)] 48 :: MapT Try.prog 3 encI gd (mput Dd x.node (.bool true)) :: MapI Try.prog 3 encI gt (T.map ent) gi2 (V ++ [q3]) :: .blk g1 (evv x) 36 :: L) w := s
        refine st_val (.bool true) ha (by kernel_rfl) (by kernel_rfl) ?_
        clear ha; intro a ha
        refine wpList_nil ?_
        refine then_normal ?_
        refine wp_seq ?_
        refine wp_true ha rfl (by kernel_rfl) ?_
        refine wp_skip ?_
        refine then_normal ?_
        refine wp_block ?_
        refine wp_seq ?_
        refine wp_region_lit ?_
        refine st_ex ha (by kernel_rfl) (ex_entry 4 s rfl (by rw [List.getElem?_map, hq2]; rfl) rfl (by kernel_rfl)) ?_
        clear ha; rintro _ w a ⟨rfl, s⟩ ha
        replace s : St W (.blk b (txv t) 67 :: BRest (dnAt x.node V T) q3 :: .blk g [.int .i64 x.ti, .int .i64 k.most, .map (some gd), .map (some gt)] 48 :: MapT Try.prog 3 encI gd (mput Dd x.node (.bool true)) :: MapI Try.prog 3 encI gt (T.map ent) gi2 (V ++ [q3]) :: .blk g1 (evv x) 36 :: L) w := s
        refine st_val (.pointer (some ⟨b, 0, none⟩)) ha (by kernel_rfl) (by kernel_rfl) ?_
        clear ha; intro a ha
        refine st_val (.pointer (some ⟨b, 0, none⟩)) ha (by kernel_rfl) (by kernel_rfl) ?_
        clear ha; intro a ha
        refine wpList_nil ?_
        refine then_normal ?_
        refine wp_seq ?_
        refine wp_region_head 6 (fun w => BlkIs b (txv t) w ∧ BlkIs g1 (evv x) w ∧ True) (by kernel_rfl) (by decide) ?_
        replace s := s.drew; generalize _root_.Go.World.drew _ = w at s ⊢
        have hS : (fun w => BlkIs b (txv t) w ∧ BlkIs g1 (evv x) w ∧ True) w := ⟨s.blkIs 0 rfl, s.blkIs 5 rfl, trivial⟩
        refine hd_val (i := 0) (.pointer (some ⟨b, 0, none⟩)) ha rfl (by kernel_rfl) (fun _ _ _ h => h) (by kernel_rfl) (fun w hS => (by kernel_rfl)) hS ?_
        clear ha; intro a ha
        refine hd_val (i := 1) (.pointer (some ⟨b, 0, none⟩)) ha rfl (by kernel_rfl) (fun _ _ _ h => h) (by kernel_rfl) (fun w hS => (by kernel_rfl)) hS ?_
        clear ha; intro a ha
        refine hd_val (i := 2) (.pointer (some ⟨b, 0, none⟩)) ha rfl (by kernel_rfl) (fun _ _ _ h => h) (by kernel_rfl) (fun w hS => (by kernel_rfl)) hS ?_
        clear ha; intro a ha
        refine hd_val (i := 3) (.int .i64 t.node) ha rfl (by kernel_rfl) (fun _ _ _ h => h) (by kernel_rfl) (fun w hS => run_load1 (of_ := 0) hS.1 rfl (by kernel_rfl) Try.isAgg3 rfl) hS ?_
        clear ha; intro a ha
        refine hd_val (i := 4) (.pointer (some ⟨g1, 2, none⟩)) ha rfl (by kernel_rfl) (fun _ _ _ h => h) (by kernel_rfl) (fun w hS => (by kernel_rfl)) hS ?_
        clear ha; intro a ha
        refine hd_val (i := 5) (.int .i64 x.node) ha rfl (by kernel_rfl) (fun _ _ _ h => h) (by kernel_rfl) (fun w hS => run_load1 (of_ := 2) hS.2.1 rfl (by kernel_rfl) Try.isAgg3 rfl) hS ?_
        clear ha; intro a ha
        refine Head.done (by kernel_rfl) ?_
        clear hS; simp only [List.drop_succ_cons, List.drop_zero]
        refine st_val (.bool (t.node == x.node)) ha (by kernel_rfl) (by kernel_rfl) ?_
        clear ha; intro a ha
        refine wpList_nil ?_
        refine then_normal ?_
        refine wp_part (t.node == x.node) ha rfl (by kernel_rfl) (fun hb => ?_) (fun hb => ?_)
        · rw [hb] at ha; have hb_ := hb; replace hb := eq_of_beq hb
          refine wp_region_lit ?_
          refine st_val (.pointer (some ⟨b, 0, none⟩)) ha (by kernel_rfl) (by kernel_rfl) ?_
          clear ha; intro a ha
          refine st_val (.pointer (some ⟨b, 0, none⟩)) ha (by kernel_rfl) (by kernel_rfl) ?_
          clear ha; intro a ha
          refine st_val (.pointer (some ⟨b, 1, none⟩)) ha (by kernel_rfl) (by kernel_rfl) ?_
          clear ha; intro a ha
          refine st_exd ha (by kernel_rfl) (ex_store (of_ := 1) 0 [.int .i64 2] s rfl rfl (by kernel_rfl) (by kernel_rfl) (Try.sizeOf3 _) rfl (by simp [Value.oneCell']) (Nat.le_of_ble_eq_true rfl)) ?_
          clear ha; rintro w a s ha
          replace s : St W (.blk b [.int .i64 t.node, .int .i64 2, .bool t.began, .int .i64 t.ask.ti, .int .i64 t.ask.kind, .int .i64 t.ask.node, .int .i64 t.ask.id, .int .i64 t.ask.epoch, .int .i64 t.ask.op, .string (str t.ask.key), .string (str t.ask.val), .string (str t.ask.frm), .string (str t.ask.to), .bool t.ask.is, .slice t.ask.A t.ask.rows.length t.ask.c, .int .i64 t.ask.wall, .int .i64 t.ask.logic, .int .i64 t.ask.err, .int .i64 t.ask.status, .bool t.comm, .bool t.abrt, .int .i64 t.epoch, .int .i64 t.wall, .int .i64 t.logic] 67 :: BRest (dnAt x.node V T) q3 :: .blk g [.int .i64 x.ti, .int .i64 k.most, .map (some gd), .map (some gt)] 48 :: MapT Try.prog 3 encI gd (mput Dd x.node (.bool true)) :: MapI Try.prog 3 encI gt (T.map ent) gi2 (V ++ [q3]) :: .blk g1 (evv x) 36 :: L) w := s
          refine wpList_nil ?_
          refine block_normal ?_
          refine then_normal ?_
          replace s := Blks.close hdn (⟨t.node, 2, t.began, t.ask, t.comm, t.abrt, t.epoch, t.wall, t.logic⟩ : Tx) s
          have hdt : downTx x.node t = (⟨t.node, 2, t.began, t.ask, t.comm, t.abrt, t.epoch, t.wall, t.logic⟩ : Tx) := by unfold downTx; first | rw [if_pos (by assumption)] | rw [if_neg (by assumption)]
          rw [← hdt, dnAt_snoc hq2] at s
          replace s : St W (Blks (dnAt x.node (V ++ [q3]) T) :: .blk g [.int .i64 x.ti, .int .i64 k.most, .map (some gd), .map (some gt)] 48 :: MapT Try.prog 3 encI gd (mput Dd x.node (.bool true)) :: MapI Try.prog 3 encI gt (T.map ent) gi2 (V ++ [q3]) :: .blk g1 (evv x) 36 :: L) w := s
          replace s := ((((s.at_ (j := 4) rfl).at_ (j := 1) rfl).at_ (j := 4) rfl).at_ (j := 4) rfl).at_ (j := 4) rfl
          replace s : St W (.blk g [.int .i64 x.ti, .int .i64 k.most, .map (some gd), .map (some gt)] 48 :: MapT Try.prog 3 encI gd (mput Dd x.node (.bool true)) :: MapI Try.prog 3 encI gt (T.map ent) gi2 (V ++ [q3]) :: Blks (dnAt x.node (V ++ [q3]) T) :: .blk g1 (evv x) 36 :: L) w := s
          exact ⟨V ++ [q3], left_meas (List.getElem?_eq_some_iff.1 hq2).1 hnq3, (Has.cons ha (by kernel_rfl) (by kernel_rfl) (Has.cons ha (by kernel_rfl) (by kernel_rfl) (Has.cons ha (by kernel_rfl) (by kernel_rfl) (Has.nil ha)))), s, trivial⟩
        · rw [hb] at ha; have hb_ := hb; replace hb := ne_of_beq_false hb
          refine wp_skip ?_
          refine block_normal ?_
          refine then_normal ?_
          replace s := Blks.close hdn (⟨t.node, t.stand, t.began, t.ask, t.comm, t.abrt, t.epoch, t.wall, t.logic⟩ : Tx) s
          have hdt : downTx x.node t = (⟨t.node, t.stand, t.began, t.ask, t.comm, t.abrt, t.epoch, t.wall, t.logic⟩ : Tx) := by unfold downTx; first | rw [if_pos (by assumption)] | rw [if_neg (by assumption)]
          rw [← hdt, dnAt_snoc hq2] at s
          replace s : St W (Blks (dnAt x.node (V ++ [q3]) T) :: .blk g [.int .i64 x.ti, .int .i64 k.most, .map (some gd), .map (some gt)] 48 :: MapT Try.prog 3 encI gd (mput Dd x.node (.bool true)) :: MapI Try.prog 3 encI gt (T.map ent) gi2 (V ++ [q3]) :: .blk g1 (evv x) 36 :: L) w := s
          replace s := ((((s.at_ (j := 4) rfl).at_ (j := 1) rfl).at_ (j := 4) rfl).at_ (j := 4) rfl).at_ (j := 4) rfl
          replace s : St W (.blk g [.int .i64 x.ti, .int .i64 k.most, .map (some gd), .map (some gt)] 48 :: MapT Try.prog 3 encI gd (mput Dd x.node (.bool true)) :: MapI Try.prog 3 encI gt (T.map ent) gi2 (V ++ [q3]) :: Blks (dnAt x.node (V ++ [q3]) T) :: .blk g1 (evv x) 36 :: L) w := s
          exact ⟨V ++ [q3], left_meas (List.getElem?_eq_some_iff.1 hq2).1 hnq3, (Has.cons ha (by kernel_rfl) (by kernel_rfl) (Has.cons ha (by kernel_rfl) (by kernel_rfl) (Has.cons ha (by kernel_rfl) (by kernel_rfl) (Has.nil ha)))), s, trivial⟩
  · rw [hb] at ha; have hb_ := hb; replace hb := ne_of_beq_false hb
    refine wp_seq ?_
    refine wp_region_lit ?_
    refine st_val (.bool (x.kind == (6 : Int))) ha (by kernel_rfl) (by kernel_rfl) ?_
    clear ha; intro a ha
    refine st_val (.bool (x.kind == (6 : Int))) ha (by kernel_rfl) (by kernel_rfl) ?_
    clear ha; intro a ha
    refine wpList_nil ?_
    refine then_normal ?_
    refine wp_part (x.kind == (6 : Int)) ha rfl (by kernel_rfl) (fun hb => ?_) (fun hb => ?_)
    · rw [hb] at ha; have hb_ := hb; replace hb := eq_of_beq hb
      refine wp_seq ?_
      refine wp_region_head 6 (fun w => BlkIs g [.int .i64 x.ti, .int .i64 k.most, .map (some gd), .map (some gt)] w ∧ BlkIs g1 (evv x) w ∧ True) (by kernel_rfl) (by decide) ?_
      replace s := s.drew; generalize _root_.Go.World.drew _ = w at s ⊢
      have hS : (fun w => BlkIs g [.int .i64 x.ti, .int .i64 k.most, .map (some gd), .map (some gt)] w ∧ BlkIs g1 (evv x) w ∧ True) w := ⟨s.blkIs 1 rfl, s.blkIs 0 rfl, trivial⟩
      refine hd_val (i := 0) (.pointer (some ⟨g, 0, none⟩)) ha rfl (by kernel_rfl) (fun _ _ _ h => h) (by kernel_rfl) (fun w hS => (by kernel_rfl)) hS ?_
      clear ha; intro a ha
      refine hd_val (i := 1) (.pointer (some ⟨g, 0, none⟩)) ha rfl (by kernel_rfl) (fun _ _ _ h => h) (by kernel_rfl) (fun w hS => (by kernel_rfl)) hS ?_
      clear ha; intro a ha
      refine hd_val (i := 2) (.pointer (some ⟨g, 2, none⟩)) ha rfl (by kernel_rfl) (fun _ _ _ h => h) (by kernel_rfl) (fun w hS => (by kernel_rfl)) hS ?_
      clear ha; intro a ha
      refine hd_val (i := 3) (.map (some gd)) ha rfl (by kernel_rfl) (fun _ _ _ h => h) (by kernel_rfl) (fun w hS => run_load1 (of_ := 2) hS.1 rfl (by kernel_rfl) Try.isAgg45 rfl) hS ?_
      clear ha; intro a ha
      refine hd_val (i := 4) (.pointer (some ⟨g1, 2, none⟩)) ha rfl (by kernel_rfl) (fun _ _ _ h => h) (by kernel_rfl) (fun w hS => (by kernel_rfl)) hS ?_
      clear ha; intro a ha
      refine hd_val (i := 5) (.int .i64 x.node) ha rfl (by kernel_rfl) (fun _ _ _ h => h) (by kernel_rfl) (fun w hS => run_load1 (of_ := 2) hS.2.1 rfl (by kernel_rfl) Try.isAgg3 rfl) hS ?_
      clear ha; intro a ha
      refine Head.done (by kernel_rfl) ?_
      clear hS; simp only [List.drop_succ_cons, List.drop_zero]
      refine st_ex ha (by kernel_rfl) (ex_delete (a := x.node) 2 s rfl rfl (by kernel_rfl) (by kernel_rfl) encI_inj keyed3 Try.underlying45 (key3 (by omega))) ?_
      clear ha; rintro _ w a ⟨rfl, s⟩ ha
      replace s : St W (.blk g1 (evv x) 36 :: .blk g [.int .i64 x.ti, .int .i64 k.most, .map (some gd), .map (some gt)] 48 :: MapT Try.prog 3 encI gd (mdel Dd x.node) :: MapT Try.prog 3 encI gt (T.map ent) :: Blks T :: L) w := s
      refine wpList_nil ?_
      refine then_normal ?_
      refine wp_ret ?_
      refine block_ret ?_
      refine then_ret ?_
      refine ret_with (v := .tuple #[]) ha (results_0 rfl _) ?_
      replace s := (((s.at_ (j := 4) rfl).at_ (j := 4) rfl).at_ (j := 4) rfl).at_ (j := 4) rfl
      replace s : St W (.blk g [.int .i64 x.ti, .int .i64 k.most, .map (some gd), .map (some gt)] 48 :: MapT Try.prog 3 encI gd (mdel Dd x.node) :: MapT Try.prog 3 encI gt (T.map ent) :: Blks T :: L) w := s.keep 4 1
      have hmo : (seeL k x).most = k.most := by unfold seeL; simp [*]
      refine ⟨mdel Dd x.node, T, rfl, hk.upE (by assumption), ?_⟩
      rw [hmo]
      exact s
    · rw [hb] at ha; have hb_ := hb; replace hb := ne_of_beq_false hb
      have hhx : hasB x = true := has_iff.2 (by omega)
      have hid := may_has hmx hhx
      refine wp_skip ?_
      refine block_normal ?_
      refine then_normal ?_
      refine wp_seq ?_
      refine wp_region_lit ?_
      refine st_val (.pointer (some ⟨g, 0, none⟩)) ha (by kernel_rfl) (by kernel_rfl) ?_
      clear ha; intro a ha
      refine st_val (.pointer (some ⟨g1, 3, none⟩)) ha (by kernel_rfl) (by kernel_rfl) ?_
      clear ha; intro a ha
      refine st_val (.int .i64 x.id) ha (by kernel_rfl) (run_load1 (of_ := 3) (s.blkIs 0 rfl) rfl (by kernel_rfl) Try.isAgg3 rfl) ?_
      clear ha; intro a ha
      replace s := (((s.at_ (j := 4) rfl).at_ (j := 4) rfl).at_ (j := 4) rfl).at_ (j := 4) rfl
      replace s : St W (.blk g [.int .i64 x.ti, .int .i64 k.most, .map (some gd), .map (some gt)] 48 :: MapT Try.prog 3 encI gd Dd :: MapT Try.prog 3 encI gt (T.map ent) :: Blks T :: .blk g1 (evv x) 36 :: L) w := s
      refine st_call ha (by kernel_rfl) (by kernel_rfl) (txn_any W _ w g gd gt ⟨x.ti, k.most, k.dn, k.tx⟩ Dd T n ⟨hk.dn, hk.tx, hk.nodup, hk.room, hk.most⟩ hn x.id (by omega) s) ?_
      rintro _ w ⟨T2, q, b, rfl, ht2, hk2, s⟩
      replace hk2 : LkOk k Dd T2 (n + 1) := ⟨hk2.dn, hk2.tx, hk2.nodup, hk2.room, hk2.most⟩
      obtain ⟨t, ht⟩ : ∃ t, t = k.tx x.id := ⟨_, rfl⟩
      replace ht2 : T2[q]? = some (x.id, b, k.tx x.id) := ht2
      rw [← ht] at ht2
      replace s : St W (.blk g [.int .i64 x.ti, .int .i64 k.most, .map (some gd), .map (some gt)] 48 :: MapT Try.prog 3 encI gd Dd :: MapT Try.prog 3 encI gt (T2.map ent) :: Blks T2 :: .blk g1 (evv x) 36 :: L) w := s
      replace s := s.at_ (j := 3) rfl
      replace s : St W (Blks T2 :: .blk g [.int .i64 x.ti, .int .i64 k.most, .map (some gd), .map (some gt)] 48 :: MapT Try.prog 3 encI gd Dd :: MapT Try.prog 3 encI gt (T2.map ent) :: .blk g1 (evv x) 36 :: L) w := s
      replace s := Blks.open_ ht2 s
      replace s : St W (.blk b (txv t) 67 :: BRest T2 q :: .blk g [.int .i64 x.ti, .int .i64 k.most, .map (some gd), .map (some gt)] 48 :: MapT Try.prog 3 encI gd Dd :: MapT Try.prog 3 encI gt (T2.map ent) :: .blk g1 (evv x) 36 :: L) w := s
      refine ⟨_, rfl, ?_⟩; clear ha; intro a ha
      refine st_val (.pointer (some ⟨b, 0, none⟩)) ha (by kernel_rfl) (by kernel_rfl) ?_
      clear ha; intro a ha
      refine wpList_nil ?_
      refine then_normal ?_
      refine wp_seq ?_
      refine wp_seq ?_
      refine wp_region_lit ?_
      refine st_val (.pointer (some ⟨g1, 1, none⟩)) ha (by kernel_rfl) (by kernel_rfl) ?_
      clear ha; intro a ha
      refine st_val (.int .i64 x.kind) ha (by kernel_rfl) (run_load1 (of_ := 1) (s.blkIs 5 rfl) rfl (by kernel_rfl) Try.isAgg3 rfl) ?_
      clear ha; intro a ha
      refine wpList_nil ?_
      refine then_normal ?_
      refine wp_block ?_
      refine wp_seq ?_
      refine wp_region_lit ?_
      refine st_val (.bool (x.kind == (1 : Int))) ha (by kernel_rfl) (by kernel_rfl) ?_
      clear ha; intro a ha
      refine st_val (.bool (x.kind == (1 : Int))) ha (by kernel_rfl) (by kernel_rfl) ?_
      clear ha; intro a ha
      refine wpList_nil ?_
      refine then_normal ?_
      refine wp_part (x.kind == (1 : Int)) ha rfl (by kernel_rfl) (fun hb => ?_) (fun hb => ?_)
      · rw [hb] at ha; have hb_ := hb; replace hb := eq_of_beq hb
        refine wp_seq ?_
        refine wp_region_lit ?_
        refine st_val (.pointer (some ⟨g, 0, none⟩)) ha (by kernel_rfl) (by kernel_rfl) ?_
        clear ha; intro a ha
        refine st_val (.pointer (some ⟨g1, 3, none⟩)) ha (by kernel_rfl) (by kernel_rfl) ?_
        clear ha; intro a ha
        refine st_val (.int .i64 x.id) ha (by kernel_rfl) (run_load1 (of_ := 3) (s.blkIs 5 rfl) rfl (by kernel_rfl) Try.isAgg3 rfl) ?_
        clear ha; intro a ha
        refine st_val (.pointer (some ⟨g, 0, none⟩)) ha (by kernel_rfl) (by kernel_rfl) ?_
        clear ha; intro a ha
        refine st_val (.pointer (some ⟨g, 1, none⟩)) ha (by kernel_rfl) (by kernel_rfl) ?_
        clear ha; intro a ha
        refine st_exd ha (by kernel_rfl) (ex_store (of_ := 1) 2 [.int .i64 x.id] s rfl rfl (by kernel_rfl) (by kernel_rfl) (Try.sizeOf3 _) rfl (by simp [Value.oneCell']) (Nat.le_of_ble_eq_true rfl)) ?_
        clear ha; rintro w a s ha
        replace s : St W (.blk b (txv t) 67 :: BRest T2 q :: .blk g [.int .i64 x.ti, .int .i64 x.id, .map (some gd), .map (some gt)] 48 :: MapT Try.prog 3 encI gd Dd :: MapT Try.prog 3 encI gt (T2.map ent) :: .blk g1 (evv x) 36 :: L) w := s
        refine wpList_nil ?_
        refine then_normal ?_
        refine wp_region_head 7 (fun w => BlkIs g1 (evv x) w ∧ True) (by kernel_rfl) (by decide) ?_
        replace s := s.drew; generalize _root_.Go.World.drew _ = w at s ⊢
        have hS : (fun w => BlkIs g1 (evv x) w ∧ True) w := ⟨s.blkIs 5 rfl, trivial⟩
        refine hd_val (i := 0) (.pointer (some ⟨b, 0, none⟩)) ha rfl (by kernel_rfl) (fun _ _ _ h => h) (by kernel_rfl) (fun w hS => (by kernel_rfl)) hS ?_
        clear ha; intro a ha
        refine hd_val (i := 1) (.pointer (some ⟨b, 0, none⟩)) ha rfl (by kernel_rfl) (fun _ _ _ h => h) (by kernel_rfl) (fun w hS => (by kernel_rfl)) hS ?_
        clear ha; intro a ha
        refine hd_val (i := 2) (.pointer (some ⟨g1, 2, none⟩)) ha rfl (by kernel_rfl) (fun _ _ _ h => h) (by kernel_rfl) (fun w hS => (by kernel_rfl)) hS ?_
        clear ha; intro a ha
        refine hd_val (i := 3) (.int .i64 x.node) ha rfl (by kernel_rfl) (fun _ _ _ h => h) (by kernel_rfl) (fun w hS => run_load1 (of_ := 2) hS.1 rfl (by kernel_rfl) Try.isAgg3 rfl) hS ?_
        clear ha; intro a ha
        refine hd_val (i := 4) (.pointer (some ⟨b, 0, none⟩)) ha rfl (by kernel_rfl) (fun _ _ _ h => h) (by kernel_rfl) (fun w hS => (by kernel_rfl)) hS ?_
        clear ha; intro a ha
        refine hd_val (i := 5) (.pointer (some ⟨b, 2, none⟩)) ha rfl (by kernel_rfl) (fun _ _ _ h => h) (by kernel_rfl) (fun w hS => (by kernel_rfl)) hS ?_
        clear ha; intro a ha
        refine hd_exd (i := 6) ha rfl (by kernel_rfl) (by kernel_rfl) (ex_store (of_ := 2) 0 [.bool true] s rfl rfl (by kernel_rfl) (by kernel_rfl) (Try.sizeOf4 _) rfl (by simp [Value.oneCell']) (Nat.le_of_ble_eq_true rfl)) ?_
        clear hS; rintro w s
        replace s : St W (.blk b [.int .i64 t.node, .int .i64 t.stand, .bool true, .int .i64 t.ask.ti, .int .i64 t.ask.kind, .int .i64 t.ask.node, .int .i64 t.ask.id, .int .i64 t.ask.epoch, .int .i64 t.ask.op, .string (str t.ask.key), .string (str t.ask.val), .string (str t.ask.frm), .string (str t.ask.to), .bool t.ask.is, .slice t.ask.A t.ask.rows.length t.ask.c, .int .i64 t.ask.wall, .int .i64 t.ask.logic, .int .i64 t.ask.err, .int .i64 t.ask.status, .bool t.comm, .bool t.abrt, .int .i64 t.epoch, .int .i64 t.wall, .int .i64 t.logic] 67 :: BRest T2 q :: .blk g [.int .i64 x.ti, .int .i64 x.id, .map (some gd), .map (some gt)] 48 :: MapT Try.prog 3 encI gd Dd :: MapT Try.prog 3 encI gt (T2.map ent) :: .blk g1 (evv x) 36 :: L) w := s
        have hS : (fun w => BlkIs g1 (evv x) w ∧ True) w := ⟨s.blkIs 5 rfl, trivial⟩
        refine ⟨hS, ?_⟩; clear ha; intro a ha
        refine Head.done (by kernel_rfl) ?_
        clear hS; simp only [List.drop_succ_cons, List.drop_zero]
        refine st_val (.pointer (some ⟨b, 0, none⟩)) ha (by kernel_rfl) (by kernel_rfl) ?_
        clear ha; intro a ha
        refine st_val (.pointer (some ⟨b, 0, none⟩)) ha (by kernel_rfl) (by kernel_rfl) ?_
        clear ha; intro a ha
        refine st_exd ha (by kernel_rfl) (ex_store (of_ := 0) 0 [.int .i64 x.node] s rfl rfl (by kernel_rfl) (by kernel_rfl) (Try.sizeOf3 _) rfl (by simp [Value.oneCell']) (Nat.le_of_ble_eq_true rfl)) ?_
        clear ha; rintro w a s ha
        replace s : St W (.blk b [.int .i64 x.node, .int .i64 t.stand, .bool true, .int .i64 t.ask.ti, .int .i64 t.ask.kind, .int .i64 t.ask.node, .int .i64 t.ask.id, .int .i64 t.ask.epoch, .int .i64 t.ask.op, .string (str t.ask.key), .string (str t.ask.val), .string (str t.ask.frm), .string (str t.ask.to), .bool t.ask.is, .slice t.ask.A t.ask.rows.length t.ask.c, .int .i64 t.ask.wall, .int .i64 t.ask.logic, .int .i64 t.ask.err, .int .i64 t.ask.status, .bool t.comm, .bool t.abrt, .int .i64 t.epoch, .int .i64 t.wall, .int .i64 t.logic] 67 :: BRest T2 q :: .blk g [.int .i64 x.ti, .int .i64 x.id, .map (some gd), .map (some gt)] 48 :: MapT Try.prog 3 encI gd Dd :: MapT Try.prog 3 encI gt (T2.map ent) :: .blk g1 (evv x) 36 :: L) w := s
        refine wpList_nil ?_
        refine block_normal ?_
        refine then_normal ?_
        refine wp_seq ?_
        refine wp_region_lit ?_
        refine st_val (.agg (evv x).toArray) ha (by kernel_rfl) (run_loadN (of_ := 0) (evv x) (s.blkIs 5 rfl) rfl (by kernel_rfl) Try.isAgg36 Try.sizeOf36 rfl (Nat.le_of_ble_eq_true rfl)) ?_
        clear ha; intro a ha
        refine st_call ha (by kernel_rfl) (by kernel_rfl) (com_any W _ w x s) ?_
        rintro _ w ⟨rfl, s⟩
        refine ⟨_, rfl, ?_⟩; clear ha; intro a ha
        refine wpList_nil ?_
        refine then_normal ?_
        refine wp_part (comB x) ha rfl (by kernel_rfl) (fun hb => ?_) (fun hb => ?_)
        · rw [hb] at ha; skip
          refine wp_region_lit ?_
          refine st_val (.pointer (some ⟨b, 0, none⟩)) ha (by kernel_rfl) (by kernel_rfl) ?_
          clear ha; intro a ha
          refine st_val (.pointer (some ⟨g1, 4, none⟩)) ha (by kernel_rfl) (by kernel_rfl) ?_
          clear ha; intro a ha
          refine st_val (.int .i64 x.epoch) ha (by kernel_rfl) (run_load1 (of_ := 4) (s.blkIs 5 rfl) rfl (by kernel_rfl) Try.isAgg3 rfl) ?_
          clear ha; intro a ha
          refine st_val (.pointer (some ⟨g1, 12, none⟩)) ha (by kernel_rfl) (by kernel_rfl) ?_
          clear ha; intro a ha
          refine st_val (.agg #[.int .i64 x.wall, .int .i64 x.logic]) ha (by kernel_rfl) (run_loadN (of_ := 12) [.int .i64 x.wall, .int .i64 x.logic] (s.blkIs 5 rfl) rfl (by kernel_rfl) Try.isAgg34 Try.sizeOf34 rfl (Nat.le_of_ble_eq_true rfl)) ?_
          clear ha; intro a ha
          refine st_val (.agg #[.bool true, .bool false, .int .i64 x.epoch, .int .i64 x.wall, .int .i64 x.logic]) ha (by kernel_rfl) (by kernel_rfl) ?_
          clear ha; intro a ha
          refine st_val (.pointer (some ⟨b, 0, none⟩)) ha (by kernel_rfl) (by kernel_rfl) ?_
          clear ha; intro a ha
          refine st_val (.pointer (some ⟨b, 19, none⟩)) ha (by kernel_rfl) (by kernel_rfl) ?_
          clear ha; intro a ha
          refine st_exd ha (by kernel_rfl) (ex_store (of_ := 19) 0 [.bool true, .bool false, .int .i64 x.epoch, .int .i64 x.wall, .int .i64 x.logic] s rfl rfl (by kernel_rfl) (by kernel_rfl) (Try.sizeOf65 _) rfl (by simp [Value.oneCell']) (Nat.le_of_ble_eq_true rfl)) ?_
          clear ha; rintro w a s ha
          replace s : St W (.blk b [.int .i64 x.node, .int .i64 t.stand, .bool true, .int .i64 t.ask.ti, .int .i64 t.ask.kind, .int .i64 t.ask.node, .int .i64 t.ask.id, .int .i64 t.ask.epoch, .int .i64 t.ask.op, .string (str t.ask.key), .string (str t.ask.val), .string (str t.ask.frm), .string (str t.ask.to), .bool t.ask.is, .slice t.ask.A t.ask.rows.length t.ask.c, .int .i64 t.ask.wall, .int .i64 t.ask.logic, .int .i64 t.ask.err, .int .i64 t.ask.status, .bool true, .bool false, .int .i64 x.epoch, .int .i64 x.wall, .int .i64 x.logic] 67 :: BRest T2 q :: .blk g [.int .i64 x.ti, .int .i64 x.id, .map (some gd), .map (some gt)] 48 :: MapT Try.prog 3 encI gd Dd :: MapT Try.prog 3 encI gt (T2.map ent) :: .blk g1 (evv x) 36 :: L) w := s
          refine wpList_nil ?_
          refine end_with (v := .tuple #[]) ha (results_0 rfl _) ?_
          replace s : St W (.blk b [.int .i64 x.node, .int .i64 t.stand, .bool true, .int .i64 t.ask.ti, .int .i64 t.ask.kind, .int .i64 t.ask.node, .int .i64 t.ask.id, .int .i64 t.ask.epoch, .int .i64 t.ask.op, .string (str t.ask.key), .string (str t.ask.val), .string (str t.ask.frm), .string (str t.ask.to), .bool t.ask.is, .slice t.ask.A t.ask.rows.length t.ask.c, .int .i64 t.ask.wall, .int .i64 t.ask.logic, .int .i64 t.ask.err, .int .i64 t.ask.status, .bool true, .bool false, .int .i64 x.epoch, .int .i64 x.wall, .int .i64 x.logic] 67 :: BRest T2 q :: .blk g [.int .i64 x.ti, .int .i64 x.id, .map (some gd), .map (some gt)] 48 :: MapT Try.prog 3 encI gd Dd :: MapT Try.prog 3 encI gt (T2.map ent) :: L) w := s.keep 5 1
          have he2 : endTx x (ownTx x (k.tx x.id)) = (⟨x.node, t.stand, true, t.ask, true, false, x.epoch, x.wall, x.logic⟩ : Tx) := by rw [← ht]; clear s ha ht2 hk2 hk ht; unfold endTx ownTx; simp [*]
          have hmo : (seeL k x).most = x.id := by clear s ha ht2 hk2 hk ht; unfold seeL; simp [*]
          replace s := Blks.close ht2 (⟨x.node, t.stand, true, t.ask, true, false, x.epoch, x.wall, x.logic⟩ : Tx) s
          replace s := s.at_ (j := 3) rfl
          replace s := s.at_ (j := 3) rfl
          replace s := s.at_ (j := 3) rfl
          rw [← ent_set ht2 (⟨x.node, t.stand, true, t.ask, true, false, x.epoch, x.wall, x.logic⟩ : Tx)] at s
          rw [ht] at ht2
          refine ⟨Dd, T2.set q (x.id, b, (⟨x.node, t.stand, true, t.ask, true, false, x.epoch, x.wall, x.logic⟩ : Tx)), rfl, hk2.own (has_iff.1 hhx).2 hid ht2 he2, ?_⟩
          rw [hmo]
          exact s
        · rw [hb] at ha; skip
          refine wp_seq ?_
          refine wp_region_lit ?_
          refine st_val (.agg (evv x).toArray) ha (by kernel_rfl) (run_loadN (of_ := 0) (evv x) (s.blkIs 5 rfl) rfl (by kernel_rfl) Try.isAgg36 Try.sizeOf36 rfl (Nat.le_of_ble_eq_true rfl)) ?_
          clear ha; intro a ha
          refine st_call ha (by kernel_rfl) (by kernel_rfl) (abr_any W _ w x s) ?_
          rintro _ w ⟨rfl, s⟩
          refine ⟨_, rfl, ?_⟩; clear ha; intro a ha
          refine wpList_nil ?_
          refine then_normal ?_
          refine wp_part (abrB x) ha rfl (by kernel_rfl) (fun hb => ?_) (fun hb => ?_)
          · rw [hb] at ha; skip
            refine wp_region_lit ?_
            refine st_val (.pointer (some ⟨b, 0, none⟩)) ha (by kernel_rfl) (by kernel_rfl) ?_
            clear ha; intro a ha
            refine st_val (.pointer (some ⟨b, 0, none⟩)) ha (by kernel_rfl) (by kernel_rfl) ?_
            clear ha; intro a ha
            refine st_val (.pointer (some ⟨b, 19, none⟩)) ha (by kernel_rfl) (by kernel_rfl) ?_
            clear ha; intro a ha
            refine st_val (.pointer (some ⟨b, 20, none⟩)) ha (by kernel_rfl) (by kernel_rfl) ?_
            clear ha; intro a ha
            refine st_exd ha (by kernel_rfl) (ex_store (of_ := 20) 0 [.bool true] s rfl rfl (by kernel_rfl) (by kernel_rfl) (Try.sizeOf4 _) rfl (by simp [Value.oneCell']) (Nat.le_of_ble_eq_true rfl)) ?_
            clear ha; rintro w a s ha
            replace s : St W (.blk b [.int .i64 x.node, .int .i64 t.stand, .bool true, .int .i64 t.ask.ti, .int .i64 t.ask.kind, .int .i64 t.ask.node, .int .i64 t.ask.id, .int .i64 t.ask.epoch, .int .i64 t.ask.op, .string (str t.ask.key), .string (str t.ask.val), .string (str t.ask.frm), .string (str t.ask.to), .bool t.ask.is, .slice t.ask.A t.ask.rows.length t.ask.c, .int .i64 t.ask.wall, .int .i64 t.ask.logic, .int .i64 t.ask.err, .int .i64 t.ask.status, .bool t.comm, .bool true, .int .i64 t.epoch, .int .i64 t.wall, .int .i64 t.logic] 67 :: BRest T2 q :: .blk g [.int .i64 x.ti, .int .i64 x.id, .map (some gd), .map (some gt)] 48 :: MapT Try.prog 3 encI gd Dd :: MapT Try.prog 3 encI gt (T2.map ent) :: .blk g1 (evv x) 36 :: L) w := s
            refine wpList_nil ?_
            refine end_with (v := .tuple #[]) ha (results_0 rfl _) ?_
            replace s : St W (.blk b [.int .i64 x.node, .int .i64 t.stand, .bool true, .int .i64 t.ask.ti, .int .i64 t.ask.kind, .int .i64 t.ask.node, .int .i64 t.ask.id, .int .i64 t.ask.epoch, .int .i64 t.ask.op, .string (str t.ask.key), .string (str t.ask.val), .string (str t.ask.frm), .string (str t.ask.to), .bool t.ask.is, .slice t.ask.A t.ask.rows.length t.ask.c, .int .i64 t.ask.wall, .int .i64 t.ask.logic, .int .i64 t.ask.err, .int .i64 t.ask.status, .bool t.comm, .bool true, .int .i64 t.epoch, .int .i64 t.wall, .int .i64 t.logic] 67 :: BRest T2 q :: .blk g [.int .i64 x.ti, .int .i64 x.id, .map (some gd), .map (some gt)] 48 :: MapT Try.prog 3 encI gd Dd :: MapT Try.prog 3 encI gt (T2.map ent) :: L) w := s.keep 5 1
            have he2 : endTx x (ownTx x (k.tx x.id)) = (⟨x.node, t.stand, true, t.ask, t.comm, true, t.epoch, t.wall, t.logic⟩ : Tx) := by rw [← ht]; clear s ha ht2 hk2 hk ht; unfold endTx ownTx; simp [*]
            have hmo : (seeL k x).most = x.id := by clear s ha ht2 hk2 hk ht; unfold seeL; simp [*]
            replace s := Blks.close ht2 (⟨x.node, t.stand, true, t.ask, t.comm, true, t.epoch, t.wall, t.logic⟩ : Tx) s
            replace s := s.at_ (j := 3) rfl
            replace s := s.at_ (j := 3) rfl
            replace s := s.at_ (j := 3) rfl
            rw [← ent_set ht2 (⟨x.node, t.stand, true, t.ask, t.comm, true, t.epoch, t.wall, t.logic⟩ : Tx)] at s
            rw [ht] at ht2
            refine ⟨Dd, T2.set q (x.id, b, (⟨x.node, t.stand, true, t.ask, t.comm, true, t.epoch, t.wall, t.logic⟩ : Tx)), rfl, hk2.own (has_iff.1 hhx).2 hid ht2 he2, ?_⟩
            rw [hmo]
            exact s
          · rw [hb] at ha; skip
            refine wp_skip ?_
            refine end_with (v := .tuple #[]) ha (results_0 rfl _) ?_
            replace s : St W (.blk b [.int .i64 x.node, .int .i64 t.stand, .bool true, .int .i64 t.ask.ti, .int .i64 t.ask.kind, .int .i64 t.ask.node, .int .i64 t.ask.id, .int .i64 t.ask.epoch, .int .i64 t.ask.op, .string (str t.ask.key), .string (str t.ask.val), .string (str t.ask.frm), .string (str t.ask.to), .bool t.ask.is, .slice t.ask.A t.ask.rows.length t.ask.c, .int .i64 t.ask.wall, .int .i64 t.ask.logic, .int .i64 t.ask.err, .int .i64 t.ask.status, .bool t.comm, .bool t.abrt, .int .i64 t.epoch, .int .i64 t.wall, .int .i64 t.logic] 67 :: BRest T2 q :: .blk g [.int .i64 x.ti, .int .i64 x.id, .map (some gd), .map (some gt)] 48 :: MapT Try.prog 3 encI gd Dd :: MapT Try.prog 3 encI gt (T2.map ent) :: L) w := s.keep 5 1
            have he2 : endTx x (ownTx x (k.tx x.id)) = (⟨x.node, t.stand, true, t.ask, t.comm, t.abrt, t.epoch, t.wall, t.logic⟩ : Tx) := by rw [← ht]; clear s ha ht2 hk2 hk ht; unfold endTx ownTx; simp [*]
            have hmo : (seeL k x).most = x.id := by clear s ha ht2 hk2 hk ht; unfold seeL; simp [*]
            replace s := Blks.close ht2 (⟨x.node, t.stand, true, t.ask, t.comm, t.abrt, t.epoch, t.wall, t.logic⟩ : Tx) s
            replace s := s.at_ (j := 3) rfl
            replace s := s.at_ (j := 3) rfl
            replace s := s.at_ (j := 3) rfl
            rw [← ent_set ht2 (⟨x.node, t.stand, true, t.ask, t.comm, t.abrt, t.epoch, t.wall, t.logic⟩ : Tx)] at s
            rw [ht] at ht2
            refine ⟨Dd, T2.set q (x.id, b, (⟨x.node, t.stand, true, t.ask, t.comm, t.abrt, t.epoch, t.wall, t.logic⟩ : Tx)), rfl, hk2.own (has_iff.1 hhx).2 hid ht2 he2, ?_⟩
            rw [hmo]
            exact s
      · rw [hb] at ha; have hb_ := hb; replace hb := ne_of_beq_false hb
        refine wp_seq ?_
        refine wp_region_lit ?_
        refine st_val (.bool (x.kind == (2 : Int))) ha (by kernel_rfl) (by kernel_rfl) ?_
        clear ha; intro a ha
        refine st_val (.bool (x.kind == (2 : Int))) ha (by kernel_rfl) (by kernel_rfl) ?_
        clear ha; intro a ha
        refine wpList_nil ?_
        refine then_normal ?_
        refine wp_part (x.kind == (2 : Int)) ha rfl (by kernel_rfl) (fun hb => ?_) (fun hb => ?_)
        · rw [hb] at ha; have hb_ := hb; replace hb := eq_of_beq hb
          refine wp_region_lit ?_
          refine st_val (.pointer (some ⟨b, 0, none⟩)) ha (by kernel_rfl) (by kernel_rfl) ?_
          clear ha; intro a ha
          refine st_val (.pointer (some ⟨b, 0, none⟩)) ha (by kernel_rfl) (by kernel_rfl) ?_
          clear ha; intro a ha
          refine st_val (.agg (evv x).toArray) ha (by kernel_rfl) (run_loadN (of_ := 0) (evv x) (s.blkIs 5 rfl) rfl (by kernel_rfl) Try.isAgg36 Try.sizeOf36 rfl (Nat.le_of_ble_eq_true rfl)) ?_
          clear ha; intro a ha
          refine st_val (.pointer (some ⟨b, 0, none⟩)) ha (by kernel_rfl) (by kernel_rfl) ?_
          clear ha; intro a ha
          refine st_val (.pointer (some ⟨b, 3, none⟩)) ha (by kernel_rfl) (by kernel_rfl) ?_
          clear ha; intro a ha
          refine st_exd ha (by kernel_rfl) (ex_store (of_ := 3) 0 (evv x) s rfl rfl (by kernel_rfl) (by kernel_rfl) (Try.sizeOf36 _) rfl (by simp [evv, txv, Value.oneCell']) (Nat.le_of_ble_eq_true rfl)) ?_
          clear ha; rintro w a s ha
          replace s : St W (.blk b [.int .i64 t.node, .int .i64 t.stand, .bool t.began, .int .i64 x.ti, .int .i64 x.kind, .int .i64 x.node, .int .i64 x.id, .int .i64 x.epoch, .int .i64 x.op, .string (str x.key), .string (str x.val), .string (str x.frm), .string (str x.to), .bool x.is, .slice x.A x.rows.length x.c, .int .i64 x.wall, .int .i64 x.logic, .int .i64 x.err, .int .i64 x.status, .bool t.comm, .bool t.abrt, .int .i64 t.epoch, .int .i64 t.wall, .int .i64 t.logic] 67 :: BRest T2 q :: .blk g [.int .i64 x.ti, .int .i64 k.most, .map (some gd), .map (some gt)] 48 :: MapT Try.prog 3 encI gd Dd :: MapT Try.prog 3 encI gt (T2.map ent) :: .blk g1 (evv x) 36 :: L) w := s
          refine st_val (.pointer (some ⟨b, 0, none⟩)) ha (by kernel_rfl) (by kernel_rfl) ?_
          clear ha; intro a ha
          refine st_val (.pointer (some ⟨b, 1, none⟩)) ha (by kernel_rfl) (by kernel_rfl) ?_
          clear ha; intro a ha
          refine st_exd ha (by kernel_rfl) (ex_store (of_ := 1) 0 [.int .i64 1] s rfl rfl (by kernel_rfl) (by kernel_rfl) (Try.sizeOf3 _) rfl (by simp [Value.oneCell']) (Nat.le_of_ble_eq_true rfl)) ?_
          clear ha; rintro w a s ha
          replace s : St W (.blk b [.int .i64 t.node, .int .i64 1, .bool t.began, .int .i64 x.ti, .int .i64 x.kind, .int .i64 x.node, .int .i64 x.id, .int .i64 x.epoch, .int .i64 x.op, .string (str x.key), .string (str x.val), .string (str x.frm), .string (str x.to), .bool x.is, .slice x.A x.rows.length x.c, .int .i64 x.wall, .int .i64 x.logic, .int .i64 x.err, .int .i64 x.status, .bool t.comm, .bool t.abrt, .int .i64 t.epoch, .int .i64 t.wall, .int .i64 t.logic] 67 :: BRest T2 q :: .blk g [.int .i64 x.ti, .int .i64 k.most, .map (some gd), .map (some gt)] 48 :: MapT Try.prog 3 encI gd Dd :: MapT Try.prog 3 encI gt (T2.map ent) :: .blk g1 (evv x) 36 :: L) w := s
          refine wpList_nil ?_
          refine block_normal ?_
          refine then_normal ?_
          refine wp_seq ?_
          refine wp_region_lit ?_
          refine st_val (.agg (evv x).toArray) ha (by kernel_rfl) (run_loadN (of_ := 0) (evv x) (s.blkIs 5 rfl) rfl (by kernel_rfl) Try.isAgg36 Try.sizeOf36 rfl (Nat.le_of_ble_eq_true rfl)) ?_
          clear ha; intro a ha
          refine st_call ha (by kernel_rfl) (by kernel_rfl) (com_any W _ w x s) ?_
          rintro _ w ⟨rfl, s⟩
          refine ⟨_, rfl, ?_⟩; clear ha; intro a ha
          refine wpList_nil ?_
          refine then_normal ?_
          refine wp_part (comB x) ha rfl (by kernel_rfl) (fun hb => ?_) (fun hb => ?_)
          · rw [hb] at ha; skip
            refine wp_region_lit ?_
            refine st_val (.pointer (some ⟨b, 0, none⟩)) ha (by kernel_rfl) (by kernel_rfl) ?_
            clear ha; intro a ha
            refine st_val (.pointer (some ⟨g1, 4, none⟩)) ha (by kernel_rfl) (by kernel_rfl) ?_
            clear ha; intro a ha
            refine st_val (.int .i64 x.epoch) ha (by kernel_rfl) (run_load1 (of_ := 4) (s.blkIs 5 rfl) rfl (by kernel_rfl) Try.isAgg3 rfl) ?_
            clear ha; intro a ha
            refine st_val (.pointer (some ⟨g1, 12, none⟩)) ha (by kernel_rfl) (by kernel_rfl) ?_
            clear ha; intro a ha
            refine st_val (.agg #[.int .i64 x.wall, .int .i64 x.logic]) ha (by kernel_rfl) (run_loadN (of_ := 12) [.int .i64 x.wall, .int .i64 x.logic] (s.blkIs 5 rfl) rfl (by kernel_rfl) Try.isAgg34 Try.sizeOf34 rfl (Nat.le_of_ble_eq_true rfl)) ?_
            clear ha; intro a ha
            refine st_val (.agg #[.bool true, .bool false, .int .i64 x.epoch, .int .i64 x.wall, .int .i64 x.logic]) ha (by kernel_rfl) (by kernel_rfl) ?_
            clear ha; intro a ha
            refine st_val (.pointer (some ⟨b, 0, none⟩)) ha (by kernel_rfl) (by kernel_rfl) ?_
            clear ha; intro a ha
            refine st_val (.pointer (some ⟨b, 19, none⟩)) ha (by kernel_rfl) (by kernel_rfl) ?_
            clear ha; intro a ha
            refine st_exd ha (by kernel_rfl) (ex_store (of_ := 19) 0 [.bool true, .bool false, .int .i64 x.epoch, .int .i64 x.wall, .int .i64 x.logic] s rfl rfl (by kernel_rfl) (by kernel_rfl) (Try.sizeOf65 _) rfl (by simp [Value.oneCell']) (Nat.le_of_ble_eq_true rfl)) ?_
            clear ha; rintro w a s ha
            replace s : St W (.blk b [.int .i64 t.node, .int .i64 1, .bool t.began, .int .i64 x.ti, .int .i64 x.kind, .int .i64 x.node, .int .i64 x.id, .int .i64 x.epoch, .int .i64 x.op, .string (str x.key), .string (str x.val), .string (str x.frm), .string (str x.to), .bool x.is, .slice x.A x.rows.length x.c, .int .i64 x.wall, .int .i64 x.logic, .int .i64 x.err, .int .i64 x.status, .bool true, .bool false, .int .i64 x.epoch, .int .i64 x.wall, .int .i64 x.logic] 67 :: BRest T2 q :: .blk g [.int .i64 x.ti, .int .i64 k.most, .map (some gd), .map (some gt)] 48 :: MapT Try.prog 3 encI gd Dd :: MapT Try.prog 3 encI gt (T2.map ent) :: .blk g1 (evv x) 36 :: L) w := s
            refine wpList_nil ?_
            refine end_with (v := .tuple #[]) ha (results_0 rfl _) ?_
            replace s : St W (.blk b [.int .i64 t.node, .int .i64 1, .bool t.began, .int .i64 x.ti, .int .i64 x.kind, .int .i64 x.node, .int .i64 x.id, .int .i64 x.epoch, .int .i64 x.op, .string (str x.key), .string (str x.val), .string (str x.frm), .string (str x.to), .bool x.is, .slice x.A x.rows.length x.c, .int .i64 x.wall, .int .i64 x.logic, .int .i64 x.err, .int .i64 x.status, .bool true, .bool false, .int .i64 x.epoch, .int .i64 x.wall, .int .i64 x.logic] 67 :: BRest T2 q :: .blk g [.int .i64 x.ti, .int .i64 k.most, .map (some gd), .map (some gt)] 48 :: MapT Try.prog 3 encI gd Dd :: MapT Try.prog 3 encI gt (T2.map ent) :: L) w := s.keep 5 1
            have he2 : endTx x (ownTx x (k.tx x.id)) = (⟨t.node, 1, t.began, x, true, false, x.epoch, x.wall, x.logic⟩ : Tx) := by rw [← ht]; clear s ha ht2 hk2 hk ht; unfold endTx ownTx; simp [*]
            have hmo : (seeL k x).most = k.most := by clear s ha ht2 hk2 hk ht; unfold seeL; simp [*]
            replace s := Blks.close ht2 (⟨t.node, 1, t.began, x, true, false, x.epoch, x.wall, x.logic⟩ : Tx) s
            replace s := s.at_ (j := 3) rfl
            replace s := s.at_ (j := 3) rfl
            replace s := s.at_ (j := 3) rfl
            rw [← ent_set ht2 (⟨t.node, 1, t.began, x, true, false, x.epoch, x.wall, x.logic⟩ : Tx)] at s
            rw [ht] at ht2
            refine ⟨Dd, T2.set q (x.id, b, (⟨t.node, 1, t.began, x, true, false, x.epoch, x.wall, x.logic⟩ : Tx)), rfl, hk2.own (has_iff.1 hhx).2 hid ht2 he2, ?_⟩
            rw [hmo]
            exact s
          · rw [hb] at ha; skip
            refine wp_seq ?_
            refine wp_region_lit ?_
            refine st_val (.agg (evv x).toArray) ha (by kernel_rfl) (run_loadN (of_ := 0) (evv x) (s.blkIs 5 rfl) rfl (by kernel_rfl) Try.isAgg36 Try.sizeOf36 rfl (Nat.le_of_ble_eq_true rfl)) ?_
            clear ha; intro a ha
            refine st_call ha (by kernel_rfl) (by kernel_rfl) (abr_any W _ w x s) ?_
            rintro _ w ⟨rfl, s⟩
            refine ⟨_, rfl, ?_⟩; clear ha; intro a ha
            refine wpList_nil ?_
            refine then_normal ?_
            refine wp_part (abrB x) ha rfl (by kernel_rfl) (fun hb => ?_) (fun hb => ?_)
            · rw [hb] at ha; skip
              refine wp_region_lit ?_
              refine st_val (.pointer (some ⟨b, 0, none⟩)) ha (by kernel_rfl) (by kernel_rfl) ?_
              clear ha; intro a ha
              refine st_val (.pointer (some ⟨b, 0, none⟩)) ha (by kernel_rfl) (by kernel_rfl) ?_
              clear ha; intro a ha
              refine st_val (.pointer (some ⟨b, 19, none⟩)) ha (by kernel_rfl) (by kernel_rfl) ?_
              clear ha; intro a ha
              refine st_val (.pointer (some ⟨b, 20, none⟩)) ha (by kernel_rfl) (by kernel_rfl) ?_
              clear ha; intro a ha
              refine st_exd ha (by kernel_rfl) (ex_store (of_ := 20) 0 [.bool true] s rfl rfl (by kernel_rfl) (by kernel_rfl) (Try.sizeOf4 _) rfl (by simp [Value.oneCell']) (Nat.le_of_ble_eq_true rfl)) ?_
              clear ha; rintro w a s ha
              replace s : St W (.blk b [.int .i64 t.node, .int .i64 1, .bool t.began, .int .i64 x.ti, .int .i64 x.kind, .int .i64 x.node, .int .i64 x.id, .int .i64 x.epoch, .int .i64 x.op, .string (str x.key), .string (str x.val), .string (str x.frm), .string (str x.to), .bool x.is, .slice x.A x.rows.length x.c, .int .i64 x.wall, .int .i64 x.logic, .int .i64 x.err, .int .i64 x.status, .bool t.comm, .bool true, .int .i64 t.epoch, .int .i64 t.wall, .int .i64 t.logic] 67 :: BRest T2 q :: .blk g [.int .i64 x.ti, .int .i64 k.most, .map (some gd), .map (some gt)] 48 :: MapT Try.prog 3 encI gd Dd :: MapT Try.prog 3 encI gt (T2.map ent) :: .blk g1 (evv x) 36 :: L) w := s
              refine wpList_nil ?_
              refine end_with (v := .tuple #[]) ha (results_0 rfl _) ?_
              replace s : St W (.blk b [.int .i64 t.node, .int .i64 1, .bool t.began, .int .i64 x.ti, .int .i64 x.kind, .int .i64 x.node, .int .i64 x.id, .int .i64 x.epoch, .int .i64 x.op, .string (str x.key), .string (str x.val), .string (str x.frm), .string (str x.to), .bool x.is, .slice x.A x.rows.length x.c, .int .i64 x.wall, .int .i64 x.logic, .int .i64 x.err, .int .i64 x.status, .bool t.comm, .bool true, .int .i64 t.epoch, .int .i64 t.wall, .int .i64 t.logic] 67 :: BRest T2 q :: .blk g [.int .i64 x.ti, .int .i64 k.most, .map (some gd), .map (some gt)] 48 :: MapT Try.prog 3 encI gd Dd :: MapT Try.prog 3 encI gt (T2.map ent) :: L) w := s.keep 5 1
              have he2 : endTx x (ownTx x (k.tx x.id)) = (⟨t.node, 1, t.began, x, t.comm, true, t.epoch, t.wall, t.logic⟩ : Tx) := by rw [← ht]; clear s ha ht2 hk2 hk ht; unfold endTx ownTx; simp [*]
              have hmo : (seeL k x).most = k.most := by clear s ha ht2 hk2 hk ht; unfold seeL; simp [*]
              replace s := Blks.close ht2 (⟨t.node, 1, t.began, x, t.comm, true, t.epoch, t.wall, t.logic⟩ : Tx) s
              replace s := s.at_ (j := 3) rfl
              replace s := s.at_ (j := 3) rfl
              replace s := s.at_ (j := 3) rfl
              rw [← ent_set ht2 (⟨t.node, 1, t.began, x, t.comm, true, t.epoch, t.wall, t.logic⟩ : Tx)] at s
              rw [ht] at ht2
              refine ⟨Dd, T2.set q (x.id, b, (⟨t.node, 1, t.began, x, t.comm, true, t.epoch, t.wall, t.logic⟩ : Tx)), rfl, hk2.own (has_iff.1 hhx).2 hid ht2 he2, ?_⟩
              rw [hmo]
              exact s
            · rw [hb] at ha; skip
              refine wp_skip ?_
              refine end_with (v := .tuple #[]) ha (results_0 rfl _) ?_
              replace s : St W (.blk b [.int .i64 t.node, .int .i64 1, .bool t.began, .int .i64 x.ti, .int .i64 x.kind, .int .i64 x.node, .int .i64 x.id, .int .i64 x.epoch, .int .i64 x.op, .string (str x.key), .string (str x.val), .string (str x.frm), .string (str x.to), .bool x.is, .slice x.A x.rows.length x.c, .int .i64 x.wall, .int .i64 x.logic, .int .i64 x.err, .int .i64 x.status, .bool t.comm, .bool t.abrt, .int .i64 t.epoch, .int .i64 t.wall, .int .i64 t.logic] 67 :: BRest T2 q :: .blk g [.int .i64 x.ti, .int .i64 k.most, .map (some gd), .map (some gt)] 48 :: MapT Try.prog 3 encI gd Dd :: MapT Try.prog 3 encI gt (T2.map ent) :: L) w := s.keep 5 1
              have he2 : endTx x (ownTx x (k.tx x.id)) = (⟨t.node, 1, t.began, x, t.comm, t.abrt, t.epoch, t.wall, t.logic⟩ : Tx) := by rw [← ht]; clear s ha ht2 hk2 hk ht; unfold endTx ownTx; simp [*]
              have hmo : (seeL k x).most = k.most := by clear s ha ht2 hk2 hk ht; unfold seeL; simp [*]
              replace s := Blks.close ht2 (⟨t.node, 1, t.began, x, t.comm, t.abrt, t.epoch, t.wall, t.logic⟩ : Tx) s
              replace s := s.at_ (j := 3) rfl
              replace s := s.at_ (j := 3) rfl
              replace s := s.at_ (j := 3) rfl
              rw [← ent_set ht2 (⟨t.node, 1, t.began, x, t.comm, t.abrt, t.epoch, t.wall, t.logic⟩ : Tx)] at s
              rw [ht] at ht2
              refine ⟨Dd, T2.set q (x.id, b, (⟨t.node, 1, t.began, x, t.comm, t.abrt, t.epoch, t.wall, t.logic⟩ : Tx)), rfl, hk2.own (has_iff.1 hhx).2 hid ht2 he2, ?_⟩
              rw [hmo]
              exact s
        · rw [hb] at ha; have hb_ := hb; replace hb := ne_of_beq_false hb
          refine wp_seq ?_
          refine wp_region_lit ?_
          refine st_val (.bool (x.kind == (3 : Int))) ha (by kernel_rfl) (by kernel_rfl) ?_
          clear ha; intro a ha
          refine st_val (.bool (x.kind == (3 : Int))) ha (by kernel_rfl) (by kernel_rfl) ?_
          clear ha; intro a ha
          refine wpList_nil ?_
          refine then_normal ?_
          refine wp_part (x.kind == (3 : Int)) ha rfl (by kernel_rfl) (fun hb => ?_) (fun hb => ?_)
          · rw [hb] at ha; have hb_ := hb; replace hb := eq_of_beq hb
            refine wp_seq ?_
            refine wp_region_lit ?_
            refine st_val (.pointer (some ⟨b, 0, none⟩)) ha (by kernel_rfl) (by kernel_rfl) ?_
            clear ha; intro a ha
            refine st_val (.pointer (some ⟨b, 0, none⟩)) ha (by kernel_rfl) (by kernel_rfl) ?_
            clear ha; intro a ha
            refine st_val (.pointer (some ⟨b, 1, none⟩)) ha (by kernel_rfl) (by kernel_rfl) ?_
            clear ha; intro a ha
            refine st_exd ha (by kernel_rfl) (ex_store (of_ := 1) 0 [.int .i64 0] s rfl rfl (by kernel_rfl) (by kernel_rfl) (Try.sizeOf3 _) rfl (by simp [Value.oneCell']) (Nat.le_of_ble_eq_true rfl)) ?_
            clear ha; rintro w a s ha
            replace s : St W (.blk b [.int .i64 t.node, .int .i64 0, .bool t.began, .int .i64 t.ask.ti, .int .i64 t.ask.kind, .int .i64 t.ask.node, .int .i64 t.ask.id, .int .i64 t.ask.epoch, .int .i64 t.ask.op, .string (str t.ask.key), .string (str t.ask.val), .string (str t.ask.frm), .string (str t.ask.to), .bool t.ask.is, .slice t.ask.A t.ask.rows.length t.ask.c, .int .i64 t.ask.wall, .int .i64 t.ask.logic, .int .i64 t.ask.err, .int .i64 t.ask.status, .bool t.comm, .bool t.abrt, .int .i64 t.epoch, .int .i64 t.wall, .int .i64 t.logic] 67 :: BRest T2 q :: .blk g [.int .i64 x.ti, .int .i64 k.most, .map (some gd), .map (some gt)] 48 :: MapT Try.prog 3 encI gd Dd :: MapT Try.prog 3 encI gt (T2.map ent) :: .blk g1 (evv x) 36 :: L) w := s
            refine wpList_nil ?_
            refine then_normal ?_
            refine wp_seq ?_
            refine wp_region_lit ?_
            refine st_val (.pointer (some ⟨g1, 14, none⟩)) ha (by kernel_rfl) (by kernel_rfl) ?_
            clear ha; intro a ha
            refine st_val (.int .i64 x.err) ha (by kernel_rfl) (run_load1 (of_ := 14) (s.blkIs 5 rfl) rfl (by kernel_rfl) Try.isAgg25 rfl) ?_
            clear ha; intro a ha
            refine st_val (.bool (x.err == (0 : Int))) ha (by kernel_rfl) (by kernel_rfl) ?_
            clear ha; intro a ha
            refine st_val (.bool (x.err == (0 : Int))) ha (by kernel_rfl) (by kernel_rfl) ?_
            clear ha; intro a ha
            rcases Bool.eq_false_or_eq_true (x.err == (0 : Int)) with hb | hb
            · rw [hb] at ha; have hb_ := hb; replace hb := eq_of_beq hb
              refine st_val (.pointer (some ⟨g1, 5, none⟩)) ha (by kernel_rfl) (by kernel_rfl) ?_
              clear ha; intro a ha
              refine st_val (.int .i64 x.op) ha (by kernel_rfl) (run_load1 (of_ := 5) (s.blkIs 5 rfl) rfl (by kernel_rfl) Try.isAgg3 rfl) ?_
              clear ha; intro a ha
              refine st_val (.bool (decide (x.op ≥ (6 : Int)))) ha (by kernel_rfl) (by kernel_rfl) ?_
              clear ha; intro a ha
              refine st_val (.bool (decide (x.op ≥ (6 : Int)))) ha (by kernel_rfl) (by kernel_rfl) ?_
              clear ha; intro a ha
              refine wpList_nil ?_
              refine then_normal ?_
              refine wp_part (decide (x.op ≥ (6 : Int))) ha rfl (by kernel_rfl) (fun hb => ?_) (fun hb => ?_)
              · rw [hb] at ha; replace hb : (x.op ≥ (6 : Int)) := of_decide_eq_true hb
                refine wp_region_lit ?_
                refine st_val (.pointer (some ⟨b, 0, none⟩)) ha (by kernel_rfl) (by kernel_rfl) ?_
                clear ha; intro a ha
                refine st_val (.pointer (some ⟨b, 0, none⟩)) ha (by kernel_rfl) (by kernel_rfl) ?_
                clear ha; intro a ha
                refine st_val (.pointer (some ⟨b, 1, none⟩)) ha (by kernel_rfl) (by kernel_rfl) ?_
                clear ha; intro a ha
                refine st_exd ha (by kernel_rfl) (ex_store (of_ := 1) 0 [.int .i64 3] s rfl rfl (by kernel_rfl) (by kernel_rfl) (Try.sizeOf3 _) rfl (by simp [Value.oneCell']) (Nat.le_of_ble_eq_true rfl)) ?_
                clear ha; rintro w a s ha
                replace s : St W (.blk b [.int .i64 t.node, .int .i64 3, .bool t.began, .int .i64 t.ask.ti, .int .i64 t.ask.kind, .int .i64 t.ask.node, .int .i64 t.ask.id, .int .i64 t.ask.epoch, .int .i64 t.ask.op, .string (str t.ask.key), .string (str t.ask.val), .string (str t.ask.frm), .string (str t.ask.to), .bool t.ask.is, .slice t.ask.A t.ask.rows.length t.ask.c, .int .i64 t.ask.wall, .int .i64 t.ask.logic, .int .i64 t.ask.err, .int .i64 t.ask.status, .bool t.comm, .bool t.abrt, .int .i64 t.epoch, .int .i64 t.wall, .int .i64 t.logic] 67 :: BRest T2 q :: .blk g [.int .i64 x.ti, .int .i64 k.most, .map (some gd), .map (some gt)] 48 :: MapT Try.prog 3 encI gd Dd :: MapT Try.prog 3 encI gt (T2.map ent) :: .blk g1 (evv x) 36 :: L) w := s
                refine wpList_nil ?_
                refine block_normal ?_
                refine then_normal ?_
                refine wp_seq ?_
                refine wp_region_lit ?_
                refine st_val (.agg (evv x).toArray) ha (by kernel_rfl) (run_loadN (of_ := 0) (evv x) (s.blkIs 5 rfl) rfl (by kernel_rfl) Try.isAgg36 Try.sizeOf36 rfl (Nat.le_of_ble_eq_true rfl)) ?_
                clear ha; intro a ha
                refine st_call ha (by kernel_rfl) (by kernel_rfl) (com_any W _ w x s) ?_
                rintro _ w ⟨rfl, s⟩
                refine ⟨_, rfl, ?_⟩; clear ha; intro a ha
                refine wpList_nil ?_
                refine then_normal ?_
                refine wp_part (comB x) ha rfl (by kernel_rfl) (fun hb => ?_) (fun hb => ?_)
                · rw [hb] at ha; skip
                  refine wp_region_lit ?_
                  refine st_val (.pointer (some ⟨b, 0, none⟩)) ha (by kernel_rfl) (by kernel_rfl) ?_
                  clear ha; intro a ha
                  refine st_val (.pointer (some ⟨g1, 4, none⟩)) ha (by kernel_rfl) (by kernel_rfl) ?_
                  clear ha; intro a ha
                  refine st_val (.int .i64 x.epoch) ha (by kernel_rfl) (run_load1 (of_ := 4) (s.blkIs 5 rfl) rfl (by kernel_rfl) Try.isAgg3 rfl) ?_
                  clear ha; intro a ha
                  refine st_val (.pointer (some ⟨g1, 12, none⟩)) ha (by kernel_rfl) (by kernel_rfl) ?_
                  clear ha; intro a ha
                  refine st_val (.agg #[.int .i64 x.wall, .int .i64 x.logic]) ha (by kernel_rfl) (run_loadN (of_ := 12) [.int .i64 x.wall, .int .i64 x.logic] (s.blkIs 5 rfl) rfl (by kernel_rfl) Try.isAgg34 Try.sizeOf34 rfl (Nat.le_of_ble_eq_true rfl)) ?_
                  clear ha; intro a ha
                  refine st_val (.agg #[.bool true, .bool false, .int .i64 x.epoch, .int .i64 x.wall, .int .i64 x.logic]) ha (by kernel_rfl) (by kernel_rfl) ?_
                  clear ha; intro a ha
                  refine st_val (.pointer (some ⟨b, 0, none⟩)) ha (by kernel_rfl) (by kernel_rfl) ?_
                  clear ha; intro a ha
                  refine st_val (.pointer (some ⟨b, 19, none⟩)) ha (by kernel_rfl) (by kernel_rfl) ?_
                  clear ha; intro a ha
                  refine st_exd ha (by kernel_rfl) (ex_store (of_ := 19) 0 [.bool true, .bool false, .int .i64 x.epoch, .int .i64 x.wall, .int .i64 x.logic] s rfl rfl (by kernel_rfl) (by kernel_rfl) (Try.sizeOf65 _) rfl (by simp [Value.oneCell']) (Nat.le_of_ble_eq_true rfl)) ?_
                  clear ha; rintro w a s ha
                  replace s : St W (.blk b [.int .i64 t.node, .int .i64 3, .bool t.began, .int .i64 t.ask.ti, .int .i64 t.ask.kind, .int .i64 t.ask.node, .int .i64 t.ask.id, .int .i64 t.ask.epoch, .int .i64 t.ask.op, .string (str t.ask.key), .string (str t.ask.val), .string (str t.ask.frm), .string (str t.ask.to), .bool t.ask.is, .slice t.ask.A t.ask.rows.length t.ask.c, .int .i64 t.ask.wall, .int .i64 t.ask.logic, .int .i64 t.ask.err, .int .i64 t.ask.status, .bool true, .bool false, .int .i64 x.epoch, .int .i64 x.wall, .int .i64 x.logic] 67 :: BRest T2 q :: .blk g [.int .i64 x.ti, .int .i64 k.most, .map (some gd), .map (some gt)] 48 :: MapT Try.prog 3 encI gd Dd :: MapT Try.prog 3 encI gt (T2.map ent) :: .blk g1 (evv x) 36 :: L) w := s
                  refine wpList_nil ?_
                  refine end_with (v := .tuple #[]) ha (results_0 rfl _) ?_
                  replace s : St W (.blk b [.int .i64 t.node, .int .i64 3, .bool t.began, .int .i64 t.ask.ti, .int .i64 t.ask.kind, .int .i64 t.ask.node, .int .i64 t.ask.id, .int .i64 t.ask.epoch, .int .i64 t.ask.op, .string (str t.ask.key), .string (str t.ask.val), .string (str t.ask.frm), .string (str t.ask.to), .bool t.ask.is, .slice t.ask.A t.ask.rows.length t.ask.c, .int .i64 t.ask.wall, .int .i64 t.ask.logic, .int .i64 t.ask.err, .int .i64 t.ask.status, .bool true, .bool false, .int .i64 x.epoch, .int .i64 x.wall, .int .i64 x.logic] 67 :: BRest T2 q :: .blk g [.int .i64 x.ti, .int .i64 k.most, .map (some gd), .map (some gt)] 48 :: MapT Try.prog 3 encI gd Dd :: MapT Try.prog 3 encI gt (T2.map ent) :: L) w := s.keep 5 1
                  have he2 : endTx x (ownTx x (k.tx x.id)) = (⟨t.node, 3, t.began, t.ask, true, false, x.epoch, x.wall, x.logic⟩ : Tx) := by rw [← ht]; clear s ha ht2 hk2 hk ht; unfold endTx ownTx; simp [*]
                  have hmo : (seeL k x).most = k.most := by clear s ha ht2 hk2 hk ht; unfold seeL; simp [*]
                  replace s := Blks.close ht2 (⟨t.node, 3, t.began, t.ask, true, false, x.epoch, x.wall, x.logic⟩ : Tx) s
                  replace s := s.at_ (j := 3) rfl
                  replace s := s.at_ (j := 3) rfl
                  replace s := s.at_ (j := 3) rfl
                  rw [← ent_set ht2 (⟨t.node, 3, t.began, t.ask, true, false, x.epoch, x.wall, x.logic⟩ : Tx)] at s
                  rw [ht] at ht2
                  refine ⟨Dd, T2.set q (x.id, b, (⟨t.node, 3, t.began, t.ask, true, false, x.epoch, x.wall, x.logic⟩ : Tx)), rfl, hk2.own (has_iff.1 hhx).2 hid ht2 he2, ?_⟩
                  rw [hmo]
                  exact s
                · rw [hb] at ha; skip
                  refine wp_seq ?_
                  refine wp_region_lit ?_
                  refine st_val (.agg (evv x).toArray) ha (by kernel_rfl) (run_loadN (of_ := 0) (evv x) (s.blkIs 5 rfl) rfl (by kernel_rfl) Try.isAgg36 Try.sizeOf36 rfl (Nat.le_of_ble_eq_true rfl)) ?_
                  clear ha; intro a ha
                  refine st_call ha (by kernel_rfl) (by kernel_rfl) (abr_any W _ w x s) ?_
                  rintro _ w ⟨rfl, s⟩
                  refine ⟨_, rfl, ?_⟩; clear ha; intro a ha
                  refine wpList_nil ?_
                  refine then_normal ?_
                  refine wp_part (abrB x) ha rfl (by kernel_rfl) (fun hb => ?_) (fun hb => ?_)
                  · rw [hb] at ha; skip
                    refine wp_region_lit ?_
                    refine st_val (.pointer (some ⟨b, 0, none⟩)) ha (by kernel_rfl) (by kernel_rfl) ?_
                    clear ha; intro a ha
                    refine st_val (.pointer (some ⟨b, 0, none⟩)) ha (by kernel_rfl) (by kernel_rfl) ?_
                    clear ha; intro a ha
                    refine st_val (.pointer (some ⟨b, 19, none⟩)) ha (by kernel_rfl) (by kernel_rfl) ?_
                    clear ha; intro a ha
                    refine st_val (.pointer (some ⟨b, 20, none⟩)) ha (by kernel_rfl) (by kernel_rfl) ?_
                    clear ha; intro a ha
                    refine st_exd ha (by kernel_rfl) (ex_store (of_ := 20) 0 [.bool true] s rfl rfl (by kernel_rfl) (by kernel_rfl) (Try.sizeOf4 _) rfl (by simp [Value.oneCell']) (Nat.le_of_ble_eq_true rfl)) ?_
                    clear ha; rintro w a s ha
                    replace s : St W (.blk b [.int .i64 t.node, .int .i64 3, .bool t.began, .int .i64 t.ask.ti, .int .i64 t.ask.kind, .int .i64 t.ask.node, .int .i64 t.ask.id, .int .i64 t.ask.epoch, .int .i64 t.ask.op, .string (str t.ask.key), .string (str t.ask.val), .string (str t.ask.frm), .string (str t.ask.to), .bool t.ask.is, .slice t.ask.A t.ask.rows.length t.ask.c, .int .i64 t.ask.wall, .int .i64 t.ask.logic, .int .i64 t.ask.err, .int .i64 t.ask.status, .bool t.comm, .bool true, .int .i64 t.epoch, .int .i64 t.wall, .int .i64 t.logic] 67 :: BRest T2 q :: .blk g [.int .i64 x.ti, .int .i64 k.most, .map (some gd), .map (some gt)] 48 :: MapT Try.prog 3 encI gd Dd :: MapT Try.prog 3 encI gt (T2.map ent) :: .blk g1 (evv x) 36 :: L) w := s
                    refine wpList_nil ?_
                    refine end_with (v := .tuple #[]) ha (results_0 rfl _) ?_
                    replace s : St W (.blk b [.int .i64 t.node, .int .i64 3, .bool t.began, .int .i64 t.ask.ti, .int .i64 t.ask.kind, .int .i64 t.ask.node, .int .i64 t.ask.id, .int .i64 t.ask.epoch, .int .i64 t.ask.op, .string (str t.ask.key), .string (str t.ask.val), .string (str t.ask.frm), .string (str t.ask.to), .bool t.ask.is, .slice t.ask.A t.ask.rows.length t.ask.c, .int .i64 t.ask.wall, .int .i64 t.ask.logic, .int .i64 t.ask.err, .int .i64 t.ask.status, .bool t.comm, .bool true, .int .i64 t.epoch, .int .i64 t.wall, .int .i64 t.logic] 67 :: BRest T2 q :: .blk g [.int .i64 x.ti, .int .i64 k.most, .map (some gd), .map (some gt)] 48 :: MapT Try.prog 3 encI gd Dd :: MapT Try.prog 3 encI gt (T2.map ent) :: L) w := s.keep 5 1
                    have he2 : endTx x (ownTx x (k.tx x.id)) = (⟨t.node, 3, t.began, t.ask, t.comm, true, t.epoch, t.wall, t.logic⟩ : Tx) := by rw [← ht]; clear s ha ht2 hk2 hk ht; unfold endTx ownTx; simp [*]
                    have hmo : (seeL k x).most = k.most := by clear s ha ht2 hk2 hk ht; unfold seeL; simp [*]
                    replace s := Blks.close ht2 (⟨t.node, 3, t.began, t.ask, t.comm, true, t.epoch, t.wall, t.logic⟩ : Tx) s
                    replace s := s.at_ (j := 3) rfl
                    replace s := s.at_ (j := 3) rfl
                    replace s := s.at_ (j := 3) rfl
                    rw [← ent_set ht2 (⟨t.node, 3, t.began, t.ask, t.comm, true, t.epoch, t.wall, t.logic⟩ : Tx)] at s
                    rw [ht] at ht2
                    refine ⟨Dd, T2.set q (x.id, b, (⟨t.node, 3, t.began, t.ask, t.comm, true, t.epoch, t.wall, t.logic⟩ : Tx)), rfl, hk2.own (has_iff.1 hhx).2 hid ht2 he2, ?_⟩
                    rw [hmo]
                    exact s
                  · rw [hb] at ha; skip
                    refine wp_skip ?_
                    refine end_with (v := .tuple #[]) ha (results_0 rfl _) ?_
                    replace s : St W (.blk b [.int .i64 t.node, .int .i64 3, .bool t.began, .int .i64 t.ask.ti, .int .i64 t.ask.kind, .int .i64 t.ask.node, .int .i64 t.ask.id, .int .i64 t.ask.epoch, .int .i64 t.ask.op, .string (str t.ask.key), .string (str t.ask.val), .string (str t.ask.frm), .string (str t.ask.to), .bool t.ask.is, .slice t.ask.A t.ask.rows.length t.ask.c, .int .i64 t.ask.wall, .int .i64 t.ask.logic, .int .i64 t.ask.err, .int .i64 t.ask.status, .bool t.comm, .bool t.abrt, .int .i64 t.epoch, .int .i64 t.wall, .int .i64 t.logic] 67 :: BRest T2 q :: .blk g [.int .i64 x.ti, .int .i64 k.most, .map (some gd), .map (some gt)] 48 :: MapT Try.prog 3 encI gd Dd :: MapT Try.prog 3 encI gt (T2.map ent) :: L) w := s.keep 5 1
                    have he2 : endTx x (ownTx x (k.tx x.id)) = (⟨t.node, 3, t.began, t.ask, t.comm, t.abrt, t.epoch, t.wall, t.logic⟩ : Tx) := by rw [← ht]; clear s ha ht2 hk2 hk ht; unfold endTx ownTx; simp [*]
                    have hmo : (seeL k x).most = k.most := by clear s ha ht2 hk2 hk ht; unfold seeL; simp [*]
                    replace s := Blks.close ht2 (⟨t.node, 3, t.began, t.ask, t.comm, t.abrt, t.epoch, t.wall, t.logic⟩ : Tx) s
                    replace s := s.at_ (j := 3) rfl
                    replace s := s.at_ (j := 3) rfl
                    replace s := s.at_ (j := 3) rfl
                    rw [← ent_set ht2 (⟨t.node, 3, t.began, t.ask, t.comm, t.abrt, t.epoch, t.wall, t.logic⟩ : Tx)] at s
                    rw [ht] at ht2
                    refine ⟨Dd, T2.set q (x.id, b, (⟨t.node, 3, t.began, t.ask, t.comm, t.abrt, t.epoch, t.wall, t.logic⟩ : Tx)), rfl, hk2.own (has_iff.1 hhx).2 hid ht2 he2, ?_⟩
                    rw [hmo]
                    exact s
              · rw [hb] at ha; replace hb : ¬ (x.op ≥ (6 : Int)) := of_decide_eq_false hb
                refine wp_skip ?_
                refine block_normal ?_
                refine then_normal ?_
                refine wp_seq ?_
                refine wp_region_lit ?_
                refine st_val (.agg (evv x).toArray) ha (by kernel_rfl) (run_loadN (of_ := 0) (evv x) (s.blkIs 5 rfl) rfl (by kernel_rfl) Try.isAgg36 Try.sizeOf36 rfl (Nat.le_of_ble_eq_true rfl)) ?_
                clear ha; intro a ha
                refine st_call ha (by kernel_rfl) (by kernel_rfl) (com_any W _ w x s) ?_
                rintro _ w ⟨rfl, s⟩
                refine ⟨_, rfl, ?_⟩; clear ha; intro a ha
                refine wpList_nil ?_
                refine then_normal ?_
                refine wp_part (comB x) ha rfl (by kernel_rfl) (fun hb => ?_) (fun hb => ?_)
                · rw [hb] at ha; skip
                  refine wp_region_lit ?_
                  refine st_val (.pointer (some ⟨b, 0, none⟩)) ha (by kernel_rfl) (by kernel_rfl) ?_
                  clear ha; intro a ha
                  refine st_val (.pointer (some ⟨g1, 4, none⟩)) ha (by kernel_rfl) (by kernel_rfl) ?_
                  clear ha; intro a ha
                  refine st_val (.int .i64 x.epoch) ha (by kernel_rfl) (run_load1 (of_ := 4) (s.blkIs 5 rfl) rfl (by kernel_rfl) Try.isAgg3 rfl) ?_
                  clear ha; intro a ha
                  refine st_val (.pointer (some ⟨g1, 12, none⟩)) ha (by kernel_rfl) (by kernel_rfl) ?_
                  clear ha; intro a ha
                  refine st_val (.agg #[.int .i64 x.wall, .int .i64 x.logic]) ha (by kernel_rfl) (run_loadN (of_ := 12) [.int .i64 x.wall, .int .i64 x.logic] (s.blkIs 5 rfl) rfl (by kernel_rfl) Try.isAgg34 Try.sizeOf34 rfl (Nat.le_of_ble_eq_true rfl)) ?_
                  clear ha; intro a ha
                  refine st_val (.agg #[.bool true, .bool false, .int .i64 x.epoch, .int .i64 x.wall, .int .i64 x.logic]) ha (by kernel_rfl) (by kernel_rfl) ?_
                  clear ha; intro a ha
                  refine st_val (.pointer (some ⟨b, 0, none⟩)) ha (by kernel_rfl) (by kernel_rfl) ?_
                  clear ha; intro a ha
                  refine st_val (.pointer (some ⟨b, 19, none⟩)) ha (by kernel_rfl) (by kernel_rfl) ?_
                  clear ha; intro a ha
                  refine st_exd ha (by kernel_rfl) (ex_store (of_ := 19) 0 [.bool true, .bool false, .int .i64 x.epoch, .int .i64 x.wall, .int .i64 x.logic] s rfl rfl (by kernel_rfl) (by kernel_rfl) (Try.sizeOf65 _) rfl (by simp [Value.oneCell']) (Nat.le_of_ble_eq_true rfl)) ?_
                  clear ha; rintro w a s ha
                  replace s : St W (.blk b [.int .i64 t.node, .int .i64 0, .bool t.began, .int .i64 t.ask.ti, .int .i64 t.ask.kind, .int .i64 t.ask.node, .int .i64 t.ask.id, .int .i64 t.ask.epoch, .int .i64 t.ask.op, .string (str t.ask.key), .string (str t.ask.val), .string (str t.ask.frm), .string (str t.ask.to), .bool t.ask.is, .slice t.ask.A t.ask.rows.length t.ask.c, .int .i64 t.ask.wall, .int .i64 t.ask.logic, .int .i64 t.ask.err, .int .i64 t.ask.status, .bool true, .bool false, .int .i64 x.epoch, .int .i64 x.wall, .int .i64 x.logic] 67 :: BRest T2 q :: .blk g [.int .i64 x.ti, .int .i64 k.most, .map (some gd), .map (some gt)] 48 :: MapT Try.prog 3 encI gd Dd :: MapT Try.prog 3 encI gt (T2.map ent) :: .blk g1 (evv x) 36 :: L) w := s
                  refine wpList_nil ?_
                  refine end_with (v := .tuple #[]) ha (results_0 rfl _) ?_
                  replace s : St W (.blk b [.int .i64 t.node, .int .i64 0, .bool t.began, .int .i64 t.ask.ti, .int .i64 t.ask.kind, .int .i64 t.ask.node, .int .i64 t.ask.id, .int .i64 t.ask.epoch, .int .i64 t.ask.op, .string (str t.ask.key), .string (str t.ask.val), .string (str t.ask.frm), .string (str t.ask.to), .bool t.ask.is, .slice t.ask.A t.ask.rows.length t.ask.c, .int .i64 t.ask.wall, .int .i64 t.ask.logic, .int .i64 t.ask.err, .int .i64 t.ask.status, .bool true, .bool false, .int .i64 x.epoch, .int .i64 x.wall, .int .i64 x.logic] 67 :: BRest T2 q :: .blk g [.int .i64 x.ti, .int .i64 k.most, .map (some gd), .map (some gt)] 48 :: MapT Try.prog 3 encI gd Dd :: MapT Try.prog 3 encI gt (T2.map ent) :: L) w := s.keep 5 1
                  have he2 : endTx x (ownTx x (k.tx x.id)) = (⟨t.node, 0, t.began, t.ask, true, false, x.epoch, x.wall, x.logic⟩ : Tx) := by rw [← ht]; clear s ha ht2 hk2 hk ht; unfold endTx ownTx; simp [*]
                  have hmo : (seeL k x).most = k.most := by clear s ha ht2 hk2 hk ht; unfold seeL; simp [*]
                  replace s := Blks.close ht2 (⟨t.node, 0, t.began, t.ask, true, false, x.epoch, x.wall, x.logic⟩ : Tx) s
                  replace s := s.at_ (j := 3) rfl
                  replace s := s.at_ (j := 3) rfl
                  replace s := s.at_ (j := 3) rfl
                  rw [← ent_set ht2 (⟨t.node, 0, t.began, t.ask, true, false, x.epoch, x.wall, x.logic⟩ : Tx)] at s
                  rw [ht] at ht2
                  refine ⟨Dd, T2.set q (x.id, b, (⟨t.node, 0, t.began, t.ask, true, false, x.epoch, x.wall, x.logic⟩ : Tx)), rfl, hk2.own (has_iff.1 hhx).2 hid ht2 he2, ?_⟩
                  rw [hmo]
                  exact s
                · rw [hb] at ha; skip
                  refine wp_seq ?_
                  refine wp_region_lit ?_
                  refine st_val (.agg (evv x).toArray) ha (by kernel_rfl) (run_loadN (of_ := 0) (evv x) (s.blkIs 5 rfl) rfl (by kernel_rfl) Try.isAgg36 Try.sizeOf36 rfl (Nat.le_of_ble_eq_true rfl)) ?_
                  clear ha; intro a ha
                  refine st_call ha (by kernel_rfl) (by kernel_rfl) (abr_any W _ w x s) ?_
                  rintro _ w ⟨rfl, s⟩
                  refine ⟨_, rfl, ?_⟩; clear ha; intro a ha
                  refine wpList_nil ?_
                  refine then_normal ?_
                  refine wp_part (abrB x) ha rfl (by kernel_rfl) (fun hb => ?_) (fun hb => ?_)
                  · rw [hb] at ha; skip
                    refine wp_region_lit ?_
                    refine st_val (.pointer (some ⟨b, 0, none⟩)) ha (by kernel_rfl) (by kernel_rfl) ?_
                    clear ha; intro a ha
                    refine st_val (.pointer (some ⟨b, 0, none⟩)) ha (by kernel_rfl) (by kernel_rfl) ?_
                    clear ha; intro a ha
                    refine st_val (.pointer (some ⟨b, 19, none⟩)) ha (by kernel_rfl) (by kernel_rfl) ?_
                    clear ha; intro a ha
                    refine st_val (.pointer (some ⟨b, 20, none⟩)) ha (by kernel_rfl) (by kernel_rfl) ?_
                    clear ha; intro a ha
                    refine st_exd ha (by kernel_rfl) (ex_store (of_ := 20) 0 [.bool true] s rfl rfl (by kernel_rfl) (by kernel_rfl) (Try.sizeOf4 _) rfl (by simp [Value.oneCell']) (Nat.le_of_ble_eq_true rfl)) ?_
                    clear ha; rintro w a s ha
                    replace s : St W (.blk b [.int .i64 t.node, .int .i64 0, .bool t.began, .int .i64 t.ask.ti, .int .i64 t.ask.kind, .int .i64 t.ask.node, .int .i64 t.ask.id, .int .i64 t.ask.epoch, .int .i64 t.ask.op, .string (str t.ask.key), .string (str t.ask.val), .string (str t.ask.frm), .string (str t.ask.to), .bool t.ask.is, .slice t.ask.A t.ask.rows.length t.ask.c, .int .i64 t.ask.wall, .int .i64 t.ask.logic, .int .i64 t.ask.err, .int .i64 t.ask.status, .bool t.comm, .bool true, .int .i64 t.epoch, .int .i64 t.wall, .int .i64 t.logic] 67 :: BRest T2 q :: .blk g [.int .i64 x.ti, .int .i64 k.most, .map (some gd), .map (some gt)] 48 :: MapT Try.prog 3 encI gd Dd :: MapT Try.prog 3 encI gt (T2.map ent) :: .blk g1 (evv x) 36 :: L) w := s
                    refine wpList_nil ?_
                    refine end_with (v := .tuple #[]) ha (results_0 rfl _) ?_
                    replace s : St W (.blk b [.int .i64 t.node, .int .i64 0, .bool t.began, .int .i64 t.ask.ti, .int .i64 t.ask.kind, .int .i64 t.ask.node, .int .i64 t.ask.id, .int .i64 t.ask.epoch, .int .i64 t.ask.op, .string (str t.ask.key), .string (str t.ask.val), .string (str t.ask.frm), .string (str t.ask.to), .bool t.ask.is, .slice t.ask.A t.ask.rows.length t.ask.c, .int .i64 t.ask.wall, .int .i64 t.ask.logic, .int .i64 t.ask.err, .int .i64 t.ask.status, .bool t.comm, .bool true, .int .i64 t.epoch, .int .i64 t.wall, .int .i64 t.logic] 67 :: BRest T2 q :: .blk g [.int .i64 x.ti, .int .i64 k.most, .map (some gd), .map (some gt)] 48 :: MapT Try.prog 3 encI gd Dd :: MapT Try.prog 3 encI gt (T2.map ent) :: L) w := s.keep 5 1
                    have he2 : endTx x (ownTx x (k.tx x.id)) = (⟨t.node, 0, t.began, t.ask, t.comm, true, t.epoch, t.wall, t.logic⟩ : Tx) := by rw [← ht]; clear s ha ht2 hk2 hk ht; unfold endTx ownTx; simp [*]
                    have hmo : (seeL k x).most = k.most := by clear s ha ht2 hk2 hk ht; unfold seeL; simp [*]
                    replace s := Blks.close ht2 (⟨t.node, 0, t.began, t.ask, t.comm, true, t.epoch, t.wall, t.logic⟩ : Tx) s
                    replace s := s.at_ (j := 3) rfl
                    replace s := s.at_ (j := 3) rfl
                    replace s := s.at_ (j := 3) rfl
                    rw [← ent_set ht2 (⟨t.node, 0, t.began, t.ask, t.comm, true, t.epoch, t.wall, t.logic⟩ : Tx)] at s
                    rw [ht] at ht2
                    refine ⟨Dd, T2.set q (x.id, b, (⟨t.node, 0, t.began, t.ask, t.comm, true, t.epoch, t.wall, t.logic⟩ : Tx)), rfl, hk2.own (has_iff.1 hhx).2 hid ht2 he2, ?_⟩
                    rw [hmo]
                    exact s
                  · rw [hb] at ha; skip
                    refine wp_skip ?_
                    refine end_with (v := .tuple #[]) ha (results_0 rfl _) ?_
                    replace s : St W (.blk b [.int .i64 t.node, .int .i64 0, .bool t.began, .int .i64 t.ask.ti, .int .i64 t.ask.kind, .int .i64 t.ask.node, .int .i64 t.ask.id, .int .i64 t.ask.epoch, .int .i64 t.ask.op, .string (str t.ask.key), .string (str t.ask.val), .string (str t.ask.frm), .string (str t.ask.to), .bool t.ask.is, .slice t.ask.A t.ask.rows.length t.ask.c, .int .i64 t.ask.wall, .int .i64 t.ask.logic, .int .i64 t.ask.err, .int .i64 t.ask.status, .bool t.comm, .bool t.abrt, .int .i64 t.epoch, .int .i64 t.wall, .int .i64 t.logic] 67 :: BRest T2 q :: .blk g [.int .i64 x.ti, .int .i64 k.most, .map (some gd), .map (some gt)] 48 :: MapT Try.prog 3 encI gd Dd :: MapT Try.prog 3 encI gt (T2.map ent) :: L) w := s.keep 5 1
                    have he2 : endTx x (ownTx x (k.tx x.id)) = (⟨t.node, 0, t.began, t.ask, t.comm, t.abrt, t.epoch, t.wall, t.logic⟩ : Tx) := by rw [← ht]; clear s ha ht2 hk2 hk ht; unfold endTx ownTx; simp [*]
                    have hmo : (seeL k x).most = k.most := by clear s ha ht2 hk2 hk ht; unfold seeL; simp [*]
                    replace s := Blks.close ht2 (⟨t.node, 0, t.began, t.ask, t.comm, t.abrt, t.epoch, t.wall, t.logic⟩ : Tx) s
                    replace s := s.at_ (j := 3) rfl
                    replace s := s.at_ (j := 3) rfl
                    replace s := s.at_ (j := 3) rfl
                    rw [← ent_set ht2 (⟨t.node, 0, t.began, t.ask, t.comm, t.abrt, t.epoch, t.wall, t.logic⟩ : Tx)] at s
                    rw [ht] at ht2
                    refine ⟨Dd, T2.set q (x.id, b, (⟨t.node, 0, t.began, t.ask, t.comm, t.abrt, t.epoch, t.wall, t.logic⟩ : Tx)), rfl, hk2.own (has_iff.1 hhx).2 hid ht2 he2, ?_⟩
                    rw [hmo]
                    exact s
            · rw [hb] at ha; have hb_ := hb; replace hb := ne_of_beq_false hb
              refine st_pass ha (by kernel_rfl) ?_
              clear ha; intro a ha
              refine st_pass ha (by kernel_rfl) ?_
              clear ha; intro a ha
              refine st_pass ha (by kernel_rfl) ?_
              clear ha; intro a ha
              refine st_val (.bool false) ha (by kernel_rfl) (by kernel_rfl) ?_
              clear ha; intro a ha
              refine wpList_nil ?_
              refine then_normal ?_
              refine wp_false ha rfl (by kernel_rfl) ?_
              refine wp_skip ?_
              refine block_normal ?_
              refine then_normal ?_
              refine wp_seq ?_
              refine wp_region_lit ?_
              refine st_val (.agg (evv x).toArray) ha (by kernel_rfl) (run_loadN (of_ := 0) (evv x) (s.blkIs 5 rfl) rfl (by kernel_rfl) Try.isAgg36 Try.sizeOf36 rfl (Nat.le_of_ble_eq_true rfl)) ?_
              clear ha; intro a ha
              refine st_call ha (by kernel_rfl) (by kernel_rfl) (com_any W _ w x s) ?_
              rintro _ w ⟨rfl, s⟩
              refine ⟨_, rfl, ?_⟩; clear ha; intro a ha
              refine wpList_nil ?_
              refine then_normal ?_
              refine wp_part (comB x) ha rfl (by kernel_rfl) (fun hb => ?_) (fun hb => ?_)
              · rw [hb] at ha; skip
                refine wp_region_lit ?_
                refine st_val (.pointer (some ⟨b, 0, none⟩)) ha (by kernel_rfl) (by kernel_rfl) ?_
                clear ha; intro a ha
                refine st_val (.pointer (some ⟨g1, 4, none⟩)) ha (by kernel_rfl) (by kernel_rfl) ?_
                clear ha; intro a ha
                refine st_val (.int .i64 x.epoch) ha (by kernel_rfl) (run_load1 (of_ := 4) (s.blkIs 5 rfl) rfl (by kernel_rfl) Try.isAgg3 rfl) ?_
                clear ha; intro a ha
                refine st_val (.pointer (some ⟨g1, 12, none⟩)) ha (by kernel_rfl) (by kernel_rfl) ?_
                clear ha; intro a ha
                refine st_val (.agg #[.int .i64 x.wall, .int .i64 x.logic]) ha (by kernel_rfl) (run_loadN (of_ := 12) [.int .i64 x.wall, .int .i64 x.logic] (s.blkIs 5 rfl) rfl (by kernel_rfl) Try.isAgg34 Try.sizeOf34 rfl (Nat.le_of_ble_eq_true rfl)) ?_
                clear ha; intro a ha
                refine st_val (.agg #[.bool true, .bool false, .int .i64 x.epoch, .int .i64 x.wall, .int .i64 x.logic]) ha (by kernel_rfl) (by kernel_rfl) ?_
                clear ha; intro a ha
                refine st_val (.pointer (some ⟨b, 0, none⟩)) ha (by kernel_rfl) (by kernel_rfl) ?_
                clear ha; intro a ha
                refine st_val (.pointer (some ⟨b, 19, none⟩)) ha (by kernel_rfl) (by kernel_rfl) ?_
                clear ha; intro a ha
                refine st_exd ha (by kernel_rfl) (ex_store (of_ := 19) 0 [.bool true, .bool false, .int .i64 x.epoch, .int .i64 x.wall, .int .i64 x.logic] s rfl rfl (by kernel_rfl) (by kernel_rfl) (Try.sizeOf65 _) rfl (by simp [Value.oneCell']) (Nat.le_of_ble_eq_true rfl)) ?_
                clear ha; rintro w a s ha
                replace s : St W (.blk b [.int .i64 t.node, .int .i64 0, .bool t.began, .int .i64 t.ask.ti, .int .i64 t.ask.kind, .int .i64 t.ask.node, .int .i64 t.ask.id, .int .i64 t.ask.epoch, .int .i64 t.ask.op, .string (str t.ask.key), .string (str t.ask.val), .string (str t.ask.frm), .string (str t.ask.to), .bool t.ask.is, .slice t.ask.A t.ask.rows.length t.ask.c, .int .i64 t.ask.wall, .int .i64 t.ask.logic, .int .i64 t.ask.err, .int .i64 t.ask.status, .bool true, .bool false, .int .i64 x.epoch, .int .i64 x.wall, .int .i64 x.logic] 67 :: BRest T2 q :: .blk g [.int .i64 x.ti, .int .i64 k.most, .map (some gd), .map (some gt)] 48 :: MapT Try.prog 3 encI gd Dd :: MapT Try.prog 3 encI gt (T2.map ent) :: .blk g1 (evv x) 36 :: L) w := s
                refine wpList_nil ?_
                refine end_with (v := .tuple #[]) ha (results_0 rfl _) ?_
                replace s : St W (.blk b [.int .i64 t.node, .int .i64 0, .bool t.began, .int .i64 t.ask.ti, .int .i64 t.ask.kind, .int .i64 t.ask.node, .int .i64 t.ask.id, .int .i64 t.ask.epoch, .int .i64 t.ask.op, .string (str t.ask.key), .string (str t.ask.val), .string (str t.ask.frm), .string (str t.ask.to), .bool t.ask.is, .slice t.ask.A t.ask.rows.length t.ask.c, .int .i64 t.ask.wall, .int .i64 t.ask.logic, .int .i64 t.ask.err, .int .i64 t.ask.status, .bool true, .bool false, .int .i64 x.epoch, .int .i64 x.wall, .int .i64 x.logic] 67 :: BRest T2 q :: .blk g [.int .i64 x.ti, .int .i64 k.most, .map (some gd), .map (some gt)] 48 :: MapT Try.prog 3 encI gd Dd :: MapT Try.prog 3 encI gt (T2.map ent) :: L) w := s.keep 5 1
                have he2 : endTx x (ownTx x (k.tx x.id)) = (⟨t.node, 0, t.began, t.ask, true, false, x.epoch, x.wall, x.logic⟩ : Tx) := by rw [← ht]; clear s ha ht2 hk2 hk ht; unfold endTx ownTx; simp [*]
                have hmo : (seeL k x).most = k.most := by clear s ha ht2 hk2 hk ht; unfold seeL; simp [*]
                replace s := Blks.close ht2 (⟨t.node, 0, t.began, t.ask, true, false, x.epoch, x.wall, x.logic⟩ : Tx) s
                replace s := s.at_ (j := 3) rfl
                replace s := s.at_ (j := 3) rfl
                replace s := s.at_ (j := 3) rfl
                rw [← ent_set ht2 (⟨t.node, 0, t.began, t.ask, true, false, x.epoch, x.wall, x.logic⟩ : Tx)] at s
                rw [ht] at ht2
                refine ⟨Dd, T2.set q (x.id, b, (⟨t.node, 0, t.began, t.ask, true, false, x.epoch, x.wall, x.logic⟩ : Tx)), rfl, hk2.own (has_iff.1 hhx).2 hid ht2 he2, ?_⟩
                rw [hmo]
                exact s
              · rw [hb] at ha; skip
                refine wp_seq ?_
                refine wp_region_lit ?_
                refine st_val (.agg (evv x).toArray) ha (by kernel_rfl) (run_loadN (of_ := 0) (evv x) (s.blkIs 5 rfl) rfl (by kernel_rfl) Try.isAgg36 Try.sizeOf36 rfl (Nat.le_of_ble_eq_true rfl)) ?_
                clear ha; intro a ha
                refine st_call ha (by kernel_rfl) (by kernel_rfl) (abr_any W _ w x s) ?_
                rintro _ w ⟨rfl, s⟩
                refine ⟨_, rfl, ?_⟩; clear ha; intro a ha
                refine wpList_nil ?_
                refine then_normal ?_
                refine wp_part (abrB x) ha rfl (by kernel_rfl) (fun hb => ?_) (fun hb => ?_)
                · rw [hb] at ha; skip
                  refine wp_region_lit ?_
                  refine st_val (.pointer (some ⟨b, 0, none⟩)) ha (by kernel_rfl) (by kernel_rfl) ?_
                  clear ha; intro a ha
                  refine st_val (.pointer (some ⟨b, 0, none⟩)) ha (by kernel_rfl) (by kernel_rfl) ?_
                  clear ha; intro a ha
                  refine st_val (.pointer (some ⟨b, 19, none⟩)) ha (by kernel_rfl) (by kernel_rfl) ?_
                  clear ha; intro a ha
                  refine st_val (.pointer (some ⟨b, 20, none⟩)) ha (by kernel_rfl) (by kernel_rfl) ?_
                  clear ha; intro a ha
                  refine st_exd ha (by kernel_rfl) (ex_store (of_ := 20) 0 [.bool true] s rfl rfl (by kernel_rfl) (by kernel_rfl) (Try.sizeOf4 _) rfl (by simp [Value.oneCell']) (Nat.le_of_ble_eq_true rfl)) ?_
                  clear ha; rintro w a s ha
                  replace s : St W (.blk b [.int .i64 t.node, .int .i64 0, .bool t.began, .int .i64 t.ask.ti, .int .i64 t.ask.kind, .int .i64 t.ask.node, .int .i64 t.ask.id, .int .i64 t.ask.epoch, .int .i64 t.ask.op, .string (str t.ask.key), .string (str t.ask.val), .string (str t.ask.frm), .string (str t.ask.to), .bool t.ask.is, .slice t.ask.A t.ask.rows.length t.ask.c, .int .i64 t.ask.wall, .int .i64 t.ask.logic, .int .i64 t.ask.err, .int .i64 t.ask.status, .bool t.comm, .bool true, .int .i64 t.epoch, .int .i64 t.wall, .int .i64 t.logic] 67 :: BRest T2 q :: .blk g [.int .i64 x.ti, .int .i64 k.most, .map (some gd), .map (some gt)] 48 :: MapT Try.prog 3 encI gd Dd :: MapT Try.prog 3 encI gt (T2.map ent) :: .blk g1 (evv x) 36 :: L) w := s
                  refine wpList_nil ?_
                  refine end_with (v := .tuple #[]) ha (results_0 rfl _) ?_
                  replace s : St W (.blk b [.int .i64 t.node, .int .i64 0, .bool t.began, .int .i64 t.ask.ti, .int .i64 t.ask.kind, .int .i64 t.ask.node, .int .i64 t.ask.id, .int .i64 t.ask.epoch, .int .i64 t.ask.op, .string (str t.ask.key), .string (str t.ask.val), .string (str t.ask.frm), .string (str t.ask.to), .bool t.ask.is, .slice t.ask.A t.ask.rows.length t.ask.c, .int .i64 t.ask.wall, .int .i64 t.ask.logic, .int .i64 t.ask.err, .int .i64 t.ask.status, .bool t.comm, .bool true, .int .i64 t.epoch, .int .i64 t.wall, .int .i64 t.logic] 67 :: BRest T2 q :: .blk g [.int .i64 x.ti, .int .i64 k.most, .map (some gd), .map (some gt)] 48 :: MapT Try.prog 3 encI gd Dd :: MapT Try.prog 3 encI gt (T2.map ent) :: L) w := s.keep 5 1
                  have he2 : endTx x (ownTx x (k.tx x.id)) = (⟨t.node, 0, t.began, t.ask, t.comm, true, t.epoch, t.wall, t.logic⟩ : Tx) := by rw [← ht]; clear s ha ht2 hk2 hk ht; unfold endTx ownTx; simp [*]
                  have hmo : (seeL k x).most = k.most := by clear s ha ht2 hk2 hk ht; unfold seeL; simp [*]
                  replace s := Blks.close ht2 (⟨t.node, 0, t.began, t.ask, t.comm, true, t.epoch, t.wall, t.logic⟩ : Tx) s
                  replace s := s.at_ (j := 3) rfl
                  replace s := s.at_ (j := 3) rfl
                  replace s := s.at_ (j := 3) rfl
                  rw [← ent_set ht2 (⟨t.node, 0, t.began, t.ask, t.comm, true, t.epoch, t.wall, t.logic⟩ : Tx)] at s
                  rw [ht] at ht2
                  refine ⟨Dd, T2.set q (x.id, b, (⟨t.node, 0, t.began, t.ask, t.comm, true, t.epoch, t.wall, t.logic⟩ : Tx)), rfl, hk2.own (has_iff.1 hhx).2 hid ht2 he2, ?_⟩
                  rw [hmo]
                  exact s
                · rw [hb] at ha; skip
                  refine wp_skip ?_
                  refine end_with (v := .tuple #[]) ha (results_0 rfl _) ?_
                  replace s : St W (.blk b [.int .i64 t.node, .int .i64 0, .bool t.began, .int .i64 t.ask.ti, .int .i64 t.ask.kind, .int .i64 t.ask.node, .int .i64 t.ask.id, .int .i64 t.ask.epoch, .int .i64 t.ask.op, .string (str t.ask.key), .string (str t.ask.val), .string (str t.ask.frm), .string (str t.ask.to), .bool t.ask.is, .slice t.ask.A t.ask.rows.length t.ask.c, .int .i64 t.ask.wall, .int .i64 t.ask.logic, .int .i64 t.ask.err, .int .i64 t.ask.status, .bool t.comm, .bool t.abrt, .int .i64 t.epoch, .int .i64 t.wall, .int .i64 t.logic] 67 :: BRest T2 q :: .blk g [.int .i64 x.ti, .int .i64 k.most, .map (some gd), .map (some gt)] 48 :: MapT Try.prog 3 encI gd Dd :: MapT Try.prog 3 encI gt (T2.map ent) :: L) w := s.keep 5 1
                  have he2 : endTx x (ownTx x (k.tx x.id)) = (⟨t.node, 0, t.began, t.ask, t.comm, t.abrt, t.epoch, t.wall, t.logic⟩ : Tx) := by rw [← ht]; clear s ha ht2 hk2 hk ht; unfold endTx ownTx; simp [*]
                  have hmo : (seeL k x).most = k.most := by clear s ha ht2 hk2 hk ht; unfold seeL; simp [*]
                  replace s := Blks.close ht2 (⟨t.node, 0, t.began, t.ask, t.comm, t.abrt, t.epoch, t.wall, t.logic⟩ : Tx) s
                  replace s := s.at_ (j := 3) rfl
                  replace s := s.at_ (j := 3) rfl
                  replace s := s.at_ (j := 3) rfl
                  rw [← ent_set ht2 (⟨t.node, 0, t.began, t.ask, t.comm, t.abrt, t.epoch, t.wall, t.logic⟩ : Tx)] at s
                  rw [ht] at ht2
                  refine ⟨Dd, T2.set q (x.id, b, (⟨t.node, 0, t.began, t.ask, t.comm, t.abrt, t.epoch, t.wall, t.logic⟩ : Tx)), rfl, hk2.own (has_iff.1 hhx).2 hid ht2 he2, ?_⟩
                  rw [hmo]
                  exact s
          · rw [hb] at ha; have hb_ := hb; replace hb := ne_of_beq_false hb
            refine wp_skip ?_
            refine block_normal ?_
            refine then_normal ?_
            refine wp_seq ?_
            refine wp_region_lit ?_
            refine st_val (.agg (evv x).toArray) ha (by kernel_rfl) (run_loadN (of_ := 0) (evv x) (s.blkIs 5 rfl) rfl (by kernel_rfl) Try.isAgg36 Try.sizeOf36 rfl (Nat.le_of_ble_eq_true rfl)) ?_
            clear ha; intro a ha
            refine st_call ha (by kernel_rfl) (by kernel_rfl) (com_any W _ w x s) ?_
            rintro _ w ⟨rfl, s⟩
            refine ⟨_, rfl, ?_⟩; clear ha; intro a ha
            refine wpList_nil ?_
            refine then_normal ?_
            refine wp_part (comB x) ha rfl (by kernel_rfl) (fun hb => ?_) (fun hb => ?_)
            · rw [hb] at ha; skip
              refine wp_region_lit ?_
              refine st_val (.pointer (some ⟨b, 0, none⟩)) ha (by kernel_rfl) (by kernel_rfl) ?_
              clear ha; intro a ha
              refine st_val (.pointer (some ⟨g1, 4, none⟩)) ha (by kernel_rfl) (by kernel_rfl) ?_
              clear ha; intro a ha
              refine st_val (.int .i64 x.epoch) ha (by kernel_rfl) (run_load1 (of_ := 4) (s.blkIs 5 rfl) rfl (by kernel_rfl) Try.isAgg3 rfl) ?_
              clear ha; intro a ha
              refine st_val (.pointer (some ⟨g1, 12, none⟩)) ha (by kernel_rfl) (by kernel_rfl) ?_
              clear ha; intro a ha
              refine st_val (.agg #[.int .i64 x.wall, .int .i64 x.logic]) ha (by kernel_rfl) (run_loadN (of_ := 12) [.int .i64 x.wall, .int .i64 x.logic] (s.blkIs 5 rfl) rfl (by kernel_rfl) Try.isAgg34 Try.sizeOf34 rfl (Nat.le_of_ble_eq_true rfl)) ?_
              clear ha; intro a ha
              refine st_val (.agg #[.bool true, .bool false, .int .i64 x.epoch, .int .i64 x.wall, .int .i64 x.logic]) ha (by kernel_rfl) (by kernel_rfl) ?_
              clear ha; intro a ha
              refine st_val (.pointer (some ⟨b, 0, none⟩)) ha (by kernel_rfl) (by kernel_rfl) ?_
              clear ha; intro a ha
              refine st_val (.pointer (some ⟨b, 19, none⟩)) ha (by kernel_rfl) (by kernel_rfl) ?_
              clear ha; intro a ha
              refine st_exd ha (by kernel_rfl) (ex_store (of_ := 19) 0 [.bool true, .bool false, .int .i64 x.epoch, .int .i64 x.wall, .int .i64 x.logic] s rfl rfl (by kernel_rfl) (by kernel_rfl) (Try.sizeOf65 _) rfl (by simp [Value.oneCell']) (Nat.le_of_ble_eq_true rfl)) ?_
              clear ha; rintro w a s ha
              replace s : St W (.blk b [.int .i64 t.node, .int .i64 t.stand, .bool t.began, .int .i64 t.ask.ti, .int .i64 t.ask.kind, .int .i64 t.ask.node, .int .i64 t.ask.id, .int .i64 t.ask.epoch, .int .i64 t.ask.op, .string (str t.ask.key), .string (str t.ask.val), .string (str t.ask.frm), .string (str t.ask.to), .bool t.ask.is, .slice t.ask.A t.ask.rows.length t.ask.c, .int .i64 t.ask.wall, .int .i64 t.ask.logic, .int .i64 t.ask.err, .int .i64 t.ask.status, .bool true, .bool false, .int .i64 x.epoch, .int .i64 x.wall, .int .i64 x.logic] 67 :: BRest T2 q :: .blk g [.int .i64 x.ti, .int .i64 k.most, .map (some gd), .map (some gt)] 48 :: MapT Try.prog 3 encI gd Dd :: MapT Try.prog 3 encI gt (T2.map ent) :: .blk g1 (evv x) 36 :: L) w := s
              refine wpList_nil ?_
              refine end_with (v := .tuple #[]) ha (results_0 rfl _) ?_
              replace s : St W (.blk b [.int .i64 t.node, .int .i64 t.stand, .bool t.began, .int .i64 t.ask.ti, .int .i64 t.ask.kind, .int .i64 t.ask.node, .int .i64 t.ask.id, .int .i64 t.ask.epoch, .int .i64 t.ask.op, .string (str t.ask.key), .string (str t.ask.val), .string (str t.ask.frm), .string (str t.ask.to), .bool t.ask.is, .slice t.ask.A t.ask.rows.length t.ask.c, .int .i64 t.ask.wall, .int .i64 t.ask.logic, .int .i64 t.ask.err, .int .i64 t.ask.status, .bool true, .bool false, .int .i64 x.epoch, .int .i64 x.wall, .int .i64 x.logic] 67 :: BRest T2 q :: .blk g [.int .i64 x.ti, .int .i64 k.most, .map (some gd), .map (some gt)] 48 :: MapT Try.prog 3 encI gd Dd :: MapT Try.prog 3 encI gt (T2.map ent) :: L) w := s.keep 5 1
              have he2 : endTx x (ownTx x (k.tx x.id)) = (⟨t.node, t.stand, t.began, t.ask, true, false, x.epoch, x.wall, x.logic⟩ : Tx) := by rw [← ht]; clear s ha ht2 hk2 hk ht; unfold endTx ownTx; simp [*]
              have hmo : (seeL k x).most = k.most := by clear s ha ht2 hk2 hk ht; unfold seeL; simp [*]
              replace s := Blks.close ht2 (⟨t.node, t.stand, t.began, t.ask, true, false, x.epoch, x.wall, x.logic⟩ : Tx) s
              replace s := s.at_ (j := 3) rfl
              replace s := s.at_ (j := 3) rfl
              replace s := s.at_ (j := 3) rfl
              rw [← ent_set ht2 (⟨t.node, t.stand, t.began, t.ask, true, false, x.epoch, x.wall, x.logic⟩ : Tx)] at s
              rw [ht] at ht2
              refine ⟨Dd, T2.set q (x.id, b, (⟨t.node, t.stand, t.began, t.ask, true, false, x.epoch, x.wall, x.logic⟩ : Tx)), rfl, hk2.own (has_iff.1 hhx).2 hid ht2 he2, ?_⟩
              rw [hmo]
              exact s
            · rw [hb] at ha; skip
              refine wp_seq ?_
              refine wp_region_lit ?_
              refine st_val (.agg (evv x).toArray) ha (by kernel_rfl) (run_loadN (of_ := 0) (evv x) (s.blkIs 5 rfl) rfl (by kernel_rfl) Try.isAgg36 Try.sizeOf36 rfl (Nat.le_of_ble_eq_true rfl)) ?_
              clear ha; intro a ha
              refine st_call ha (by kernel_rfl) (by kernel_rfl) (abr_any W _ w x s) ?_
              rintro _ w ⟨rfl, s⟩
              refine ⟨_, rfl, ?_⟩; clear ha; intro a ha
              refine wpList_nil ?_
              refine then_normal ?_
              refine wp_part (abrB x) ha rfl (by kernel_rfl) (fun hb => ?_) (fun hb => ?_)
              · rw [hb] at ha; skip
                refine wp_region_lit ?_
                refine st_val (.pointer (some ⟨b, 0, none⟩)) ha (by kernel_rfl) (by kernel_rfl) ?_
                clear ha; intro a ha
                refine st_val (.pointer (some ⟨b, 0, none⟩)) ha (by kernel_rfl) (by kernel_rfl) ?_
                clear ha; intro a ha
                refine st_val (.pointer (some ⟨b, 19, none⟩)) ha (by kernel_rfl) (by kernel_rfl) ?_
                clear ha; intro a ha
                refine st_val (.pointer (some ⟨b, 20, none⟩)) ha (by kernel_rfl) (by kernel_rfl) ?_
                clear ha; intro a ha
                refine st_exd ha (by kernel_rfl) (ex_store (of_ := 20) 0 [.bool true] s rfl rfl (by kernel_rfl) (by kernel_rfl) (Try.sizeOf4 _) rfl (by simp [Value.oneCell']) (Nat.le_of_ble_eq_true rfl)) ?_
                clear ha; rintro w a s ha
                replace s : St W (.blk b [.int .i64 t.node, .int .i64 t.stand, .bool t.began, .int .i64 t.ask.ti, .int .i64 t.ask.kind, .int .i64 t.ask.node, .int .i64 t.ask.id, .int .i64 t.ask.epoch, .int .i64 t.ask.op, .string (str t.ask.key), .string (str t.ask.val), .string (str t.ask.frm), .string (str t.ask.to), .bool t.ask.is, .slice t.ask.A t.ask.rows.length t.ask.c, .int .i64 t.ask.wall, .int .i64 t.ask.logic, .int .i64 t.ask.err, .int .i64 t.ask.status, .bool t.comm, .bool true, .int .i64 t.epoch, .int .i64 t.wall, .int .i64 t.logic] 67 :: BRest T2 q :: .blk g [.int .i64 x.ti, .int .i64 k.most, .map (some gd), .map (some gt)] 48 :: MapT Try.prog 3 encI gd Dd :: MapT Try.prog 3 encI gt (T2.map ent) :: .blk g1 (evv x) 36 :: L) w := s
                refine wpList_nil ?_
                refine end_with (v := .tuple #[]) ha (results_0 rfl _) ?_
                replace s : St W (.blk b [.int .i64 t.node, .int .i64 t.stand, .bool t.began, .int .i64 t.ask.ti, .int .i64 t.ask.kind, .int .i64 t.ask.node, .int .i64 t.ask.id, .int .i64 t.ask.epoch, .int .i64 t.ask.op, .string (str t.ask.key), .string (str t.ask.val), .string (str t.ask.frm), .string (str t.ask.to), .bool t.ask.is, .slice t.ask.A t.ask.rows.length t.ask.c, .int .i64 t.ask.wall, .int .i64 t.ask.logic, .int .i64 t.ask.err, .int .i64 t.ask.status, .bool t.comm, .bool true, .int .i64 t.epoch, .int .i64 t.wall, .int .i64 t.logic] 67 :: BRest T2 q :: .blk g [.int .i64 x.ti, .int .i64 k.most, .map (some gd), .map (some gt)] 48 :: MapT Try.prog 3 encI gd Dd :: MapT Try.prog 3 encI gt (T2.map ent) :: L) w := s.keep 5 1
                have he2 : endTx x (ownTx x (k.tx x.id)) = (⟨t.node, t.stand, t.began, t.ask, t.comm, true, t.epoch, t.wall, t.logic⟩ : Tx) := by rw [← ht]; clear s ha ht2 hk2 hk ht; unfold endTx ownTx; simp [*]
                have hmo : (seeL k x).most = k.most := by clear s ha ht2 hk2 hk ht; unfold seeL; simp [*]
                replace s := Blks.close ht2 (⟨t.node, t.stand, t.began, t.ask, t.comm, true, t.epoch, t.wall, t.logic⟩ : Tx) s
                replace s := s.at_ (j := 3) rfl
                replace s := s.at_ (j := 3) rfl
                replace s := s.at_ (j := 3) rfl
                rw [← ent_set ht2 (⟨t.node, t.stand, t.began, t.ask, t.comm, true, t.epoch, t.wall, t.logic⟩ : Tx)] at s
                rw [ht] at ht2
                refine ⟨Dd, T2.set q (x.id, b, (⟨t.node, t.stand, t.began, t.ask, t.comm, true, t.epoch, t.wall, t.logic⟩ : Tx)), rfl, hk2.own (has_iff.1 hhx).2 hid ht2 he2, ?_⟩
                rw [hmo]
                exact s
              · rw [hb] at ha; skip
                refine wp_skip ?_
                refine end_with (v := .tuple #[]) ha (results_0 rfl _) ?_
                replace s : St W (.blk b (txv t) 67 :: BRest T2 q :: .blk g [.int .i64 x.ti, .int .i64 k.most, .map (some gd), .map (some gt)] 48 :: MapT Try.prog 3 encI gd Dd :: MapT Try.prog 3 encI gt (T2.map ent) :: L) w := s.keep 5 1
                have he2 : endTx x (ownTx x (k.tx x.id)) = (⟨t.node, t.stand, t.began, t.ask, t.comm, t.abrt, t.epoch, t.wall, t.logic⟩ : Tx) := by rw [← ht]; clear s ha ht2 hk2 hk ht; unfold endTx ownTx; simp [*]
                have hmo : (seeL k x).most = k.most := by clear s ha ht2 hk2 hk ht; unfold seeL; simp [*]
                replace s := Blks.close ht2 (⟨t.node, t.stand, t.began, t.ask, t.comm, t.abrt, t.epoch, t.wall, t.logic⟩ : Tx) s
                replace s := s.at_ (j := 3) rfl
                replace s := s.at_ (j := 3) rfl
                replace s := s.at_ (j := 3) rfl
                rw [← ent_set ht2 (⟨t.node, t.stand, t.began, t.ask, t.comm, t.abrt, t.epoch, t.wall, t.logic⟩ : Tx)] at s
                rw [ht] at ht2
                refine ⟨Dd, T2.set q (x.id, b, (⟨t.node, t.stand, t.began, t.ask, t.comm, t.abrt, t.epoch, t.wall, t.logic⟩ : Tx)), rfl, hk2.own (has_iff.1 hhx).2 hid ht2 he2, ?_⟩
                rw [hmo]
                exact s

end Go.Proofs.Ytfcbjcohepkkfaa.B
