import Derived.Test.YtidfniglnmfphaaDoorB11
namespace Go.Proofs.YtidfniglnmfphaaDoor.B
open Go.RowKit Go.Maps Go.Sort Go.Shelf Go.Proofs.YtidfniglnmfphaaDoor.Sep Go.Proofs.YtidfniglnmfphaaDoor.P
set_option linter.unusedVariables false
set_option linter.unusedSimpArgs false
theorem Kn.mono {W w : World} {L : List Chunk} {p q : World → Prop} (h : ∀ w, p w → q w) (s : St W (Kn p :: L) w) : St W (Kn q :: L) w :=
  ⟨s.1.head_imp fun k x w hw => h w (x w hw), s.2⟩
instance (ds : List Tn) (o : List Nat) : Decidable (IsOrd ds o) := by unfold IsOrd; infer_instance
def chapT : List Tn := [⟨9, 20, 0, [⟨1, [97], [121], [], [], true, []⟩]⟩, ⟨3, 10, 0, [⟨3, [97], [120], [], [], false, []⟩]⟩, ⟨5, 20, 0, [⟨2, [], [], [], [122], false, [⟨[97], [120]⟩]⟩]⟩]
theorem chap_code : code chapT = 0 := by decide
theorem chap_ord : IsOrd chapT [1, 2, 0] := by decide
theorem chap_found : found chapT [1, 2, 0] = some (0, 0) := by decide
theorem chap_rows : rowsOf chapT [1, 2, 0] = [⟨[97], [120]⟩] := by decide
theorem chap1_code : code (chapT.drop 1) = 0 := by decide
theorem chap1_ord : IsOrd (chapT.drop 1) [0, 1] := by decide
theorem chap1_found : found (chapT.drop 1) [0, 1] = none := by decide
theorem tns_drop (ds : List Dn) (k : Nat) : tns (ds.drop k) = (tns ds).drop k := List.map_drop

theorem at_any (W : World) (L : List Chunk) (w : World) (z : Int) (s : St W L w) :
    Calls Tryd.prog 5 #[.int .i64 z] w fun e w' => e = .returned (.agg #[.int .i64 z, .int .i64 0]) ∧ St W L w' := by
  refine enter_args (l := [.int .i64 z]) Tryd.func5 rfl rfl (Nat.le_of_ble_eq_true rfl) ?_
  intro a ha; replace ha : Has a 5 [(0, .int .i64 z)] := ha
  refine wp_seq ?_
  refine wp_region_lit ?_
  refine st_ex ha (by kernel_rfl) (ex_alloc [.int .i64 0, .int .i64 0] s rfl (Tryd.zeroValue25 _) (by kernel_rfl)) ?_
  clear ha; rintro _ w a ⟨g1, rfl, s⟩ ha
  refine wpList_nil ?_
  refine then_normal ?_
  refine wp_seq ?_
  refine wp_region_lit ?_
  refine st_val (.int .i64 z) ha (by kernel_rfl) (by kernel_rfl) ?_
  clear ha; intro a ha
  refine st_val (.agg #[.int .i64 z, .int .i64 0]) ha (by kernel_rfl) (by kernel_rfl) ?_
  clear ha; intro a ha
  refine st_exd ha (by kernel_rfl) (ex_store (of_ := 0) 0 [.int .i64 z, .int .i64 0] s rfl rfl (by kernel_rfl) (by kernel_rfl) (Tryd.sizeOf25 _) rfl (by simp [Value.oneCell']) (Nat.le_of_ble_eq_true rfl)) ?_
  clear ha; rintro w a s ha
  replace s : St W (.blk g1 [.int .i64 z, .int .i64 0] 25 :: L) w := s
  refine wpList_nil ?_
  refine then_normal ?_
  refine wp_ret ?_
  refine ret_with (v := .agg #[.int .i64 z, .int .i64 0]) ha (results_1 rfl ha (res_cellN (s.blkIs 0 rfl) (by kernel_rfl) (by kernel_rfl) Tryd.isAgg25 Tryd.sizeOf25 rfl)) ?_
  replace s := s.tail
  replace s : St W (L) w := s
  exact ⟨rfl, s⟩

theorem put_any (W : World) (L : List Chunk) (w : World) (k v : K) (s : St W L w) :
    Calls Tryd.prog 8 #[.string (str k), .string (str v)] w fun e w' => e = .returned (.agg #[.int .i64 3, .string (str k), .string (str v), .string (str []), .string (str []), .bool false, .slice none 0 0]) ∧ St W L w' := by
  refine enter_args (l := [.string (str k), .string (str v)]) Tryd.func8 rfl rfl (Nat.le_of_ble_eq_true rfl) ?_
  intro a ha; replace ha : Has a 8 [(0, .string (str k)), (1, .string (str v))] := ha
  refine wp_seq ?_
  refine wp_region_lit ?_
  refine st_ex ha (by kernel_rfl) (ex_alloc [.int .i64 0, .string (str []), .string (str []), .string (str []), .string (str []), .bool false, .slice none 0 0] s rfl (Tryd.zeroValue39 _) (by kernel_rfl)) ?_
  clear ha; rintro _ w a ⟨g1, rfl, s⟩ ha
  refine wpList_nil ?_
  refine then_normal ?_
  refine wp_seq ?_
  refine wp_region_lit ?_
  refine st_val (.string (str k)) ha (by kernel_rfl) (by kernel_rfl) ?_
  clear ha; intro a ha
  refine st_val (.string (str v)) ha (by kernel_rfl) (by kernel_rfl) ?_
  clear ha; intro a ha
  refine st_val (.agg #[.int .i64 3, .string (str k), .string (str v), .string (str []), .string (str []), .bool false, .slice none 0 0]) ha (by kernel_rfl) (by kernel_rfl) ?_
  clear ha; intro a ha
  refine st_exd ha (by kernel_rfl) (ex_store (of_ := 0) 0 [.int .i64 3, .string (str k), .string (str v), .string (str []), .string (str []), .bool false, .slice none 0 0] s rfl rfl (by kernel_rfl) (by kernel_rfl) (Tryd.sizeOf39 _) rfl (by simp [Value.oneCell']) (Nat.le_of_ble_eq_true rfl)) ?_
  clear ha; rintro w a s ha
  replace s : St W (.blk g1 [.int .i64 3, .string (str k), .string (str v), .string (str []), .string (str []), .bool false, .slice none 0 0] 39 :: L) w := s
  refine wpList_nil ?_
  refine then_normal ?_
  refine wp_ret ?_
  refine ret_with (v := .agg #[.int .i64 3, .string (str k), .string (str v), .string (str []), .string (str []), .bool false, .slice none 0 0]) ha (results_1 rfl ha (res_cellN (s.blkIs 0 rfl) (by kernel_rfl) (by kernel_rfl) Tryd.isAgg39 Tryd.sizeOf39 rfl)) ?_
  replace s := s.tail
  replace s : St W (L) w := s
  exact ⟨rfl, s⟩

theorem get_any (W : World) (L : List Chunk) (w : World) (k v : K) (b : Bool) (s : St W L w) :
    Calls Tryd.prog 9 #[.string (str k), .string (str v), .bool b] w fun e w' => e = .returned (.agg #[.int .i64 1, .string (str k), .string (str v), .string (str []), .string (str []), .bool b, .slice none 0 0]) ∧ St W L w' := by
  refine enter_args (l := [.string (str k), .string (str v), .bool b]) Tryd.func9 rfl rfl (Nat.le_of_ble_eq_true rfl) ?_
  intro a ha; replace ha : Has a 11 [(0, .string (str k)), (1, .string (str v)), (2, .bool b)] := ha
  refine wp_seq ?_
  refine wp_region_lit ?_
  refine st_ex ha (by kernel_rfl) (ex_alloc [.int .i64 0, .string (str []), .string (str []), .string (str []), .string (str []), .bool false, .slice none 0 0] s rfl (Tryd.zeroValue39 _) (by kernel_rfl)) ?_
  clear ha; rintro _ w a ⟨g1, rfl, s⟩ ha
  refine wpList_nil ?_
  refine then_normal ?_
  refine wp_seq ?_
  refine wp_region_lit ?_
  refine st_val (.string (str k)) ha (by kernel_rfl) (by kernel_rfl) ?_
  clear ha; intro a ha
  refine st_val (.string (str v)) ha (by kernel_rfl) (by kernel_rfl) ?_
  clear ha; intro a ha
  refine st_val (.bool b) ha (by kernel_rfl) (by kernel_rfl) ?_
  clear ha; intro a ha
  refine st_val (.agg #[.int .i64 1, .string (str k), .string (str v), .string (str []), .string (str []), .bool b, .slice none 0 0]) ha (by kernel_rfl) (by kernel_rfl) ?_
  clear ha; intro a ha
  refine st_exd ha (by kernel_rfl) (ex_store (of_ := 0) 0 [.int .i64 1, .string (str k), .string (str v), .string (str []), .string (str []), .bool b, .slice none 0 0] s rfl rfl (by kernel_rfl) (by kernel_rfl) (Tryd.sizeOf39 _) rfl (by simp [Value.oneCell']) (Nat.le_of_ble_eq_true rfl)) ?_
  clear ha; rintro w a s ha
  replace s : St W (.blk g1 [.int .i64 1, .string (str k), .string (str v), .string (str []), .string (str []), .bool b, .slice none 0 0] 39 :: L) w := s
  refine wpList_nil ?_
  refine then_normal ?_
  refine wp_ret ?_
  refine ret_with (v := .agg #[.int .i64 1, .string (str k), .string (str v), .string (str []), .string (str []), .bool b, .slice none 0 0]) ha (results_1 rfl ha (res_cellN (s.blkIs 0 rfl) (by kernel_rfl) (by kernel_rfl) Tryd.isAgg39 Tryd.sizeOf39 rfl)) ?_
  replace s := s.tail
  replace s : St W (L) w := s
  exact ⟨rfl, s⟩

theorem chapter_any (W : World) (L : List Chunk) (w : World) (s : St W L w) :
    Calls Tryd.prog 11 #[] w fun e w' => ∃ A c ds, e = .returned (.slice A 3 c) ∧ tns ds = chapT ∧ Bn ds ∧ 3 = c ∧ St W (Kn (DonesIn A ds) :: L) w' := by
  refine enter_args (l := []) Tryd.func11 rfl rfl (Nat.le_of_ble_eq_true rfl) ?_
  intro a ha; replace ha : Has a 17 [] := ha
  refine wp_seq ?_
  refine wp_region_lit ?_
  refine st_val (.slice none 0 0) ha (by kernel_rfl) (by kernel_rfl) ?_
  clear ha; intro a ha
  refine wpList_nil ?_
  refine then_normal ?_
  refine wp_seq ?_
  refine wp_region_lit ?_
  refine st_call ha (by kernel_rfl) (by kernel_rfl) (at_any W _ w 20 s) ?_
  rintro _ w ⟨rfl, s⟩
  refine ⟨_, rfl, ?_⟩; clear ha; intro a ha
  refine st_call ha (by kernel_rfl) (by kernel_rfl) (get_any W _ w [97] [121] true s) ?_
  rintro _ w ⟨rfl, s⟩
  refine ⟨_, rfl, ?_⟩; clear ha; intro a ha
  refine st_ex ha (by kernel_rfl) (ex_buildSlice elt27 _ zs27 [.int .i64 1, .string (str [97]), .string (str [121]), .string (str []), .string (str []), .bool true, .slice none 0 0] s rfl (by kernel_rfl) (by decide)) ?_
  clear ha; rintro _ w a ⟨g1, rfl, s⟩ ha
  refine st_val (.agg #[.int .i64 9, .int .i64 20, .int .i64 0, .slice (some ⟨g1, 0, none⟩) 1 1]) ha (by kernel_rfl) (by kernel_rfl) ?_
  clear ha; intro a ha
  refine st_call ha (by kernel_rfl) (by kernel_rfl) (at_any W _ w 10 s) ?_
  rintro _ w ⟨rfl, s⟩
  refine ⟨_, rfl, ?_⟩; clear ha; intro a ha
  refine st_call ha (by kernel_rfl) (by kernel_rfl) (put_any W _ w [97] [120] s) ?_
  rintro _ w ⟨rfl, s⟩
  refine ⟨_, rfl, ?_⟩; clear ha; intro a ha
  refine st_ex ha (by kernel_rfl) (ex_buildSlice elt27 _ zs27 [.int .i64 3, .string (str [97]), .string (str [120]), .string (str []), .string (str []), .bool false, .slice none 0 0] s rfl (by kernel_rfl) (by decide)) ?_
  clear ha; rintro _ w a ⟨g2, rfl, s⟩ ha
  refine st_val (.agg #[.int .i64 3, .int .i64 10, .int .i64 0, .slice (some ⟨g2, 0, none⟩) 1 1]) ha (by kernel_rfl) (by kernel_rfl) ?_
  clear ha; intro a ha
  refine st_call ha (by kernel_rfl) (by kernel_rfl) (at_any W _ w 20 s) ?_
  rintro _ w ⟨rfl, s⟩
  refine ⟨_, rfl, ?_⟩; clear ha; intro a ha
  refine st_val (.agg #[.string (str []), .string (str [122])]) ha (by kernel_rfl) (by kernel_rfl) ?_
  clear ha; intro a ha
  refine st_val (.agg #[.string (str [97]), .string (str [120])]) ha (by kernel_rfl) (by kernel_rfl) ?_
  clear ha; intro a ha
  refine st_ex ha (by kernel_rfl) (ex_buildSlice elt37 _ zs37 [.string (str [97]), .string (str [120])] s rfl (by kernel_rfl) (by decide)) ?_
  clear ha; rintro _ w a ⟨g3, rfl, s⟩ ha
  refine st_val (.agg #[.int .i64 2, .string (str []), .string (str []), .string (str []), .string (str [122]), .bool false, .slice (some ⟨g3, 0, none⟩) 1 1]) ha (by kernel_rfl) (by kernel_rfl) ?_
  clear ha; intro a ha
  refine st_ex ha (by kernel_rfl) (ex_buildSlice elt27 _ zs27 [.int .i64 2, .string (str []), .string (str []), .string (str []), .string (str [122]), .bool false, .slice (some ⟨g3, 0, none⟩) 1 1] s rfl (by kernel_rfl) (by decide)) ?_
  clear ha; rintro _ w a ⟨g4, rfl, s⟩ ha
  refine st_val (.agg #[.int .i64 5, .int .i64 20, .int .i64 0, .slice (some ⟨g4, 0, none⟩) 1 1]) ha (by kernel_rfl) (by kernel_rfl) ?_
  clear ha; intro a ha
  refine st_ex ha (by kernel_rfl) (ex_buildSlice elt43 _ zs43 [.int .i64 9, .int .i64 20, .int .i64 0, .slice (some ⟨g1, 0, none⟩) 1 1, .int .i64 3, .int .i64 10, .int .i64 0, .slice (some ⟨g2, 0, none⟩) 1 1, .int .i64 5, .int .i64 20, .int .i64 0, .slice (some ⟨g4, 0, none⟩) 1 1] s rfl (by kernel_rfl) (by decide)) ?_
  clear ha; rintro _ w a ⟨g5, rfl, s⟩ ha
  refine st_val (.slice (some ⟨g5, 0, none⟩) 3 3) ha (by kernel_rfl) (by kernel_rfl) ?_
  clear ha; intro a ha
  refine wpList_nil ?_
  refine then_normal ?_
  refine wp_ret ?_
  refine ret_with (v := .slice (some ⟨g5, 0, none⟩) 3 3) ha (results_1 rfl ha (res_tmp (by kernel_rfl) (by kernel_rfl))) ?_
  replace s := ((((s.at_ (j := 2) rfl).at_ (j := 2) rfl).at_ (j := 3) rfl).at_ (j := 4) rfl).at_ (j := 4) rfl
  replace s : St W (.blk g5 [.int .i64 9, .int .i64 20, .int .i64 0, .slice (some ⟨g1, 0, none⟩) 1 1, .int .i64 3, .int .i64 10, .int .i64 0, .slice (some ⟨g2, 0, none⟩) 1 1, .int .i64 5, .int .i64 20, .int .i64 0, .slice (some ⟨g4, 0, none⟩) 1 1] 29 :: .blk g1 [.int .i64 1, .string (str [97]), .string (str [121]), .string (str []), .string (str []), .bool true, .slice none 0 0] 39 :: .blk g2 [.int .i64 3, .string (str [97]), .string (str [120]), .string (str []), .string (str []), .bool false, .slice none 0 0] 39 :: .blk g4 [.int .i64 2, .string (str []), .string (str []), .string (str []), .string (str [122]), .bool false, .slice (some ⟨g3, 0, none⟩) 1 1] 39 :: .blk g3 [.string (str [97]), .string (str [120])] 53 :: L) w := s
  have hk : Knows [.blk g5 [.int .i64 9, .int .i64 20, .int .i64 0, .slice (some ⟨g1, 0, none⟩) 1 1, .int .i64 3, .int .i64 10, .int .i64 0, .slice (some ⟨g2, 0, none⟩) 1 1, .int .i64 5, .int .i64 20, .int .i64 0, .slice (some ⟨g4, 0, none⟩) 1 1] 29, .blk g1 [.int .i64 1, .string (str [97]), .string (str [121]), .string (str []), .string (str []), .bool true, .slice none 0 0] 39, .blk g2 [.int .i64 3, .string (str [97]), .string (str [120]), .string (str []), .string (str []), .bool false, .slice none 0 0] 39, .blk g4 [.int .i64 2, .string (str []), .string (str []), .string (str []), .string (str [122]), .bool false, .slice (some ⟨g3, 0, none⟩) 1 1] 39, .blk g3 [.string (str [97]), .string (str [120])] 53] (DonesIn (some ⟨g5, 0, none⟩) [⟨9, 20, 0, (some ⟨g1, 0, none⟩), 1, [⟨⟨1, [97], [121], [], [], true, []⟩, none, 0⟩]⟩, ⟨3, 10, 0, (some ⟨g2, 0, none⟩), 1, [⟨⟨3, [97], [120], [], [], false, []⟩, none, 0⟩]⟩, ⟨5, 20, 0, (some ⟨g4, 0, none⟩), 1, [⟨⟨2, [], [], [], [122], false, [⟨[97], [120]⟩]⟩, (some ⟨g3, 0, none⟩), 1⟩]⟩]) := fun w s => by
    refine ⟨(Knows.reads_blk (L := [.blk g5 [.int .i64 9, .int .i64 20, .int .i64 0, .slice (some ⟨g1, 0, none⟩) 1 1, .int .i64 3, .int .i64 10, .int .i64 0, .slice (some ⟨g2, 0, none⟩) 1 1, .int .i64 5, .int .i64 20, .int .i64 0, .slice (some ⟨g4, 0, none⟩) 1 1] 29, .blk g1 [.int .i64 1, .string (str [97]), .string (str [121]), .string (str []), .string (str []), .bool true, .slice none 0 0] 39, .blk g2 [.int .i64 3, .string (str [97]), .string (str [120]), .string (str []), .string (str []), .bool false, .slice none 0 0] 39, .blk g4 [.int .i64 2, .string (str []), .string (str []), .string (str []), .string (str [122]), .bool false, .slice (some ⟨g3, 0, none⟩) 1 1] 39, .blk g3 [.string (str [97]), .string (str [120])] 53]) (j := 0) (k := 4) (n := 3) rfl) w s, fun d hd => ?_⟩
    simp only [List.mem_cons, List.not_mem_nil, or_false] at hd
    rcases hd with rfl | rfl | rfl
    · refine ⟨(Knows.reads_blk (L := [.blk g5 [.int .i64 9, .int .i64 20, .int .i64 0, .slice (some ⟨g1, 0, none⟩) 1 1, .int .i64 3, .int .i64 10, .int .i64 0, .slice (some ⟨g2, 0, none⟩) 1 1, .int .i64 5, .int .i64 20, .int .i64 0, .slice (some ⟨g4, 0, none⟩) 1 1] 29, .blk g1 [.int .i64 1, .string (str [97]), .string (str [121]), .string (str []), .string (str []), .bool true, .slice none 0 0] 39, .blk g2 [.int .i64 3, .string (str [97]), .string (str [120]), .string (str []), .string (str []), .bool false, .slice none 0 0] 39, .blk g4 [.int .i64 2, .string (str []), .string (str []), .string (str []), .string (str [122]), .bool false, .slice (some ⟨g3, 0, none⟩) 1 1] 39, .blk g3 [.string (str [97]), .string (str [120])] 53]) (j := 1) (k := 7) (n := 1) rfl) w s, fun x hx => ?_⟩
      rw [List.mem_singleton.1 hx]; exact ⟨rfl, by simp, by simp⟩
    · refine ⟨(Knows.reads_blk (L := [.blk g5 [.int .i64 9, .int .i64 20, .int .i64 0, .slice (some ⟨g1, 0, none⟩) 1 1, .int .i64 3, .int .i64 10, .int .i64 0, .slice (some ⟨g2, 0, none⟩) 1 1, .int .i64 5, .int .i64 20, .int .i64 0, .slice (some ⟨g4, 0, none⟩) 1 1] 29, .blk g1 [.int .i64 1, .string (str [97]), .string (str [121]), .string (str []), .string (str []), .bool true, .slice none 0 0] 39, .blk g2 [.int .i64 3, .string (str [97]), .string (str [120]), .string (str []), .string (str []), .bool false, .slice none 0 0] 39, .blk g4 [.int .i64 2, .string (str []), .string (str []), .string (str []), .string (str [122]), .bool false, .slice (some ⟨g3, 0, none⟩) 1 1] 39, .blk g3 [.string (str [97]), .string (str [120])] 53]) (j := 2) (k := 7) (n := 1) rfl) w s, fun x hx => ?_⟩
      rw [List.mem_singleton.1 hx]; exact ⟨rfl, by simp, by simp⟩
    · refine ⟨(Knows.reads_blk (L := [.blk g5 [.int .i64 9, .int .i64 20, .int .i64 0, .slice (some ⟨g1, 0, none⟩) 1 1, .int .i64 3, .int .i64 10, .int .i64 0, .slice (some ⟨g2, 0, none⟩) 1 1, .int .i64 5, .int .i64 20, .int .i64 0, .slice (some ⟨g4, 0, none⟩) 1 1] 29, .blk g1 [.int .i64 1, .string (str [97]), .string (str [121]), .string (str []), .string (str []), .bool true, .slice none 0 0] 39, .blk g2 [.int .i64 3, .string (str [97]), .string (str [120]), .string (str []), .string (str []), .bool false, .slice none 0 0] 39, .blk g4 [.int .i64 2, .string (str []), .string (str []), .string (str []), .string (str [122]), .bool false, .slice (some ⟨g3, 0, none⟩) 1 1] 39, .blk g3 [.string (str [97]), .string (str [120])] 53]) (j := 3) (k := 7) (n := 1) rfl) w s, fun x hx => ?_⟩
      rw [List.mem_singleton.1 hx]; exact (Knows.reads_blk (L := [.blk g5 [.int .i64 9, .int .i64 20, .int .i64 0, .slice (some ⟨g1, 0, none⟩) 1 1, .int .i64 3, .int .i64 10, .int .i64 0, .slice (some ⟨g2, 0, none⟩) 1 1, .int .i64 5, .int .i64 20, .int .i64 0, .slice (some ⟨g4, 0, none⟩) 1 1] 29, .blk g1 [.int .i64 1, .string (str [97]), .string (str [121]), .string (str []), .string (str []), .bool true, .slice none 0 0] 39, .blk g2 [.int .i64 3, .string (str [97]), .string (str [120]), .string (str []), .string (str []), .bool false, .slice none 0 0] 39, .blk g4 [.int .i64 2, .string (str []), .string (str []), .string (str []), .string (str [122]), .bool false, .slice (some ⟨g3, 0, none⟩) 1 1] 39, .blk g3 [.string (str [97]), .string (str [120])] 53]) (j := 4) (k := 2) (n := 1) rfl) w s
  refine ⟨_, _, [⟨9, 20, 0, (some ⟨g1, 0, none⟩), 1, [⟨⟨1, [97], [121], [], [], true, []⟩, none, 0⟩]⟩, ⟨3, 10, 0, (some ⟨g2, 0, none⟩), 1, [⟨⟨3, [97], [120], [], [], false, []⟩, none, 0⟩]⟩, ⟨5, 20, 0, (some ⟨g4, 0, none⟩), 1, [⟨⟨2, [], [], [], [122], false, [⟨[97], [120]⟩]⟩, (some ⟨g3, 0, none⟩), 1⟩]⟩], rfl, rfl, ⟨by simp, fun d hd => ?_⟩, rfl, kn_of hk s⟩
  simp only [List.mem_cons, List.not_mem_nil, or_false] at hd
  rcases hd with rfl | rfl | rfl <;> exact ⟨by simp, fun x hx => by rw [List.mem_singleton.1 hx]; exact ⟨by simp, by simp⟩⟩

theorem finds_true (W : World) (hW : W.drawn = 0) (L : List Chunk) (w : World) (A : Option Addr) (ca : Nat) (ds : List Dn) (hr : Knows L (DonesIn A ds)) (hn : Bn ds) (txn did : Int) (want : Bool) (h0 : code (tns ds) = 0) (hf : ∀ o, IsOrd (tns ds) o → ((fst (found (tns ds) o) : Nat) : Int) = txn ∧ ((snd (found (tns ds) o) : Nat) : Int) = did ∧ (found (tns ds) o).isSome = want) (s : St W L w) :
    Calls Tryd.prog 10 #[.slice A ds.length ca, .int .i64 txn, .int .i64 did, .bool want] w fun e w' => e = .returned (.bool true) ∧ St W L w' := by
  refine enter_args (l := [.slice A ds.length ca, .int .i64 txn, .int .i64 did, .bool want]) Tryd.func10 rfl rfl (Nat.le_of_ble_eq_true rfl) ?_
  intro a ha; replace ha : Has a 37 [(0, .slice A ds.length ca), (1, .int .i64 txn), (2, .int .i64 did), (3, .bool want)] := ha
  refine wp_seq ?_
  refine wp_region_lit ?_
  refine st_val (.bool false) ha (by kernel_rfl) (by kernel_rfl) ?_
  clear ha; intro a ha
  refine wpList_nil ?_
  refine then_normal ?_
  refine wp_seq ?_
  refine wp_region_lit ?_
  refine st_val (.slice A ds.length ca) ha (by kernel_rfl) (by kernel_rfl) ?_
  clear ha; intro a ha
  refine st_call ha (by kernel_rfl) (by kernel_rfl) (check_ok W hW _ w A ca ds (fun w s => hr w s) hn h0 s) ?_
  rintro _ w ⟨o, rfl, ho, s⟩
  obtain ⟨hf1, hf2, hf3⟩ := hf o ho
  refine ⟨_, rfl, ?_⟩; clear ha; intro a ha
  refine st_val (.tuple #[.int .i64 ((fst (found (tns ds) o) : Nat) : Int), .int .i64 ((snd (found (tns ds) o) : Nat) : Int), .bool ((found (tns ds) o).isSome), .int .i64 0]) ha (by kernel_rfl) (by kernel_rfl) ?_
  clear ha; intro a ha
  refine st_val (.int .i64 ((fst (found (tns ds) o) : Nat) : Int)) ha (by kernel_rfl) (by kernel_rfl) ?_
  clear ha; intro a ha
  refine st_val (.int .i64 ((snd (found (tns ds) o) : Nat) : Int)) ha (by kernel_rfl) (by kernel_rfl) ?_
  clear ha; intro a ha
  refine st_val (.bool ((found (tns ds) o).isSome)) ha (by kernel_rfl) (by kernel_rfl) ?_
  clear ha; intro a ha
  refine st_val (.int .i64 0) ha (by kernel_rfl) (by kernel_rfl) ?_
  clear ha; intro a ha
  refine st_val (.int .i64 ((fst (found (tns ds) o) : Nat) : Int)) ha (by kernel_rfl) (by kernel_rfl) ?_
  clear ha; intro a ha
  refine st_val (.int .i64 ((snd (found (tns ds) o) : Nat) : Int)) ha (by kernel_rfl) (by kernel_rfl) ?_
  clear ha; intro a ha
  refine st_val (.bool ((found (tns ds) o).isSome)) ha (by kernel_rfl) (by kernel_rfl) ?_
  clear ha; intro a ha
  refine st_val (.int .i64 0) ha (by kernel_rfl) (by kernel_rfl) ?_
  clear ha; intro a ha
  refine wpList_nil ?_
  refine then_normal ?_
  refine wp_seq ?_
  refine wp_region_lit ?_
  refine st_val (.int .i64 0) ha (by kernel_rfl) (by kernel_rfl) ?_
  clear ha; intro a ha
  refine st_val (.bool true) ha (by kernel_rfl) (by kernel_rfl) ?_
  clear ha; intro a ha
  refine st_val (.bool true) ha (by kernel_rfl) (by kernel_rfl) ?_
  clear ha; intro a ha
  refine st_val (.int .i64 ((fst (found (tns ds) o) : Nat) : Int)) ha (by kernel_rfl) (by kernel_rfl) ?_
  clear ha; intro a ha
  refine st_val (.int .i64 txn) ha (by kernel_rfl) (by kernel_rfl) ?_
  clear ha; intro a ha
  refine st_val (.bool true) ha (by kernel_rfl) (run_known (show (((fst (found (tns ds) o) : Nat) : Int) == txn) = true from beq_iff_eq.2 (by omega)) (by kernel_rfl)) ?_
  clear ha; intro a ha
  refine st_val (.bool true) ha (by kernel_rfl) (by kernel_rfl) ?_
  clear ha; intro a ha
  refine st_val (.bool true) ha (by kernel_rfl) (by kernel_rfl) ?_
  clear ha; intro a ha
  refine st_val (.int .i64 ((snd (found (tns ds) o) : Nat) : Int)) ha (by kernel_rfl) (by kernel_rfl) ?_
  clear ha; intro a ha
  refine st_val (.int .i64 did) ha (by kernel_rfl) (by kernel_rfl) ?_
  clear ha; intro a ha
  refine st_val (.bool true) ha (by kernel_rfl) (run_known (show (((snd (found (tns ds) o) : Nat) : Int) == did) = true from beq_iff_eq.2 (by omega)) (by kernel_rfl)) ?_
  clear ha; intro a ha
  refine st_val (.bool true) ha (by kernel_rfl) (by kernel_rfl) ?_
  clear ha; intro a ha
  refine st_val (.bool true) ha (by kernel_rfl) (by kernel_rfl) ?_
  clear ha; intro a ha
  refine st_val (.bool ((found (tns ds) o).isSome)) ha (by kernel_rfl) (by kernel_rfl) ?_
  clear ha; intro a ha
  refine st_val (.bool want) ha (by kernel_rfl) (by kernel_rfl) ?_
  clear ha; intro a ha
  refine st_val (.bool true) ha (by kernel_rfl) (run_known (show (((found (tns ds) o).isSome) == want) = true from by rw [hf3]; exact beq_self_eq_true _) (by kernel_rfl)) ?_
  clear ha; intro a ha
  refine st_val (.bool true) ha (by kernel_rfl) (by kernel_rfl) ?_
  clear ha; intro a ha
  refine st_val (.bool true) ha (by kernel_rfl) (by kernel_rfl) ?_
  clear ha; intro a ha
  refine wpList_nil ?_
  refine then_normal ?_
  refine wp_ret ?_
  refine ret_with (v := .bool true) ha (results_1 rfl ha (res_tmp (by kernel_rfl) (by kernel_rfl))) ?_
  exact ⟨rfl, s⟩

theorem rows_is (W : World) (hW : W.drawn = 0) (L : List Chunk) (w : World) (A : Option Addr) (ca : Nat) (ds : List Dn) (hr : Knows L (DonesIn A ds)) (hn : Bn ds) (h0 : code (tns ds) = 0) (R : List Rw) (hR : ∀ o, IsOrd (tns ds) o → rowsOf (tns ds) o = R) (s : St W L w) :
    Calls Tryd.prog 13 #[.slice A ds.length ca] w fun e w' => ∃ B c, e = .returned (.tuple #[.slice B R.length c, .int .i64 0]) ∧ St W (Own 53 2 B R.length c (rws R) :: L) w' := by
  refine (rows_ok W hW L w A ca ds hr hn h0 s).mono ?_
  rintro e w' ⟨B, c, o, rfl, ho, s⟩
  rw [hR o ho] at s
  rw [hR o ho]
  exact ⟨B, c, rfl, s⟩
theorem eqints_is (W : World) (L : List Chunk) (w : World) (A B : Option Addr) (ca cb : Nat) (la lb : List Nat) (hra : Knows L fun w => Reads w 1 A la.length (nats la)) (hrb : Knows L fun w => Reads w 1 B lb.length (nats lb)) (hn : lb.length ≤ 140737488351232) (e : la = lb) (s : St W L w) :
    Calls Tryd.prog 14 #[.slice A la.length ca, .slice B lb.length cb] w fun e w' => e = .returned (.bool true) ∧ St W L w' :=
  (eqints_any W L w A B 0 ca cb la lb hra hrb hn s).mono fun _ _ ⟨h, s⟩ => ⟨by rw [h, decide_eq_true e], s⟩
theorem same_is (W : World) (L : List Chunk) (w : World) (A B : Option Addr) (ca cb : Nat) (la lb : List Rw) (hra : Knows L fun w => Reads w 2 A la.length (rws la)) (hrb : Knows L fun w => Reads w 2 B lb.length (rws lb)) (hn : lb.length ≤ 140737488351232) (e : la = lb) (s : St W L w) :
    Calls Tryd.prog 15 #[.slice A la.length ca, .slice B lb.length cb] w fun e w' => e = .returned (.bool true) ∧ St W L w' :=
  (same_any W L w A B ca cb la lb hra hrb hn s).mono fun _ _ ⟨h, s⟩ => ⟨by rw [h, decide_eq_true e], s⟩

set_option maxRecDepth 100000 in
set_option maxHeartbeats 2000000 in
theorem works_true (W : World) (hW : W.drawn = 0) (L : List Chunk) (w : World) (s : St W L w) :
    Calls Tryd.prog 4 #[] w fun e w' => e = .returned (.bool true) ∧ St W L w' := by
  refine enter_args (l := []) Tryd.func4 rfl rfl (Nat.le_of_ble_eq_true rfl) ?_
  intro a ha; replace ha : Has a 43 [] := ha
  refine wp_seq ?_
  refine wp_region_lit ?_
  refine st_val (.bool false) ha (by kernel_rfl) (by kernel_rfl) ?_
  clear ha; intro a ha
  refine wpList_nil ?_
  refine then_normal ?_
  refine wp_seq ?_
  refine wp_region_lit ?_
  refine st_call ha (by kernel_rfl) (by kernel_rfl) (chapter_any W _ w s) ?_
  rintro _ w ⟨A, _, ds, rfl, hds, hn, hc3, s⟩
  subst hc3
  have h0 : code (tns ds) = 0 := by rw [hds]; exact chap_code
  have hdl : ds.length = 3 := by have := congrArg List.length hds; simpa [chapT] using this
  refine ⟨_, rfl, ?_⟩; clear ha; intro a ha
  refine st_val (.slice A 3 3) ha (by kernel_rfl) (by kernel_rfl) ?_
  clear ha; intro a ha
  refine wpList_nil ?_
  refine then_normal ?_
  refine wp_seq ?_
  refine wp_region_lit ?_
  refine st_val (.slice A 3 3) ha (by kernel_rfl) (by kernel_rfl) ?_
  clear ha; intro a ha
  refine st_call ha (by kernel_rfl) (by kernel_rfl) ((by have := order_ok W _ w A 3 ds (Knows.kn (j := 0) rfl) hn h0 s; rwa [hdl] at this)) ?_
  rintro _ w ⟨B3, c3, o, rfl, ho, s⟩
  obtain rfl : o = [1, 2, 0] := ho.unique (by rw [hds]; exact chap_ord)
  refine ⟨_, rfl, ?_⟩; clear ha; intro a ha
  refine st_val (.tuple #[.slice B3 3 c3, .int .i64 0]) ha (by kernel_rfl) (by kernel_rfl) ?_
  clear ha; intro a ha
  refine st_val (.slice B3 3 c3) ha (by kernel_rfl) (by kernel_rfl) ?_
  clear ha; intro a ha
  refine st_val (.int .i64 0) ha (by kernel_rfl) (by kernel_rfl) ?_
  clear ha; intro a ha
  refine st_val (.slice B3 3 c3) ha (by kernel_rfl) (by kernel_rfl) ?_
  clear ha; intro a ha
  refine st_val (.int .i64 0) ha (by kernel_rfl) (by kernel_rfl) ?_
  clear ha; intro a ha
  refine wpList_nil ?_
  refine then_normal ?_
  refine wp_seq ?_
  refine wp_region_lit ?_
  refine st_val (.slice A 3 3) ha (by kernel_rfl) (by kernel_rfl) ?_
  clear ha; intro a ha
  refine st_call ha (by kernel_rfl) (by kernel_rfl) ((by have := rows_is W hW _ w A 3 ds (Knows.kn (j := 1) rfl) hn h0 [⟨[97], [120]⟩] (fun o ho => by rw [show o = [1, 2, 0] from ho.unique (by rw [hds]; exact chap_ord), hds]; exact chap_rows) s; rwa [hdl] at this)) ?_
  rintro _ w ⟨B4, c4, rfl, s⟩
  refine ⟨_, rfl, ?_⟩; clear ha; intro a ha
  refine st_val (.tuple #[.slice B4 1 c4, .int .i64 0]) ha (by kernel_rfl) (by kernel_rfl) ?_
  clear ha; intro a ha
  refine st_val (.slice B4 1 c4) ha (by kernel_rfl) (by kernel_rfl) ?_
  clear ha; intro a ha
  refine st_val (.int .i64 0) ha (by kernel_rfl) (by kernel_rfl) ?_
  clear ha; intro a ha
  refine st_val (.slice B4 1 c4) ha (by kernel_rfl) (by kernel_rfl) ?_
  clear ha; intro a ha
  refine st_val (.int .i64 0) ha (by kernel_rfl) (by kernel_rfl) ?_
  clear ha; intro a ha
  refine wpList_nil ?_
  refine then_normal ?_
  refine wp_seq ?_
  refine wp_region_lit ?_
  refine st_val (.int .i64 0) ha (by kernel_rfl) (by kernel_rfl) ?_
  clear ha; intro a ha
  refine st_val (.bool true) ha (by kernel_rfl) (by kernel_rfl) ?_
  clear ha; intro a ha
  refine st_val (.bool true) ha (by kernel_rfl) (by kernel_rfl) ?_
  clear ha; intro a ha
  refine st_val (.slice B3 3 c3) ha (by kernel_rfl) (by kernel_rfl) ?_
  clear ha; intro a ha
  refine st_ex ha (by kernel_rfl) (ex_buildSlice elt22 _ zs22 [.int .i64 1, .int .i64 2, .int .i64 0] s rfl (by kernel_rfl) (by decide)) ?_
  clear ha; rintro _ w a ⟨g1, rfl, s⟩ ha
  refine st_call ha (by kernel_rfl) (by kernel_rfl) (eqints_is W _ w B3 (some ⟨g1, 0, none⟩) c3 3 [1, 2, 0] [1, 2, 0] (Knows.own (j := 2) rfl) (Knows.reads_blk (j := 0) rfl) (by decide) rfl s) ?_
  rintro _ w ⟨rfl, s⟩
  refine ⟨_, rfl, ?_⟩; clear ha; intro a ha
  refine st_val (.bool true) ha (by kernel_rfl) (by kernel_rfl) ?_
  clear ha; intro a ha
  refine st_val (.bool true) ha (by kernel_rfl) (by kernel_rfl) ?_
  clear ha; intro a ha
  refine st_val (.slice A 3 3) ha (by kernel_rfl) (by kernel_rfl) ?_
  clear ha; intro a ha
  refine st_call ha (by kernel_rfl) (by kernel_rfl) ((by have := finds_true W hW _ w A 3 ds (Knows.kn (j := 3) rfl) hn 0 0 true h0 (fun o ho => by rw [show o = [1, 2, 0] from ho.unique (by rw [hds]; exact chap_ord), hds, chap_found]; decide) s; rwa [hdl] at this)) ?_
  rintro _ w ⟨rfl, s⟩
  refine ⟨_, rfl, ?_⟩; clear ha; intro a ha
  refine st_val (.bool true) ha (by kernel_rfl) (by kernel_rfl) ?_
  clear ha; intro a ha
  refine st_val (.bool true) ha (by kernel_rfl) (by kernel_rfl) ?_
  clear ha; intro a ha
  refine st_val (.slice A 3 3) ha (by kernel_rfl) (by kernel_rfl) ?_
  clear ha; intro a ha
  refine st_val (.slice (slA A 1 3 4) (3 - 1) (3 - 1)) ha (by kernel_rfl) (run_slice (n := 3) (c := 3) 1 3 3 rfl Tryd.underlying43 Tryd.sizeOf29 (by kernel_rfl) (fun h => by cases h) bnd_none bnd_none (bnd_some .i64 (by kernel_rfl)) (by omega) (by omega) (by omega) _) ?_
  clear ha; intro a ha
  refine st_call ha (by kernel_rfl) (by kernel_rfl) ((by have := finds_true W hW _ w (slA A 1 3 4) (3 - 1) (ds.drop 1) (fun w s => ((Knows.kn (j := 3) rfl) w s).drop (by omega) (by omega)) (hn.drop 1) 0 0 false (by rw [tns_drop, hds]; exact chap1_code) (fun o ho => by rw [tns_drop, hds] at *; rw [show o = [0, 1] from ho.unique chap1_ord, chap1_found]; decide) s; rwa [List.length_drop, hdl] at this)) ?_
  rintro _ w ⟨rfl, s⟩
  refine ⟨_, rfl, ?_⟩; clear ha; intro a ha
  refine st_val (.bool true) ha (by kernel_rfl) (by kernel_rfl) ?_
  clear ha; intro a ha
  refine st_val (.bool true) ha (by kernel_rfl) (by kernel_rfl) ?_
  clear ha; intro a ha
  refine st_val (.int .i64 0) ha (by kernel_rfl) (by kernel_rfl) ?_
  clear ha; intro a ha
  refine st_val (.bool true) ha (by kernel_rfl) (by kernel_rfl) ?_
  clear ha; intro a ha
  refine st_val (.bool true) ha (by kernel_rfl) (by kernel_rfl) ?_
  clear ha; intro a ha
  refine st_val (.bool true) ha (by kernel_rfl) (by kernel_rfl) ?_
  clear ha; intro a ha
  refine st_val (.slice B4 1 c4) ha (by kernel_rfl) (by kernel_rfl) ?_
  clear ha; intro a ha
  refine st_val (.agg #[.string (str [97]), .string (str [120])]) ha (by kernel_rfl) (by kernel_rfl) ?_
  clear ha; intro a ha
  refine st_ex ha (by kernel_rfl) (ex_buildSlice elt37 _ zs37 [.string (str [97]), .string (str [120])] s rfl (by kernel_rfl) (by decide)) ?_
  clear ha; rintro _ w a ⟨g2, rfl, s⟩ ha
  refine st_call ha (by kernel_rfl) (by kernel_rfl) (same_is W _ w B4 (some ⟨g2, 0, none⟩) c4 1 [⟨[97], [120]⟩] [⟨[97], [120]⟩] (Knows.own (j := 2) rfl) (Knows.reads_blk (j := 0) rfl) (by decide) rfl s) ?_
  rintro _ w ⟨rfl, s⟩
  refine ⟨_, rfl, ?_⟩; clear ha; intro a ha
  refine st_val (.bool true) ha (by kernel_rfl) (by kernel_rfl) ?_
  clear ha; intro a ha
  refine st_val (.bool true) ha (by kernel_rfl) (by kernel_rfl) ?_
  clear ha; intro a ha
  refine wpList_nil ?_
  refine then_normal ?_
  refine wp_ret ?_
  refine ret_with (v := .bool true) ha (results_1 rfl ha (res_tmp (by kernel_rfl) (by kernel_rfl))) ?_
  replace s := s.tail.tail.tail.tail.tail
  replace s : St W (L) w := s
  exact ⟨rfl, s⟩

end Go.Proofs.YtidfniglnmfphaaDoor.B
