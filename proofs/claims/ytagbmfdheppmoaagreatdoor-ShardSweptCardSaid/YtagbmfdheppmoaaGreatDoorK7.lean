import Derived.Test.YtagbmfdheppmoaaGreatDoorK6
import Derived.KernelRfl
namespace Go.Proofs.YtagbmfdheppmoaaGreatDoor.B
open Go.RowKit Go.Proofs.YtagbmfdheppmoaaGreatDoor.Sep
set_option linter.unusedVariables false
set_option linter.unusedSimpArgs false

theorem all_iter (gt : Nat) (rows : List Rw) (b1 b2 b3 : Nat) (from_ to_ : K) : J.Iter Tryz.prog 97 [.pointer (some ⟨b1, 0, none⟩), .pointer (some ⟨b2, 0, none⟩), .pointer (some ⟨b3, 0, none⟩)]
    [Tb gt rows, .blk b1 [.pointer (some ⟨gt, 0, none⟩)] 24, .blk b2 [.string (str from_)] 9, .blk b3 [.string (str to_)] 9] ((seg rows from_ to_).map row2) := by
  intro m l rc W G p LI X w g0 hlen hr h0 s
  replace s : St W (Tb gt rows :: .blk b1 [.pointer (some ⟨gt, 0, none⟩)] 24 :: .blk b2 [.string (str from_)] 9 :: .blk b3 [.string (str to_)] 9 :: J.objC l (.loop rc) :: LI 0 g0) w := s
  show CallsIn _ _ _ _ ([.func (.yield l) #[] #[], .pointer (some ⟨b1, 0, none⟩), .pointer (some ⟨b2, 0, none⟩), .pointer (some ⟨b3, 0, none⟩)] : List Value).toArray _ _
  refine J.enter_args (l := [.func (.yield l) #[] #[], .pointer (some ⟨b1, 0, none⟩), .pointer (some ⟨b2, 0, none⟩), .pointer (some ⟨b3, 0, none⟩)]) Tryz.func97 rfl rfl (Nat.le_of_ble_eq_true rfl) ?_
  intro a ha; replace ha : J.Has [] a 49 [(0, .func (.yield l) #[] #[]), (1, .pointer (some ⟨b1, 0, none⟩)), (2, .pointer (some ⟨b2, 0, none⟩)), (3, .pointer (some ⟨b3, 0, none⟩))] := ha
  refine J.wp_seq ?_
  refine J.wp_seq ?_
  refine J.wp_region_lit ?_
  refine J.st_val (.pointer (some ⟨gt, 0, none⟩)) ha (by kernel_rfl) (run_load1 (of_ := 0) (s.blkIs 1 rfl) rfl (by kernel_rfl) Tryz.isAgg24 rfl) ?_
  clear ha; intro a ha
  refine J.st_call ha (by kernel_rfl) (by kernel_rfl) (none_spec W _ _ gt _ s) ?_
  rintro _ w ⟨rfl, s⟩
  refine ⟨_, rfl, ?_⟩; clear ha; intro a ha
  refine J.wpList_nil ?_
  refine then_normal ?_
  refine J.wp_false ha rfl (by kernel_rfl) ?_
  refine J.wp_skip ?_
  refine then_normal ?_
  refine J.wp_seq ?_
  refine J.wp_region_lit ?_
  refine J.st_val (.string (str from_)) ha (by kernel_rfl) (run_load1 (of_ := 0) (s.blkIs 2 rfl) rfl (by kernel_rfl) Tryz.isAgg9 rfl) ?_
  clear ha; intro a ha
  refine J.st_val (.string (str from_)) ha (by kernel_rfl) (by kernel_rfl) ?_
  clear ha; intro a ha
  refine J.wpList_nil ?_
  refine then_normal ?_
  refine J.wp_block ?_
  have hst := s
  refine J.wp_loopG (G := Nat × G × K) (fun ⟨i, g, at_⟩ a w => J.Has [] a 49 [(0, .func (.yield l) #[] #[]), (1, .pointer (some ⟨b1, 0, none⟩)), (2, .pointer (some ⟨b2, 0, none⟩)), (3, .pointer (some ⟨b3, 0, none⟩)), (5, .string (str at_))] ∧ St W (Tb gt rows :: .blk b1 [.pointer (some ⟨gt, 0, none⟩)] 24 :: .blk b2 [.string (str from_)] 9 :: .blk b3 [.string (str to_)] 9 :: J.objC l (.loop rc) :: LI i g) w ∧ (p i g ∧ i ≤ (seg rows from_ to_).length ∧ after rows at_ = (after rows from_).drop i)) (fun ⟨i, g, at_⟩ => (seg rows from_ to_).length - i) ⟨0, g0, from_⟩ ?_ ?_
  · exact ⟨(J.Has.cons ha (by kernel_rfl) (by kernel_rfl) (J.Has.cons ha (by kernel_rfl) (by kernel_rfl) (J.Has.cons ha (by kernel_rfl) (by kernel_rfl) (J.Has.cons ha (by kernel_rfl) (by kernel_rfl) (J.Has.cons ha (by kernel_rfl) (by kernel_rfl) (J.Has.nil ha)))))), s, h0, Nat.zero_le _, (by simp)⟩
  · clear ha s; rintro ⟨i, g, at_⟩ a w ⟨ha, s, hp⟩
    obtain ⟨hp, hi, hat⟩ := hp
    obtain ⟨gl, gx, sd, hd, r, X, ok, hrw, hbd, s⟩ := tb_open s
    refine J.wp_block ?_
    refine J.wp_seq ?_
    refine J.wp_region_lit ?_
    refine J.st_val (.pointer (some ⟨gt, 0, none⟩)) ha (by kernel_rfl) (run_load1 (of_ := 0) (s.blkIs 4 rfl) rfl (by kernel_rfl) Tryz.isAgg24 rfl) ?_
    clear ha; intro a ha
    refine J.st_val (.pointer (some ⟨gt, 0, none⟩)) ha (by kernel_rfl) (by kernel_rfl) ?_
    clear ha; intro a ha
    refine J.st_val (.pointer (some ⟨gt, 0, none⟩)) ha (by kernel_rfl) (by kernel_rfl) ?_
    clear ha; intro a ha
    refine J.st_val (.pointer (some ⟨gl, 0, none⟩)) ha (by kernel_rfl) (run_load1 (of_ := 0) (s.blkIs 0 rfl) rfl (by kernel_rfl) Tryz.isAgg114 rfl) ?_
    clear ha; intro a ha
    refine J.st_val (.string (str at_)) ha (by kernel_rfl) (by kernel_rfl) ?_
    clear ha; intro a ha
    have hna := nf_after r at_; rw [hrw, hat] at hna; cases hnf : nf r at_
    · rw [hnf] at hna
      have hend : (seg rows from_ to_).length = i := by
        have h1 : ((after rows from_).drop i).head? = none := hna.symm
        rw [List.head?_drop] at h1
        have h2 := List.getElem?_eq_none_iff.1 h1
        have h3 := (List.takeWhile_sublist (p := below_ to_) (l := after rows from_)).length_le
        unfold seg at hi ⊢; omega
      replace s := (s.at_ (j := 3) rfl).at_ (j := 3) rfl
      replace s : St W (.blk gl [.pointer (some ⟨hd.g, 0, none⟩), .int .i64 ((r.length : Nat) : Int)] 220 :: SkF (hd :: r) (canon (hd :: r)) :: .blk gt [.pointer (some ⟨gl, 0, none⟩), .func (.func 127) #[] #[.pointer (some ⟨gx, 0, none⟩)], .int .i64 sd] 117 :: .blk gx [.int .u64 X] 224 :: .blk b1 [.pointer (some ⟨gt, 0, none⟩)] 24 :: .blk b2 [.string (str from_)] 9 :: .blk b3 [.string (str to_)] 9 :: J.objC l (.loop rc) :: LI i g) w := s
      refine J.st_call ha (by kernel_rfl) (by kernel_rfl) (First_no W _ _ gl hd r _ at_ ok hnf s) ?_
      rintro _ w ⟨rfl, s⟩
      refine ⟨_, rfl, ?_⟩; clear ha; intro a ha
      refine J.st_val (.tuple #[.string (str []), .bool false]) ha (by kernel_rfl) (by kernel_rfl) ?_
      clear ha; intro a ha
      refine J.st_val (.string (str [])) ha (by kernel_rfl) (by kernel_rfl) ?_
      clear ha; intro a ha
      refine J.st_val (.bool false) ha (by kernel_rfl) (by kernel_rfl) ?_
      clear ha; intro a ha
      refine J.st_val (.string (str [])) ha (by kernel_rfl) (by kernel_rfl) ?_
      clear ha; intro a ha
      refine J.st_val (.bool false) ha (by kernel_rfl) (by kernel_rfl) ?_
      clear ha; intro a ha
      refine J.wpList_nil ?_
      refine then_normal ?_
      refine J.wp_seq ?_
      refine J.wp_seq ?_
      refine J.wp_region_lit ?_
      refine J.st_val (.bool false) ha (by kernel_rfl) (by kernel_rfl) ?_
      clear ha; intro a ha
      refine J.st_val (.bool true) ha (by kernel_rfl) (by kernel_rfl) ?_
      clear ha; intro a ha
      refine J.st_val (.bool true) ha (by kernel_rfl) (by kernel_rfl) ?_
      clear ha; intro a ha
      refine J.st_pass ha (by kernel_rfl) ?_
      clear ha; intro a ha
      refine J.st_pass ha (by kernel_rfl) ?_
      clear ha; intro a ha
      refine J.st_pass ha (by kernel_rfl) ?_
      clear ha; intro a ha
      refine J.st_pass ha (by kernel_rfl) ?_
      clear ha; intro a ha
      refine J.st_pass ha (by kernel_rfl) ?_
      clear ha; intro a ha
      refine J.st_pass ha (by kernel_rfl) ?_
      clear ha; intro a ha
      refine J.st_pass ha (by kernel_rfl) ?_
      clear ha; intro a ha
      refine J.st_val (.bool true) ha (by kernel_rfl) (by kernel_rfl) ?_
      clear ha; intro a ha
      refine J.wpList_nil ?_
      refine then_normal ?_
      refine J.wp_true ha rfl (by kernel_rfl) ?_
      refine J.wp_ret ?_
      refine then_ret ?_
      refine block_ret ?_
      refine then_ret ?_
      refine block_ret ?_
      refine J.ret_with (v := .tuple #[]) ha (results_0 rfl _) ?_
      replace s := (((((((s.at_ (j := 7) rfl).at_ (j := 7) rfl).at_ (j := 7) rfl).at_ (j := 7) rfl).at_ (j := 5) rfl).at_ (j := 5) rfl).at_ (j := 7) rfl).at_ (j := 7) rfl
      replace s : St W (.blk gt [.pointer (some ⟨gl, 0, none⟩), .func (.func 127) #[] #[.pointer (some ⟨gx, 0, none⟩)], .int .i64 sd] 117 :: .blk gx [.int .u64 X] 224 :: .blk gl [.pointer (some ⟨hd.g, 0, none⟩), .int .i64 ((r.length : Nat) : Int)] 220 :: SkF (hd :: r) (canon (hd :: r)) :: .blk b1 [.pointer (some ⟨gt, 0, none⟩)] 24 :: .blk b2 [.string (str from_)] 9 :: .blk b3 [.string (str to_)] 9 :: J.objC l (.loop rc) :: LI i g) w := s
      have hl : ((seg rows from_ to_).map row2).length = i := by rw [List.length_map, hend]
      exact ⟨⟨_, rfl⟩, .inl ⟨g, by rw [hl]; exact hp, by rw [hl]; exact tb_close ok hrw hbd s⟩⟩
    · rename_i z; rw [hnf] at hna
      have hat3 : (after rows from_)[i]? = some (kv z) := by rw [← List.head?_drop]; exact hna.symm
      have hlk : z.k.length + [(0 : UInt8)].length ≤ 9223372036854775807 := by
        have h1 := hbd (kv z) ((List.mem_filter.1 (List.mem_of_getElem? hat3)).1)
        have h2 : z.k.length ≤ 1000000 := h1
        simp only [List.length_cons, List.length_nil]; omega
      have hat2 : after rows (z.k ++ [0]) = (after rows from_).drop (i + 1) := by
        refine (after_next (k := at_) (hrw ▸ ok.rise) (x := kv z) ?_)
        rw [hat]
        have := List.getElem?_eq_some_iff.1 hat3
        obtain ⟨h1, h2⟩ := this
        rw [List.drop_eq_getElem_cons h1, h2]
      replace s := (s.at_ (j := 3) rfl).at_ (j := 3) rfl
      replace s : St W (.blk gl [.pointer (some ⟨hd.g, 0, none⟩), .int .i64 ((r.length : Nat) : Int)] 220 :: SkF (hd :: r) (canon (hd :: r)) :: .blk gt [.pointer (some ⟨gl, 0, none⟩), .func (.func 127) #[] #[.pointer (some ⟨gx, 0, none⟩)], .int .i64 sd] 117 :: .blk gx [.int .u64 X] 224 :: .blk b1 [.pointer (some ⟨gt, 0, none⟩)] 24 :: .blk b2 [.string (str from_)] 9 :: .blk b3 [.string (str to_)] 9 :: J.objC l (.loop rc) :: LI i g) w := s
      refine J.st_call ha (by kernel_rfl) (by kernel_rfl) (First_yes W _ _ gl hd r _ at_ ok hnf s) ?_
      rintro _ w ⟨rfl, s⟩
      refine ⟨_, rfl, ?_⟩; clear ha; intro a ha
      refine J.st_val (.tuple #[.string (str z.k), .bool true]) ha (by kernel_rfl) (by kernel_rfl) ?_
      clear ha; intro a ha
      refine J.st_val (.string (str z.k)) ha (by kernel_rfl) (by kernel_rfl) ?_
      clear ha; intro a ha
      refine J.st_val (.bool true) ha (by kernel_rfl) (by kernel_rfl) ?_
      clear ha; intro a ha
      refine J.st_val (.string (str z.k)) ha (by kernel_rfl) (by kernel_rfl) ?_
      clear ha; intro a ha
      refine J.st_val (.bool true) ha (by kernel_rfl) (by kernel_rfl) ?_
      clear ha; intro a ha
      refine J.wpList_nil ?_
      refine then_normal ?_
      refine J.wp_seq ?_
      refine J.wp_seq ?_
      refine J.wp_region_lit ?_
      refine J.st_val (.bool true) ha (by kernel_rfl) (by kernel_rfl) ?_
      clear ha; intro a ha
      refine J.st_val (.bool false) ha (by kernel_rfl) (by kernel_rfl) ?_
      clear ha; intro a ha
      refine J.st_val (.bool false) ha (by kernel_rfl) (by kernel_rfl) ?_
      clear ha; intro a ha
      refine J.st_val (.string (str to_)) ha (by kernel_rfl) (run_load1 (of_ := 0) (s.blkIs 6 rfl) rfl (by kernel_rfl) Tryz.isAgg9 rfl) ?_
      clear ha; intro a ha
      refine J.st_val (.bool (decide (to_ ≠ []))) ha (by kernel_rfl) (run_sneq (p := to_) (q := []) rfl (by kernel_rfl) (by kernel_rfl) _) ?_
      clear ha; intro a ha
      refine J.st_val (.bool (decide (to_ ≠ []))) ha (by kernel_rfl) (by kernel_rfl) ?_
      clear ha; intro a ha
      rcases Bool.eq_false_or_eq_true (decide (to_ ≠ [])) with hb | hb
      · rw [hb] at ha; replace hb : (to_ ≠ []) := of_decide_eq_true hb
        have hto := hb; clear hb
        refine J.st_val (.string (str z.k)) ha (by kernel_rfl) (by kernel_rfl) ?_
        clear ha; intro a ha
        refine J.st_val (.string (str to_)) ha (by kernel_rfl) (run_load1 (of_ := 0) (s.blkIs 6 rfl) rfl (by kernel_rfl) Tryz.isAgg9 rfl) ?_
        clear ha; intro a ha
        refine J.st_val (.bool (decide (to_ ≤ z.k))) ha (by kernel_rfl) (run_sgeq (p := z.k) (q := to_) rfl (by kernel_rfl) (by kernel_rfl) _) ?_
        clear ha; intro a ha
        refine J.st_val (.bool (decide (to_ ≤ z.k))) ha (by kernel_rfl) (by kernel_rfl) ?_
        clear ha; intro a ha
        refine J.st_val (.bool (decide (to_ ≤ z.k))) ha (by kernel_rfl) (by kernel_rfl) ?_
        clear ha; intro a ha
        refine J.wpList_nil ?_
        refine then_normal ?_
        refine J.wp_part (decide (to_ ≤ z.k)) ha rfl (by kernel_rfl) (fun hb => ?_) (fun hb => ?_)
        · rw [hb] at ha; replace hb : (to_ ≤ z.k) := of_decide_eq_true hb
          have hend : (seg rows from_ to_).length = i := ((take_at (p := below_ to_) hat3 hi).2 (by simp [below_, hto, kv, List.not_lt.2 hb])).symm
          refine J.wp_ret ?_
          refine then_ret ?_
          refine block_ret ?_
          refine then_ret ?_
          refine block_ret ?_
          refine J.ret_with (v := .tuple #[]) ha (results_0 rfl _) ?_
          replace s := (((((((s.at_ (j := 7) rfl).at_ (j := 7) rfl).at_ (j := 7) rfl).at_ (j := 7) rfl).at_ (j := 5) rfl).at_ (j := 5) rfl).at_ (j := 7) rfl).at_ (j := 7) rfl
          replace s : St W (.blk gt [.pointer (some ⟨gl, 0, none⟩), .func (.func 127) #[] #[.pointer (some ⟨gx, 0, none⟩)], .int .i64 sd] 117 :: .blk gx [.int .u64 X] 224 :: .blk gl [.pointer (some ⟨hd.g, 0, none⟩), .int .i64 ((r.length : Nat) : Int)] 220 :: SkF (hd :: r) (canon (hd :: r)) :: .blk b1 [.pointer (some ⟨gt, 0, none⟩)] 24 :: .blk b2 [.string (str from_)] 9 :: .blk b3 [.string (str to_)] 9 :: J.objC l (.loop rc) :: LI i g) w := s
          have hl : ((seg rows from_ to_).map row2).length = i := by rw [List.length_map, hend]
          exact ⟨⟨_, rfl⟩, .inl ⟨g, by rw [hl]; exact hp, by rw [hl]; exact tb_close ok hrw hbd s⟩⟩
        · rw [hb] at ha; replace hb : ¬ (to_ ≤ z.k) := of_decide_eq_false hb
          have hseg : (seg rows from_ to_)[i]? = some (kv z) ∧ i + 1 ≤ (seg rows from_ to_).length := (take_at (p := below_ to_) hat3 hi).1 (by simp [below_, kv, List.not_le.1 hb])
          refine J.wp_skip ?_
          refine then_normal ?_
          refine J.wp_seq ?_
          refine J.wp_region_lit ?_
          refine J.st_val (.pointer (some ⟨gt, 0, none⟩)) ha (by kernel_rfl) (run_load1 (of_ := 0) (s.blkIs 4 rfl) rfl (by kernel_rfl) Tryz.isAgg24 rfl) ?_
          clear ha; intro a ha
          refine J.st_val (.pointer (some ⟨gt, 0, none⟩)) ha (by kernel_rfl) (by kernel_rfl) ?_
          clear ha; intro a ha
          refine J.st_val (.pointer (some ⟨gt, 0, none⟩)) ha (by kernel_rfl) (by kernel_rfl) ?_
          clear ha; intro a ha
          refine J.st_val (.pointer (some ⟨gl, 0, none⟩)) ha (by kernel_rfl) (run_load1 (of_ := 0) (s.blkIs 2 rfl) rfl (by kernel_rfl) Tryz.isAgg114 rfl) ?_
          clear ha; intro a ha
          refine J.st_val (.string (str z.k)) ha (by kernel_rfl) (by kernel_rfl) ?_
          clear ha; intro a ha
          refine J.st_call ha (by kernel_rfl) (by kernel_rfl) (Get_yes W _ _ gl hd r _ z.k ok (fnd_self ok.tail_lt (List.mem_of_find?_eq_some hnf)) s) ?_
          rintro _ w ⟨rfl, s⟩
          refine ⟨_, rfl, ?_⟩; clear ha; intro a ha
          refine J.st_val (.tuple #[.string (str z.v), .bool true]) ha (by kernel_rfl) (by kernel_rfl) ?_
          clear ha; intro a ha
          refine J.st_val (.string (str z.v)) ha (by kernel_rfl) (by kernel_rfl) ?_
          clear ha; intro a ha
          refine J.st_val (.bool true) ha (by kernel_rfl) (by kernel_rfl) ?_
          clear ha; intro a ha
          refine J.st_val (.string (str z.v)) ha (by kernel_rfl) (by kernel_rfl) ?_
          clear ha; intro a ha
          refine J.st_val (.bool true) ha (by kernel_rfl) (by kernel_rfl) ?_
          clear ha; intro a ha
          refine J.wpList_nil ?_
          refine then_normal ?_
          refine J.wp_seq ?_
          refine J.wp_seq ?_
          refine J.wp_region_lit ?_
          refine J.st_val (.func (.yield l) #[] #[]) ha (by kernel_rfl) (by kernel_rfl) ?_
          clear ha; intro a ha
          refine J.st_val (.string (str z.k)) ha (by kernel_rfl) (by kernel_rfl) ?_
          clear ha; intro a ha
          refine J.st_val (.string (str z.v)) ha (by kernel_rfl) (by kernel_rfl) ?_
          clear ha; intro a ha
          replace s := (((s.at_ (j := 1) rfl).at_ (j := 1) rfl).at_ (j := 3) rfl).at_ (j := 3) rfl
          replace s : St W (.blk gt [.pointer (some ⟨gl, 0, none⟩), .func (.func 127) #[] #[.pointer (some ⟨gx, 0, none⟩)], .int .i64 sd] 117 :: .blk gx [.int .u64 X] 224 :: .blk gl [.pointer (some ⟨hd.g, 0, none⟩), .int .i64 ((r.length : Nat) : Int)] 220 :: SkF (hd :: r) (canon (hd :: r)) :: .blk b1 [.pointer (some ⟨gt, 0, none⟩)] 24 :: .blk b2 [.string (str from_)] 9 :: .blk b3 [.string (str to_)] 9 :: J.objC l (.loop rc) :: LI i g) w := s
          replace s := tb_close ok hrw hbd s
          have hys : ((seg rows from_ to_).map row2)[i]? = some (row2 (kv z)) := by rw [List.getElem?_map, hseg.1]; rfl
          refine J.st_round ha (by kernel_rfl) (run_yieldcall rfl (by kernel_rfl) (by kernel_rfl) (by kernel_rfl) (J.objC_heap (s.at_ (j := 4) rfl).1) (hlen _ (List.mem_of_getElem? hys))) (hr i (row2 (kv z)) g w hys hp s) ?_
          rintro _ w (⟨rfl, g2, hp2, s⟩ | ⟨rfl, hX⟩)
          · refine ⟨_, rfl, ?_⟩; clear ha; intro a ha
            replace s : St W (Tb gt rows :: .blk b1 [.pointer (some ⟨gt, 0, none⟩)] 24 :: .blk b2 [.string (str from_)] 9 :: .blk b3 [.string (str to_)] 9 :: J.objC l (.loop rc) :: LI (i + 1) g2) w := s
            refine J.st_val (.bool false) ha (by kernel_rfl) (by kernel_rfl) ?_
            clear ha; intro a ha
            refine J.wpList_nil ?_
            refine then_normal ?_
            refine J.wp_false ha rfl (by kernel_rfl) ?_
            refine J.wp_skip ?_
            refine then_normal ?_
            refine J.wp_region_lit ?_
            refine J.st_val (.string (str z.k)) ha (by kernel_rfl) (by kernel_rfl) ?_
            clear ha; intro a ha
            refine J.st_val (.string (str (z.k ++ [0]))) ha (by kernel_rfl) (run_sadd rfl (by kernel_rfl) (by kernel_rfl) (by first | omega | (simp only [List.length_cons, List.length_nil]; omega)) _) ?_
            clear ha; intro a ha
            refine J.st_val (.string (str (z.k ++ [0]))) ha (by kernel_rfl) (by kernel_rfl) ?_
            clear ha; intro a ha
            refine J.wpList_nil ?_
            refine block_normal ?_
            refine then_normal ?_
            exact ⟨⟨i + 1, g2, z.k ++ [0]⟩, by show (seg rows from_ to_).length - (i + 1) < (seg rows from_ to_).length - i; omega, (J.Has.cons ha (by kernel_rfl) (by kernel_rfl) (J.Has.cons ha (by kernel_rfl) (by kernel_rfl) (J.Has.cons ha (by kernel_rfl) (by kernel_rfl) (J.Has.cons ha (by kernel_rfl) (by kernel_rfl) (J.Has.cons ha (by kernel_rfl) (by kernel_rfl) (J.Has.nil ha)))))), s, hp2, hseg.2, hat2⟩
          · refine ⟨_, rfl, ?_⟩; clear ha; intro a ha
            refine J.st_val (.bool true) ha (by kernel_rfl) (by kernel_rfl) ?_
            clear ha; intro a ha
            refine J.wpList_nil ?_
            refine then_normal ?_
            refine J.wp_true ha rfl (by kernel_rfl) ?_
            refine J.wp_ret ?_
            refine then_ret ?_
            refine block_ret ?_
            refine then_ret ?_
            refine block_ret ?_
            refine J.ret_with (v := .tuple #[]) ha (results_0 rfl _) ?_
            exact ⟨⟨_, rfl⟩, .inr hX⟩
      · rw [hb] at ha; replace hb : ¬ (to_ ≠ []) := of_decide_eq_false hb
        have hseg : (seg rows from_ to_)[i]? = some (kv z) ∧ i + 1 ≤ (seg rows from_ to_).length := (take_at (p := below_ to_) hat3 hi).1 (by simp [below_, Decidable.not_not.1 hb])
        refine J.st_pass ha (by kernel_rfl) ?_
        clear ha; intro a ha
        refine J.st_pass ha (by kernel_rfl) ?_
        clear ha; intro a ha
        refine J.st_pass ha (by kernel_rfl) ?_
        clear ha; intro a ha
        refine J.st_val (.bool false) ha (by kernel_rfl) (by kernel_rfl) ?_
        clear ha; intro a ha
        refine J.st_val (.bool false) ha (by kernel_rfl) (by kernel_rfl) ?_
        clear ha; intro a ha
        refine J.wpList_nil ?_
        refine then_normal ?_
        refine J.wp_false ha rfl (by kernel_rfl) ?_
        refine J.wp_skip ?_
        refine then_normal ?_
        refine J.wp_seq ?_
        refine J.wp_region_lit ?_
        refine J.st_val (.pointer (some ⟨gt, 0, none⟩)) ha (by kernel_rfl) (run_load1 (of_ := 0) (s.blkIs 4 rfl) rfl (by kernel_rfl) Tryz.isAgg24 rfl) ?_
        clear ha; intro a ha
        refine J.st_val (.pointer (some ⟨gt, 0, none⟩)) ha (by kernel_rfl) (by kernel_rfl) ?_
        clear ha; intro a ha
        refine J.st_val (.pointer (some ⟨gt, 0, none⟩)) ha (by kernel_rfl) (by kernel_rfl) ?_
        clear ha; intro a ha
        refine J.st_val (.pointer (some ⟨gl, 0, none⟩)) ha (by kernel_rfl) (run_load1 (of_ := 0) (s.blkIs 2 rfl) rfl (by kernel_rfl) Tryz.isAgg114 rfl) ?_
        clear ha; intro a ha
        refine J.st_val (.string (str z.k)) ha (by kernel_rfl) (by kernel_rfl) ?_
        clear ha; intro a ha
        refine J.st_call ha (by kernel_rfl) (by kernel_rfl) (Get_yes W _ _ gl hd r _ z.k ok (fnd_self ok.tail_lt (List.mem_of_find?_eq_some hnf)) s) ?_
        rintro _ w ⟨rfl, s⟩
        refine ⟨_, rfl, ?_⟩; clear ha; intro a ha
        refine J.st_val (.tuple #[.string (str z.v), .bool true]) ha (by kernel_rfl) (by kernel_rfl) ?_
        clear ha; intro a ha
        refine J.st_val (.string (str z.v)) ha (by kernel_rfl) (by kernel_rfl) ?_
        clear ha; intro a ha
        refine J.st_val (.bool true) ha (by kernel_rfl) (by kernel_rfl) ?_
        clear ha; intro a ha
        refine J.st_val (.string (str z.v)) ha (by kernel_rfl) (by kernel_rfl) ?_
        clear ha; intro a ha
        refine J.st_val (.bool true) ha (by kernel_rfl) (by kernel_rfl) ?_
        clear ha; intro a ha
        refine J.wpList_nil ?_
        refine then_normal ?_
        refine J.wp_seq ?_
        refine J.wp_seq ?_
        refine J.wp_region_lit ?_
        refine J.st_val (.func (.yield l) #[] #[]) ha (by kernel_rfl) (by kernel_rfl) ?_
        clear ha; intro a ha
        refine J.st_val (.string (str z.k)) ha (by kernel_rfl) (by kernel_rfl) ?_
        clear ha; intro a ha
        refine J.st_val (.string (str z.v)) ha (by kernel_rfl) (by kernel_rfl) ?_
        clear ha; intro a ha
        replace s := (((s.at_ (j := 1) rfl).at_ (j := 1) rfl).at_ (j := 3) rfl).at_ (j := 3) rfl
        replace s : St W (.blk gt [.pointer (some ⟨gl, 0, none⟩), .func (.func 127) #[] #[.pointer (some ⟨gx, 0, none⟩)], .int .i64 sd] 117 :: .blk gx [.int .u64 X] 224 :: .blk gl [.pointer (some ⟨hd.g, 0, none⟩), .int .i64 ((r.length : Nat) : Int)] 220 :: SkF (hd :: r) (canon (hd :: r)) :: .blk b1 [.pointer (some ⟨gt, 0, none⟩)] 24 :: .blk b2 [.string (str from_)] 9 :: .blk b3 [.string (str to_)] 9 :: J.objC l (.loop rc) :: LI i g) w := s
        replace s := tb_close ok hrw hbd s
        have hys : ((seg rows from_ to_).map row2)[i]? = some (row2 (kv z)) := by rw [List.getElem?_map, hseg.1]; rfl
        refine J.st_round ha (by kernel_rfl) (run_yieldcall rfl (by kernel_rfl) (by kernel_rfl) (by kernel_rfl) (J.objC_heap (s.at_ (j := 4) rfl).1) (hlen _ (List.mem_of_getElem? hys))) (hr i (row2 (kv z)) g w hys hp s) ?_
        rintro _ w (⟨rfl, g2, hp2, s⟩ | ⟨rfl, hX⟩)
        · refine ⟨_, rfl, ?_⟩; clear ha; intro a ha
          replace s : St W (Tb gt rows :: .blk b1 [.pointer (some ⟨gt, 0, none⟩)] 24 :: .blk b2 [.string (str from_)] 9 :: .blk b3 [.string (str to_)] 9 :: J.objC l (.loop rc) :: LI (i + 1) g2) w := s
          refine J.st_val (.bool false) ha (by kernel_rfl) (by kernel_rfl) ?_
          clear ha; intro a ha
          refine J.wpList_nil ?_
          refine then_normal ?_
          refine J.wp_false ha rfl (by kernel_rfl) ?_
          refine J.wp_skip ?_
          refine then_normal ?_
          refine J.wp_region_lit ?_
          refine J.st_val (.string (str z.k)) ha (by kernel_rfl) (by kernel_rfl) ?_
          clear ha; intro a ha
          refine J.st_val (.string (str (z.k ++ [0]))) ha (by kernel_rfl) (run_sadd rfl (by kernel_rfl) (by kernel_rfl) (by first | omega | (simp only [List.length_cons, List.length_nil]; omega)) _) ?_
          clear ha; intro a ha
          refine J.st_val (.string (str (z.k ++ [0]))) ha (by kernel_rfl) (by kernel_rfl) ?_
          clear ha; intro a ha
          refine J.wpList_nil ?_
          refine block_normal ?_
          refine then_normal ?_
          exact ⟨⟨i + 1, g2, z.k ++ [0]⟩, by show (seg rows from_ to_).length - (i + 1) < (seg rows from_ to_).length - i; omega, (J.Has.cons ha (by kernel_rfl) (by kernel_rfl) (J.Has.cons ha (by kernel_rfl) (by kernel_rfl) (J.Has.cons ha (by kernel_rfl) (by kernel_rfl) (J.Has.cons ha (by kernel_rfl) (by kernel_rfl) (J.Has.cons ha (by kernel_rfl) (by kernel_rfl) (J.Has.nil ha)))))), s, hp2, hseg.2, hat2⟩
        · refine ⟨_, rfl, ?_⟩; clear ha; intro a ha
          refine J.st_val (.bool true) ha (by kernel_rfl) (by kernel_rfl) ?_
          clear ha; intro a ha
          refine J.wpList_nil ?_
          refine then_normal ?_
          refine J.wp_true ha rfl (by kernel_rfl) ?_
          refine J.wp_ret ?_
          refine then_ret ?_
          refine block_ret ?_
          refine then_ret ?_
          refine block_ret ?_
          refine J.ret_with (v := .tuple #[]) ha (results_0 rfl _) ?_
          exact ⟨⟨_, rfl⟩, .inr hX⟩

end Go.Proofs.YtagbmfdheppmoaaGreatDoor.B
