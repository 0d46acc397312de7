import Derived.Test.YtlkoppmenpeepaaB2
namespace Go.Proofs.Ytlkoppmenpeepaa.B
open Go.RowKit Go.Maps Go.Sort Go.Shelf Go.Proofs.Ytlkoppmenpeepaa.Sep Go.Proofs.Ytlkoppmenpeepaa.P
set_option linter.unusedVariables false
set_option linter.unusedSimpArgs false
/-- The first one, or none. -/
def hd (l : List Wt) : Wt := l.headD ⟨0, [], 0, 0⟩

theorem free_made (W : World) (L : List Chunk) (w : World) (g : Nat) (A : Option Addr) (n c : Nat) (l : List Wt) (hl : l.length = n) (hn : n ≤ 100) (m : Int) (s : St W (.blk g [.bool true, .slice A n c] 62 :: Own 28 4 A n c (ws l) :: L) w) :
    Calls Try.prog 16 #[.pointer (some ⟨g, 0, none⟩), .int .i64 m] w fun e w' => ∃ A' c', e = .returned (.slice A' (out (byHolder m) l).length c') ∧ St W (Own 28 4 A' (out (byHolder m) l).length c' (ws (out (byHolder m) l)) :: .blk g [.bool true, .slice A (left (byHolder m) l).length c] 62 :: Own 28 4 A (left (byHolder m) l).length c (ws (left (byHolder m) l)) :: L) w' := by
  refine enter_args (l := [.pointer (some ⟨g, 0, none⟩), .int .i64 m]) Try.func16 rfl rfl (Nat.le_of_ble_eq_true rfl) ?_
  intro a ha; replace ha : Has a 8 [(0, .pointer (some ⟨g, 0, none⟩)), (1, .int .i64 m)] := ha
  refine wp_seq ?_
  refine wp_region_lit ?_
  refine st_ex ha (by kernel_rfl) (ex_box [.int .i64 m] s rfl (by kernel_rfl)) ?_
  clear ha; rintro _ w a ⟨g1, rfl, s⟩ ha
  replace s : St W (.blk g1 [.int .i64 m] 3 :: .blk g [.bool true, .slice A n c] 62 :: Own 28 4 A n c (ws l) :: L) w := s
  refine st_val (.slice none 0 0) ha (by kernel_rfl) (by kernel_rfl) ?_
  clear ha; intro a ha
  refine wpList_nil ?_
  refine then_normal ?_
  refine wp_seq ?_
  refine wp_region_lit ?_
  refine st_val (.pointer (some ⟨g, 0, none⟩)) ha (by kernel_rfl) (by kernel_rfl) ?_
  clear ha; intro a ha
  refine st_val (.func (.func 32) #[] #[.pointer (some ⟨g1, 0, none⟩)]) ha (by kernel_rfl) (by kernel_rfl) ?_
  clear ha; intro a ha
  replace s := (St.star (A := [.blk g1 [.int .i64 m] 3])).2 s
  replace s : St W (star [.blk g1 [.int .i64 m] 3] :: .blk g [.bool true, .slice A n c] 62 :: Own 28 4 A n c (ws l) :: L) w := s
  replace s := s.at_ (j := 2) rfl
  replace s : St W (Own 28 4 A n c (ws l) :: star [.blk g1 [.int .i64 m] 3] :: .blk g [.bool true, .slice A n c] 62 :: L) w := s
  replace s := s.at_ (j := 2) rfl
  replace s : St W (.blk g [.bool true, .slice A n c] 62 :: Own 28 4 A n c (ws l) :: star [.blk g1 [.int .i64 m] 3] :: L) w := s
  refine st_call ha (by kernel_rfl) (by kernel_rfl) (off_any W _ w g A n c l hl hn 32 #[.pointer (some ⟨g1, 0, none⟩)] (byHolder m) (star [.blk g1 [.int .i64 m] 3]) enters32 (asks32 g1 m) s) ?_
  rintro _ w ⟨A2, c3, rfl, s⟩
  replace s : St W (Own 28 4 A2 ((out (byHolder m) l).length) c3 (ws (out (byHolder m) l)) :: .blk g [.bool true, .slice A ((left (byHolder m) l).length) c] 62 :: Own 28 4 A ((left (byHolder m) l).length) c (ws (left (byHolder m) l)) :: star [.blk g1 [.int .i64 m] 3] :: L) w := s
  refine ⟨_, rfl, ?_⟩; clear ha; intro a ha
  refine st_val (.slice A2 ((out (byHolder m) l).length) c3) ha (by kernel_rfl) (by kernel_rfl) ?_
  clear ha; intro a ha
  refine wpList_nil ?_
  refine then_normal ?_
  refine wp_ret ?_
  refine ret_with (v := .slice A2 ((out (byHolder m) l).length) c3) ha (results_1 rfl ha (res_tmp (by kernel_rfl) (by kernel_rfl))) ?_
  replace s : St W (Own 28 4 A2 ((out (byHolder m) l).length) c3 (ws (out (byHolder m) l)) :: .blk g [.bool true, .slice A ((left (byHolder m) l).length) c] 62 :: Own 28 4 A ((left (byHolder m) l).length) c (ws (left (byHolder m) l)) :: L) w := St.mid (A := [Own 28 4 A2 ((out (byHolder m) l).length) c3 (ws (out (byHolder m) l)), .blk g [.bool true, .slice A ((left (byHolder m) l).length) c] 62, Own 28 4 A ((left (byHolder m) l).length) c (ws (left (byHolder m) l))]) (B := [star [.blk g1 [.int .i64 m] 3]]) s
  exact ⟨_, _, rfl, s⟩

theorem at_made (W : World) (L : List Chunk) (w : World) (g : Nat) (A : Option Addr) (n c : Nat) (l : List Wt) (hl : l.length = n) (hn : n ≤ 100) (k : List UInt8) (m : Int) (s : St W (.blk g [.bool true, .slice A n c] 62 :: Own 28 4 A n c (ws l) :: L) w) :
    Calls Try.prog 13 #[.pointer (some ⟨g, 0, none⟩), .string (str k), .int .i64 m] w fun e w' => ∃ A' c', e = .returned (.slice A' (out (byKey k m) l).length c') ∧ St W (Own 28 4 A' (out (byKey k m) l).length c' (ws (out (byKey k m) l)) :: .blk g [.bool true, .slice A (left (byKey k m) l).length c] 62 :: Own 28 4 A (left (byKey k m) l).length c (ws (left (byKey k m) l)) :: L) w' := by
  refine enter_args (l := [.pointer (some ⟨g, 0, none⟩), .string (str k), .int .i64 m]) Try.func13 rfl rfl (Nat.le_of_ble_eq_true rfl) ?_
  intro a ha; replace ha : Has a 10 [(0, .pointer (some ⟨g, 0, none⟩)), (1, .string (str k)), (2, .int .i64 m)] := ha
  refine wp_seq ?_
  refine wp_region_lit ?_
  refine st_ex ha (by kernel_rfl) (ex_box [.string (str k)] s rfl (by kernel_rfl)) ?_
  clear ha; rintro _ w a ⟨g1, rfl, s⟩ ha
  replace s : St W (.blk g1 [.string (str k)] 9 :: .blk g [.bool true, .slice A n c] 62 :: Own 28 4 A n c (ws l) :: L) w := s
  refine st_ex ha (by kernel_rfl) (ex_box [.int .i64 m] s rfl (by kernel_rfl)) ?_
  clear ha; rintro _ w a ⟨g2, rfl, s⟩ ha
  replace s : St W (.blk g2 [.int .i64 m] 3 :: .blk g1 [.string (str k)] 9 :: .blk g [.bool true, .slice A n c] 62 :: Own 28 4 A n c (ws l) :: L) w := s
  refine st_val (.slice none 0 0) ha (by kernel_rfl) (by kernel_rfl) ?_
  clear ha; intro a ha
  refine wpList_nil ?_
  refine then_normal ?_
  refine wp_seq ?_
  refine wp_region_lit ?_
  refine st_val (.pointer (some ⟨g, 0, none⟩)) ha (by kernel_rfl) (by kernel_rfl) ?_
  clear ha; intro a ha
  refine st_val (.func (.func 31) #[] #[.pointer (some ⟨g2, 0, none⟩), .pointer (some ⟨g1, 0, none⟩)]) ha (by kernel_rfl) (by kernel_rfl) ?_
  clear ha; intro a ha
  replace s := (St.star (A := [.blk g2 [.int .i64 m] 3, .blk g1 [.string (str k)] 9])).2 s
  replace s : St W (star [.blk g2 [.int .i64 m] 3, .blk g1 [.string (str k)] 9] :: .blk g [.bool true, .slice A n c] 62 :: Own 28 4 A n c (ws l) :: L) w := s
  replace s := s.at_ (j := 2) rfl
  replace s : St W (Own 28 4 A n c (ws l) :: star [.blk g2 [.int .i64 m] 3, .blk g1 [.string (str k)] 9] :: .blk g [.bool true, .slice A n c] 62 :: L) w := s
  replace s := s.at_ (j := 2) rfl
  replace s : St W (.blk g [.bool true, .slice A n c] 62 :: Own 28 4 A n c (ws l) :: star [.blk g2 [.int .i64 m] 3, .blk g1 [.string (str k)] 9] :: L) w := s
  refine st_call ha (by kernel_rfl) (by kernel_rfl) (off_any W _ w g A n c l hl hn 31 #[.pointer (some ⟨g2, 0, none⟩), .pointer (some ⟨g1, 0, none⟩)] (byKey k m) (star [.blk g2 [.int .i64 m] 3, .blk g1 [.string (str k)] 9]) enters31 (asks31 g2 g1 m k) s) ?_
  rintro _ w ⟨A3, c4, rfl, s⟩
  replace s : St W (Own 28 4 A3 ((out (byKey k m) l).length) c4 (ws (out (byKey k m) l)) :: .blk g [.bool true, .slice A ((left (byKey k m) l).length) c] 62 :: Own 28 4 A ((left (byKey k m) l).length) c (ws (left (byKey k m) l)) :: star [.blk g2 [.int .i64 m] 3, .blk g1 [.string (str k)] 9] :: L) w := s
  refine ⟨_, rfl, ?_⟩; clear ha; intro a ha
  refine st_val (.slice A3 ((out (byKey k m) l).length) c4) ha (by kernel_rfl) (by kernel_rfl) ?_
  clear ha; intro a ha
  refine wpList_nil ?_
  refine then_normal ?_
  refine wp_ret ?_
  refine ret_with (v := .slice A3 ((out (byKey k m) l).length) c4) ha (results_1 rfl ha (res_tmp (by kernel_rfl) (by kernel_rfl))) ?_
  replace s : St W (Own 28 4 A3 ((out (byKey k m) l).length) c4 (ws (out (byKey k m) l)) :: .blk g [.bool true, .slice A ((left (byKey k m) l).length) c] 62 :: Own 28 4 A ((left (byKey k m) l).length) c (ws (left (byKey k m) l)) :: L) w := St.mid (A := [Own 28 4 A3 ((out (byKey k m) l).length) c4 (ws (out (byKey k m) l)), .blk g [.bool true, .slice A ((left (byKey k m) l).length) c] 62, Own 28 4 A ((left (byKey k m) l).length) c (ws (left (byKey k m) l))]) (B := [star [.blk g2 [.int .i64 m] 3, .blk g1 [.string (str k)] 9]]) s
  exact ⟨_, _, rfl, s⟩

theorem take_made (W : World) (L : List Chunk) (w : World) (g : Nat) (A : Option Addr) (n c : Nat) (l : List Wt) (hl : l.length = n) (hn : n ≤ 100) (m : Int) (s : St W (.blk g [.bool true, .slice A n c] 62 :: Own 28 4 A n c (ws l) :: L) w) :
    Calls Try.prog 11 #[.pointer (some ⟨g, 0, none⟩), .int .i64 m] w fun e w' => e = .returned (.tuple #[.agg #[.int .i64 (hd (out (byNum m) l)).num, .string (str (hd (out (byNum m) l)).key), .int .i64 (hd (out (byNum m) l)).waiter, .int .i64 (hd (out (byNum m) l)).holder], .bool (!(out (byNum m) l).isEmpty)]) ∧ St W (.blk g [.bool true, .slice A (left (byNum m) l).length c] 62 :: Own 28 4 A (left (byNum m) l).length c (ws (left (byNum m) l)) :: L) w' := by
  refine enter_args (l := [.pointer (some ⟨g, 0, none⟩), .int .i64 m]) Try.func11 rfl rfl (Nat.le_of_ble_eq_true rfl) ?_
  intro a ha; replace ha : Has a 17 [(0, .pointer (some ⟨g, 0, none⟩)), (1, .int .i64 m)] := ha
  refine wp_seq ?_
  refine wp_region_lit ?_
  refine st_ex ha (by kernel_rfl) (ex_box [.int .i64 m] s rfl (by kernel_rfl)) ?_
  clear ha; rintro _ w a ⟨g1, rfl, s⟩ ha
  replace s : St W (.blk g1 [.int .i64 m] 3 :: .blk g [.bool true, .slice A n c] 62 :: Own 28 4 A n c (ws l) :: L) w := s
  refine st_ex ha (by kernel_rfl) (ex_alloc [.int .i64 0, .string (str []), .int .i64 0, .int .i64 0] s rfl (Try.zeroValue28 _) (by kernel_rfl)) ?_
  clear ha; rintro _ w a ⟨g2, rfl, s⟩ ha
  replace s : St W (.blk g2 [.int .i64 0, .string (str []), .int .i64 0, .int .i64 0] 28 :: .blk g1 [.int .i64 m] 3 :: .blk g [.bool true, .slice A n c] 62 :: Own 28 4 A n c (ws l) :: L) w := s
  refine st_val (.bool false) ha (by kernel_rfl) (by kernel_rfl) ?_
  clear ha; intro a ha
  refine wpList_nil ?_
  refine then_normal ?_
  refine wp_seq ?_
  refine wp_region_lit ?_
  refine st_val (.pointer (some ⟨g, 0, none⟩)) ha (by kernel_rfl) (by kernel_rfl) ?_
  clear ha; intro a ha
  refine st_val (.func (.func 29) #[] #[.pointer (some ⟨g1, 0, none⟩)]) ha (by kernel_rfl) (by kernel_rfl) ?_
  clear ha; intro a ha
  replace s := s.at_ (j := 1) rfl
  replace s : St W (.blk g1 [.int .i64 m] 3 :: .blk g2 [.int .i64 0, .string (str []), .int .i64 0, .int .i64 0] 28 :: .blk g [.bool true, .slice A n c] 62 :: Own 28 4 A n c (ws l) :: L) w := s
  replace s := (St.star (A := [.blk g1 [.int .i64 m] 3])).2 s
  replace s : St W (star [.blk g1 [.int .i64 m] 3] :: .blk g2 [.int .i64 0, .string (str []), .int .i64 0, .int .i64 0] 28 :: .blk g [.bool true, .slice A n c] 62 :: Own 28 4 A n c (ws l) :: L) w := s
  replace s := s.at_ (j := 3) rfl
  replace s : St W (Own 28 4 A n c (ws l) :: star [.blk g1 [.int .i64 m] 3] :: .blk g2 [.int .i64 0, .string (str []), .int .i64 0, .int .i64 0] 28 :: .blk g [.bool true, .slice A n c] 62 :: L) w := s
  replace s := s.at_ (j := 3) rfl
  replace s : St W (.blk g [.bool true, .slice A n c] 62 :: Own 28 4 A n c (ws l) :: star [.blk g1 [.int .i64 m] 3] :: .blk g2 [.int .i64 0, .string (str []), .int .i64 0, .int .i64 0] 28 :: L) w := s
  refine st_call ha (by kernel_rfl) (by kernel_rfl) (off_any W _ w g A n c l hl hn 29 #[.pointer (some ⟨g1, 0, none⟩)] (byNum m) (star [.blk g1 [.int .i64 m] 3]) enters29 (asks29 g1 m) s) ?_
  rintro _ w ⟨A3, c4, rfl, s⟩
  replace s : St W (Own 28 4 A3 ((out (byNum m) l).length) c4 (ws (out (byNum m) l)) :: .blk g [.bool true, .slice A ((left (byNum m) l).length) c] 62 :: Own 28 4 A ((left (byNum m) l).length) c (ws (left (byNum m) l)) :: star [.blk g1 [.int .i64 m] 3] :: .blk g2 [.int .i64 0, .string (str []), .int .i64 0, .int .i64 0] 28 :: L) w := s
  refine ⟨_, rfl, ?_⟩; clear ha; intro a ha
  refine st_val (.slice A3 ((out (byNum m) l).length) c4) ha (by kernel_rfl) (by kernel_rfl) ?_
  clear ha; intro a ha
  refine wpList_nil ?_
  refine then_normal ?_
  refine wp_seq ?_
  refine wp_seq ?_
  refine wp_region_lit ?_
  refine st_val (.slice A3 ((out (byNum m) l).length) c4) ha (by kernel_rfl) (by kernel_rfl) ?_
  clear ha; intro a ha
  refine st_val (.int .i64 (((out (byNum m) l).length : Nat) : Int)) ha (by kernel_rfl) (by kernel_rfl) ?_
  clear ha; intro a ha
  refine st_val (.bool ((((out (byNum m) l).length : Nat) : Int) == (0 : Int))) ha (by kernel_rfl) (by kernel_rfl) ?_
  clear ha; intro a ha
  refine wpList_nil ?_
  refine then_normal ?_
  refine wp_part ((((out (byNum m) l).length : Nat) : Int) == (0 : Int)) ha rfl (by kernel_rfl) (fun hb => ?_) (fun hb => ?_)
  · rw [hb] at ha; have hb_ := hb; replace hb := eq_of_beq hb
    have ho : (out (byNum m) l) = [] := List.eq_nil_of_length_eq_zero (by omega)
    refine wp_seq ?_
    refine wp_region_lit ?_
    refine st_val (.agg #[.int .i64 0, .string (str []), .int .i64 0, .int .i64 0]) ha (by kernel_rfl) (by kernel_rfl) ?_
    clear ha; intro a ha
    refine st_exd ha (by kernel_rfl) (ex_store (of_ := 0) 4 [.int .i64 0, .string (str []), .int .i64 0, .int .i64 0] s rfl rfl (by kernel_rfl) (by kernel_rfl) (Try.sizeOf28 _) rfl (by simp [Value.oneCell']) (Nat.le_of_ble_eq_true rfl)) ?_
    clear ha; rintro w a s ha
    replace s : St W (Own 28 4 A3 ((out (byNum m) l).length) c4 (ws (out (byNum m) l)) :: .blk g [.bool true, .slice A ((left (byNum m) l).length) c] 62 :: Own 28 4 A ((left (byNum m) l).length) c (ws (left (byNum m) l)) :: star [.blk g1 [.int .i64 m] 3] :: .blk g2 [.int .i64 0, .string (str []), .int .i64 0, .int .i64 0] 28 :: L) w := s
    refine st_val (.bool false) ha (by kernel_rfl) (by kernel_rfl) ?_
    clear ha; intro a ha
    refine wpList_nil ?_
    refine then_normal ?_
    refine wp_ret ?_
    refine then_ret ?_
    refine ret_with (v := .tuple #[.agg #[.int .i64 0, .string (str []), .int .i64 0, .int .i64 0], .bool false]) ha (results_2 rfl ha (res_cellN (s.blkIs 4 rfl) (by kernel_rfl) (by kernel_rfl) Try.isAgg28 Try.sizeOf28 rfl) (res_tmp (by kernel_rfl) (by kernel_rfl))) ?_
    replace s := s.at_ (j := 2) rfl
    replace s : St W (Own 28 4 A ((left (byNum m) l).length) c (ws (left (byNum m) l)) :: Own 28 4 A3 ((out (byNum m) l).length) c4 (ws (out (byNum m) l)) :: .blk g [.bool true, .slice A ((left (byNum m) l).length) c] 62 :: star [.blk g1 [.int .i64 m] 3] :: .blk g2 [.int .i64 0, .string (str []), .int .i64 0, .int .i64 0] 28 :: L) w := s
    replace s := s.at_ (j := 2) rfl
    replace s : St W (.blk g [.bool true, .slice A ((left (byNum m) l).length) c] 62 :: Own 28 4 A ((left (byNum m) l).length) c (ws (left (byNum m) l)) :: Own 28 4 A3 ((out (byNum m) l).length) c4 (ws (out (byNum m) l)) :: star [.blk g1 [.int .i64 m] 3] :: .blk g2 [.int .i64 0, .string (str []), .int .i64 0, .int .i64 0] 28 :: L) w := s
    replace s : St W (.blk g [.bool true, .slice A ((left (byNum m) l).length) c] 62 :: Own 28 4 A ((left (byNum m) l).length) c (ws (left (byNum m) l)) :: L) w := St.mid (A := [.blk g [.bool true, .slice A ((left (byNum m) l).length) c] 62, Own 28 4 A ((left (byNum m) l).length) c (ws (left (byNum m) l))]) (B := [Own 28 4 A3 ((out (byNum m) l).length) c4 (ws (out (byNum m) l)), star [.blk g1 [.int .i64 m] 3], .blk g2 [.int .i64 0, .string (str []), .int .i64 0, .int .i64 0] 28]) s
    refine ⟨?_, s⟩
    rw [ho]
    rfl
  · rw [hb] at ha; have hb_ := hb; replace hb := ne_of_beq_false hb
    have hol : 0 < (out (byNum m) l).length := by omega
    obtain ⟨x, xs, ho⟩ := List.exists_cons_of_length_pos hol
    obtain ⟨ad, hA⟩ := Own.addr (s.at_ (j := 0) rfl) (by omega)
    subst hA
    refine wp_skip ?_
    refine then_normal ?_
    refine wp_seq ?_
    refine wp_region_lit ?_
    refine st_val (.slice (some ad) ((out (byNum m) l).length) c4) ha (by kernel_rfl) (by kernel_rfl) ?_
    clear ha; intro a ha
    refine st_val (.pointer (some (ad.add (0 * 4)))) ha (by kernel_rfl) (run_indexAddr' (kd := .i64) (i := 0) (n := ((out (byNum m) l).length)) (c := c4) 0 rfl Try.underlying37 Try.sizeOf28 (by kernel_rfl) (by kernel_rfl) rfl (by first | assumption | omega) _) ?_
    clear ha; intro a ha
    refine st_val (.agg #[.int .i64 x.num, .string (str x.key), .int .i64 x.waiter, .int .i64 x.holder]) ha (by kernel_rfl) (run_loadAtN (i := 0 * 4) [.int .i64 x.num, .string (str x.key), .int .i64 x.waiter, .int .i64 x.holder] ((Own.reads (s.at_ (j := 0) rfl).1)) rfl (by kernel_rfl) Try.isAgg28 Try.sizeOf28 (fun q_ hq_ => ws_at (show (out (byNum m) l)[0]? = some x from by rw [ho]; rfl) hq_) rfl) ?_
    clear ha; intro a ha
    refine st_exd ha (by kernel_rfl) (ex_store (of_ := 0) 4 [.int .i64 x.num, .string (str x.key), .int .i64 x.waiter, .int .i64 x.holder] s rfl rfl (by kernel_rfl) (by kernel_rfl) (Try.sizeOf28 _) rfl (by simp [Value.oneCell']) (Nat.le_of_ble_eq_true rfl)) ?_
    clear ha; rintro w a s ha
    replace s : St W (Own 28 4 (some ad) ((out (byNum m) l).length) c4 (ws (out (byNum m) l)) :: .blk g [.bool true, .slice A ((left (byNum m) l).length) c] 62 :: Own 28 4 A ((left (byNum m) l).length) c (ws (left (byNum m) l)) :: star [.blk g1 [.int .i64 m] 3] :: .blk g2 [.int .i64 x.num, .string (str x.key), .int .i64 x.waiter, .int .i64 x.holder] 28 :: L) w := s
    refine st_val (.bool true) ha (by kernel_rfl) (by kernel_rfl) ?_
    clear ha; intro a ha
    refine wpList_nil ?_
    refine then_normal ?_
    refine wp_ret ?_
    refine ret_with (v := .tuple #[.agg #[.int .i64 x.num, .string (str x.key), .int .i64 x.waiter, .int .i64 x.holder], .bool true]) ha (results_2 rfl ha (res_cellN (s.blkIs 4 rfl) (by kernel_rfl) (by kernel_rfl) Try.isAgg28 Try.sizeOf28 rfl) (res_tmp (by kernel_rfl) (by kernel_rfl))) ?_
    replace s := s.at_ (j := 2) rfl
    replace s : St W (Own 28 4 A ((left (byNum m) l).length) c (ws (left (byNum m) l)) :: Own 28 4 (some ad) ((out (byNum m) l).length) c4 (ws (out (byNum m) l)) :: .blk g [.bool true, .slice A ((left (byNum m) l).length) c] 62 :: star [.blk g1 [.int .i64 m] 3] :: .blk g2 [.int .i64 x.num, .string (str x.key), .int .i64 x.waiter, .int .i64 x.holder] 28 :: L) w := s
    replace s := s.at_ (j := 2) rfl
    replace s : St W (.blk g [.bool true, .slice A ((left (byNum m) l).length) c] 62 :: Own 28 4 A ((left (byNum m) l).length) c (ws (left (byNum m) l)) :: Own 28 4 (some ad) ((out (byNum m) l).length) c4 (ws (out (byNum m) l)) :: star [.blk g1 [.int .i64 m] 3] :: .blk g2 [.int .i64 x.num, .string (str x.key), .int .i64 x.waiter, .int .i64 x.holder] 28 :: L) w := s
    replace s : St W (.blk g [.bool true, .slice A ((left (byNum m) l).length) c] 62 :: Own 28 4 A ((left (byNum m) l).length) c (ws (left (byNum m) l)) :: L) w := St.mid (A := [.blk g [.bool true, .slice A ((left (byNum m) l).length) c] 62, Own 28 4 A ((left (byNum m) l).length) c (ws (left (byNum m) l))]) (B := [Own 28 4 (some ad) ((out (byNum m) l).length) c4 (ws (out (byNum m) l)), star [.blk g1 [.int .i64 m] 3], .blk g2 [.int .i64 x.num, .string (str x.key), .int .i64 x.waiter, .int .i64 x.holder] 28]) s
    refine ⟨?_, s⟩
    rw [ho]
    rfl

theorem len_made (W : World) (L : List Chunk) (w : World) (g : Nat) (A : Option Addr) (n c : Nat) (l : List Wt) (hl : l.length = n) (hn : n ≤ 100) (s : St W (.blk g [.bool true, .slice A n c] 62 :: Own 28 4 A n c (ws l) :: L) w) :
    Calls Try.prog 23 #[.pointer (some ⟨g, 0, none⟩)] w fun e w' => e = .returned (.int .i64 ((n : Nat) : Int)) ∧ St W (.blk g [.bool true, .slice A n c] 62 :: Own 28 4 A n c (ws l) :: L) w' := by
  refine enter_args (l := [.pointer (some ⟨g, 0, none⟩)]) Try.func23 rfl rfl (Nat.le_of_ble_eq_true rfl) ?_
  intro a ha; replace ha : Has a 10 [(0, .pointer (some ⟨g, 0, none⟩))] := ha
  refine wp_seq ?_
  refine wp_region_lit ?_
  refine st_val (.int .i64 0) ha (by kernel_rfl) (by kernel_rfl) ?_
  clear ha; intro a ha
  refine wpList_nil ?_
  refine then_normal ?_
  refine wp_seq ?_
  refine wp_seq ?_
  refine wp_region_lit ?_
  refine st_val (.pointer (some ⟨g, 0, none⟩)) ha (by kernel_rfl) (by kernel_rfl) ?_
  clear ha; intro a ha
  refine st_call ha (by kernel_rfl) (by kernel_rfl) (none_any W _ w g true A n c s) ?_
  rintro _ w ⟨rfl, s⟩
  replace s : St W (.blk g [.bool true, .slice A n c] 62 :: Own 28 4 A n c (ws l) :: L) w := s
  refine ⟨_, rfl, ?_⟩; clear ha; intro a ha
  refine wpList_nil ?_
  refine then_normal ?_
  refine wp_false ha rfl (by kernel_rfl) ?_
  refine wp_skip ?_
  refine then_normal ?_
  refine wp_seq ?_
  refine wp_region_lit ?_
  refine st_val (.pointer (some ⟨g, 0, none⟩)) ha (by kernel_rfl) (by kernel_rfl) ?_
  clear ha; intro a ha
  refine st_val (.pointer (some ⟨g, 0, none⟩)) ha (by kernel_rfl) (by kernel_rfl) ?_
  clear ha; intro a ha
  refine st_val (.pointer (some ⟨g, 1, none⟩)) ha (by kernel_rfl) (by kernel_rfl) ?_
  clear ha; intro a ha
  refine st_val (.slice A n c) ha (by kernel_rfl) (run_load1 (of_ := 1) (s.blkIs 0 rfl) rfl (by kernel_rfl) Try.isAgg37 rfl) ?_
  clear ha; intro a ha
  refine st_val (.int .i64 ((n : Nat) : Int)) ha (by kernel_rfl) (by kernel_rfl) ?_
  clear ha; intro a ha
  refine st_val (.int .i64 ((n : Nat) : Int)) ha (by kernel_rfl) (by kernel_rfl) ?_
  clear ha; intro a ha
  refine wpList_nil ?_
  refine then_normal ?_
  refine wp_ret ?_
  refine ret_with (v := .int .i64 ((n : Nat) : Int)) ha (results_1 rfl ha (res_tmp (by kernel_rfl) (by kernel_rfl))) ?_
  exact ⟨rfl, s⟩

theorem new_any (W : World) (L : List Chunk) (w : World) (s : St W L w) :
    Calls Try.prog 8 #[] w fun e w' => ∃ g, e = .returned (.pointer (some ⟨g, 0, none⟩)) ∧ St W (.blk g [.bool true, .slice none 0 0] 62 :: L) w' := by
  refine enter_args (l := []) Try.func8 rfl rfl (Nat.le_of_ble_eq_true rfl) ?_
  intro a ha; replace ha : Has a 3 [] := ha
  refine wp_seq ?_
  refine wp_region_lit ?_
  refine st_val (.pointer none) ha (by kernel_rfl) (by kernel_rfl) ?_
  clear ha; intro a ha
  refine wpList_nil ?_
  refine then_normal ?_
  refine wp_seq ?_
  refine wp_region_lit ?_
  refine st_val (.agg #[.bool true, .slice none 0 0]) ha (by kernel_rfl) (by kernel_rfl) ?_
  clear ha; intro a ha
  refine st_ex ha (by kernel_rfl) (ex_box [.bool true, .slice none 0 0] s rfl (by kernel_rfl)) ?_
  clear ha; rintro _ w a ⟨g1, rfl, s⟩ ha
  replace s : St W (.blk g1 [.bool true, .slice none 0 0] 62 :: L) w := s
  refine st_val (.pointer (some ⟨g1, 0, none⟩)) ha (by kernel_rfl) (by kernel_rfl) ?_
  clear ha; intro a ha
  refine wpList_nil ?_
  refine then_normal ?_
  refine wp_ret ?_
  refine ret_with (v := .pointer (some ⟨g1, 0, none⟩)) ha (results_1 rfl ha (res_tmp (by kernel_rfl) (by kernel_rfl))) ?_
  exact ⟨_, rfl, s⟩

theorem not_not {p : Prop} [Decidable p] : ¬ ¬ p ↔ p := Decidable.not_not
theorem add_made (W : World) (L : List Chunk) (w : World) (g : Nat) (A : Option Addr) (n c : Nat) (l : List Wt) (hl : l.length = n) (hn : n ≤ 100) (x : Wt) (s : St W (.blk g [.bool true, .slice A n c] 62 :: Own 28 4 A n c (ws l) :: L) w) :
    Calls Try.prog 18 #[.pointer (some ⟨g, 0, none⟩), .agg #[.int .i64 x.num, .string (str x.key), .int .i64 x.waiter, .int .i64 x.holder]] w fun e w' => ∃ A' c', e = .returned (.int .i64 (addCode x l)) ∧ St W (.blk g [.bool true, .slice A' (add x l).length c'] 62 :: Own 28 4 A' (add x l).length c' (ws (add x l)) :: L) w' := by
  refine enter_args (l := [.pointer (some ⟨g, 0, none⟩), .agg #[.int .i64 x.num, .string (str x.key), .int .i64 x.waiter, .int .i64 x.holder]]) Try.func18 rfl rfl (Nat.le_of_ble_eq_true rfl) ?_
  intro a ha; replace ha : Has a 56 [(0, .pointer (some ⟨g, 0, none⟩)), (1, .agg #[.int .i64 x.num, .string (str x.key), .int .i64 x.waiter, .int .i64 x.holder])] := ha
  refine wp_seq ?_
  refine wp_region_lit ?_
  refine st_ex ha (by kernel_rfl) (ex_box [.int .i64 x.num, .string (str x.key), .int .i64 x.waiter, .int .i64 x.holder] s rfl (by kernel_rfl)) ?_
  clear ha; rintro _ w a ⟨g1, rfl, s⟩ ha
  replace s : St W (.blk g1 [.int .i64 x.num, .string (str x.key), .int .i64 x.waiter, .int .i64 x.holder] 28 :: .blk g [.bool true, .slice A n c] 62 :: Own 28 4 A n c (ws l) :: L) w := s
  refine st_val (.int .i64 0) ha (by kernel_rfl) (by kernel_rfl) ?_
  clear ha; intro a ha
  refine wpList_nil ?_
  refine then_normal ?_
  refine wp_seq ?_
  refine wp_block ?_
  refine wp_seq ?_
  refine wp_region_lit ?_
  refine st_val (.pointer (some ⟨g, 0, none⟩)) ha (by kernel_rfl) (by kernel_rfl) ?_
  clear ha; intro a ha
  replace s := s.at_ (j := 1) rfl
  replace s : St W (.blk g [.bool true, .slice A n c] 62 :: .blk g1 [.int .i64 x.num, .string (str x.key), .int .i64 x.waiter, .int .i64 x.holder] 28 :: Own 28 4 A n c (ws l) :: L) w := s
  refine st_call ha (by kernel_rfl) (by kernel_rfl) (none_any W _ w g true A n c s) ?_
  rintro _ w ⟨rfl, s⟩
  replace s : St W (.blk g [.bool true, .slice A n c] 62 :: .blk g1 [.int .i64 x.num, .string (str x.key), .int .i64 x.waiter, .int .i64 x.holder] 28 :: Own 28 4 A n c (ws l) :: L) w := s
  refine ⟨_, rfl, ?_⟩; clear ha; intro a ha
  refine st_val (.bool false) ha (by kernel_rfl) (by kernel_rfl) ?_
  clear ha; intro a ha
  refine wpList_nil ?_
  refine then_normal ?_
  refine wp_false ha rfl (by kernel_rfl) ?_
  refine wp_seq ?_
  refine wp_region_lit ?_
  refine st_val (.pointer (some ⟨g1, 0, none⟩)) ha (by kernel_rfl) (by kernel_rfl) ?_
  clear ha; intro a ha
  refine st_val (.int .i64 x.num) ha (by kernel_rfl) (run_load1 (of_ := 0) (s.blkIs 1 rfl) rfl (by kernel_rfl) Try.isAgg3 rfl) ?_
  clear ha; intro a ha
  refine st_call ha (by kernel_rfl) (by kernel_rfl) (isId_any W _ w x.num s) ?_
  rintro _ w ⟨rfl, s⟩
  replace s : St W (.blk g [.bool true, .slice A n c] 62 :: .blk g1 [.int .i64 x.num, .string (str x.key), .int .i64 x.waiter, .int .i64 x.holder] 28 :: Own 28 4 A n c (ws l) :: L) w := s
  refine ⟨_, rfl, ?_⟩; clear ha; intro a ha
  refine st_val (.bool (!(isIdB x.num))) ha (by kernel_rfl) (by kernel_rfl) ?_
  clear ha; intro a ha
  refine st_val (.bool (!(isIdB x.num))) ha (by kernel_rfl) (by kernel_rfl) ?_
  clear ha; intro a ha
  rcases Bool.eq_false_or_eq_true (!(isIdB x.num)) with hb | hb
  · rw [hb] at ha; skip
    have h1 := hb
    refine st_pass ha (by kernel_rfl) ?_
    clear ha; intro a ha
    refine st_pass ha (by kernel_rfl) ?_
    clear ha; intro a ha
    refine st_pass ha (by kernel_rfl) ?_
    clear ha; intro a ha
    refine st_pass ha (by kernel_rfl) ?_
    clear ha; intro a ha
    refine st_val (.bool true) ha (by kernel_rfl) (by kernel_rfl) ?_
    clear ha; intro a ha
    refine st_val (.bool true) ha (by kernel_rfl) (by kernel_rfl) ?_
    clear ha; intro a ha
    refine st_pass ha (by kernel_rfl) ?_
    clear ha; intro a ha
    refine st_pass ha (by kernel_rfl) ?_
    clear ha; intro a ha
    refine st_pass ha (by kernel_rfl) ?_
    clear ha; intro a ha
    refine st_pass ha (by kernel_rfl) ?_
    clear ha; intro a ha
    refine st_val (.bool true) ha (by kernel_rfl) (by kernel_rfl) ?_
    clear ha; intro a ha
    refine st_val (.bool true) ha (by kernel_rfl) (by kernel_rfl) ?_
    clear ha; intro a ha
    refine st_pass ha (by kernel_rfl) ?_
    clear ha; intro a ha
    refine st_pass ha (by kernel_rfl) ?_
    clear ha; intro a ha
    refine st_pass ha (by kernel_rfl) ?_
    clear ha; intro a ha
    refine st_pass ha (by kernel_rfl) ?_
    clear ha; intro a ha
    refine st_pass ha (by kernel_rfl) ?_
    clear ha; intro a ha
    refine st_val (.bool true) ha (by kernel_rfl) (by kernel_rfl) ?_
    clear ha; intro a ha
    refine st_val (.bool true) ha (by kernel_rfl) (by kernel_rfl) ?_
    clear ha; intro a ha
    refine wpList_nil ?_
    refine then_normal ?_
    refine wp_true ha rfl (by kernel_rfl) ?_
    refine wp_seq ?_
    refine wp_region_lit ?_
    refine st_val (.int .i64 2) ha (by kernel_rfl) (by kernel_rfl) ?_
    clear ha; intro a ha
    refine wpList_nil ?_
    refine then_normal ?_
    refine wp_ret ?_
    refine block_ret ?_
    refine then_ret ?_
    refine ret_with (v := .int .i64 2) ha (results_1 rfl ha (res_tmp (by kernel_rfl) (by kernel_rfl))) ?_
    replace s := s.at_ (j := 2) rfl
    replace s : St W (Own 28 4 A n c (ws l) :: .blk g [.bool true, .slice A n c] 62 :: .blk g1 [.int .i64 x.num, .string (str x.key), .int .i64 x.waiter, .int .i64 x.holder] 28 :: L) w := s
    replace s := s.at_ (j := 1) rfl
    replace s : St W (.blk g [.bool true, .slice A n c] 62 :: Own 28 4 A n c (ws l) :: .blk g1 [.int .i64 x.num, .string (str x.key), .int .i64 x.waiter, .int .i64 x.holder] 28 :: L) w := s
    replace s : St W (.blk g [.bool true, .slice A n c] 62 :: Own 28 4 A n c (ws l) :: L) w := St.mid (A := [.blk g [.bool true, .slice A n c] 62, Own 28 4 A n c (ws l)]) (B := [.blk g1 [.int .i64 x.num, .string (str x.key), .int .i64 x.waiter, .int .i64 x.holder] 28]) s
    have hc : addCode x l = 2 := by unfold addCode; rw [if_pos (by intro h; unfold okW at h; simp_all)]
    refine ⟨A, c, by rw [hc], ?_⟩
    unfold add
    rw [if_neg (by rw [hc]; simp), hl]
    exact s
  · rw [hb] at ha; skip
    have h1 := hb
    refine st_val (.pointer (some ⟨g1, 2, none⟩)) ha (by kernel_rfl) (by kernel_rfl) ?_
    clear ha; intro a ha
    refine st_val (.int .i64 x.waiter) ha (by kernel_rfl) (run_load1 (of_ := 2) (s.blkIs 1 rfl) rfl (by kernel_rfl) Try.isAgg3 rfl) ?_
    clear ha; intro a ha
    refine st_call ha (by kernel_rfl) (by kernel_rfl) (isId_any W _ w x.waiter s) ?_
    rintro _ w ⟨rfl, s⟩
    replace s : St W (.blk g [.bool true, .slice A n c] 62 :: .blk g1 [.int .i64 x.num, .string (str x.key), .int .i64 x.waiter, .int .i64 x.holder] 28 :: Own 28 4 A n c (ws l) :: L) w := s
    refine ⟨_, rfl, ?_⟩; clear ha; intro a ha
    refine st_val (.bool (!(isIdB x.waiter))) ha (by kernel_rfl) (by kernel_rfl) ?_
    clear ha; intro a ha
    refine st_val (.bool (!(isIdB x.waiter))) ha (by kernel_rfl) (by kernel_rfl) ?_
    clear ha; intro a ha
    refine st_val (.bool (!(isIdB x.waiter))) ha (by kernel_rfl) (by kernel_rfl) ?_
    clear ha; intro a ha
    rcases Bool.eq_false_or_eq_true (!(isIdB x.waiter)) with hb | hb
    · rw [hb] at ha; skip
      have h2 := hb
      refine st_pass ha (by kernel_rfl) ?_
      clear ha; intro a ha
      refine st_pass ha (by kernel_rfl) ?_
      clear ha; intro a ha
      refine st_pass ha (by kernel_rfl) ?_
      clear ha; intro a ha
      refine st_pass ha (by kernel_rfl) ?_
      clear ha; intro a ha
      refine st_val (.bool true) ha (by kernel_rfl) (by kernel_rfl) ?_
      clear ha; intro a ha
      refine st_val (.bool true) ha (by kernel_rfl) (by kernel_rfl) ?_
      clear ha; intro a ha
      refine st_pass ha (by kernel_rfl) ?_
      clear ha; intro a ha
      refine st_pass ha (by kernel_rfl) ?_
      clear ha; intro a ha
      refine st_pass ha (by kernel_rfl) ?_
      clear ha; intro a ha
      refine st_pass ha (by kernel_rfl) ?_
      clear ha; intro a ha
      refine st_pass ha (by kernel_rfl) ?_
      clear ha; intro a ha
      refine st_val (.bool true) ha (by kernel_rfl) (by kernel_rfl) ?_
      clear ha; intro a ha
      refine st_val (.bool true) ha (by kernel_rfl) (by kernel_rfl) ?_
      clear ha; intro a ha
      refine wpList_nil ?_
      refine then_normal ?_
      refine wp_true ha rfl (by kernel_rfl) ?_
      refine wp_seq ?_
      refine wp_region_lit ?_
      refine st_val (.int .i64 2) ha (by kernel_rfl) (by kernel_rfl) ?_
      clear ha; intro a ha
      refine wpList_nil ?_
      refine then_normal ?_
      refine wp_ret ?_
      refine block_ret ?_
      refine then_ret ?_
      refine ret_with (v := .int .i64 2) ha (results_1 rfl ha (res_tmp (by kernel_rfl) (by kernel_rfl))) ?_
      replace s := s.at_ (j := 2) rfl
      replace s : St W (Own 28 4 A n c (ws l) :: .blk g [.bool true, .slice A n c] 62 :: .blk g1 [.int .i64 x.num, .string (str x.key), .int .i64 x.waiter, .int .i64 x.holder] 28 :: L) w := s
      replace s := s.at_ (j := 1) rfl
      replace s : St W (.blk g [.bool true, .slice A n c] 62 :: Own 28 4 A n c (ws l) :: .blk g1 [.int .i64 x.num, .string (str x.key), .int .i64 x.waiter, .int .i64 x.holder] 28 :: L) w := s
      replace s : St W (.blk g [.bool true, .slice A n c] 62 :: Own 28 4 A n c (ws l) :: L) w := St.mid (A := [.blk g [.bool true, .slice A n c] 62, Own 28 4 A n c (ws l)]) (B := [.blk g1 [.int .i64 x.num, .string (str x.key), .int .i64 x.waiter, .int .i64 x.holder] 28]) s
      have hc : addCode x l = 2 := by unfold addCode; rw [if_pos (by intro h; unfold okW at h; simp_all)]
      refine ⟨A, c, by rw [hc], ?_⟩
      unfold add
      rw [if_neg (by rw [hc]; simp), hl]
      exact s
    · rw [hb] at ha; skip
      have h2 := hb
      refine st_val (.pointer (some ⟨g1, 3, none⟩)) ha (by kernel_rfl) (by kernel_rfl) ?_
      clear ha; intro a ha
      refine st_val (.int .i64 x.holder) ha (by kernel_rfl) (run_load1 (of_ := 3) (s.blkIs 1 rfl) rfl (by kernel_rfl) Try.isAgg3 rfl) ?_
      clear ha; intro a ha
      refine st_call ha (by kernel_rfl) (by kernel_rfl) (isId_any W _ w x.holder s) ?_
      rintro _ w ⟨rfl, s⟩
      replace s : St W (.blk g [.bool true, .slice A n c] 62 :: .blk g1 [.int .i64 x.num, .string (str x.key), .int .i64 x.waiter, .int .i64 x.holder] 28 :: Own 28 4 A n c (ws l) :: L) w := s
      refine ⟨_, rfl, ?_⟩; clear ha; intro a ha
      refine st_val (.bool (!(isIdB x.holder))) ha (by kernel_rfl) (by kernel_rfl) ?_
      clear ha; intro a ha
      refine st_val (.bool (!(isIdB x.holder))) ha (by kernel_rfl) (by kernel_rfl) ?_
      clear ha; intro a ha
      refine st_val (.bool (!(isIdB x.holder))) ha (by kernel_rfl) (by kernel_rfl) ?_
      clear ha; intro a ha
      rcases Bool.eq_false_or_eq_true (!(isIdB x.holder)) with hb | hb
      · rw [hb] at ha; skip
        have h3 := hb
        refine st_pass ha (by kernel_rfl) ?_
        clear ha; intro a ha
        refine st_pass ha (by kernel_rfl) ?_
        clear ha; intro a ha
        refine st_pass ha (by kernel_rfl) ?_
        clear ha; intro a ha
        refine st_pass ha (by kernel_rfl) ?_
        clear ha; intro a ha
        refine st_pass ha (by kernel_rfl) ?_
        clear ha; intro a ha
        refine st_val (.bool true) ha (by kernel_rfl) (by kernel_rfl) ?_
        clear ha; intro a ha
        refine st_val (.bool true) ha (by kernel_rfl) (by kernel_rfl) ?_
        clear ha; intro a ha
        refine wpList_nil ?_
        refine then_normal ?_
        refine wp_true ha rfl (by kernel_rfl) ?_
        refine wp_seq ?_
        refine wp_region_lit ?_
        refine st_val (.int .i64 2) ha (by kernel_rfl) (by kernel_rfl) ?_
        clear ha; intro a ha
        refine wpList_nil ?_
        refine then_normal ?_
        refine wp_ret ?_
        refine block_ret ?_
        refine then_ret ?_
        refine ret_with (v := .int .i64 2) ha (results_1 rfl ha (res_tmp (by kernel_rfl) (by kernel_rfl))) ?_
        replace s := s.at_ (j := 2) rfl
        replace s : St W (Own 28 4 A n c (ws l) :: .blk g [.bool true, .slice A n c] 62 :: .blk g1 [.int .i64 x.num, .string (str x.key), .int .i64 x.waiter, .int .i64 x.holder] 28 :: L) w := s
        replace s := s.at_ (j := 1) rfl
        replace s : St W (.blk g [.bool true, .slice A n c] 62 :: Own 28 4 A n c (ws l) :: .blk g1 [.int .i64 x.num, .string (str x.key), .int .i64 x.waiter, .int .i64 x.holder] 28 :: L) w := s
        replace s : St W (.blk g [.bool true, .slice A n c] 62 :: Own 28 4 A n c (ws l) :: L) w := St.mid (A := [.blk g [.bool true, .slice A n c] 62, Own 28 4 A n c (ws l)]) (B := [.blk g1 [.int .i64 x.num, .string (str x.key), .int .i64 x.waiter, .int .i64 x.holder] 28]) s
        have hc : addCode x l = 2 := by unfold addCode; rw [if_pos (by intro h; unfold okW at h; simp_all)]
        refine ⟨A, c, by rw [hc], ?_⟩
        unfold add
        rw [if_neg (by rw [hc]; simp), hl]
        exact s
      · rw [hb] at ha; skip
        have h3 := hb
        refine st_val (.pointer (some ⟨g1, 2, none⟩)) ha (by kernel_rfl) (by kernel_rfl) ?_
        clear ha; intro a ha
        refine st_val (.int .i64 x.waiter) ha (by kernel_rfl) (run_load1 (of_ := 2) (s.blkIs 1 rfl) rfl (by kernel_rfl) Try.isAgg3 rfl) ?_
        clear ha; intro a ha
        refine st_val (.pointer (some ⟨g1, 3, none⟩)) ha (by kernel_rfl) (by kernel_rfl) ?_
        clear ha; intro a ha
        refine st_val (.int .i64 x.holder) ha (by kernel_rfl) (run_load1 (of_ := 3) (s.blkIs 1 rfl) rfl (by kernel_rfl) Try.isAgg3 rfl) ?_
        clear ha; intro a ha
        refine st_val (.bool (x.waiter == x.holder)) ha (by kernel_rfl) (by kernel_rfl) ?_
        clear ha; intro a ha
        refine st_val (.bool (x.waiter == x.holder)) ha (by kernel_rfl) (by kernel_rfl) ?_
        clear ha; intro a ha
        refine st_val (.bool (x.waiter == x.holder)) ha (by kernel_rfl) (by kernel_rfl) ?_
        clear ha; intro a ha
        refine wpList_nil ?_
        refine then_normal ?_
        refine wp_part (x.waiter == x.holder) ha rfl (by kernel_rfl) (fun hb => ?_) (fun hb => ?_)
        · rw [hb] at ha; have hb_ := hb; replace hb := eq_of_beq hb
          have h4 := hb
          refine wp_seq ?_
          refine wp_region_lit ?_
          refine st_val (.int .i64 2) ha (by kernel_rfl) (by kernel_rfl) ?_
          clear ha; intro a ha
          refine wpList_nil ?_
          refine then_normal ?_
          refine wp_ret ?_
          refine block_ret ?_
          refine then_ret ?_
          refine ret_with (v := .int .i64 2) ha (results_1 rfl ha (res_tmp (by kernel_rfl) (by kernel_rfl))) ?_
          replace s := s.at_ (j := 2) rfl
          replace s : St W (Own 28 4 A n c (ws l) :: .blk g [.bool true, .slice A n c] 62 :: .blk g1 [.int .i64 x.num, .string (str x.key), .int .i64 x.waiter, .int .i64 x.holder] 28 :: L) w := s
          replace s := s.at_ (j := 1) rfl
          replace s : St W (.blk g [.bool true, .slice A n c] 62 :: Own 28 4 A n c (ws l) :: .blk g1 [.int .i64 x.num, .string (str x.key), .int .i64 x.waiter, .int .i64 x.holder] 28 :: L) w := s
          replace s : St W (.blk g [.bool true, .slice A n c] 62 :: Own 28 4 A n c (ws l) :: L) w := St.mid (A := [.blk g [.bool true, .slice A n c] 62, Own 28 4 A n c (ws l)]) (B := [.blk g1 [.int .i64 x.num, .string (str x.key), .int .i64 x.waiter, .int .i64 x.holder] 28]) s
          have hc : addCode x l = 2 := by unfold addCode; rw [if_pos (by intro h; unfold okW at h; simp_all)]
          refine ⟨A, c, by rw [hc], ?_⟩
          unfold add
          rw [if_neg (by rw [hc]; simp), hl]
          exact s
        · rw [hb] at ha; have hb_ := hb; replace hb := ne_of_beq_false hb
          have h4 := hb
          refine wp_seq ?_
          refine wp_region_lit ?_
          refine st_val (.pointer (some ⟨g, 0, none⟩)) ha (by kernel_rfl) (by kernel_rfl) ?_
          clear ha; intro a ha
          refine st_val (.pointer (some ⟨g, 0, none⟩)) ha (by kernel_rfl) (by kernel_rfl) ?_
          clear ha; intro a ha
          refine st_val (.pointer (some ⟨g, 1, none⟩)) ha (by kernel_rfl) (by kernel_rfl) ?_
          clear ha; intro a ha
          refine st_val (.slice A n c) ha (by kernel_rfl) (run_load1 (of_ := 1) (s.blkIs 0 rfl) rfl (by kernel_rfl) Try.isAgg37 rfl) ?_
          clear ha; intro a ha
          refine st_val (.func (.func 36) #[] #[.pointer (some ⟨g1, 0, none⟩)]) ha (by kernel_rfl) (by kernel_rfl) ?_
          clear ha; intro a ha
          replace s := s.at_ (j := 1) rfl
          replace s : St W (.blk g1 [.int .i64 x.num, .string (str x.key), .int .i64 x.waiter, .int .i64 x.holder] 28 :: .blk g [.bool true, .slice A n c] 62 :: Own 28 4 A n c (ws l) :: L) w := s
          replace s := (St.star (A := [.blk g1 [.int .i64 x.num, .string (str x.key), .int .i64 x.waiter, .int .i64 x.holder] 28])).2 s
          replace s : St W (star [.blk g1 [.int .i64 x.num, .string (str x.key), .int .i64 x.waiter, .int .i64 x.holder] 28] :: .blk g [.bool true, .slice A n c] 62 :: Own 28 4 A n c (ws l) :: L) w := s
          refine st_call ha (by kernel_rfl) (by kernel_rfl) (contains_any W _ w A n c l (Knows.own (j := 1) rfl) hl hn 36 #[.pointer (some ⟨g1, 0, none⟩)] (fun y => decide (y.num = x.num)) (fun _ => star [.blk g1 (wc x) 28]) enters36 (asks36 g1 x) s) ?_
          rintro _ w ⟨j, rfl, s⟩
          replace s := St.star.1 s
          replace s : St W (.blk g1 [.int .i64 x.num, .string (str x.key), .int .i64 x.waiter, .int .i64 x.holder] 28 :: .blk g [.bool true, .slice A n c] 62 :: Own 28 4 A n c (ws l) :: L) w := s
          refine ⟨_, rfl, ?_⟩; clear ha; intro a ha
          refine st_val (.bool (has x l)) ha (by kernel_rfl) (by kernel_rfl) ?_
          clear ha; intro a ha
          refine wpList_nil ?_
          refine then_normal ?_
          refine wp_part (has x l) ha rfl (by kernel_rfl) (fun hb => ?_) (fun hb => ?_)
          · rw [hb] at ha; skip
            have h5 := hb
            refine wp_seq ?_
            refine wp_region_lit ?_
            refine st_val (.int .i64 2) ha (by kernel_rfl) (by kernel_rfl) ?_
            clear ha; intro a ha
            refine wpList_nil ?_
            refine then_normal ?_
            refine wp_ret ?_
            refine block_ret ?_
            refine then_ret ?_
            refine ret_with (v := .int .i64 2) ha (results_1 rfl ha (res_tmp (by kernel_rfl) (by kernel_rfl))) ?_
            replace s := s.at_ (j := 2) rfl
            replace s : St W (Own 28 4 A n c (ws l) :: .blk g1 [.int .i64 x.num, .string (str x.key), .int .i64 x.waiter, .int .i64 x.holder] 28 :: .blk g [.bool true, .slice A n c] 62 :: L) w := s
            replace s := s.at_ (j := 2) rfl
            replace s : St W (.blk g [.bool true, .slice A n c] 62 :: Own 28 4 A n c (ws l) :: .blk g1 [.int .i64 x.num, .string (str x.key), .int .i64 x.waiter, .int .i64 x.holder] 28 :: L) w := s
            replace s : St W (.blk g [.bool true, .slice A n c] 62 :: Own 28 4 A n c (ws l) :: L) w := St.mid (A := [.blk g [.bool true, .slice A n c] 62, Own 28 4 A n c (ws l)]) (B := [.blk g1 [.int .i64 x.num, .string (str x.key), .int .i64 x.waiter, .int .i64 x.holder] 28]) s
            have hc : addCode x l = 2 := by unfold addCode; rw [if_neg (not_not.2 (show okW x from ⟨by simpa using h1, by simpa using h2, by simpa using h3, by simpa using h4⟩)), if_pos h5]
            refine ⟨A, c, by rw [hc], ?_⟩
            unfold add
            rw [if_neg (by rw [hc]; simp), hl]
            exact s
          · rw [hb] at ha; skip
            have h5 := hb
            refine wp_seq ?_
            refine wp_region_lit ?_
            refine st_val (.pointer (some ⟨g, 0, none⟩)) ha (by kernel_rfl) (by kernel_rfl) ?_
            clear ha; intro a ha
            refine st_val (.pointer (some ⟨g, 0, none⟩)) ha (by kernel_rfl) (by kernel_rfl) ?_
            clear ha; intro a ha
            refine st_val (.pointer (some ⟨g, 1, none⟩)) ha (by kernel_rfl) (by kernel_rfl) ?_
            clear ha; intro a ha
            refine st_val (.slice A n c) ha (by kernel_rfl) (run_load1 (of_ := 1) (s.blkIs 1 rfl) rfl (by kernel_rfl) Try.isAgg37 rfl) ?_
            clear ha; intro a ha
            refine st_val (.int .i64 ((n : Nat) : Int)) ha (by kernel_rfl) (by kernel_rfl) ?_
            clear ha; intro a ha
            refine st_val (.bool (decide (((n : Nat) : Int) ≥ (64 : Int)))) ha (by kernel_rfl) (by kernel_rfl) ?_
            clear ha; intro a ha
            refine st_val (.bool (decide (((n : Nat) : Int) ≥ (64 : Int)))) ha (by kernel_rfl) (by kernel_rfl) ?_
            clear ha; intro a ha
            refine wpList_nil ?_
            refine then_normal ?_
            refine wp_part (decide (((n : Nat) : Int) ≥ (64 : Int))) ha rfl (by kernel_rfl) (fun hb => ?_) (fun hb => ?_)
            · rw [hb] at ha; replace hb : (((n : Nat) : Int) ≥ (64 : Int)) := of_decide_eq_true hb
              refine wp_seq ?_
              refine wp_region_lit ?_
              refine st_val (.int .i64 7) ha (by kernel_rfl) (by kernel_rfl) ?_
              clear ha; intro a ha
              refine wpList_nil ?_
              refine then_normal ?_
              refine wp_ret ?_
              refine block_ret ?_
              refine then_ret ?_
              refine ret_with (v := .int .i64 7) ha (results_1 rfl ha (res_tmp (by kernel_rfl) (by kernel_rfl))) ?_
              replace s := s.at_ (j := 2) rfl
              replace s : St W (Own 28 4 A n c (ws l) :: .blk g1 [.int .i64 x.num, .string (str x.key), .int .i64 x.waiter, .int .i64 x.holder] 28 :: .blk g [.bool true, .slice A n c] 62 :: L) w := s
              replace s := s.at_ (j := 2) rfl
              replace s : St W (.blk g [.bool true, .slice A n c] 62 :: Own 28 4 A n c (ws l) :: .blk g1 [.int .i64 x.num, .string (str x.key), .int .i64 x.waiter, .int .i64 x.holder] 28 :: L) w := s
              replace s : St W (.blk g [.bool true, .slice A n c] 62 :: Own 28 4 A n c (ws l) :: L) w := St.mid (A := [.blk g [.bool true, .slice A n c] 62, Own 28 4 A n c (ws l)]) (B := [.blk g1 [.int .i64 x.num, .string (str x.key), .int .i64 x.waiter, .int .i64 x.holder] 28]) s
              have hc : addCode x l = 7 := by unfold addCode; rw [if_neg (not_not.2 (show okW x from ⟨by simpa using h1, by simpa using h2, by simpa using h3, by simpa using h4⟩)), if_neg (by rw [h5]; simp), if_pos (by omega)]
              refine ⟨A, c, by rw [hc], ?_⟩
              unfold add
              rw [if_neg (by rw [hc]; simp), hl]
              exact s
            · rw [hb] at ha; replace hb : ¬ (((n : Nat) : Int) ≥ (64 : Int)) := of_decide_eq_false hb
              refine wp_skip ?_
              refine block_normal ?_
              refine then_normal ?_
              refine wp_seq ?_
              refine wp_region_head 8 (fun w => BlkIs g [.bool true, .slice A n c] w ∧ BlkIs g1 [.int .i64 x.num, .string (str x.key), .int .i64 x.waiter, .int .i64 x.holder] w ∧ True) (by kernel_rfl) (by decide) ?_
              replace s := s.drew; generalize _root_.Go.World.drew _ = w at s ⊢
              have hS : (fun w => BlkIs g [.bool true, .slice A n c] w ∧ BlkIs g1 [.int .i64 x.num, .string (str x.key), .int .i64 x.waiter, .int .i64 x.holder] w ∧ True) w := ⟨s.blkIs 1 rfl, s.blkIs 0 rfl, trivial⟩
              refine hd_val (i := 0) (.pointer (some ⟨g, 0, none⟩)) ha rfl (by kernel_rfl) (fun _ _ _ h => h) (by kernel_rfl) (fun w hS => (by kernel_rfl)) hS ?_
              clear ha; intro a ha
              refine hd_val (i := 1) (.pointer (some ⟨g, 0, none⟩)) ha rfl (by kernel_rfl) (fun _ _ _ h => h) (by kernel_rfl) (fun w hS => (by kernel_rfl)) hS ?_
              clear ha; intro a ha
              refine hd_val (i := 2) (.pointer (some ⟨g, 0, none⟩)) ha rfl (by kernel_rfl) (fun _ _ _ h => h) (by kernel_rfl) (fun w hS => (by kernel_rfl)) hS ?_
              clear ha; intro a ha
              refine hd_val (i := 3) (.pointer (some ⟨g, 1, none⟩)) ha rfl (by kernel_rfl) (fun _ _ _ h => h) (by kernel_rfl) (fun w hS => (by kernel_rfl)) hS ?_
              clear ha; intro a ha
              refine hd_val (i := 4) (.slice A n c) ha rfl (by kernel_rfl) (fun _ _ _ h => h) (by kernel_rfl) (fun w hS => run_load1 (of_ := 1) hS.1 rfl (by kernel_rfl) Try.isAgg37 rfl) hS ?_
              clear ha; intro a ha
              refine hd_val (i := 5) (.agg #[.int .i64 x.num, .string (str x.key), .int .i64 x.waiter, .int .i64 x.holder]) ha rfl (by kernel_rfl) (fun _ _ _ h => h) (by kernel_rfl) (fun w hS => run_loadN (of_ := 0) [.int .i64 x.num, .string (str x.key), .int .i64 x.waiter, .int .i64 x.holder] hS.2.1 rfl (by kernel_rfl) Try.isAgg28 Try.sizeOf28 rfl (Nat.le_of_ble_eq_true rfl)) hS ?_
              clear ha; intro a ha
              refine hd_ex (i := 6) ha rfl (by kernel_rfl) (by kernel_rfl) (ex_buildSlice elt37 _ zs37 [.int .i64 x.num, .string (str x.key), .int .i64 x.waiter, .int .i64 x.holder] s rfl (by kernel_rfl) (by decide)) ?_
              clear hS; rintro _ w ⟨g2, rfl, s⟩
              replace s : St W (.blk g2 [.int .i64 x.num, .string (str x.key), .int .i64 x.waiter, .int .i64 x.holder] 28 :: .blk g1 [.int .i64 x.num, .string (str x.key), .int .i64 x.waiter, .int .i64 x.holder] 28 :: .blk g [.bool true, .slice A n c] 62 :: Own 28 4 A n c (ws l) :: L) w := s
              have hS : (fun w => BlkIs g [.bool true, .slice A n c] w ∧ BlkIs g1 [.int .i64 x.num, .string (str x.key), .int .i64 x.waiter, .int .i64 x.holder] w ∧ True) w := ⟨s.blkIs 2 rfl, s.blkIs 1 rfl, trivial⟩
              refine ⟨hS, ?_⟩; clear ha; intro a ha
              refine hd_ex (i := 7) ha rfl (by kernel_rfl) (by kernel_rfl) (ex_append (m := 1) (d' := 1) elt37 (by decide) 3 [.int .i64 x.num, .string (str x.key), .int .i64 x.waiter, .int .i64 x.holder] s rfl (by kernel_rfl) (by kernel_rfl) rfl (reads_blk (s.blkIs 0 rfl) rfl) (by simp [Value.oneCell']) (by simp only [maxLen]; omega) (by omega)) ?_
              clear hS; rintro _ w ⟨A3, c4, rfl, hA_, s⟩
              replace s : St W (.blk g2 [.int .i64 x.num, .string (str x.key), .int .i64 x.waiter, .int .i64 x.holder] 28 :: .blk g1 [.int .i64 x.num, .string (str x.key), .int .i64 x.waiter, .int .i64 x.holder] 28 :: .blk g [.bool true, .slice A n c] 62 :: Own 28 4 A3 (n + 1) c4 ((ws l) ++ [.int .i64 x.num, .string (str x.key), .int .i64 x.waiter, .int .i64 x.holder]) :: L) w := s
              have hS : (fun w => BlkIs g [.bool true, .slice A n c] w ∧ BlkIs g1 [.int .i64 x.num, .string (str x.key), .int .i64 x.waiter, .int .i64 x.holder] w ∧ True) w := ⟨s.blkIs 2 rfl, s.blkIs 1 rfl, trivial⟩
              refine ⟨hS, ?_⟩; clear ha; intro a ha
              refine Head.done (by kernel_rfl) ?_
              clear hS; simp only [List.drop_succ_cons, List.drop_zero]
              refine st_val (.pointer (some ⟨g, 0, none⟩)) ha (by kernel_rfl) (by kernel_rfl) ?_
              clear ha; intro a ha
              refine st_val (.pointer (some ⟨g, 1, none⟩)) ha (by kernel_rfl) (by kernel_rfl) ?_
              clear ha; intro a ha
              refine st_exd ha (by kernel_rfl) (ex_store (of_ := 1) 2 [.slice A3 (n + 1) c4] s rfl rfl (by kernel_rfl) (by kernel_rfl) (Try.sizeOf37 _) rfl (by simp [Value.oneCell']) (Nat.le_of_ble_eq_true rfl)) ?_
              clear ha; rintro w a s ha
              replace s : St W (.blk g2 [.int .i64 x.num, .string (str x.key), .int .i64 x.waiter, .int .i64 x.holder] 28 :: .blk g1 [.int .i64 x.num, .string (str x.key), .int .i64 x.waiter, .int .i64 x.holder] 28 :: .blk g [.bool true, .slice A3 (n + 1) c4] 62 :: Own 28 4 A3 (n + 1) c4 ((ws l) ++ [.int .i64 x.num, .string (str x.key), .int .i64 x.waiter, .int .i64 x.holder]) :: L) w := s
              refine wpList_nil ?_
              refine then_normal ?_
              refine wp_seq ?_
              refine wp_region_lit ?_
              refine st_val (.int .i64 0) ha (by kernel_rfl) (by kernel_rfl) ?_
              clear ha; intro a ha
              refine wpList_nil ?_
              refine then_normal ?_
              refine wp_ret ?_
              refine ret_with (v := .int .i64 0) ha (results_1 rfl ha (res_tmp (by kernel_rfl) (by kernel_rfl))) ?_
              replace s := s.at_ (j := 3) rfl
              replace s : St W (Own 28 4 A3 (n + 1) c4 ((ws l) ++ [.int .i64 x.num, .string (str x.key), .int .i64 x.waiter, .int .i64 x.holder]) :: .blk g2 [.int .i64 x.num, .string (str x.key), .int .i64 x.waiter, .int .i64 x.holder] 28 :: .blk g1 [.int .i64 x.num, .string (str x.key), .int .i64 x.waiter, .int .i64 x.holder] 28 :: .blk g [.bool true, .slice A3 (n + 1) c4] 62 :: L) w := s
              replace s := s.at_ (j := 3) rfl
              replace s : St W (.blk g [.bool true, .slice A3 (n + 1) c4] 62 :: Own 28 4 A3 (n + 1) c4 ((ws l) ++ [.int .i64 x.num, .string (str x.key), .int .i64 x.waiter, .int .i64 x.holder]) :: .blk g2 [.int .i64 x.num, .string (str x.key), .int .i64 x.waiter, .int .i64 x.holder] 28 :: .blk g1 [.int .i64 x.num, .string (str x.key), .int .i64 x.waiter, .int .i64 x.holder] 28 :: L) w := s
              replace s : St W (.blk g [.bool true, .slice A3 (n + 1) c4] 62 :: Own 28 4 A3 (n + 1) c4 ((ws l) ++ [.int .i64 x.num, .string (str x.key), .int .i64 x.waiter, .int .i64 x.holder]) :: L) w := St.mid (A := [.blk g [.bool true, .slice A3 (n + 1) c4] 62, Own 28 4 A3 (n + 1) c4 ((ws l) ++ [.int .i64 x.num, .string (str x.key), .int .i64 x.waiter, .int .i64 x.holder])]) (B := [.blk g2 [.int .i64 x.num, .string (str x.key), .int .i64 x.waiter, .int .i64 x.holder] 28, .blk g1 [.int .i64 x.num, .string (str x.key), .int .i64 x.waiter, .int .i64 x.holder] 28]) s
              have ha0 := add_yes (show okW x from ⟨by simpa using h1, by simpa using h2, by simpa using h3, by simpa using h4⟩) h5 (by omega : l.length < 64)
              refine ⟨A3, c4, by rw [ha0.1], ?_⟩
              rw [ha0.2, List.length_append, hl, ws_append]
              exact s

end Go.Proofs.Ytlkoppmenpeepaa.B
