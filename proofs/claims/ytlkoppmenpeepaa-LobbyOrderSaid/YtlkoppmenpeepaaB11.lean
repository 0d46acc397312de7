import Derived.Test.YtlkoppmenpeepaaB12
namespace Go.Proofs.Ytlkoppmenpeepaa.B
open Go.RowKit Go.Maps Go.Sort Go.Shelf Go.Proofs.Ytlkoppmenpeepaa.Sep Go.Proofs.Ytlkoppmenpeepaa.P
set_option linter.unusedVariables false
set_option linter.unusedSimpArgs false
abbrev ints (l : List Int) : List Value := l.map (.int .i64)
theorem ints_at {l : List Int} {k : Nat} {x : Int} (h : l[k]? = some x) : (ints l)[k]? = some (.int .i64 x) := by simp [ints, h]
def nums (l : List Wt) : List Int := l.map (·.num)
/-- The key that is told by a number. -/
def kk (r : Int) : List UInt8 := if r = 0 then [] else if r = 1 then [97] else [98]
def isK (r : Int) (l : List Wt) : List Wt := out (byKey (kk r) 1) l
def isR (r : Int) (l : List Wt) : List Wt := out (byHolder 1) (left (byKey (kk r) 1) l)
theorem isK_snoc (r : Int) (l : List Wt) (x : Wt) : isK r (l ++ [x]) = if byKey (kk r) 1 x then isK r l ++ [x] else isK r l := out_snoc _ _ _
theorem isR_snoc (r : Int) (l : List Wt) (x : Wt) : isR r (l ++ [x]) = if byKey (kk r) 1 x then isR r l else if byHolder 1 x then isR r l ++ [x] else isR r l := by
  unfold isR left
  rw [List.filter_append]
  cases h : byKey (kk r) 1 x
  · simp [h, out_snoc]
  · simp [h]
theorem isK_le (r : Int) (l : List Wt) : (isK r l).length ≤ l.length := out_le _ _
theorem isR_le (r : Int) (l : List Wt) : (isR r l).length ≤ l.length := Nat.le_trans (out_le _ _) (left_le _ _)
theorem none_left (l : List Wt) : out (byHolder 1) (left (byHolder 1) l) = [] := by
  unfold out left
  rw [List.filter_filter]
  apply List.filter_eq_nil_iff.2
  intro x _
  simp

theorem told_any (W : World) (L : List Chunk) (w : World) (A B : Option Addr) (n m ca cb : Nat) (la : List Wt) (lb : List Int) (hra : Knows L fun w => Reads w 4 A n (ws la)) (hrb : Knows L fun w => Reads w 1 B m (ints lb)) (hal : la.length = n) (hbl : lb.length = m) (hm : m ≤ 140737488351232) (s : St W L w) :
    Calls Try.prog 27 #[.slice A n ca, .slice B m cb] w fun e w' => e = .returned (.bool (decide (nums la = lb))) ∧ St W L w' := by
  refine enter_args (l := [.slice A n ca, .slice B m cb]) Try.func27 rfl rfl (Nat.le_of_ble_eq_true rfl) ?_
  intro a ha; replace ha : Has a 27 [(0, .slice A n ca), (1, .slice B m cb)] := ha
  refine wp_seq ?_
  refine wp_region_lit ?_
  refine st_val (.bool false) ha (by kernel_rfl) (by kernel_rfl) ?_
  clear ha; intro a ha
  refine wpList_nil ?_
  refine then_normal ?_
  refine wp_seq ?_
  refine wp_seq ?_
  refine wp_region_lit ?_
  refine st_val (.slice A n ca) ha (by kernel_rfl) (by kernel_rfl) ?_
  clear ha; intro a ha
  refine st_val (.int .i64 ((n : Nat) : Int)) ha (by kernel_rfl) (by kernel_rfl) ?_
  clear ha; intro a ha
  refine st_val (.slice B m cb) ha (by kernel_rfl) (by kernel_rfl) ?_
  clear ha; intro a ha
  refine st_val (.int .i64 ((m : Nat) : Int)) ha (by kernel_rfl) (by kernel_rfl) ?_
  clear ha; intro a ha
  refine st_val (.bool (((n : Nat) : Int) != ((m : Nat) : Int))) ha (by kernel_rfl) (by kernel_rfl) ?_
  clear ha; intro a ha
  refine wpList_nil ?_
  refine then_normal ?_
  refine wp_part (((n : Nat) : Int) != ((m : Nat) : Int)) ha rfl (by kernel_rfl) (fun hb => ?_) (fun hb => ?_)
  · rw [hb] at ha; have hb_ := hb; replace hb := bne_iff_ne.1 hb
    refine wp_seq ?_
    refine wp_region_lit ?_
    refine st_val (.bool false) ha (by kernel_rfl) (by kernel_rfl) ?_
    clear ha; intro a ha
    refine wpList_nil ?_
    refine then_normal ?_
    refine wp_ret ?_
    refine then_ret ?_
    refine ret_with (v := .bool false) ha (results_1 rfl ha (res_tmp (by kernel_rfl) (by kernel_rfl))) ?_
    refine ⟨?_, s⟩
    rw [decide_eq_false (fun e => by have := congrArg List.length e; simp only [nums, List.length_map] at this; omega)]
  · rw [hb] at ha; have hb_ := hb; replace hb := bne_eq_false_iff_eq.1 hb
    have hnm : m = n := by omega
    subst hnm
    refine wp_skip ?_
    refine then_normal ?_
    refine wp_seq ?_
    refine wp_seq ?_
    refine wp_region_lit ?_
    refine st_val (.int .i64 0) ha (by kernel_rfl) (by kernel_rfl) ?_
    clear ha; intro a ha
    refine wpList_nil ?_
    refine then_normal ?_
    refine wp_block ?_
    refine wp_loopG (G := Nat) (fun k a w => Has a 27 [(0, .slice A m ca), (1, .slice B m cb), (5, .int .i64 ((k : Nat) : Int))] ∧ St W (L) w ∧ (k ≤ m ∧ nums (la.take k) = lb.take k)) (fun k => m - k) 0 ?_ ?_
    · exact ⟨(Has.cons ha (by kernel_rfl) (by kernel_rfl) (Has.cons ha (by kernel_rfl) (by kernel_rfl) (Has.cons ha (by kernel_rfl) (by kernel_rfl) (Has.nil ha)))), s, ⟨Nat.zero_le _, rfl⟩⟩
    · clear ha s; rintro k a w ⟨ha, s, hp⟩
      refine wp_seq ?_
      refine wp_seq ?_
      refine wp_region_lit ?_
      refine st_val (.int .i64 ((k : Nat) : Int)) ha (by kernel_rfl) (by kernel_rfl) ?_
      clear ha; intro a ha
      refine st_val (.slice A m ca) ha (by kernel_rfl) (by kernel_rfl) ?_
      clear ha; intro a ha
      refine st_val (.int .i64 ((m : Nat) : Int)) ha (by kernel_rfl) (by kernel_rfl) ?_
      clear ha; intro a ha
      refine st_val (.bool (decide (((k : Nat) : Int) < ((m : Nat) : Int)))) ha (by kernel_rfl) (by kernel_rfl) ?_
      clear ha; intro a ha
      refine wpList_nil ?_
      refine then_normal ?_
      refine wp_part (decide (((k : Nat) : Int) < ((m : Nat) : Int))) ha rfl (by kernel_rfl) (fun hb => ?_) (fun hb => ?_)
      · rw [hb] at ha; replace hb : (((k : Nat) : Int) < ((m : Nat) : Int)) := of_decide_eq_true hb
        obtain ⟨x, hx⟩ : ∃ x, la[k]? = some x := ⟨_, List.getElem?_eq_getElem (by omega)⟩
        obtain ⟨y, hy⟩ : ∃ y, lb[k]? = some y := ⟨_, List.getElem?_eq_getElem (by omega)⟩
        obtain ⟨ada, hA⟩ := Reads.addr (hra _ s.sat) (by omega)
        subst hA
        obtain ⟨adb, hB⟩ := Reads.addr (hrb _ s.sat) (by omega)
        subst hB
        refine wp_skip ?_
        refine then_normal ?_
        refine wp_seq ?_
        refine wp_block ?_
        refine wp_seq ?_
        refine wp_region_head 9 (fun w => Reads w 4 (some ada) m (ws la) ∧ Reads w 1 (some adb) m (ints lb) ∧ True) (by kernel_rfl) (by decide) ?_
        replace s := s.drew; generalize _root_.Go.World.drew _ = w at s ⊢
        have hS : (fun w => Reads w 4 (some ada) m (ws la) ∧ Reads w 1 (some adb) m (ints lb) ∧ True) w := ⟨(hra _ s.sat), (hrb _ s.sat), trivial⟩
        refine hd_val (i := 0) (.slice (some ada) m ca) ha rfl (by kernel_rfl) (fun _ _ _ h => h) (by kernel_rfl) (fun w hS => (by kernel_rfl)) hS ?_
        clear ha; intro a ha
        refine hd_val (i := 1) (.int .i64 ((k : Nat) : Int)) ha rfl (by kernel_rfl) (fun _ _ _ h => h) (by kernel_rfl) (fun w hS => (by kernel_rfl)) hS ?_
        clear ha; intro a ha
        refine hd_val (i := 2) (.pointer (some (ada.add (k * 4)))) ha rfl (by kernel_rfl) (fun _ _ _ h => h) (by kernel_rfl) (fun w hS => (run_indexAddr' (kd := .i64) (i := ((k : Nat) : Int)) (n := m) (c := ca) k rfl Try.underlying37 Try.sizeOf28 (by kernel_rfl) (by kernel_rfl) rfl (by first | assumption | omega) _)) hS ?_
        clear ha; intro a ha
        refine hd_val (i := 3) (.pointer (some (ada.add (k * 4 + 0)))) ha rfl (by kernel_rfl) (fun _ _ _ h => h) (by kernel_rfl) (fun w hS => (run_fieldAddr_at (i := k * 4) (off := 0) rfl Try.underlying28 rfl Try.sizeOf3 (by kernel_rfl) _)) hS ?_
        clear ha; intro a ha
        refine hd_val (i := 4) (.int .i64 x.num) ha rfl (by kernel_rfl) (fun _ _ _ h => h) (by kernel_rfl) (fun w hS => run_loadAt1 (i := k * 4 + 0) hS.1 rfl (by kernel_rfl) Try.isAgg3 (by rw [ws_at hx (by omega)]; rfl)) hS ?_
        clear ha; intro a ha
        refine hd_val (i := 5) (.slice (some adb) m cb) ha rfl (by kernel_rfl) (fun _ _ _ h => h) (by kernel_rfl) (fun w hS => (by kernel_rfl)) hS ?_
        clear ha; intro a ha
        refine hd_val (i := 6) (.int .i64 ((k : Nat) : Int)) ha rfl (by kernel_rfl) (fun _ _ _ h => h) (by kernel_rfl) (fun w hS => (by kernel_rfl)) hS ?_
        clear ha; intro a ha
        refine hd_val (i := 7) (.pointer (some (adb.add (k * 1)))) ha rfl (by kernel_rfl) (fun _ _ _ h => h) (by kernel_rfl) (fun w hS => (run_indexAddr' (kd := .i64) (i := ((k : Nat) : Int)) (n := m) (c := cb) k rfl Try.underlying55 Try.sizeOf3 (by kernel_rfl) (by kernel_rfl) rfl (by first | assumption | omega) _)) hS ?_
        clear ha; intro a ha
        refine hd_val (i := 8) (.int .i64 y) ha rfl (by kernel_rfl) (fun _ _ _ h => h) (by kernel_rfl) (fun w hS => run_loadRow1 (m := k) hS.2.1 rfl (by kernel_rfl) Try.isAgg3 (ints_at hy)) hS ?_
        clear ha; intro a ha
        refine Head.done (by kernel_rfl) ?_
        clear hS; simp only [List.drop_succ_cons, List.drop_zero]
        refine st_val (.bool (x.num != y)) ha (by kernel_rfl) (by kernel_rfl) ?_
        clear ha; intro a ha
        refine wpList_nil ?_
        refine then_normal ?_
        refine wp_part (x.num != y) ha rfl (by kernel_rfl) (fun hb => ?_) (fun hb => ?_)
        · rw [hb] at ha; have hb_ := hb; replace hb := bne_iff_ne.1 hb
          refine wp_seq ?_
          refine wp_region_lit ?_
          refine st_val (.bool false) ha (by kernel_rfl) (by kernel_rfl) ?_
          clear ha; intro a ha
          refine wpList_nil ?_
          refine then_normal ?_
          refine wp_ret ?_
          refine block_ret ?_
          refine then_ret ?_
          refine then_ret ?_
          refine block_ret ?_
          refine then_ret ?_
          refine ret_with (v := .bool false) ha (results_1 rfl ha (res_tmp (by kernel_rfl) (by kernel_rfl))) ?_
          refine ⟨?_, s⟩
          rw [decide_eq_false (fun e => by rw [← e] at hy; simp [nums, hx] at hy; exact hb hy)]
        · rw [hb] at ha; have hb_ := hb; replace hb := bne_eq_false_iff_eq.1 hb
          refine wp_skip ?_
          refine block_normal ?_
          refine then_normal ?_
          refine wp_region_lit ?_
          refine st_val (.int .i64 ((k : Nat) : Int)) ha (by kernel_rfl) (by kernel_rfl) ?_
          clear ha; intro a ha
          refine st_val (.int .i64 ((k + 1 : Nat) : Int)) ha (by kernel_rfl) (run_arith (((k : Nat) : Int) + (1 : Int)) ((k + 1 : Nat) : Int) rfl (by kernel_rfl) (by kernel_rfl) (.inl ⟨rfl, rfl⟩) (by rw [wrap64_in (by omega)]; try omega) _) ?_
          clear ha; intro a ha
          refine st_val (.int .i64 ((k + 1 : Nat) : Int)) ha (by kernel_rfl) (by kernel_rfl) ?_
          clear ha; intro a ha
          refine wpList_nil ?_
          refine then_normal ?_
          exact ⟨k + 1, by omega, (Has.cons ha (by kernel_rfl) (by kernel_rfl) (Has.cons ha (by kernel_rfl) (by kernel_rfl) (Has.cons ha (by kernel_rfl) (by kernel_rfl) (Has.nil ha)))), s, by omega, by rw [take_snoc hx, take_snoc hy, nums, List.map_append, ← hp.2, ← hb]; rfl⟩
      · rw [hb] at ha; replace hb : ¬ (((k : Nat) : Int) < ((m : Nat) : Int)) := of_decide_eq_false hb
        refine wp_exit ?_
        refine then_exit ?_
        refine then_exit ?_
        refine block_hit ?_
        refine then_normal ?_
        refine wp_seq ?_
        refine wp_region_lit ?_
        refine st_val (.bool true) ha (by kernel_rfl) (by kernel_rfl) ?_
        clear ha; intro a ha
        refine wpList_nil ?_
        refine then_normal ?_
        refine wp_ret ?_
        refine ret_with (v := .bool true) ha (results_1 rfl ha (res_tmp (by kernel_rfl) (by kernel_rfl))) ?_
        refine ⟨?_, s⟩
        have h2 := hp.2
        rw [List.take_of_length_le (by omega), List.take_of_length_le (by omega)] at h2
        rw [decide_eq_true h2]

theorem told_is (W : World) (L : List Chunk) (w : World) (A B : Option Addr) (n m ca cb : Nat) (la : List Wt) (hra : Knows L fun w => Reads w 4 A n (ws la)) (hrb : Knows L fun w => Reads w 1 B m (ints (nums la))) (hal : la.length = n) (hbl : la.length = m) (hm : m ≤ 140737488351232) (s : St W L w) :
    Calls Try.prog 27 #[.slice A n ca, .slice B m cb] w fun e w' => e = .returned (.bool true) ∧ St W L w' :=
  (told_any W L w A B n m ca cb la (nums la) hra hrb hal (by rw [nums, List.length_map]; exact hbl) hm s).mono fun e w' ⟨h, s⟩ => ⟨by rw [h, decide_eq_true rfl], s⟩

set_option maxRecDepth 100000 in
set_option maxHeartbeats 8000000 in
theorem order_true (W : World) (hW : W.drawn = 0) (L : List Chunk) (w : World) (A : Option Addr) (n c : Nat) (zs : List Int) (hr : Knows L fun w => Reads w 1 A n (zs.map (.int .i64))) (hl : zs.length = n) (hn : n ≤ 140737488351232) (a_ : Int) (s : St W L w) :
    Calls Try.prog 5 #[.slice A n c, .int .i64 a_] w fun e w' => e = .returned (.bool true) ∧ St W L w' := by
  obtain ⟨r, hr0⟩ : ∃ r : Int, a_ % 3 = r := ⟨_, rfl⟩
  have hrb : 0 ≤ r ∧ r < 3 := by omega
  refine enter_args (l := [.slice A n c, .int .i64 a_]) Try.func5 rfl rfl (Nat.le_of_ble_eq_true rfl) ?_
  intro a ha; replace ha : Has a 88 [(0, .slice A n c), (1, .int .i64 a_)] := ha
  refine wp_seq ?_
  refine wp_region_lit ?_
  refine st_val (.bool false) ha (by kernel_rfl) (by kernel_rfl) ?_
  clear ha; intro a ha
  refine wpList_nil ?_
  refine then_normal ?_
  refine wp_seq ?_
  refine wp_seq ?_
  refine wp_region_lit ?_
  refine st_call ha (by kernel_rfl) (by kernel_rfl) (works_true W hW _ w s) ?_
  rintro _ w ⟨rfl, s⟩
  replace s : St W (L) w := s
  refine ⟨_, rfl, ?_⟩; clear ha; intro a ha
  refine st_val (.bool false) ha (by kernel_rfl) (by kernel_rfl) ?_
  clear ha; intro a ha
  refine wpList_nil ?_
  refine then_normal ?_
  refine wp_false ha rfl (by kernel_rfl) ?_
  refine wp_skip ?_
  refine then_normal ?_
  refine wp_seq ?_
  refine wp_region_lit ?_
  refine st_call ha (by kernel_rfl) (by kernel_rfl) (new_lob W _ w s) ?_
  rintro _ w ⟨g1, rfl, s⟩
  replace s : St W (Lob g1 [] :: L) w := s
  refine ⟨_, rfl, ?_⟩; clear ha; intro a ha
  refine st_val (.pointer (some ⟨g1, 0, none⟩)) ha (by kernel_rfl) (by kernel_rfl) ?_
  clear ha; intro a ha
  refine wpList_nil ?_
  refine then_normal ?_
  refine wp_seq ?_
  refine wp_region_lit ?_
  refine st_ex ha (by kernel_rfl) (ex_buildSlice elt56 _ zs56 [.string (str []), .string (str [97]), .string (str [98])] s rfl (by kernel_rfl) (by decide)) ?_
  clear ha; rintro _ w a ⟨g2, rfl, s⟩ ha
  replace s : St W (.blk g2 [.string (str []), .string (str [97]), .string (str [98])] 9 :: Lob g1 [] :: L) w := s
  refine st_val (.slice (some ⟨g2, 0, none⟩) 3 3) ha (by kernel_rfl) (by kernel_rfl) ?_
  clear ha; intro a ha
  refine wpList_nil ?_
  refine then_normal ?_
  refine wp_seq ?_
  refine wp_region_lit ?_
  refine st_val (.slice none 0 0) ha (by kernel_rfl) (by kernel_rfl) ?_
  clear ha; intro a ha
  refine st_val (.slice none 0 0) ha (by kernel_rfl) (by kernel_rfl) ?_
  clear ha; intro a ha
  refine wpList_nil ?_
  refine then_normal ?_
  refine wp_seq ?_
  refine wp_seq ?_
  refine wp_region_lit ?_
  refine st_val (.int .i64 0) ha (by kernel_rfl) (by kernel_rfl) ?_
  clear ha; intro a ha
  refine wpList_nil ?_
  refine then_normal ?_
  refine wp_block ?_
  replace s := Own.none_ (e := 3) (k := 1) none (Own.none_ (e := 3) (k := 1) none s)
  replace s : St W (Own 3 1 none 0 0 [] :: Own 3 1 none 0 0 [] :: .blk g2 [.string (str []), .string (str [97]), .string (str [98])] 9 :: Lob g1 [] :: L) w := s
  replace s := s.at_ (j := 2) rfl
  replace s : St W (.blk g2 [.string (str []), .string (str [97]), .string (str [98])] 9 :: Own 3 1 none 0 0 [] :: Own 3 1 none 0 0 [] :: Lob g1 [] :: L) w := s
  replace s := s.at_ (j := 3) rfl
  replace s : St W (Lob g1 [] :: .blk g2 [.string (str []), .string (str [97]), .string (str [98])] 9 :: Own 3 1 none 0 0 [] :: Own 3 1 none 0 0 [] :: L) w := s
  replace s := s.at_ (j := 3) rfl
  replace s : St W (Own 3 1 none 0 0 [] :: Lob g1 [] :: .blk g2 [.string (str []), .string (str [97]), .string (str [98])] 9 :: Own 3 1 none 0 0 [] :: L) w := s
  replace s := s.at_ (j := 3) rfl
  replace s : St W (Own 3 1 none 0 0 [] :: Own 3 1 none 0 0 [] :: Lob g1 [] :: .blk g2 [.string (str []), .string (str [97]), .string (str [98])] 9 :: L) w := s
  refine wp_loopG (G := (Nat × List Wt × Option Addr × Nat × Option Addr × Nat)) (fun ⟨k, l, Af, cf, Ar, cr⟩ a w => Has a 88 [(0, .slice A n c), (1, .int .i64 a_), (5, .pointer (some ⟨g1, 0, none⟩)), (6, .slice (some ⟨g2, 0, none⟩) 3 3), (7, .slice Af ((isK r l).length) cf), (8, .slice Ar ((isR r l).length) cr), (9, .int .i64 ((k : Nat) : Int))] ∧ St W (Own 3 1 Af ((isK r l).length) cf (ints (nums (isK r l))) :: Own 3 1 Ar ((isR r l).length) cr (ints (nums (isR r l))) :: Lob g1 l :: .blk g2 [.string (str []), .string (str [97]), .string (str [98])] 9 :: L) w ∧ (k ≤ 60 ∧ Fine l ∧ Upto k l)) (fun ⟨k, l, Af, cf, Ar, cr⟩ => 60 - k) (0, [], none, 0, none, 0) ?_ ?_
  · exact ⟨(Has.cons ha (by kernel_rfl) (by kernel_rfl) (Has.cons ha (by kernel_rfl) (by kernel_rfl) (Has.cons ha (by kernel_rfl) (by kernel_rfl) (Has.cons ha (by kernel_rfl) (by kernel_rfl) (Has.cons ha (by kernel_rfl) (by kernel_rfl) (Has.cons ha (by kernel_rfl) (by kernel_rfl) (Has.cons ha (by kernel_rfl) (by kernel_rfl) (Has.nil ha)))))))), s, ⟨Nat.zero_le _, Fine.nil, ⟨by simp, by simp⟩⟩⟩
  · clear ha s; rintro ⟨k, l, Af, cf, Ar, cr⟩ a w ⟨ha, s, hp⟩
    refine wp_seq ?_
    refine wp_seq ?_
    refine wp_region_lit ?_
    refine st_val (.int .i64 ((k : Nat) : Int)) ha (by kernel_rfl) (by kernel_rfl) ?_
    clear ha; intro a ha
    refine st_val (.slice A n c) ha (by kernel_rfl) (by kernel_rfl) ?_
    clear ha; intro a ha
    refine st_val (.int .i64 ((n : Nat) : Int)) ha (by kernel_rfl) (by kernel_rfl) ?_
    clear ha; intro a ha
    refine st_val (.bool (decide (((k : Nat) : Int) < ((n : Nat) : Int)))) ha (by kernel_rfl) (by kernel_rfl) ?_
    clear ha; intro a ha
    refine st_val (.bool (decide (((k : Nat) : Int) < ((n : Nat) : Int)))) ha (by kernel_rfl) (by kernel_rfl) ?_
    clear ha; intro a ha
    rcases Bool.eq_false_or_eq_true (decide (((k : Nat) : Int) < ((n : Nat) : Int))) with hb | hb
    · rw [hb] at ha; replace hb : (((k : Nat) : Int) < ((n : Nat) : Int)) := of_decide_eq_true hb
      have hpf := hp.2.1
      have hpu := hp.2.2
      have hkl := isK_le r l
      have hrl := isR_le r l
      have hlk := hp.2.2.2
      obtain ⟨z, hz⟩ : ∃ z, zs[k]? = some z := ⟨_, List.getElem?_eq_getElem (by omega)⟩
      obtain ⟨ad, hA⟩ := Reads.addr (hr _ s.sat.tail.tail.tail.tail) (by omega)
      subst hA
      refine st_val (.int .i64 ((k : Nat) : Int)) ha (by kernel_rfl) (by kernel_rfl) ?_
      clear ha; intro a ha
      refine st_val (.bool (decide (((k : Nat) : Int) < (60 : Int)))) ha (by kernel_rfl) (by kernel_rfl) ?_
      clear ha; intro a ha
      refine st_val (.bool (decide (((k : Nat) : Int) < (60 : Int)))) ha (by kernel_rfl) (by kernel_rfl) ?_
      clear ha; intro a ha
      refine wpList_nil ?_
      refine then_normal ?_
      refine wp_part (decide (((k : Nat) : Int) < (60 : Int))) ha rfl (by kernel_rfl) (fun hb => ?_) (fun hb => ?_)
      · rw [hb] at ha; replace hb : (((k : Nat) : Int) < (60 : Int)) := of_decide_eq_true hb
        refine wp_skip ?_
        refine then_normal ?_
        refine wp_seq ?_
        refine wp_block ?_
        refine wp_seq ?_
        refine wp_region_lit ?_
        refine st_val (.slice (some ad) n c) ha (by kernel_rfl) (by kernel_rfl) ?_
        clear ha; intro a ha
        refine st_val (.int .i64 ((k : Nat) : Int)) ha (by kernel_rfl) (by kernel_rfl) ?_
        clear ha; intro a ha
        refine st_val (.pointer (some (ad.add (k * 1)))) ha (by kernel_rfl) (run_indexAddr' (kd := .i64) (i := ((k : Nat) : Int)) (n := n) (c := c) k rfl Try.underlying55 Try.sizeOf3 (by kernel_rfl) (by kernel_rfl) rfl (by first | assumption | omega) _) ?_
        clear ha; intro a ha
        refine st_val (.int .i64 z) ha (by kernel_rfl) (run_loadRow1 (m := k) ((hr _ s.sat.tail.tail.tail.tail)) rfl (by kernel_rfl) Try.isAgg3 (by rw [List.getElem?_map, hz]; rfl)) ?_
        clear ha; intro a ha
        have hq0 : z % 6 = 0 ∨ z % 6 = 1 ∨ z % 6 = 2 ∨ z % 6 = 3 ∨ z % 6 = 4 ∨ z % 6 = 5 := by omega
        rcases hq0 with hq | hq | hq | hq | hq | hq
        · skip
          refine st_call ha (by kernel_rfl) (by kernel_rfl) (bring_to W _ w z 6 0 hq (by omega) (by omega) s) ?_
          rintro _ w ⟨rfl, s⟩
          replace s : St W (Own 3 1 Af ((isK r l).length) cf (ints (nums (isK r l))) :: Own 3 1 Ar ((isR r l).length) cr (ints (nums (isR r l))) :: Lob g1 l :: .blk g2 [.string (str []), .string (str [97]), .string (str [98])] 9 :: L) w := s
          refine ⟨_, rfl, ?_⟩; clear ha; intro a ha
          refine st_val (.int .i64 0) ha (by kernel_rfl) (by kernel_rfl) ?_
          clear ha; intro a ha
          refine wpList_nil ?_
          refine then_normal ?_
          refine wp_seq ?_
          refine wp_seq ?_
          refine wp_region_lit ?_
          refine st_val (.pointer (some ⟨g1, 0, none⟩)) ha (by kernel_rfl) (by kernel_rfl) ?_
          clear ha; intro a ha
          refine st_val (.int .i64 ((k : Nat) : Int)) ha (by kernel_rfl) (by kernel_rfl) ?_
          clear ha; intro a ha
          refine st_val (.int .i64 ((k + 1 : Nat) : Int)) ha (by kernel_rfl) (run_arith (((k : Nat) : Int) + (1 : Int)) ((k + 1 : Nat) : Int) rfl (by kernel_rfl) (by kernel_rfl) (.inl ⟨rfl, rfl⟩) (by rw [wrap64_in (by omega)]; try omega) _) ?_
          clear ha; intro a ha
          refine st_val (.slice (some ⟨g2, 0, none⟩) 3 3) ha (by kernel_rfl) (by kernel_rfl) ?_
          clear ha; intro a ha
          refine st_val (.int .i64 0) ha (by kernel_rfl) (by kernel_rfl) ?_
          clear ha; intro a ha
          refine st_val (.int .i64 0) ha (by kernel_rfl) (by kernel_rfl) ?_
          clear ha; intro a ha
          refine st_val (.pointer (some ⟨g2, 0, none⟩)) ha (by kernel_rfl) (run_indexAddr (kd := .i64) (i := 0) (n := 3) (c := 3) 0 rfl Try.underlying56 Try.sizeOf9 (by kernel_rfl) (by kernel_rfl) rfl (by first | assumption | omega) _) ?_
          clear ha; intro a ha
          refine st_val (.string (str [])) ha (by kernel_rfl) (run_load1 (of_ := 0) (s.blkIs 3 rfl) rfl (by kernel_rfl) Try.isAgg9 rfl) ?_
          clear ha; intro a ha
          refine st_val (.int .i64 0) ha (by kernel_rfl) (by kernel_rfl) ?_
          clear ha; intro a ha
          refine st_val (.int .i64 0) ha (by kernel_rfl) (by kernel_rfl) ?_
          clear ha; intro a ha
          refine st_val (.int .i64 1) ha (by kernel_rfl) (by kernel_rfl) ?_
          clear ha; intro a ha
          refine st_call ha (by kernel_rfl) (by kernel_rfl) (wait_any W _ w ((k + 1 : Nat) : Int) 9 1 [] s) ?_
          rintro _ w ⟨rfl, s⟩
          replace s : St W (Own 3 1 Af ((isK r l).length) cf (ints (nums (isK r l))) :: Own 3 1 Ar ((isR r l).length) cr (ints (nums (isR r l))) :: Lob g1 l :: .blk g2 [.string (str []), .string (str [97]), .string (str [98])] 9 :: L) w := s
          refine ⟨_, rfl, ?_⟩; clear ha; intro a ha
          replace s := s.at_ (j := 2) rfl
          replace s : St W (Lob g1 l :: Own 3 1 Af ((isK r l).length) cf (ints (nums (isK r l))) :: Own 3 1 Ar ((isR r l).length) cr (ints (nums (isR r l))) :: .blk g2 [.string (str []), .string (str [97]), .string (str [98])] 9 :: L) w := s
          have hadd := add_new (x := (⟨((k + 1 : Nat) : Int), [], 9, 1⟩ : Wt)) hpu (by omega) rfl (by simp only; omega) (by simp only; omega) (by simp only; omega)
          refine st_call ha (by kernel_rfl) (by kernel_rfl) (add_is W _ w g1 l (⟨((k + 1 : Nat) : Int), [], 9, 1⟩ : Wt) 0 (l ++ [(⟨((k + 1 : Nat) : Int), [], 9, 1⟩ : Wt)]) hadd.1 hadd.2 hpf s) ?_
          rintro _ w ⟨rfl, s⟩
          replace s : St W (Lob g1 (l ++ [(⟨((k + 1 : Nat) : Int), [], 9, 1⟩ : Wt)]) :: Own 3 1 Af ((isK r l).length) cf (ints (nums (isK r l))) :: Own 3 1 Ar ((isR r l).length) cr (ints (nums (isR r l))) :: .blk g2 [.string (str []), .string (str [97]), .string (str [98])] 9 :: L) w := s
          refine ⟨_, rfl, ?_⟩; clear ha; intro a ha
          refine st_val (.bool false) ha (by kernel_rfl) (by kernel_rfl) ?_
          clear ha; intro a ha
          refine wpList_nil ?_
          refine then_normal ?_
          refine wp_false ha rfl (by kernel_rfl) ?_
          refine wp_skip ?_
          refine then_normal ?_
          refine wp_seq ?_
          refine wp_region_lit ?_
          refine st_val (.int .i64 0) ha (by kernel_rfl) (by kernel_rfl) ?_
          clear ha; intro a ha
          refine st_val (.int .i64 0) ha (by kernel_rfl) (by kernel_rfl) ?_
          clear ha; intro a ha
          refine st_val (.bool true) ha (by kernel_rfl) (by kernel_rfl) ?_
          clear ha; intro a ha
          refine st_val (.bool true) ha (by kernel_rfl) (by kernel_rfl) ?_
          clear ha; intro a ha
          refine st_val (.int .i64 0) ha (by kernel_rfl) (by kernel_rfl) ?_
          clear ha; intro a ha
          refine st_val (.int .i64 0) ha (by kernel_rfl) (by kernel_rfl) ?_
          clear ha; intro a ha
          refine st_val (.int .i64 a_) ha (by kernel_rfl) (by kernel_rfl) ?_
          clear ha; intro a ha
          refine st_call ha (by kernel_rfl) (by kernel_rfl) (bring_to W _ w a_ 3 r hr0 (by omega) (by omega) s) ?_
          rintro _ w ⟨rfl, s⟩
          replace s : St W (Lob g1 (l ++ [(⟨((k + 1 : Nat) : Int), [], 9, 1⟩ : Wt)]) :: Own 3 1 Af ((isK r l).length) cf (ints (nums (isK r l))) :: Own 3 1 Ar ((isR r l).length) cr (ints (nums (isR r l))) :: .blk g2 [.string (str []), .string (str [97]), .string (str [98])] 9 :: L) w := s
          refine ⟨_, rfl, ?_⟩; clear ha; intro a ha
          refine st_val (.bool ((0 : Int) == r)) ha (by kernel_rfl) (by kernel_rfl) ?_
          clear ha; intro a ha
          refine st_val (.bool ((0 : Int) == r)) ha (by kernel_rfl) (by kernel_rfl) ?_
          clear ha; intro a ha
          refine wpList_nil ?_
          refine then_normal ?_
          refine wp_part ((0 : Int) == r) ha rfl (by kernel_rfl) (fun hb => ?_) (fun hb => ?_)
          · rw [hb] at ha; have hb_ := hb; replace hb := eq_of_beq hb
            refine wp_region_lit ?_
            refine st_val (.slice Af ((isK r l).length) cf) ha (by kernel_rfl) (by kernel_rfl) ?_
            clear ha; intro a ha
            refine st_val (.int .i64 ((k : Nat) : Int)) ha (by kernel_rfl) (by kernel_rfl) ?_
            clear ha; intro a ha
            refine st_val (.int .i64 ((k + 1 : Nat) : Int)) ha (by kernel_rfl) (run_arith (((k : Nat) : Int) + (1 : Int)) ((k + 1 : Nat) : Int) rfl (by kernel_rfl) (by kernel_rfl) (.inl ⟨rfl, rfl⟩) (by rw [wrap64_in (by omega)]; try omega) _) ?_
            clear ha; intro a ha
            refine st_ex ha (by kernel_rfl) (ex_buildSlice elt55 _ zs55 [.int .i64 ((k + 1 : Nat) : Int)] s rfl (by kernel_rfl) (by decide)) ?_
            clear ha; rintro _ w a ⟨g3, rfl, s⟩ ha
            replace s : St W (.blk g3 [.int .i64 ((k + 1 : Nat) : Int)] 3 :: Lob g1 (l ++ [(⟨((k + 1 : Nat) : Int), [], 9, 1⟩ : Wt)]) :: Own 3 1 Af ((isK r l).length) cf (ints (nums (isK r l))) :: Own 3 1 Ar ((isR r l).length) cr (ints (nums (isR r l))) :: .blk g2 [.string (str []), .string (str [97]), .string (str [98])] 9 :: L) w := s
            refine st_ex ha (by kernel_rfl) (ex_append (m := 1) (d' := 1) elt55 (by decide) 2 [.int .i64 ((k + 1 : Nat) : Int)] s rfl (by kernel_rfl) (by kernel_rfl) rfl (reads_blk (s.blkIs 0 rfl) rfl) (by simp [Value.oneCell']) (by simp only [maxLen]; omega) (by omega)) ?_
            clear ha; rintro _ w a ⟨A4, c5, rfl, hA_, s⟩ ha
            replace s : St W (.blk g3 [.int .i64 ((k + 1 : Nat) : Int)] 3 :: Lob g1 (l ++ [(⟨((k + 1 : Nat) : Int), [], 9, 1⟩ : Wt)]) :: Own 3 1 A4 ((isK r l).length + 1) c5 ((ints (nums (isK r l))) ++ [.int .i64 ((k + 1 : Nat) : Int)]) :: Own 3 1 Ar ((isR r l).length) cr (ints (nums (isR r l))) :: .blk g2 [.string (str []), .string (str [97]), .string (str [98])] 9 :: L) w := s
            refine st_val (.slice A4 ((isK r l).length + 1) c5) ha (by kernel_rfl) (by kernel_rfl) ?_
            clear ha; intro a ha
            refine wpList_nil ?_
            refine block_normal ?_
            refine then_normal ?_
            refine wp_region_lit ?_
            refine st_val (.int .i64 ((k : Nat) : Int)) ha (by kernel_rfl) (by kernel_rfl) ?_
            clear ha; intro a ha
            refine st_val (.int .i64 ((k + 1 : Nat) : Int)) ha (by kernel_rfl) (run_arith (((k : Nat) : Int) + (1 : Int)) ((k + 1 : Nat) : Int) rfl (by kernel_rfl) (by kernel_rfl) (.inl ⟨rfl, rfl⟩) (by rw [wrap64_in (by omega)]; try omega) _) ?_
            clear ha; intro a ha
            refine st_val (.int .i64 ((k + 1 : Nat) : Int)) ha (by kernel_rfl) (by kernel_rfl) ?_
            clear ha; intro a ha
            refine wpList_nil ?_
            refine then_normal ?_
            replace s := s.at_ (j := 4) rfl
            replace s : St W (.blk g2 [.string (str []), .string (str [97]), .string (str [98])] 9 :: .blk g3 [.int .i64 ((k + 1 : Nat) : Int)] 3 :: Lob g1 (l ++ [(⟨((k + 1 : Nat) : Int), [], 9, 1⟩ : Wt)]) :: Own 3 1 A4 ((isK r l).length + 1) c5 ((ints (nums (isK r l))) ++ [.int .i64 ((k + 1 : Nat) : Int)]) :: Own 3 1 Ar ((isR r l).length) cr (ints (nums (isR r l))) :: L) w := s
            replace s := s.at_ (j := 2) rfl
            replace s : St W (Lob g1 (l ++ [(⟨((k + 1 : Nat) : Int), [], 9, 1⟩ : Wt)]) :: .blk g2 [.string (str []), .string (str [97]), .string (str [98])] 9 :: .blk g3 [.int .i64 ((k + 1 : Nat) : Int)] 3 :: Own 3 1 A4 ((isK r l).length + 1) c5 ((ints (nums (isK r l))) ++ [.int .i64 ((k + 1 : Nat) : Int)]) :: Own 3 1 Ar ((isR r l).length) cr (ints (nums (isR r l))) :: L) w := s
            replace s := s.at_ (j := 4) rfl
            replace s : St W (Own 3 1 Ar ((isR r l).length) cr (ints (nums (isR r l))) :: Lob g1 (l ++ [(⟨((k + 1 : Nat) : Int), [], 9, 1⟩ : Wt)]) :: .blk g2 [.string (str []), .string (str [97]), .string (str [98])] 9 :: .blk g3 [.int .i64 ((k + 1 : Nat) : Int)] 3 :: Own 3 1 A4 ((isK r l).length + 1) c5 ((ints (nums (isK r l))) ++ [.int .i64 ((k + 1 : Nat) : Int)]) :: L) w := s
            replace s := s.at_ (j := 4) rfl
            replace s : St W (Own 3 1 A4 ((isK r l).length + 1) c5 ((ints (nums (isK r l))) ++ [.int .i64 ((k + 1 : Nat) : Int)]) :: Own 3 1 Ar ((isR r l).length) cr (ints (nums (isR r l))) :: Lob g1 (l ++ [(⟨((k + 1 : Nat) : Int), [], 9, 1⟩ : Wt)]) :: .blk g2 [.string (str []), .string (str [97]), .string (str [98])] 9 :: .blk g3 [.int .i64 ((k + 1 : Nat) : Int)] 3 :: L) w := s
            replace s : St W (Own 3 1 A4 ((isK r l).length + 1) c5 ((ints (nums (isK r l))) ++ [.int .i64 ((k + 1 : Nat) : Int)]) :: Own 3 1 Ar ((isR r l).length) cr (ints (nums (isR r l))) :: Lob g1 (l ++ [(⟨((k + 1 : Nat) : Int), [], 9, 1⟩ : Wt)]) :: .blk g2 [.string (str []), .string (str [97]), .string (str [98])] 9 :: L) w := St.mid (A := [Own 3 1 A4 ((isK r l).length + 1) c5 ((ints (nums (isK r l))) ++ [.int .i64 ((k + 1 : Nat) : Int)]), Own 3 1 Ar ((isR r l).length) cr (ints (nums (isR r l))), Lob g1 (l ++ [(⟨((k + 1 : Nat) : Int), [], 9, 1⟩ : Wt)]), .blk g2 [.string (str []), .string (str [97]), .string (str [98])] 9]) (B := [.blk g3 [.int .i64 ((k + 1 : Nat) : Int)] 3]) s
            have e0 : byKey (kk r) 1 (⟨((k + 1 : Nat) : Int), [], 9, 1⟩ : Wt) = true := by unfold byKey; simp [kk, ← hb]
            have e1 := isK_snoc r l (⟨((k + 1 : Nat) : Int), [], 9, 1⟩ : Wt)
            have e2 := isR_snoc r l (⟨((k + 1 : Nat) : Int), [], 9, 1⟩ : Wt)
            rw [e0] at e1 e2
            have e1 : isK r (l ++ [(⟨((k + 1 : Nat) : Int), [], 9, 1⟩ : Wt)]) = isK r l ++ [(⟨((k + 1 : Nat) : Int), [], 9, 1⟩ : Wt)] := e1
            have e2 : isR r (l ++ [(⟨((k + 1 : Nat) : Int), [], 9, 1⟩ : Wt)]) = isR r l := e2
            replace s : St W (Own 3 1 A4 ((isK r (l ++ [(⟨((k + 1 : Nat) : Int), [], 9, 1⟩ : Wt)])).length) c5 (ints (nums (isK r (l ++ [(⟨((k + 1 : Nat) : Int), [], 9, 1⟩ : Wt)])))) :: Own 3 1 Ar ((isR r (l ++ [(⟨((k + 1 : Nat) : Int), [], 9, 1⟩ : Wt)])).length) cr (ints (nums (isR r (l ++ [(⟨((k + 1 : Nat) : Int), [], 9, 1⟩ : Wt)])))) :: Lob g1 (l ++ [(⟨((k + 1 : Nat) : Int), [], 9, 1⟩ : Wt)]) :: .blk g2 [.string (str []), .string (str [97]), .string (str [98])] 9 :: L) w := by rw [e1, e2]; simpa [nums, ints] using s
            exact ⟨(k + 1, l ++ [(⟨((k + 1 : Nat) : Int), [], 9, 1⟩ : Wt)], A4, c5, Ar, cr), (show 60 - (k + 1) < 60 - k by omega), (Has.cons ha (by kernel_rfl) (by kernel_rfl) (Has.cons ha (by kernel_rfl) (by kernel_rfl) (Has.cons ha (by kernel_rfl) (by kernel_rfl) (Has.cons ha (by kernel_rfl) (by kernel_rfl) (Has.cons ha (by kernel_rfl) (by rw [e1]; rw [List.length_append]; rfl) (Has.cons ha (by kernel_rfl) (by rw [e2]; rfl) (Has.cons ha (by kernel_rfl) (by kernel_rfl) (Has.nil ha)))))))), s, (show k + 1 ≤ 60 by omega), hadd.2 ▸ hpf.add (⟨((k + 1 : Nat) : Int), [], 9, 1⟩ : Wt), hpu.snoc rfl⟩
          · rw [hb] at ha; have hb_ := hb; replace hb := ne_of_beq_false hb
            refine wp_seq ?_
            refine wp_region_lit ?_
            refine st_val (.int .i64 0) ha (by kernel_rfl) (by kernel_rfl) ?_
            clear ha; intro a ha
            refine st_val (.int .i64 0) ha (by kernel_rfl) (by kernel_rfl) ?_
            clear ha; intro a ha
            refine st_val (.bool true) ha (by kernel_rfl) (by kernel_rfl) ?_
            clear ha; intro a ha
            refine wpList_nil ?_
            refine then_normal ?_
            refine wp_true ha rfl (by kernel_rfl) ?_
            refine wp_region_lit ?_
            refine st_val (.slice Ar ((isR r l).length) cr) ha (by kernel_rfl) (by kernel_rfl) ?_
            clear ha; intro a ha
            refine st_val (.int .i64 ((k : Nat) : Int)) ha (by kernel_rfl) (by kernel_rfl) ?_
            clear ha; intro a ha
            refine st_val (.int .i64 ((k + 1 : Nat) : Int)) ha (by kernel_rfl) (run_arith (((k : Nat) : Int) + (1 : Int)) ((k + 1 : Nat) : Int) rfl (by kernel_rfl) (by kernel_rfl) (.inl ⟨rfl, rfl⟩) (by rw [wrap64_in (by omega)]; try omega) _) ?_
            clear ha; intro a ha
            refine st_ex ha (by kernel_rfl) (ex_buildSlice elt55 _ zs55 [.int .i64 ((k + 1 : Nat) : Int)] s rfl (by kernel_rfl) (by decide)) ?_
            clear ha; rintro _ w a ⟨g6, rfl, s⟩ ha
            replace s : St W (.blk g6 [.int .i64 ((k + 1 : Nat) : Int)] 3 :: Lob g1 (l ++ [(⟨((k + 1 : Nat) : Int), [], 9, 1⟩ : Wt)]) :: Own 3 1 Af ((isK r l).length) cf (ints (nums (isK r l))) :: Own 3 1 Ar ((isR r l).length) cr (ints (nums (isR r l))) :: .blk g2 [.string (str []), .string (str [97]), .string (str [98])] 9 :: L) w := s
            refine st_ex ha (by kernel_rfl) (ex_append (m := 1) (d' := 1) elt55 (by decide) 3 [.int .i64 ((k + 1 : Nat) : Int)] s rfl (by kernel_rfl) (by kernel_rfl) rfl (reads_blk (s.blkIs 0 rfl) rfl) (by simp [Value.oneCell']) (by simp only [maxLen]; omega) (by omega)) ?_
            clear ha; rintro _ w a ⟨A7, c8, rfl, hA_, s⟩ ha
            replace s : St W (.blk g6 [.int .i64 ((k + 1 : Nat) : Int)] 3 :: Lob g1 (l ++ [(⟨((k + 1 : Nat) : Int), [], 9, 1⟩ : Wt)]) :: Own 3 1 Af ((isK r l).length) cf (ints (nums (isK r l))) :: Own 3 1 A7 ((isR r l).length + 1) c8 ((ints (nums (isR r l))) ++ [.int .i64 ((k + 1 : Nat) : Int)]) :: .blk g2 [.string (str []), .string (str [97]), .string (str [98])] 9 :: L) w := s
            refine st_val (.slice A7 ((isR r l).length + 1) c8) ha (by kernel_rfl) (by kernel_rfl) ?_
            clear ha; intro a ha
            refine wpList_nil ?_
            refine block_normal ?_
            refine then_normal ?_
            refine wp_region_lit ?_
            refine st_val (.int .i64 ((k : Nat) : Int)) ha (by kernel_rfl) (by kernel_rfl) ?_
            clear ha; intro a ha
            refine st_val (.int .i64 ((k + 1 : Nat) : Int)) ha (by kernel_rfl) (run_arith (((k : Nat) : Int) + (1 : Int)) ((k + 1 : Nat) : Int) rfl (by kernel_rfl) (by kernel_rfl) (.inl ⟨rfl, rfl⟩) (by rw [wrap64_in (by omega)]; try omega) _) ?_
            clear ha; intro a ha
            refine st_val (.int .i64 ((k + 1 : Nat) : Int)) ha (by kernel_rfl) (by kernel_rfl) ?_
            clear ha; intro a ha
            refine wpList_nil ?_
            refine then_normal ?_
            replace s := s.at_ (j := 4) rfl
            replace s : St W (.blk g2 [.string (str []), .string (str [97]), .string (str [98])] 9 :: .blk g6 [.int .i64 ((k + 1 : Nat) : Int)] 3 :: Lob g1 (l ++ [(⟨((k + 1 : Nat) : Int), [], 9, 1⟩ : Wt)]) :: Own 3 1 Af ((isK r l).length) cf (ints (nums (isK r l))) :: Own 3 1 A7 ((isR r l).length + 1) c8 ((ints (nums (isR r l))) ++ [.int .i64 ((k + 1 : Nat) : Int)]) :: L) w := s
            replace s := s.at_ (j := 2) rfl
            replace s : St W (Lob g1 (l ++ [(⟨((k + 1 : Nat) : Int), [], 9, 1⟩ : Wt)]) :: .blk g2 [.string (str []), .string (str [97]), .string (str [98])] 9 :: .blk g6 [.int .i64 ((k + 1 : Nat) : Int)] 3 :: Own 3 1 Af ((isK r l).length) cf (ints (nums (isK r l))) :: Own 3 1 A7 ((isR r l).length + 1) c8 ((ints (nums (isR r l))) ++ [.int .i64 ((k + 1 : Nat) : Int)]) :: L) w := s
            replace s := s.at_ (j := 4) rfl
            replace s : St W (Own 3 1 A7 ((isR r l).length + 1) c8 ((ints (nums (isR r l))) ++ [.int .i64 ((k + 1 : Nat) : Int)]) :: Lob g1 (l ++ [(⟨((k + 1 : Nat) : Int), [], 9, 1⟩ : Wt)]) :: .blk g2 [.string (str []), .string (str [97]), .string (str [98])] 9 :: .blk g6 [.int .i64 ((k + 1 : Nat) : Int)] 3 :: Own 3 1 Af ((isK r l).length) cf (ints (nums (isK r l))) :: L) w := s
            replace s := s.at_ (j := 4) rfl
            replace s : St W (Own 3 1 Af ((isK r l).length) cf (ints (nums (isK r l))) :: Own 3 1 A7 ((isR r l).length + 1) c8 ((ints (nums (isR r l))) ++ [.int .i64 ((k + 1 : Nat) : Int)]) :: Lob g1 (l ++ [(⟨((k + 1 : Nat) : Int), [], 9, 1⟩ : Wt)]) :: .blk g2 [.string (str []), .string (str [97]), .string (str [98])] 9 :: .blk g6 [.int .i64 ((k + 1 : Nat) : Int)] 3 :: L) w := s
            replace s : St W (Own 3 1 Af ((isK r l).length) cf (ints (nums (isK r l))) :: Own 3 1 A7 ((isR r l).length + 1) c8 ((ints (nums (isR r l))) ++ [.int .i64 ((k + 1 : Nat) : Int)]) :: Lob g1 (l ++ [(⟨((k + 1 : Nat) : Int), [], 9, 1⟩ : Wt)]) :: .blk g2 [.string (str []), .string (str [97]), .string (str [98])] 9 :: L) w := St.mid (A := [Own 3 1 Af ((isK r l).length) cf (ints (nums (isK r l))), Own 3 1 A7 ((isR r l).length + 1) c8 ((ints (nums (isR r l))) ++ [.int .i64 ((k + 1 : Nat) : Int)]), Lob g1 (l ++ [(⟨((k + 1 : Nat) : Int), [], 9, 1⟩ : Wt)]), .blk g2 [.string (str []), .string (str [97]), .string (str [98])] 9]) (B := [.blk g6 [.int .i64 ((k + 1 : Nat) : Int)] 3]) s
            have e0 : byKey (kk r) 1 (⟨((k + 1 : Nat) : Int), [], 9, 1⟩ : Wt) = false := by unfold byKey; simp; unfold kk; intro h; split at h <;> (first | omega | (split at h <;> first | omega | cases h | (exact absurd h (by decide))) | cases h | exact absurd h (by decide))
            have e1 := isK_snoc r l (⟨((k + 1 : Nat) : Int), [], 9, 1⟩ : Wt)
            have e2 := isR_snoc r l (⟨((k + 1 : Nat) : Int), [], 9, 1⟩ : Wt)
            rw [e0] at e1 e2
            have e1 : isK r (l ++ [(⟨((k + 1 : Nat) : Int), [], 9, 1⟩ : Wt)]) = isK r l := e1
            have e2 : isR r (l ++ [(⟨((k + 1 : Nat) : Int), [], 9, 1⟩ : Wt)]) = isR r l ++ [(⟨((k + 1 : Nat) : Int), [], 9, 1⟩ : Wt)] := e2
            replace s : St W (Own 3 1 Af ((isK r (l ++ [(⟨((k + 1 : Nat) : Int), [], 9, 1⟩ : Wt)])).length) cf (ints (nums (isK r (l ++ [(⟨((k + 1 : Nat) : Int), [], 9, 1⟩ : Wt)])))) :: Own 3 1 A7 ((isR r (l ++ [(⟨((k + 1 : Nat) : Int), [], 9, 1⟩ : Wt)])).length) c8 (ints (nums (isR r (l ++ [(⟨((k + 1 : Nat) : Int), [], 9, 1⟩ : Wt)])))) :: Lob g1 (l ++ [(⟨((k + 1 : Nat) : Int), [], 9, 1⟩ : Wt)]) :: .blk g2 [.string (str []), .string (str [97]), .string (str [98])] 9 :: L) w := by rw [e1, e2]; simpa [nums, ints] using s
            exact ⟨(k + 1, l ++ [(⟨((k + 1 : Nat) : Int), [], 9, 1⟩ : Wt)], Af, cf, A7, c8), (show 60 - (k + 1) < 60 - k by omega), (Has.cons ha (by kernel_rfl) (by kernel_rfl) (Has.cons ha (by kernel_rfl) (by kernel_rfl) (Has.cons ha (by kernel_rfl) (by kernel_rfl) (Has.cons ha (by kernel_rfl) (by kernel_rfl) (Has.cons ha (by kernel_rfl) (by rw [e1]; rfl) (Has.cons ha (by kernel_rfl) (by rw [e2]; rw [List.length_append]; rfl) (Has.cons ha (by kernel_rfl) (by kernel_rfl) (Has.nil ha)))))))), s, (show k + 1 ≤ 60 by omega), hadd.2 ▸ hpf.add (⟨((k + 1 : Nat) : Int), [], 9, 1⟩ : Wt), hpu.snoc rfl⟩
        · skip
          refine st_call ha (by kernel_rfl) (by kernel_rfl) (bring_to W _ w z 6 1 hq (by omega) (by omega) s) ?_
          rintro _ w ⟨rfl, s⟩
          replace s : St W (Own 3 1 Af ((isK r l).length) cf (ints (nums (isK r l))) :: Own 3 1 Ar ((isR r l).length) cr (ints (nums (isR r l))) :: Lob g1 l :: .blk g2 [.string (str []), .string (str [97]), .string (str [98])] 9 :: L) w := s
          refine ⟨_, rfl, ?_⟩; clear ha; intro a ha
          refine st_val (.int .i64 1) ha (by kernel_rfl) (by kernel_rfl) ?_
          clear ha; intro a ha
          refine wpList_nil ?_
          refine then_normal ?_
          refine wp_seq ?_
          refine wp_seq ?_
          refine wp_region_lit ?_
          refine st_val (.pointer (some ⟨g1, 0, none⟩)) ha (by kernel_rfl) (by kernel_rfl) ?_
          clear ha; intro a ha
          refine st_val (.int .i64 ((k : Nat) : Int)) ha (by kernel_rfl) (by kernel_rfl) ?_
          clear ha; intro a ha
          refine st_val (.int .i64 ((k + 1 : Nat) : Int)) ha (by kernel_rfl) (run_arith (((k : Nat) : Int) + (1 : Int)) ((k + 1 : Nat) : Int) rfl (by kernel_rfl) (by kernel_rfl) (.inl ⟨rfl, rfl⟩) (by rw [wrap64_in (by omega)]; try omega) _) ?_
          clear ha; intro a ha
          refine st_val (.slice (some ⟨g2, 0, none⟩) 3 3) ha (by kernel_rfl) (by kernel_rfl) ?_
          clear ha; intro a ha
          refine st_val (.int .i64 1) ha (by kernel_rfl) (by kernel_rfl) ?_
          clear ha; intro a ha
          refine st_val (.int .i64 0) ha (by kernel_rfl) (by kernel_rfl) ?_
          clear ha; intro a ha
          refine st_val (.pointer (some ⟨g2, 0, none⟩)) ha (by kernel_rfl) (run_indexAddr (kd := .i64) (i := 0) (n := 3) (c := 3) 0 rfl Try.underlying56 Try.sizeOf9 (by kernel_rfl) (by kernel_rfl) rfl (by first | assumption | omega) _) ?_
          clear ha; intro a ha
          refine st_val (.string (str [])) ha (by kernel_rfl) (run_load1 (of_ := 0) (s.blkIs 3 rfl) rfl (by kernel_rfl) Try.isAgg9 rfl) ?_
          clear ha; intro a ha
          refine st_val (.int .i64 1) ha (by kernel_rfl) (by kernel_rfl) ?_
          clear ha; intro a ha
          refine st_val (.int .i64 1) ha (by kernel_rfl) (by kernel_rfl) ?_
          clear ha; intro a ha
          refine st_val (.int .i64 2) ha (by kernel_rfl) (by kernel_rfl) ?_
          clear ha; intro a ha
          refine st_call ha (by kernel_rfl) (by kernel_rfl) (wait_any W _ w ((k + 1 : Nat) : Int) 9 2 [] s) ?_
          rintro _ w ⟨rfl, s⟩
          replace s : St W (Own 3 1 Af ((isK r l).length) cf (ints (nums (isK r l))) :: Own 3 1 Ar ((isR r l).length) cr (ints (nums (isR r l))) :: Lob g1 l :: .blk g2 [.string (str []), .string (str [97]), .string (str [98])] 9 :: L) w := s
          refine ⟨_, rfl, ?_⟩; clear ha; intro a ha
          replace s := s.at_ (j := 2) rfl
          replace s : St W (Lob g1 l :: Own 3 1 Af ((isK r l).length) cf (ints (nums (isK r l))) :: Own 3 1 Ar ((isR r l).length) cr (ints (nums (isR r l))) :: .blk g2 [.string (str []), .string (str [97]), .string (str [98])] 9 :: L) w := s
          have hadd := add_new (x := (⟨((k + 1 : Nat) : Int), [], 9, 2⟩ : Wt)) hpu (by omega) rfl (by simp only; omega) (by simp only; omega) (by simp only; omega)
          refine st_call ha (by kernel_rfl) (by kernel_rfl) (add_is W _ w g1 l (⟨((k + 1 : Nat) : Int), [], 9, 2⟩ : Wt) 0 (l ++ [(⟨((k + 1 : Nat) : Int), [], 9, 2⟩ : Wt)]) hadd.1 hadd.2 hpf s) ?_
          rintro _ w ⟨rfl, s⟩
          replace s : St W (Lob g1 (l ++ [(⟨((k + 1 : Nat) : Int), [], 9, 2⟩ : Wt)]) :: Own 3 1 Af ((isK r l).length) cf (ints (nums (isK r l))) :: Own 3 1 Ar ((isR r l).length) cr (ints (nums (isR r l))) :: .blk g2 [.string (str []), .string (str [97]), .string (str [98])] 9 :: L) w := s
          refine ⟨_, rfl, ?_⟩; clear ha; intro a ha
          refine st_val (.bool false) ha (by kernel_rfl) (by kernel_rfl) ?_
          clear ha; intro a ha
          refine wpList_nil ?_
          refine then_normal ?_
          refine wp_false ha rfl (by kernel_rfl) ?_
          refine wp_skip ?_
          refine then_normal ?_
          refine wp_seq ?_
          refine wp_region_lit ?_
          refine st_val (.int .i64 1) ha (by kernel_rfl) (by kernel_rfl) ?_
          clear ha; intro a ha
          refine st_val (.int .i64 1) ha (by kernel_rfl) (by kernel_rfl) ?_
          clear ha; intro a ha
          refine st_val (.bool false) ha (by kernel_rfl) (by kernel_rfl) ?_
          clear ha; intro a ha
          refine st_val (.bool false) ha (by kernel_rfl) (by kernel_rfl) ?_
          clear ha; intro a ha
          refine st_pass ha (by kernel_rfl) ?_
          clear ha; intro a ha
          refine st_pass ha (by kernel_rfl) ?_
          clear ha; intro a ha
          refine st_pass ha (by kernel_rfl) ?_
          clear ha; intro a ha
          refine st_pass ha (by kernel_rfl) ?_
          clear ha; intro a ha
          refine st_pass ha (by kernel_rfl) ?_
          clear ha; intro a ha
          refine st_val (.bool false) ha (by kernel_rfl) (by kernel_rfl) ?_
          clear ha; intro a ha
          refine wpList_nil ?_
          refine then_normal ?_
          refine wp_false ha rfl (by kernel_rfl) ?_
          refine wp_seq ?_
          refine wp_region_lit ?_
          refine st_val (.int .i64 1) ha (by kernel_rfl) (by kernel_rfl) ?_
          clear ha; intro a ha
          refine st_val (.int .i64 1) ha (by kernel_rfl) (by kernel_rfl) ?_
          clear ha; intro a ha
          refine st_val (.bool false) ha (by kernel_rfl) (by kernel_rfl) ?_
          clear ha; intro a ha
          refine wpList_nil ?_
          refine then_normal ?_
          refine wp_false ha rfl (by kernel_rfl) ?_
          refine wp_skip ?_
          refine block_normal ?_
          refine then_normal ?_
          refine wp_region_lit ?_
          refine st_val (.int .i64 ((k : Nat) : Int)) ha (by kernel_rfl) (by kernel_rfl) ?_
          clear ha; intro a ha
          refine st_val (.int .i64 ((k + 1 : Nat) : Int)) ha (by kernel_rfl) (run_arith (((k : Nat) : Int) + (1 : Int)) ((k + 1 : Nat) : Int) rfl (by kernel_rfl) (by kernel_rfl) (.inl ⟨rfl, rfl⟩) (by rw [wrap64_in (by omega)]; try omega) _) ?_
          clear ha; intro a ha
          refine st_val (.int .i64 ((k + 1 : Nat) : Int)) ha (by kernel_rfl) (by kernel_rfl) ?_
          clear ha; intro a ha
          refine wpList_nil ?_
          refine then_normal ?_
          replace s := s.at_ (j := 3) rfl
          replace s : St W (.blk g2 [.string (str []), .string (str [97]), .string (str [98])] 9 :: Lob g1 (l ++ [(⟨((k + 1 : Nat) : Int), [], 9, 2⟩ : Wt)]) :: Own 3 1 Af ((isK r l).length) cf (ints (nums (isK r l))) :: Own 3 1 Ar ((isR r l).length) cr (ints (nums (isR r l))) :: L) w := s
          replace s := s.at_ (j := 1) rfl
          replace s : St W (Lob g1 (l ++ [(⟨((k + 1 : Nat) : Int), [], 9, 2⟩ : Wt)]) :: .blk g2 [.string (str []), .string (str [97]), .string (str [98])] 9 :: Own 3 1 Af ((isK r l).length) cf (ints (nums (isK r l))) :: Own 3 1 Ar ((isR r l).length) cr (ints (nums (isR r l))) :: L) w := s
          replace s := s.at_ (j := 3) rfl
          replace s : St W (Own 3 1 Ar ((isR r l).length) cr (ints (nums (isR r l))) :: Lob g1 (l ++ [(⟨((k + 1 : Nat) : Int), [], 9, 2⟩ : Wt)]) :: .blk g2 [.string (str []), .string (str [97]), .string (str [98])] 9 :: Own 3 1 Af ((isK r l).length) cf (ints (nums (isK r l))) :: L) w := s
          replace s := s.at_ (j := 3) rfl
          replace s : St W (Own 3 1 Af ((isK r l).length) cf (ints (nums (isK r l))) :: Own 3 1 Ar ((isR r l).length) cr (ints (nums (isR r l))) :: Lob g1 (l ++ [(⟨((k + 1 : Nat) : Int), [], 9, 2⟩ : Wt)]) :: .blk g2 [.string (str []), .string (str [97]), .string (str [98])] 9 :: L) w := s
          have e0 : byKey (kk r) 1 (⟨((k + 1 : Nat) : Int), [], 9, 2⟩ : Wt) = false := by unfold byKey; simp
          have e1 := isK_snoc r l (⟨((k + 1 : Nat) : Int), [], 9, 2⟩ : Wt)
          have e2 := isR_snoc r l (⟨((k + 1 : Nat) : Int), [], 9, 2⟩ : Wt)
          rw [e0] at e1 e2
          have e1 : isK r (l ++ [(⟨((k + 1 : Nat) : Int), [], 9, 2⟩ : Wt)]) = isK r l := e1
          have e2 : isR r (l ++ [(⟨((k + 1 : Nat) : Int), [], 9, 2⟩ : Wt)]) = isR r l := e2
          replace s : St W (Own 3 1 Af ((isK r (l ++ [(⟨((k + 1 : Nat) : Int), [], 9, 2⟩ : Wt)])).length) cf (ints (nums (isK r (l ++ [(⟨((k + 1 : Nat) : Int), [], 9, 2⟩ : Wt)])))) :: Own 3 1 Ar ((isR r (l ++ [(⟨((k + 1 : Nat) : Int), [], 9, 2⟩ : Wt)])).length) cr (ints (nums (isR r (l ++ [(⟨((k + 1 : Nat) : Int), [], 9, 2⟩ : Wt)])))) :: Lob g1 (l ++ [(⟨((k + 1 : Nat) : Int), [], 9, 2⟩ : Wt)]) :: .blk g2 [.string (str []), .string (str [97]), .string (str [98])] 9 :: L) w := by rw [e1, e2]; simpa [nums, ints] using s
          exact ⟨(k + 1, l ++ [(⟨((k + 1 : Nat) : Int), [], 9, 2⟩ : Wt)], Af, cf, Ar, cr), (show 60 - (k + 1) < 60 - k by omega), (Has.cons ha (by kernel_rfl) (by kernel_rfl) (Has.cons ha (by kernel_rfl) (by kernel_rfl) (Has.cons ha (by kernel_rfl) (by kernel_rfl) (Has.cons ha (by kernel_rfl) (by kernel_rfl) (Has.cons ha (by kernel_rfl) (by rw [e1]; rfl) (Has.cons ha (by kernel_rfl) (by rw [e2]; rfl) (Has.cons ha (by kernel_rfl) (by kernel_rfl) (Has.nil ha)))))))), s, (show k + 1 ≤ 60 by omega), hadd.2 ▸ hpf.add (⟨((k + 1 : Nat) : Int), [], 9, 2⟩ : Wt), hpu.snoc rfl⟩
        · skip
          refine st_call ha (by kernel_rfl) (by kernel_rfl) (bring_to W _ w z 6 2 hq (by omega) (by omega) s) ?_
          rintro _ w ⟨rfl, s⟩
          replace s : St W (Own 3 1 Af ((isK r l).length) cf (ints (nums (isK r l))) :: Own 3 1 Ar ((isR r l).length) cr (ints (nums (isR r l))) :: Lob g1 l :: .blk g2 [.string (str []), .string (str [97]), .string (str [98])] 9 :: L) w := s
          refine ⟨_, rfl, ?_⟩; clear ha; intro a ha
          refine st_val (.int .i64 2) ha (by kernel_rfl) (by kernel_rfl) ?_
          clear ha; intro a ha
          refine wpList_nil ?_
          refine then_normal ?_
          refine wp_seq ?_
          refine wp_seq ?_
          refine wp_region_lit ?_
          refine st_val (.pointer (some ⟨g1, 0, none⟩)) ha (by kernel_rfl) (by kernel_rfl) ?_
          clear ha; intro a ha
          refine st_val (.int .i64 ((k : Nat) : Int)) ha (by kernel_rfl) (by kernel_rfl) ?_
          clear ha; intro a ha
          refine st_val (.int .i64 ((k + 1 : Nat) : Int)) ha (by kernel_rfl) (run_arith (((k : Nat) : Int) + (1 : Int)) ((k + 1 : Nat) : Int) rfl (by kernel_rfl) (by kernel_rfl) (.inl ⟨rfl, rfl⟩) (by rw [wrap64_in (by omega)]; try omega) _) ?_
          clear ha; intro a ha
          refine st_val (.slice (some ⟨g2, 0, none⟩) 3 3) ha (by kernel_rfl) (by kernel_rfl) ?_
          clear ha; intro a ha
          refine st_val (.int .i64 2) ha (by kernel_rfl) (by kernel_rfl) ?_
          clear ha; intro a ha
          refine st_val (.int .i64 1) ha (by kernel_rfl) (by kernel_rfl) ?_
          clear ha; intro a ha
          refine st_val (.pointer (some ⟨g2, 1, none⟩)) ha (by kernel_rfl) (run_indexAddr (kd := .i64) (i := 1) (n := 3) (c := 3) 1 rfl Try.underlying56 Try.sizeOf9 (by kernel_rfl) (by kernel_rfl) rfl (by first | assumption | omega) _) ?_
          clear ha; intro a ha
          refine st_val (.string (str [97])) ha (by kernel_rfl) (run_load1 (of_ := 1) (s.blkIs 3 rfl) rfl (by kernel_rfl) Try.isAgg9 rfl) ?_
          clear ha; intro a ha
          refine st_val (.int .i64 2) ha (by kernel_rfl) (by kernel_rfl) ?_
          clear ha; intro a ha
          refine st_val (.int .i64 0) ha (by kernel_rfl) (by kernel_rfl) ?_
          clear ha; intro a ha
          refine st_val (.int .i64 1) ha (by kernel_rfl) (by kernel_rfl) ?_
          clear ha; intro a ha
          refine st_call ha (by kernel_rfl) (by kernel_rfl) (wait_any W _ w ((k + 1 : Nat) : Int) 9 1 [97] s) ?_
          rintro _ w ⟨rfl, s⟩
          replace s : St W (Own 3 1 Af ((isK r l).length) cf (ints (nums (isK r l))) :: Own 3 1 Ar ((isR r l).length) cr (ints (nums (isR r l))) :: Lob g1 l :: .blk g2 [.string (str []), .string (str [97]), .string (str [98])] 9 :: L) w := s
          refine ⟨_, rfl, ?_⟩; clear ha; intro a ha
          replace s := s.at_ (j := 2) rfl
          replace s : St W (Lob g1 l :: Own 3 1 Af ((isK r l).length) cf (ints (nums (isK r l))) :: Own 3 1 Ar ((isR r l).length) cr (ints (nums (isR r l))) :: .blk g2 [.string (str []), .string (str [97]), .string (str [98])] 9 :: L) w := s
          have hadd := add_new (x := (⟨((k + 1 : Nat) : Int), [97], 9, 1⟩ : Wt)) hpu (by omega) rfl (by simp only; omega) (by simp only; omega) (by simp only; omega)
          refine st_call ha (by kernel_rfl) (by kernel_rfl) (add_is W _ w g1 l (⟨((k + 1 : Nat) : Int), [97], 9, 1⟩ : Wt) 0 (l ++ [(⟨((k + 1 : Nat) : Int), [97], 9, 1⟩ : Wt)]) hadd.1 hadd.2 hpf s) ?_
          rintro _ w ⟨rfl, s⟩
          replace s : St W (Lob g1 (l ++ [(⟨((k + 1 : Nat) : Int), [97], 9, 1⟩ : Wt)]) :: Own 3 1 Af ((isK r l).length) cf (ints (nums (isK r l))) :: Own 3 1 Ar ((isR r l).length) cr (ints (nums (isR r l))) :: .blk g2 [.string (str []), .string (str [97]), .string (str [98])] 9 :: L) w := s
          refine ⟨_, rfl, ?_⟩; clear ha; intro a ha
          refine st_val (.bool false) ha (by kernel_rfl) (by kernel_rfl) ?_
          clear ha; intro a ha
          refine wpList_nil ?_
          refine then_normal ?_
          refine wp_false ha rfl (by kernel_rfl) ?_
          refine wp_skip ?_
          refine then_normal ?_
          refine wp_seq ?_
          refine wp_region_lit ?_
          refine st_val (.int .i64 2) ha (by kernel_rfl) (by kernel_rfl) ?_
          clear ha; intro a ha
          refine st_val (.int .i64 0) ha (by kernel_rfl) (by kernel_rfl) ?_
          clear ha; intro a ha
          refine st_val (.bool true) ha (by kernel_rfl) (by kernel_rfl) ?_
          clear ha; intro a ha
          refine st_val (.bool true) ha (by kernel_rfl) (by kernel_rfl) ?_
          clear ha; intro a ha
          refine st_val (.int .i64 2) ha (by kernel_rfl) (by kernel_rfl) ?_
          clear ha; intro a ha
          refine st_val (.int .i64 1) ha (by kernel_rfl) (by kernel_rfl) ?_
          clear ha; intro a ha
          refine st_val (.int .i64 a_) ha (by kernel_rfl) (by kernel_rfl) ?_
          clear ha; intro a ha
          refine st_call ha (by kernel_rfl) (by kernel_rfl) (bring_to W _ w a_ 3 r hr0 (by omega) (by omega) s) ?_
          rintro _ w ⟨rfl, s⟩
          replace s : St W (Lob g1 (l ++ [(⟨((k + 1 : Nat) : Int), [97], 9, 1⟩ : Wt)]) :: Own 3 1 Af ((isK r l).length) cf (ints (nums (isK r l))) :: Own 3 1 Ar ((isR r l).length) cr (ints (nums (isR r l))) :: .blk g2 [.string (str []), .string (str [97]), .string (str [98])] 9 :: L) w := s
          refine ⟨_, rfl, ?_⟩; clear ha; intro a ha
          refine st_val (.bool ((1 : Int) == r)) ha (by kernel_rfl) (by kernel_rfl) ?_
          clear ha; intro a ha
          refine st_val (.bool ((1 : Int) == r)) ha (by kernel_rfl) (by kernel_rfl) ?_
          clear ha; intro a ha
          refine wpList_nil ?_
          refine then_normal ?_
          refine wp_part ((1 : Int) == r) ha rfl (by kernel_rfl) (fun hb => ?_) (fun hb => ?_)
          · rw [hb] at ha; have hb_ := hb; replace hb := eq_of_beq hb
            refine wp_region_lit ?_
            refine st_val (.slice Af ((isK r l).length) cf) ha (by kernel_rfl) (by kernel_rfl) ?_
            clear ha; intro a ha
            refine st_val (.int .i64 ((k : Nat) : Int)) ha (by kernel_rfl) (by kernel_rfl) ?_
            clear ha; intro a ha
            refine st_val (.int .i64 ((k + 1 : Nat) : Int)) ha (by kernel_rfl) (run_arith (((k : Nat) : Int) + (1 : Int)) ((k + 1 : Nat) : Int) rfl (by kernel_rfl) (by kernel_rfl) (.inl ⟨rfl, rfl⟩) (by rw [wrap64_in (by omega)]; try omega) _) ?_
            clear ha; intro a ha
            refine st_ex ha (by kernel_rfl) (ex_buildSlice elt55 _ zs55 [.int .i64 ((k + 1 : Nat) : Int)] s rfl (by kernel_rfl) (by decide)) ?_
            clear ha; rintro _ w a ⟨g9, rfl, s⟩ ha
            replace s : St W (.blk g9 [.int .i64 ((k + 1 : Nat) : Int)] 3 :: Lob g1 (l ++ [(⟨((k + 1 : Nat) : Int), [97], 9, 1⟩ : Wt)]) :: Own 3 1 Af ((isK r l).length) cf (ints (nums (isK r l))) :: Own 3 1 Ar ((isR r l).length) cr (ints (nums (isR r l))) :: .blk g2 [.string (str []), .string (str [97]), .string (str [98])] 9 :: L) w := s
            refine st_ex ha (by kernel_rfl) (ex_append (m := 1) (d' := 1) elt55 (by decide) 2 [.int .i64 ((k + 1 : Nat) : Int)] s rfl (by kernel_rfl) (by kernel_rfl) rfl (reads_blk (s.blkIs 0 rfl) rfl) (by simp [Value.oneCell']) (by simp only [maxLen]; omega) (by omega)) ?_
            clear ha; rintro _ w a ⟨A10, c11, rfl, hA_, s⟩ ha
            replace s : St W (.blk g9 [.int .i64 ((k + 1 : Nat) : Int)] 3 :: Lob g1 (l ++ [(⟨((k + 1 : Nat) : Int), [97], 9, 1⟩ : Wt)]) :: Own 3 1 A10 ((isK r l).length + 1) c11 ((ints (nums (isK r l))) ++ [.int .i64 ((k + 1 : Nat) : Int)]) :: Own 3 1 Ar ((isR r l).length) cr (ints (nums (isR r l))) :: .blk g2 [.string (str []), .string (str [97]), .string (str [98])] 9 :: L) w := s
            refine st_val (.slice A10 ((isK r l).length + 1) c11) ha (by kernel_rfl) (by kernel_rfl) ?_
            clear ha; intro a ha
            refine wpList_nil ?_
            refine block_normal ?_
            refine then_normal ?_
            refine wp_region_lit ?_
            refine st_val (.int .i64 ((k : Nat) : Int)) ha (by kernel_rfl) (by kernel_rfl) ?_
            clear ha; intro a ha
            refine st_val (.int .i64 ((k + 1 : Nat) : Int)) ha (by kernel_rfl) (run_arith (((k : Nat) : Int) + (1 : Int)) ((k + 1 : Nat) : Int) rfl (by kernel_rfl) (by kernel_rfl) (.inl ⟨rfl, rfl⟩) (by rw [wrap64_in (by omega)]; try omega) _) ?_
            clear ha; intro a ha
            refine st_val (.int .i64 ((k + 1 : Nat) : Int)) ha (by kernel_rfl) (by kernel_rfl) ?_
            clear ha; intro a ha
            refine wpList_nil ?_
            refine then_normal ?_
            replace s := s.at_ (j := 4) rfl
            replace s : St W (.blk g2 [.string (str []), .string (str [97]), .string (str [98])] 9 :: .blk g9 [.int .i64 ((k + 1 : Nat) : Int)] 3 :: Lob g1 (l ++ [(⟨((k + 1 : Nat) : Int), [97], 9, 1⟩ : Wt)]) :: Own 3 1 A10 ((isK r l).length + 1) c11 ((ints (nums (isK r l))) ++ [.int .i64 ((k + 1 : Nat) : Int)]) :: Own 3 1 Ar ((isR r l).length) cr (ints (nums (isR r l))) :: L) w := s
            replace s := s.at_ (j := 2) rfl
            replace s : St W (Lob g1 (l ++ [(⟨((k + 1 : Nat) : Int), [97], 9, 1⟩ : Wt)]) :: .blk g2 [.string (str []), .string (str [97]), .string (str [98])] 9 :: .blk g9 [.int .i64 ((k + 1 : Nat) : Int)] 3 :: Own 3 1 A10 ((isK r l).length + 1) c11 ((ints (nums (isK r l))) ++ [.int .i64 ((k + 1 : Nat) : Int)]) :: Own 3 1 Ar ((isR r l).length) cr (ints (nums (isR r l))) :: L) w := s
            replace s := s.at_ (j := 4) rfl
            replace s : St W (Own 3 1 Ar ((isR r l).length) cr (ints (nums (isR r l))) :: Lob g1 (l ++ [(⟨((k + 1 : Nat) : Int), [97], 9, 1⟩ : Wt)]) :: .blk g2 [.string (str []), .string (str [97]), .string (str [98])] 9 :: .blk g9 [.int .i64 ((k + 1 : Nat) : Int)] 3 :: Own 3 1 A10 ((isK r l).length + 1) c11 ((ints (nums (isK r l))) ++ [.int .i64 ((k + 1 : Nat) : Int)]) :: L) w := s
            replace s := s.at_ (j := 4) rfl
            replace s : St W (Own 3 1 A10 ((isK r l).length + 1) c11 ((ints (nums (isK r l))) ++ [.int .i64 ((k + 1 : Nat) : Int)]) :: Own 3 1 Ar ((isR r l).length) cr (ints (nums (isR r l))) :: Lob g1 (l ++ [(⟨((k + 1 : Nat) : Int), [97], 9, 1⟩ : Wt)]) :: .blk g2 [.string (str []), .string (str [97]), .string (str [98])] 9 :: .blk g9 [.int .i64 ((k + 1 : Nat) : Int)] 3 :: L) w := s
            replace s : St W (Own 3 1 A10 ((isK r l).length + 1) c11 ((ints (nums (isK r l))) ++ [.int .i64 ((k + 1 : Nat) : Int)]) :: Own 3 1 Ar ((isR r l).length) cr (ints (nums (isR r l))) :: Lob g1 (l ++ [(⟨((k + 1 : Nat) : Int), [97], 9, 1⟩ : Wt)]) :: .blk g2 [.string (str []), .string (str [97]), .string (str [98])] 9 :: L) w := St.mid (A := [Own 3 1 A10 ((isK r l).length + 1) c11 ((ints (nums (isK r l))) ++ [.int .i64 ((k + 1 : Nat) : Int)]), Own 3 1 Ar ((isR r l).length) cr (ints (nums (isR r l))), Lob g1 (l ++ [(⟨((k + 1 : Nat) : Int), [97], 9, 1⟩ : Wt)]), .blk g2 [.string (str []), .string (str [97]), .string (str [98])] 9]) (B := [.blk g9 [.int .i64 ((k + 1 : Nat) : Int)] 3]) s
            have e0 : byKey (kk r) 1 (⟨((k + 1 : Nat) : Int), [97], 9, 1⟩ : Wt) = true := by unfold byKey; simp [kk, ← hb]
            have e1 := isK_snoc r l (⟨((k + 1 : Nat) : Int), [97], 9, 1⟩ : Wt)
            have e2 := isR_snoc r l (⟨((k + 1 : Nat) : Int), [97], 9, 1⟩ : Wt)
            rw [e0] at e1 e2
            have e1 : isK r (l ++ [(⟨((k + 1 : Nat) : Int), [97], 9, 1⟩ : Wt)]) = isK r l ++ [(⟨((k + 1 : Nat) : Int), [97], 9, 1⟩ : Wt)] := e1
            have e2 : isR r (l ++ [(⟨((k + 1 : Nat) : Int), [97], 9, 1⟩ : Wt)]) = isR r l := e2
            replace s : St W (Own 3 1 A10 ((isK r (l ++ [(⟨((k + 1 : Nat) : Int), [97], 9, 1⟩ : Wt)])).length) c11 (ints (nums (isK r (l ++ [(⟨((k + 1 : Nat) : Int), [97], 9, 1⟩ : Wt)])))) :: Own 3 1 Ar ((isR r (l ++ [(⟨((k + 1 : Nat) : Int), [97], 9, 1⟩ : Wt)])).length) cr (ints (nums (isR r (l ++ [(⟨((k + 1 : Nat) : Int), [97], 9, 1⟩ : Wt)])))) :: Lob g1 (l ++ [(⟨((k + 1 : Nat) : Int), [97], 9, 1⟩ : Wt)]) :: .blk g2 [.string (str []), .string (str [97]), .string (str [98])] 9 :: L) w := by rw [e1, e2]; simpa [nums, ints] using s
            exact ⟨(k + 1, l ++ [(⟨((k + 1 : Nat) : Int), [97], 9, 1⟩ : Wt)], A10, c11, Ar, cr), (show 60 - (k + 1) < 60 - k by omega), (Has.cons ha (by kernel_rfl) (by kernel_rfl) (Has.cons ha (by kernel_rfl) (by kernel_rfl) (Has.cons ha (by kernel_rfl) (by kernel_rfl) (Has.cons ha (by kernel_rfl) (by kernel_rfl) (Has.cons ha (by kernel_rfl) (by rw [e1]; rw [List.length_append]; rfl) (Has.cons ha (by kernel_rfl) (by rw [e2]; rfl) (Has.cons ha (by kernel_rfl) (by kernel_rfl) (Has.nil ha)))))))), s, (show k + 1 ≤ 60 by omega), hadd.2 ▸ hpf.add (⟨((k + 1 : Nat) : Int), [97], 9, 1⟩ : Wt), hpu.snoc rfl⟩
          · rw [hb] at ha; have hb_ := hb; replace hb := ne_of_beq_false hb
            refine wp_seq ?_
            refine wp_region_lit ?_
            refine st_val (.int .i64 2) ha (by kernel_rfl) (by kernel_rfl) ?_
            clear ha; intro a ha
            refine st_val (.int .i64 0) ha (by kernel_rfl) (by kernel_rfl) ?_
            clear ha; intro a ha
            refine st_val (.bool true) ha (by kernel_rfl) (by kernel_rfl) ?_
            clear ha; intro a ha
            refine wpList_nil ?_
            refine then_normal ?_
            refine wp_true ha rfl (by kernel_rfl) ?_
            refine wp_region_lit ?_
            refine st_val (.slice Ar ((isR r l).length) cr) ha (by kernel_rfl) (by kernel_rfl) ?_
            clear ha; intro a ha
            refine st_val (.int .i64 ((k : Nat) : Int)) ha (by kernel_rfl) (by kernel_rfl) ?_
            clear ha; intro a ha
            refine st_val (.int .i64 ((k + 1 : Nat) : Int)) ha (by kernel_rfl) (run_arith (((k : Nat) : Int) + (1 : Int)) ((k + 1 : Nat) : Int) rfl (by kernel_rfl) (by kernel_rfl) (.inl ⟨rfl, rfl⟩) (by rw [wrap64_in (by omega)]; try omega) _) ?_
            clear ha; intro a ha
            refine st_ex ha (by kernel_rfl) (ex_buildSlice elt55 _ zs55 [.int .i64 ((k + 1 : Nat) : Int)] s rfl (by kernel_rfl) (by decide)) ?_
            clear ha; rintro _ w a ⟨g12, rfl, s⟩ ha
            replace s : St W (.blk g12 [.int .i64 ((k + 1 : Nat) : Int)] 3 :: Lob g1 (l ++ [(⟨((k + 1 : Nat) : Int), [97], 9, 1⟩ : Wt)]) :: Own 3 1 Af ((isK r l).length) cf (ints (nums (isK r l))) :: Own 3 1 Ar ((isR r l).length) cr (ints (nums (isR r l))) :: .blk g2 [.string (str []), .string (str [97]), .string (str [98])] 9 :: L) w := s
            refine st_ex ha (by kernel_rfl) (ex_append (m := 1) (d' := 1) elt55 (by decide) 3 [.int .i64 ((k + 1 : Nat) : Int)] s rfl (by kernel_rfl) (by kernel_rfl) rfl (reads_blk (s.blkIs 0 rfl) rfl) (by simp [Value.oneCell']) (by simp only [maxLen]; omega) (by omega)) ?_
            clear ha; rintro _ w a ⟨A13, c14, rfl, hA_, s⟩ ha
            replace s : St W (.blk g12 [.int .i64 ((k + 1 : Nat) : Int)] 3 :: Lob g1 (l ++ [(⟨((k + 1 : Nat) : Int), [97], 9, 1⟩ : Wt)]) :: Own 3 1 Af ((isK r l).length) cf (ints (nums (isK r l))) :: Own 3 1 A13 ((isR r l).length + 1) c14 ((ints (nums (isR r l))) ++ [.int .i64 ((k + 1 : Nat) : Int)]) :: .blk g2 [.string (str []), .string (str [97]), .string (str [98])] 9 :: L) w := s
            refine st_val (.slice A13 ((isR r l).length + 1) c14) ha (by kernel_rfl) (by kernel_rfl) ?_
            clear ha; intro a ha
            refine wpList_nil ?_
            refine block_normal ?_
            refine then_normal ?_
            refine wp_region_lit ?_
            refine st_val (.int .i64 ((k : Nat) : Int)) ha (by kernel_rfl) (by kernel_rfl) ?_
            clear ha; intro a ha
            refine st_val (.int .i64 ((k + 1 : Nat) : Int)) ha (by kernel_rfl) (run_arith (((k : Nat) : Int) + (1 : Int)) ((k + 1 : Nat) : Int) rfl (by kernel_rfl) (by kernel_rfl) (.inl ⟨rfl, rfl⟩) (by rw [wrap64_in (by omega)]; try omega) _) ?_
            clear ha; intro a ha
            refine st_val (.int .i64 ((k + 1 : Nat) : Int)) ha (by kernel_rfl) (by kernel_rfl) ?_
            clear ha; intro a ha
            refine wpList_nil ?_
            refine then_normal ?_
            replace s := s.at_ (j := 4) rfl
            replace s : St W (.blk g2 [.string (str []), .string (str [97]), .string (str [98])] 9 :: .blk g12 [.int .i64 ((k + 1 : Nat) : Int)] 3 :: Lob g1 (l ++ [(⟨((k + 1 : Nat) : Int), [97], 9, 1⟩ : Wt)]) :: Own 3 1 Af ((isK r l).length) cf (ints (nums (isK r l))) :: Own 3 1 A13 ((isR r l).length + 1) c14 ((ints (nums (isR r l))) ++ [.int .i64 ((k + 1 : Nat) : Int)]) :: L) w := s
            replace s := s.at_ (j := 2) rfl
            replace s : St W (Lob g1 (l ++ [(⟨((k + 1 : Nat) : Int), [97], 9, 1⟩ : Wt)]) :: .blk g2 [.string (str []), .string (str [97]), .string (str [98])] 9 :: .blk g12 [.int .i64 ((k + 1 : Nat) : Int)] 3 :: Own 3 1 Af ((isK r l).length) cf (ints (nums (isK r l))) :: Own 3 1 A13 ((isR r l).length + 1) c14 ((ints (nums (isR r l))) ++ [.int .i64 ((k + 1 : Nat) : Int)]) :: L) w := s
            replace s := s.at_ (j := 4) rfl
            replace s : St W (Own 3 1 A13 ((isR r l).length + 1) c14 ((ints (nums (isR r l))) ++ [.int .i64 ((k + 1 : Nat) : Int)]) :: Lob g1 (l ++ [(⟨((k + 1 : Nat) : Int), [97], 9, 1⟩ : Wt)]) :: .blk g2 [.string (str []), .string (str [97]), .string (str [98])] 9 :: .blk g12 [.int .i64 ((k + 1 : Nat) : Int)] 3 :: Own 3 1 Af ((isK r l).length) cf (ints (nums (isK r l))) :: L) w := s
            replace s := s.at_ (j := 4) rfl
            replace s : St W (Own 3 1 Af ((isK r l).length) cf (ints (nums (isK r l))) :: Own 3 1 A13 ((isR r l).length + 1) c14 ((ints (nums (isR r l))) ++ [.int .i64 ((k + 1 : Nat) : Int)]) :: Lob g1 (l ++ [(⟨((k + 1 : Nat) : Int), [97], 9, 1⟩ : Wt)]) :: .blk g2 [.string (str []), .string (str [97]), .string (str [98])] 9 :: .blk g12 [.int .i64 ((k + 1 : Nat) : Int)] 3 :: L) w := s
            replace s : St W (Own 3 1 Af ((isK r l).length) cf (ints (nums (isK r l))) :: Own 3 1 A13 ((isR r l).length + 1) c14 ((ints (nums (isR r l))) ++ [.int .i64 ((k + 1 : Nat) : Int)]) :: Lob g1 (l ++ [(⟨((k + 1 : Nat) : Int), [97], 9, 1⟩ : Wt)]) :: .blk g2 [.string (str []), .string (str [97]), .string (str [98])] 9 :: L) w := St.mid (A := [Own 3 1 Af ((isK r l).length) cf (ints (nums (isK r l))), Own 3 1 A13 ((isR r l).length + 1) c14 ((ints (nums (isR r l))) ++ [.int .i64 ((k + 1 : Nat) : Int)]), Lob g1 (l ++ [(⟨((k + 1 : Nat) : Int), [97], 9, 1⟩ : Wt)]), .blk g2 [.string (str []), .string (str [97]), .string (str [98])] 9]) (B := [.blk g12 [.int .i64 ((k + 1 : Nat) : Int)] 3]) s
            have e0 : byKey (kk r) 1 (⟨((k + 1 : Nat) : Int), [97], 9, 1⟩ : Wt) = false := by unfold byKey; simp; unfold kk; intro h; split at h <;> (first | omega | (split at h <;> first | omega | cases h | (exact absurd h (by decide))) | cases h | exact absurd h (by decide))
            have e1 := isK_snoc r l (⟨((k + 1 : Nat) : Int), [97], 9, 1⟩ : Wt)
            have e2 := isR_snoc r l (⟨((k + 1 : Nat) : Int), [97], 9, 1⟩ : Wt)
            rw [e0] at e1 e2
            have e1 : isK r (l ++ [(⟨((k + 1 : Nat) : Int), [97], 9, 1⟩ : Wt)]) = isK r l := e1
            have e2 : isR r (l ++ [(⟨((k + 1 : Nat) : Int), [97], 9, 1⟩ : Wt)]) = isR r l ++ [(⟨((k + 1 : Nat) : Int), [97], 9, 1⟩ : Wt)] := e2
            replace s : St W (Own 3 1 Af ((isK r (l ++ [(⟨((k + 1 : Nat) : Int), [97], 9, 1⟩ : Wt)])).length) cf (ints (nums (isK r (l ++ [(⟨((k + 1 : Nat) : Int), [97], 9, 1⟩ : Wt)])))) :: Own 3 1 A13 ((isR r (l ++ [(⟨((k + 1 : Nat) : Int), [97], 9, 1⟩ : Wt)])).length) c14 (ints (nums (isR r (l ++ [(⟨((k + 1 : Nat) : Int), [97], 9, 1⟩ : Wt)])))) :: Lob g1 (l ++ [(⟨((k + 1 : Nat) : Int), [97], 9, 1⟩ : Wt)]) :: .blk g2 [.string (str []), .string (str [97]), .string (str [98])] 9 :: L) w := by rw [e1, e2]; simpa [nums, ints] using s
            exact ⟨(k + 1, l ++ [(⟨((k + 1 : Nat) : Int), [97], 9, 1⟩ : Wt)], Af, cf, A13, c14), (show 60 - (k + 1) < 60 - k by omega), (Has.cons ha (by kernel_rfl) (by kernel_rfl) (Has.cons ha (by kernel_rfl) (by kernel_rfl) (Has.cons ha (by kernel_rfl) (by kernel_rfl) (Has.cons ha (by kernel_rfl) (by kernel_rfl) (Has.cons ha (by kernel_rfl) (by rw [e1]; rfl) (Has.cons ha (by kernel_rfl) (by rw [e2]; rw [List.length_append]; rfl) (Has.cons ha (by kernel_rfl) (by kernel_rfl) (Has.nil ha)))))))), s, (show k + 1 ≤ 60 by omega), hadd.2 ▸ hpf.add (⟨((k + 1 : Nat) : Int), [97], 9, 1⟩ : Wt), hpu.snoc rfl⟩
        · skip
          refine st_call ha (by kernel_rfl) (by kernel_rfl) (bring_to W _ w z 6 3 hq (by omega) (by omega) s) ?_
          rintro _ w ⟨rfl, s⟩
          replace s : St W (Own 3 1 Af ((isK r l).length) cf (ints (nums (isK r l))) :: Own 3 1 Ar ((isR r l).length) cr (ints (nums (isR r l))) :: Lob g1 l :: .blk g2 [.string (str []), .string (str [97]), .string (str [98])] 9 :: L) w := s
          refine ⟨_, rfl, ?_⟩; clear ha; intro a ha
          refine st_val (.int .i64 3) ha (by kernel_rfl) (by kernel_rfl) ?_
          clear ha; intro a ha
          refine wpList_nil ?_
          refine then_normal ?_
          refine wp_seq ?_
          refine wp_seq ?_
          refine wp_region_lit ?_
          refine st_val (.pointer (some ⟨g1, 0, none⟩)) ha (by kernel_rfl) (by kernel_rfl) ?_
          clear ha; intro a ha
          refine st_val (.int .i64 ((k : Nat) : Int)) ha (by kernel_rfl) (by kernel_rfl) ?_
          clear ha; intro a ha
          refine st_val (.int .i64 ((k + 1 : Nat) : Int)) ha (by kernel_rfl) (run_arith (((k : Nat) : Int) + (1 : Int)) ((k + 1 : Nat) : Int) rfl (by kernel_rfl) (by kernel_rfl) (.inl ⟨rfl, rfl⟩) (by rw [wrap64_in (by omega)]; try omega) _) ?_
          clear ha; intro a ha
          refine st_val (.slice (some ⟨g2, 0, none⟩) 3 3) ha (by kernel_rfl) (by kernel_rfl) ?_
          clear ha; intro a ha
          refine st_val (.int .i64 3) ha (by kernel_rfl) (by kernel_rfl) ?_
          clear ha; intro a ha
          refine st_val (.int .i64 1) ha (by kernel_rfl) (by kernel_rfl) ?_
          clear ha; intro a ha
          refine st_val (.pointer (some ⟨g2, 1, none⟩)) ha (by kernel_rfl) (run_indexAddr (kd := .i64) (i := 1) (n := 3) (c := 3) 1 rfl Try.underlying56 Try.sizeOf9 (by kernel_rfl) (by kernel_rfl) rfl (by first | assumption | omega) _) ?_
          clear ha; intro a ha
          refine st_val (.string (str [97])) ha (by kernel_rfl) (run_load1 (of_ := 1) (s.blkIs 3 rfl) rfl (by kernel_rfl) Try.isAgg9 rfl) ?_
          clear ha; intro a ha
          refine st_val (.int .i64 3) ha (by kernel_rfl) (by kernel_rfl) ?_
          clear ha; intro a ha
          refine st_val (.int .i64 1) ha (by kernel_rfl) (by kernel_rfl) ?_
          clear ha; intro a ha
          refine st_val (.int .i64 2) ha (by kernel_rfl) (by kernel_rfl) ?_
          clear ha; intro a ha
          refine st_call ha (by kernel_rfl) (by kernel_rfl) (wait_any W _ w ((k + 1 : Nat) : Int) 9 2 [97] s) ?_
          rintro _ w ⟨rfl, s⟩
          replace s : St W (Own 3 1 Af ((isK r l).length) cf (ints (nums (isK r l))) :: Own 3 1 Ar ((isR r l).length) cr (ints (nums (isR r l))) :: Lob g1 l :: .blk g2 [.string (str []), .string (str [97]), .string (str [98])] 9 :: L) w := s
          refine ⟨_, rfl, ?_⟩; clear ha; intro a ha
          replace s := s.at_ (j := 2) rfl
          replace s : St W (Lob g1 l :: Own 3 1 Af ((isK r l).length) cf (ints (nums (isK r l))) :: Own 3 1 Ar ((isR r l).length) cr (ints (nums (isR r l))) :: .blk g2 [.string (str []), .string (str [97]), .string (str [98])] 9 :: L) w := s
          have hadd := add_new (x := (⟨((k + 1 : Nat) : Int), [97], 9, 2⟩ : Wt)) hpu (by omega) rfl (by simp only; omega) (by simp only; omega) (by simp only; omega)
          refine st_call ha (by kernel_rfl) (by kernel_rfl) (add_is W _ w g1 l (⟨((k + 1 : Nat) : Int), [97], 9, 2⟩ : Wt) 0 (l ++ [(⟨((k + 1 : Nat) : Int), [97], 9, 2⟩ : Wt)]) hadd.1 hadd.2 hpf s) ?_
          rintro _ w ⟨rfl, s⟩
          replace s : St W (Lob g1 (l ++ [(⟨((k + 1 : Nat) : Int), [97], 9, 2⟩ : Wt)]) :: Own 3 1 Af ((isK r l).length) cf (ints (nums (isK r l))) :: Own 3 1 Ar ((isR r l).length) cr (ints (nums (isR r l))) :: .blk g2 [.string (str []), .string (str [97]), .string (str [98])] 9 :: L) w := s
          refine ⟨_, rfl, ?_⟩; clear ha; intro a ha
          refine st_val (.bool false) ha (by kernel_rfl) (by kernel_rfl) ?_
          clear ha; intro a ha
          refine wpList_nil ?_
          refine then_normal ?_
          refine wp_false ha rfl (by kernel_rfl) ?_
          refine wp_skip ?_
          refine then_normal ?_
          refine wp_seq ?_
          refine wp_region_lit ?_
          refine st_val (.int .i64 3) ha (by kernel_rfl) (by kernel_rfl) ?_
          clear ha; intro a ha
          refine st_val (.int .i64 1) ha (by kernel_rfl) (by kernel_rfl) ?_
          clear ha; intro a ha
          refine st_val (.bool false) ha (by kernel_rfl) (by kernel_rfl) ?_
          clear ha; intro a ha
          refine st_val (.bool false) ha (by kernel_rfl) (by kernel_rfl) ?_
          clear ha; intro a ha
          refine st_pass ha (by kernel_rfl) ?_
          clear ha; intro a ha
          refine st_pass ha (by kernel_rfl) ?_
          clear ha; intro a ha
          refine st_pass ha (by kernel_rfl) ?_
          clear ha; intro a ha
          refine st_pass ha (by kernel_rfl) ?_
          clear ha; intro a ha
          refine st_pass ha (by kernel_rfl) ?_
          clear ha; intro a ha
          refine st_val (.bool false) ha (by kernel_rfl) (by kernel_rfl) ?_
          clear ha; intro a ha
          refine wpList_nil ?_
          refine then_normal ?_
          refine wp_false ha rfl (by kernel_rfl) ?_
          refine wp_seq ?_
          refine wp_region_lit ?_
          refine st_val (.int .i64 3) ha (by kernel_rfl) (by kernel_rfl) ?_
          clear ha; intro a ha
          refine st_val (.int .i64 1) ha (by kernel_rfl) (by kernel_rfl) ?_
          clear ha; intro a ha
          refine st_val (.bool false) ha (by kernel_rfl) (by kernel_rfl) ?_
          clear ha; intro a ha
          refine wpList_nil ?_
          refine then_normal ?_
          refine wp_false ha rfl (by kernel_rfl) ?_
          refine wp_skip ?_
          refine block_normal ?_
          refine then_normal ?_
          refine wp_region_lit ?_
          refine st_val (.int .i64 ((k : Nat) : Int)) ha (by kernel_rfl) (by kernel_rfl) ?_
          clear ha; intro a ha
          refine st_val (.int .i64 ((k + 1 : Nat) : Int)) ha (by kernel_rfl) (run_arith (((k : Nat) : Int) + (1 : Int)) ((k + 1 : Nat) : Int) rfl (by kernel_rfl) (by kernel_rfl) (.inl ⟨rfl, rfl⟩) (by rw [wrap64_in (by omega)]; try omega) _) ?_
          clear ha; intro a ha
          refine st_val (.int .i64 ((k + 1 : Nat) : Int)) ha (by kernel_rfl) (by kernel_rfl) ?_
          clear ha; intro a ha
          refine wpList_nil ?_
          refine then_normal ?_
          replace s := s.at_ (j := 3) rfl
          replace s : St W (.blk g2 [.string (str []), .string (str [97]), .string (str [98])] 9 :: Lob g1 (l ++ [(⟨((k + 1 : Nat) : Int), [97], 9, 2⟩ : Wt)]) :: Own 3 1 Af ((isK r l).length) cf (ints (nums (isK r l))) :: Own 3 1 Ar ((isR r l).length) cr (ints (nums (isR r l))) :: L) w := s
          replace s := s.at_ (j := 1) rfl
          replace s : St W (Lob g1 (l ++ [(⟨((k + 1 : Nat) : Int), [97], 9, 2⟩ : Wt)]) :: .blk g2 [.string (str []), .string (str [97]), .string (str [98])] 9 :: Own 3 1 Af ((isK r l).length) cf (ints (nums (isK r l))) :: Own 3 1 Ar ((isR r l).length) cr (ints (nums (isR r l))) :: L) w := s
          replace s := s.at_ (j := 3) rfl
          replace s : St W (Own 3 1 Ar ((isR r l).length) cr (ints (nums (isR r l))) :: Lob g1 (l ++ [(⟨((k + 1 : Nat) : Int), [97], 9, 2⟩ : Wt)]) :: .blk g2 [.string (str []), .string (str [97]), .string (str [98])] 9 :: Own 3 1 Af ((isK r l).length) cf (ints (nums (isK r l))) :: L) w := s
          replace s := s.at_ (j := 3) rfl
          replace s : St W (Own 3 1 Af ((isK r l).length) cf (ints (nums (isK r l))) :: Own 3 1 Ar ((isR r l).length) cr (ints (nums (isR r l))) :: Lob g1 (l ++ [(⟨((k + 1 : Nat) : Int), [97], 9, 2⟩ : Wt)]) :: .blk g2 [.string (str []), .string (str [97]), .string (str [98])] 9 :: L) w := s
          have e0 : byKey (kk r) 1 (⟨((k + 1 : Nat) : Int), [97], 9, 2⟩ : Wt) = false := by unfold byKey; simp
          have e1 := isK_snoc r l (⟨((k + 1 : Nat) : Int), [97], 9, 2⟩ : Wt)
          have e2 := isR_snoc r l (⟨((k + 1 : Nat) : Int), [97], 9, 2⟩ : Wt)
          rw [e0] at e1 e2
          have e1 : isK r (l ++ [(⟨((k + 1 : Nat) : Int), [97], 9, 2⟩ : Wt)]) = isK r l := e1
          have e2 : isR r (l ++ [(⟨((k + 1 : Nat) : Int), [97], 9, 2⟩ : Wt)]) = isR r l := e2
          replace s : St W (Own 3 1 Af ((isK r (l ++ [(⟨((k + 1 : Nat) : Int), [97], 9, 2⟩ : Wt)])).length) cf (ints (nums (isK r (l ++ [(⟨((k + 1 : Nat) : Int), [97], 9, 2⟩ : Wt)])))) :: Own 3 1 Ar ((isR r (l ++ [(⟨((k + 1 : Nat) : Int), [97], 9, 2⟩ : Wt)])).length) cr (ints (nums (isR r (l ++ [(⟨((k + 1 : Nat) : Int), [97], 9, 2⟩ : Wt)])))) :: Lob g1 (l ++ [(⟨((k + 1 : Nat) : Int), [97], 9, 2⟩ : Wt)]) :: .blk g2 [.string (str []), .string (str [97]), .string (str [98])] 9 :: L) w := by rw [e1, e2]; simpa [nums, ints] using s
          exact ⟨(k + 1, l ++ [(⟨((k + 1 : Nat) : Int), [97], 9, 2⟩ : Wt)], Af, cf, Ar, cr), (show 60 - (k + 1) < 60 - k by omega), (Has.cons ha (by kernel_rfl) (by kernel_rfl) (Has.cons ha (by kernel_rfl) (by kernel_rfl) (Has.cons ha (by kernel_rfl) (by kernel_rfl) (Has.cons ha (by kernel_rfl) (by kernel_rfl) (Has.cons ha (by kernel_rfl) (by rw [e1]; rfl) (Has.cons ha (by kernel_rfl) (by rw [e2]; rfl) (Has.cons ha (by kernel_rfl) (by kernel_rfl) (Has.nil ha)))))))), s, (show k + 1 ≤ 60 by omega), hadd.2 ▸ hpf.add (⟨((k + 1 : Nat) : Int), [97], 9, 2⟩ : Wt), hpu.snoc rfl⟩
        · skip
          refine st_call ha (by kernel_rfl) (by kernel_rfl) (bring_to W _ w z 6 4 hq (by omega) (by omega) s) ?_
          rintro _ w ⟨rfl, s⟩
          replace s : St W (Own 3 1 Af ((isK r l).length) cf (ints (nums (isK r l))) :: Own 3 1 Ar ((isR r l).length) cr (ints (nums (isR r l))) :: Lob g1 l :: .blk g2 [.string (str []), .string (str [97]), .string (str [98])] 9 :: L) w := s
          refine ⟨_, rfl, ?_⟩; clear ha; intro a ha
          refine st_val (.int .i64 4) ha (by kernel_rfl) (by kernel_rfl) ?_
          clear ha; intro a ha
          refine wpList_nil ?_
          refine then_normal ?_
          refine wp_seq ?_
          refine wp_seq ?_
          refine wp_region_lit ?_
          refine st_val (.pointer (some ⟨g1, 0, none⟩)) ha (by kernel_rfl) (by kernel_rfl) ?_
          clear ha; intro a ha
          refine st_val (.int .i64 ((k : Nat) : Int)) ha (by kernel_rfl) (by kernel_rfl) ?_
          clear ha; intro a ha
          refine st_val (.int .i64 ((k + 1 : Nat) : Int)) ha (by kernel_rfl) (run_arith (((k : Nat) : Int) + (1 : Int)) ((k + 1 : Nat) : Int) rfl (by kernel_rfl) (by kernel_rfl) (.inl ⟨rfl, rfl⟩) (by rw [wrap64_in (by omega)]; try omega) _) ?_
          clear ha; intro a ha
          refine st_val (.slice (some ⟨g2, 0, none⟩) 3 3) ha (by kernel_rfl) (by kernel_rfl) ?_
          clear ha; intro a ha
          refine st_val (.int .i64 4) ha (by kernel_rfl) (by kernel_rfl) ?_
          clear ha; intro a ha
          refine st_val (.int .i64 2) ha (by kernel_rfl) (by kernel_rfl) ?_
          clear ha; intro a ha
          refine st_val (.pointer (some ⟨g2, 2, none⟩)) ha (by kernel_rfl) (run_indexAddr (kd := .i64) (i := 2) (n := 3) (c := 3) 2 rfl Try.underlying56 Try.sizeOf9 (by kernel_rfl) (by kernel_rfl) rfl (by first | assumption | omega) _) ?_
          clear ha; intro a ha
          refine st_val (.string (str [98])) ha (by kernel_rfl) (run_load1 (of_ := 2) (s.blkIs 3 rfl) rfl (by kernel_rfl) Try.isAgg9 rfl) ?_
          clear ha; intro a ha
          refine st_val (.int .i64 4) ha (by kernel_rfl) (by kernel_rfl) ?_
          clear ha; intro a ha
          refine st_val (.int .i64 0) ha (by kernel_rfl) (by kernel_rfl) ?_
          clear ha; intro a ha
          refine st_val (.int .i64 1) ha (by kernel_rfl) (by kernel_rfl) ?_
          clear ha; intro a ha
          refine st_call ha (by kernel_rfl) (by kernel_rfl) (wait_any W _ w ((k + 1 : Nat) : Int) 9 1 [98] s) ?_
          rintro _ w ⟨rfl, s⟩
          replace s : St W (Own 3 1 Af ((isK r l).length) cf (ints (nums (isK r l))) :: Own 3 1 Ar ((isR r l).length) cr (ints (nums (isR r l))) :: Lob g1 l :: .blk g2 [.string (str []), .string (str [97]), .string (str [98])] 9 :: L) w := s
          refine ⟨_, rfl, ?_⟩; clear ha; intro a ha
          replace s := s.at_ (j := 2) rfl
          replace s : St W (Lob g1 l :: Own 3 1 Af ((isK r l).length) cf (ints (nums (isK r l))) :: Own 3 1 Ar ((isR r l).length) cr (ints (nums (isR r l))) :: .blk g2 [.string (str []), .string (str [97]), .string (str [98])] 9 :: L) w := s
          have hadd := add_new (x := (⟨((k + 1 : Nat) : Int), [98], 9, 1⟩ : Wt)) hpu (by omega) rfl (by simp only; omega) (by simp only; omega) (by simp only; omega)
          refine st_call ha (by kernel_rfl) (by kernel_rfl) (add_is W _ w g1 l (⟨((k + 1 : Nat) : Int), [98], 9, 1⟩ : Wt) 0 (l ++ [(⟨((k + 1 : Nat) : Int), [98], 9, 1⟩ : Wt)]) hadd.1 hadd.2 hpf s) ?_
          rintro _ w ⟨rfl, s⟩
          replace s : St W (Lob g1 (l ++ [(⟨((k + 1 : Nat) : Int), [98], 9, 1⟩ : Wt)]) :: Own 3 1 Af ((isK r l).length) cf (ints (nums (isK r l))) :: Own 3 1 Ar ((isR r l).length) cr (ints (nums (isR r l))) :: .blk g2 [.string (str []), .string (str [97]), .string (str [98])] 9 :: L) w := s
          refine ⟨_, rfl, ?_⟩; clear ha; intro a ha
          refine st_val (.bool false) ha (by kernel_rfl) (by kernel_rfl) ?_
          clear ha; intro a ha
          refine wpList_nil ?_
          refine then_normal ?_
          refine wp_false ha rfl (by kernel_rfl) ?_
          refine wp_skip ?_
          refine then_normal ?_
          refine wp_seq ?_
          refine wp_region_lit ?_
          refine st_val (.int .i64 4) ha (by kernel_rfl) (by kernel_rfl) ?_
          clear ha; intro a ha
          refine st_val (.int .i64 0) ha (by kernel_rfl) (by kernel_rfl) ?_
          clear ha; intro a ha
          refine st_val (.bool true) ha (by kernel_rfl) (by kernel_rfl) ?_
          clear ha; intro a ha
          refine st_val (.bool true) ha (by kernel_rfl) (by kernel_rfl) ?_
          clear ha; intro a ha
          refine st_val (.int .i64 4) ha (by kernel_rfl) (by kernel_rfl) ?_
          clear ha; intro a ha
          refine st_val (.int .i64 2) ha (by kernel_rfl) (by kernel_rfl) ?_
          clear ha; intro a ha
          refine st_val (.int .i64 a_) ha (by kernel_rfl) (by kernel_rfl) ?_
          clear ha; intro a ha
          refine st_call ha (by kernel_rfl) (by kernel_rfl) (bring_to W _ w a_ 3 r hr0 (by omega) (by omega) s) ?_
          rintro _ w ⟨rfl, s⟩
          replace s : St W (Lob g1 (l ++ [(⟨((k + 1 : Nat) : Int), [98], 9, 1⟩ : Wt)]) :: Own 3 1 Af ((isK r l).length) cf (ints (nums (isK r l))) :: Own 3 1 Ar ((isR r l).length) cr (ints (nums (isR r l))) :: .blk g2 [.string (str []), .string (str [97]), .string (str [98])] 9 :: L) w := s
          refine ⟨_, rfl, ?_⟩; clear ha; intro a ha
          refine st_val (.bool ((2 : Int) == r)) ha (by kernel_rfl) (by kernel_rfl) ?_
          clear ha; intro a ha
          refine st_val (.bool ((2 : Int) == r)) ha (by kernel_rfl) (by kernel_rfl) ?_
          clear ha; intro a ha
          refine wpList_nil ?_
          refine then_normal ?_
          refine wp_part ((2 : Int) == r) ha rfl (by kernel_rfl) (fun hb => ?_) (fun hb => ?_)
          · rw [hb] at ha; have hb_ := hb; replace hb := eq_of_beq hb
            refine wp_region_lit ?_
            refine st_val (.slice Af ((isK r l).length) cf) ha (by kernel_rfl) (by kernel_rfl) ?_
            clear ha; intro a ha
            refine st_val (.int .i64 ((k : Nat) : Int)) ha (by kernel_rfl) (by kernel_rfl) ?_
            clear ha; intro a ha
            refine st_val (.int .i64 ((k + 1 : Nat) : Int)) ha (by kernel_rfl) (run_arith (((k : Nat) : Int) + (1 : Int)) ((k + 1 : Nat) : Int) rfl (by kernel_rfl) (by kernel_rfl) (.inl ⟨rfl, rfl⟩) (by rw [wrap64_in (by omega)]; try omega) _) ?_
            clear ha; intro a ha
            refine st_ex ha (by kernel_rfl) (ex_buildSlice elt55 _ zs55 [.int .i64 ((k + 1 : Nat) : Int)] s rfl (by kernel_rfl) (by decide)) ?_
            clear ha; rintro _ w a ⟨g15, rfl, s⟩ ha
            replace s : St W (.blk g15 [.int .i64 ((k + 1 : Nat) : Int)] 3 :: Lob g1 (l ++ [(⟨((k + 1 : Nat) : Int), [98], 9, 1⟩ : Wt)]) :: Own 3 1 Af ((isK r l).length) cf (ints (nums (isK r l))) :: Own 3 1 Ar ((isR r l).length) cr (ints (nums (isR r l))) :: .blk g2 [.string (str []), .string (str [97]), .string (str [98])] 9 :: L) w := s
            refine st_ex ha (by kernel_rfl) (ex_append (m := 1) (d' := 1) elt55 (by decide) 2 [.int .i64 ((k + 1 : Nat) : Int)] s rfl (by kernel_rfl) (by kernel_rfl) rfl (reads_blk (s.blkIs 0 rfl) rfl) (by simp [Value.oneCell']) (by simp only [maxLen]; omega) (by omega)) ?_
            clear ha; rintro _ w a ⟨A16, c17, rfl, hA_, s⟩ ha
            replace s : St W (.blk g15 [.int .i64 ((k + 1 : Nat) : Int)] 3 :: Lob g1 (l ++ [(⟨((k + 1 : Nat) : Int), [98], 9, 1⟩ : Wt)]) :: Own 3 1 A16 ((isK r l).length + 1) c17 ((ints (nums (isK r l))) ++ [.int .i64 ((k + 1 : Nat) : Int)]) :: Own 3 1 Ar ((isR r l).length) cr (ints (nums (isR r l))) :: .blk g2 [.string (str []), .string (str [97]), .string (str [98])] 9 :: L) w := s
            refine st_val (.slice A16 ((isK r l).length + 1) c17) ha (by kernel_rfl) (by kernel_rfl) ?_
            clear ha; intro a ha
            refine wpList_nil ?_
            refine block_normal ?_
            refine then_normal ?_
            refine wp_region_lit ?_
            refine st_val (.int .i64 ((k : Nat) : Int)) ha (by kernel_rfl) (by kernel_rfl) ?_
            clear ha; intro a ha
            refine st_val (.int .i64 ((k + 1 : Nat) : Int)) ha (by kernel_rfl) (run_arith (((k : Nat) : Int) + (1 : Int)) ((k + 1 : Nat) : Int) rfl (by kernel_rfl) (by kernel_rfl) (.inl ⟨rfl, rfl⟩) (by rw [wrap64_in (by omega)]; try omega) _) ?_
            clear ha; intro a ha
            refine st_val (.int .i64 ((k + 1 : Nat) : Int)) ha (by kernel_rfl) (by kernel_rfl) ?_
            clear ha; intro a ha
            refine wpList_nil ?_
            refine then_normal ?_
            replace s := s.at_ (j := 4) rfl
            replace s : St W (.blk g2 [.string (str []), .string (str [97]), .string (str [98])] 9 :: .blk g15 [.int .i64 ((k + 1 : Nat) : Int)] 3 :: Lob g1 (l ++ [(⟨((k + 1 : Nat) : Int), [98], 9, 1⟩ : Wt)]) :: Own 3 1 A16 ((isK r l).length + 1) c17 ((ints (nums (isK r l))) ++ [.int .i64 ((k + 1 : Nat) : Int)]) :: Own 3 1 Ar ((isR r l).length) cr (ints (nums (isR r l))) :: L) w := s
            replace s := s.at_ (j := 2) rfl
            replace s : St W (Lob g1 (l ++ [(⟨((k + 1 : Nat) : Int), [98], 9, 1⟩ : Wt)]) :: .blk g2 [.string (str []), .string (str [97]), .string (str [98])] 9 :: .blk g15 [.int .i64 ((k + 1 : Nat) : Int)] 3 :: Own 3 1 A16 ((isK r l).length + 1) c17 ((ints (nums (isK r l))) ++ [.int .i64 ((k + 1 : Nat) : Int)]) :: Own 3 1 Ar ((isR r l).length) cr (ints (nums (isR r l))) :: L) w := s
            replace s := s.at_ (j := 4) rfl
            replace s : St W (Own 3 1 Ar ((isR r l).length) cr (ints (nums (isR r l))) :: Lob g1 (l ++ [(⟨((k + 1 : Nat) : Int), [98], 9, 1⟩ : Wt)]) :: .blk g2 [.string (str []), .string (str [97]), .string (str [98])] 9 :: .blk g15 [.int .i64 ((k + 1 : Nat) : Int)] 3 :: Own 3 1 A16 ((isK r l).length + 1) c17 ((ints (nums (isK r l))) ++ [.int .i64 ((k + 1 : Nat) : Int)]) :: L) w := s
            replace s := s.at_ (j := 4) rfl
            replace s : St W (Own 3 1 A16 ((isK r l).length + 1) c17 ((ints (nums (isK r l))) ++ [.int .i64 ((k + 1 : Nat) : Int)]) :: Own 3 1 Ar ((isR r l).length) cr (ints (nums (isR r l))) :: Lob g1 (l ++ [(⟨((k + 1 : Nat) : Int), [98], 9, 1⟩ : Wt)]) :: .blk g2 [.string (str []), .string (str [97]), .string (str [98])] 9 :: .blk g15 [.int .i64 ((k + 1 : Nat) : Int)] 3 :: L) w := s
            replace s : St W (Own 3 1 A16 ((isK r l).length + 1) c17 ((ints (nums (isK r l))) ++ [.int .i64 ((k + 1 : Nat) : Int)]) :: Own 3 1 Ar ((isR r l).length) cr (ints (nums (isR r l))) :: Lob g1 (l ++ [(⟨((k + 1 : Nat) : Int), [98], 9, 1⟩ : Wt)]) :: .blk g2 [.string (str []), .string (str [97]), .string (str [98])] 9 :: L) w := St.mid (A := [Own 3 1 A16 ((isK r l).length + 1) c17 ((ints (nums (isK r l))) ++ [.int .i64 ((k + 1 : Nat) : Int)]), Own 3 1 Ar ((isR r l).length) cr (ints (nums (isR r l))), Lob g1 (l ++ [(⟨((k + 1 : Nat) : Int), [98], 9, 1⟩ : Wt)]), .blk g2 [.string (str []), .string (str [97]), .string (str [98])] 9]) (B := [.blk g15 [.int .i64 ((k + 1 : Nat) : Int)] 3]) s
            have e0 : byKey (kk r) 1 (⟨((k + 1 : Nat) : Int), [98], 9, 1⟩ : Wt) = true := by unfold byKey; simp [kk, ← hb]
            have e1 := isK_snoc r l (⟨((k + 1 : Nat) : Int), [98], 9, 1⟩ : Wt)
            have e2 := isR_snoc r l (⟨((k + 1 : Nat) : Int), [98], 9, 1⟩ : Wt)
            rw [e0] at e1 e2
            have e1 : isK r (l ++ [(⟨((k + 1 : Nat) : Int), [98], 9, 1⟩ : Wt)]) = isK r l ++ [(⟨((k + 1 : Nat) : Int), [98], 9, 1⟩ : Wt)] := e1
            have e2 : isR r (l ++ [(⟨((k + 1 : Nat) : Int), [98], 9, 1⟩ : Wt)]) = isR r l := e2
            replace s : St W (Own 3 1 A16 ((isK r (l ++ [(⟨((k + 1 : Nat) : Int), [98], 9, 1⟩ : Wt)])).length) c17 (ints (nums (isK r (l ++ [(⟨((k + 1 : Nat) : Int), [98], 9, 1⟩ : Wt)])))) :: Own 3 1 Ar ((isR r (l ++ [(⟨((k + 1 : Nat) : Int), [98], 9, 1⟩ : Wt)])).length) cr (ints (nums (isR r (l ++ [(⟨((k + 1 : Nat) : Int), [98], 9, 1⟩ : Wt)])))) :: Lob g1 (l ++ [(⟨((k + 1 : Nat) : Int), [98], 9, 1⟩ : Wt)]) :: .blk g2 [.string (str []), .string (str [97]), .string (str [98])] 9 :: L) w := by rw [e1, e2]; simpa [nums, ints] using s
            exact ⟨(k + 1, l ++ [(⟨((k + 1 : Nat) : Int), [98], 9, 1⟩ : Wt)], A16, c17, Ar, cr), (show 60 - (k + 1) < 60 - k by omega), (Has.cons ha (by kernel_rfl) (by kernel_rfl) (Has.cons ha (by kernel_rfl) (by kernel_rfl) (Has.cons ha (by kernel_rfl) (by kernel_rfl) (Has.cons ha (by kernel_rfl) (by kernel_rfl) (Has.cons ha (by kernel_rfl) (by rw [e1]; rw [List.length_append]; rfl) (Has.cons ha (by kernel_rfl) (by rw [e2]; rfl) (Has.cons ha (by kernel_rfl) (by kernel_rfl) (Has.nil ha)))))))), s, (show k + 1 ≤ 60 by omega), hadd.2 ▸ hpf.add (⟨((k + 1 : Nat) : Int), [98], 9, 1⟩ : Wt), hpu.snoc rfl⟩
          · rw [hb] at ha; have hb_ := hb; replace hb := ne_of_beq_false hb
            refine wp_seq ?_
            refine wp_region_lit ?_
            refine st_val (.int .i64 4) ha (by kernel_rfl) (by kernel_rfl) ?_
            clear ha; intro a ha
            refine st_val (.int .i64 0) ha (by kernel_rfl) (by kernel_rfl) ?_
            clear ha; intro a ha
            refine st_val (.bool true) ha (by kernel_rfl) (by kernel_rfl) ?_
            clear ha; intro a ha
            refine wpList_nil ?_
            refine then_normal ?_
            refine wp_true ha rfl (by kernel_rfl) ?_
            refine wp_region_lit ?_
            refine st_val (.slice Ar ((isR r l).length) cr) ha (by kernel_rfl) (by kernel_rfl) ?_
            clear ha; intro a ha
            refine st_val (.int .i64 ((k : Nat) : Int)) ha (by kernel_rfl) (by kernel_rfl) ?_
            clear ha; intro a ha
            refine st_val (.int .i64 ((k + 1 : Nat) : Int)) ha (by kernel_rfl) (run_arith (((k : Nat) : Int) + (1 : Int)) ((k + 1 : Nat) : Int) rfl (by kernel_rfl) (by kernel_rfl) (.inl ⟨rfl, rfl⟩) (by rw [wrap64_in (by omega)]; try omega) _) ?_
            clear ha; intro a ha
            refine st_ex ha (by kernel_rfl) (ex_buildSlice elt55 _ zs55 [.int .i64 ((k + 1 : Nat) : Int)] s rfl (by kernel_rfl) (by decide)) ?_
            clear ha; rintro _ w a ⟨g18, rfl, s⟩ ha
            replace s : St W (.blk g18 [.int .i64 ((k + 1 : Nat) : Int)] 3 :: Lob g1 (l ++ [(⟨((k + 1 : Nat) : Int), [98], 9, 1⟩ : Wt)]) :: Own 3 1 Af ((isK r l).length) cf (ints (nums (isK r l))) :: Own 3 1 Ar ((isR r l).length) cr (ints (nums (isR r l))) :: .blk g2 [.string (str []), .string (str [97]), .string (str [98])] 9 :: L) w := s
            refine st_ex ha (by kernel_rfl) (ex_append (m := 1) (d' := 1) elt55 (by decide) 3 [.int .i64 ((k + 1 : Nat) : Int)] s rfl (by kernel_rfl) (by kernel_rfl) rfl (reads_blk (s.blkIs 0 rfl) rfl) (by simp [Value.oneCell']) (by simp only [maxLen]; omega) (by omega)) ?_
            clear ha; rintro _ w a ⟨A19, c20, rfl, hA_, s⟩ ha
            replace s : St W (.blk g18 [.int .i64 ((k + 1 : Nat) : Int)] 3 :: Lob g1 (l ++ [(⟨((k + 1 : Nat) : Int), [98], 9, 1⟩ : Wt)]) :: Own 3 1 Af ((isK r l).length) cf (ints (nums (isK r l))) :: Own 3 1 A19 ((isR r l).length + 1) c20 ((ints (nums (isR r l))) ++ [.int .i64 ((k + 1 : Nat) : Int)]) :: .blk g2 [.string (str []), .string (str [97]), .string (str [98])] 9 :: L) w := s
            refine st_val (.slice A19 ((isR r l).length + 1) c20) ha (by kernel_rfl) (by kernel_rfl) ?_
            clear ha; intro a ha
            refine wpList_nil ?_
            refine block_normal ?_
            refine then_normal ?_
            refine wp_region_lit ?_
            refine st_val (.int .i64 ((k : Nat) : Int)) ha (by kernel_rfl) (by kernel_rfl) ?_
            clear ha; intro a ha
            refine st_val (.int .i64 ((k + 1 : Nat) : Int)) ha (by kernel_rfl) (run_arith (((k : Nat) : Int) + (1 : Int)) ((k + 1 : Nat) : Int) rfl (by kernel_rfl) (by kernel_rfl) (.inl ⟨rfl, rfl⟩) (by rw [wrap64_in (by omega)]; try omega) _) ?_
            clear ha; intro a ha
            refine st_val (.int .i64 ((k + 1 : Nat) : Int)) ha (by kernel_rfl) (by kernel_rfl) ?_
            clear ha; intro a ha
            refine wpList_nil ?_
            refine then_normal ?_
            replace s := s.at_ (j := 4) rfl
            replace s : St W (.blk g2 [.string (str []), .string (str [97]), .string (str [98])] 9 :: .blk g18 [.int .i64 ((k + 1 : Nat) : Int)] 3 :: Lob g1 (l ++ [(⟨((k + 1 : Nat) : Int), [98], 9, 1⟩ : Wt)]) :: Own 3 1 Af ((isK r l).length) cf (ints (nums (isK r l))) :: Own 3 1 A19 ((isR r l).length + 1) c20 ((ints (nums (isR r l))) ++ [.int .i64 ((k + 1 : Nat) : Int)]) :: L) w := s
            replace s := s.at_ (j := 2) rfl
            replace s : St W (Lob g1 (l ++ [(⟨((k + 1 : Nat) : Int), [98], 9, 1⟩ : Wt)]) :: .blk g2 [.string (str []), .string (str [97]), .string (str [98])] 9 :: .blk g18 [.int .i64 ((k + 1 : Nat) : Int)] 3 :: Own 3 1 Af ((isK r l).length) cf (ints (nums (isK r l))) :: Own 3 1 A19 ((isR r l).length + 1) c20 ((ints (nums (isR r l))) ++ [.int .i64 ((k + 1 : Nat) : Int)]) :: L) w := s
            replace s := s.at_ (j := 4) rfl
            replace s : St W (Own 3 1 A19 ((isR r l).length + 1) c20 ((ints (nums (isR r l))) ++ [.int .i64 ((k + 1 : Nat) : Int)]) :: Lob g1 (l ++ [(⟨((k + 1 : Nat) : Int), [98], 9, 1⟩ : Wt)]) :: .blk g2 [.string (str []), .string (str [97]), .string (str [98])] 9 :: .blk g18 [.int .i64 ((k + 1 : Nat) : Int)] 3 :: Own 3 1 Af ((isK r l).length) cf (ints (nums (isK r l))) :: L) w := s
            replace s := s.at_ (j := 4) rfl
            replace s : St W (Own 3 1 Af ((isK r l).length) cf (ints (nums (isK r l))) :: Own 3 1 A19 ((isR r l).length + 1) c20 ((ints (nums (isR r l))) ++ [.int .i64 ((k + 1 : Nat) : Int)]) :: Lob g1 (l ++ [(⟨((k + 1 : Nat) : Int), [98], 9, 1⟩ : Wt)]) :: .blk g2 [.string (str []), .string (str [97]), .string (str [98])] 9 :: .blk g18 [.int .i64 ((k + 1 : Nat) : Int)] 3 :: L) w := s
            replace s : St W (Own 3 1 Af ((isK r l).length) cf (ints (nums (isK r l))) :: Own 3 1 A19 ((isR r l).length + 1) c20 ((ints (nums (isR r l))) ++ [.int .i64 ((k + 1 : Nat) : Int)]) :: Lob g1 (l ++ [(⟨((k + 1 : Nat) : Int), [98], 9, 1⟩ : Wt)]) :: .blk g2 [.string (str []), .string (str [97]), .string (str [98])] 9 :: L) w := St.mid (A := [Own 3 1 Af ((isK r l).length) cf (ints (nums (isK r l))), Own 3 1 A19 ((isR r l).length + 1) c20 ((ints (nums (isR r l))) ++ [.int .i64 ((k + 1 : Nat) : Int)]), Lob g1 (l ++ [(⟨((k + 1 : Nat) : Int), [98], 9, 1⟩ : Wt)]), .blk g2 [.string (str []), .string (str [97]), .string (str [98])] 9]) (B := [.blk g18 [.int .i64 ((k + 1 : Nat) : Int)] 3]) s
            have e0 : byKey (kk r) 1 (⟨((k + 1 : Nat) : Int), [98], 9, 1⟩ : Wt) = false := by unfold byKey; simp; unfold kk; intro h; split at h <;> (first | omega | (split at h <;> first | omega | cases h | (exact absurd h (by decide))) | cases h | exact absurd h (by decide))
            have e1 := isK_snoc r l (⟨((k + 1 : Nat) : Int), [98], 9, 1⟩ : Wt)
            have e2 := isR_snoc r l (⟨((k + 1 : Nat) : Int), [98], 9, 1⟩ : Wt)
            rw [e0] at e1 e2
            have e1 : isK r (l ++ [(⟨((k + 1 : Nat) : Int), [98], 9, 1⟩ : Wt)]) = isK r l := e1
            have e2 : isR r (l ++ [(⟨((k + 1 : Nat) : Int), [98], 9, 1⟩ : Wt)]) = isR r l ++ [(⟨((k + 1 : Nat) : Int), [98], 9, 1⟩ : Wt)] := e2
            replace s : St W (Own 3 1 Af ((isK r (l ++ [(⟨((k + 1 : Nat) : Int), [98], 9, 1⟩ : Wt)])).length) cf (ints (nums (isK r (l ++ [(⟨((k + 1 : Nat) : Int), [98], 9, 1⟩ : Wt)])))) :: Own 3 1 A19 ((isR r (l ++ [(⟨((k + 1 : Nat) : Int), [98], 9, 1⟩ : Wt)])).length) c20 (ints (nums (isR r (l ++ [(⟨((k + 1 : Nat) : Int), [98], 9, 1⟩ : Wt)])))) :: Lob g1 (l ++ [(⟨((k + 1 : Nat) : Int), [98], 9, 1⟩ : Wt)]) :: .blk g2 [.string (str []), .string (str [97]), .string (str [98])] 9 :: L) w := by rw [e1, e2]; simpa [nums, ints] using s
            exact ⟨(k + 1, l ++ [(⟨((k + 1 : Nat) : Int), [98], 9, 1⟩ : Wt)], Af, cf, A19, c20), (show 60 - (k + 1) < 60 - k by omega), (Has.cons ha (by kernel_rfl) (by kernel_rfl) (Has.cons ha (by kernel_rfl) (by kernel_rfl) (Has.cons ha (by kernel_rfl) (by kernel_rfl) (Has.cons ha (by kernel_rfl) (by kernel_rfl) (Has.cons ha (by kernel_rfl) (by rw [e1]; rfl) (Has.cons ha (by kernel_rfl) (by rw [e2]; rw [List.length_append]; rfl) (Has.cons ha (by kernel_rfl) (by kernel_rfl) (Has.nil ha)))))))), s, (show k + 1 ≤ 60 by omega), hadd.2 ▸ hpf.add (⟨((k + 1 : Nat) : Int), [98], 9, 1⟩ : Wt), hpu.snoc rfl⟩
        · skip
          refine st_call ha (by kernel_rfl) (by kernel_rfl) (bring_to W _ w z 6 5 hq (by omega) (by omega) s) ?_
          rintro _ w ⟨rfl, s⟩
          replace s : St W (Own 3 1 Af ((isK r l).length) cf (ints (nums (isK r l))) :: Own 3 1 Ar ((isR r l).length) cr (ints (nums (isR r l))) :: Lob g1 l :: .blk g2 [.string (str []), .string (str [97]), .string (str [98])] 9 :: L) w := s
          refine ⟨_, rfl, ?_⟩; clear ha; intro a ha
          refine st_val (.int .i64 5) ha (by kernel_rfl) (by kernel_rfl) ?_
          clear ha; intro a ha
          refine wpList_nil ?_
          refine then_normal ?_
          refine wp_seq ?_
          refine wp_seq ?_
          refine wp_region_lit ?_
          refine st_val (.pointer (some ⟨g1, 0, none⟩)) ha (by kernel_rfl) (by kernel_rfl) ?_
          clear ha; intro a ha
          refine st_val (.int .i64 ((k : Nat) : Int)) ha (by kernel_rfl) (by kernel_rfl) ?_
          clear ha; intro a ha
          refine st_val (.int .i64 ((k + 1 : Nat) : Int)) ha (by kernel_rfl) (run_arith (((k : Nat) : Int) + (1 : Int)) ((k + 1 : Nat) : Int) rfl (by kernel_rfl) (by kernel_rfl) (.inl ⟨rfl, rfl⟩) (by rw [wrap64_in (by omega)]; try omega) _) ?_
          clear ha; intro a ha
          refine st_val (.slice (some ⟨g2, 0, none⟩) 3 3) ha (by kernel_rfl) (by kernel_rfl) ?_
          clear ha; intro a ha
          refine st_val (.int .i64 5) ha (by kernel_rfl) (by kernel_rfl) ?_
          clear ha; intro a ha
          refine st_val (.int .i64 2) ha (by kernel_rfl) (by kernel_rfl) ?_
          clear ha; intro a ha
          refine st_val (.pointer (some ⟨g2, 2, none⟩)) ha (by kernel_rfl) (run_indexAddr (kd := .i64) (i := 2) (n := 3) (c := 3) 2 rfl Try.underlying56 Try.sizeOf9 (by kernel_rfl) (by kernel_rfl) rfl (by first | assumption | omega) _) ?_
          clear ha; intro a ha
          refine st_val (.string (str [98])) ha (by kernel_rfl) (run_load1 (of_ := 2) (s.blkIs 3 rfl) rfl (by kernel_rfl) Try.isAgg9 rfl) ?_
          clear ha; intro a ha
          refine st_val (.int .i64 5) ha (by kernel_rfl) (by kernel_rfl) ?_
          clear ha; intro a ha
          refine st_val (.int .i64 1) ha (by kernel_rfl) (by kernel_rfl) ?_
          clear ha; intro a ha
          refine st_val (.int .i64 2) ha (by kernel_rfl) (by kernel_rfl) ?_
          clear ha; intro a ha
          refine st_call ha (by kernel_rfl) (by kernel_rfl) (wait_any W _ w ((k + 1 : Nat) : Int) 9 2 [98] s) ?_
          rintro _ w ⟨rfl, s⟩
          replace s : St W (Own 3 1 Af ((isK r l).length) cf (ints (nums (isK r l))) :: Own 3 1 Ar ((isR r l).length) cr (ints (nums (isR r l))) :: Lob g1 l :: .blk g2 [.string (str []), .string (str [97]), .string (str [98])] 9 :: L) w := s
          refine ⟨_, rfl, ?_⟩; clear ha; intro a ha
          replace s := s.at_ (j := 2) rfl
          replace s : St W (Lob g1 l :: Own 3 1 Af ((isK r l).length) cf (ints (nums (isK r l))) :: Own 3 1 Ar ((isR r l).length) cr (ints (nums (isR r l))) :: .blk g2 [.string (str []), .string (str [97]), .string (str [98])] 9 :: L) w := s
          have hadd := add_new (x := (⟨((k + 1 : Nat) : Int), [98], 9, 2⟩ : Wt)) hpu (by omega) rfl (by simp only; omega) (by simp only; omega) (by simp only; omega)
          refine st_call ha (by kernel_rfl) (by kernel_rfl) (add_is W _ w g1 l (⟨((k + 1 : Nat) : Int), [98], 9, 2⟩ : Wt) 0 (l ++ [(⟨((k + 1 : Nat) : Int), [98], 9, 2⟩ : Wt)]) hadd.1 hadd.2 hpf s) ?_
          rintro _ w ⟨rfl, s⟩
          replace s : St W (Lob g1 (l ++ [(⟨((k + 1 : Nat) : Int), [98], 9, 2⟩ : Wt)]) :: Own 3 1 Af ((isK r l).length) cf (ints (nums (isK r l))) :: Own 3 1 Ar ((isR r l).length) cr (ints (nums (isR r l))) :: .blk g2 [.string (str []), .string (str [97]), .string (str [98])] 9 :: L) w := s
          refine ⟨_, rfl, ?_⟩; clear ha; intro a ha
          refine st_val (.bool false) ha (by kernel_rfl) (by kernel_rfl) ?_
          clear ha; intro a ha
          refine wpList_nil ?_
          refine then_normal ?_
          refine wp_false ha rfl (by kernel_rfl) ?_
          refine wp_skip ?_
          refine then_normal ?_
          refine wp_seq ?_
          refine wp_region_lit ?_
          refine st_val (.int .i64 5) ha (by kernel_rfl) (by kernel_rfl) ?_
          clear ha; intro a ha
          refine st_val (.int .i64 1) ha (by kernel_rfl) (by kernel_rfl) ?_
          clear ha; intro a ha
          refine st_val (.bool false) ha (by kernel_rfl) (by kernel_rfl) ?_
          clear ha; intro a ha
          refine st_val (.bool false) ha (by kernel_rfl) (by kernel_rfl) ?_
          clear ha; intro a ha
          refine st_pass ha (by kernel_rfl) ?_
          clear ha; intro a ha
          refine st_pass ha (by kernel_rfl) ?_
          clear ha; intro a ha
          refine st_pass ha (by kernel_rfl) ?_
          clear ha; intro a ha
          refine st_pass ha (by kernel_rfl) ?_
          clear ha; intro a ha
          refine st_pass ha (by kernel_rfl) ?_
          clear ha; intro a ha
          refine st_val (.bool false) ha (by kernel_rfl) (by kernel_rfl) ?_
          clear ha; intro a ha
          refine wpList_nil ?_
          refine then_normal ?_
          refine wp_false ha rfl (by kernel_rfl) ?_
          refine wp_seq ?_
          refine wp_region_lit ?_
          refine st_val (.int .i64 5) ha (by kernel_rfl) (by kernel_rfl) ?_
          clear ha; intro a ha
          refine st_val (.int .i64 1) ha (by kernel_rfl) (by kernel_rfl) ?_
          clear ha; intro a ha
          refine st_val (.bool false) ha (by kernel_rfl) (by kernel_rfl) ?_
          clear ha; intro a ha
          refine wpList_nil ?_
          refine then_normal ?_
          refine wp_false ha rfl (by kernel_rfl) ?_
          refine wp_skip ?_
          refine block_normal ?_
          refine then_normal ?_
          refine wp_region_lit ?_
          refine st_val (.int .i64 ((k : Nat) : Int)) ha (by kernel_rfl) (by kernel_rfl) ?_
          clear ha; intro a ha
          refine st_val (.int .i64 ((k + 1 : Nat) : Int)) ha (by kernel_rfl) (run_arith (((k : Nat) : Int) + (1 : Int)) ((k + 1 : Nat) : Int) rfl (by kernel_rfl) (by kernel_rfl) (.inl ⟨rfl, rfl⟩) (by rw [wrap64_in (by omega)]; try omega) _) ?_
          clear ha; intro a ha
          refine st_val (.int .i64 ((k + 1 : Nat) : Int)) ha (by kernel_rfl) (by kernel_rfl) ?_
          clear ha; intro a ha
          refine wpList_nil ?_
          refine then_normal ?_
          replace s := s.at_ (j := 3) rfl
          replace s : St W (.blk g2 [.string (str []), .string (str [97]), .string (str [98])] 9 :: Lob g1 (l ++ [(⟨((k + 1 : Nat) : Int), [98], 9, 2⟩ : Wt)]) :: Own 3 1 Af ((isK r l).length) cf (ints (nums (isK r l))) :: Own 3 1 Ar ((isR r l).length) cr (ints (nums (isR r l))) :: L) w := s
          replace s := s.at_ (j := 1) rfl
          replace s : St W (Lob g1 (l ++ [(⟨((k + 1 : Nat) : Int), [98], 9, 2⟩ : Wt)]) :: .blk g2 [.string (str []), .string (str [97]), .string (str [98])] 9 :: Own 3 1 Af ((isK r l).length) cf (ints (nums (isK r l))) :: Own 3 1 Ar ((isR r l).length) cr (ints (nums (isR r l))) :: L) w := s
          replace s := s.at_ (j := 3) rfl
          replace s : St W (Own 3 1 Ar ((isR r l).length) cr (ints (nums (isR r l))) :: Lob g1 (l ++ [(⟨((k + 1 : Nat) : Int), [98], 9, 2⟩ : Wt)]) :: .blk g2 [.string (str []), .string (str [97]), .string (str [98])] 9 :: Own 3 1 Af ((isK r l).length) cf (ints (nums (isK r l))) :: L) w := s
          replace s := s.at_ (j := 3) rfl
          replace s : St W (Own 3 1 Af ((isK r l).length) cf (ints (nums (isK r l))) :: Own 3 1 Ar ((isR r l).length) cr (ints (nums (isR r l))) :: Lob g1 (l ++ [(⟨((k + 1 : Nat) : Int), [98], 9, 2⟩ : Wt)]) :: .blk g2 [.string (str []), .string (str [97]), .string (str [98])] 9 :: L) w := s
          have e0 : byKey (kk r) 1 (⟨((k + 1 : Nat) : Int), [98], 9, 2⟩ : Wt) = false := by unfold byKey; simp
          have e1 := isK_snoc r l (⟨((k + 1 : Nat) : Int), [98], 9, 2⟩ : Wt)
          have e2 := isR_snoc r l (⟨((k + 1 : Nat) : Int), [98], 9, 2⟩ : Wt)
          rw [e0] at e1 e2
          have e1 : isK r (l ++ [(⟨((k + 1 : Nat) : Int), [98], 9, 2⟩ : Wt)]) = isK r l := e1
          have e2 : isR r (l ++ [(⟨((k + 1 : Nat) : Int), [98], 9, 2⟩ : Wt)]) = isR r l := e2
          replace s : St W (Own 3 1 Af ((isK r (l ++ [(⟨((k + 1 : Nat) : Int), [98], 9, 2⟩ : Wt)])).length) cf (ints (nums (isK r (l ++ [(⟨((k + 1 : Nat) : Int), [98], 9, 2⟩ : Wt)])))) :: Own 3 1 Ar ((isR r (l ++ [(⟨((k + 1 : Nat) : Int), [98], 9, 2⟩ : Wt)])).length) cr (ints (nums (isR r (l ++ [(⟨((k + 1 : Nat) : Int), [98], 9, 2⟩ : Wt)])))) :: Lob g1 (l ++ [(⟨((k + 1 : Nat) : Int), [98], 9, 2⟩ : Wt)]) :: .blk g2 [.string (str []), .string (str [97]), .string (str [98])] 9 :: L) w := by rw [e1, e2]; simpa [nums, ints] using s
          exact ⟨(k + 1, l ++ [(⟨((k + 1 : Nat) : Int), [98], 9, 2⟩ : Wt)], Af, cf, Ar, cr), (show 60 - (k + 1) < 60 - k by omega), (Has.cons ha (by kernel_rfl) (by kernel_rfl) (Has.cons ha (by kernel_rfl) (by kernel_rfl) (Has.cons ha (by kernel_rfl) (by kernel_rfl) (Has.cons ha (by kernel_rfl) (by kernel_rfl) (Has.cons ha (by kernel_rfl) (by rw [e1]; rfl) (Has.cons ha (by kernel_rfl) (by rw [e2]; rfl) (Has.cons ha (by kernel_rfl) (by kernel_rfl) (Has.nil ha)))))))), s, (show k + 1 ≤ 60 by omega), hadd.2 ▸ hpf.add (⟨((k + 1 : Nat) : Int), [98], 9, 2⟩ : Wt), hpu.snoc rfl⟩
      · rw [hb] at ha; replace hb : ¬ (((k : Nat) : Int) < (60 : Int)) := of_decide_eq_false hb
        have hpf := hp.2.1
        have hkl := isK_le r l
        have hrl := isR_le r l
        have hll := hp.2.1.2
        refine wp_exit ?_
        refine then_exit ?_
        refine then_exit ?_
        refine block_hit ?_
        refine then_normal ?_
        refine wp_seq ?_
        refine wp_region_lit ?_
        refine st_val (.pointer (some ⟨g1, 0, none⟩)) ha (by kernel_rfl) (by kernel_rfl) ?_
        clear ha; intro a ha
        refine st_val (.slice (some ⟨g2, 0, none⟩) 3 3) ha (by kernel_rfl) (by kernel_rfl) ?_
        clear ha; intro a ha
        refine st_val (.int .i64 a_) ha (by kernel_rfl) (by kernel_rfl) ?_
        clear ha; intro a ha
        have hr1 : r = 0 ∨ r = 1 ∨ r = 2 := by omega
        rcases hr1 with hr1 | hr1 | hr1
        · have hkr : kk r = [] := by rw [hr1]; rfl
          refine st_call ha (by kernel_rfl) (by kernel_rfl) (bring_to W _ w a_ 3 0 (hr0.trans hr1) (by omega) (by omega) s) ?_
          rintro _ w ⟨rfl, s⟩
          replace s : St W (Own 3 1 Af ((isK r l).length) cf (ints (nums (isK r l))) :: Own 3 1 Ar ((isR r l).length) cr (ints (nums (isR r l))) :: Lob g1 l :: .blk g2 [.string (str []), .string (str [97]), .string (str [98])] 9 :: L) w := s
          refine ⟨_, rfl, ?_⟩; clear ha; intro a ha
          refine st_val (.pointer (some ⟨g2, 0, none⟩)) ha (by kernel_rfl) (run_indexAddr (kd := .i64) (i := 0) (n := 3) (c := 3) 0 rfl Try.underlying56 Try.sizeOf9 (by kernel_rfl) (by kernel_rfl) rfl (by first | assumption | omega) _) ?_
          clear ha; intro a ha
          refine st_val (.string (str [])) ha (by kernel_rfl) (run_load1 (of_ := 0) (s.blkIs 3 rfl) rfl (by kernel_rfl) Try.isAgg9 rfl) ?_
          clear ha; intro a ha
          replace s := s.at_ (j := 2) rfl
          replace s : St W (Lob g1 l :: Own 3 1 Af ((isK r l).length) cf (ints (nums (isK r l))) :: Own 3 1 Ar ((isR r l).length) cr (ints (nums (isR r l))) :: .blk g2 [.string (str []), .string (str [97]), .string (str [98])] 9 :: L) w := s
          refine st_call ha (by kernel_rfl) (by kernel_rfl) (at_is W _ w g1 l [] 1 (isK r l) (left (byKey (kk r) 1) l) (by unfold isK; rw [hkr]) (by rw [hkr]) hpf s) ?_
          rintro _ w ⟨A21, c22, rfl, s⟩
          replace s : St W (Own 28 4 A21 ((isK r l).length) c22 (ws (isK r l)) :: Lob g1 (left (byKey (kk r) 1) l) :: Own 3 1 Af ((isK r l).length) cf (ints (nums (isK r l))) :: Own 3 1 Ar ((isR r l).length) cr (ints (nums (isR r l))) :: .blk g2 [.string (str []), .string (str [97]), .string (str [98])] 9 :: L) w := s
          refine ⟨_, rfl, ?_⟩; clear ha; intro a ha
          refine st_val (.slice Af ((isK r l).length) cf) ha (by kernel_rfl) (by kernel_rfl) ?_
          clear ha; intro a ha
          refine st_call ha (by kernel_rfl) (by kernel_rfl) (told_is W _ w A21 Af _ _ c22 cf (isK r l) (Knows.own (j := 0) rfl) (Knows.own (j := 2) rfl) rfl rfl (by omega) s) ?_
          rintro _ w ⟨rfl, s⟩
          replace s : St W (Own 28 4 A21 ((isK r l).length) c22 (ws (isK r l)) :: Lob g1 (left (byKey (kk r) 1) l) :: Own 3 1 Af ((isK r l).length) cf (ints (nums (isK r l))) :: Own 3 1 Ar ((isR r l).length) cr (ints (nums (isR r l))) :: .blk g2 [.string (str []), .string (str [97]), .string (str [98])] 9 :: L) w := s
          refine ⟨_, rfl, ?_⟩; clear ha; intro a ha
          refine st_val (.bool true) ha (by kernel_rfl) (by kernel_rfl) ?_
          clear ha; intro a ha
          refine st_val (.pointer (some ⟨g1, 0, none⟩)) ha (by kernel_rfl) (by kernel_rfl) ?_
          clear ha; intro a ha
          replace s := s.at_ (j := 1) rfl
          replace s : St W (Lob g1 (left (byKey (kk r) 1) l) :: Own 28 4 A21 ((isK r l).length) c22 (ws (isK r l)) :: Own 3 1 Af ((isK r l).length) cf (ints (nums (isK r l))) :: Own 3 1 Ar ((isR r l).length) cr (ints (nums (isR r l))) :: .blk g2 [.string (str []), .string (str [97]), .string (str [98])] 9 :: L) w := s
          refine st_call ha (by kernel_rfl) (by kernel_rfl) (free_is W _ w g1 (left (byKey (kk r) 1) l) 1 (isR r l) (left (byHolder 1) (left (byKey (kk r) 1) l)) rfl rfl (hpf.left _) s) ?_
          rintro _ w ⟨A23, c24, rfl, s⟩
          replace s : St W (Own 28 4 A23 ((isR r l).length) c24 (ws (isR r l)) :: Lob g1 (left (byHolder 1) (left (byKey (kk r) 1) l)) :: Own 28 4 A21 ((isK r l).length) c22 (ws (isK r l)) :: Own 3 1 Af ((isK r l).length) cf (ints (nums (isK r l))) :: Own 3 1 Ar ((isR r l).length) cr (ints (nums (isR r l))) :: .blk g2 [.string (str []), .string (str [97]), .string (str [98])] 9 :: L) w := s
          refine ⟨_, rfl, ?_⟩; clear ha; intro a ha
          refine st_val (.slice Ar ((isR r l).length) cr) ha (by kernel_rfl) (by kernel_rfl) ?_
          clear ha; intro a ha
          refine st_call ha (by kernel_rfl) (by kernel_rfl) (told_is W _ w A23 Ar _ _ c24 cr (isR r l) (Knows.own (j := 0) rfl) (Knows.own (j := 4) rfl) rfl rfl (by omega) s) ?_
          rintro _ w ⟨rfl, s⟩
          replace s : St W (Own 28 4 A23 ((isR r l).length) c24 (ws (isR r l)) :: Lob g1 (left (byHolder 1) (left (byKey (kk r) 1) l)) :: Own 28 4 A21 ((isK r l).length) c22 (ws (isK r l)) :: Own 3 1 Af ((isK r l).length) cf (ints (nums (isK r l))) :: Own 3 1 Ar ((isR r l).length) cr (ints (nums (isR r l))) :: .blk g2 [.string (str []), .string (str [97]), .string (str [98])] 9 :: L) w := s
          refine ⟨_, rfl, ?_⟩; clear ha; intro a ha
          refine st_val (.bool true) ha (by kernel_rfl) (by kernel_rfl) ?_
          clear ha; intro a ha
          refine st_val (.bool true) ha (by kernel_rfl) (by kernel_rfl) ?_
          clear ha; intro a ha
          refine st_val (.pointer (some ⟨g1, 0, none⟩)) ha (by kernel_rfl) (by kernel_rfl) ?_
          clear ha; intro a ha
          replace s := s.at_ (j := 1) rfl
          replace s : St W (Lob g1 (left (byHolder 1) (left (byKey (kk r) 1) l)) :: Own 28 4 A23 ((isR r l).length) c24 (ws (isR r l)) :: Own 28 4 A21 ((isK r l).length) c22 (ws (isK r l)) :: Own 3 1 Af ((isK r l).length) cf (ints (nums (isK r l))) :: Own 3 1 Ar ((isR r l).length) cr (ints (nums (isR r l))) :: .blk g2 [.string (str []), .string (str [97]), .string (str [98])] 9 :: L) w := s
          refine st_call ha (by kernel_rfl) (by kernel_rfl) (free_is W _ w g1 (left (byHolder 1) (left (byKey (kk r) 1) l)) 1 [] _ (none_left _) rfl ((hpf.left _).left _) s) ?_
          rintro _ w ⟨A25, c26, rfl, s⟩
          replace s : St W (Own 28 4 A25 0 c26 (ws []) :: Lob g1 (left (byHolder 1) (left (byHolder 1) (left (byKey (kk r) 1) l))) :: Own 28 4 A23 ((isR r l).length) c24 (ws (isR r l)) :: Own 28 4 A21 ((isK r l).length) c22 (ws (isK r l)) :: Own 3 1 Af ((isK r l).length) cf (ints (nums (isK r l))) :: Own 3 1 Ar ((isR r l).length) cr (ints (nums (isR r l))) :: .blk g2 [.string (str []), .string (str [97]), .string (str [98])] 9 :: L) w := s
          refine ⟨_, rfl, ?_⟩; clear ha; intro a ha
          refine st_val (.int .i64 0) ha (by kernel_rfl) (by kernel_rfl) ?_
          clear ha; intro a ha
          refine st_val (.bool true) ha (by kernel_rfl) (by kernel_rfl) ?_
          clear ha; intro a ha
          refine st_val (.bool true) ha (by kernel_rfl) (by kernel_rfl) ?_
          clear ha; intro a ha
          refine st_val (.bool true) ha (by kernel_rfl) (by kernel_rfl) ?_
          clear ha; intro a ha
          refine wpList_nil ?_
          refine then_normal ?_
          refine wp_ret ?_
          refine ret_with (v := .bool true) ha (results_1 rfl ha (res_tmp (by kernel_rfl) (by kernel_rfl))) ?_
          replace s := s.tail.tail.tail.tail.tail.tail.tail
          replace s : St W (L) w := s
          exact ⟨rfl, s⟩
        · have hkr : kk r = [97] := by rw [hr1]; rfl
          refine st_call ha (by kernel_rfl) (by kernel_rfl) (bring_to W _ w a_ 3 1 (hr0.trans hr1) (by omega) (by omega) s) ?_
          rintro _ w ⟨rfl, s⟩
          replace s : St W (Own 3 1 Af ((isK r l).length) cf (ints (nums (isK r l))) :: Own 3 1 Ar ((isR r l).length) cr (ints (nums (isR r l))) :: Lob g1 l :: .blk g2 [.string (str []), .string (str [97]), .string (str [98])] 9 :: L) w := s
          refine ⟨_, rfl, ?_⟩; clear ha; intro a ha
          refine st_val (.pointer (some ⟨g2, 1, none⟩)) ha (by kernel_rfl) (run_indexAddr (kd := .i64) (i := 1) (n := 3) (c := 3) 1 rfl Try.underlying56 Try.sizeOf9 (by kernel_rfl) (by kernel_rfl) rfl (by first | assumption | omega) _) ?_
          clear ha; intro a ha
          refine st_val (.string (str [97])) ha (by kernel_rfl) (run_load1 (of_ := 1) (s.blkIs 3 rfl) rfl (by kernel_rfl) Try.isAgg9 rfl) ?_
          clear ha; intro a ha
          replace s := s.at_ (j := 2) rfl
          replace s : St W (Lob g1 l :: Own 3 1 Af ((isK r l).length) cf (ints (nums (isK r l))) :: Own 3 1 Ar ((isR r l).length) cr (ints (nums (isR r l))) :: .blk g2 [.string (str []), .string (str [97]), .string (str [98])] 9 :: L) w := s
          refine st_call ha (by kernel_rfl) (by kernel_rfl) (at_is W _ w g1 l [97] 1 (isK r l) (left (byKey (kk r) 1) l) (by unfold isK; rw [hkr]) (by rw [hkr]) hpf s) ?_
          rintro _ w ⟨A27, c28, rfl, s⟩
          replace s : St W (Own 28 4 A27 ((isK r l).length) c28 (ws (isK r l)) :: Lob g1 (left (byKey (kk r) 1) l) :: Own 3 1 Af ((isK r l).length) cf (ints (nums (isK r l))) :: Own 3 1 Ar ((isR r l).length) cr (ints (nums (isR r l))) :: .blk g2 [.string (str []), .string (str [97]), .string (str [98])] 9 :: L) w := s
          refine ⟨_, rfl, ?_⟩; clear ha; intro a ha
          refine st_val (.slice Af ((isK r l).length) cf) ha (by kernel_rfl) (by kernel_rfl) ?_
          clear ha; intro a ha
          refine st_call ha (by kernel_rfl) (by kernel_rfl) (told_is W _ w A27 Af _ _ c28 cf (isK r l) (Knows.own (j := 0) rfl) (Knows.own (j := 2) rfl) rfl rfl (by omega) s) ?_
          rintro _ w ⟨rfl, s⟩
          replace s : St W (Own 28 4 A27 ((isK r l).length) c28 (ws (isK r l)) :: Lob g1 (left (byKey (kk r) 1) l) :: Own 3 1 Af ((isK r l).length) cf (ints (nums (isK r l))) :: Own 3 1 Ar ((isR r l).length) cr (ints (nums (isR r l))) :: .blk g2 [.string (str []), .string (str [97]), .string (str [98])] 9 :: L) w := s
          refine ⟨_, rfl, ?_⟩; clear ha; intro a ha
          refine st_val (.bool true) ha (by kernel_rfl) (by kernel_rfl) ?_
          clear ha; intro a ha
          refine st_val (.pointer (some ⟨g1, 0, none⟩)) ha (by kernel_rfl) (by kernel_rfl) ?_
          clear ha; intro a ha
          replace s := s.at_ (j := 1) rfl
          replace s : St W (Lob g1 (left (byKey (kk r) 1) l) :: Own 28 4 A27 ((isK r l).length) c28 (ws (isK r l)) :: Own 3 1 Af ((isK r l).length) cf (ints (nums (isK r l))) :: Own 3 1 Ar ((isR r l).length) cr (ints (nums (isR r l))) :: .blk g2 [.string (str []), .string (str [97]), .string (str [98])] 9 :: L) w := s
          refine st_call ha (by kernel_rfl) (by kernel_rfl) (free_is W _ w g1 (left (byKey (kk r) 1) l) 1 (isR r l) (left (byHolder 1) (left (byKey (kk r) 1) l)) rfl rfl (hpf.left _) s) ?_
          rintro _ w ⟨A29, c30, rfl, s⟩
          replace s : St W (Own 28 4 A29 ((isR r l).length) c30 (ws (isR r l)) :: Lob g1 (left (byHolder 1) (left (byKey (kk r) 1) l)) :: Own 28 4 A27 ((isK r l).length) c28 (ws (isK r l)) :: Own 3 1 Af ((isK r l).length) cf (ints (nums (isK r l))) :: Own 3 1 Ar ((isR r l).length) cr (ints (nums (isR r l))) :: .blk g2 [.string (str []), .string (str [97]), .string (str [98])] 9 :: L) w := s
          refine ⟨_, rfl, ?_⟩; clear ha; intro a ha
          refine st_val (.slice Ar ((isR r l).length) cr) ha (by kernel_rfl) (by kernel_rfl) ?_
          clear ha; intro a ha
          refine st_call ha (by kernel_rfl) (by kernel_rfl) (told_is W _ w A29 Ar _ _ c30 cr (isR r l) (Knows.own (j := 0) rfl) (Knows.own (j := 4) rfl) rfl rfl (by omega) s) ?_
          rintro _ w ⟨rfl, s⟩
          replace s : St W (Own 28 4 A29 ((isR r l).length) c30 (ws (isR r l)) :: Lob g1 (left (byHolder 1) (left (byKey (kk r) 1) l)) :: Own 28 4 A27 ((isK r l).length) c28 (ws (isK r l)) :: Own 3 1 Af ((isK r l).length) cf (ints (nums (isK r l))) :: Own 3 1 Ar ((isR r l).length) cr (ints (nums (isR r l))) :: .blk g2 [.string (str []), .string (str [97]), .string (str [98])] 9 :: L) w := s
          refine ⟨_, rfl, ?_⟩; clear ha; intro a ha
          refine st_val (.bool true) ha (by kernel_rfl) (by kernel_rfl) ?_
          clear ha; intro a ha
          refine st_val (.bool true) ha (by kernel_rfl) (by kernel_rfl) ?_
          clear ha; intro a ha
          refine st_val (.pointer (some ⟨g1, 0, none⟩)) ha (by kernel_rfl) (by kernel_rfl) ?_
          clear ha; intro a ha
          replace s := s.at_ (j := 1) rfl
          replace s : St W (Lob g1 (left (byHolder 1) (left (byKey (kk r) 1) l)) :: Own 28 4 A29 ((isR r l).length) c30 (ws (isR r l)) :: Own 28 4 A27 ((isK r l).length) c28 (ws (isK r l)) :: Own 3 1 Af ((isK r l).length) cf (ints (nums (isK r l))) :: Own 3 1 Ar ((isR r l).length) cr (ints (nums (isR r l))) :: .blk g2 [.string (str []), .string (str [97]), .string (str [98])] 9 :: L) w := s
          refine st_call ha (by kernel_rfl) (by kernel_rfl) (free_is W _ w g1 (left (byHolder 1) (left (byKey (kk r) 1) l)) 1 [] _ (none_left _) rfl ((hpf.left _).left _) s) ?_
          rintro _ w ⟨A31, c32, rfl, s⟩
          replace s : St W (Own 28 4 A31 0 c32 (ws []) :: Lob g1 (left (byHolder 1) (left (byHolder 1) (left (byKey (kk r) 1) l))) :: Own 28 4 A29 ((isR r l).length) c30 (ws (isR r l)) :: Own 28 4 A27 ((isK r l).length) c28 (ws (isK r l)) :: Own 3 1 Af ((isK r l).length) cf (ints (nums (isK r l))) :: Own 3 1 Ar ((isR r l).length) cr (ints (nums (isR r l))) :: .blk g2 [.string (str []), .string (str [97]), .string (str [98])] 9 :: L) w := s
          refine ⟨_, rfl, ?_⟩; clear ha; intro a ha
          refine st_val (.int .i64 0) ha (by kernel_rfl) (by kernel_rfl) ?_
          clear ha; intro a ha
          refine st_val (.bool true) ha (by kernel_rfl) (by kernel_rfl) ?_
          clear ha; intro a ha
          refine st_val (.bool true) ha (by kernel_rfl) (by kernel_rfl) ?_
          clear ha; intro a ha
          refine st_val (.bool true) ha (by kernel_rfl) (by kernel_rfl) ?_
          clear ha; intro a ha
          refine wpList_nil ?_
          refine then_normal ?_
          refine wp_ret ?_
          refine ret_with (v := .bool true) ha (results_1 rfl ha (res_tmp (by kernel_rfl) (by kernel_rfl))) ?_
          replace s := s.tail.tail.tail.tail.tail.tail.tail
          replace s : St W (L) w := s
          exact ⟨rfl, s⟩
        · have hkr : kk r = [98] := by rw [hr1]; rfl
          refine st_call ha (by kernel_rfl) (by kernel_rfl) (bring_to W _ w a_ 3 2 (hr0.trans hr1) (by omega) (by omega) s) ?_
          rintro _ w ⟨rfl, s⟩
          replace s : St W (Own 3 1 Af ((isK r l).length) cf (ints (nums (isK r l))) :: Own 3 1 Ar ((isR r l).length) cr (ints (nums (isR r l))) :: Lob g1 l :: .blk g2 [.string (str []), .string (str [97]), .string (str [98])] 9 :: L) w := s
          refine ⟨_, rfl, ?_⟩; clear ha; intro a ha
          refine st_val (.pointer (some ⟨g2, 2, none⟩)) ha (by kernel_rfl) (run_indexAddr (kd := .i64) (i := 2) (n := 3) (c := 3) 2 rfl Try.underlying56 Try.sizeOf9 (by kernel_rfl) (by kernel_rfl) rfl (by first | assumption | omega) _) ?_
          clear ha; intro a ha
          refine st_val (.string (str [98])) ha (by kernel_rfl) (run_load1 (of_ := 2) (s.blkIs 3 rfl) rfl (by kernel_rfl) Try.isAgg9 rfl) ?_
          clear ha; intro a ha
          replace s := s.at_ (j := 2) rfl
          replace s : St W (Lob g1 l :: Own 3 1 Af ((isK r l).length) cf (ints (nums (isK r l))) :: Own 3 1 Ar ((isR r l).length) cr (ints (nums (isR r l))) :: .blk g2 [.string (str []), .string (str [97]), .string (str [98])] 9 :: L) w := s
          refine st_call ha (by kernel_rfl) (by kernel_rfl) (at_is W _ w g1 l [98] 1 (isK r l) (left (byKey (kk r) 1) l) (by unfold isK; rw [hkr]) (by rw [hkr]) hpf s) ?_
          rintro _ w ⟨A33, c34, rfl, s⟩
          replace s : St W (Own 28 4 A33 ((isK r l).length) c34 (ws (isK r l)) :: Lob g1 (left (byKey (kk r) 1) l) :: Own 3 1 Af ((isK r l).length) cf (ints (nums (isK r l))) :: Own 3 1 Ar ((isR r l).length) cr (ints (nums (isR r l))) :: .blk g2 [.string (str []), .string (str [97]), .string (str [98])] 9 :: L) w := s
          refine ⟨_, rfl, ?_⟩; clear ha; intro a ha
          refine st_val (.slice Af ((isK r l).length) cf) ha (by kernel_rfl) (by kernel_rfl) ?_
          clear ha; intro a ha
          refine st_call ha (by kernel_rfl) (by kernel_rfl) (told_is W _ w A33 Af _ _ c34 cf (isK r l) (Knows.own (j := 0) rfl) (Knows.own (j := 2) rfl) rfl rfl (by omega) s) ?_
          rintro _ w ⟨rfl, s⟩
          replace s : St W (Own 28 4 A33 ((isK r l).length) c34 (ws (isK r l)) :: Lob g1 (left (byKey (kk r) 1) l) :: Own 3 1 Af ((isK r l).length) cf (ints (nums (isK r l))) :: Own 3 1 Ar ((isR r l).length) cr (ints (nums (isR r l))) :: .blk g2 [.string (str []), .string (str [97]), .string (str [98])] 9 :: L) w := s
          refine ⟨_, rfl, ?_⟩; clear ha; intro a ha
          refine st_val (.bool true) ha (by kernel_rfl) (by kernel_rfl) ?_
          clear ha; intro a ha
          refine st_val (.pointer (some ⟨g1, 0, none⟩)) ha (by kernel_rfl) (by kernel_rfl) ?_
          clear ha; intro a ha
          replace s := s.at_ (j := 1) rfl
          replace s : St W (Lob g1 (left (byKey (kk r) 1) l) :: Own 28 4 A33 ((isK r l).length) c34 (ws (isK r l)) :: Own 3 1 Af ((isK r l).length) cf (ints (nums (isK r l))) :: Own 3 1 Ar ((isR r l).length) cr (ints (nums (isR r l))) :: .blk g2 [.string (str []), .string (str [97]), .string (str [98])] 9 :: L) w := s
          refine st_call ha (by kernel_rfl) (by kernel_rfl) (free_is W _ w g1 (left (byKey (kk r) 1) l) 1 (isR r l) (left (byHolder 1) (left (byKey (kk r) 1) l)) rfl rfl (hpf.left _) s) ?_
          rintro _ w ⟨A35, c36, rfl, s⟩
          replace s : St W (Own 28 4 A35 ((isR r l).length) c36 (ws (isR r l)) :: Lob g1 (left (byHolder 1) (left (byKey (kk r) 1) l)) :: Own 28 4 A33 ((isK r l).length) c34 (ws (isK r l)) :: Own 3 1 Af ((isK r l).length) cf (ints (nums (isK r l))) :: Own 3 1 Ar ((isR r l).length) cr (ints (nums (isR r l))) :: .blk g2 [.string (str []), .string (str [97]), .string (str [98])] 9 :: L) w := s
          refine ⟨_, rfl, ?_⟩; clear ha; intro a ha
          refine st_val (.slice Ar ((isR r l).length) cr) ha (by kernel_rfl) (by kernel_rfl) ?_
          clear ha; intro a ha
          refine st_call ha (by kernel_rfl) (by kernel_rfl) (told_is W _ w A35 Ar _ _ c36 cr (isR r l) (Knows.own (j := 0) rfl) (Knows.own (j := 4) rfl) rfl rfl (by omega) s) ?_
          rintro _ w ⟨rfl, s⟩
          replace s : St W (Own 28 4 A35 ((isR r l).length) c36 (ws (isR r l)) :: Lob g1 (left (byHolder 1) (left (byKey (kk r) 1) l)) :: Own 28 4 A33 ((isK r l).length) c34 (ws (isK r l)) :: Own 3 1 Af ((isK r l).length) cf (ints (nums (isK r l))) :: Own 3 1 Ar ((isR r l).length) cr (ints (nums (isR r l))) :: .blk g2 [.string (str []), .string (str [97]), .string (str [98])] 9 :: L) w := s
          refine ⟨_, rfl, ?_⟩; clear ha; intro a ha
          refine st_val (.bool true) ha (by kernel_rfl) (by kernel_rfl) ?_
          clear ha; intro a ha
          refine st_val (.bool true) ha (by kernel_rfl) (by kernel_rfl) ?_
          clear ha; intro a ha
          refine st_val (.pointer (some ⟨g1, 0, none⟩)) ha (by kernel_rfl) (by kernel_rfl) ?_
          clear ha; intro a ha
          replace s := s.at_ (j := 1) rfl
          replace s : St W (Lob g1 (left (byHolder 1) (left (byKey (kk r) 1) l)) :: Own 28 4 A35 ((isR r l).length) c36 (ws (isR r l)) :: Own 28 4 A33 ((isK r l).length) c34 (ws (isK r l)) :: Own 3 1 Af ((isK r l).length) cf (ints (nums (isK r l))) :: Own 3 1 Ar ((isR r l).length) cr (ints (nums (isR r l))) :: .blk g2 [.string (str []), .string (str [97]), .string (str [98])] 9 :: L) w := s
          refine st_call ha (by kernel_rfl) (by kernel_rfl) (free_is W _ w g1 (left (byHolder 1) (left (byKey (kk r) 1) l)) 1 [] _ (none_left _) rfl ((hpf.left _).left _) s) ?_
          rintro _ w ⟨A37, c38, rfl, s⟩
          replace s : St W (Own 28 4 A37 0 c38 (ws []) :: Lob g1 (left (byHolder 1) (left (byHolder 1) (left (byKey (kk r) 1) l))) :: Own 28 4 A35 ((isR r l).length) c36 (ws (isR r l)) :: Own 28 4 A33 ((isK r l).length) c34 (ws (isK r l)) :: Own 3 1 Af ((isK r l).length) cf (ints (nums (isK r l))) :: Own 3 1 Ar ((isR r l).length) cr (ints (nums (isR r l))) :: .blk g2 [.string (str []), .string (str [97]), .string (str [98])] 9 :: L) w := s
          refine ⟨_, rfl, ?_⟩; clear ha; intro a ha
          refine st_val (.int .i64 0) ha (by kernel_rfl) (by kernel_rfl) ?_
          clear ha; intro a ha
          refine st_val (.bool true) ha (by kernel_rfl) (by kernel_rfl) ?_
          clear ha; intro a ha
          refine st_val (.bool true) ha (by kernel_rfl) (by kernel_rfl) ?_
          clear ha; intro a ha
          refine st_val (.bool true) ha (by kernel_rfl) (by kernel_rfl) ?_
          clear ha; intro a ha
          refine wpList_nil ?_
          refine then_normal ?_
          refine wp_ret ?_
          refine ret_with (v := .bool true) ha (results_1 rfl ha (res_tmp (by kernel_rfl) (by kernel_rfl))) ?_
          replace s := s.tail.tail.tail.tail.tail.tail.tail
          replace s : St W (L) w := s
          exact ⟨rfl, s⟩
    · rw [hb] at ha; replace hb : ¬ (((k : Nat) : Int) < ((n : Nat) : Int)) := of_decide_eq_false hb
      have hpf := hp.2.1
      have hkl := isK_le r l
      have hrl := isR_le r l
      have hll := hp.2.1.2
      refine st_pass ha (by kernel_rfl) ?_
      clear ha; intro a ha
      refine st_pass ha (by kernel_rfl) ?_
      clear ha; intro a ha
      refine st_val (.bool false) ha (by kernel_rfl) (by kernel_rfl) ?_
      clear ha; intro a ha
      refine wpList_nil ?_
      refine then_normal ?_
      refine wp_false ha rfl (by kernel_rfl) ?_
      refine wp_exit ?_
      refine then_exit ?_
      refine then_exit ?_
      refine block_hit ?_
      refine then_normal ?_
      refine wp_seq ?_
      refine wp_region_lit ?_
      refine st_val (.pointer (some ⟨g1, 0, none⟩)) ha (by kernel_rfl) (by kernel_rfl) ?_
      clear ha; intro a ha
      refine st_val (.slice (some ⟨g2, 0, none⟩) 3 3) ha (by kernel_rfl) (by kernel_rfl) ?_
      clear ha; intro a ha
      refine st_val (.int .i64 a_) ha (by kernel_rfl) (by kernel_rfl) ?_
      clear ha; intro a ha
      have hr1 : r = 0 ∨ r = 1 ∨ r = 2 := by omega
      rcases hr1 with hr1 | hr1 | hr1
      · have hkr : kk r = [] := by rw [hr1]; rfl
        refine st_call ha (by kernel_rfl) (by kernel_rfl) (bring_to W _ w a_ 3 0 (hr0.trans hr1) (by omega) (by omega) s) ?_
        rintro _ w ⟨rfl, s⟩
        replace s : St W (Own 3 1 Af ((isK r l).length) cf (ints (nums (isK r l))) :: Own 3 1 Ar ((isR r l).length) cr (ints (nums (isR r l))) :: Lob g1 l :: .blk g2 [.string (str []), .string (str [97]), .string (str [98])] 9 :: L) w := s
        refine ⟨_, rfl, ?_⟩; clear ha; intro a ha
        refine st_val (.pointer (some ⟨g2, 0, none⟩)) ha (by kernel_rfl) (run_indexAddr (kd := .i64) (i := 0) (n := 3) (c := 3) 0 rfl Try.underlying56 Try.sizeOf9 (by kernel_rfl) (by kernel_rfl) rfl (by first | assumption | omega) _) ?_
        clear ha; intro a ha
        refine st_val (.string (str [])) ha (by kernel_rfl) (run_load1 (of_ := 0) (s.blkIs 3 rfl) rfl (by kernel_rfl) Try.isAgg9 rfl) ?_
        clear ha; intro a ha
        replace s := s.at_ (j := 2) rfl
        replace s : St W (Lob g1 l :: Own 3 1 Af ((isK r l).length) cf (ints (nums (isK r l))) :: Own 3 1 Ar ((isR r l).length) cr (ints (nums (isR r l))) :: .blk g2 [.string (str []), .string (str [97]), .string (str [98])] 9 :: L) w := s
        refine st_call ha (by kernel_rfl) (by kernel_rfl) (at_is W _ w g1 l [] 1 (isK r l) (left (byKey (kk r) 1) l) (by unfold isK; rw [hkr]) (by rw [hkr]) hpf s) ?_
        rintro _ w ⟨A39, c40, rfl, s⟩
        replace s : St W (Own 28 4 A39 ((isK r l).length) c40 (ws (isK r l)) :: Lob g1 (left (byKey (kk r) 1) l) :: Own 3 1 Af ((isK r l).length) cf (ints (nums (isK r l))) :: Own 3 1 Ar ((isR r l).length) cr (ints (nums (isR r l))) :: .blk g2 [.string (str []), .string (str [97]), .string (str [98])] 9 :: L) w := s
        refine ⟨_, rfl, ?_⟩; clear ha; intro a ha
        refine st_val (.slice Af ((isK r l).length) cf) ha (by kernel_rfl) (by kernel_rfl) ?_
        clear ha; intro a ha
        refine st_call ha (by kernel_rfl) (by kernel_rfl) (told_is W _ w A39 Af _ _ c40 cf (isK r l) (Knows.own (j := 0) rfl) (Knows.own (j := 2) rfl) rfl rfl (by omega) s) ?_
        rintro _ w ⟨rfl, s⟩
        replace s : St W (Own 28 4 A39 ((isK r l).length) c40 (ws (isK r l)) :: Lob g1 (left (byKey (kk r) 1) l) :: Own 3 1 Af ((isK r l).length) cf (ints (nums (isK r l))) :: Own 3 1 Ar ((isR r l).length) cr (ints (nums (isR r l))) :: .blk g2 [.string (str []), .string (str [97]), .string (str [98])] 9 :: L) w := s
        refine ⟨_, rfl, ?_⟩; clear ha; intro a ha
        refine st_val (.bool true) ha (by kernel_rfl) (by kernel_rfl) ?_
        clear ha; intro a ha
        refine st_val (.pointer (some ⟨g1, 0, none⟩)) ha (by kernel_rfl) (by kernel_rfl) ?_
        clear ha; intro a ha
        replace s := s.at_ (j := 1) rfl
        replace s : St W (Lob g1 (left (byKey (kk r) 1) l) :: Own 28 4 A39 ((isK r l).length) c40 (ws (isK r l)) :: Own 3 1 Af ((isK r l).length) cf (ints (nums (isK r l))) :: Own 3 1 Ar ((isR r l).length) cr (ints (nums (isR r l))) :: .blk g2 [.string (str []), .string (str [97]), .string (str [98])] 9 :: L) w := s
        refine st_call ha (by kernel_rfl) (by kernel_rfl) (free_is W _ w g1 (left (byKey (kk r) 1) l) 1 (isR r l) (left (byHolder 1) (left (byKey (kk r) 1) l)) rfl rfl (hpf.left _) s) ?_
        rintro _ w ⟨A41, c42, rfl, s⟩
        replace s : St W (Own 28 4 A41 ((isR r l).length) c42 (ws (isR r l)) :: Lob g1 (left (byHolder 1) (left (byKey (kk r) 1) l)) :: Own 28 4 A39 ((isK r l).length) c40 (ws (isK r l)) :: Own 3 1 Af ((isK r l).length) cf (ints (nums (isK r l))) :: Own 3 1 Ar ((isR r l).length) cr (ints (nums (isR r l))) :: .blk g2 [.string (str []), .string (str [97]), .string (str [98])] 9 :: L) w := s
        refine ⟨_, rfl, ?_⟩; clear ha; intro a ha
        refine st_val (.slice Ar ((isR r l).length) cr) ha (by kernel_rfl) (by kernel_rfl) ?_
        clear ha; intro a ha
        refine st_call ha (by kernel_rfl) (by kernel_rfl) (told_is W _ w A41 Ar _ _ c42 cr (isR r l) (Knows.own (j := 0) rfl) (Knows.own (j := 4) rfl) rfl rfl (by omega) s) ?_
        rintro _ w ⟨rfl, s⟩
        replace s : St W (Own 28 4 A41 ((isR r l).length) c42 (ws (isR r l)) :: Lob g1 (left (byHolder 1) (left (byKey (kk r) 1) l)) :: Own 28 4 A39 ((isK r l).length) c40 (ws (isK r l)) :: Own 3 1 Af ((isK r l).length) cf (ints (nums (isK r l))) :: Own 3 1 Ar ((isR r l).length) cr (ints (nums (isR r l))) :: .blk g2 [.string (str []), .string (str [97]), .string (str [98])] 9 :: L) w := s
        refine ⟨_, rfl, ?_⟩; clear ha; intro a ha
        refine st_val (.bool true) ha (by kernel_rfl) (by kernel_rfl) ?_
        clear ha; intro a ha
        refine st_val (.bool true) ha (by kernel_rfl) (by kernel_rfl) ?_
        clear ha; intro a ha
        refine st_val (.pointer (some ⟨g1, 0, none⟩)) ha (by kernel_rfl) (by kernel_rfl) ?_
        clear ha; intro a ha
        replace s := s.at_ (j := 1) rfl
        replace s : St W (Lob g1 (left (byHolder 1) (left (byKey (kk r) 1) l)) :: Own 28 4 A41 ((isR r l).length) c42 (ws (isR r l)) :: Own 28 4 A39 ((isK r l).length) c40 (ws (isK r l)) :: Own 3 1 Af ((isK r l).length) cf (ints (nums (isK r l))) :: Own 3 1 Ar ((isR r l).length) cr (ints (nums (isR r l))) :: .blk g2 [.string (str []), .string (str [97]), .string (str [98])] 9 :: L) w := s
        refine st_call ha (by kernel_rfl) (by kernel_rfl) (free_is W _ w g1 (left (byHolder 1) (left (byKey (kk r) 1) l)) 1 [] _ (none_left _) rfl ((hpf.left _).left _) s) ?_
        rintro _ w ⟨A43, c44, rfl, s⟩
        replace s : St W (Own 28 4 A43 0 c44 (ws []) :: Lob g1 (left (byHolder 1) (left (byHolder 1) (left (byKey (kk r) 1) l))) :: Own 28 4 A41 ((isR r l).length) c42 (ws (isR r l)) :: Own 28 4 A39 ((isK r l).length) c40 (ws (isK r l)) :: Own 3 1 Af ((isK r l).length) cf (ints (nums (isK r l))) :: Own 3 1 Ar ((isR r l).length) cr (ints (nums (isR r l))) :: .blk g2 [.string (str []), .string (str [97]), .string (str [98])] 9 :: L) w := s
        refine ⟨_, rfl, ?_⟩; clear ha; intro a ha
        refine st_val (.int .i64 0) ha (by kernel_rfl) (by kernel_rfl) ?_
        clear ha; intro a ha
        refine st_val (.bool true) ha (by kernel_rfl) (by kernel_rfl) ?_
        clear ha; intro a ha
        refine st_val (.bool true) ha (by kernel_rfl) (by kernel_rfl) ?_
        clear ha; intro a ha
        refine st_val (.bool true) ha (by kernel_rfl) (by kernel_rfl) ?_
        clear ha; intro a ha
        refine wpList_nil ?_
        refine then_normal ?_
        refine wp_ret ?_
        refine ret_with (v := .bool true) ha (results_1 rfl ha (res_tmp (by kernel_rfl) (by kernel_rfl))) ?_
        replace s := s.tail.tail.tail.tail.tail.tail.tail
        replace s : St W (L) w := s
        exact ⟨rfl, s⟩
      · have hkr : kk r = [97] := by rw [hr1]; rfl
        refine st_call ha (by kernel_rfl) (by kernel_rfl) (bring_to W _ w a_ 3 1 (hr0.trans hr1) (by omega) (by omega) s) ?_
        rintro _ w ⟨rfl, s⟩
        replace s : St W (Own 3 1 Af ((isK r l).length) cf (ints (nums (isK r l))) :: Own 3 1 Ar ((isR r l).length) cr (ints (nums (isR r l))) :: Lob g1 l :: .blk g2 [.string (str []), .string (str [97]), .string (str [98])] 9 :: L) w := s
        refine ⟨_, rfl, ?_⟩; clear ha; intro a ha
        refine st_val (.pointer (some ⟨g2, 1, none⟩)) ha (by kernel_rfl) (run_indexAddr (kd := .i64) (i := 1) (n := 3) (c := 3) 1 rfl Try.underlying56 Try.sizeOf9 (by kernel_rfl) (by kernel_rfl) rfl (by first | assumption | omega) _) ?_
        clear ha; intro a ha
        refine st_val (.string (str [97])) ha (by kernel_rfl) (run_load1 (of_ := 1) (s.blkIs 3 rfl) rfl (by kernel_rfl) Try.isAgg9 rfl) ?_
        clear ha; intro a ha
        replace s := s.at_ (j := 2) rfl
        replace s : St W (Lob g1 l :: Own 3 1 Af ((isK r l).length) cf (ints (nums (isK r l))) :: Own 3 1 Ar ((isR r l).length) cr (ints (nums (isR r l))) :: .blk g2 [.string (str []), .string (str [97]), .string (str [98])] 9 :: L) w := s
        refine st_call ha (by kernel_rfl) (by kernel_rfl) (at_is W _ w g1 l [97] 1 (isK r l) (left (byKey (kk r) 1) l) (by unfold isK; rw [hkr]) (by rw [hkr]) hpf s) ?_
        rintro _ w ⟨A45, c46, rfl, s⟩
        replace s : St W (Own 28 4 A45 ((isK r l).length) c46 (ws (isK r l)) :: Lob g1 (left (byKey (kk r) 1) l) :: Own 3 1 Af ((isK r l).length) cf (ints (nums (isK r l))) :: Own 3 1 Ar ((isR r l).length) cr (ints (nums (isR r l))) :: .blk g2 [.string (str []), .string (str [97]), .string (str [98])] 9 :: L) w := s
        refine ⟨_, rfl, ?_⟩; clear ha; intro a ha
        refine st_val (.slice Af ((isK r l).length) cf) ha (by kernel_rfl) (by kernel_rfl) ?_
        clear ha; intro a ha
        refine st_call ha (by kernel_rfl) (by kernel_rfl) (told_is W _ w A45 Af _ _ c46 cf (isK r l) (Knows.own (j := 0) rfl) (Knows.own (j := 2) rfl) rfl rfl (by omega) s) ?_
        rintro _ w ⟨rfl, s⟩
        replace s : St W (Own 28 4 A45 ((isK r l).length) c46 (ws (isK r l)) :: Lob g1 (left (byKey (kk r) 1) l) :: Own 3 1 Af ((isK r l).length) cf (ints (nums (isK r l))) :: Own 3 1 Ar ((isR r l).length) cr (ints (nums (isR r l))) :: .blk g2 [.string (str []), .string (str [97]), .string (str [98])] 9 :: L) w := s
        refine ⟨_, rfl, ?_⟩; clear ha; intro a ha
        refine st_val (.bool true) ha (by kernel_rfl) (by kernel_rfl) ?_
        clear ha; intro a ha
        refine st_val (.pointer (some ⟨g1, 0, none⟩)) ha (by kernel_rfl) (by kernel_rfl) ?_
        clear ha; intro a ha
        replace s := s.at_ (j := 1) rfl
        replace s : St W (Lob g1 (left (byKey (kk r) 1) l) :: Own 28 4 A45 ((isK r l).length) c46 (ws (isK r l)) :: Own 3 1 Af ((isK r l).length) cf (ints (nums (isK r l))) :: Own 3 1 Ar ((isR r l).length) cr (ints (nums (isR r l))) :: .blk g2 [.string (str []), .string (str [97]), .string (str [98])] 9 :: L) w := s
        refine st_call ha (by kernel_rfl) (by kernel_rfl) (free_is W _ w g1 (left (byKey (kk r) 1) l) 1 (isR r l) (left (byHolder 1) (left (byKey (kk r) 1) l)) rfl rfl (hpf.left _) s) ?_
        rintro _ w ⟨A47, c48, rfl, s⟩
        replace s : St W (Own 28 4 A47 ((isR r l).length) c48 (ws (isR r l)) :: Lob g1 (left (byHolder 1) (left (byKey (kk r) 1) l)) :: Own 28 4 A45 ((isK r l).length) c46 (ws (isK r l)) :: Own 3 1 Af ((isK r l).length) cf (ints (nums (isK r l))) :: Own 3 1 Ar ((isR r l).length) cr (ints (nums (isR r l))) :: .blk g2 [.string (str []), .string (str [97]), .string (str [98])] 9 :: L) w := s
        refine ⟨_, rfl, ?_⟩; clear ha; intro a ha
        refine st_val (.slice Ar ((isR r l).length) cr) ha (by kernel_rfl) (by kernel_rfl) ?_
        clear ha; intro a ha
        refine st_call ha (by kernel_rfl) (by kernel_rfl) (told_is W _ w A47 Ar _ _ c48 cr (isR r l) (Knows.own (j := 0) rfl) (Knows.own (j := 4) rfl) rfl rfl (by omega) s) ?_
        rintro _ w ⟨rfl, s⟩
        replace s : St W (Own 28 4 A47 ((isR r l).length) c48 (ws (isR r l)) :: Lob g1 (left (byHolder 1) (left (byKey (kk r) 1) l)) :: Own 28 4 A45 ((isK r l).length) c46 (ws (isK r l)) :: Own 3 1 Af ((isK r l).length) cf (ints (nums (isK r l))) :: Own 3 1 Ar ((isR r l).length) cr (ints (nums (isR r l))) :: .blk g2 [.string (str []), .string (str [97]), .string (str [98])] 9 :: L) w := s
        refine ⟨_, rfl, ?_⟩; clear ha; intro a ha
        refine st_val (.bool true) ha (by kernel_rfl) (by kernel_rfl) ?_
        clear ha; intro a ha
        refine st_val (.bool true) ha (by kernel_rfl) (by kernel_rfl) ?_
        clear ha; intro a ha
        refine st_val (.pointer (some ⟨g1, 0, none⟩)) ha (by kernel_rfl) (by kernel_rfl) ?_
        clear ha; intro a ha
        replace s := s.at_ (j := 1) rfl
        replace s : St W (Lob g1 (left (byHolder 1) (left (byKey (kk r) 1) l)) :: Own 28 4 A47 ((isR r l).length) c48 (ws (isR r l)) :: Own 28 4 A45 ((isK r l).length) c46 (ws (isK r l)) :: Own 3 1 Af ((isK r l).length) cf (ints (nums (isK r l))) :: Own 3 1 Ar ((isR r l).length) cr (ints (nums (isR r l))) :: .blk g2 [.string (str []), .string (str [97]), .string (str [98])] 9 :: L) w := s
        refine st_call ha (by kernel_rfl) (by kernel_rfl) (free_is W _ w g1 (left (byHolder 1) (left (byKey (kk r) 1) l)) 1 [] _ (none_left _) rfl ((hpf.left _).left _) s) ?_
        rintro _ w ⟨A49, c50, rfl, s⟩
        replace s : St W (Own 28 4 A49 0 c50 (ws []) :: Lob g1 (left (byHolder 1) (left (byHolder 1) (left (byKey (kk r) 1) l))) :: Own 28 4 A47 ((isR r l).length) c48 (ws (isR r l)) :: Own 28 4 A45 ((isK r l).length) c46 (ws (isK r l)) :: Own 3 1 Af ((isK r l).length) cf (ints (nums (isK r l))) :: Own 3 1 Ar ((isR r l).length) cr (ints (nums (isR r l))) :: .blk g2 [.string (str []), .string (str [97]), .string (str [98])] 9 :: L) w := s
        refine ⟨_, rfl, ?_⟩; clear ha; intro a ha
        refine st_val (.int .i64 0) ha (by kernel_rfl) (by kernel_rfl) ?_
        clear ha; intro a ha
        refine st_val (.bool true) ha (by kernel_rfl) (by kernel_rfl) ?_
        clear ha; intro a ha
        refine st_val (.bool true) ha (by kernel_rfl) (by kernel_rfl) ?_
        clear ha; intro a ha
        refine st_val (.bool true) ha (by kernel_rfl) (by kernel_rfl) ?_
        clear ha; intro a ha
        refine wpList_nil ?_
        refine then_normal ?_
        refine wp_ret ?_
        refine ret_with (v := .bool true) ha (results_1 rfl ha (res_tmp (by kernel_rfl) (by kernel_rfl))) ?_
        replace s := s.tail.tail.tail.tail.tail.tail.tail
        replace s : St W (L) w := s
        exact ⟨rfl, s⟩
      · have hkr : kk r = [98] := by rw [hr1]; rfl
        refine st_call ha (by kernel_rfl) (by kernel_rfl) (bring_to W _ w a_ 3 2 (hr0.trans hr1) (by omega) (by omega) s) ?_
        rintro _ w ⟨rfl, s⟩
        replace s : St W (Own 3 1 Af ((isK r l).length) cf (ints (nums (isK r l))) :: Own 3 1 Ar ((isR r l).length) cr (ints (nums (isR r l))) :: Lob g1 l :: .blk g2 [.string (str []), .string (str [97]), .string (str [98])] 9 :: L) w := s
        refine ⟨_, rfl, ?_⟩; clear ha; intro a ha
        refine st_val (.pointer (some ⟨g2, 2, none⟩)) ha (by kernel_rfl) (run_indexAddr (kd := .i64) (i := 2) (n := 3) (c := 3) 2 rfl Try.underlying56 Try.sizeOf9 (by kernel_rfl) (by kernel_rfl) rfl (by first | assumption | omega) _) ?_
        clear ha; intro a ha
        refine st_val (.string (str [98])) ha (by kernel_rfl) (run_load1 (of_ := 2) (s.blkIs 3 rfl) rfl (by kernel_rfl) Try.isAgg9 rfl) ?_
        clear ha; intro a ha
        replace s := s.at_ (j := 2) rfl
        replace s : St W (Lob g1 l :: Own 3 1 Af ((isK r l).length) cf (ints (nums (isK r l))) :: Own 3 1 Ar ((isR r l).length) cr (ints (nums (isR r l))) :: .blk g2 [.string (str []), .string (str [97]), .string (str [98])] 9 :: L) w := s
        refine st_call ha (by kernel_rfl) (by kernel_rfl) (at_is W _ w g1 l [98] 1 (isK r l) (left (byKey (kk r) 1) l) (by unfold isK; rw [hkr]) (by rw [hkr]) hpf s) ?_
        rintro _ w ⟨A51, c52, rfl, s⟩
        replace s : St W (Own 28 4 A51 ((isK r l).length) c52 (ws (isK r l)) :: Lob g1 (left (byKey (kk r) 1) l) :: Own 3 1 Af ((isK r l).length) cf (ints (nums (isK r l))) :: Own 3 1 Ar ((isR r l).length) cr (ints (nums (isR r l))) :: .blk g2 [.string (str []), .string (str [97]), .string (str [98])] 9 :: L) w := s
        refine ⟨_, rfl, ?_⟩; clear ha; intro a ha
        refine st_val (.slice Af ((isK r l).length) cf) ha (by kernel_rfl) (by kernel_rfl) ?_
        clear ha; intro a ha
        refine st_call ha (by kernel_rfl) (by kernel_rfl) (told_is W _ w A51 Af _ _ c52 cf (isK r l) (Knows.own (j := 0) rfl) (Knows.own (j := 2) rfl) rfl rfl (by omega) s) ?_
        rintro _ w ⟨rfl, s⟩
        replace s : St W (Own 28 4 A51 ((isK r l).length) c52 (ws (isK r l)) :: Lob g1 (left (byKey (kk r) 1) l) :: Own 3 1 Af ((isK r l).length) cf (ints (nums (isK r l))) :: Own 3 1 Ar ((isR r l).length) cr (ints (nums (isR r l))) :: .blk g2 [.string (str []), .string (str [97]), .string (str [98])] 9 :: L) w := s
        refine ⟨_, rfl, ?_⟩; clear ha; intro a ha
        refine st_val (.bool true) ha (by kernel_rfl) (by kernel_rfl) ?_
        clear ha; intro a ha
        refine st_val (.pointer (some ⟨g1, 0, none⟩)) ha (by kernel_rfl) (by kernel_rfl) ?_
        clear ha; intro a ha
        replace s := s.at_ (j := 1) rfl
        replace s : St W (Lob g1 (left (byKey (kk r) 1) l) :: Own 28 4 A51 ((isK r l).length) c52 (ws (isK r l)) :: Own 3 1 Af ((isK r l).length) cf (ints (nums (isK r l))) :: Own 3 1 Ar ((isR r l).length) cr (ints (nums (isR r l))) :: .blk g2 [.string (str []), .string (str [97]), .string (str [98])] 9 :: L) w := s
        refine st_call ha (by kernel_rfl) (by kernel_rfl) (free_is W _ w g1 (left (byKey (kk r) 1) l) 1 (isR r l) (left (byHolder 1) (left (byKey (kk r) 1) l)) rfl rfl (hpf.left _) s) ?_
        rintro _ w ⟨A53, c54, rfl, s⟩
        replace s : St W (Own 28 4 A53 ((isR r l).length) c54 (ws (isR r l)) :: Lob g1 (left (byHolder 1) (left (byKey (kk r) 1) l)) :: Own 28 4 A51 ((isK r l).length) c52 (ws (isK r l)) :: Own 3 1 Af ((isK r l).length) cf (ints (nums (isK r l))) :: Own 3 1 Ar ((isR r l).length) cr (ints (nums (isR r l))) :: .blk g2 [.string (str []), .string (str [97]), .string (str [98])] 9 :: L) w := s
        refine ⟨_, rfl, ?_⟩; clear ha; intro a ha
        refine st_val (.slice Ar ((isR r l).length) cr) ha (by kernel_rfl) (by kernel_rfl) ?_
        clear ha; intro a ha
        refine st_call ha (by kernel_rfl) (by kernel_rfl) (told_is W _ w A53 Ar _ _ c54 cr (isR r l) (Knows.own (j := 0) rfl) (Knows.own (j := 4) rfl) rfl rfl (by omega) s) ?_
        rintro _ w ⟨rfl, s⟩
        replace s : St W (Own 28 4 A53 ((isR r l).length) c54 (ws (isR r l)) :: Lob g1 (left (byHolder 1) (left (byKey (kk r) 1) l)) :: Own 28 4 A51 ((isK r l).length) c52 (ws (isK r l)) :: Own 3 1 Af ((isK r l).length) cf (ints (nums (isK r l))) :: Own 3 1 Ar ((isR r l).length) cr (ints (nums (isR r l))) :: .blk g2 [.string (str []), .string (str [97]), .string (str [98])] 9 :: L) w := s
        refine ⟨_, rfl, ?_⟩; clear ha; intro a ha
        refine st_val (.bool true) ha (by kernel_rfl) (by kernel_rfl) ?_
        clear ha; intro a ha
        refine st_val (.bool true) ha (by kernel_rfl) (by kernel_rfl) ?_
        clear ha; intro a ha
        refine st_val (.pointer (some ⟨g1, 0, none⟩)) ha (by kernel_rfl) (by kernel_rfl) ?_
        clear ha; intro a ha
        replace s := s.at_ (j := 1) rfl
        replace s : St W (Lob g1 (left (byHolder 1) (left (byKey (kk r) 1) l)) :: Own 28 4 A53 ((isR r l).length) c54 (ws (isR r l)) :: Own 28 4 A51 ((isK r l).length) c52 (ws (isK r l)) :: Own 3 1 Af ((isK r l).length) cf (ints (nums (isK r l))) :: Own 3 1 Ar ((isR r l).length) cr (ints (nums (isR r l))) :: .blk g2 [.string (str []), .string (str [97]), .string (str [98])] 9 :: L) w := s
        refine st_call ha (by kernel_rfl) (by kernel_rfl) (free_is W _ w g1 (left (byHolder 1) (left (byKey (kk r) 1) l)) 1 [] _ (none_left _) rfl ((hpf.left _).left _) s) ?_
        rintro _ w ⟨A55, c56, rfl, s⟩
        replace s : St W (Own 28 4 A55 0 c56 (ws []) :: Lob g1 (left (byHolder 1) (left (byHolder 1) (left (byKey (kk r) 1) l))) :: Own 28 4 A53 ((isR r l).length) c54 (ws (isR r l)) :: Own 28 4 A51 ((isK r l).length) c52 (ws (isK r l)) :: Own 3 1 Af ((isK r l).length) cf (ints (nums (isK r l))) :: Own 3 1 Ar ((isR r l).length) cr (ints (nums (isR r l))) :: .blk g2 [.string (str []), .string (str [97]), .string (str [98])] 9 :: L) w := s
        refine ⟨_, rfl, ?_⟩; clear ha; intro a ha
        refine st_val (.int .i64 0) ha (by kernel_rfl) (by kernel_rfl) ?_
        clear ha; intro a ha
        refine st_val (.bool true) ha (by kernel_rfl) (by kernel_rfl) ?_
        clear ha; intro a ha
        refine st_val (.bool true) ha (by kernel_rfl) (by kernel_rfl) ?_
        clear ha; intro a ha
        refine st_val (.bool true) ha (by kernel_rfl) (by kernel_rfl) ?_
        clear ha; intro a ha
        refine wpList_nil ?_
        refine then_normal ?_
        refine wp_ret ?_
        refine ret_with (v := .bool true) ha (results_1 rfl ha (res_tmp (by kernel_rfl) (by kernel_rfl))) ?_
        replace s := s.tail.tail.tail.tail.tail.tail.tail
        replace s : St W (L) w := s
        exact ⟨rfl, s⟩

end Go.Proofs.Ytlkoppmenpeepaa.B
