import Derived.Test.YtlkoppmenpeepaaB6
namespace Go.Proofs.Ytlkoppmenpeepaa.B
open Go.RowKit Go.Maps Go.Sort Go.Shelf Go.Proofs.Ytlkoppmenpeepaa.Sep Go.Proofs.Ytlkoppmenpeepaa.P
set_option linter.unusedVariables false
set_option linter.unusedSimpArgs false
theorem wt_eq (x y : Wt) : decide (x = y) = (decide (x.num = y.num) && (decide (x.key = y.key) && (decide (x.waiter = y.waiter) && decide (x.holder = y.holder)))) := by
  have h : x = y ↔ x.num = y.num ∧ x.key = y.key ∧ x.waiter = y.waiter ∧ x.holder = y.holder := by
    cases x; cases y; simp
  by_cases h1 : x.num = y.num <;> by_cases h2 : x.key = y.key <;> by_cases h3 : x.waiter = y.waiter <;> by_cases h4 : x.holder = y.holder <;> simp [h, h1, h2, h3, h4]
set_option maxHeartbeats 1000000 in
theorem eqW (x y : Wt) (w : World) : (Op.equalIn 10000 28 (.agg (wc x).toArray) (.agg (wc y).toArray)).run Try.prog w = .ok (decide (x = y)) w := by
  have u3 := Try.underlying3
  have a3 := Try.isAgg3
  have z3 := Try.sizeOf3
  have u9 := Try.underlying9
  have a9 := Try.isAgg9
  have z9 := Try.sizeOf9
  have hS : Try.prog.underlying 28 = some (.struct (Try.prog.fieldsOf 28)) := by kernel_rfl
  have hp : Try.prog.stoodInHeld 28 = false := by kernel_rfl
  rw [show (10000 : Nat) = 9999 + 1 from rfl, run_equalIn_struct w 9999 28 _ _ hS hp]
  simp only [Program.fieldsOf, Try.underlying28, wc]
  go_simp
  rw [wt_eq]
  by_cases h1 : x.num = y.num <;> by_cases h2 : x.key = y.key <;> by_cases h3 : x.waiter = y.waiter <;> by_cases h4 : x.holder = y.holder <;> simp [h1, h2, h3, h4, eqb_str, str_list]
theorem run_wt {o : Oper} {E : Env} {op : BinOp} {a b : Operand} {x y : Wt} {yt : TypeId} (hop : op = .eql ∨ op = .neq) (ho : o.op = .binOp op 28 a b yt) (hx : evalE E a = .agg (wc x).toArray) (hy : evalE E b = .agg (wc y).toArray) :
    ∀ w, (execOp (evalE E) o).run Try.prog w = .ok (.value (.bool (if op = .eql then decide (x = y) else decide (x ≠ y)))) w := by
  intro w
  have hm : Try.prog.eqGuardType Try.prog.depth 28 = false := by kernel_rfl
  have g : ∀ op a b u v, (eqGuard op 28 a b (.agg u) (.agg v)).run Try.prog w = .ok () w := fun op a b u v => run_eqGuard_agg w op 28 a b _ _ hm
  rcases hop with rfl | rfl
  · simp [execOp, ho, hx, hy, run_eql_struct, eqW, g]
  · simp [execOp, ho, hx, hy, run_neq_struct, eqW, g]
/-- A lobby of the program's, with these requests. -/
def Lob (g : Nat) (l : List Wt) : Chunk := .oth fun h => ∃ A c, SatH [.blk g [.bool true, .slice A l.length c] 62, Own 28 4 A l.length c (ws l)] h
/-- A lobby of the reference's. -/
def RLob (g : Nat) (l : List Wt) : Chunk := .oth fun h => ∃ A c, SatH [.blk g [.slice A l.length c] 64, Own 34 4 A l.length c (ws l)] h
section
variable {W w : World} {L : List Chunk} {g : Nat} {l : List Wt} {A : Option Addr} {n c : Nat}
theorem Lob.open_ (s : St W (Lob g l :: L) w) : ∃ A c, St W (.blk g [.bool true, .slice A l.length c] 62 :: Own 28 4 A l.length c (ws l) :: L) w := by
  obtain ⟨⟨h1, h2, a, s1, s2, ⟨A, c, y⟩, z⟩, u⟩ := s
  exact ⟨A, c, SatH.append_iff.2 ⟨h1, h2, a, s1, s2, y, z⟩, u⟩
theorem Lob.close (hn : n = l.length) (s : St W (.blk g [.bool true, .slice A n c] 62 :: Own 28 4 A n c (ws l) :: L) w) : St W (Lob g l :: L) w := by
  subst hn
  obtain ⟨h1, h2, a, s1, s2, y, z⟩ := (SatH.append_iff (L := [_, _])).1 s.1
  exact ⟨⟨h1, h2, a, s1, s2, ⟨A, c, y⟩, z⟩, s.2⟩
theorem RLob.open_ (s : St W (RLob g l :: L) w) : ∃ A c, St W (.blk g [.slice A l.length c] 64 :: Own 34 4 A l.length c (ws l) :: L) w := by
  obtain ⟨⟨h1, h2, a, s1, s2, ⟨A, c, y⟩, z⟩, u⟩ := s
  exact ⟨A, c, SatH.append_iff.2 ⟨h1, h2, a, s1, s2, y, z⟩, u⟩
theorem RLob.close (hn : n = l.length) (s : St W (.blk g [.slice A n c] 64 :: Own 34 4 A n c (ws l) :: L) w) : St W (RLob g l :: L) w := by
  subst hn
  obtain ⟨h1, h2, a, s1, s2, y, z⟩ := (SatH.append_iff (L := [_, _])).1 s.1
  exact ⟨⟨h1, h2, a, s1, s2, ⟨A, c, y⟩, z⟩, s.2⟩
end

theorem bring_pos (W : World) (L : List Chunk) (w : World) (i n : Int) (hn : 0 < n) (hb : n ≤ 1000000) (s : St W L w) :
    Calls Try.prog 10 #[.int .i64 i, .int .i64 n] w fun e w' => e = .returned (.int .i64 (i % n)) ∧ St W L w' := by
  have ht1 := Int.tmod_lt_of_pos i hn
  have ht2 := Int.lt_tmod_of_pos i hn
  have ht3 := Int.tmod_def i n
  have ht4 : i % n = if i.tmod n < 0 then i.tmod n + n else i.tmod n := by
    have h1 := Int.tmod_eq_emod (a := i) (b := n)
    have h2 := Int.emod_nonneg i (show n ≠ 0 by omega)
    have h3 := Int.emod_lt_of_pos i hn
    split at h1 <;> split <;> omega
  refine enter_args (l := [.int .i64 i, .int .i64 n]) Try.func10 rfl rfl (Nat.le_of_ble_eq_true rfl) ?_
  intro a ha; replace ha : Has a 16 [(0, .int .i64 i), (1, .int .i64 n)] := ha
  refine wp_seq ?_
  refine wp_region_lit ?_
  refine st_val (.int .i64 0) ha (by kernel_rfl) (by kernel_rfl) ?_
  clear ha; intro a ha
  refine wpList_nil ?_
  refine then_normal ?_
  refine wp_seq ?_
  refine wp_seq ?_
  refine wp_region_lit ?_
  refine st_val (.int .i64 n) ha (by kernel_rfl) (by kernel_rfl) ?_
  clear ha; intro a ha
  refine st_val (.bool false) ha (by kernel_rfl) (run_known (show (decide (n ≤ (0 : Int))) = false from decide_eq_false (by omega)) (by kernel_rfl)) ?_
  clear ha; intro a ha
  refine wpList_nil ?_
  refine then_normal ?_
  refine wp_false ha rfl (by kernel_rfl) ?_
  refine wp_skip ?_
  refine then_normal ?_
  refine wp_seq ?_
  refine wp_region_lit ?_
  refine st_val (.int .i64 i) ha (by kernel_rfl) (by kernel_rfl) ?_
  clear ha; intro a ha
  refine st_val (.int .i64 n) ha (by kernel_rfl) (by kernel_rfl) ?_
  clear ha; intro a ha
  refine st_val (.int .i64 ((i).tmod n)) ha (by kernel_rfl) (run_rem ((i).tmod n) rfl (by kernel_rfl) (by kernel_rfl) (by omega) rfl _) ?_
  clear ha; intro a ha
  refine st_val (.int .i64 ((i).tmod n)) ha (by kernel_rfl) (by kernel_rfl) ?_
  clear ha; intro a ha
  refine wpList_nil ?_
  refine then_normal ?_
  refine wp_seq ?_
  refine wp_seq ?_
  refine wp_region_lit ?_
  refine st_val (.int .i64 ((i).tmod n)) ha (by kernel_rfl) (by kernel_rfl) ?_
  clear ha; intro a ha
  refine st_val (.bool (decide (((i).tmod n) < (0 : Int)))) ha (by kernel_rfl) (by kernel_rfl) ?_
  clear ha; intro a ha
  refine wpList_nil ?_
  refine then_normal ?_
  refine wp_part (decide (((i).tmod n) < (0 : Int))) ha rfl (by kernel_rfl) (fun hb => ?_) (fun hb => ?_)
  · rw [hb] at ha; replace hb : (((i).tmod n) < (0 : Int)) := of_decide_eq_true hb
    refine wp_region_lit ?_
    refine st_val (.int .i64 ((i).tmod n)) ha (by kernel_rfl) (by kernel_rfl) ?_
    clear ha; intro a ha
    refine st_val (.int .i64 n) ha (by kernel_rfl) (by kernel_rfl) ?_
    clear ha; intro a ha
    refine st_val (.int .i64 (((i).tmod n) + n)) ha (by kernel_rfl) (run_arith (((i).tmod n) + n) (((i).tmod n) + n) rfl (by kernel_rfl) (by kernel_rfl) (.inl ⟨rfl, rfl⟩) (by rw [wrap64_in (by omega)]) _) ?_
    clear ha; intro a ha
    refine st_val (.int .i64 (((i).tmod n) + n)) ha (by kernel_rfl) (by kernel_rfl) ?_
    clear ha; intro a ha
    refine wpList_nil ?_
    refine then_normal ?_
    refine wp_seq ?_
    refine wp_region_lit ?_
    refine st_val (.int .i64 (((i).tmod n) + n)) ha (by kernel_rfl) (by kernel_rfl) ?_
    clear ha; intro a ha
    refine st_val (.int .i64 (((i).tmod n) + n)) ha (by kernel_rfl) (by kernel_rfl) ?_
    clear ha; intro a ha
    refine wpList_nil ?_
    refine then_normal ?_
    refine wp_ret ?_
    refine ret_with (v := .int .i64 (((i).tmod n) + n)) ha (results_1 rfl ha (res_tmp (by kernel_rfl) (by kernel_rfl))) ?_
    refine ⟨?_, s⟩
    congr 2
    omega
  · rw [hb] at ha; replace hb : ¬ (((i).tmod n) < (0 : Int)) := of_decide_eq_false hb
    refine wp_skip ?_
    refine then_normal ?_
    refine wp_seq ?_
    refine wp_region_lit ?_
    refine st_val (.int .i64 ((i).tmod n)) ha (by kernel_rfl) (by kernel_rfl) ?_
    clear ha; intro a ha
    refine st_val (.int .i64 ((i).tmod n)) ha (by kernel_rfl) (by kernel_rfl) ?_
    clear ha; intro a ha
    refine wpList_nil ?_
    refine then_normal ?_
    refine wp_ret ?_
    refine ret_with (v := .int .i64 ((i).tmod n)) ha (results_1 rfl ha (res_tmp (by kernel_rfl) (by kernel_rfl))) ?_
    refine ⟨?_, s⟩
    congr 2
    omega

theorem wait_any (W : World) (L : List Chunk) (w : World) (a_ b_ c_ : Int) (k_ : List UInt8) (s : St W L w) :
    Calls Try.prog 26 #[.int .i64 a_, .string (str k_), .int .i64 b_, .int .i64 c_] w fun e w' => e = .returned (.agg #[.int .i64 a_, .string (str k_), .int .i64 b_, .int .i64 c_]) ∧ St W L w' := by
  refine enter_args (l := [.int .i64 a_, .string (str k_), .int .i64 b_, .int .i64 c_]) Try.func26 rfl rfl (Nat.le_of_ble_eq_true rfl) ?_
  intro a ha; replace ha : Has a 14 [(0, .int .i64 a_), (1, .string (str k_)), (2, .int .i64 b_), (3, .int .i64 c_)] := ha
  refine wp_seq ?_
  refine wp_region_lit ?_
  refine st_ex ha (by kernel_rfl) (ex_alloc [.int .i64 0, .string (str []), .int .i64 0, .int .i64 0] s rfl (Try.zeroValue28 _) (by kernel_rfl)) ?_
  clear ha; rintro _ w a ⟨g1, rfl, s⟩ ha
  replace s : St W (.blk g1 [.int .i64 0, .string (str []), .int .i64 0, .int .i64 0] 28 :: L) w := s
  refine wpList_nil ?_
  refine then_normal ?_
  refine wp_seq ?_
  refine wp_region_lit ?_
  refine st_val (.int .i64 a_) ha (by kernel_rfl) (by kernel_rfl) ?_
  clear ha; intro a ha
  refine st_val (.string (str k_)) ha (by kernel_rfl) (by kernel_rfl) ?_
  clear ha; intro a ha
  refine st_val (.int .i64 b_) ha (by kernel_rfl) (by kernel_rfl) ?_
  clear ha; intro a ha
  refine st_val (.int .i64 c_) ha (by kernel_rfl) (by kernel_rfl) ?_
  clear ha; intro a ha
  refine st_val (.agg #[.int .i64 a_, .string (str k_), .int .i64 b_, .int .i64 c_]) ha (by kernel_rfl) (by kernel_rfl) ?_
  clear ha; intro a ha
  refine st_exd ha (by kernel_rfl) (ex_store (of_ := 0) 0 [.int .i64 a_, .string (str k_), .int .i64 b_, .int .i64 c_] s rfl rfl (by kernel_rfl) (by kernel_rfl) (Try.sizeOf28 _) rfl (by simp [Value.oneCell']) (Nat.le_of_ble_eq_true rfl)) ?_
  clear ha; rintro w a s ha
  replace s : St W (.blk g1 [.int .i64 a_, .string (str k_), .int .i64 b_, .int .i64 c_] 28 :: L) w := s
  refine wpList_nil ?_
  refine then_normal ?_
  refine wp_ret ?_
  refine ret_with (v := .agg #[.int .i64 a_, .string (str k_), .int .i64 b_, .int .i64 c_]) ha (results_1 rfl ha (res_cellN (s.blkIs 0 rfl) (by kernel_rfl) (by kernel_rfl) Try.isAgg28 Try.sizeOf28 rfl)) ?_
  replace s := s.tail
  replace s : St W (L) w := s
  exact ⟨rfl, s⟩

theorem like_any (W : World) (L : List Chunk) (w : World) (A B : Option Addr) (n m ca cb : Nat) (la lb : List Wt) (hra : Knows L fun w => Reads w 4 A n (ws la)) (hrb : Knows L fun w => Reads w 4 B m (ws lb)) (hal : la.length = n) (hbl : lb.length = m) (hm : m ≤ 140737488351232) (s : St W L w) :
    Calls Try.prog 15 #[.slice A n ca, .slice B m cb] w fun e w' => e = .returned (.bool (decide (la = lb))) ∧ St W L w' := by
  refine enter_args (l := [.slice A n ca, .slice B m cb]) Try.func15 rfl rfl (Nat.le_of_ble_eq_true rfl) ?_
  intro a ha; replace ha : Has a 26 [(0, .slice A n ca), (1, .slice B m cb)] := ha
  refine wp_seq ?_
  refine wp_region_lit ?_
  refine st_val (.bool false) ha (by kernel_rfl) (by kernel_rfl) ?_
  clear ha; intro a ha
  refine wpList_nil ?_
  refine then_normal ?_
  refine wp_seq ?_
  refine wp_seq ?_
  refine wp_region_lit ?_
  refine st_val (.slice A n ca) ha (by kernel_rfl) (by kernel_rfl) ?_
  clear ha; intro a ha
  refine st_val (.int .i64 ((n : Nat) : Int)) ha (by kernel_rfl) (by kernel_rfl) ?_
  clear ha; intro a ha
  refine st_val (.slice B m cb) ha (by kernel_rfl) (by kernel_rfl) ?_
  clear ha; intro a ha
  refine st_val (.int .i64 ((m : Nat) : Int)) ha (by kernel_rfl) (by kernel_rfl) ?_
  clear ha; intro a ha
  refine st_val (.bool (((n : Nat) : Int) != ((m : Nat) : Int))) ha (by kernel_rfl) (by kernel_rfl) ?_
  clear ha; intro a ha
  refine wpList_nil ?_
  refine then_normal ?_
  refine wp_part (((n : Nat) : Int) != ((m : Nat) : Int)) ha rfl (by kernel_rfl) (fun hb => ?_) (fun hb => ?_)
  · rw [hb] at ha; have hb_ := hb; replace hb := bne_iff_ne.1 hb
    refine wp_seq ?_
    refine wp_region_lit ?_
    refine st_val (.bool false) ha (by kernel_rfl) (by kernel_rfl) ?_
    clear ha; intro a ha
    refine wpList_nil ?_
    refine then_normal ?_
    refine wp_ret ?_
    refine then_ret ?_
    refine ret_with (v := .bool false) ha (results_1 rfl ha (res_tmp (by kernel_rfl) (by kernel_rfl))) ?_
    refine ⟨?_, s⟩
    rw [decide_eq_false (fun e => by subst e; omega)]
  · rw [hb] at ha; have hb_ := hb; replace hb := bne_eq_false_iff_eq.1 hb
    have hnm : m = n := by omega
    subst hnm
    refine wp_skip ?_
    refine then_normal ?_
    refine wp_seq ?_
    refine wp_seq ?_
    refine wp_region_lit ?_
    refine st_val (.int .i64 0) ha (by kernel_rfl) (by kernel_rfl) ?_
    clear ha; intro a ha
    refine wpList_nil ?_
    refine then_normal ?_
    refine wp_block ?_
    refine wp_loopG (G := Nat) (fun k a w => Has a 26 [(0, .slice A m ca), (1, .slice B m cb), (5, .int .i64 ((k : Nat) : Int))] ∧ St W (L) w ∧ (k ≤ m ∧ la.take k = lb.take k)) (fun k => m - k) 0 ?_ ?_
    · exact ⟨(Has.cons ha (by kernel_rfl) (by kernel_rfl) (Has.cons ha (by kernel_rfl) (by kernel_rfl) (Has.cons ha (by kernel_rfl) (by kernel_rfl) (Has.nil ha)))), s, ⟨Nat.zero_le _, rfl⟩⟩
    · clear ha s; rintro k a w ⟨ha, s, hp⟩
      refine wp_seq ?_
      refine wp_seq ?_
      refine wp_region_lit ?_
      refine st_val (.int .i64 ((k : Nat) : Int)) ha (by kernel_rfl) (by kernel_rfl) ?_
      clear ha; intro a ha
      refine st_val (.slice A m ca) ha (by kernel_rfl) (by kernel_rfl) ?_
      clear ha; intro a ha
      refine st_val (.int .i64 ((m : Nat) : Int)) ha (by kernel_rfl) (by kernel_rfl) ?_
      clear ha; intro a ha
      refine st_val (.bool (decide (((k : Nat) : Int) < ((m : Nat) : Int)))) ha (by kernel_rfl) (by kernel_rfl) ?_
      clear ha; intro a ha
      refine wpList_nil ?_
      refine then_normal ?_
      refine wp_part (decide (((k : Nat) : Int) < ((m : Nat) : Int))) ha rfl (by kernel_rfl) (fun hb => ?_) (fun hb => ?_)
      · rw [hb] at ha; replace hb : (((k : Nat) : Int) < ((m : Nat) : Int)) := of_decide_eq_true hb
        obtain ⟨x, hx⟩ : ∃ x, la[k]? = some x := ⟨_, List.getElem?_eq_getElem (by omega)⟩
        obtain ⟨y, hy⟩ : ∃ y, lb[k]? = some y := ⟨_, List.getElem?_eq_getElem (by omega)⟩
        obtain ⟨ada, hA⟩ := Reads.addr (hra _ s.sat) (by omega)
        subst hA
        obtain ⟨adb, hB⟩ := Reads.addr (hrb _ s.sat) (by omega)
        subst hB
        refine wp_skip ?_
        refine then_normal ?_
        refine wp_seq ?_
        refine wp_block ?_
        refine wp_seq ?_
        refine wp_region_head 8 (fun w => Reads w 4 (some ada) m (ws la) ∧ Reads w 4 (some adb) m (ws lb) ∧ True) (by kernel_rfl) (by decide) ?_
        replace s := s.drew; generalize _root_.Go.World.drew _ = w at s ⊢
        have hS : (fun w => Reads w 4 (some ada) m (ws la) ∧ Reads w 4 (some adb) m (ws lb) ∧ True) w := ⟨(hra _ s.sat), (hrb _ s.sat), trivial⟩
        refine hd_val (i := 0) (.slice (some ada) m ca) ha rfl (by kernel_rfl) (fun _ _ _ h => h) (by kernel_rfl) (fun w hS => (by kernel_rfl)) hS ?_
        clear ha; intro a ha
        refine hd_val (i := 1) (.int .i64 ((k : Nat) : Int)) ha rfl (by kernel_rfl) (fun _ _ _ h => h) (by kernel_rfl) (fun w hS => (by kernel_rfl)) hS ?_
        clear ha; intro a ha
        refine hd_val (i := 2) (.pointer (some (ada.add (k * 4)))) ha rfl (by kernel_rfl) (fun _ _ _ h => h) (by kernel_rfl) (fun w hS => (run_indexAddr' (kd := .i64) (i := ((k : Nat) : Int)) (n := m) (c := ca) k rfl Try.underlying37 Try.sizeOf28 (by kernel_rfl) (by kernel_rfl) rfl (by first | assumption | omega) _)) hS ?_
        clear ha; intro a ha
        refine hd_val (i := 3) (.agg #[.int .i64 x.num, .string (str x.key), .int .i64 x.waiter, .int .i64 x.holder]) ha rfl (by kernel_rfl) (fun _ _ _ h => h) (by kernel_rfl) (fun w hS => run_loadAtN (i := k * 4) [.int .i64 x.num, .string (str x.key), .int .i64 x.waiter, .int .i64 x.holder] hS.1 rfl (by kernel_rfl) Try.isAgg28 Try.sizeOf28 (fun q_ hq_ => ws_at hx hq_) rfl) hS ?_
        clear ha; intro a ha
        refine hd_val (i := 4) (.slice (some adb) m cb) ha rfl (by kernel_rfl) (fun _ _ _ h => h) (by kernel_rfl) (fun w hS => (by kernel_rfl)) hS ?_
        clear ha; intro a ha
        refine hd_val (i := 5) (.int .i64 ((k : Nat) : Int)) ha rfl (by kernel_rfl) (fun _ _ _ h => h) (by kernel_rfl) (fun w hS => (by kernel_rfl)) hS ?_
        clear ha; intro a ha
        refine hd_val (i := 6) (.pointer (some (adb.add (k * 4)))) ha rfl (by kernel_rfl) (fun _ _ _ h => h) (by kernel_rfl) (fun w hS => (run_indexAddr' (kd := .i64) (i := ((k : Nat) : Int)) (n := m) (c := cb) k rfl Try.underlying39 Try.sizeOf34 (by kernel_rfl) (by kernel_rfl) rfl (by first | assumption | omega) _)) hS ?_
        clear ha; intro a ha
        refine hd_val (i := 7) (.agg #[.int .i64 y.num, .string (str y.key), .int .i64 y.waiter, .int .i64 y.holder]) ha rfl (by kernel_rfl) (fun _ _ _ h => h) (by kernel_rfl) (fun w hS => run_loadAtN (i := k * 4) [.int .i64 y.num, .string (str y.key), .int .i64 y.waiter, .int .i64 y.holder] hS.2.1 rfl (by kernel_rfl) Try.isAgg34 Try.sizeOf34 (fun q_ hq_ => ws_at hy hq_) rfl) hS ?_
        clear ha; intro a ha
        refine Head.done (by kernel_rfl) ?_
        clear hS; simp only [List.drop_succ_cons, List.drop_zero]
        refine st_val (.bool (decide (x ≠ y))) ha (by kernel_rfl) (run_wt (x := x) (y := y) (.inr rfl) rfl (by kernel_rfl) (by kernel_rfl) _) ?_
        clear ha; intro a ha
        refine wpList_nil ?_
        refine then_normal ?_
        refine wp_part (decide (x ≠ y)) ha rfl (by kernel_rfl) (fun hb => ?_) (fun hb => ?_)
        · rw [hb] at ha; replace hb : (x ≠ y) := of_decide_eq_true hb
          refine wp_seq ?_
          refine wp_region_lit ?_
          refine st_val (.bool false) ha (by kernel_rfl) (by kernel_rfl) ?_
          clear ha; intro a ha
          refine wpList_nil ?_
          refine then_normal ?_
          refine wp_ret ?_
          refine block_ret ?_
          refine then_ret ?_
          refine then_ret ?_
          refine block_ret ?_
          refine then_ret ?_
          refine ret_with (v := .bool false) ha (results_1 rfl ha (res_tmp (by kernel_rfl) (by kernel_rfl))) ?_
          refine ⟨?_, s⟩
          rw [decide_eq_false (fun e => by subst e; rw [hx] at hy; cases hy; exact hb rfl)]
        · rw [hb] at ha; replace hb : ¬ (x ≠ y) := of_decide_eq_false hb
          replace hb : x = y := Decidable.not_not.1 hb
          refine wp_skip ?_
          refine block_normal ?_
          refine then_normal ?_
          refine wp_region_lit ?_
          refine st_val (.int .i64 ((k : Nat) : Int)) ha (by kernel_rfl) (by kernel_rfl) ?_
          clear ha; intro a ha
          refine st_val (.int .i64 ((k + 1 : Nat) : Int)) ha (by kernel_rfl) (run_arith (((k : Nat) : Int) + (1 : Int)) ((k + 1 : Nat) : Int) rfl (by kernel_rfl) (by kernel_rfl) (.inl ⟨rfl, rfl⟩) (by rw [wrap64_in (by omega)]; try omega) _) ?_
          clear ha; intro a ha
          refine st_val (.int .i64 ((k + 1 : Nat) : Int)) ha (by kernel_rfl) (by kernel_rfl) ?_
          clear ha; intro a ha
          refine wpList_nil ?_
          refine then_normal ?_
          exact ⟨k + 1, by omega, (Has.cons ha (by kernel_rfl) (by kernel_rfl) (Has.cons ha (by kernel_rfl) (by kernel_rfl) (Has.cons ha (by kernel_rfl) (by kernel_rfl) (Has.nil ha)))), s, by omega, by rw [take_snoc hx, take_snoc hy, hp.2, hb]⟩
      · rw [hb] at ha; replace hb : ¬ (((k : Nat) : Int) < ((m : Nat) : Int)) := of_decide_eq_false hb
        refine wp_exit ?_
        refine then_exit ?_
        refine then_exit ?_
        refine block_hit ?_
        refine then_normal ?_
        refine wp_seq ?_
        refine wp_region_lit ?_
        refine st_val (.bool true) ha (by kernel_rfl) (by kernel_rfl) ?_
        clear ha; intro a ha
        refine wpList_nil ?_
        refine then_normal ?_
        refine wp_ret ?_
        refine ret_with (v := .bool true) ha (results_1 rfl ha (res_tmp (by kernel_rfl) (by kernel_rfl))) ?_
        refine ⟨?_, s⟩
        have h2 := hp.2
        rw [List.take_of_length_le (by omega), List.take_of_length_le (by omega)] at h2
        rw [decide_eq_true h2]

theorem add_lob (W : World) (L : List Chunk) (w : World) (g : Nat) (l : List Wt) (x : Wt) (hf : Fine l) (s : St W (Lob g l :: L) w) : Calls Try.prog 18 #[.pointer (some ⟨g, 0, none⟩), .agg #[.int .i64 x.num, .string (str x.key), .int .i64 x.waiter, .int .i64 x.holder]] w fun e w' => e = .returned (.int .i64 (addCode x l)) ∧ St W (Lob g (add x l) :: L) w' := by
  obtain ⟨A, c, s⟩ := Lob.open_ s
  have hn : l.length ≤ 100 := by have := hf.2; omega
  refine (add_made W _ w g A _ c l rfl hn x s).mono ?_
  rintro e w' ⟨A', c', rfl, s⟩
  exact ⟨rfl, Lob.close rfl s⟩

theorem take_lob (W : World) (L : List Chunk) (w : World) (g : Nat) (l : List Wt) (m : Int) (hf : Fine l) (s : St W (Lob g l :: L) w) : Calls Try.prog 11 #[.pointer (some ⟨g, 0, none⟩), .int .i64 m] w fun e w' => e = .returned (.tuple #[.agg #[.int .i64 (hd (out (byNum m) l)).num, .string (str (hd (out (byNum m) l)).key), .int .i64 (hd (out (byNum m) l)).waiter, .int .i64 (hd (out (byNum m) l)).holder], .bool (!(out (byNum m) l).isEmpty)]) ∧ St W (Lob g (left (byNum m) l) :: L) w' := by
  obtain ⟨A, c, s⟩ := Lob.open_ s
  have hn : l.length ≤ 100 := by have := hf.2; omega
  refine (take_made W _ w g A _ c l rfl hn m s).mono ?_
  rintro e w' ⟨rfl, s⟩
  exact ⟨rfl, Lob.close rfl s⟩

theorem free_lob (W : World) (L : List Chunk) (w : World) (g : Nat) (l : List Wt) (m : Int) (hf : Fine l) (s : St W (Lob g l :: L) w) : Calls Try.prog 16 #[.pointer (some ⟨g, 0, none⟩), .int .i64 m] w fun e w' => ∃ A' c', e = .returned (.slice A' (out (byHolder m) l).length c') ∧ St W (Own 28 4 A' (out (byHolder m) l).length c' (ws (out (byHolder m) l)) :: Lob g (left (byHolder m) l) :: L) w' := by
  obtain ⟨A, c, s⟩ := Lob.open_ s
  have hn : l.length ≤ 100 := by have := hf.2; omega
  refine (free_made W _ w g A _ c l rfl hn m s).mono ?_
  rintro e w' ⟨A', c', rfl, s⟩
  exact ⟨A', c', rfl, St.at_ (j := 1) (Lob.close rfl ((s.at_ (j := 2) rfl).at_ (j := 2) rfl)) rfl⟩

theorem at_lob (W : World) (L : List Chunk) (w : World) (g : Nat) (l : List Wt) (k : List UInt8) (m : Int) (hf : Fine l) (s : St W (Lob g l :: L) w) : Calls Try.prog 13 #[.pointer (some ⟨g, 0, none⟩), .string (str k), .int .i64 m] w fun e w' => ∃ A' c', e = .returned (.slice A' (out (byKey k m) l).length c') ∧ St W (Own 28 4 A' (out (byKey k m) l).length c' (ws (out (byKey k m) l)) :: Lob g (left (byKey k m) l) :: L) w' := by
  obtain ⟨A, c, s⟩ := Lob.open_ s
  have hn : l.length ≤ 100 := by have := hf.2; omega
  refine (at_made W _ w g A _ c l rfl hn k m s).mono ?_
  rintro e w' ⟨A', c', rfl, s⟩
  exact ⟨A', c', rfl, St.at_ (j := 1) (Lob.close rfl ((s.at_ (j := 2) rfl).at_ (j := 2) rfl)) rfl⟩

theorem len_lob (W : World) (L : List Chunk) (w : World) (g : Nat) (l : List Wt) (hf : Fine l) (s : St W (Lob g l :: L) w) : Calls Try.prog 23 #[.pointer (some ⟨g, 0, none⟩)] w fun e w' => e = .returned (.int .i64 ((l.length : Nat) : Int)) ∧ St W (Lob g l :: L) w' := by
  obtain ⟨A, c, s⟩ := Lob.open_ s
  have hn : l.length ≤ 100 := by have := hf.2; omega
  refine (len_made W _ w g A _ c l rfl hn s).mono ?_
  rintro e w' ⟨rfl, s⟩
  exact ⟨rfl, Lob.close rfl s⟩

theorem edges_lob (W : World) (hW : W.drawn = 0) (L : List Chunk) (w : World) (g : Nat) (l : List Wt) (hf : Fine l) (s : St W (Lob g l :: L) w) : Calls Try.prog 20 #[.pointer (some ⟨g, 0, none⟩)] w fun e w' => ∃ A' c' d, e = .returned (.slice A' d.length c') ∧ EdgesOf l d ∧ St W (Own 51 2 A' d.length c' (pcs d) :: Lob g l :: L) w' := by
  obtain ⟨A, c, s⟩ := Lob.open_ s
  have hn : l.length ≤ 100 := by have := hf.2; omega
  refine (edges_made W hW _ w g A _ c l rfl hn (fun x h => hf.1 x h) s).mono ?_
  rintro e w' ⟨A', c', d, rfl, hE, s⟩
  exact ⟨A', c', d, rfl, hE, St.at_ (j := 1) (Lob.close rfl ((s.at_ (j := 2) rfl).at_ (j := 2) rfl)) rfl⟩

theorem new_lob (W : World) (L : List Chunk) (w : World) (s : St W L w) : Calls Try.prog 8 #[] w fun e w' => ∃ g, e = .returned (.pointer (some ⟨g, 0, none⟩)) ∧ St W (Lob g [] :: L) w' := by
  refine (new_any W L w s).mono ?_
  rintro e w' ⟨g, rfl, s⟩
  exact ⟨g, rfl, Lob.close (A := none) (c := 0) rfl ((Own.none_ (e := 28) (k := 4) none s).at_ (j := 1) rfl)⟩

theorem radd_lob (W : World) (L : List Chunk) (w : World) (g : Nat) (l : List Wt) (x : Wt) (hf : Fine l) (s : St W (RLob g l :: L) w) : Calls Try.prog 19 #[.pointer (some ⟨g, 0, none⟩), .agg #[.int .i64 x.num, .string (str x.key), .int .i64 x.waiter, .int .i64 x.holder]] w fun e w' => e = .returned (.int .i64 (addCode x l)) ∧ St W (RLob g (add x l) :: L) w' := by
  obtain ⟨A, c, s⟩ := RLob.open_ s
  have hn : l.length ≤ 100 := by have := hf.2; omega
  refine (radd_any W _ w g A _ c l rfl hn x s).mono ?_
  rintro e w' ⟨A', c', rfl, s⟩
  exact ⟨rfl, RLob.close rfl s⟩

theorem rtake_lob (W : World) (L : List Chunk) (w : World) (g : Nat) (l : List Wt) (m : Int) (hf : Fine l) (s : St W (RLob g l :: L) w) : Calls Try.prog 12 #[.pointer (some ⟨g, 0, none⟩), .int .i64 m] w fun e w' => e = .returned (.tuple #[.agg #[.int .i64 (hd (out (byNum m) l)).num, .string (str (hd (out (byNum m) l)).key), .int .i64 (hd (out (byNum m) l)).waiter, .int .i64 (hd (out (byNum m) l)).holder], .bool (!(out (byNum m) l).isEmpty)]) ∧ St W (RLob g (left (byNum m) l) :: L) w' := by
  obtain ⟨A, c, s⟩ := RLob.open_ s
  have hn : l.length ≤ 100 := by have := hf.2; omega
  refine (rtake_any W _ w g A _ c l rfl hn m s).mono ?_
  rintro e w' ⟨A', c', rfl, s⟩
  exact ⟨rfl, RLob.close rfl s⟩

theorem rfree_lob (W : World) (L : List Chunk) (w : World) (g : Nat) (l : List Wt) (m : Int) (hf : Fine l) (s : St W (RLob g l :: L) w) : Calls Try.prog 17 #[.pointer (some ⟨g, 0, none⟩), .int .i64 m] w fun e w' => ∃ A' c', e = .returned (.slice A' (out (byHolder m) l).length c') ∧ St W (Own 34 4 A' (out (byHolder m) l).length c' (ws (out (byHolder m) l)) :: RLob g (left (byHolder m) l) :: L) w' := by
  obtain ⟨A, c, s⟩ := RLob.open_ s
  have hn : l.length ≤ 100 := by have := hf.2; omega
  refine (rfree_any W _ w g A _ c l rfl hn m s).mono ?_
  rintro e w' ⟨A', c', A1, c1, rfl, s⟩
  exact ⟨A', c', rfl, St.at_ (j := 1) (RLob.close rfl ((s.at_ (j := 2) rfl).at_ (j := 2) rfl)) rfl⟩

theorem rat_lob (W : World) (L : List Chunk) (w : World) (g : Nat) (l : List Wt) (k : List UInt8) (m : Int) (hf : Fine l) (s : St W (RLob g l :: L) w) : Calls Try.prog 14 #[.pointer (some ⟨g, 0, none⟩), .string (str k), .int .i64 m] w fun e w' => ∃ A' c', e = .returned (.slice A' (out (byKey k m) l).length c') ∧ St W (Own 34 4 A' (out (byKey k m) l).length c' (ws (out (byKey k m) l)) :: RLob g (left (byKey k m) l) :: L) w' := by
  obtain ⟨A, c, s⟩ := RLob.open_ s
  have hn : l.length ≤ 100 := by have := hf.2; omega
  refine (rat_any W _ w g A _ c l rfl hn k m s).mono ?_
  rintro e w' ⟨A', c', A1, c1, rfl, s⟩
  exact ⟨A', c', rfl, St.at_ (j := 1) (RLob.close rfl ((s.at_ (j := 2) rfl).at_ (j := 2) rfl)) rfl⟩

theorem rlen_lob (W : World) (L : List Chunk) (w : World) (g : Nat) (l : List Wt) (hf : Fine l) (s : St W (RLob g l :: L) w) : Calls Try.prog 24 #[.pointer (some ⟨g, 0, none⟩)] w fun e w' => e = .returned (.int .i64 ((l.length : Nat) : Int)) ∧ St W (RLob g l :: L) w' := by
  obtain ⟨A, c, s⟩ := RLob.open_ s
  have hn : l.length ≤ 100 := by have := hf.2; omega
  refine (rlen_any W _ w g A _ c l rfl hn s).mono ?_
  rintro e w' ⟨rfl, s⟩
  exact ⟨rfl, RLob.close rfl s⟩

theorem redges_lob (W : World) (L : List Chunk) (w : World) (g : Nat) (l : List Wt) (hf : Fine l) (s : St W (RLob g l :: L) w) : Calls Try.prog 22 #[.pointer (some ⟨g, 0, none⟩)] w fun e w' => ∃ A' c' d, e = .returned (.slice A' d.length c') ∧ EdgesOf l d ∧ St W (Own 51 2 A' d.length c' (pcs d) :: RLob g l :: L) w' := by
  obtain ⟨A, c, s⟩ := RLob.open_ s
  have hn : l.length ≤ 100 := by have := hf.2; omega
  refine (redges_any W _ w g A _ c l rfl hn s).mono ?_
  rintro e w' ⟨A', c', d, rfl, hE, s⟩
  exact ⟨A', c', d, rfl, hE, St.at_ (j := 1) (RLob.close rfl ((s.at_ (j := 2) rfl).at_ (j := 2) rfl)) rfl⟩

theorem rnew_lob (W : World) (L : List Chunk) (w : World) (s : St W L w) : Calls Try.prog 9 #[] w fun e w' => ∃ g, e = .returned (.pointer (some ⟨g, 0, none⟩)) ∧ St W (RLob g [] :: L) w' := by
  refine (rnew_any W L w s).mono ?_
  rintro e w' ⟨g, rfl, s⟩
  exact ⟨g, rfl, RLob.close (A := none) (c := 0) rfl ((Own.none_ (e := 34) (k := 4) none s).at_ (j := 1) rfl)⟩

end Go.Proofs.Ytlkoppmenpeepaa.B
