import Derived.Test.YtcnlidaacgcdhaaB2
namespace Go.Proofs.Ytcnlidaacgcdhaa.B
open Go.RowKit Go.Proofs.Ytcnlidaacgcdhaa.Sep Go.Proofs.Ytcnlidaacgcdhaa.P
set_option linter.unusedVariables false
set_option linter.unusedSimpArgs false
theorem Knows.blk {L : List Chunk} {j g k n : Nat} {cs : List Value} {t : TypeId} (h : L[j]? = some (.blk g cs t)) (hl : cs.length = n * k) : Knows L fun w => Reads w k (some ⟨g, 0, none⟩) n cs :=
  fun w s => reads_blk (s.perm (perm_at h)).cell hl
theorem run_speql {o : Oper} {E : Env} {x y : Operand} {yt : TypeId} {p q : Span} (ho : o.op = .binOp .eql 29 x y yt) (hx : evalE E x = .agg (sp p).toArray) (hy : evalE E y = .agg (sp q).toArray) :
    ∀ w, (execOp (evalE E) o).run Try.prog w = .ok (.value (.bool (decide (p = q)))) w := run_sp (.inl ⟨rfl, rfl⟩) ho hx hy
theorem run_spneq {o : Oper} {E : Env} {x y : Operand} {yt : TypeId} {p q : Span} (ho : o.op = .binOp .neq 29 x y yt) (hx : evalE E x = .agg (sp p).toArray) (hy : evalE E y = .agg (sp q).toArray) :
    ∀ w, (execOp (evalE E) o).run Try.prog w = .ok (.value (.bool (decide (p ≠ q)))) w := run_sp (.inr ⟨rfl, rfl⟩) ho hx hy
theorem enters24 : ∀ args w, (callFunc 24 args).run Try.prog w = .ok (.enter 24 args) w := enters_of Try.func24 (by kernel_rfl) rfl
theorem enters25 : ∀ args w, (callFunc 25 args).run Try.prog w = .ok (.enter 25 args) w := enters_of Try.func25 (by kernel_rfl) rfl
theorem enters26 : ∀ args w, (callFunc 26 args).run Try.prog w = .ok (.enter 26 args) w := enters_of Try.func26 (by kernel_rfl) rfl

theorem join_ok (W : World) (L : List Chunk) (w : World) (A : Option Addr) (n ca : Nat) (la : List Span) (hra : Knows L fun w => Reads w 2 A n (sps la)) (han : la.length = n) (hoka : ∀ s ∈ la, chk s = 0) (hn : n ≤ 1000) (s : St W L w) :
    Calls Try.prog 10 #[.slice A n ca] w fun e w' => ∃ A' c' cl, e = .returned (.tuple #[.slice A' cl.length c', .int .i64 0]) ∧ Canon cl (fun k => decide (0 < cnt la k)) ∧ (∀ s ∈ cl, s.1.length ≤ 33 ∧ s.2.length ≤ 33) ∧ cl.length ≤ 2 * n ∧ St W (Own 29 2 A' cl.length c' (sps cl) :: L) w' := by
  refine enter_args (l := [.slice A n ca]) Try.func10 rfl rfl (Nat.le_of_ble_eq_true rfl) ?_
  intro a ha; replace ha : Has a 8 [(0, .slice A n ca)] := ha
  refine wp_seq ?_
  refine wp_region_lit ?_
  refine st_val (.slice none 0 0) ha (by kernel_rfl) (by kernel_rfl) ?_
  clear ha; intro a ha
  refine st_val (.int .i64 0) ha (by kernel_rfl) (by kernel_rfl) ?_
  clear ha; intro a ha
  refine wpList_nil ?_
  refine then_normal ?_
  refine wp_seq ?_
  refine wp_region_lit ?_
  refine st_val (.slice A n ca) ha (by kernel_rfl) (by kernel_rfl) ?_
  clear ha; intro a ha
  refine st_call ha (by kernel_rfl) (by kernel_rfl) (sweep_ok W _ w A none n 0 ca 0 (2 * n + 2 * 0) la [] 24 (fun x _ => decide (0 < x)) hra (Knows.reads_none _ _) han rfl hoka (by simp) hn (by omega) rfl enters24 (fun V M w x y s => wjoin_any V M w x y s) rfl s) ?_
  rintro _ w ⟨A1, c2, cl, rfl, hcan, hsm, hcl, s⟩
  replace s : St W (Own 29 2 A1 cl.length c2 (sps cl) :: L) w := s
  refine ⟨_, rfl, ?_⟩; clear ha; intro a ha
  refine st_val (.slice A1 cl.length c2) ha (by kernel_rfl) (by kernel_rfl) ?_
  clear ha; intro a ha
  refine st_val (.int .i64 0) ha (by kernel_rfl) (by kernel_rfl) ?_
  clear ha; intro a ha
  refine st_val (.slice A1 cl.length c2) ha (by kernel_rfl) (by kernel_rfl) ?_
  clear ha; intro a ha
  refine st_val (.int .i64 0) ha (by kernel_rfl) (by kernel_rfl) ?_
  clear ha; intro a ha
  refine wpList_nil ?_
  refine then_normal ?_
  refine wp_ret ?_
  refine ret_with (v := .tuple #[.slice A1 cl.length c2, .int .i64 0]) ha (results_2 rfl ha (res_tmp (by kernel_rfl) (by kernel_rfl)) (res_tmp (by kernel_rfl) (by kernel_rfl))) ?_
  exact ⟨_, _, cl, rfl, hcan.congr (fun k => by simp), hsm, by omega, s⟩

theorem both_ok (W : World) (L : List Chunk) (w : World) (A B : Option Addr) (n m ca cb : Nat) (la lb : List Span) (hra : Knows L fun w => Reads w 2 A n (sps la)) (hrb : Knows L fun w => Reads w 2 B m (sps lb)) (han : la.length = n) (hbm : lb.length = m) (hoka : ∀ s ∈ la, chk s = 0) (hokb : ∀ s ∈ lb, chk s = 0) (hn : n ≤ 1000) (hm : m ≤ 1000) (s : St W L w) :
    Calls Try.prog 12 #[.slice A n ca, .slice B m cb] w fun e w' => ∃ A' c' cl, e = .returned (.tuple #[.slice A' cl.length c', .int .i64 0]) ∧ Canon cl (fun k => decide (0 < cnt la k) && decide (0 < cnt lb k)) ∧ (∀ s ∈ cl, s.1.length ≤ 33 ∧ s.2.length ≤ 33) ∧ cl.length ≤ 2 * n + 2 * m ∧ St W (Own 29 2 A' cl.length c' (sps cl) :: L) w' := by
  refine enter_args (l := [.slice A n ca, .slice B m cb]) Try.func12 rfl rfl (Nat.le_of_ble_eq_true rfl) ?_
  intro a ha; replace ha : Has a 11 [(0, .slice A n ca), (1, .slice B m cb)] := ha
  refine wp_seq ?_
  refine wp_region_lit ?_
  refine st_val (.slice none 0 0) ha (by kernel_rfl) (by kernel_rfl) ?_
  clear ha; intro a ha
  refine st_val (.int .i64 0) ha (by kernel_rfl) (by kernel_rfl) ?_
  clear ha; intro a ha
  refine wpList_nil ?_
  refine then_normal ?_
  refine wp_seq ?_
  refine wp_region_lit ?_
  refine st_val (.slice A n ca) ha (by kernel_rfl) (by kernel_rfl) ?_
  clear ha; intro a ha
  refine st_val (.slice B m cb) ha (by kernel_rfl) (by kernel_rfl) ?_
  clear ha; intro a ha
  refine st_call ha (by kernel_rfl) (by kernel_rfl) (sweep_ok W _ w A B n m ca cb (2 * n + 2 * m) la lb 25 (fun x y => decide (0 < x) && decide (0 < y)) hra hrb han hbm hoka hokb hn hm rfl enters25 (fun V M w x y s => wboth_any V M w x y s) rfl s) ?_
  rintro _ w ⟨A1, c2, cl, rfl, hcan, hsm, hcl, s⟩
  replace s : St W (Own 29 2 A1 cl.length c2 (sps cl) :: L) w := s
  refine ⟨_, rfl, ?_⟩; clear ha; intro a ha
  refine st_val (.slice A1 cl.length c2) ha (by kernel_rfl) (by kernel_rfl) ?_
  clear ha; intro a ha
  refine st_val (.int .i64 0) ha (by kernel_rfl) (by kernel_rfl) ?_
  clear ha; intro a ha
  refine st_val (.slice A1 cl.length c2) ha (by kernel_rfl) (by kernel_rfl) ?_
  clear ha; intro a ha
  refine st_val (.int .i64 0) ha (by kernel_rfl) (by kernel_rfl) ?_
  clear ha; intro a ha
  refine wpList_nil ?_
  refine then_normal ?_
  refine wp_ret ?_
  refine ret_with (v := .tuple #[.slice A1 cl.length c2, .int .i64 0]) ha (results_2 rfl ha (res_tmp (by kernel_rfl) (by kernel_rfl)) (res_tmp (by kernel_rfl) (by kernel_rfl))) ?_
  exact ⟨_, _, cl, rfl, hcan.congr (fun k => by simp), hsm, hcl, s⟩

theorem less_ok (W : World) (L : List Chunk) (w : World) (A B : Option Addr) (n m ca cb : Nat) (la lb : List Span) (hra : Knows L fun w => Reads w 2 A n (sps la)) (hrb : Knows L fun w => Reads w 2 B m (sps lb)) (han : la.length = n) (hbm : lb.length = m) (hoka : ∀ s ∈ la, chk s = 0) (hokb : ∀ s ∈ lb, chk s = 0) (hn : n ≤ 1000) (hm : m ≤ 1000) (s : St W L w) :
    Calls Try.prog 13 #[.slice A n ca, .slice B m cb] w fun e w' => ∃ A' c' cl, e = .returned (.tuple #[.slice A' cl.length c', .int .i64 0]) ∧ Canon cl (fun k => decide (0 < cnt la k) && decide (cnt lb k = 0)) ∧ (∀ s ∈ cl, s.1.length ≤ 33 ∧ s.2.length ≤ 33) ∧ cl.length ≤ 2 * n + 2 * m ∧ St W (Own 29 2 A' cl.length c' (sps cl) :: L) w' := by
  refine enter_args (l := [.slice A n ca, .slice B m cb]) Try.func13 rfl rfl (Nat.le_of_ble_eq_true rfl) ?_
  intro a ha; replace ha : Has a 11 [(0, .slice A n ca), (1, .slice B m cb)] := ha
  refine wp_seq ?_
  refine wp_region_lit ?_
  refine st_val (.slice none 0 0) ha (by kernel_rfl) (by kernel_rfl) ?_
  clear ha; intro a ha
  refine st_val (.int .i64 0) ha (by kernel_rfl) (by kernel_rfl) ?_
  clear ha; intro a ha
  refine wpList_nil ?_
  refine then_normal ?_
  refine wp_seq ?_
  refine wp_region_lit ?_
  refine st_val (.slice A n ca) ha (by kernel_rfl) (by kernel_rfl) ?_
  clear ha; intro a ha
  refine st_val (.slice B m cb) ha (by kernel_rfl) (by kernel_rfl) ?_
  clear ha; intro a ha
  refine st_call ha (by kernel_rfl) (by kernel_rfl) (sweep_ok W _ w A B n m ca cb (2 * n + 2 * m) la lb 26 (fun x y => decide (0 < x) && (y == (0 : Int))) hra hrb han hbm hoka hokb hn hm rfl enters26 (fun V M w x y s => wless_any V M w x y s) rfl s) ?_
  rintro _ w ⟨A1, c2, cl, rfl, hcan, hsm, hcl, s⟩
  replace s : St W (Own 29 2 A1 cl.length c2 (sps cl) :: L) w := s
  refine ⟨_, rfl, ?_⟩; clear ha; intro a ha
  refine st_val (.slice A1 cl.length c2) ha (by kernel_rfl) (by kernel_rfl) ?_
  clear ha; intro a ha
  refine st_val (.int .i64 0) ha (by kernel_rfl) (by kernel_rfl) ?_
  clear ha; intro a ha
  refine st_val (.slice A1 cl.length c2) ha (by kernel_rfl) (by kernel_rfl) ?_
  clear ha; intro a ha
  refine st_val (.int .i64 0) ha (by kernel_rfl) (by kernel_rfl) ?_
  clear ha; intro a ha
  refine wpList_nil ?_
  refine then_normal ?_
  refine wp_ret ?_
  refine ret_with (v := .tuple #[.slice A1 cl.length c2, .int .i64 0]) ha (results_2 rfl ha (res_tmp (by kernel_rfl) (by kernel_rfl)) (res_tmp (by kernel_rfl) (by kernel_rfl))) ?_
  exact ⟨_, _, cl, rfl, hcan.congr (fun k => by by_cases h : cnt lb k = 0 <;> simp [h] <;> omega), hsm, hcl, s⟩

theorem same_any (W : World) (L : List Chunk) (w : World) (A B : Option Addr) (n m ca cb : Nat) (la lb : List Span) (hra : Knows L fun w => Reads w 2 A n (sps la)) (hrb : Knows L fun w => Reads w 2 B m (sps lb)) (han : la.length = n) (hbm : lb.length = m) (hn : n ≤ 1000000) (s : St W L w) :
    Calls Try.prog 11 #[.slice A n ca, .slice B m cb] w fun e w' => e = .returned (.bool (decide (la = lb))) ∧ St W L w' := by
  refine enter_args (l := [.slice A n ca, .slice B m cb]) Try.func11 rfl rfl (Nat.le_of_ble_eq_true rfl) ?_
  intro a ha; replace ha : Has a 26 [(0, .slice A n ca), (1, .slice B m cb)] := ha
  refine wp_seq ?_
  refine wp_region_lit ?_
  refine st_val (.bool false) ha (by kernel_rfl) (by kernel_rfl) ?_
  clear ha; intro a ha
  refine wpList_nil ?_
  refine then_normal ?_
  refine wp_seq ?_
  refine wp_seq ?_
  refine wp_region_lit ?_
  refine st_val (.slice A n ca) ha (by kernel_rfl) (by kernel_rfl) ?_
  clear ha; intro a ha
  refine st_val (.int .i64 ((n : Nat) : Int)) ha (by kernel_rfl) (by kernel_rfl) ?_
  clear ha; intro a ha
  refine st_val (.slice B m cb) ha (by kernel_rfl) (by kernel_rfl) ?_
  clear ha; intro a ha
  refine st_val (.int .i64 ((m : Nat) : Int)) ha (by kernel_rfl) (by kernel_rfl) ?_
  clear ha; intro a ha
  refine st_val (.bool (((n : Nat) : Int) != ((m : Nat) : Int))) ha (by kernel_rfl) (by kernel_rfl) ?_
  clear ha; intro a ha
  refine wpList_nil ?_
  refine then_normal ?_
  refine wp_part (((n : Nat) : Int) != ((m : Nat) : Int)) ha rfl (by kernel_rfl) (fun hb => ?_) (fun hb => ?_)
  · rw [hb] at ha; have hb_ := hb; replace hb := bne_iff_ne.1 hb
    refine wp_seq ?_
    refine wp_region_lit ?_
    refine st_val (.bool false) ha (by kernel_rfl) (by kernel_rfl) ?_
    clear ha; intro a ha
    refine wpList_nil ?_
    refine then_normal ?_
    refine wp_ret ?_
    refine then_ret ?_
    refine ret_with (v := .bool false) ha (results_1 rfl ha (res_tmp (by kernel_rfl) (by kernel_rfl))) ?_
    refine ⟨?_, s⟩
    have : la ≠ lb := fun h => by
      subst h
      first | omega | (rw [hx] at hy; cases hy; exact absurd rfl hb)
    simp [this]
  · rw [hb] at ha; have hb_ := hb; replace hb := bne_eq_false_iff_eq.1 hb
    refine wp_skip ?_
    refine then_normal ?_
    refine wp_seq ?_
    refine wp_seq ?_
    refine wp_region_lit ?_
    refine st_val (.int .i64 0) ha (by kernel_rfl) (by kernel_rfl) ?_
    clear ha; intro a ha
    refine wpList_nil ?_
    refine then_normal ?_
    refine wp_block ?_
    refine wp_loopG (G := Nat) (fun k a w => Has a 26 [(0, .slice A n ca), (1, .slice B m cb), (5, .int .i64 ((k : Nat) : Int))] ∧ St W (L) w ∧ (k ≤ n ∧ ∀ i, i < k → la[i]? = lb[i]?)) (fun k => n - k) 0 ?_ ?_
    · exact ⟨(Has.cons ha (by kernel_rfl) (by kernel_rfl) (Has.cons ha (by kernel_rfl) (by kernel_rfl) (Has.cons ha (by kernel_rfl) (by kernel_rfl) (Has.nil ha)))), s, ⟨Nat.zero_le _, fun i hi => absurd hi (Nat.not_lt_zero _)⟩⟩
    · clear ha s; rintro k a w ⟨ha, s, hp⟩
      refine wp_seq ?_
      refine wp_seq ?_
      refine wp_region_lit ?_
      refine st_val (.int .i64 ((k : Nat) : Int)) ha (by kernel_rfl) (by kernel_rfl) ?_
      clear ha; intro a ha
      refine st_val (.slice A n ca) ha (by kernel_rfl) (by kernel_rfl) ?_
      clear ha; intro a ha
      refine st_val (.int .i64 ((n : Nat) : Int)) ha (by kernel_rfl) (by kernel_rfl) ?_
      clear ha; intro a ha
      refine st_val (.bool (decide (((k : Nat) : Int) < ((n : Nat) : Int)))) ha (by kernel_rfl) (by kernel_rfl) ?_
      clear ha; intro a ha
      refine wpList_nil ?_
      refine then_normal ?_
      refine wp_part (decide (((k : Nat) : Int) < ((n : Nat) : Int))) ha rfl (by kernel_rfl) (fun hb => ?_) (fun hb => ?_)
      · rw [hb] at ha; replace hb : (((k : Nat) : Int) < ((n : Nat) : Int)) := of_decide_eq_true hb
        have hmn : n = m := by omega
        obtain ⟨x, hx⟩ : ∃ x, la[k]? = some x := ⟨_, List.getElem?_eq_getElem (by omega)⟩
        obtain ⟨y, hy⟩ : ∃ y, lb[k]? = some y := ⟨_, List.getElem?_eq_getElem (by omega)⟩
        obtain ⟨ada, hA⟩ := Reads.addr (hra _ (Sat.drops (A := []) s.sat)) (by omega)
        subst hA
        obtain ⟨adb, hB⟩ := Reads.addr (hrb _ (Sat.drops (A := []) s.sat)) (by omega)
        subst hB
        refine wp_skip ?_
        refine then_normal ?_
        refine wp_seq ?_
        refine wp_block ?_
        refine wp_seq ?_
        refine wp_region_head 8 (fun w => Reads w 2 (some ada) n (sps la) ∧ Reads w 2 (some adb) m (sps lb) ∧ True) (by kernel_rfl) (by decide) ?_
        replace s := s.drew; generalize _root_.Go.World.drew _ = w at s ⊢
        have hS : (fun w => Reads w 2 (some ada) n (sps la) ∧ Reads w 2 (some adb) m (sps lb) ∧ True) w := ⟨(hra _ (Sat.drops (A := []) s.sat)), (hrb _ (Sat.drops (A := []) s.sat)), trivial⟩
        refine hd_val (i := 0) (.slice (some ada) n ca) ha rfl (by kernel_rfl) (fun _ _ _ h => h) (by kernel_rfl) (fun w hS => (by kernel_rfl)) hS ?_
        clear ha; intro a ha
        refine hd_val (i := 1) (.int .i64 ((k : Nat) : Int)) ha rfl (by kernel_rfl) (fun _ _ _ h => h) (by kernel_rfl) (fun w hS => (by kernel_rfl)) hS ?_
        clear ha; intro a ha
        refine hd_val (i := 2) (.pointer (some (ada.add (k * 2)))) ha rfl (by kernel_rfl) (fun _ _ _ h => h) (by kernel_rfl) (fun w hS => (run_indexAddr' (kd := .i64) (i := ((k : Nat) : Int)) (n := n) (c := ca) k rfl Try.underlying22 Try.sizeOf29 (by kernel_rfl) (by kernel_rfl) rfl (by first | assumption | omega) _)) hS ?_
        clear ha; intro a ha
        refine hd_val (i := 3) (.agg #[.string (str x.1), .string (str x.2)]) ha rfl (by kernel_rfl) (fun _ _ _ h => h) (by kernel_rfl) (fun w hS => run_loadAtN (i := k * 2) [.string (str x.1), .string (str x.2)] hS.1 rfl (by kernel_rfl) Try.isAgg29 Try.sizeOf29 (fun j hj => sps_at hx hj) rfl) hS ?_
        clear ha; intro a ha
        refine hd_val (i := 4) (.slice (some adb) m cb) ha rfl (by kernel_rfl) (fun _ _ _ h => h) (by kernel_rfl) (fun w hS => (by kernel_rfl)) hS ?_
        clear ha; intro a ha
        refine hd_val (i := 5) (.int .i64 ((k : Nat) : Int)) ha rfl (by kernel_rfl) (fun _ _ _ h => h) (by kernel_rfl) (fun w hS => (by kernel_rfl)) hS ?_
        clear ha; intro a ha
        refine hd_val (i := 6) (.pointer (some (adb.add (k * 2)))) ha rfl (by kernel_rfl) (fun _ _ _ h => h) (by kernel_rfl) (fun w hS => (run_indexAddr' (kd := .i64) (i := ((k : Nat) : Int)) (n := m) (c := cb) k rfl Try.underlying22 Try.sizeOf29 (by kernel_rfl) (by kernel_rfl) rfl (by first | assumption | omega) _)) hS ?_
        clear ha; intro a ha
        refine hd_val (i := 7) (.agg #[.string (str y.1), .string (str y.2)]) ha rfl (by kernel_rfl) (fun _ _ _ h => h) (by kernel_rfl) (fun w hS => run_loadAtN (i := k * 2) [.string (str y.1), .string (str y.2)] hS.2.1 rfl (by kernel_rfl) Try.isAgg29 Try.sizeOf29 (fun j hj => sps_at hy hj) rfl) hS ?_
        clear ha; intro a ha
        refine Head.done (by kernel_rfl) ?_
        clear hS; simp only [List.drop_succ_cons, List.drop_zero]
        refine st_val (.bool (decide (x ≠ y))) ha (by kernel_rfl) (run_spneq (p := x) (q := y) rfl (by kernel_rfl) (by kernel_rfl) _) ?_
        clear ha; intro a ha
        refine wpList_nil ?_
        refine then_normal ?_
        refine wp_part (decide (x ≠ y)) ha rfl (by kernel_rfl) (fun hb => ?_) (fun hb => ?_)
        · rw [hb] at ha; replace hb : (x ≠ y) := of_decide_eq_true hb
          refine wp_seq ?_
          refine wp_region_lit ?_
          refine st_val (.bool false) ha (by kernel_rfl) (by kernel_rfl) ?_
          clear ha; intro a ha
          refine wpList_nil ?_
          refine then_normal ?_
          refine wp_ret ?_
          refine block_ret ?_
          refine then_ret ?_
          refine then_ret ?_
          refine block_ret ?_
          refine then_ret ?_
          refine ret_with (v := .bool false) ha (results_1 rfl ha (res_tmp (by kernel_rfl) (by kernel_rfl))) ?_
          refine ⟨?_, s⟩
          have : la ≠ lb := fun h => by
            subst h
            first | omega | (rw [hx] at hy; cases hy; exact absurd rfl hb)
          simp [this]
        · rw [hb] at ha; replace hb : ¬ (x ≠ y) := of_decide_eq_false hb
          have hxy : x = y := Decidable.not_not.1 hb
          refine wp_skip ?_
          refine block_normal ?_
          refine then_normal ?_
          refine wp_region_lit ?_
          refine st_val (.int .i64 ((k : Nat) : Int)) ha (by kernel_rfl) (by kernel_rfl) ?_
          clear ha; intro a ha
          refine st_val (.int .i64 ((k + 1 : Nat) : Int)) ha (by kernel_rfl) (run_arith (((k : Nat) : Int) + (1 : Int)) ((k + 1 : Nat) : Int) rfl (by kernel_rfl) (by kernel_rfl) (.inl ⟨rfl, rfl⟩) (by rw [wrap64_in (by omega)]; try omega) _) ?_
          clear ha; intro a ha
          refine st_val (.int .i64 ((k + 1 : Nat) : Int)) ha (by kernel_rfl) (by kernel_rfl) ?_
          clear ha; intro a ha
          refine wpList_nil ?_
          refine then_normal ?_
          exact ⟨k + 1, by omega, (Has.cons ha (by kernel_rfl) (by kernel_rfl) (Has.cons ha (by kernel_rfl) (by kernel_rfl) (Has.cons ha (by kernel_rfl) (by kernel_rfl) (Has.nil ha)))), s, by omega, fun i hi => by
      rcases Nat.lt_or_ge i k with h | h
      · exact hp.2 i h
      · have hik : i = k := by omega
        rw [hik, hx, hy, hxy]⟩
      · rw [hb] at ha; replace hb : ¬ (((k : Nat) : Int) < ((n : Nat) : Int)) := of_decide_eq_false hb
        refine wp_exit ?_
        refine then_exit ?_
        refine then_exit ?_
        refine block_hit ?_
        refine then_normal ?_
        refine wp_seq ?_
        refine wp_region_lit ?_
        refine st_val (.bool true) ha (by kernel_rfl) (by kernel_rfl) ?_
        clear ha; intro a ha
        refine wpList_nil ?_
        refine then_normal ?_
        refine wp_ret ?_
        refine ret_with (v := .bool true) ha (results_1 rfl ha (res_tmp (by kernel_rfl) (by kernel_rfl))) ?_
        refine ⟨?_, s⟩
        have : la = lb := by
          apply List.ext_getElem?
          intro i
          rcases Nat.lt_or_ge i k with h | h
          · exact hp.2 i h
          · rw [List.getElem?_eq_none (by omega), List.getElem?_eq_none (by omega)]
        simp [this]

theorem sps_take {l : List Span} {k : Nat} {x : Span} (h : l[k]? = some x) : sps (l.take (k + 1)) = sps (l.take k) ++ [.string (str x.1), .string (str x.2)] := by
  obtain ⟨hk, rfl⟩ := List.getElem?_eq_some_iff.1 h
  rw [List.take_succ_eq_append_getElem hk, sps_append]
  rfl

theorem list_ok (W : World) (L : List Chunk) (w : World) (A : Option Addr) (n ca : Nat) (l : List Span) (hr : Knows L fun w => Reads w 1 A n (sps l)) (hn : n = 2 * l.length) (hs : n ≤ 1000) (s : St W L w) :
    Calls Try.prog 21 #[.slice A n ca] w fun e w' => ∃ A' c', e = .returned (.slice A' l.length c') ∧ St W (Own 29 2 A' l.length c' (sps l) :: L) w' := by
  refine enter_args (l := [.slice A n ca]) Try.func21 rfl rfl (Nat.le_of_ble_eq_true rfl) ?_
  intro a ha; replace ha : Has a 26 [(0, .slice A n ca)] := ha
  refine wp_seq ?_
  refine wp_region_lit ?_
  refine st_val (.slice none 0 0) ha (by kernel_rfl) (by kernel_rfl) ?_
  clear ha; intro a ha
  refine wpList_nil ?_
  refine then_normal ?_
  refine wp_seq ?_
  refine wp_region_lit ?_
  refine st_val (.slice none 0 0) ha (by kernel_rfl) (by kernel_rfl) ?_
  clear ha; intro a ha
  refine wpList_nil ?_
  refine then_normal ?_
  refine wp_seq ?_
  refine wp_seq ?_
  refine wp_region_lit ?_
  refine st_val (.int .i64 0) ha (by kernel_rfl) (by kernel_rfl) ?_
  clear ha; intro a ha
  refine wpList_nil ?_
  refine then_normal ?_
  refine wp_block ?_
  replace s := Own.none_ (e := 29) (k := 2) none s
  replace s : St W (Own 29 2 none 0 0 (sps (l.take 0)) :: L) w := s
  refine wp_loopG (G := (Nat × Option Addr × Nat)) (fun ⟨k, A3, c3⟩ a w => Has a 26 [(0, .slice A n ca), (3, .slice A3 k c3), (4, .int .i64 ((2 * k : Nat) : Int))] ∧ St W (Own 29 2 A3 k c3 (sps (l.take k)) :: L) w ∧ (k ≤ l.length)) (fun ⟨k, A3, c3⟩ => l.length - k) (0, none, 0) ?_ ?_
  · exact ⟨(Has.cons ha (by kernel_rfl) (by kernel_rfl) (Has.cons ha (by kernel_rfl) (by kernel_rfl) (Has.cons ha (by kernel_rfl) (by kernel_rfl) (Has.nil ha)))), s, Nat.zero_le _⟩
  · clear ha s; rintro ⟨k, A3, c3⟩ a w ⟨ha, s, hp⟩
    refine wp_seq ?_
    refine wp_seq ?_
    refine wp_region_lit ?_
    refine st_val (.int .i64 ((2 * k : Nat) : Int)) ha (by kernel_rfl) (by kernel_rfl) ?_
    clear ha; intro a ha
    refine st_val (.int .i64 ((2 * k + 1 : Nat) : Int)) ha (by kernel_rfl) (run_arith (((2 * k : Nat) : Int) + (1 : Int)) ((2 * k + 1 : Nat) : Int) rfl (by kernel_rfl) (by kernel_rfl) (.inl ⟨rfl, rfl⟩) (by rw [wrap64_in (by omega)]; try omega) _) ?_
    clear ha; intro a ha
    refine st_val (.slice A n ca) ha (by kernel_rfl) (by kernel_rfl) ?_
    clear ha; intro a ha
    refine st_val (.int .i64 ((n : Nat) : Int)) ha (by kernel_rfl) (by kernel_rfl) ?_
    clear ha; intro a ha
    refine st_val (.bool (decide (((2 * k + 1 : Nat) : Int) < ((n : Nat) : Int)))) ha (by kernel_rfl) (by kernel_rfl) ?_
    clear ha; intro a ha
    refine wpList_nil ?_
    refine then_normal ?_
    refine wp_part (decide (((2 * k + 1 : Nat) : Int) < ((n : Nat) : Int))) ha rfl (by kernel_rfl) (fun hb => ?_) (fun hb => ?_)
    · rw [hb] at ha; replace hb : (((2 * k + 1 : Nat) : Int) < ((n : Nat) : Int)) := of_decide_eq_true hb
      have hkl : k < l.length := by omega
      obtain ⟨x, hx⟩ : ∃ x, l[k]? = some x := ⟨_, List.getElem?_eq_getElem hkl⟩
      obtain ⟨ad, hA⟩ := Reads.addr (hr _ (Sat.drops (A := [Own 29 2 A3 k c3 (sps (l.take k))]) s.sat)) (by omega)
      subst hA
      refine wp_skip ?_
      refine then_normal ?_
      refine wp_seq ?_
      refine wp_block ?_
      refine wp_region_head 12 (fun w => Reads w 1 (some ad) n (sps l) ∧ True) (by kernel_rfl) (by decide) ?_
      replace s := s.drew; generalize _root_.Go.World.drew _ = w at s ⊢
      have hS : (fun w => Reads w 1 (some ad) n (sps l) ∧ True) w := ⟨(hr _ (Sat.drops (A := [Own 29 2 A3 k c3 (sps (l.take k))]) s.sat)), trivial⟩
      refine hd_val (i := 0) (.slice A3 k c3) ha rfl (by kernel_rfl) (fun _ _ _ h => h) (by kernel_rfl) (fun w hS => (by kernel_rfl)) hS ?_
      clear ha; intro a ha
      refine hd_val (i := 1) (.slice (some ad) n ca) ha rfl (by kernel_rfl) (fun _ _ _ h => h) (by kernel_rfl) (fun w hS => (by kernel_rfl)) hS ?_
      clear ha; intro a ha
      refine hd_val (i := 2) (.int .i64 ((2 * k : Nat) : Int)) ha rfl (by kernel_rfl) (fun _ _ _ h => h) (by kernel_rfl) (fun w hS => (by kernel_rfl)) hS ?_
      clear ha; intro a ha
      refine hd_val (i := 3) (.pointer (some (ad.add ((2 * k) * 1)))) ha rfl (by kernel_rfl) (fun _ _ _ h => h) (by kernel_rfl) (fun w hS => (run_indexAddr' (kd := .i64) (i := ((2 * k : Nat) : Int)) (n := n) (c := ca) (2 * k) rfl Try.underlying62 Try.sizeOf9 (by kernel_rfl) (by kernel_rfl) rfl (by first | assumption | omega) _)) hS ?_
      clear ha; intro a ha
      refine hd_val (i := 4) (.string (str x.1)) ha rfl (by kernel_rfl) (fun _ _ _ h => h) (by kernel_rfl) (fun w hS => run_loadAt1 (i := (2 * k) * 1) hS.1 rfl (by kernel_rfl) Try.isAgg9 (by rw [show (2 * k) * 1 = k * 2 + 0 by omega, sps_at hx (by omega)]; rfl)) hS ?_
      clear ha; intro a ha
      refine hd_val (i := 5) (.slice (some ad) n ca) ha rfl (by kernel_rfl) (fun _ _ _ h => h) (by kernel_rfl) (fun w hS => (by kernel_rfl)) hS ?_
      clear ha; intro a ha
      refine hd_val (i := 6) (.int .i64 ((2 * k : Nat) : Int)) ha rfl (by kernel_rfl) (fun _ _ _ h => h) (by kernel_rfl) (fun w hS => (by kernel_rfl)) hS ?_
      clear ha; intro a ha
      refine hd_val (i := 7) (.int .i64 ((2 * k + 1 : Nat) : Int)) ha rfl (by kernel_rfl) (fun _ _ _ h => h) (by kernel_rfl) (fun w hS => (run_arith (((2 * k : Nat) : Int) + (1 : Int)) ((2 * k + 1 : Nat) : Int) rfl (by kernel_rfl) (by kernel_rfl) (.inl ⟨rfl, rfl⟩) (by rw [wrap64_in (by omega)]; try omega) _)) hS ?_
      clear ha; intro a ha
      refine hd_val (i := 8) (.pointer (some (ad.add ((2 * k + 1) * 1)))) ha rfl (by kernel_rfl) (fun _ _ _ h => h) (by kernel_rfl) (fun w hS => (run_indexAddr' (kd := .i64) (i := ((2 * k + 1 : Nat) : Int)) (n := n) (c := ca) (2 * k + 1) rfl Try.underlying62 Try.sizeOf9 (by kernel_rfl) (by kernel_rfl) rfl (by first | assumption | omega) _)) hS ?_
      clear ha; intro a ha
      refine hd_val (i := 9) (.string (str x.2)) ha rfl (by kernel_rfl) (fun _ _ _ h => h) (by kernel_rfl) (fun w hS => run_loadAt1 (i := (2 * k + 1) * 1) hS.1 rfl (by kernel_rfl) Try.isAgg9 (by rw [show (2 * k + 1) * 1 = k * 2 + 1 by omega, sps_at hx (by omega)]; rfl)) hS ?_
      clear ha; intro a ha
      refine hd_val (i := 10) (.agg #[.string (str x.1), .string (str x.2)]) ha rfl (by kernel_rfl) (fun _ _ _ h => h) (by kernel_rfl) (fun w hS => (by kernel_rfl)) hS ?_
      clear ha; intro a ha
      refine hd_ex (i := 11) ha rfl (by kernel_rfl) (by kernel_rfl) (ex_buildSlice elt22 _ zs22 [.string (str x.1), .string (str x.2)] s rfl (by kernel_rfl) (by decide)) ?_
      clear hS; rintro _ w ⟨g1, rfl, s⟩
      replace s : St W (.blk g1 [.string (str x.1), .string (str x.2)] 29 :: Own 29 2 A3 k c3 (sps (l.take k)) :: L) w := s
      have hS : (fun w => Reads w 1 (some ad) n (sps l) ∧ True) w := ⟨(hr _ (Sat.drops (A := [.blk g1 [.string (str x.1), .string (str x.2)] 29, Own 29 2 A3 k c3 (sps (l.take k))]) s.sat)), trivial⟩
      refine ⟨hS, ?_⟩; clear ha; intro a ha
      refine Head.done (by kernel_rfl) ?_
      clear hS; simp only [List.drop_succ_cons, List.drop_zero]
      refine st_ex ha (by kernel_rfl) (ex_append (m := 1) (d' := 1) elt22 (by decide) 1 [.string (str x.1), .string (str x.2)] s rfl (by kernel_rfl) (by kernel_rfl) rfl (reads_blk (s.blkIs 0 rfl) rfl) (by simp [Value.oneCell']) (by simp only [maxLen]; omega) (by omega)) ?_
      clear ha; rintro _ w a ⟨A2, c3, rfl, hA_, s⟩ ha
      replace s : St W (.blk g1 [.string (str x.1), .string (str x.2)] 29 :: Own 29 2 A2 (k + 1) c3 ((sps (l.take k)) ++ [.string (str x.1), .string (str x.2)]) :: L) w := s
      refine st_val (.slice A2 (k + 1) c3) ha (by kernel_rfl) (by kernel_rfl) ?_
      clear ha; intro a ha
      refine wpList_nil ?_
      refine block_normal ?_
      refine then_normal ?_
      refine wp_region_lit ?_
      refine st_val (.int .i64 ((2 * k : Nat) : Int)) ha (by kernel_rfl) (by kernel_rfl) ?_
      clear ha; intro a ha
      refine st_val (.int .i64 ((2 * k + 2 : Nat) : Int)) ha (by kernel_rfl) (run_arith (((2 * k : Nat) : Int) + (2 : Int)) ((2 * k + 2 : Nat) : Int) rfl (by kernel_rfl) (by kernel_rfl) (.inl ⟨rfl, rfl⟩) (by rw [wrap64_in (by omega)]; try omega) _) ?_
      clear ha; intro a ha
      refine st_val (.int .i64 ((2 * k + 2 : Nat) : Int)) ha (by kernel_rfl) (by kernel_rfl) ?_
      clear ha; intro a ha
      refine wpList_nil ?_
      refine then_normal ?_
      replace s := s.at_ (j := 1) rfl
      replace s : St W (Own 29 2 A2 (k + 1) c3 ((sps (l.take k)) ++ [.string (str x.1), .string (str x.2)]) :: .blk g1 [.string (str x.1), .string (str x.2)] 29 :: L) w := s
      replace s : St W (Own 29 2 A2 (k + 1) c3 ((sps (l.take k)) ++ [.string (str x.1), .string (str x.2)]) :: L) w := St.mid (A := [Own 29 2 A2 (k + 1) c3 ((sps (l.take k)) ++ [.string (str x.1), .string (str x.2)])]) (B := [.blk g1 [.string (str x.1), .string (str x.2)] 29]) s
      replace s : St W (Own 29 2 A2 (k + 1) c3 (sps (l.take (k + 1))) :: L) w := by rw [sps_take hx]; exact s
      exact ⟨(k + 1, A2, c3), (show l.length - (k + 1) < l.length - k by omega), (Has.cons ha (by kernel_rfl) (by kernel_rfl) (Has.cons ha (by kernel_rfl) (by kernel_rfl) (Has.cons ha (by kernel_rfl) (by kernel_rfl) (Has.nil ha)))), s, (show k + 1 ≤ l.length by omega)⟩
    · rw [hb] at ha; replace hb : ¬ (((2 * k + 1 : Nat) : Int) < ((n : Nat) : Int)) := of_decide_eq_false hb
      refine wp_exit ?_
      refine then_exit ?_
      refine then_exit ?_
      refine block_hit ?_
      refine then_normal ?_
      refine wp_seq ?_
      refine wp_region_lit ?_
      refine st_val (.slice A3 k c3) ha (by kernel_rfl) (by kernel_rfl) ?_
      clear ha; intro a ha
      refine st_val (.slice A3 k c3) ha (by kernel_rfl) (by kernel_rfl) ?_
      clear ha; intro a ha
      refine wpList_nil ?_
      refine then_normal ?_
      refine wp_ret ?_
      refine ret_with (v := .slice A3 k c3) ha (results_1 rfl ha (res_tmp (by kernel_rfl) (by kernel_rfl))) ?_
      have hk : k = l.length := by omega
      rw [hk, List.take_length] at s
      rw [hk]
      exact ⟨_, _, rfl, s⟩

theorem is_any (W : World) (L : List Chunk) (w : World) (A B : Option Addr) (n m ca cb : Nat) (la l : List Span) (hra : Knows L fun w => Reads w 2 A n (sps la)) (hrb : Knows L fun w => Reads w 1 B m (sps l)) (han : la.length = n) (hm : m = 2 * l.length) (hn : n ≤ 1000000) (hs : m ≤ 1000) (s : St W L w) :
    Calls Try.prog 22 #[.slice A n ca, .int .i64 0, .slice B m cb] w fun e w' => e = .returned (.bool (decide (la = l))) ∧ St W L w' := by
  refine enter_args (l := [.slice A n ca, .int .i64 0, .slice B m cb]) Try.func22 rfl rfl (Nat.le_of_ble_eq_true rfl) ?_
  intro a ha; replace ha : Has a 15 [(0, .slice A n ca), (1, .int .i64 0), (2, .slice B m cb)] := ha
  refine wp_seq ?_
  refine wp_region_lit ?_
  refine st_val (.bool false) ha (by kernel_rfl) (by kernel_rfl) ?_
  clear ha; intro a ha
  refine wpList_nil ?_
  refine then_normal ?_
  refine wp_seq ?_
  refine wp_region_lit ?_
  refine st_val (.int .i64 0) ha (by kernel_rfl) (by kernel_rfl) ?_
  clear ha; intro a ha
  refine st_val (.bool true) ha (by kernel_rfl) (by kernel_rfl) ?_
  clear ha; intro a ha
  refine st_val (.bool true) ha (by kernel_rfl) (by kernel_rfl) ?_
  clear ha; intro a ha
  refine st_val (.slice A n ca) ha (by kernel_rfl) (by kernel_rfl) ?_
  clear ha; intro a ha
  refine st_val (.slice B m cb) ha (by kernel_rfl) (by kernel_rfl) ?_
  clear ha; intro a ha
  refine st_call ha (by kernel_rfl) (by kernel_rfl) (list_ok W _ w B m cb l hrb hm hs s) ?_
  rintro _ w ⟨A1, c2, rfl, s⟩
  replace s : St W (Own 29 2 A1 l.length c2 (sps l) :: L) w := s
  refine ⟨_, rfl, ?_⟩; clear ha; intro a ha
  refine st_call ha (by kernel_rfl) (by kernel_rfl) (same_any W _ w A A1 n l.length ca c2 la l (hra.up _) (Knows.own (j := 0) rfl) han rfl hn s) ?_
  rintro _ w ⟨rfl, s⟩
  replace s : St W (Own 29 2 A1 l.length c2 (sps l) :: L) w := s
  refine ⟨_, rfl, ?_⟩; clear ha; intro a ha
  refine st_val (.bool (decide (la = l))) ha (by kernel_rfl) (by kernel_rfl) ?_
  clear ha; intro a ha
  refine st_val (.bool (decide (la = l))) ha (by kernel_rfl) (by kernel_rfl) ?_
  clear ha; intro a ha
  refine wpList_nil ?_
  refine then_normal ?_
  refine wp_ret ?_
  refine ret_with (v := .bool (decide (la = l))) ha (results_1 rfl ha (res_tmp (by kernel_rfl) (by kernel_rfl))) ?_
  replace s := s.tail
  replace s : St W (L) w := s
  exact ⟨rfl, s⟩

end Go.Proofs.Ytcnlidaacgcdhaa.B
