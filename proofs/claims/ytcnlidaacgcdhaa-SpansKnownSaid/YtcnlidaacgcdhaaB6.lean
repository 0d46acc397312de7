import Derived.Test.YtcnlidaacgcdhaaB5
namespace Go.Proofs.Ytcnlidaacgcdhaa.B
open Go.RowKit Go.Proofs.Ytcnlidaacgcdhaa.Sep Go.Proofs.Ytcnlidaacgcdhaa.P
set_option linter.unusedVariables false
set_option linter.unusedSimpArgs false
theorem chk_zero {s : Span} (h1 : s.1.length ≤ 33) (h2 : s.2.length ≤ 33) (h3 : s.1 < s.2) : chk s = 0 := by
  unfold chk; rw [if_neg (by omega), if_neg (by grind)]
theorem canon_chk {cl : List Span} {p : K → Bool} (h : Canon cl p) (hs : ∀ s ∈ cl, s.1.length ≤ 33 ∧ s.2.length ≤ 33) : ∀ s ∈ cl, chk s = 0 := fun s hm => chk_zero (hs s hm).1 (hs s hm).2 (h.lt s hm)
theorem cnt_pos {l : List Span} {k : K} : 0 < cnt l k ↔ ∃ s ∈ l, has s k = true := List.countP_pos_iff
/-- A list in order has just its own keys. -/
theorem canon_self {cl : List Span} {p : K → Bool} (h : Canon cl p) (k : K) : decide (0 < cnt cl k) = p k := by
  cases e : p k with
  | true => exact decide_eq_true (cnt_pos.2 ((h.mem k).2 e))
  | false =>
    refine decide_eq_false fun hc => ?_
    have := (h.mem k).1 (cnt_pos.1 hc)
    rw [e] at this
    cases this
/-- The list backwards, each span twice: its last i spans. -/
def turn (l : List Span) (r : Nat) : List Span := (l.drop r).reverse.flatMap fun s => [s, s]
theorem turn_step {l : List Span} {r : Nat} {x : Span} (h : l[r]? = some x) : turn l r = turn l (r + 1) ++ [x, x] := by
  obtain ⟨hr, rfl⟩ := List.getElem?_eq_some_iff.1 h
  unfold turn
  rw [List.drop_eq_getElem_cons hr, List.reverse_cons, List.flatMap_append]
  rfl
theorem turn_len (l : List Span) (r : Nat) : (turn l r).length = 2 * (l.length - r) := by
  unfold turn
  have : ∀ m : List Span, (m.flatMap fun s => [s, s]).length = 2 * m.length := fun m => by
    induction m with
    | nil => rfl
    | cons a m ih => rw [List.flatMap_cons, List.length_append, ih]; simp; omega
  rw [this, List.length_reverse, List.length_drop]
theorem turn_mem {l : List Span} {s : Span} : s ∈ turn l 0 ↔ s ∈ l := by
  unfold turn
  simp [List.mem_flatMap]
theorem turn_pos (l : List Span) (k : K) : decide (0 < cnt (turn l 0) k) = decide (0 < cnt l k) := by
  rw [decide_eq_decide, cnt_pos, cnt_pos]
  exact ⟨fun ⟨s, h1, h2⟩ => ⟨s, turn_mem.1 h1, h2⟩, fun ⟨s, h1, h2⟩ => ⟨s, turn_mem.2 h1, h2⟩⟩

theorem same_is (W : World) (L : List Chunk) (w : World) (A B : Option Addr) (n m ca cb : Nat) (la lb : List Span) (h : la = lb) (hra : Knows L fun w => Reads w 2 A n (sps la)) (hrb : Knows L fun w => Reads w 2 B m (sps lb)) (han : la.length = n) (hbm : lb.length = m) (hn : n ≤ 1000000) (s : St W L w) :
    Calls Try.prog 11 #[.slice A n ca, .slice B m cb] w fun e w' => e = .returned (.bool true) ∧ St W L w' := by
  have := same_any W L w A B n m ca cb la lb hra hrb han hbm hn s
  rwa [decide_eq_true h] at this

theorem spansOnly_any (W : World) (L : List Chunk) (w : World) (A : Option Addr) (n ca : Nat) (la : List Span) (hra : Knows L fun w => Reads w 2 A n (sps la)) (han : la.length = n) (hn : n ≤ 140737488351232) (s : St W L w) :
    Calls Try.prog 3 #[.slice A n ca] w fun e w' => e = .returned (.bool true) ∧ St W L w' := by
  refine enter_args (l := [.slice A n ca]) Try.func3 rfl rfl (Nat.le_of_ble_eq_true rfl) ?_
  intro a ha; replace ha : Has a 69 [(0, .slice A n ca)] := ha
  refine wp_seq ?_
  refine wp_region_lit ?_
  refine st_val (.bool false) ha (by kernel_rfl) (by kernel_rfl) ?_
  clear ha; intro a ha
  refine wpList_nil ?_
  refine then_normal ?_
  refine wp_seq ?_
  refine wp_seq ?_
  refine wp_region_lit ?_
  refine st_call ha (by kernel_rfl) (by kernel_rfl) (works_true W _ w s) ?_
  rintro _ w ⟨rfl, s⟩
  replace s : St W (L) w := s
  refine ⟨_, rfl, ?_⟩; clear ha; intro a ha
  refine st_val (.bool false) ha (by kernel_rfl) (by kernel_rfl) ?_
  clear ha; intro a ha
  refine wpList_nil ?_
  refine then_normal ?_
  refine wp_false ha rfl (by kernel_rfl) ?_
  refine wp_skip ?_
  refine then_normal ?_
  refine wp_seq ?_
  refine wp_seq ?_
  refine wp_region_lit ?_
  refine st_val (.slice A n ca) ha (by kernel_rfl) (by kernel_rfl) ?_
  clear ha; intro a ha
  refine st_call ha (by kernel_rfl) (by kernel_rfl) (may_any W _ w A n ca la (fun w s => hra w (Sat.drops (A := []) s)) han hn s) ?_
  rintro _ w ⟨bm, rfl, hmay, s⟩
  replace s : St W (L) w := s
  refine ⟨_, rfl, ?_⟩; clear ha; intro a ha
  refine st_val (.bool (!bm)) ha (by kernel_rfl) (by kernel_rfl) ?_
  clear ha; intro a ha
  refine wpList_nil ?_
  refine then_normal ?_
  refine wp_part (!bm) ha rfl (by kernel_rfl) (fun hb => ?_) (fun hb => ?_)
  · rw [hb] at ha; skip
    refine wp_seq ?_
    refine wp_region_lit ?_
    refine st_val (.bool true) ha (by kernel_rfl) (by kernel_rfl) ?_
    clear ha; intro a ha
    refine wpList_nil ?_
    refine then_normal ?_
    refine wp_ret ?_
    refine then_ret ?_
    refine ret_with (v := .bool true) ha (results_1 rfl ha (res_tmp (by kernel_rfl) (by kernel_rfl))) ?_
    exact ⟨rfl, s⟩
  · rw [hb] at ha; skip
    obtain ⟨hn3, hoka⟩ := hmay (by simpa using hb)
    refine wp_skip ?_
    refine then_normal ?_
    refine wp_seq ?_
    refine wp_region_lit ?_
    refine st_val (.slice A n ca) ha (by kernel_rfl) (by kernel_rfl) ?_
    clear ha; intro a ha
    refine st_call ha (by kernel_rfl) (by kernel_rfl) (join_ok W _ w A n ca la (fun w s => hra w (Sat.drops (A := []) s)) han hoka (by omega) s) ?_
    rintro _ w ⟨A1, c2, x, rfl, hcx, hsx, hlx, s⟩
    replace s : St W (Own 29 2 A1 x.length c2 (sps x) :: L) w := s
    refine ⟨_, rfl, ?_⟩; clear ha; intro a ha
    refine st_val (.tuple #[.slice A1 x.length c2, .int .i64 0]) ha (by kernel_rfl) (by kernel_rfl) ?_
    clear ha; intro a ha
    refine st_val (.slice A1 x.length c2) ha (by kernel_rfl) (by kernel_rfl) ?_
    clear ha; intro a ha
    refine st_val (.int .i64 0) ha (by kernel_rfl) (by kernel_rfl) ?_
    clear ha; intro a ha
    refine st_val (.slice A1 x.length c2) ha (by kernel_rfl) (by kernel_rfl) ?_
    clear ha; intro a ha
    refine st_val (.int .i64 0) ha (by kernel_rfl) (by kernel_rfl) ?_
    clear ha; intro a ha
    refine wpList_nil ?_
    refine then_normal ?_
    refine wp_seq ?_
    refine wp_region_lit ?_
    refine st_val (.slice A1 x.length c2) ha (by kernel_rfl) (by kernel_rfl) ?_
    clear ha; intro a ha
    refine st_call ha (by kernel_rfl) (by kernel_rfl) (join_ok W _ w A1 x.length c2 x (Knows.own (j := 0) rfl) rfl (canon_chk hcx hsx) (by omega) s) ?_
    rintro _ w ⟨A3, c4, y, rfl, hcy, hsy, hly, s⟩
    replace s : St W (Own 29 2 A3 y.length c4 (sps y) :: Own 29 2 A1 x.length c2 (sps x) :: L) w := s
    refine ⟨_, rfl, ?_⟩; clear ha; intro a ha
    refine st_val (.tuple #[.slice A3 y.length c4, .int .i64 0]) ha (by kernel_rfl) (by kernel_rfl) ?_
    clear ha; intro a ha
    refine st_val (.slice A3 y.length c4) ha (by kernel_rfl) (by kernel_rfl) ?_
    clear ha; intro a ha
    refine st_val (.int .i64 0) ha (by kernel_rfl) (by kernel_rfl) ?_
    clear ha; intro a ha
    refine st_val (.slice A3 y.length c4) ha (by kernel_rfl) (by kernel_rfl) ?_
    clear ha; intro a ha
    refine st_val (.int .i64 0) ha (by kernel_rfl) (by kernel_rfl) ?_
    clear ha; intro a ha
    refine wpList_nil ?_
    refine then_normal ?_
    refine wp_seq ?_
    refine wp_region_lit ?_
    refine st_val (.slice none 0 0) ha (by kernel_rfl) (by kernel_rfl) ?_
    clear ha; intro a ha
    refine wpList_nil ?_
    refine then_normal ?_
    refine wp_seq ?_
    refine wp_seq ?_
    refine wp_region_lit ?_
    refine st_val (.slice A n ca) ha (by kernel_rfl) (by kernel_rfl) ?_
    clear ha; intro a ha
    refine st_val (.int .i64 ((n : Nat) : Int)) ha (by kernel_rfl) (by kernel_rfl) ?_
    clear ha; intro a ha
    refine st_val (.int .i64 (((n : Nat) : Int) - 1)) ha (by kernel_rfl) (run_arith (((n : Nat) : Int) - 1) (((n : Nat) : Int) - 1) rfl (by kernel_rfl) (by kernel_rfl) (.inr (.inl ⟨rfl, rfl⟩)) (by rw [wrap64_in (by omega)]) _) ?_
    clear ha; intro a ha
    refine st_val (.int .i64 (((n : Nat) : Int) - 1)) ha (by kernel_rfl) (by kernel_rfl) ?_
    clear ha; intro a ha
    refine wpList_nil ?_
    refine then_normal ?_
    refine wp_block ?_
    replace s := Own.none_ (e := 29) (k := 2) none s
    replace s : St W (Own 29 2 none 0 0 (sps (turn la n)) :: Own 29 2 A3 y.length c4 (sps y) :: Own 29 2 A1 x.length c2 (sps x) :: L) w := by rw [show turn la n = [] from by unfold turn; rw [List.drop_of_length_le (by omega)]; rfl]; exact s
    refine wp_loopG (G := (Nat × Nat × Option Addr × Nat)) (fun ⟨r, m7, A7, c7⟩ a w => Has a 69 [(0, .slice A n ca), (3, .slice A1 x.length c2), (4, .int .i64 0), (5, .slice A3 y.length c4), (6, .int .i64 0), (7, .slice A7 m7 c7), (8, .int .i64 (((r : Nat) : Int) - 1))] ∧ St W (Own 29 2 A7 m7 c7 (sps (turn la r)) :: Own 29 2 A3 y.length c4 (sps y) :: Own 29 2 A1 x.length c2 (sps x) :: L) w ∧ (r ≤ n ∧ m7 = 2 * (n - r))) (fun ⟨r, m7, A7, c7⟩ => r) (n, 0, none, 0) ?_ ?_
    · exact ⟨(Has.cons ha (by kernel_rfl) (by kernel_rfl) (Has.cons ha (by kernel_rfl) (by kernel_rfl) (Has.cons ha (by kernel_rfl) (by kernel_rfl) (Has.cons ha (by kernel_rfl) (by kernel_rfl) (Has.cons ha (by kernel_rfl) (by kernel_rfl) (Has.cons ha (by kernel_rfl) (by kernel_rfl) (Has.cons ha (by kernel_rfl) (by kernel_rfl) (Has.nil ha)))))))), s, (show n ≤ n ∧ 0 = 2 * (n - n) by omega)⟩
    · clear ha s; rintro ⟨r, m7, A7, c7⟩ a w ⟨ha, s, hp⟩
      refine wp_seq ?_
      refine wp_seq ?_
      refine wp_region_lit ?_
      refine st_val (.int .i64 (((r : Nat) : Int) - 1)) ha (by kernel_rfl) (by kernel_rfl) ?_
      clear ha; intro a ha
      refine st_val (.bool (decide ((((r : Nat) : Int) - 1) ≥ (0 : Int)))) ha (by kernel_rfl) (by kernel_rfl) ?_
      clear ha; intro a ha
      refine wpList_nil ?_
      refine then_normal ?_
      refine wp_part (decide ((((r : Nat) : Int) - 1) ≥ (0 : Int))) ha rfl (by kernel_rfl) (fun hb => ?_) (fun hb => ?_)
      · rw [hb] at ha; replace hb : ((((r : Nat) : Int) - 1) ≥ (0 : Int)) := of_decide_eq_true hb
        have hr1 : 1 ≤ r := by omega
        obtain ⟨v, hv⟩ : ∃ v, la[r - 1]? = some v := ⟨_, List.getElem?_eq_getElem (by omega)⟩
        obtain ⟨ada, hA⟩ := Reads.addr (hra _ (Sat.drops (A := [Own 29 2 A7 m7 c7 (sps (turn la r)), Own 29 2 A3 y.length c4 (sps y), Own 29 2 A1 x.length c2 (sps x)]) s.sat)) (by omega)
        subst hA
        refine wp_skip ?_
        refine then_normal ?_
        refine wp_seq ?_
        refine wp_block ?_
        refine wp_region_head 10 (fun w => Reads w 2 (some ada) n (sps la) ∧ True) (by kernel_rfl) (by decide) ?_
        replace s := s.drew; generalize _root_.Go.World.drew _ = w at s ⊢
        have hS : (fun w => Reads w 2 (some ada) n (sps la) ∧ True) w := ⟨(hra _ (Sat.drops (A := [Own 29 2 A7 m7 c7 (sps (turn la r)), Own 29 2 A3 y.length c4 (sps y), Own 29 2 A1 x.length c2 (sps x)]) s.sat)), trivial⟩
        refine hd_val (i := 0) (.slice A7 m7 c7) ha rfl (by kernel_rfl) (fun _ _ _ h => h) (by kernel_rfl) (fun w hS => (by kernel_rfl)) hS ?_
        clear ha; intro a ha
        refine hd_val (i := 1) (.slice (some ada) n ca) ha rfl (by kernel_rfl) (fun _ _ _ h => h) (by kernel_rfl) (fun w hS => (by kernel_rfl)) hS ?_
        clear ha; intro a ha
        refine hd_val (i := 2) (.int .i64 (((r : Nat) : Int) - 1)) ha rfl (by kernel_rfl) (fun _ _ _ h => h) (by kernel_rfl) (fun w hS => (by kernel_rfl)) hS ?_
        clear ha; intro a ha
        refine hd_val (i := 3) (.pointer (some (ada.add ((r - 1) * 2)))) ha rfl (by kernel_rfl) (fun _ _ _ h => h) (by kernel_rfl) (fun w hS => (run_indexAddr' (kd := .i64) (i := (((r : Nat) : Int) - 1)) (n := n) (c := ca) (r - 1) rfl Try.underlying22 Try.sizeOf29 (by kernel_rfl) (by kernel_rfl) (by omega) (by first | assumption | omega) _)) hS ?_
        clear ha; intro a ha
        refine hd_val (i := 4) (.agg #[.string (str v.1), .string (str v.2)]) ha rfl (by kernel_rfl) (fun _ _ _ h => h) (by kernel_rfl) (fun w hS => run_loadAtN (i := (r - 1) * 2) [.string (str v.1), .string (str v.2)] hS.1 rfl (by kernel_rfl) Try.isAgg29 Try.sizeOf29 (fun j hj => sps_at hv hj) rfl) hS ?_
        clear ha; intro a ha
        refine hd_val (i := 5) (.slice (some ada) n ca) ha rfl (by kernel_rfl) (fun _ _ _ h => h) (by kernel_rfl) (fun w hS => (by kernel_rfl)) hS ?_
        clear ha; intro a ha
        refine hd_val (i := 6) (.int .i64 (((r : Nat) : Int) - 1)) ha rfl (by kernel_rfl) (fun _ _ _ h => h) (by kernel_rfl) (fun w hS => (by kernel_rfl)) hS ?_
        clear ha; intro a ha
        refine hd_val (i := 7) (.pointer (some (ada.add ((r - 1) * 2)))) ha rfl (by kernel_rfl) (fun _ _ _ h => h) (by kernel_rfl) (fun w hS => (run_indexAddr' (kd := .i64) (i := (((r : Nat) : Int) - 1)) (n := n) (c := ca) (r - 1) rfl Try.underlying22 Try.sizeOf29 (by kernel_rfl) (by kernel_rfl) (by omega) (by first | assumption | omega) _)) hS ?_
        clear ha; intro a ha
        refine hd_val (i := 8) (.agg #[.string (str v.1), .string (str v.2)]) ha rfl (by kernel_rfl) (fun _ _ _ h => h) (by kernel_rfl) (fun w hS => run_loadAtN (i := (r - 1) * 2) [.string (str v.1), .string (str v.2)] hS.1 rfl (by kernel_rfl) Try.isAgg29 Try.sizeOf29 (fun j hj => sps_at hv hj) rfl) hS ?_
        clear ha; intro a ha
        refine hd_ex (i := 9) ha rfl (by kernel_rfl) (by kernel_rfl) (ex_buildSlice elt22 _ zs22 [.string (str v.1), .string (str v.2), .string (str v.1), .string (str v.2)] s rfl (by kernel_rfl) (by decide)) ?_
        clear hS; rintro _ w ⟨g5, rfl, s⟩
        replace s : St W (.blk g5 [.string (str v.1), .string (str v.2), .string (str v.1), .string (str v.2)] 29 :: Own 29 2 A7 m7 c7 (sps (turn la r)) :: Own 29 2 A3 y.length c4 (sps y) :: Own 29 2 A1 x.length c2 (sps x) :: L) w := s
        have hS : (fun w => Reads w 2 (some ada) n (sps la) ∧ True) w := ⟨(hra _ (Sat.drops (A := [.blk g5 [.string (str v.1), .string (str v.2), .string (str v.1), .string (str v.2)] 29, Own 29 2 A7 m7 c7 (sps (turn la r)), Own 29 2 A3 y.length c4 (sps y), Own 29 2 A1 x.length c2 (sps x)]) s.sat)), trivial⟩
        refine ⟨hS, ?_⟩; clear ha; intro a ha
        refine Head.done (by kernel_rfl) ?_
        clear hS; simp only [List.drop_succ_cons, List.drop_zero]
        refine st_ex ha (by kernel_rfl) (ex_append (m := 2) (d' := 2) elt22 (by decide) 1 [.string (str v.1), .string (str v.2), .string (str v.1), .string (str v.2)] s rfl (by kernel_rfl) (by kernel_rfl) rfl (reads_blk (s.blkIs 0 rfl) rfl) (by simp [Value.oneCell']) (by simp only [maxLen]; omega) (by omega)) ?_
        clear ha; rintro _ w a ⟨A6, c7, rfl, hA_, s⟩ ha
        replace s : St W (.blk g5 [.string (str v.1), .string (str v.2), .string (str v.1), .string (str v.2)] 29 :: Own 29 2 A6 (m7 + 2) c7 ((sps (turn la r)) ++ [.string (str v.1), .string (str v.2), .string (str v.1), .string (str v.2)]) :: Own 29 2 A3 y.length c4 (sps y) :: Own 29 2 A1 x.length c2 (sps x) :: L) w := s
        refine st_val (.slice A6 (m7 + 2) c7) ha (by kernel_rfl) (by kernel_rfl) ?_
        clear ha; intro a ha
        refine wpList_nil ?_
        refine block_normal ?_
        refine then_normal ?_
        refine wp_region_lit ?_
        refine st_val (.int .i64 (((r : Nat) : Int) - 1)) ha (by kernel_rfl) (by kernel_rfl) ?_
        clear ha; intro a ha
        refine st_val (.int .i64 (((r : Nat) : Int) - 1 - 1)) ha (by kernel_rfl) (run_arith (((r : Nat) : Int) - 1 - 1) (((r : Nat) : Int) - 1 - 1) rfl (by kernel_rfl) (by kernel_rfl) (.inr (.inl ⟨rfl, rfl⟩)) (by rw [wrap64_in (by omega)]) _) ?_
        clear ha; intro a ha
        refine st_val (.int .i64 (((r : Nat) : Int) - 1 - 1)) ha (by kernel_rfl) (by kernel_rfl) ?_
        clear ha; intro a ha
        refine wpList_nil ?_
        refine then_normal ?_
        replace s := s.at_ (j := 3) rfl
        replace s : St W (Own 29 2 A1 x.length c2 (sps x) :: .blk g5 [.string (str v.1), .string (str v.2), .string (str v.1), .string (str v.2)] 29 :: Own 29 2 A6 (m7 + 2) c7 ((sps (turn la r)) ++ [.string (str v.1), .string (str v.2), .string (str v.1), .string (str v.2)]) :: Own 29 2 A3 y.length c4 (sps y) :: L) w := s
        replace s := s.at_ (j := 3) rfl
        replace s : St W (Own 29 2 A3 y.length c4 (sps y) :: Own 29 2 A1 x.length c2 (sps x) :: .blk g5 [.string (str v.1), .string (str v.2), .string (str v.1), .string (str v.2)] 29 :: Own 29 2 A6 (m7 + 2) c7 ((sps (turn la r)) ++ [.string (str v.1), .string (str v.2), .string (str v.1), .string (str v.2)]) :: L) w := s
        replace s := s.at_ (j := 3) rfl
        replace s : St W (Own 29 2 A6 (m7 + 2) c7 ((sps (turn la r)) ++ [.string (str v.1), .string (str v.2), .string (str v.1), .string (str v.2)]) :: Own 29 2 A3 y.length c4 (sps y) :: Own 29 2 A1 x.length c2 (sps x) :: .blk g5 [.string (str v.1), .string (str v.2), .string (str v.1), .string (str v.2)] 29 :: L) w := s
        replace s : St W (Own 29 2 A6 (m7 + 2) c7 ((sps (turn la r)) ++ [.string (str v.1), .string (str v.2), .string (str v.1), .string (str v.2)]) :: Own 29 2 A3 y.length c4 (sps y) :: Own 29 2 A1 x.length c2 (sps x) :: L) w := St.mid (A := [Own 29 2 A6 (m7 + 2) c7 ((sps (turn la r)) ++ [.string (str v.1), .string (str v.2), .string (str v.1), .string (str v.2)]), Own 29 2 A3 y.length c4 (sps y), Own 29 2 A1 x.length c2 (sps x)]) (B := [.blk g5 [.string (str v.1), .string (str v.2), .string (str v.1), .string (str v.2)] 29]) s
        have h3 : ((r : Nat) : Int) - 1 - 1 = ((r - 1 : Nat) : Int) - 1 := by omega
        rw [h3] at ha
        replace s : St W (Own 29 2 A6 (m7 + 2) c7 (sps (turn la (r - 1))) :: Own 29 2 A3 y.length c4 (sps y) :: Own 29 2 A1 x.length c2 (sps x) :: L) w := by rw [turn_step hv, show r - 1 + 1 = r by omega, sps_append]; exact s
        exact ⟨(r - 1, m7 + 2, A6, c7), (show r - 1 < r by omega), (Has.cons ha (by kernel_rfl) (by kernel_rfl) (Has.cons ha (by kernel_rfl) (by kernel_rfl) (Has.cons ha (by kernel_rfl) (by kernel_rfl) (Has.cons ha (by kernel_rfl) (by kernel_rfl) (Has.cons ha (by kernel_rfl) (by kernel_rfl) (Has.cons ha (by kernel_rfl) (by kernel_rfl) (Has.cons ha (by kernel_rfl) (by kernel_rfl) (Has.nil ha)))))))), s, (show r - 1 ≤ n ∧ m7 + 2 = 2 * (n - (r - 1)) by omega)⟩
      · rw [hb] at ha; replace hb : ¬ ((((r : Nat) : Int) - 1) ≥ (0 : Int)) := of_decide_eq_false hb
        have hr0 : r = 0 := by omega
        rw [hr0] at s ha
        replace s : St W (Own 29 2 A7 m7 c7 (sps (turn la 0)) :: Own 29 2 A3 y.length c4 (sps y) :: Own 29 2 A1 x.length c2 (sps x) :: L) w := s
        refine wp_exit ?_
        refine then_exit ?_
        refine then_exit ?_
        refine block_hit ?_
        refine then_normal ?_
        refine wp_seq ?_
        refine wp_region_lit ?_
        refine st_val (.slice A7 m7 c7) ha (by kernel_rfl) (by kernel_rfl) ?_
        clear ha; intro a ha
        refine st_call ha (by kernel_rfl) (by kernel_rfl) (join_ok W _ w A7 m7 c7 (turn la 0) (Knows.own (j := 0) rfl) (by rw [turn_len]; omega) (fun s h => hoka s (turn_mem.1 h)) (by omega) s) ?_
        rintro _ w ⟨A8, c9, z, rfl, hcz, hsz, hlz, s⟩
        replace s : St W (Own 29 2 A8 z.length c9 (sps z) :: Own 29 2 A7 m7 c7 (sps (turn la 0)) :: Own 29 2 A3 y.length c4 (sps y) :: Own 29 2 A1 x.length c2 (sps x) :: L) w := s
        refine ⟨_, rfl, ?_⟩; clear ha; intro a ha
        refine st_val (.tuple #[.slice A8 z.length c9, .int .i64 0]) ha (by kernel_rfl) (by kernel_rfl) ?_
        clear ha; intro a ha
        refine st_val (.slice A8 z.length c9) ha (by kernel_rfl) (by kernel_rfl) ?_
        clear ha; intro a ha
        refine st_val (.int .i64 0) ha (by kernel_rfl) (by kernel_rfl) ?_
        clear ha; intro a ha
        refine st_val (.slice A8 z.length c9) ha (by kernel_rfl) (by kernel_rfl) ?_
        clear ha; intro a ha
        refine st_val (.int .i64 0) ha (by kernel_rfl) (by kernel_rfl) ?_
        clear ha; intro a ha
        refine wpList_nil ?_
        refine then_normal ?_
        refine wp_seq ?_
        refine wp_region_lit ?_
        refine st_val (.int .i64 0) ha (by kernel_rfl) (by kernel_rfl) ?_
        clear ha; intro a ha
        refine st_val (.bool true) ha (by kernel_rfl) (by kernel_rfl) ?_
        clear ha; intro a ha
        refine st_val (.bool true) ha (by kernel_rfl) (by kernel_rfl) ?_
        clear ha; intro a ha
        refine st_val (.int .i64 0) ha (by kernel_rfl) (by kernel_rfl) ?_
        clear ha; intro a ha
        refine st_val (.bool true) ha (by kernel_rfl) (by kernel_rfl) ?_
        clear ha; intro a ha
        refine st_val (.bool true) ha (by kernel_rfl) (by kernel_rfl) ?_
        clear ha; intro a ha
        refine st_val (.bool true) ha (by kernel_rfl) (by kernel_rfl) ?_
        clear ha; intro a ha
        refine st_val (.int .i64 0) ha (by kernel_rfl) (by kernel_rfl) ?_
        clear ha; intro a ha
        refine st_val (.bool true) ha (by kernel_rfl) (by kernel_rfl) ?_
        clear ha; intro a ha
        refine st_val (.bool true) ha (by kernel_rfl) (by kernel_rfl) ?_
        clear ha; intro a ha
        refine st_val (.bool true) ha (by kernel_rfl) (by kernel_rfl) ?_
        clear ha; intro a ha
        refine st_val (.slice A1 x.length c2) ha (by kernel_rfl) (by kernel_rfl) ?_
        clear ha; intro a ha
        refine st_val (.slice A3 y.length c4) ha (by kernel_rfl) (by kernel_rfl) ?_
        clear ha; intro a ha
        refine st_call ha (by kernel_rfl) (by kernel_rfl) (same_is W _ w A1 A3 x.length y.length c2 c4 x y (hcx.unique (hcy.congr fun k => canon_self hcx k)) (Knows.own (j := 3) rfl) (Knows.own (j := 2) rfl) rfl rfl (by omega) s) ?_
        rintro _ w ⟨rfl, s⟩
        replace s : St W (Own 29 2 A8 z.length c9 (sps z) :: Own 29 2 A7 m7 c7 (sps (turn la 0)) :: Own 29 2 A3 y.length c4 (sps y) :: Own 29 2 A1 x.length c2 (sps x) :: L) w := s
        refine ⟨_, rfl, ?_⟩; clear ha; intro a ha
        refine st_val (.bool true) ha (by kernel_rfl) (by kernel_rfl) ?_
        clear ha; intro a ha
        refine st_val (.bool true) ha (by kernel_rfl) (by kernel_rfl) ?_
        clear ha; intro a ha
        refine st_val (.slice A1 x.length c2) ha (by kernel_rfl) (by kernel_rfl) ?_
        clear ha; intro a ha
        refine st_val (.slice A8 z.length c9) ha (by kernel_rfl) (by kernel_rfl) ?_
        clear ha; intro a ha
        refine st_call ha (by kernel_rfl) (by kernel_rfl) (same_is W _ w A1 A8 x.length z.length c2 c9 x z (hcx.unique (hcz.congr fun k => turn_pos la k)) (Knows.own (j := 3) rfl) (Knows.own (j := 0) rfl) rfl rfl (by omega) s) ?_
        rintro _ w ⟨rfl, s⟩
        replace s : St W (Own 29 2 A8 z.length c9 (sps z) :: Own 29 2 A7 m7 c7 (sps (turn la 0)) :: Own 29 2 A3 y.length c4 (sps y) :: Own 29 2 A1 x.length c2 (sps x) :: L) w := s
        refine ⟨_, rfl, ?_⟩; clear ha; intro a ha
        refine st_val (.bool true) ha (by kernel_rfl) (by kernel_rfl) ?_
        clear ha; intro a ha
        refine st_val (.bool true) ha (by kernel_rfl) (by kernel_rfl) ?_
        clear ha; intro a ha
        refine wpList_nil ?_
        refine then_normal ?_
        refine wp_ret ?_
        refine ret_with (v := .bool true) ha (results_1 rfl ha (res_tmp (by kernel_rfl) (by kernel_rfl))) ?_
        replace s := s.tail.tail.tail.tail
        replace s : St W (L) w := s
        exact ⟨rfl, s⟩

end Go.Proofs.Ytcnlidaacgcdhaa.B
