import Derived.Test.YtlkoppmenpeepaaB5
namespace Go.Proofs.Ytlkoppmenpeepaa.B
open Go.RowKit Go.Maps Go.Sort Go.Shelf Go.Proofs.Ytlkoppmenpeepaa.Sep Go.Proofs.Ytlkoppmenpeepaa.P
set_option linter.unusedVariables false
set_option linter.unusedSimpArgs false
theorem lt_of3 {q p : Pr} (h : q.1 < p.1) : ltP q p := .inl h
theorem lt_of4 {q p : Pr} (h1 : q.1 = p.1) (h2 : q.2 < p.2) : ltP q p := .inr ⟨h1, h2⟩
theorem snoc_lt {e : List Pr} {m : Nat} {q p : Pr} (hp : ∀ (i : Nat) (x : Pr), i < m → e[i]? = some x → ltP x p) (hq : e[m]? = some q) (h : ltP q p) : ∀ (i : Nat) (x : Pr), i < m + 1 → e[i]? = some x → ltP x p := by
  intro i x hi hx
  rcases Nat.lt_or_ge i m with h' | h'
  · exact hp i x h' hx
  · have : i = m := by omega
    subst this; rw [hq] at hx; cases hx; exact h
theorem pcs_take (e : List Pr) (m : Nat) : (pcs e).take (m * 2) = pcs (e.take m) := by
  induction e generalizing m with
  | nil => simp [pcs]
  | cons x e ih =>
    cases m with
    | zero => simp [pcs]
    | succ m =>
      have : pcs (x :: e) = .int .i64 x.1 :: .int .i64 x.2 :: pcs e := rfl
      rw [this, show (m + 1) * 2 = m * 2 + 1 + 1 by omega, List.take_succ_cons, List.take_succ_cons, ih]; rfl
theorem pcs_drop (e : List Pr) (m : Nat) : (pcs e).extract (m * 2) (e.length * 2) = pcs (e.drop m) := by
  rw [List.extract_eq_take_drop, ← pcs_len]
  have h : ∀ (e : List Pr) (m : Nat), (pcs e).drop (m * 2) = pcs (e.drop m) := by
    intro e
    induction e with
    | nil => intro m; simp [pcs]
    | cons x e ih =>
      intro m
      cases m with
      | zero => simp
      | succ m =>
        have : pcs (x :: e) = .int .i64 x.1 :: .int .i64 x.2 :: pcs e := rfl
        rw [this, show (m + 1) * 2 = m * 2 + 1 + 1 by omega, List.drop_succ_cons, List.drop_succ_cons, ih]; rfl
  rw [h]
  exact List.take_of_length_le (by rw [pcs_len, pcs_len, List.length_drop]; omega)

theorem same_edges (W : World) (L : List Chunk) (w : World) (A B : Option Addr) (n m ca cb : Nat) (la lb : List Pr) (hra : Knows L fun w => Reads w 2 A n (pcs la)) (hrb : Knows L fun w => Reads w 2 B m (pcs lb)) (hal : la.length = n) (hbl : lb.length = m) (hm : m ≤ 140737488351232) (s : St W L w) :
    Calls Try.prog 21 #[.slice A n ca, .slice B m cb] w fun e w' => e = .returned (.bool (decide (la = lb))) ∧ St W L w' := by
  refine enter_args (l := [.slice A n ca, .slice B m cb]) Try.func21 rfl rfl (Nat.le_of_ble_eq_true rfl) ?_
  intro a ha; replace ha : Has a 26 [(0, .slice A n ca), (1, .slice B m cb)] := ha
  refine wp_seq ?_
  refine wp_region_lit ?_
  refine st_val (.bool false) ha (by kernel_rfl) (by kernel_rfl) ?_
  clear ha; intro a ha
  refine wpList_nil ?_
  refine then_normal ?_
  refine wp_seq ?_
  refine wp_seq ?_
  refine wp_region_lit ?_
  refine st_val (.slice A n ca) ha (by kernel_rfl) (by kernel_rfl) ?_
  clear ha; intro a ha
  refine st_val (.int .i64 ((n : Nat) : Int)) ha (by kernel_rfl) (by kernel_rfl) ?_
  clear ha; intro a ha
  refine st_val (.slice B m cb) ha (by kernel_rfl) (by kernel_rfl) ?_
  clear ha; intro a ha
  refine st_val (.int .i64 ((m : Nat) : Int)) ha (by kernel_rfl) (by kernel_rfl) ?_
  clear ha; intro a ha
  refine st_val (.bool (((n : Nat) : Int) != ((m : Nat) : Int))) ha (by kernel_rfl) (by kernel_rfl) ?_
  clear ha; intro a ha
  refine wpList_nil ?_
  refine then_normal ?_
  refine wp_part (((n : Nat) : Int) != ((m : Nat) : Int)) ha rfl (by kernel_rfl) (fun hb => ?_) (fun hb => ?_)
  · rw [hb] at ha; have hb_ := hb; replace hb := bne_iff_ne.1 hb
    refine wp_seq ?_
    refine wp_region_lit ?_
    refine st_val (.bool false) ha (by kernel_rfl) (by kernel_rfl) ?_
    clear ha; intro a ha
    refine wpList_nil ?_
    refine then_normal ?_
    refine wp_ret ?_
    refine then_ret ?_
    refine ret_with (v := .bool false) ha (results_1 rfl ha (res_tmp (by kernel_rfl) (by kernel_rfl))) ?_
    refine ⟨?_, s⟩
    rw [decide_eq_false (fun e => by subst e; omega)]
  · rw [hb] at ha; have hb_ := hb; replace hb := bne_eq_false_iff_eq.1 hb
    have hnm : m = n := by omega
    subst hnm
    refine wp_skip ?_
    refine then_normal ?_
    refine wp_seq ?_
    refine wp_seq ?_
    refine wp_region_lit ?_
    refine st_val (.int .i64 0) ha (by kernel_rfl) (by kernel_rfl) ?_
    clear ha; intro a ha
    refine wpList_nil ?_
    refine then_normal ?_
    refine wp_block ?_
    refine wp_loopG (G := Nat) (fun k a w => Has a 26 [(0, .slice A m ca), (1, .slice B m cb), (5, .int .i64 ((k : Nat) : Int))] ∧ St W (L) w ∧ (k ≤ m ∧ la.take k = lb.take k)) (fun k => m - k) 0 ?_ ?_
    · exact ⟨(Has.cons ha (by kernel_rfl) (by kernel_rfl) (Has.cons ha (by kernel_rfl) (by kernel_rfl) (Has.cons ha (by kernel_rfl) (by kernel_rfl) (Has.nil ha)))), s, ⟨Nat.zero_le _, rfl⟩⟩
    · clear ha s; rintro k a w ⟨ha, s, hp⟩
      refine wp_seq ?_
      refine wp_seq ?_
      refine wp_region_lit ?_
      refine st_val (.int .i64 ((k : Nat) : Int)) ha (by kernel_rfl) (by kernel_rfl) ?_
      clear ha; intro a ha
      refine st_val (.slice A m ca) ha (by kernel_rfl) (by kernel_rfl) ?_
      clear ha; intro a ha
      refine st_val (.int .i64 ((m : Nat) : Int)) ha (by kernel_rfl) (by kernel_rfl) ?_
      clear ha; intro a ha
      refine st_val (.bool (decide (((k : Nat) : Int) < ((m : Nat) : Int)))) ha (by kernel_rfl) (by kernel_rfl) ?_
      clear ha; intro a ha
      refine wpList_nil ?_
      refine then_normal ?_
      refine wp_part (decide (((k : Nat) : Int) < ((m : Nat) : Int))) ha rfl (by kernel_rfl) (fun hb => ?_) (fun hb => ?_)
      · rw [hb] at ha; replace hb : (((k : Nat) : Int) < ((m : Nat) : Int)) := of_decide_eq_true hb
        obtain ⟨x, hx⟩ : ∃ x, la[k]? = some x := ⟨_, List.getElem?_eq_getElem (by omega)⟩
        obtain ⟨y, hy⟩ : ∃ y, lb[k]? = some y := ⟨_, List.getElem?_eq_getElem (by omega)⟩
        obtain ⟨ada, hA⟩ := Reads.addr (hra _ s.sat) (by omega)
        subst hA
        obtain ⟨adb, hB⟩ := Reads.addr (hrb _ s.sat) (by omega)
        subst hB
        refine wp_skip ?_
        refine then_normal ?_
        refine wp_seq ?_
        refine wp_block ?_
        refine wp_seq ?_
        refine wp_region_head 8 (fun w => Reads w 2 (some ada) m (pcs la) ∧ Reads w 2 (some adb) m (pcs lb) ∧ True) (by kernel_rfl) (by decide) ?_
        replace s := s.drew; generalize _root_.Go.World.drew _ = w at s ⊢
        have hS : (fun w => Reads w 2 (some ada) m (pcs la) ∧ Reads w 2 (some adb) m (pcs lb) ∧ True) w := ⟨(hra _ s.sat), (hrb _ s.sat), trivial⟩
        refine hd_val (i := 0) (.slice (some ada) m ca) ha rfl (by kernel_rfl) (fun _ _ _ h => h) (by kernel_rfl) (fun w hS => (by kernel_rfl)) hS ?_
        clear ha; intro a ha
        refine hd_val (i := 1) (.int .i64 ((k : Nat) : Int)) ha rfl (by kernel_rfl) (fun _ _ _ h => h) (by kernel_rfl) (fun w hS => (by kernel_rfl)) hS ?_
        clear ha; intro a ha
        refine hd_val (i := 2) (.pointer (some (ada.add (k * 2)))) ha rfl (by kernel_rfl) (fun _ _ _ h => h) (by kernel_rfl) (fun w hS => (run_indexAddr' (kd := .i64) (i := ((k : Nat) : Int)) (n := m) (c := ca) k rfl Try.underlying47 Try.sizeOf51 (by kernel_rfl) (by kernel_rfl) rfl (by first | assumption | omega) _)) hS ?_
        clear ha; intro a ha
        refine hd_val (i := 3) (.agg #[.int .i64 x.1, .int .i64 x.2]) ha rfl (by kernel_rfl) (fun _ _ _ h => h) (by kernel_rfl) (fun w hS => run_loadAtN (i := k * 2) [.int .i64 x.1, .int .i64 x.2] hS.1 rfl (by kernel_rfl) Try.isAgg51 Try.sizeOf51 (fun q_ hq_ => pcs_at hx hq_) rfl) hS ?_
        clear ha; intro a ha
        refine hd_val (i := 4) (.slice (some adb) m cb) ha rfl (by kernel_rfl) (fun _ _ _ h => h) (by kernel_rfl) (fun w hS => (by kernel_rfl)) hS ?_
        clear ha; intro a ha
        refine hd_val (i := 5) (.int .i64 ((k : Nat) : Int)) ha rfl (by kernel_rfl) (fun _ _ _ h => h) (by kernel_rfl) (fun w hS => (by kernel_rfl)) hS ?_
        clear ha; intro a ha
        refine hd_val (i := 6) (.pointer (some (adb.add (k * 2)))) ha rfl (by kernel_rfl) (fun _ _ _ h => h) (by kernel_rfl) (fun w hS => (run_indexAddr' (kd := .i64) (i := ((k : Nat) : Int)) (n := m) (c := cb) k rfl Try.underlying47 Try.sizeOf51 (by kernel_rfl) (by kernel_rfl) rfl (by first | assumption | omega) _)) hS ?_
        clear ha; intro a ha
        refine hd_val (i := 7) (.agg #[.int .i64 y.1, .int .i64 y.2]) ha rfl (by kernel_rfl) (fun _ _ _ h => h) (by kernel_rfl) (fun w hS => run_loadAtN (i := k * 2) [.int .i64 y.1, .int .i64 y.2] hS.2.1 rfl (by kernel_rfl) Try.isAgg51 Try.sizeOf51 (fun q_ hq_ => pcs_at hy hq_) rfl) hS ?_
        clear ha; intro a ha
        refine Head.done (by kernel_rfl) ?_
        clear hS; simp only [List.drop_succ_cons, List.drop_zero]
        refine st_val (.bool (decide (x ≠ y))) ha (by kernel_rfl) (run_pr (x := x) (y := y) (.inr rfl) rfl (by kernel_rfl) (by kernel_rfl) _) ?_
        clear ha; intro a ha
        refine wpList_nil ?_
        refine then_normal ?_
        refine wp_part (decide (x ≠ y)) ha rfl (by kernel_rfl) (fun hb => ?_) (fun hb => ?_)
        · rw [hb] at ha; replace hb : (x ≠ y) := of_decide_eq_true hb
          refine wp_seq ?_
          refine wp_region_lit ?_
          refine st_val (.bool false) ha (by kernel_rfl) (by kernel_rfl) ?_
          clear ha; intro a ha
          refine wpList_nil ?_
          refine then_normal ?_
          refine wp_ret ?_
          refine block_ret ?_
          refine then_ret ?_
          refine then_ret ?_
          refine block_ret ?_
          refine then_ret ?_
          refine ret_with (v := .bool false) ha (results_1 rfl ha (res_tmp (by kernel_rfl) (by kernel_rfl))) ?_
          refine ⟨?_, s⟩
          rw [decide_eq_false (fun e => by subst e; rw [hx] at hy; cases hy; exact hb rfl)]
        · rw [hb] at ha; replace hb : ¬ (x ≠ y) := of_decide_eq_false hb
          replace hb : x = y := Decidable.not_not.1 hb
          refine wp_skip ?_
          refine block_normal ?_
          refine then_normal ?_
          refine wp_region_lit ?_
          refine st_val (.int .i64 ((k : Nat) : Int)) ha (by kernel_rfl) (by kernel_rfl) ?_
          clear ha; intro a ha
          refine st_val (.int .i64 ((k + 1 : Nat) : Int)) ha (by kernel_rfl) (run_arith (((k : Nat) : Int) + (1 : Int)) ((k + 1 : Nat) : Int) rfl (by kernel_rfl) (by kernel_rfl) (.inl ⟨rfl, rfl⟩) (by rw [wrap64_in (by omega)]; try omega) _) ?_
          clear ha; intro a ha
          refine st_val (.int .i64 ((k + 1 : Nat) : Int)) ha (by kernel_rfl) (by kernel_rfl) ?_
          clear ha; intro a ha
          refine wpList_nil ?_
          refine then_normal ?_
          exact ⟨k + 1, by omega, (Has.cons ha (by kernel_rfl) (by kernel_rfl) (Has.cons ha (by kernel_rfl) (by kernel_rfl) (Has.cons ha (by kernel_rfl) (by kernel_rfl) (Has.nil ha)))), s, by omega, by rw [take_snoc hx, take_snoc hy, hp.2, hb]⟩
      · rw [hb] at ha; replace hb : ¬ (((k : Nat) : Int) < ((m : Nat) : Int)) := of_decide_eq_false hb
        refine wp_exit ?_
        refine then_exit ?_
        refine then_exit ?_
        refine block_hit ?_
        refine then_normal ?_
        refine wp_seq ?_
        refine wp_region_lit ?_
        refine st_val (.bool true) ha (by kernel_rfl) (by kernel_rfl) ?_
        clear ha; intro a ha
        refine wpList_nil ?_
        refine then_normal ?_
        refine wp_ret ?_
        refine ret_with (v := .bool true) ha (results_1 rfl ha (res_tmp (by kernel_rfl) (by kernel_rfl))) ?_
        refine ⟨?_, s⟩
        have h2 := hp.2
        rw [List.take_of_length_le (by omega), List.take_of_length_le (by omega)] at h2
        rw [decide_eq_true h2]

theorem redges_any (W : World) (L : List Chunk) (w : World) (g : Nat) (A : Option Addr) (n c : Nat) (l : List Wt) (hl : l.length = n) (hn : n ≤ 100) (s : St W (.blk g [.slice A n c] 64 :: Own 34 4 A n c (ws l) :: L) w) :
    Calls Try.prog 22 #[.pointer (some ⟨g, 0, none⟩)] w fun e w' => ∃ A' c' d, e = .returned (.slice A' d.length c') ∧ EdgesOf l d ∧ St W (Own 51 2 A' d.length c' (pcs d) :: .blk g [.slice A n c] 64 :: Own 34 4 A n c (ws l) :: L) w' := by
  refine enter_args (l := [.pointer (some ⟨g, 0, none⟩)]) Try.func22 rfl rfl (Nat.le_of_ble_eq_true rfl) ?_
  intro a ha; replace ha : Has a 97 [(0, .pointer (some ⟨g, 0, none⟩))] := ha
  refine wp_seq ?_
  refine wp_region_lit ?_
  refine st_val (.slice none 0 0) ha (by kernel_rfl) (by kernel_rfl) ?_
  clear ha; intro a ha
  refine wpList_nil ?_
  refine then_normal ?_
  refine wp_seq ?_
  refine wp_region_lit ?_
  refine st_val (.slice none 0 0) ha (by kernel_rfl) (by kernel_rfl) ?_
  clear ha; intro a ha
  refine wpList_nil ?_
  refine then_normal ?_
  refine wp_seq ?_
  refine wp_seq ?_
  refine wp_region_lit ?_
  refine st_val (.int .i64 0) ha (by kernel_rfl) (by kernel_rfl) ?_
  clear ha; intro a ha
  refine wpList_nil ?_
  refine then_normal ?_
  refine wp_block ?_
  replace s := Own.none_ (e := 51) (k := 2) none s
  refine wp_loopG (G := (Nat × List Pr × Option Addr × Nat)) (fun ⟨k, e, Ao, co⟩ a w => Has a 97 [(0, .pointer (some ⟨g, 0, none⟩)), (3, .slice Ao e.length co), (4, .int .i64 ((k : Nat) : Int))] ∧ St W (Own 51 2 Ao e.length co (pcs e) :: .blk g [.slice A n c] 64 :: Own 34 4 A n c (ws l) :: L) w ∧ (k ≤ n ∧ EdgesOf (l.take k) e ∧ e.length ≤ k)) (fun ⟨k, e, Ao, co⟩ => n - k) (0, [], none, 0) ?_ ?_
  · exact ⟨(Has.cons ha (by kernel_rfl) (by kernel_rfl) (Has.cons ha (by kernel_rfl) (by kernel_rfl) (Has.cons ha (by kernel_rfl) (by kernel_rfl) (Has.nil ha)))), s, ⟨Nat.zero_le _, EdgesOf.nil, Nat.le_refl _⟩⟩
  · clear ha s; rintro ⟨k, e, Ao, co⟩ a w ⟨ha, s, hp⟩
    refine wp_seq ?_
    refine wp_seq ?_
    refine wp_region_lit ?_
    refine st_val (.int .i64 ((k : Nat) : Int)) ha (by kernel_rfl) (by kernel_rfl) ?_
    clear ha; intro a ha
    refine st_val (.pointer (some ⟨g, 0, none⟩)) ha (by kernel_rfl) (by kernel_rfl) ?_
    clear ha; intro a ha
    refine st_val (.pointer (some ⟨g, 0, none⟩)) ha (by kernel_rfl) (by kernel_rfl) ?_
    clear ha; intro a ha
    refine st_val (.pointer (some ⟨g, 0, none⟩)) ha (by kernel_rfl) (by kernel_rfl) ?_
    clear ha; intro a ha
    refine st_val (.slice A n c) ha (by kernel_rfl) (run_load1 (of_ := 0) (s.blkIs 1 rfl) rfl (by kernel_rfl) Try.isAgg39 rfl) ?_
    clear ha; intro a ha
    refine st_val (.int .i64 ((n : Nat) : Int)) ha (by kernel_rfl) (by kernel_rfl) ?_
    clear ha; intro a ha
    refine st_val (.bool (decide (((k : Nat) : Int) < ((n : Nat) : Int)))) ha (by kernel_rfl) (by kernel_rfl) ?_
    clear ha; intro a ha
    refine wpList_nil ?_
    refine then_normal ?_
    refine wp_part (decide (((k : Nat) : Int) < ((n : Nat) : Int))) ha rfl (by kernel_rfl) (fun hb => ?_) (fun hb => ?_)
    · rw [hb] at ha; replace hb : (((k : Nat) : Int) < ((n : Nat) : Int)) := of_decide_eq_true hb
      have hel := hp.2.2
      have hec := (Own.facts (s.at_ (j := 0) rfl).1).2.1
      obtain ⟨v, hv⟩ : ∃ v, l[k]? = some v := ⟨_, List.getElem?_eq_getElem (by omega)⟩
      obtain ⟨ad, hA⟩ := Own.addr (s.at_ (j := 2) rfl) (by omega)
      subst hA
      refine wp_skip ?_
      refine then_normal ?_
      refine wp_seq ?_
      refine wp_block ?_
      refine wp_seq ?_
      refine wp_region_head 18 (fun w => BlkIs g [.slice (some ad) n c] w ∧ Reads w 4 (some ad) n (ws l) ∧ True) (by kernel_rfl) (by decide) ?_
      replace s := s.drew; generalize _root_.Go.World.drew _ = w at s ⊢
      have hS : (fun w => BlkIs g [.slice (some ad) n c] w ∧ Reads w 4 (some ad) n (ws l) ∧ True) w := ⟨s.blkIs 1 rfl, (Own.reads (s.at_ (j := 2) rfl).1), trivial⟩
      refine hd_val (i := 0) (.pointer (some ⟨g, 0, none⟩)) ha rfl (by kernel_rfl) (fun _ _ _ h => h) (by kernel_rfl) (fun w hS => (by kernel_rfl)) hS ?_
      clear ha; intro a ha
      refine hd_val (i := 1) (.pointer (some ⟨g, 0, none⟩)) ha rfl (by kernel_rfl) (fun _ _ _ h => h) (by kernel_rfl) (fun w hS => (by kernel_rfl)) hS ?_
      clear ha; intro a ha
      refine hd_val (i := 2) (.pointer (some ⟨g, 0, none⟩)) ha rfl (by kernel_rfl) (fun _ _ _ h => h) (by kernel_rfl) (fun w hS => (by kernel_rfl)) hS ?_
      clear ha; intro a ha
      refine hd_val (i := 3) (.slice (some ad) n c) ha rfl (by kernel_rfl) (fun _ _ _ h => h) (by kernel_rfl) (fun w hS => run_load1 (of_ := 0) hS.1 rfl (by kernel_rfl) Try.isAgg39 rfl) hS ?_
      clear ha; intro a ha
      refine hd_val (i := 4) (.int .i64 ((k : Nat) : Int)) ha rfl (by kernel_rfl) (fun _ _ _ h => h) (by kernel_rfl) (fun w hS => (by kernel_rfl)) hS ?_
      clear ha; intro a ha
      refine hd_val (i := 5) (.pointer (some (ad.add (k * 4)))) ha rfl (by kernel_rfl) (fun _ _ _ h => h) (by kernel_rfl) (fun w hS => (run_indexAddr' (kd := .i64) (i := ((k : Nat) : Int)) (n := n) (c := c) k rfl Try.underlying39 Try.sizeOf34 (by kernel_rfl) (by kernel_rfl) rfl (by first | assumption | omega) _)) hS ?_
      clear ha; intro a ha
      refine hd_val (i := 6) (.pointer (some (ad.add (k * 4 + 2)))) ha rfl (by kernel_rfl) (fun _ _ _ h => h) (by kernel_rfl) (fun w hS => (run_fieldAddr_at (i := k * 4) (off := 2) rfl Try.underlying34 rfl Try.sizeOf3 (by kernel_rfl) _)) hS ?_
      clear ha; intro a ha
      refine hd_val (i := 7) (.int .i64 v.waiter) ha rfl (by kernel_rfl) (fun _ _ _ h => h) (by kernel_rfl) (fun w hS => run_loadAt1 (i := k * 4 + 2) hS.2.1 rfl (by kernel_rfl) Try.isAgg3 (by rw [ws_at hv (by omega)]; rfl)) hS ?_
      clear ha; intro a ha
      refine hd_val (i := 8) (.pointer (some ⟨g, 0, none⟩)) ha rfl (by kernel_rfl) (fun _ _ _ h => h) (by kernel_rfl) (fun w hS => (by kernel_rfl)) hS ?_
      clear ha; intro a ha
      refine hd_val (i := 9) (.pointer (some ⟨g, 0, none⟩)) ha rfl (by kernel_rfl) (fun _ _ _ h => h) (by kernel_rfl) (fun w hS => (by kernel_rfl)) hS ?_
      clear ha; intro a ha
      refine hd_val (i := 10) (.pointer (some ⟨g, 0, none⟩)) ha rfl (by kernel_rfl) (fun _ _ _ h => h) (by kernel_rfl) (fun w hS => (by kernel_rfl)) hS ?_
      clear ha; intro a ha
      refine hd_val (i := 11) (.slice (some ad) n c) ha rfl (by kernel_rfl) (fun _ _ _ h => h) (by kernel_rfl) (fun w hS => run_load1 (of_ := 0) hS.1 rfl (by kernel_rfl) Try.isAgg39 rfl) hS ?_
      clear ha; intro a ha
      refine hd_val (i := 12) (.int .i64 ((k : Nat) : Int)) ha rfl (by kernel_rfl) (fun _ _ _ h => h) (by kernel_rfl) (fun w hS => (by kernel_rfl)) hS ?_
      clear ha; intro a ha
      refine hd_val (i := 13) (.pointer (some (ad.add (k * 4)))) ha rfl (by kernel_rfl) (fun _ _ _ h => h) (by kernel_rfl) (fun w hS => (run_indexAddr' (kd := .i64) (i := ((k : Nat) : Int)) (n := n) (c := c) k rfl Try.underlying39 Try.sizeOf34 (by kernel_rfl) (by kernel_rfl) rfl (by first | assumption | omega) _)) hS ?_
      clear ha; intro a ha
      refine hd_val (i := 14) (.pointer (some (ad.add (k * 4 + 3)))) ha rfl (by kernel_rfl) (fun _ _ _ h => h) (by kernel_rfl) (fun w hS => (run_fieldAddr_at (i := k * 4) (off := 3) rfl Try.underlying34 rfl Try.sizeOf3 (by kernel_rfl) _)) hS ?_
      clear ha; intro a ha
      refine hd_val (i := 15) (.int .i64 v.holder) ha rfl (by kernel_rfl) (fun _ _ _ h => h) (by kernel_rfl) (fun w hS => run_loadAt1 (i := k * 4 + 3) hS.2.1 rfl (by kernel_rfl) Try.isAgg3 (by rw [ws_at hv (by omega)]; rfl)) hS ?_
      clear ha; intro a ha
      refine hd_val (i := 16) (.agg #[.int .i64 v.waiter, .int .i64 v.holder]) ha rfl (by kernel_rfl) (fun _ _ _ h => h) (by kernel_rfl) (fun w hS => (by kernel_rfl)) hS ?_
      clear ha; intro a ha
      refine hd_ex (i := 17) ha rfl (by kernel_rfl) (by kernel_rfl) (ex_alloc [.int .i64 0, .int .i64 0] s rfl (Try.zeroValue51 _) (by kernel_rfl)) ?_
      clear hS; rintro _ w ⟨g1, rfl, s⟩
      replace s : St W (.blk g1 [.int .i64 0, .int .i64 0] 51 :: Own 51 2 Ao e.length co (pcs e) :: .blk g [.slice (some ad) n c] 64 :: Own 34 4 (some ad) n c (ws l) :: L) w := s
      have hS : (fun w => BlkIs g [.slice (some ad) n c] w ∧ Reads w 4 (some ad) n (ws l) ∧ True) w := ⟨s.blkIs 2 rfl, (Own.reads (s.at_ (j := 3) rfl).1), trivial⟩
      refine ⟨hS, ?_⟩; clear ha; intro a ha
      refine Head.done (by kernel_rfl) ?_
      clear hS; simp only [List.drop_succ_cons, List.drop_zero]
      refine st_exd ha (by kernel_rfl) (ex_store (of_ := 0) 0 [.int .i64 v.waiter, .int .i64 v.holder] s rfl rfl (by kernel_rfl) (by kernel_rfl) (Try.sizeOf51 _) rfl (by simp [Value.oneCell']) (Nat.le_of_ble_eq_true rfl)) ?_
      clear ha; rintro w a s ha
      replace s : St W (.blk g1 [.int .i64 v.waiter, .int .i64 v.holder] 51 :: Own 51 2 Ao e.length co (pcs e) :: .blk g [.slice (some ad) n c] 64 :: Own 34 4 (some ad) n c (ws l) :: L) w := s
      refine wpList_nil ?_
      refine then_normal ?_
      refine wp_seq ?_
      refine wp_region_lit ?_
      refine st_val (.int .i64 0) ha (by kernel_rfl) (by kernel_rfl) ?_
      clear ha; intro a ha
      refine wpList_nil ?_
      refine then_normal ?_
      refine wp_seq ?_
      refine wp_block ?_
      rcases Nat.eq_zero_or_pos e.length with h0 | h0
      · have hpo := hp
        have hgeA : ∀ (m : Nat) (x : Pr), e[m]? = some x → False := fun m x hx => by have := (List.getElem?_eq_some_iff.1 hx).1; omega
        refine wp_loopG (G := Nat) (fun m a w => Has a 97 [(0, .pointer (some ⟨g, 0, none⟩)), (3, .slice Ao e.length co), (4, .int .i64 ((k : Nat) : Int)), (5, .pointer (some ⟨g1, 0, none⟩)), (6, .int .i64 ((m : Nat) : Int))] ∧ St W (.blk g1 [.int .i64 v.waiter, .int .i64 v.holder] 51 :: Own 51 2 Ao e.length co (pcs e) :: .blk g [.slice (some ad) n c] 64 :: Own 34 4 (some ad) n c (ws l) :: L) w ∧ (m ≤ e.length ∧ ∀ (i : Nat) (x : Pr), i < m → e[i]? = some x → ltP x (pr v))) (fun m => e.length - m) 0 ?_ ?_
        · exact ⟨(Has.cons ha (by kernel_rfl) (by kernel_rfl) (Has.cons ha (by kernel_rfl) (by kernel_rfl) (Has.cons ha (by kernel_rfl) (by kernel_rfl) (Has.cons ha (by kernel_rfl) (by kernel_rfl) (Has.cons ha (by kernel_rfl) (by kernel_rfl) (Has.nil ha)))))), s, ⟨Nat.zero_le _, fun i x h => absurd h (Nat.not_lt_zero _)⟩⟩
        · clear ha s; rintro m a w ⟨ha, s, hp⟩
          refine wp_seq ?_
          refine wp_seq ?_
          refine wp_region_head 30 (fun w => True) (by kernel_rfl) (by decide) ?_
          replace s := s.drew; generalize _root_.Go.World.drew _ = w at s ⊢
          have hS : (fun w => True) w := trivial
          refine hd_val (i := 0) (.int .i64 ((m : Nat) : Int)) ha rfl (by kernel_rfl) (fun _ _ _ h => h) (by kernel_rfl) (fun w hS => (by kernel_rfl)) hS ?_
          clear ha; intro a ha
          refine hd_val (i := 1) (.slice Ao e.length co) ha rfl (by kernel_rfl) (fun _ _ _ h => h) (by kernel_rfl) (fun w hS => (by kernel_rfl)) hS ?_
          clear ha; intro a ha
          refine hd_val (i := 2) (.int .i64 ((e.length : Nat) : Int)) ha rfl (by kernel_rfl) (fun _ _ _ h => h) (by kernel_rfl) (fun w hS => (by kernel_rfl)) hS ?_
          clear ha; intro a ha
          refine hd_val (i := 3) (.bool false) ha rfl (by kernel_rfl) (fun _ _ _ h => h) (by kernel_rfl) (fun w hS => (run_known (show (decide (((m : Nat) : Int) < ((e.length : Nat) : Int))) = false from decide_eq_false (by omega)) (by kernel_rfl))) hS ?_
          clear ha; intro a ha
          refine hd_val (i := 4) (.bool false) ha rfl (by kernel_rfl) (fun _ _ _ h => h) (by kernel_rfl) (fun w hS => (by kernel_rfl)) hS ?_
          clear ha; intro a ha
          refine hd_pass (i := 5) ha rfl (by kernel_rfl) (fun _ _ _ h => h) (by kernel_rfl) hS ?_
          clear ha; intro a ha
          refine hd_pass (i := 6) ha rfl (by kernel_rfl) (fun _ _ _ h => h) (by kernel_rfl) hS ?_
          clear ha; intro a ha
          refine hd_pass (i := 7) ha rfl (by kernel_rfl) (fun _ _ _ h => h) (by kernel_rfl) hS ?_
          clear ha; intro a ha
          refine hd_pass (i := 8) ha rfl (by kernel_rfl) (fun _ _ _ h => h) (by kernel_rfl) hS ?_
          clear ha; intro a ha
          refine hd_pass (i := 9) ha rfl (by kernel_rfl) (fun _ _ _ h => h) (by kernel_rfl) hS ?_
          clear ha; intro a ha
          refine hd_pass (i := 10) ha rfl (by kernel_rfl) (fun _ _ _ h => h) (by kernel_rfl) hS ?_
          clear ha; intro a ha
          refine hd_pass (i := 11) ha rfl (by kernel_rfl) (fun _ _ _ h => h) (by kernel_rfl) hS ?_
          clear ha; intro a ha
          refine hd_pass (i := 12) ha rfl (by kernel_rfl) (fun _ _ _ h => h) (by kernel_rfl) hS ?_
          clear ha; intro a ha
          refine hd_pass (i := 13) ha rfl (by kernel_rfl) (fun _ _ _ h => h) (by kernel_rfl) hS ?_
          clear ha; intro a ha
          refine hd_pass (i := 14) ha rfl (by kernel_rfl) (fun _ _ _ h => h) (by kernel_rfl) hS ?_
          clear ha; intro a ha
          refine hd_pass (i := 15) ha rfl (by kernel_rfl) (fun _ _ _ h => h) (by kernel_rfl) hS ?_
          clear ha; intro a ha
          refine hd_pass (i := 16) ha rfl (by kernel_rfl) (fun _ _ _ h => h) (by kernel_rfl) hS ?_
          clear ha; intro a ha
          refine hd_pass (i := 17) ha rfl (by kernel_rfl) (fun _ _ _ h => h) (by kernel_rfl) hS ?_
          clear ha; intro a ha
          refine hd_pass (i := 18) ha rfl (by kernel_rfl) (fun _ _ _ h => h) (by kernel_rfl) hS ?_
          clear ha; intro a ha
          refine hd_pass (i := 19) ha rfl (by kernel_rfl) (fun _ _ _ h => h) (by kernel_rfl) hS ?_
          clear ha; intro a ha
          refine hd_pass (i := 20) ha rfl (by kernel_rfl) (fun _ _ _ h => h) (by kernel_rfl) hS ?_
          clear ha; intro a ha
          refine hd_pass (i := 21) ha rfl (by kernel_rfl) (fun _ _ _ h => h) (by kernel_rfl) hS ?_
          clear ha; intro a ha
          refine hd_pass (i := 22) ha rfl (by kernel_rfl) (fun _ _ _ h => h) (by kernel_rfl) hS ?_
          clear ha; intro a ha
          refine hd_pass (i := 23) ha rfl (by kernel_rfl) (fun _ _ _ h => h) (by kernel_rfl) hS ?_
          clear ha; intro a ha
          refine hd_pass (i := 24) ha rfl (by kernel_rfl) (fun _ _ _ h => h) (by kernel_rfl) hS ?_
          clear ha; intro a ha
          refine hd_pass (i := 25) ha rfl (by kernel_rfl) (fun _ _ _ h => h) (by kernel_rfl) hS ?_
          clear ha; intro a ha
          refine hd_pass (i := 26) ha rfl (by kernel_rfl) (fun _ _ _ h => h) (by kernel_rfl) hS ?_
          clear ha; intro a ha
          refine hd_pass (i := 27) ha rfl (by kernel_rfl) (fun _ _ _ h => h) (by kernel_rfl) hS ?_
          clear ha; intro a ha
          refine hd_pass (i := 28) ha rfl (by kernel_rfl) (fun _ _ _ h => h) (by kernel_rfl) hS ?_
          clear ha; intro a ha
          refine hd_pass (i := 29) ha rfl (by kernel_rfl) (fun _ _ _ h => h) (by kernel_rfl) hS ?_
          clear ha; intro a ha
          refine Head.done (by kernel_rfl) ?_
          clear hS; simp only [List.drop_succ_cons, List.drop_zero]
          refine st_pass ha (by kernel_rfl) ?_
          clear ha; intro a ha
          refine st_pass ha (by kernel_rfl) ?_
          clear ha; intro a ha
          refine st_pass ha (by kernel_rfl) ?_
          clear ha; intro a ha
          refine st_val (.bool false) ha (by kernel_rfl) (by kernel_rfl) ?_
          clear ha; intro a ha
          refine wpList_nil ?_
          refine then_normal ?_
          refine wp_false ha rfl (by kernel_rfl) ?_
          refine wp_exit ?_
          refine then_exit ?_
          refine then_exit ?_
          refine block_hit ?_
          refine then_normal ?_
          refine wp_seq ?_
          refine wp_seq ?_
          refine wp_region_head 10 (fun w => True) (by kernel_rfl) (by decide) ?_
          replace s := s.drew; generalize _root_.Go.World.drew _ = w at s ⊢
          have hS : (fun w => True) w := trivial
          refine hd_val (i := 0) (.int .i64 ((m : Nat) : Int)) ha rfl (by kernel_rfl) (fun _ _ _ h => h) (by kernel_rfl) (fun w hS => (by kernel_rfl)) hS ?_
          clear ha; intro a ha
          refine hd_val (i := 1) (.slice Ao e.length co) ha rfl (by kernel_rfl) (fun _ _ _ h => h) (by kernel_rfl) (fun w hS => (by kernel_rfl)) hS ?_
          clear ha; intro a ha
          refine hd_val (i := 2) (.int .i64 ((e.length : Nat) : Int)) ha rfl (by kernel_rfl) (fun _ _ _ h => h) (by kernel_rfl) (fun w hS => (by kernel_rfl)) hS ?_
          clear ha; intro a ha
          refine hd_val (i := 3) (.bool false) ha rfl (by kernel_rfl) (fun _ _ _ h => h) (by kernel_rfl) (fun w hS => (run_known (show (decide (((m : Nat) : Int) < ((e.length : Nat) : Int))) = false from decide_eq_false (by omega)) (by kernel_rfl))) hS ?_
          clear ha; intro a ha
          refine hd_val (i := 4) (.bool false) ha rfl (by kernel_rfl) (fun _ _ _ h => h) (by kernel_rfl) (fun w hS => (by kernel_rfl)) hS ?_
          clear ha; intro a ha
          refine hd_pass (i := 5) ha rfl (by kernel_rfl) (fun _ _ _ h => h) (by kernel_rfl) hS ?_
          clear ha; intro a ha
          refine hd_pass (i := 6) ha rfl (by kernel_rfl) (fun _ _ _ h => h) (by kernel_rfl) hS ?_
          clear ha; intro a ha
          refine hd_pass (i := 7) ha rfl (by kernel_rfl) (fun _ _ _ h => h) (by kernel_rfl) hS ?_
          clear ha; intro a ha
          refine hd_pass (i := 8) ha rfl (by kernel_rfl) (fun _ _ _ h => h) (by kernel_rfl) hS ?_
          clear ha; intro a ha
          refine hd_pass (i := 9) ha rfl (by kernel_rfl) (fun _ _ _ h => h) (by kernel_rfl) hS ?_
          clear ha; intro a ha
          refine Head.done (by kernel_rfl) ?_
          clear hS; simp only [List.drop_succ_cons, List.drop_zero]
          refine st_pass ha (by kernel_rfl) ?_
          clear ha; intro a ha
          refine st_val (.bool false) ha (by kernel_rfl) (by kernel_rfl) ?_
          clear ha; intro a ha
          refine wpList_nil ?_
          refine then_normal ?_
          refine wp_false ha rfl (by kernel_rfl) ?_
          refine wp_skip ?_
          refine then_normal ?_
          refine wp_seq ?_
          refine wp_region_lit ?_
          refine st_val (.slice none 0 0) ha (by kernel_rfl) (by kernel_rfl) ?_
          clear ha; intro a ha
          refine wpList_nil ?_
          refine then_normal ?_
          refine wp_seq ?_
          refine wp_region_lit ?_
          refine st_val (.slice none 0 0) ha (by kernel_rfl) (by kernel_rfl) ?_
          clear ha; intro a ha
          refine st_val (.slice Ao e.length co) ha (by kernel_rfl) (by kernel_rfl) ?_
          clear ha; intro a ha
          refine st_val (.int .i64 ((m : Nat) : Int)) ha (by kernel_rfl) (by kernel_rfl) ?_
          clear ha; intro a ha
          refine st_val (.slice Ao m co) ha (by kernel_rfl) (run_slice0 (n := e.length) (c := co) m co rfl Try.underlying47 Try.sizeOf51 (by kernel_rfl) (fun _ => rfl) bnd_none (bnd_some .i64 (by kernel_rfl)) bnd_none (by omega) (by omega) _) ?_
          clear ha; intro a ha
          replace s := Own.none_ (e := 51) (k := 2) none s
          replace s : St W (Own 51 2 none 0 0 [] :: .blk g1 [.int .i64 v.waiter, .int .i64 v.holder] 51 :: Own 51 2 Ao e.length co (pcs e) :: .blk g [.slice (some ad) n c] 64 :: Own 34 4 (some ad) n c (ws l) :: L) w := s
          refine st_ex ha (by kernel_rfl) (ex_append (m := m) (d' := co) elt47 (by decide) 0 (pcs (e.take m)) s rfl (by kernel_rfl) (by kernel_rfl) rfl (by rw [← pcs_take]; exact Reads.take (Own.reads (s.at_ (j := 2) rfl).1) (by omega)) (pcs_one _) (by simp only [maxLen]; omega) (by omega)) ?_
          clear ha; rintro _ w a ⟨A2, c3, rfl, hA_, s⟩ ha
          replace s : St W (Own 51 2 A2 (0 + m) c3 ([] ++ (pcs (e.take m))) :: .blk g1 [.int .i64 v.waiter, .int .i64 v.holder] 51 :: Own 51 2 Ao e.length co (pcs e) :: .blk g [.slice (some ad) n c] 64 :: Own 34 4 (some ad) n c (ws l) :: L) w := s
          refine st_val (.slice A2 (0 + m) c3) ha (by kernel_rfl) (by kernel_rfl) ?_
          clear ha; intro a ha
          refine wpList_nil ?_
          refine then_normal ?_
          refine wp_seq ?_
          refine wp_region_lit ?_
          refine st_val (.slice A2 (0 + m) c3) ha (by kernel_rfl) (by kernel_rfl) ?_
          clear ha; intro a ha
          refine st_val (.agg #[.int .i64 v.waiter, .int .i64 v.holder]) ha (by kernel_rfl) (run_loadN (of_ := 0) [.int .i64 v.waiter, .int .i64 v.holder] (s.blkIs 1 rfl) rfl (by kernel_rfl) Try.isAgg51 Try.sizeOf51 rfl (Nat.le_of_ble_eq_true rfl)) ?_
          clear ha; intro a ha
          refine st_ex ha (by kernel_rfl) (ex_buildSlice elt47 _ zs47 [.int .i64 v.waiter, .int .i64 v.holder] s rfl (by kernel_rfl) (by decide)) ?_
          clear ha; rintro _ w a ⟨g4, rfl, s⟩ ha
          replace s : St W (.blk g4 [.int .i64 v.waiter, .int .i64 v.holder] 51 :: Own 51 2 A2 (0 + m) c3 ([] ++ (pcs (e.take m))) :: .blk g1 [.int .i64 v.waiter, .int .i64 v.holder] 51 :: Own 51 2 Ao e.length co (pcs e) :: .blk g [.slice (some ad) n c] 64 :: Own 34 4 (some ad) n c (ws l) :: L) w := s
          refine st_ex ha (by kernel_rfl) (ex_append (m := 1) (d' := 1) elt47 (by decide) 1 [.int .i64 v.waiter, .int .i64 v.holder] s rfl (by kernel_rfl) (by kernel_rfl) rfl (reads_blk (s.blkIs 0 rfl) rfl) (by simp [Value.oneCell']) (by simp only [maxLen]; omega) (by omega)) ?_
          clear ha; rintro _ w a ⟨A5, c6, rfl, hA_, s⟩ ha
          replace s : St W (.blk g4 [.int .i64 v.waiter, .int .i64 v.holder] 51 :: Own 51 2 A5 (0 + m + 1) c6 (([] ++ (pcs (e.take m))) ++ [.int .i64 v.waiter, .int .i64 v.holder]) :: .blk g1 [.int .i64 v.waiter, .int .i64 v.holder] 51 :: Own 51 2 Ao e.length co (pcs e) :: .blk g [.slice (some ad) n c] 64 :: Own 34 4 (some ad) n c (ws l) :: L) w := s
          refine st_val (.slice A5 (0 + m + 1) c6) ha (by kernel_rfl) (by kernel_rfl) ?_
          clear ha; intro a ha
          refine wpList_nil ?_
          refine then_normal ?_
          refine wp_region_lit ?_
          refine st_val (.slice A5 (0 + m + 1) c6) ha (by kernel_rfl) (by kernel_rfl) ?_
          clear ha; intro a ha
          refine st_val (.slice Ao e.length co) ha (by kernel_rfl) (by kernel_rfl) ?_
          clear ha; intro a ha
          refine st_val (.int .i64 ((m : Nat) : Int)) ha (by kernel_rfl) (by kernel_rfl) ?_
          clear ha; intro a ha
          refine st_val (.slice (slA Ao m co 2) (e.length - m) (co - m)) ha (by kernel_rfl) (run_slice (n := e.length) (c := co) m e.length co rfl Try.underlying47 Try.sizeOf51 (by kernel_rfl) (fun h => by cases h) bnd_none bnd_none (bnd_some .i64 (by kernel_rfl)) (by omega) (by omega) (by omega) _) ?_
          clear ha; intro a ha
          refine st_ex ha (by kernel_rfl) (ex_append (m := (e.length - m)) (d' := (co - m)) elt47 (by decide) 1 (pcs (e.drop m)) s rfl (by kernel_rfl) (by kernel_rfl) rfl (by rw [← pcs_drop]; exact Reads.sub (Own.reads (s.at_ (j := 3) rfl).1) (by omega) (by omega) hec) (pcs_one _) (by simp only [maxLen]; omega) (by omega)) ?_
          clear ha; rintro _ w a ⟨A7, c8, rfl, hA_, s⟩ ha
          replace s : St W (.blk g4 [.int .i64 v.waiter, .int .i64 v.holder] 51 :: Own 51 2 A7 (0 + m + 1 + (e.length - m)) c8 ((([] ++ (pcs (e.take m))) ++ [.int .i64 v.waiter, .int .i64 v.holder]) ++ (pcs (e.drop m))) :: .blk g1 [.int .i64 v.waiter, .int .i64 v.holder] 51 :: Own 51 2 Ao e.length co (pcs e) :: .blk g [.slice (some ad) n c] 64 :: Own 34 4 (some ad) n c (ws l) :: L) w := s
          refine st_val (.slice A7 (0 + m + 1 + (e.length - m)) c8) ha (by kernel_rfl) (by kernel_rfl) ?_
          clear ha; intro a ha
          refine wpList_nil ?_
          refine block_normal ?_
          refine then_normal ?_
          refine wp_region_lit ?_
          refine st_val (.int .i64 ((k : Nat) : Int)) ha (by kernel_rfl) (by kernel_rfl) ?_
          clear ha; intro a ha
          refine st_val (.int .i64 ((k + 1 : Nat) : Int)) ha (by kernel_rfl) (run_arith (((k : Nat) : Int) + (1 : Int)) ((k + 1 : Nat) : Int) rfl (by kernel_rfl) (by kernel_rfl) (.inl ⟨rfl, rfl⟩) (by rw [wrap64_in (by omega)]; try omega) _) ?_
          clear ha; intro a ha
          refine st_val (.int .i64 ((k + 1 : Nat) : Int)) ha (by kernel_rfl) (by kernel_rfl) ?_
          clear ha; intro a ha
          refine wpList_nil ?_
          refine then_normal ?_
          replace s := s.at_ (j := 5) rfl
          replace s : St W (Own 34 4 (some ad) n c (ws l) :: .blk g4 [.int .i64 v.waiter, .int .i64 v.holder] 51 :: Own 51 2 A7 (0 + m + 1 + (e.length - m)) c8 ((([] ++ (pcs (e.take m))) ++ [.int .i64 v.waiter, .int .i64 v.holder]) ++ (pcs (e.drop m))) :: .blk g1 [.int .i64 v.waiter, .int .i64 v.holder] 51 :: Own 51 2 Ao e.length co (pcs e) :: .blk g [.slice (some ad) n c] 64 :: L) w := s
          replace s := s.at_ (j := 5) rfl
          replace s : St W (.blk g [.slice (some ad) n c] 64 :: Own 34 4 (some ad) n c (ws l) :: .blk g4 [.int .i64 v.waiter, .int .i64 v.holder] 51 :: Own 51 2 A7 (0 + m + 1 + (e.length - m)) c8 ((([] ++ (pcs (e.take m))) ++ [.int .i64 v.waiter, .int .i64 v.holder]) ++ (pcs (e.drop m))) :: .blk g1 [.int .i64 v.waiter, .int .i64 v.holder] 51 :: Own 51 2 Ao e.length co (pcs e) :: L) w := s
          replace s := s.at_ (j := 3) rfl
          replace s : St W (Own 51 2 A7 (0 + m + 1 + (e.length - m)) c8 ((([] ++ (pcs (e.take m))) ++ [.int .i64 v.waiter, .int .i64 v.holder]) ++ (pcs (e.drop m))) :: .blk g [.slice (some ad) n c] 64 :: Own 34 4 (some ad) n c (ws l) :: .blk g4 [.int .i64 v.waiter, .int .i64 v.holder] 51 :: .blk g1 [.int .i64 v.waiter, .int .i64 v.holder] 51 :: Own 51 2 Ao e.length co (pcs e) :: L) w := s
          replace s : St W (Own 51 2 A7 (0 + m + 1 + (e.length - m)) c8 ((([] ++ (pcs (e.take m))) ++ [.int .i64 v.waiter, .int .i64 v.holder]) ++ (pcs (e.drop m))) :: .blk g [.slice (some ad) n c] 64 :: Own 34 4 (some ad) n c (ws l) :: L) w := St.mid (A := [Own 51 2 A7 (0 + m + 1 + (e.length - m)) c8 ((([] ++ (pcs (e.take m))) ++ [.int .i64 v.waiter, .int .i64 v.holder]) ++ (pcs (e.drop m))), .blk g [.slice (some ad) n c] 64, Own 34 4 (some ad) n c (ws l)]) (B := [.blk g4 [.int .i64 v.waiter, .int .i64 v.holder] 51, .blk g1 [.int .i64 v.waiter, .int .i64 v.holder] 51, Own 51 2 Ao e.length co (pcs e)]) s
          have hmE : 0 + m + 1 + (e.length - m) = (e.take m ++ [pr v] ++ e.drop m).length := by rw [List.length_append, List.length_append, List.length_take, List.length_drop, List.length_singleton]; omega
          replace s : St W (Own 51 2 A7 ((e.take m ++ [pr v] ++ e.drop m).length) c8 (pcs (e.take m ++ [pr v] ++ e.drop m)) :: .blk g [.slice (some ad) n c] 64 :: Own 34 4 (some ad) n c (ws l) :: L) w := by rw [← hmE, pcs_append, pcs_append]; exact s
          have hEO := EdgesOf.put (w := v) (n := m) hpo.2.1 hp.2 (fun x hx => (hgeA m x hx).elim) (fun x hx => (hgeA m x hx).elim) (by omega)
          rw [← take_snoc hv] at hEO
          exact ⟨(k + 1, (e.take m ++ [pr v] ++ e.drop m), A7, c8), (show n - (k + 1) < n - k by omega), (Has.cons ha (by kernel_rfl) (by kernel_rfl) (Has.cons ha (by kernel_rfl) (by rw [← hmE]; rfl) (Has.cons ha (by kernel_rfl) (by kernel_rfl) (Has.nil ha)))), s, (show k + 1 ≤ n by omega), hEO, (show (e.take m ++ [pr v] ++ e.drop m).length ≤ k + 1 by rw [← hmE]; omega)⟩
      · have hpo := hp
        obtain ⟨ade, hE⟩ := Own.addr (s.at_ (j := 1) rfl) (by omega)
        subst hE
        refine wp_loopG (G := Nat) (fun m a w => Has a 97 [(0, .pointer (some ⟨g, 0, none⟩)), (3, .slice (some ade) e.length co), (4, .int .i64 ((k : Nat) : Int)), (5, .pointer (some ⟨g1, 0, none⟩)), (6, .int .i64 ((m : Nat) : Int))] ∧ St W (.blk g1 [.int .i64 v.waiter, .int .i64 v.holder] 51 :: Own 51 2 (some ade) e.length co (pcs e) :: .blk g [.slice (some ad) n c] 64 :: Own 34 4 (some ad) n c (ws l) :: L) w ∧ (m ≤ e.length ∧ ∀ (i : Nat) (x : Pr), i < m → e[i]? = some x → ltP x (pr v))) (fun m => e.length - m) 0 ?_ ?_
        · exact ⟨(Has.cons ha (by kernel_rfl) (by kernel_rfl) (Has.cons ha (by kernel_rfl) (by kernel_rfl) (Has.cons ha (by kernel_rfl) (by kernel_rfl) (Has.cons ha (by kernel_rfl) (by kernel_rfl) (Has.cons ha (by kernel_rfl) (by kernel_rfl) (Has.nil ha)))))), s, ⟨Nat.zero_le _, fun i x h => absurd h (Nat.not_lt_zero _)⟩⟩
        · clear ha s; rintro m a w ⟨ha, s, hp⟩
          refine wp_seq ?_
          refine wp_seq ?_
          refine wp_region_head 30 (fun w => Reads w 2 (some ade) e.length (pcs e) ∧ BlkIs g1 [.int .i64 v.waiter, .int .i64 v.holder] w ∧ True) (by kernel_rfl) (by decide) ?_
          replace s := s.drew; generalize _root_.Go.World.drew _ = w at s ⊢
          have hS : (fun w => Reads w 2 (some ade) e.length (pcs e) ∧ BlkIs g1 [.int .i64 v.waiter, .int .i64 v.holder] w ∧ True) w := ⟨(Own.reads (s.at_ (j := 1) rfl).1), s.blkIs 0 rfl, trivial⟩
          refine hd_val (i := 0) (.int .i64 ((m : Nat) : Int)) ha rfl (by kernel_rfl) (fun _ _ _ h => h) (by kernel_rfl) (fun w hS => (by kernel_rfl)) hS ?_
          clear ha; intro a ha
          refine hd_val (i := 1) (.slice (some ade) e.length co) ha rfl (by kernel_rfl) (fun _ _ _ h => h) (by kernel_rfl) (fun w hS => (by kernel_rfl)) hS ?_
          clear ha; intro a ha
          refine hd_val (i := 2) (.int .i64 ((e.length : Nat) : Int)) ha rfl (by kernel_rfl) (fun _ _ _ h => h) (by kernel_rfl) (fun w hS => (by kernel_rfl)) hS ?_
          clear ha; intro a ha
          refine hd_val (i := 3) (.bool (decide (((m : Nat) : Int) < ((e.length : Nat) : Int)))) ha rfl (by kernel_rfl) (fun _ _ _ h => h) (by kernel_rfl) (fun w hS => (by kernel_rfl)) hS ?_
          clear ha; intro a ha
          refine hd_val (i := 4) (.bool (decide (((m : Nat) : Int) < ((e.length : Nat) : Int)))) ha rfl (by kernel_rfl) (fun _ _ _ h => h) (by kernel_rfl) (fun w hS => (by kernel_rfl)) hS ?_
          clear ha; intro a ha
          rcases Bool.eq_false_or_eq_true (decide (((m : Nat) : Int) < ((e.length : Nat) : Int))) with hb | hb
          · rw [hb] at ha; replace hb : (((m : Nat) : Int) < ((e.length : Nat) : Int)) := of_decide_eq_true hb
            have hml := hb
            obtain ⟨q, hq⟩ : ∃ q, e[m]? = some q := ⟨_, List.getElem?_eq_getElem (by omega)⟩
            refine hd_val (i := 5) (.slice (some ade) e.length co) ha rfl (by kernel_rfl) (fun _ _ _ h => h) (by kernel_rfl) (fun w hS => (by kernel_rfl)) hS ?_
            clear ha; intro a ha
            refine hd_val (i := 6) (.int .i64 ((m : Nat) : Int)) ha rfl (by kernel_rfl) (fun _ _ _ h => h) (by kernel_rfl) (fun w hS => (by kernel_rfl)) hS ?_
            clear ha; intro a ha
            refine hd_val (i := 7) (.pointer (some (ade.add (m * 2)))) ha rfl (by kernel_rfl) (fun _ _ _ h => h) (by kernel_rfl) (fun w hS => (run_indexAddr' (kd := .i64) (i := ((m : Nat) : Int)) (n := e.length) (c := co) m rfl Try.underlying47 Try.sizeOf51 (by kernel_rfl) (by kernel_rfl) rfl (by first | assumption | omega) _)) hS ?_
            clear ha; intro a ha
            refine hd_val (i := 8) (.pointer (some (ade.add (m * 2 + 0 * 1)))) ha rfl (by kernel_rfl) (fun _ _ _ h => h) (by kernel_rfl) (fun w hS => (run_indexArr_at (kd := .i64) (i := m * 2) (z := 0) 0 rfl Try.underlying51 Try.sizeOf3 (by kernel_rfl) (by kernel_rfl) rfl (by first | assumption | omega) _)) hS ?_
            clear ha; intro a ha
            refine hd_val (i := 9) (.int .i64 q.1) ha rfl (by kernel_rfl) (fun _ _ _ h => h) (by kernel_rfl) (fun w hS => run_loadAt1 (i := m * 2 + 0 * 1) hS.1 rfl (by kernel_rfl) Try.isAgg3 (by rw [show m * 2 + 0 * 1 = m * 2 + 0 by omega, pcs_at hq (by omega)]; rfl)) hS ?_
            clear ha; intro a ha
            refine hd_val (i := 10) (.pointer (some ⟨g1, 0, none⟩)) ha rfl (by kernel_rfl) (fun _ _ _ h => h) (by kernel_rfl) (fun w hS => (by kernel_rfl)) hS ?_
            clear ha; intro a ha
            refine hd_val (i := 11) (.int .i64 v.waiter) ha rfl (by kernel_rfl) (fun _ _ _ h => h) (by kernel_rfl) (fun w hS => run_load1 (of_ := 0) hS.2.1 rfl (by kernel_rfl) Try.isAgg3 rfl) hS ?_
            clear ha; intro a ha
            refine hd_val (i := 12) (.bool (decide (q.1 < v.waiter))) ha rfl (by kernel_rfl) (fun _ _ _ h => h) (by kernel_rfl) (fun w hS => (by kernel_rfl)) hS ?_
            clear ha; intro a ha
            refine hd_val (i := 13) (.bool (decide (q.1 < v.waiter))) ha rfl (by kernel_rfl) (fun _ _ _ h => h) (by kernel_rfl) (fun w hS => (by kernel_rfl)) hS ?_
            clear ha; intro a ha
            rcases Bool.eq_false_or_eq_true (decide (q.1 < v.waiter)) with hb | hb
            · rw [hb] at ha; replace hb : (q.1 < v.waiter) := of_decide_eq_true hb
              skip
              refine hd_pass (i := 14) ha rfl (by kernel_rfl) (fun _ _ _ h => h) (by kernel_rfl) hS ?_
              clear ha; intro a ha
              refine hd_pass (i := 15) ha rfl (by kernel_rfl) (fun _ _ _ h => h) (by kernel_rfl) hS ?_
              clear ha; intro a ha
              refine hd_pass (i := 16) ha rfl (by kernel_rfl) (fun _ _ _ h => h) (by kernel_rfl) hS ?_
              clear ha; intro a ha
              refine hd_pass (i := 17) ha rfl (by kernel_rfl) (fun _ _ _ h => h) (by kernel_rfl) hS ?_
              clear ha; intro a ha
              refine hd_pass (i := 18) ha rfl (by kernel_rfl) (fun _ _ _ h => h) (by kernel_rfl) hS ?_
              clear ha; intro a ha
              refine hd_pass (i := 19) ha rfl (by kernel_rfl) (fun _ _ _ h => h) (by kernel_rfl) hS ?_
              clear ha; intro a ha
              refine hd_pass (i := 20) ha rfl (by kernel_rfl) (fun _ _ _ h => h) (by kernel_rfl) hS ?_
              clear ha; intro a ha
              refine hd_pass (i := 21) ha rfl (by kernel_rfl) (fun _ _ _ h => h) (by kernel_rfl) hS ?_
              clear ha; intro a ha
              refine hd_pass (i := 22) ha rfl (by kernel_rfl) (fun _ _ _ h => h) (by kernel_rfl) hS ?_
              clear ha; intro a ha
              refine hd_pass (i := 23) ha rfl (by kernel_rfl) (fun _ _ _ h => h) (by kernel_rfl) hS ?_
              clear ha; intro a ha
              refine hd_pass (i := 24) ha rfl (by kernel_rfl) (fun _ _ _ h => h) (by kernel_rfl) hS ?_
              clear ha; intro a ha
              refine hd_pass (i := 25) ha rfl (by kernel_rfl) (fun _ _ _ h => h) (by kernel_rfl) hS ?_
              clear ha; intro a ha
              refine hd_pass (i := 26) ha rfl (by kernel_rfl) (fun _ _ _ h => h) (by kernel_rfl) hS ?_
              clear ha; intro a ha
              refine hd_pass (i := 27) ha rfl (by kernel_rfl) (fun _ _ _ h => h) (by kernel_rfl) hS ?_
              clear ha; intro a ha
              refine hd_pass (i := 28) ha rfl (by kernel_rfl) (fun _ _ _ h => h) (by kernel_rfl) hS ?_
              clear ha; intro a ha
              refine hd_pass (i := 29) ha rfl (by kernel_rfl) (fun _ _ _ h => h) (by kernel_rfl) hS ?_
              clear ha; intro a ha
              refine Head.done (by kernel_rfl) ?_
              clear hS; simp only [List.drop_succ_cons, List.drop_zero]
              refine st_pass ha (by kernel_rfl) ?_
              clear ha; intro a ha
              refine st_pass ha (by kernel_rfl) ?_
              clear ha; intro a ha
              refine st_val (.bool true) ha (by kernel_rfl) (by kernel_rfl) ?_
              clear ha; intro a ha
              refine st_val (.bool true) ha (by kernel_rfl) (by kernel_rfl) ?_
              clear ha; intro a ha
              refine wpList_nil ?_
              refine then_normal ?_
              refine wp_true ha rfl (by kernel_rfl) ?_
              refine wp_skip ?_
              refine then_normal ?_
              refine wp_block ?_
              refine wp_region_lit ?_
              refine st_val (.int .i64 ((m : Nat) : Int)) ha (by kernel_rfl) (by kernel_rfl) ?_
              clear ha; intro a ha
              refine st_val (.int .i64 ((m + 1 : Nat) : Int)) ha (by kernel_rfl) (run_arith (((m : Nat) : Int) + (1 : Int)) ((m + 1 : Nat) : Int) rfl (by kernel_rfl) (by kernel_rfl) (.inl ⟨rfl, rfl⟩) (by rw [wrap64_in (by omega)]; try omega) _) ?_
              clear ha; intro a ha
              refine st_val (.int .i64 ((m + 1 : Nat) : Int)) ha (by kernel_rfl) (by kernel_rfl) ?_
              clear ha; intro a ha
              refine wpList_nil ?_
              refine block_normal ?_
              refine then_normal ?_
              exact ⟨m + 1, by omega, (Has.cons ha (by kernel_rfl) (by kernel_rfl) (Has.cons ha (by kernel_rfl) (by kernel_rfl) (Has.cons ha (by kernel_rfl) (by kernel_rfl) (Has.cons ha (by kernel_rfl) (by kernel_rfl) (Has.cons ha (by kernel_rfl) (by kernel_rfl) (Has.nil ha)))))), s, by omega, snoc_lt hp.2 hq (by first | exact .inl hb | exact .inr ⟨hb3, hb⟩)⟩
            · rw [hb] at ha; replace hb : ¬ (q.1 < v.waiter) := of_decide_eq_false hb
              have hb2 := hb
              refine hd_val (i := 14) (.slice (some ade) e.length co) ha rfl (by kernel_rfl) (fun _ _ _ h => h) (by kernel_rfl) (fun w hS => (by kernel_rfl)) hS ?_
              clear ha; intro a ha
              refine hd_val (i := 15) (.int .i64 ((m : Nat) : Int)) ha rfl (by kernel_rfl) (fun _ _ _ h => h) (by kernel_rfl) (fun w hS => (by kernel_rfl)) hS ?_
              clear ha; intro a ha
              refine hd_val (i := 16) (.pointer (some (ade.add (m * 2)))) ha rfl (by kernel_rfl) (fun _ _ _ h => h) (by kernel_rfl) (fun w hS => (run_indexAddr' (kd := .i64) (i := ((m : Nat) : Int)) (n := e.length) (c := co) m rfl Try.underlying47 Try.sizeOf51 (by kernel_rfl) (by kernel_rfl) rfl (by first | assumption | omega) _)) hS ?_
              clear ha; intro a ha
              refine hd_val (i := 17) (.pointer (some (ade.add (m * 2 + 0 * 1)))) ha rfl (by kernel_rfl) (fun _ _ _ h => h) (by kernel_rfl) (fun w hS => (run_indexArr_at (kd := .i64) (i := m * 2) (z := 0) 0 rfl Try.underlying51 Try.sizeOf3 (by kernel_rfl) (by kernel_rfl) rfl (by first | assumption | omega) _)) hS ?_
              clear ha; intro a ha
              refine hd_val (i := 18) (.int .i64 q.1) ha rfl (by kernel_rfl) (fun _ _ _ h => h) (by kernel_rfl) (fun w hS => run_loadAt1 (i := m * 2 + 0 * 1) hS.1 rfl (by kernel_rfl) Try.isAgg3 (by rw [show m * 2 + 0 * 1 = m * 2 + 0 by omega, pcs_at hq (by omega)]; rfl)) hS ?_
              clear ha; intro a ha
              refine hd_val (i := 19) (.pointer (some ⟨g1, 0, none⟩)) ha rfl (by kernel_rfl) (fun _ _ _ h => h) (by kernel_rfl) (fun w hS => (by kernel_rfl)) hS ?_
              clear ha; intro a ha
              refine hd_val (i := 20) (.int .i64 v.waiter) ha rfl (by kernel_rfl) (fun _ _ _ h => h) (by kernel_rfl) (fun w hS => run_load1 (of_ := 0) hS.2.1 rfl (by kernel_rfl) Try.isAgg3 rfl) hS ?_
              clear ha; intro a ha
              refine hd_val (i := 21) (.bool (q.1 == v.waiter)) ha rfl (by kernel_rfl) (fun _ _ _ h => h) (by kernel_rfl) (fun w hS => (by kernel_rfl)) hS ?_
              clear ha; intro a ha
              refine hd_val (i := 22) (.bool (q.1 == v.waiter)) ha rfl (by kernel_rfl) (fun _ _ _ h => h) (by kernel_rfl) (fun w hS => (by kernel_rfl)) hS ?_
              clear ha; intro a ha
              rcases Bool.eq_false_or_eq_true (q.1 == v.waiter) with hb | hb
              · rw [hb] at ha; have hb_ := hb; replace hb := eq_of_beq hb
                have hb3 := hb
                refine hd_val (i := 23) (.slice (some ade) e.length co) ha rfl (by kernel_rfl) (fun _ _ _ h => h) (by kernel_rfl) (fun w hS => (by kernel_rfl)) hS ?_
                clear ha; intro a ha
                refine hd_val (i := 24) (.int .i64 ((m : Nat) : Int)) ha rfl (by kernel_rfl) (fun _ _ _ h => h) (by kernel_rfl) (fun w hS => (by kernel_rfl)) hS ?_
                clear ha; intro a ha
                refine hd_val (i := 25) (.pointer (some (ade.add (m * 2)))) ha rfl (by kernel_rfl) (fun _ _ _ h => h) (by kernel_rfl) (fun w hS => (run_indexAddr' (kd := .i64) (i := ((m : Nat) : Int)) (n := e.length) (c := co) m rfl Try.underlying47 Try.sizeOf51 (by kernel_rfl) (by kernel_rfl) rfl (by first | assumption | omega) _)) hS ?_
                clear ha; intro a ha
                refine hd_val (i := 26) (.pointer (some (ade.add (m * 2 + 1 * 1)))) ha rfl (by kernel_rfl) (fun _ _ _ h => h) (by kernel_rfl) (fun w hS => (run_indexArr_at (kd := .i64) (i := m * 2) (z := 1) 1 rfl Try.underlying51 Try.sizeOf3 (by kernel_rfl) (by kernel_rfl) rfl (by first | assumption | omega) _)) hS ?_
                clear ha; intro a ha
                refine hd_val (i := 27) (.int .i64 q.2) ha rfl (by kernel_rfl) (fun _ _ _ h => h) (by kernel_rfl) (fun w hS => run_loadAt1 (i := m * 2 + 1 * 1) hS.1 rfl (by kernel_rfl) Try.isAgg3 (by rw [show m * 2 + 1 * 1 = m * 2 + 1 by omega, pcs_at hq (by omega)]; rfl)) hS ?_
                clear ha; intro a ha
                refine hd_val (i := 28) (.pointer (some ⟨g1, 1, none⟩)) ha rfl (by kernel_rfl) (fun _ _ _ h => h) (by kernel_rfl) (fun w hS => (by kernel_rfl)) hS ?_
                clear ha; intro a ha
                refine hd_val (i := 29) (.int .i64 v.holder) ha rfl (by kernel_rfl) (fun _ _ _ h => h) (by kernel_rfl) (fun w hS => run_load1 (of_ := 1) hS.2.1 rfl (by kernel_rfl) Try.isAgg3 rfl) hS ?_
                clear ha; intro a ha
                refine Head.done (by kernel_rfl) ?_
                clear hS; simp only [List.drop_succ_cons, List.drop_zero]
                refine st_val (.bool (decide (q.2 < v.holder))) ha (by kernel_rfl) (by kernel_rfl) ?_
                clear ha; intro a ha
                refine st_val (.bool (decide (q.2 < v.holder))) ha (by kernel_rfl) (by kernel_rfl) ?_
                clear ha; intro a ha
                refine st_val (.bool (decide (q.2 < v.holder))) ha (by kernel_rfl) (by kernel_rfl) ?_
                clear ha; intro a ha
                refine st_val (.bool (decide (q.2 < v.holder))) ha (by kernel_rfl) (by kernel_rfl) ?_
                clear ha; intro a ha
                refine wpList_nil ?_
                refine then_normal ?_
                refine wp_part (decide (q.2 < v.holder)) ha rfl (by kernel_rfl) (fun hb => ?_) (fun hb => ?_)
                · rw [hb] at ha; replace hb : (q.2 < v.holder) := of_decide_eq_true hb
                  skip
                  refine wp_skip ?_
                  refine then_normal ?_
                  refine wp_block ?_
                  refine wp_region_lit ?_
                  refine st_val (.int .i64 ((m : Nat) : Int)) ha (by kernel_rfl) (by kernel_rfl) ?_
                  clear ha; intro a ha
                  refine st_val (.int .i64 ((m + 1 : Nat) : Int)) ha (by kernel_rfl) (run_arith (((m : Nat) : Int) + (1 : Int)) ((m + 1 : Nat) : Int) rfl (by kernel_rfl) (by kernel_rfl) (.inl ⟨rfl, rfl⟩) (by rw [wrap64_in (by omega)]; try omega) _) ?_
                  clear ha; intro a ha
                  refine st_val (.int .i64 ((m + 1 : Nat) : Int)) ha (by kernel_rfl) (by kernel_rfl) ?_
                  clear ha; intro a ha
                  refine wpList_nil ?_
                  refine block_normal ?_
                  refine then_normal ?_
                  exact ⟨m + 1, by omega, (Has.cons ha (by kernel_rfl) (by kernel_rfl) (Has.cons ha (by kernel_rfl) (by kernel_rfl) (Has.cons ha (by kernel_rfl) (by kernel_rfl) (Has.cons ha (by kernel_rfl) (by kernel_rfl) (Has.cons ha (by kernel_rfl) (by kernel_rfl) (Has.nil ha)))))), s, by omega, snoc_lt hp.2 hq (by first | exact .inl hb | exact .inr ⟨hb3, hb⟩)⟩
                · rw [hb] at ha; replace hb : ¬ (q.2 < v.holder) := of_decide_eq_false hb
                  have hge : ∀ x, e[m]? = some x → ¬ ltP x (pr v) := fun x hx => by rw [hq] at hx; cases hx; unfold ltP pr; simp only; omega
                  refine wp_exit ?_
                  refine then_exit ?_
                  refine then_exit ?_
                  refine block_hit ?_
                  refine then_normal ?_
                  refine wp_seq ?_
                  refine wp_seq ?_
                  refine wp_region_head 10 (fun w => Reads w 2 (some ade) e.length (pcs e) ∧ BlkIs g1 [.int .i64 v.waiter, .int .i64 v.holder] w ∧ True) (by kernel_rfl) (by decide) ?_
                  replace s := s.drew; generalize _root_.Go.World.drew _ = w at s ⊢
                  have hS : (fun w => Reads w 2 (some ade) e.length (pcs e) ∧ BlkIs g1 [.int .i64 v.waiter, .int .i64 v.holder] w ∧ True) w := ⟨(Own.reads (s.at_ (j := 1) rfl).1), s.blkIs 0 rfl, trivial⟩
                  refine hd_val (i := 0) (.int .i64 ((m : Nat) : Int)) ha rfl (by kernel_rfl) (fun _ _ _ h => h) (by kernel_rfl) (fun w hS => (by kernel_rfl)) hS ?_
                  clear ha; intro a ha
                  refine hd_val (i := 1) (.slice (some ade) e.length co) ha rfl (by kernel_rfl) (fun _ _ _ h => h) (by kernel_rfl) (fun w hS => (by kernel_rfl)) hS ?_
                  clear ha; intro a ha
                  refine hd_val (i := 2) (.int .i64 ((e.length : Nat) : Int)) ha rfl (by kernel_rfl) (fun _ _ _ h => h) (by kernel_rfl) (fun w hS => (by kernel_rfl)) hS ?_
                  clear ha; intro a ha
                  refine hd_val (i := 3) (.bool true) ha rfl (by kernel_rfl) (fun _ _ _ h => h) (by kernel_rfl) (fun w hS => (run_known (show (decide (((m : Nat) : Int) < ((e.length : Nat) : Int))) = true from decide_eq_true (by omega)) (by kernel_rfl))) hS ?_
                  clear ha; intro a ha
                  refine hd_val (i := 4) (.bool true) ha rfl (by kernel_rfl) (fun _ _ _ h => h) (by kernel_rfl) (fun w hS => (by kernel_rfl)) hS ?_
                  clear ha; intro a ha
                  refine hd_val (i := 5) (.slice (some ade) e.length co) ha rfl (by kernel_rfl) (fun _ _ _ h => h) (by kernel_rfl) (fun w hS => (by kernel_rfl)) hS ?_
                  clear ha; intro a ha
                  refine hd_val (i := 6) (.int .i64 ((m : Nat) : Int)) ha rfl (by kernel_rfl) (fun _ _ _ h => h) (by kernel_rfl) (fun w hS => (by kernel_rfl)) hS ?_
                  clear ha; intro a ha
                  refine hd_val (i := 7) (.pointer (some (ade.add (m * 2)))) ha rfl (by kernel_rfl) (fun _ _ _ h => h) (by kernel_rfl) (fun w hS => (run_indexAddr' (kd := .i64) (i := ((m : Nat) : Int)) (n := e.length) (c := co) m rfl Try.underlying47 Try.sizeOf51 (by kernel_rfl) (by kernel_rfl) rfl (by first | assumption | omega) _)) hS ?_
                  clear ha; intro a ha
                  refine hd_val (i := 8) (.agg #[.int .i64 q.1, .int .i64 q.2]) ha rfl (by kernel_rfl) (fun _ _ _ h => h) (by kernel_rfl) (fun w hS => run_loadAtN (i := m * 2) [.int .i64 q.1, .int .i64 q.2] hS.1 rfl (by kernel_rfl) Try.isAgg51 Try.sizeOf51 (fun q_ hq_ => pcs_at hq hq_) rfl) hS ?_
                  clear ha; intro a ha
                  refine hd_val (i := 9) (.agg #[.int .i64 v.waiter, .int .i64 v.holder]) ha rfl (by kernel_rfl) (fun _ _ _ h => h) (by kernel_rfl) (fun w hS => run_loadN (of_ := 0) [.int .i64 v.waiter, .int .i64 v.holder] hS.2.1 rfl (by kernel_rfl) Try.isAgg51 Try.sizeOf51 rfl (Nat.le_of_ble_eq_true rfl)) hS ?_
                  clear ha; intro a ha
                  refine Head.done (by kernel_rfl) ?_
                  clear hS; simp only [List.drop_succ_cons, List.drop_zero]
                  refine st_val (.bool (decide (q = pr v))) ha (by kernel_rfl) (run_pr (x := q) (y := (pr v)) (.inl rfl) rfl (by kernel_rfl) (by kernel_rfl) _) ?_
                  clear ha; intro a ha
                  refine st_val (.bool (decide (q = pr v))) ha (by kernel_rfl) (by kernel_rfl) ?_
                  clear ha; intro a ha
                  refine wpList_nil ?_
                  refine then_normal ?_
                  refine wp_part (decide (q = pr v)) ha rfl (by kernel_rfl) (fun hb => ?_) (fun hb => ?_)
                  · rw [hb] at ha; replace hb : (q = pr v) := of_decide_eq_true hb
                    skip
                    refine wp_exit ?_
                    refine then_exit ?_
                    refine block_hit ?_
                    refine then_normal ?_
                    refine wp_region_lit ?_
                    refine st_val (.int .i64 ((k : Nat) : Int)) ha (by kernel_rfl) (by kernel_rfl) ?_
                    clear ha; intro a ha
                    refine st_val (.int .i64 ((k + 1 : Nat) : Int)) ha (by kernel_rfl) (run_arith (((k : Nat) : Int) + (1 : Int)) ((k + 1 : Nat) : Int) rfl (by kernel_rfl) (by kernel_rfl) (.inl ⟨rfl, rfl⟩) (by rw [wrap64_in (by omega)]; try omega) _) ?_
                    clear ha; intro a ha
                    refine st_val (.int .i64 ((k + 1 : Nat) : Int)) ha (by kernel_rfl) (by kernel_rfl) ?_
                    clear ha; intro a ha
                    refine wpList_nil ?_
                    refine then_normal ?_
                    replace s := s.at_ (j := 3) rfl
                    replace s : St W (Own 34 4 (some ad) n c (ws l) :: .blk g1 [.int .i64 v.waiter, .int .i64 v.holder] 51 :: Own 51 2 (some ade) e.length co (pcs e) :: .blk g [.slice (some ad) n c] 64 :: L) w := s
                    replace s := s.at_ (j := 3) rfl
                    replace s : St W (.blk g [.slice (some ad) n c] 64 :: Own 34 4 (some ad) n c (ws l) :: .blk g1 [.int .i64 v.waiter, .int .i64 v.holder] 51 :: Own 51 2 (some ade) e.length co (pcs e) :: L) w := s
                    replace s := s.at_ (j := 3) rfl
                    replace s : St W (Own 51 2 (some ade) e.length co (pcs e) :: .blk g [.slice (some ad) n c] 64 :: Own 34 4 (some ad) n c (ws l) :: .blk g1 [.int .i64 v.waiter, .int .i64 v.holder] 51 :: L) w := s
                    replace s : St W (Own 51 2 (some ade) e.length co (pcs e) :: .blk g [.slice (some ad) n c] 64 :: Own 34 4 (some ad) n c (ws l) :: L) w := St.mid (A := [Own 51 2 (some ade) e.length co (pcs e), .blk g [.slice (some ad) n c] 64, Own 34 4 (some ad) n c (ws l)]) (B := [.blk g1 [.int .i64 v.waiter, .int .i64 v.holder] 51]) s
                    have hEO := EdgesOf.there (w := v) hpo.2.1 (by rw [← hb]; exact List.mem_of_getElem? hq)
                    rw [← take_snoc hv] at hEO
                    exact ⟨(k + 1, e, (some ade), co), (show n - (k + 1) < n - k by omega), (Has.cons ha (by kernel_rfl) (by kernel_rfl) (Has.cons ha (by kernel_rfl) (by kernel_rfl) (Has.cons ha (by kernel_rfl) (by kernel_rfl) (Has.nil ha)))), s, (show k + 1 ≤ n by omega), hEO, (show e.length ≤ k + 1 by omega)⟩
                  · rw [hb] at ha; replace hb : ¬ (q = pr v) := of_decide_eq_false hb
                    have hne : ∀ x, e[m]? = some x → x ≠ pr v := fun x hx => by rw [hq] at hx; cases hx; exact hb
                    refine wp_skip ?_
                    refine then_normal ?_
                    refine wp_seq ?_
                    refine wp_region_lit ?_
                    refine st_val (.slice none 0 0) ha (by kernel_rfl) (by kernel_rfl) ?_
                    clear ha; intro a ha
                    refine wpList_nil ?_
                    refine then_normal ?_
                    refine wp_seq ?_
                    refine wp_region_lit ?_
                    refine st_val (.slice none 0 0) ha (by kernel_rfl) (by kernel_rfl) ?_
                    clear ha; intro a ha
                    refine st_val (.slice (some ade) e.length co) ha (by kernel_rfl) (by kernel_rfl) ?_
                    clear ha; intro a ha
                    refine st_val (.int .i64 ((m : Nat) : Int)) ha (by kernel_rfl) (by kernel_rfl) ?_
                    clear ha; intro a ha
                    refine st_val (.slice (some ade) m co) ha (by kernel_rfl) (run_slice0 (n := e.length) (c := co) m co rfl Try.underlying47 Try.sizeOf51 (by kernel_rfl) (fun _ => rfl) bnd_none (bnd_some .i64 (by kernel_rfl)) bnd_none (by omega) (by omega) _) ?_
                    clear ha; intro a ha
                    replace s := Own.none_ (e := 51) (k := 2) none s
                    replace s : St W (Own 51 2 none 0 0 [] :: .blk g1 [.int .i64 v.waiter, .int .i64 v.holder] 51 :: Own 51 2 (some ade) e.length co (pcs e) :: .blk g [.slice (some ad) n c] 64 :: Own 34 4 (some ad) n c (ws l) :: L) w := s
                    refine st_ex ha (by kernel_rfl) (ex_append (m := m) (d' := co) elt47 (by decide) 0 (pcs (e.take m)) s rfl (by kernel_rfl) (by kernel_rfl) rfl (by rw [← pcs_take]; exact Reads.take (Own.reads (s.at_ (j := 2) rfl).1) (by omega)) (pcs_one _) (by simp only [maxLen]; omega) (by omega)) ?_
                    clear ha; rintro _ w a ⟨A9, c10, rfl, hA_, s⟩ ha
                    replace s : St W (Own 51 2 A9 (0 + m) c10 ([] ++ (pcs (e.take m))) :: .blk g1 [.int .i64 v.waiter, .int .i64 v.holder] 51 :: Own 51 2 (some ade) e.length co (pcs e) :: .blk g [.slice (some ad) n c] 64 :: Own 34 4 (some ad) n c (ws l) :: L) w := s
                    refine st_val (.slice A9 (0 + m) c10) ha (by kernel_rfl) (by kernel_rfl) ?_
                    clear ha; intro a ha
                    refine wpList_nil ?_
                    refine then_normal ?_
                    refine wp_seq ?_
                    refine wp_region_lit ?_
                    refine st_val (.slice A9 (0 + m) c10) ha (by kernel_rfl) (by kernel_rfl) ?_
                    clear ha; intro a ha
                    refine st_val (.agg #[.int .i64 v.waiter, .int .i64 v.holder]) ha (by kernel_rfl) (run_loadN (of_ := 0) [.int .i64 v.waiter, .int .i64 v.holder] (s.blkIs 1 rfl) rfl (by kernel_rfl) Try.isAgg51 Try.sizeOf51 rfl (Nat.le_of_ble_eq_true rfl)) ?_
                    clear ha; intro a ha
                    refine st_ex ha (by kernel_rfl) (ex_buildSlice elt47 _ zs47 [.int .i64 v.waiter, .int .i64 v.holder] s rfl (by kernel_rfl) (by decide)) ?_
                    clear ha; rintro _ w a ⟨g11, rfl, s⟩ ha
                    replace s : St W (.blk g11 [.int .i64 v.waiter, .int .i64 v.holder] 51 :: Own 51 2 A9 (0 + m) c10 ([] ++ (pcs (e.take m))) :: .blk g1 [.int .i64 v.waiter, .int .i64 v.holder] 51 :: Own 51 2 (some ade) e.length co (pcs e) :: .blk g [.slice (some ad) n c] 64 :: Own 34 4 (some ad) n c (ws l) :: L) w := s
                    refine st_ex ha (by kernel_rfl) (ex_append (m := 1) (d' := 1) elt47 (by decide) 1 [.int .i64 v.waiter, .int .i64 v.holder] s rfl (by kernel_rfl) (by kernel_rfl) rfl (reads_blk (s.blkIs 0 rfl) rfl) (by simp [Value.oneCell']) (by simp only [maxLen]; omega) (by omega)) ?_
                    clear ha; rintro _ w a ⟨A12, c13, rfl, hA_, s⟩ ha
                    replace s : St W (.blk g11 [.int .i64 v.waiter, .int .i64 v.holder] 51 :: Own 51 2 A12 (0 + m + 1) c13 (([] ++ (pcs (e.take m))) ++ [.int .i64 v.waiter, .int .i64 v.holder]) :: .blk g1 [.int .i64 v.waiter, .int .i64 v.holder] 51 :: Own 51 2 (some ade) e.length co (pcs e) :: .blk g [.slice (some ad) n c] 64 :: Own 34 4 (some ad) n c (ws l) :: L) w := s
                    refine st_val (.slice A12 (0 + m + 1) c13) ha (by kernel_rfl) (by kernel_rfl) ?_
                    clear ha; intro a ha
                    refine wpList_nil ?_
                    refine then_normal ?_
                    refine wp_region_lit ?_
                    refine st_val (.slice A12 (0 + m + 1) c13) ha (by kernel_rfl) (by kernel_rfl) ?_
                    clear ha; intro a ha
                    refine st_val (.slice (some ade) e.length co) ha (by kernel_rfl) (by kernel_rfl) ?_
                    clear ha; intro a ha
                    refine st_val (.int .i64 ((m : Nat) : Int)) ha (by kernel_rfl) (by kernel_rfl) ?_
                    clear ha; intro a ha
                    refine st_val (.slice (slA (some ade) m co 2) (e.length - m) (co - m)) ha (by kernel_rfl) (run_slice (n := e.length) (c := co) m e.length co rfl Try.underlying47 Try.sizeOf51 (by kernel_rfl) (fun h => by cases h) bnd_none bnd_none (bnd_some .i64 (by kernel_rfl)) (by omega) (by omega) (by omega) _) ?_
                    clear ha; intro a ha
                    refine st_ex ha (by kernel_rfl) (ex_append (m := (e.length - m)) (d' := (co - m)) elt47 (by decide) 1 (pcs (e.drop m)) s rfl (by kernel_rfl) (by kernel_rfl) rfl (by rw [← pcs_drop]; exact Reads.sub (Own.reads (s.at_ (j := 3) rfl).1) (by omega) (by omega) hec) (pcs_one _) (by simp only [maxLen]; omega) (by omega)) ?_
                    clear ha; rintro _ w a ⟨A14, c15, rfl, hA_, s⟩ ha
                    replace s : St W (.blk g11 [.int .i64 v.waiter, .int .i64 v.holder] 51 :: Own 51 2 A14 (0 + m + 1 + (e.length - m)) c15 ((([] ++ (pcs (e.take m))) ++ [.int .i64 v.waiter, .int .i64 v.holder]) ++ (pcs (e.drop m))) :: .blk g1 [.int .i64 v.waiter, .int .i64 v.holder] 51 :: Own 51 2 (some ade) e.length co (pcs e) :: .blk g [.slice (some ad) n c] 64 :: Own 34 4 (some ad) n c (ws l) :: L) w := s
                    refine st_val (.slice A14 (0 + m + 1 + (e.length - m)) c15) ha (by kernel_rfl) (by kernel_rfl) ?_
                    clear ha; intro a ha
                    refine wpList_nil ?_
                    refine block_normal ?_
                    refine then_normal ?_
                    refine wp_region_lit ?_
                    refine st_val (.int .i64 ((k : Nat) : Int)) ha (by kernel_rfl) (by kernel_rfl) ?_
                    clear ha; intro a ha
                    refine st_val (.int .i64 ((k + 1 : Nat) : Int)) ha (by kernel_rfl) (run_arith (((k : Nat) : Int) + (1 : Int)) ((k + 1 : Nat) : Int) rfl (by kernel_rfl) (by kernel_rfl) (.inl ⟨rfl, rfl⟩) (by rw [wrap64_in (by omega)]; try omega) _) ?_
                    clear ha; intro a ha
                    refine st_val (.int .i64 ((k + 1 : Nat) : Int)) ha (by kernel_rfl) (by kernel_rfl) ?_
                    clear ha; intro a ha
                    refine wpList_nil ?_
                    refine then_normal ?_
                    replace s := s.at_ (j := 5) rfl
                    replace s : St W (Own 34 4 (some ad) n c (ws l) :: .blk g11 [.int .i64 v.waiter, .int .i64 v.holder] 51 :: Own 51 2 A14 (0 + m + 1 + (e.length - m)) c15 ((([] ++ (pcs (e.take m))) ++ [.int .i64 v.waiter, .int .i64 v.holder]) ++ (pcs (e.drop m))) :: .blk g1 [.int .i64 v.waiter, .int .i64 v.holder] 51 :: Own 51 2 (some ade) e.length co (pcs e) :: .blk g [.slice (some ad) n c] 64 :: L) w := s
                    replace s := s.at_ (j := 5) rfl
                    replace s : St W (.blk g [.slice (some ad) n c] 64 :: Own 34 4 (some ad) n c (ws l) :: .blk g11 [.int .i64 v.waiter, .int .i64 v.holder] 51 :: Own 51 2 A14 (0 + m + 1 + (e.length - m)) c15 ((([] ++ (pcs (e.take m))) ++ [.int .i64 v.waiter, .int .i64 v.holder]) ++ (pcs (e.drop m))) :: .blk g1 [.int .i64 v.waiter, .int .i64 v.holder] 51 :: Own 51 2 (some ade) e.length co (pcs e) :: L) w := s
                    replace s := s.at_ (j := 3) rfl
                    replace s : St W (Own 51 2 A14 (0 + m + 1 + (e.length - m)) c15 ((([] ++ (pcs (e.take m))) ++ [.int .i64 v.waiter, .int .i64 v.holder]) ++ (pcs (e.drop m))) :: .blk g [.slice (some ad) n c] 64 :: Own 34 4 (some ad) n c (ws l) :: .blk g11 [.int .i64 v.waiter, .int .i64 v.holder] 51 :: .blk g1 [.int .i64 v.waiter, .int .i64 v.holder] 51 :: Own 51 2 (some ade) e.length co (pcs e) :: L) w := s
                    replace s : St W (Own 51 2 A14 (0 + m + 1 + (e.length - m)) c15 ((([] ++ (pcs (e.take m))) ++ [.int .i64 v.waiter, .int .i64 v.holder]) ++ (pcs (e.drop m))) :: .blk g [.slice (some ad) n c] 64 :: Own 34 4 (some ad) n c (ws l) :: L) w := St.mid (A := [Own 51 2 A14 (0 + m + 1 + (e.length - m)) c15 ((([] ++ (pcs (e.take m))) ++ [.int .i64 v.waiter, .int .i64 v.holder]) ++ (pcs (e.drop m))), .blk g [.slice (some ad) n c] 64, Own 34 4 (some ad) n c (ws l)]) (B := [.blk g11 [.int .i64 v.waiter, .int .i64 v.holder] 51, .blk g1 [.int .i64 v.waiter, .int .i64 v.holder] 51, Own 51 2 (some ade) e.length co (pcs e)]) s
                    have hmE : 0 + m + 1 + (e.length - m) = (e.take m ++ [pr v] ++ e.drop m).length := by rw [List.length_append, List.length_append, List.length_take, List.length_drop, List.length_singleton]; omega
                    replace s : St W (Own 51 2 A14 ((e.take m ++ [pr v] ++ e.drop m).length) c15 (pcs (e.take m ++ [pr v] ++ e.drop m)) :: .blk g [.slice (some ad) n c] 64 :: Own 34 4 (some ad) n c (ws l) :: L) w := by rw [← hmE, pcs_append, pcs_append]; exact s
                    have hEO := EdgesOf.put (w := v) (n := m) hpo.2.1 hp.2 hge hne (by omega)
                    rw [← take_snoc hv] at hEO
                    exact ⟨(k + 1, (e.take m ++ [pr v] ++ e.drop m), A14, c15), (show n - (k + 1) < n - k by omega), (Has.cons ha (by kernel_rfl) (by kernel_rfl) (Has.cons ha (by kernel_rfl) (by rw [← hmE]; rfl) (Has.cons ha (by kernel_rfl) (by kernel_rfl) (Has.nil ha)))), s, (show k + 1 ≤ n by omega), hEO, (show (e.take m ++ [pr v] ++ e.drop m).length ≤ k + 1 by rw [← hmE]; omega)⟩
              · rw [hb] at ha; have hb_ := hb; replace hb := ne_of_beq_false hb
                have hge : ∀ x, e[m]? = some x → ¬ ltP x (pr v) := fun x hx => by rw [hq] at hx; cases hx; unfold ltP pr; simp only; omega
                refine hd_pass (i := 23) ha rfl (by kernel_rfl) (fun _ _ _ h => h) (by kernel_rfl) hS ?_
                clear ha; intro a ha
                refine hd_pass (i := 24) ha rfl (by kernel_rfl) (fun _ _ _ h => h) (by kernel_rfl) hS ?_
                clear ha; intro a ha
                refine hd_pass (i := 25) ha rfl (by kernel_rfl) (fun _ _ _ h => h) (by kernel_rfl) hS ?_
                clear ha; intro a ha
                refine hd_pass (i := 26) ha rfl (by kernel_rfl) (fun _ _ _ h => h) (by kernel_rfl) hS ?_
                clear ha; intro a ha
                refine hd_pass (i := 27) ha rfl (by kernel_rfl) (fun _ _ _ h => h) (by kernel_rfl) hS ?_
                clear ha; intro a ha
                refine hd_pass (i := 28) ha rfl (by kernel_rfl) (fun _ _ _ h => h) (by kernel_rfl) hS ?_
                clear ha; intro a ha
                refine hd_pass (i := 29) ha rfl (by kernel_rfl) (fun _ _ _ h => h) (by kernel_rfl) hS ?_
                clear ha; intro a ha
                refine Head.done (by kernel_rfl) ?_
                clear hS; simp only [List.drop_succ_cons, List.drop_zero]
                refine st_pass ha (by kernel_rfl) ?_
                clear ha; intro a ha
                refine st_val (.bool false) ha (by kernel_rfl) (by kernel_rfl) ?_
                clear ha; intro a ha
                refine st_val (.bool false) ha (by kernel_rfl) (by kernel_rfl) ?_
                clear ha; intro a ha
                refine st_val (.bool false) ha (by kernel_rfl) (by kernel_rfl) ?_
                clear ha; intro a ha
                refine wpList_nil ?_
                refine then_normal ?_
                refine wp_false ha rfl (by kernel_rfl) ?_
                refine wp_exit ?_
                refine then_exit ?_
                refine then_exit ?_
                refine block_hit ?_
                refine then_normal ?_
                refine wp_seq ?_
                refine wp_seq ?_
                refine wp_region_head 10 (fun w => Reads w 2 (some ade) e.length (pcs e) ∧ BlkIs g1 [.int .i64 v.waiter, .int .i64 v.holder] w ∧ True) (by kernel_rfl) (by decide) ?_
                replace s := s.drew; generalize _root_.Go.World.drew _ = w at s ⊢
                have hS : (fun w => Reads w 2 (some ade) e.length (pcs e) ∧ BlkIs g1 [.int .i64 v.waiter, .int .i64 v.holder] w ∧ True) w := ⟨(Own.reads (s.at_ (j := 1) rfl).1), s.blkIs 0 rfl, trivial⟩
                refine hd_val (i := 0) (.int .i64 ((m : Nat) : Int)) ha rfl (by kernel_rfl) (fun _ _ _ h => h) (by kernel_rfl) (fun w hS => (by kernel_rfl)) hS ?_
                clear ha; intro a ha
                refine hd_val (i := 1) (.slice (some ade) e.length co) ha rfl (by kernel_rfl) (fun _ _ _ h => h) (by kernel_rfl) (fun w hS => (by kernel_rfl)) hS ?_
                clear ha; intro a ha
                refine hd_val (i := 2) (.int .i64 ((e.length : Nat) : Int)) ha rfl (by kernel_rfl) (fun _ _ _ h => h) (by kernel_rfl) (fun w hS => (by kernel_rfl)) hS ?_
                clear ha; intro a ha
                refine hd_val (i := 3) (.bool true) ha rfl (by kernel_rfl) (fun _ _ _ h => h) (by kernel_rfl) (fun w hS => (run_known (show (decide (((m : Nat) : Int) < ((e.length : Nat) : Int))) = true from decide_eq_true (by omega)) (by kernel_rfl))) hS ?_
                clear ha; intro a ha
                refine hd_val (i := 4) (.bool true) ha rfl (by kernel_rfl) (fun _ _ _ h => h) (by kernel_rfl) (fun w hS => (by kernel_rfl)) hS ?_
                clear ha; intro a ha
                refine hd_val (i := 5) (.slice (some ade) e.length co) ha rfl (by kernel_rfl) (fun _ _ _ h => h) (by kernel_rfl) (fun w hS => (by kernel_rfl)) hS ?_
                clear ha; intro a ha
                refine hd_val (i := 6) (.int .i64 ((m : Nat) : Int)) ha rfl (by kernel_rfl) (fun _ _ _ h => h) (by kernel_rfl) (fun w hS => (by kernel_rfl)) hS ?_
                clear ha; intro a ha
                refine hd_val (i := 7) (.pointer (some (ade.add (m * 2)))) ha rfl (by kernel_rfl) (fun _ _ _ h => h) (by kernel_rfl) (fun w hS => (run_indexAddr' (kd := .i64) (i := ((m : Nat) : Int)) (n := e.length) (c := co) m rfl Try.underlying47 Try.sizeOf51 (by kernel_rfl) (by kernel_rfl) rfl (by first | assumption | omega) _)) hS ?_
                clear ha; intro a ha
                refine hd_val (i := 8) (.agg #[.int .i64 q.1, .int .i64 q.2]) ha rfl (by kernel_rfl) (fun _ _ _ h => h) (by kernel_rfl) (fun w hS => run_loadAtN (i := m * 2) [.int .i64 q.1, .int .i64 q.2] hS.1 rfl (by kernel_rfl) Try.isAgg51 Try.sizeOf51 (fun q_ hq_ => pcs_at hq hq_) rfl) hS ?_
                clear ha; intro a ha
                refine hd_val (i := 9) (.agg #[.int .i64 v.waiter, .int .i64 v.holder]) ha rfl (by kernel_rfl) (fun _ _ _ h => h) (by kernel_rfl) (fun w hS => run_loadN (of_ := 0) [.int .i64 v.waiter, .int .i64 v.holder] hS.2.1 rfl (by kernel_rfl) Try.isAgg51 Try.sizeOf51 rfl (Nat.le_of_ble_eq_true rfl)) hS ?_
                clear ha; intro a ha
                refine Head.done (by kernel_rfl) ?_
                clear hS; simp only [List.drop_succ_cons, List.drop_zero]
                refine st_val (.bool (decide (q = pr v))) ha (by kernel_rfl) (run_pr (x := q) (y := (pr v)) (.inl rfl) rfl (by kernel_rfl) (by kernel_rfl) _) ?_
                clear ha; intro a ha
                refine st_val (.bool (decide (q = pr v))) ha (by kernel_rfl) (by kernel_rfl) ?_
                clear ha; intro a ha
                refine wpList_nil ?_
                refine then_normal ?_
                refine wp_part (decide (q = pr v)) ha rfl (by kernel_rfl) (fun hb => ?_) (fun hb => ?_)
                · rw [hb] at ha; replace hb : (q = pr v) := of_decide_eq_true hb
                  skip
                  refine wp_exit ?_
                  refine then_exit ?_
                  refine block_hit ?_
                  refine then_normal ?_
                  refine wp_region_lit ?_
                  refine st_val (.int .i64 ((k : Nat) : Int)) ha (by kernel_rfl) (by kernel_rfl) ?_
                  clear ha; intro a ha
                  refine st_val (.int .i64 ((k + 1 : Nat) : Int)) ha (by kernel_rfl) (run_arith (((k : Nat) : Int) + (1 : Int)) ((k + 1 : Nat) : Int) rfl (by kernel_rfl) (by kernel_rfl) (.inl ⟨rfl, rfl⟩) (by rw [wrap64_in (by omega)]; try omega) _) ?_
                  clear ha; intro a ha
                  refine st_val (.int .i64 ((k + 1 : Nat) : Int)) ha (by kernel_rfl) (by kernel_rfl) ?_
                  clear ha; intro a ha
                  refine wpList_nil ?_
                  refine then_normal ?_
                  replace s := s.at_ (j := 3) rfl
                  replace s : St W (Own 34 4 (some ad) n c (ws l) :: .blk g1 [.int .i64 v.waiter, .int .i64 v.holder] 51 :: Own 51 2 (some ade) e.length co (pcs e) :: .blk g [.slice (some ad) n c] 64 :: L) w := s
                  replace s := s.at_ (j := 3) rfl
                  replace s : St W (.blk g [.slice (some ad) n c] 64 :: Own 34 4 (some ad) n c (ws l) :: .blk g1 [.int .i64 v.waiter, .int .i64 v.holder] 51 :: Own 51 2 (some ade) e.length co (pcs e) :: L) w := s
                  replace s := s.at_ (j := 3) rfl
                  replace s : St W (Own 51 2 (some ade) e.length co (pcs e) :: .blk g [.slice (some ad) n c] 64 :: Own 34 4 (some ad) n c (ws l) :: .blk g1 [.int .i64 v.waiter, .int .i64 v.holder] 51 :: L) w := s
                  replace s : St W (Own 51 2 (some ade) e.length co (pcs e) :: .blk g [.slice (some ad) n c] 64 :: Own 34 4 (some ad) n c (ws l) :: L) w := St.mid (A := [Own 51 2 (some ade) e.length co (pcs e), .blk g [.slice (some ad) n c] 64, Own 34 4 (some ad) n c (ws l)]) (B := [.blk g1 [.int .i64 v.waiter, .int .i64 v.holder] 51]) s
                  have hEO := EdgesOf.there (w := v) hpo.2.1 (by rw [← hb]; exact List.mem_of_getElem? hq)
                  rw [← take_snoc hv] at hEO
                  exact ⟨(k + 1, e, (some ade), co), (show n - (k + 1) < n - k by omega), (Has.cons ha (by kernel_rfl) (by kernel_rfl) (Has.cons ha (by kernel_rfl) (by kernel_rfl) (Has.cons ha (by kernel_rfl) (by kernel_rfl) (Has.nil ha)))), s, (show k + 1 ≤ n by omega), hEO, (show e.length ≤ k + 1 by omega)⟩
                · rw [hb] at ha; replace hb : ¬ (q = pr v) := of_decide_eq_false hb
                  have hne : ∀ x, e[m]? = some x → x ≠ pr v := fun x hx => by rw [hq] at hx; cases hx; exact hb
                  refine wp_skip ?_
                  refine then_normal ?_
                  refine wp_seq ?_
                  refine wp_region_lit ?_
                  refine st_val (.slice none 0 0) ha (by kernel_rfl) (by kernel_rfl) ?_
                  clear ha; intro a ha
                  refine wpList_nil ?_
                  refine then_normal ?_
                  refine wp_seq ?_
                  refine wp_region_lit ?_
                  refine st_val (.slice none 0 0) ha (by kernel_rfl) (by kernel_rfl) ?_
                  clear ha; intro a ha
                  refine st_val (.slice (some ade) e.length co) ha (by kernel_rfl) (by kernel_rfl) ?_
                  clear ha; intro a ha
                  refine st_val (.int .i64 ((m : Nat) : Int)) ha (by kernel_rfl) (by kernel_rfl) ?_
                  clear ha; intro a ha
                  refine st_val (.slice (some ade) m co) ha (by kernel_rfl) (run_slice0 (n := e.length) (c := co) m co rfl Try.underlying47 Try.sizeOf51 (by kernel_rfl) (fun _ => rfl) bnd_none (bnd_some .i64 (by kernel_rfl)) bnd_none (by omega) (by omega) _) ?_
                  clear ha; intro a ha
                  replace s := Own.none_ (e := 51) (k := 2) none s
                  replace s : St W (Own 51 2 none 0 0 [] :: .blk g1 [.int .i64 v.waiter, .int .i64 v.holder] 51 :: Own 51 2 (some ade) e.length co (pcs e) :: .blk g [.slice (some ad) n c] 64 :: Own 34 4 (some ad) n c (ws l) :: L) w := s
                  refine st_ex ha (by kernel_rfl) (ex_append (m := m) (d' := co) elt47 (by decide) 0 (pcs (e.take m)) s rfl (by kernel_rfl) (by kernel_rfl) rfl (by rw [← pcs_take]; exact Reads.take (Own.reads (s.at_ (j := 2) rfl).1) (by omega)) (pcs_one _) (by simp only [maxLen]; omega) (by omega)) ?_
                  clear ha; rintro _ w a ⟨A16, c17, rfl, hA_, s⟩ ha
                  replace s : St W (Own 51 2 A16 (0 + m) c17 ([] ++ (pcs (e.take m))) :: .blk g1 [.int .i64 v.waiter, .int .i64 v.holder] 51 :: Own 51 2 (some ade) e.length co (pcs e) :: .blk g [.slice (some ad) n c] 64 :: Own 34 4 (some ad) n c (ws l) :: L) w := s
                  refine st_val (.slice A16 (0 + m) c17) ha (by kernel_rfl) (by kernel_rfl) ?_
                  clear ha; intro a ha
                  refine wpList_nil ?_
                  refine then_normal ?_
                  refine wp_seq ?_
                  refine wp_region_lit ?_
                  refine st_val (.slice A16 (0 + m) c17) ha (by kernel_rfl) (by kernel_rfl) ?_
                  clear ha; intro a ha
                  refine st_val (.agg #[.int .i64 v.waiter, .int .i64 v.holder]) ha (by kernel_rfl) (run_loadN (of_ := 0) [.int .i64 v.waiter, .int .i64 v.holder] (s.blkIs 1 rfl) rfl (by kernel_rfl) Try.isAgg51 Try.sizeOf51 rfl (Nat.le_of_ble_eq_true rfl)) ?_
                  clear ha; intro a ha
                  refine st_ex ha (by kernel_rfl) (ex_buildSlice elt47 _ zs47 [.int .i64 v.waiter, .int .i64 v.holder] s rfl (by kernel_rfl) (by decide)) ?_
                  clear ha; rintro _ w a ⟨g18, rfl, s⟩ ha
                  replace s : St W (.blk g18 [.int .i64 v.waiter, .int .i64 v.holder] 51 :: Own 51 2 A16 (0 + m) c17 ([] ++ (pcs (e.take m))) :: .blk g1 [.int .i64 v.waiter, .int .i64 v.holder] 51 :: Own 51 2 (some ade) e.length co (pcs e) :: .blk g [.slice (some ad) n c] 64 :: Own 34 4 (some ad) n c (ws l) :: L) w := s
                  refine st_ex ha (by kernel_rfl) (ex_append (m := 1) (d' := 1) elt47 (by decide) 1 [.int .i64 v.waiter, .int .i64 v.holder] s rfl (by kernel_rfl) (by kernel_rfl) rfl (reads_blk (s.blkIs 0 rfl) rfl) (by simp [Value.oneCell']) (by simp only [maxLen]; omega) (by omega)) ?_
                  clear ha; rintro _ w a ⟨A19, c20, rfl, hA_, s⟩ ha
                  replace s : St W (.blk g18 [.int .i64 v.waiter, .int .i64 v.holder] 51 :: Own 51 2 A19 (0 + m + 1) c20 (([] ++ (pcs (e.take m))) ++ [.int .i64 v.waiter, .int .i64 v.holder]) :: .blk g1 [.int .i64 v.waiter, .int .i64 v.holder] 51 :: Own 51 2 (some ade) e.length co (pcs e) :: .blk g [.slice (some ad) n c] 64 :: Own 34 4 (some ad) n c (ws l) :: L) w := s
                  refine st_val (.slice A19 (0 + m + 1) c20) ha (by kernel_rfl) (by kernel_rfl) ?_
                  clear ha; intro a ha
                  refine wpList_nil ?_
                  refine then_normal ?_
                  refine wp_region_lit ?_
                  refine st_val (.slice A19 (0 + m + 1) c20) ha (by kernel_rfl) (by kernel_rfl) ?_
                  clear ha; intro a ha
                  refine st_val (.slice (some ade) e.length co) ha (by kernel_rfl) (by kernel_rfl) ?_
                  clear ha; intro a ha
                  refine st_val (.int .i64 ((m : Nat) : Int)) ha (by kernel_rfl) (by kernel_rfl) ?_
                  clear ha; intro a ha
                  refine st_val (.slice (slA (some ade) m co 2) (e.length - m) (co - m)) ha (by kernel_rfl) (run_slice (n := e.length) (c := co) m e.length co rfl Try.underlying47 Try.sizeOf51 (by kernel_rfl) (fun h => by cases h) bnd_none bnd_none (bnd_some .i64 (by kernel_rfl)) (by omega) (by omega) (by omega) _) ?_
                  clear ha; intro a ha
                  refine st_ex ha (by kernel_rfl) (ex_append (m := (e.length - m)) (d' := (co - m)) elt47 (by decide) 1 (pcs (e.drop m)) s rfl (by kernel_rfl) (by kernel_rfl) rfl (by rw [← pcs_drop]; exact Reads.sub (Own.reads (s.at_ (j := 3) rfl).1) (by omega) (by omega) hec) (pcs_one _) (by simp only [maxLen]; omega) (by omega)) ?_
                  clear ha; rintro _ w a ⟨A21, c22, rfl, hA_, s⟩ ha
                  replace s : St W (.blk g18 [.int .i64 v.waiter, .int .i64 v.holder] 51 :: Own 51 2 A21 (0 + m + 1 + (e.length - m)) c22 ((([] ++ (pcs (e.take m))) ++ [.int .i64 v.waiter, .int .i64 v.holder]) ++ (pcs (e.drop m))) :: .blk g1 [.int .i64 v.waiter, .int .i64 v.holder] 51 :: Own 51 2 (some ade) e.length co (pcs e) :: .blk g [.slice (some ad) n c] 64 :: Own 34 4 (some ad) n c (ws l) :: L) w := s
                  refine st_val (.slice A21 (0 + m + 1 + (e.length - m)) c22) ha (by kernel_rfl) (by kernel_rfl) ?_
                  clear ha; intro a ha
                  refine wpList_nil ?_
                  refine block_normal ?_
                  refine then_normal ?_
                  refine wp_region_lit ?_
                  refine st_val (.int .i64 ((k : Nat) : Int)) ha (by kernel_rfl) (by kernel_rfl) ?_
                  clear ha; intro a ha
                  refine st_val (.int .i64 ((k + 1 : Nat) : Int)) ha (by kernel_rfl) (run_arith (((k : Nat) : Int) + (1 : Int)) ((k + 1 : Nat) : Int) rfl (by kernel_rfl) (by kernel_rfl) (.inl ⟨rfl, rfl⟩) (by rw [wrap64_in (by omega)]; try omega) _) ?_
                  clear ha; intro a ha
                  refine st_val (.int .i64 ((k + 1 : Nat) : Int)) ha (by kernel_rfl) (by kernel_rfl) ?_
                  clear ha; intro a ha
                  refine wpList_nil ?_
                  refine then_normal ?_
                  replace s := s.at_ (j := 5) rfl
                  replace s : St W (Own 34 4 (some ad) n c (ws l) :: .blk g18 [.int .i64 v.waiter, .int .i64 v.holder] 51 :: Own 51 2 A21 (0 + m + 1 + (e.length - m)) c22 ((([] ++ (pcs (e.take m))) ++ [.int .i64 v.waiter, .int .i64 v.holder]) ++ (pcs (e.drop m))) :: .blk g1 [.int .i64 v.waiter, .int .i64 v.holder] 51 :: Own 51 2 (some ade) e.length co (pcs e) :: .blk g [.slice (some ad) n c] 64 :: L) w := s
                  replace s := s.at_ (j := 5) rfl
                  replace s : St W (.blk g [.slice (some ad) n c] 64 :: Own 34 4 (some ad) n c (ws l) :: .blk g18 [.int .i64 v.waiter, .int .i64 v.holder] 51 :: Own 51 2 A21 (0 + m + 1 + (e.length - m)) c22 ((([] ++ (pcs (e.take m))) ++ [.int .i64 v.waiter, .int .i64 v.holder]) ++ (pcs (e.drop m))) :: .blk g1 [.int .i64 v.waiter, .int .i64 v.holder] 51 :: Own 51 2 (some ade) e.length co (pcs e) :: L) w := s
                  replace s := s.at_ (j := 3) rfl
                  replace s : St W (Own 51 2 A21 (0 + m + 1 + (e.length - m)) c22 ((([] ++ (pcs (e.take m))) ++ [.int .i64 v.waiter, .int .i64 v.holder]) ++ (pcs (e.drop m))) :: .blk g [.slice (some ad) n c] 64 :: Own 34 4 (some ad) n c (ws l) :: .blk g18 [.int .i64 v.waiter, .int .i64 v.holder] 51 :: .blk g1 [.int .i64 v.waiter, .int .i64 v.holder] 51 :: Own 51 2 (some ade) e.length co (pcs e) :: L) w := s
                  replace s : St W (Own 51 2 A21 (0 + m + 1 + (e.length - m)) c22 ((([] ++ (pcs (e.take m))) ++ [.int .i64 v.waiter, .int .i64 v.holder]) ++ (pcs (e.drop m))) :: .blk g [.slice (some ad) n c] 64 :: Own 34 4 (some ad) n c (ws l) :: L) w := St.mid (A := [Own 51 2 A21 (0 + m + 1 + (e.length - m)) c22 ((([] ++ (pcs (e.take m))) ++ [.int .i64 v.waiter, .int .i64 v.holder]) ++ (pcs (e.drop m))), .blk g [.slice (some ad) n c] 64, Own 34 4 (some ad) n c (ws l)]) (B := [.blk g18 [.int .i64 v.waiter, .int .i64 v.holder] 51, .blk g1 [.int .i64 v.waiter, .int .i64 v.holder] 51, Own 51 2 (some ade) e.length co (pcs e)]) s
                  have hmE : 0 + m + 1 + (e.length - m) = (e.take m ++ [pr v] ++ e.drop m).length := by rw [List.length_append, List.length_append, List.length_take, List.length_drop, List.length_singleton]; omega
                  replace s : St W (Own 51 2 A21 ((e.take m ++ [pr v] ++ e.drop m).length) c22 (pcs (e.take m ++ [pr v] ++ e.drop m)) :: .blk g [.slice (some ad) n c] 64 :: Own 34 4 (some ad) n c (ws l) :: L) w := by rw [← hmE, pcs_append, pcs_append]; exact s
                  have hEO := EdgesOf.put (w := v) (n := m) hpo.2.1 hp.2 hge hne (by omega)
                  rw [← take_snoc hv] at hEO
                  exact ⟨(k + 1, (e.take m ++ [pr v] ++ e.drop m), A21, c22), (show n - (k + 1) < n - k by omega), (Has.cons ha (by kernel_rfl) (by kernel_rfl) (Has.cons ha (by kernel_rfl) (by rw [← hmE]; rfl) (Has.cons ha (by kernel_rfl) (by kernel_rfl) (Has.nil ha)))), s, (show k + 1 ≤ n by omega), hEO, (show (e.take m ++ [pr v] ++ e.drop m).length ≤ k + 1 by rw [← hmE]; omega)⟩
          · rw [hb] at ha; replace hb : ¬ (((m : Nat) : Int) < ((e.length : Nat) : Int)) := of_decide_eq_false hb
            have hml := hb
            have hge : ∀ x, e[m]? = some x → ¬ ltP x (pr v) := fun x hx => by have := (List.getElem?_eq_some_iff.1 hx).1; omega
            have hne : ∀ x, e[m]? = some x → x ≠ pr v := fun x hx => by have := (List.getElem?_eq_some_iff.1 hx).1; omega
            refine hd_pass (i := 5) ha rfl (by kernel_rfl) (fun _ _ _ h => h) (by kernel_rfl) hS ?_
            clear ha; intro a ha
            refine hd_pass (i := 6) ha rfl (by kernel_rfl) (fun _ _ _ h => h) (by kernel_rfl) hS ?_
            clear ha; intro a ha
            refine hd_pass (i := 7) ha rfl (by kernel_rfl) (fun _ _ _ h => h) (by kernel_rfl) hS ?_
            clear ha; intro a ha
            refine hd_pass (i := 8) ha rfl (by kernel_rfl) (fun _ _ _ h => h) (by kernel_rfl) hS ?_
            clear ha; intro a ha
            refine hd_pass (i := 9) ha rfl (by kernel_rfl) (fun _ _ _ h => h) (by kernel_rfl) hS ?_
            clear ha; intro a ha
            refine hd_pass (i := 10) ha rfl (by kernel_rfl) (fun _ _ _ h => h) (by kernel_rfl) hS ?_
            clear ha; intro a ha
            refine hd_pass (i := 11) ha rfl (by kernel_rfl) (fun _ _ _ h => h) (by kernel_rfl) hS ?_
            clear ha; intro a ha
            refine hd_pass (i := 12) ha rfl (by kernel_rfl) (fun _ _ _ h => h) (by kernel_rfl) hS ?_
            clear ha; intro a ha
            refine hd_pass (i := 13) ha rfl (by kernel_rfl) (fun _ _ _ h => h) (by kernel_rfl) hS ?_
            clear ha; intro a ha
            refine hd_pass (i := 14) ha rfl (by kernel_rfl) (fun _ _ _ h => h) (by kernel_rfl) hS ?_
            clear ha; intro a ha
            refine hd_pass (i := 15) ha rfl (by kernel_rfl) (fun _ _ _ h => h) (by kernel_rfl) hS ?_
            clear ha; intro a ha
            refine hd_pass (i := 16) ha rfl (by kernel_rfl) (fun _ _ _ h => h) (by kernel_rfl) hS ?_
            clear ha; intro a ha
            refine hd_pass (i := 17) ha rfl (by kernel_rfl) (fun _ _ _ h => h) (by kernel_rfl) hS ?_
            clear ha; intro a ha
            refine hd_pass (i := 18) ha rfl (by kernel_rfl) (fun _ _ _ h => h) (by kernel_rfl) hS ?_
            clear ha; intro a ha
            refine hd_pass (i := 19) ha rfl (by kernel_rfl) (fun _ _ _ h => h) (by kernel_rfl) hS ?_
            clear ha; intro a ha
            refine hd_pass (i := 20) ha rfl (by kernel_rfl) (fun _ _ _ h => h) (by kernel_rfl) hS ?_
            clear ha; intro a ha
            refine hd_pass (i := 21) ha rfl (by kernel_rfl) (fun _ _ _ h => h) (by kernel_rfl) hS ?_
            clear ha; intro a ha
            refine hd_pass (i := 22) ha rfl (by kernel_rfl) (fun _ _ _ h => h) (by kernel_rfl) hS ?_
            clear ha; intro a ha
            refine hd_pass (i := 23) ha rfl (by kernel_rfl) (fun _ _ _ h => h) (by kernel_rfl) hS ?_
            clear ha; intro a ha
            refine hd_pass (i := 24) ha rfl (by kernel_rfl) (fun _ _ _ h => h) (by kernel_rfl) hS ?_
            clear ha; intro a ha
            refine hd_pass (i := 25) ha rfl (by kernel_rfl) (fun _ _ _ h => h) (by kernel_rfl) hS ?_
            clear ha; intro a ha
            refine hd_pass (i := 26) ha rfl (by kernel_rfl) (fun _ _ _ h => h) (by kernel_rfl) hS ?_
            clear ha; intro a ha
            refine hd_pass (i := 27) ha rfl (by kernel_rfl) (fun _ _ _ h => h) (by kernel_rfl) hS ?_
            clear ha; intro a ha
            refine hd_pass (i := 28) ha rfl (by kernel_rfl) (fun _ _ _ h => h) (by kernel_rfl) hS ?_
            clear ha; intro a ha
            refine hd_pass (i := 29) ha rfl (by kernel_rfl) (fun _ _ _ h => h) (by kernel_rfl) hS ?_
            clear ha; intro a ha
            refine Head.done (by kernel_rfl) ?_
            clear hS; simp only [List.drop_succ_cons, List.drop_zero]
            refine st_pass ha (by kernel_rfl) ?_
            clear ha; intro a ha
            refine st_pass ha (by kernel_rfl) ?_
            clear ha; intro a ha
            refine st_pass ha (by kernel_rfl) ?_
            clear ha; intro a ha
            refine st_val (.bool false) ha (by kernel_rfl) (by kernel_rfl) ?_
            clear ha; intro a ha
            refine wpList_nil ?_
            refine then_normal ?_
            refine wp_false ha rfl (by kernel_rfl) ?_
            refine wp_exit ?_
            refine then_exit ?_
            refine then_exit ?_
            refine block_hit ?_
            refine then_normal ?_
            refine wp_seq ?_
            refine wp_seq ?_
            refine wp_region_head 10 (fun w => True) (by kernel_rfl) (by decide) ?_
            replace s := s.drew; generalize _root_.Go.World.drew _ = w at s ⊢
            have hS : (fun w => True) w := trivial
            refine hd_val (i := 0) (.int .i64 ((m : Nat) : Int)) ha rfl (by kernel_rfl) (fun _ _ _ h => h) (by kernel_rfl) (fun w hS => (by kernel_rfl)) hS ?_
            clear ha; intro a ha
            refine hd_val (i := 1) (.slice (some ade) e.length co) ha rfl (by kernel_rfl) (fun _ _ _ h => h) (by kernel_rfl) (fun w hS => (by kernel_rfl)) hS ?_
            clear ha; intro a ha
            refine hd_val (i := 2) (.int .i64 ((e.length : Nat) : Int)) ha rfl (by kernel_rfl) (fun _ _ _ h => h) (by kernel_rfl) (fun w hS => (by kernel_rfl)) hS ?_
            clear ha; intro a ha
            refine hd_val (i := 3) (.bool false) ha rfl (by kernel_rfl) (fun _ _ _ h => h) (by kernel_rfl) (fun w hS => (run_known (show (decide (((m : Nat) : Int) < ((e.length : Nat) : Int))) = false from decide_eq_false (by omega)) (by kernel_rfl))) hS ?_
            clear ha; intro a ha
            refine hd_val (i := 4) (.bool false) ha rfl (by kernel_rfl) (fun _ _ _ h => h) (by kernel_rfl) (fun w hS => (by kernel_rfl)) hS ?_
            clear ha; intro a ha
            refine hd_pass (i := 5) ha rfl (by kernel_rfl) (fun _ _ _ h => h) (by kernel_rfl) hS ?_
            clear ha; intro a ha
            refine hd_pass (i := 6) ha rfl (by kernel_rfl) (fun _ _ _ h => h) (by kernel_rfl) hS ?_
            clear ha; intro a ha
            refine hd_pass (i := 7) ha rfl (by kernel_rfl) (fun _ _ _ h => h) (by kernel_rfl) hS ?_
            clear ha; intro a ha
            refine hd_pass (i := 8) ha rfl (by kernel_rfl) (fun _ _ _ h => h) (by kernel_rfl) hS ?_
            clear ha; intro a ha
            refine hd_pass (i := 9) ha rfl (by kernel_rfl) (fun _ _ _ h => h) (by kernel_rfl) hS ?_
            clear ha; intro a ha
            refine Head.done (by kernel_rfl) ?_
            clear hS; simp only [List.drop_succ_cons, List.drop_zero]
            refine st_pass ha (by kernel_rfl) ?_
            clear ha; intro a ha
            refine st_val (.bool false) ha (by kernel_rfl) (by kernel_rfl) ?_
            clear ha; intro a ha
            refine wpList_nil ?_
            refine then_normal ?_
            refine wp_false ha rfl (by kernel_rfl) ?_
            refine wp_skip ?_
            refine then_normal ?_
            refine wp_seq ?_
            refine wp_region_lit ?_
            refine st_val (.slice none 0 0) ha (by kernel_rfl) (by kernel_rfl) ?_
            clear ha; intro a ha
            refine wpList_nil ?_
            refine then_normal ?_
            refine wp_seq ?_
            refine wp_region_lit ?_
            refine st_val (.slice none 0 0) ha (by kernel_rfl) (by kernel_rfl) ?_
            clear ha; intro a ha
            refine st_val (.slice (some ade) e.length co) ha (by kernel_rfl) (by kernel_rfl) ?_
            clear ha; intro a ha
            refine st_val (.int .i64 ((m : Nat) : Int)) ha (by kernel_rfl) (by kernel_rfl) ?_
            clear ha; intro a ha
            refine st_val (.slice (some ade) m co) ha (by kernel_rfl) (run_slice0 (n := e.length) (c := co) m co rfl Try.underlying47 Try.sizeOf51 (by kernel_rfl) (fun _ => rfl) bnd_none (bnd_some .i64 (by kernel_rfl)) bnd_none (by omega) (by omega) _) ?_
            clear ha; intro a ha
            replace s := Own.none_ (e := 51) (k := 2) none s
            replace s : St W (Own 51 2 none 0 0 [] :: .blk g1 [.int .i64 v.waiter, .int .i64 v.holder] 51 :: Own 51 2 (some ade) e.length co (pcs e) :: .blk g [.slice (some ad) n c] 64 :: Own 34 4 (some ad) n c (ws l) :: L) w := s
            refine st_ex ha (by kernel_rfl) (ex_append (m := m) (d' := co) elt47 (by decide) 0 (pcs (e.take m)) s rfl (by kernel_rfl) (by kernel_rfl) rfl (by rw [← pcs_take]; exact Reads.take (Own.reads (s.at_ (j := 2) rfl).1) (by omega)) (pcs_one _) (by simp only [maxLen]; omega) (by omega)) ?_
            clear ha; rintro _ w a ⟨A23, c24, rfl, hA_, s⟩ ha
            replace s : St W (Own 51 2 A23 (0 + m) c24 ([] ++ (pcs (e.take m))) :: .blk g1 [.int .i64 v.waiter, .int .i64 v.holder] 51 :: Own 51 2 (some ade) e.length co (pcs e) :: .blk g [.slice (some ad) n c] 64 :: Own 34 4 (some ad) n c (ws l) :: L) w := s
            refine st_val (.slice A23 (0 + m) c24) ha (by kernel_rfl) (by kernel_rfl) ?_
            clear ha; intro a ha
            refine wpList_nil ?_
            refine then_normal ?_
            refine wp_seq ?_
            refine wp_region_lit ?_
            refine st_val (.slice A23 (0 + m) c24) ha (by kernel_rfl) (by kernel_rfl) ?_
            clear ha; intro a ha
            refine st_val (.agg #[.int .i64 v.waiter, .int .i64 v.holder]) ha (by kernel_rfl) (run_loadN (of_ := 0) [.int .i64 v.waiter, .int .i64 v.holder] (s.blkIs 1 rfl) rfl (by kernel_rfl) Try.isAgg51 Try.sizeOf51 rfl (Nat.le_of_ble_eq_true rfl)) ?_
            clear ha; intro a ha
            refine st_ex ha (by kernel_rfl) (ex_buildSlice elt47 _ zs47 [.int .i64 v.waiter, .int .i64 v.holder] s rfl (by kernel_rfl) (by decide)) ?_
            clear ha; rintro _ w a ⟨g25, rfl, s⟩ ha
            replace s : St W (.blk g25 [.int .i64 v.waiter, .int .i64 v.holder] 51 :: Own 51 2 A23 (0 + m) c24 ([] ++ (pcs (e.take m))) :: .blk g1 [.int .i64 v.waiter, .int .i64 v.holder] 51 :: Own 51 2 (some ade) e.length co (pcs e) :: .blk g [.slice (some ad) n c] 64 :: Own 34 4 (some ad) n c (ws l) :: L) w := s
            refine st_ex ha (by kernel_rfl) (ex_append (m := 1) (d' := 1) elt47 (by decide) 1 [.int .i64 v.waiter, .int .i64 v.holder] s rfl (by kernel_rfl) (by kernel_rfl) rfl (reads_blk (s.blkIs 0 rfl) rfl) (by simp [Value.oneCell']) (by simp only [maxLen]; omega) (by omega)) ?_
            clear ha; rintro _ w a ⟨A26, c27, rfl, hA_, s⟩ ha
            replace s : St W (.blk g25 [.int .i64 v.waiter, .int .i64 v.holder] 51 :: Own 51 2 A26 (0 + m + 1) c27 (([] ++ (pcs (e.take m))) ++ [.int .i64 v.waiter, .int .i64 v.holder]) :: .blk g1 [.int .i64 v.waiter, .int .i64 v.holder] 51 :: Own 51 2 (some ade) e.length co (pcs e) :: .blk g [.slice (some ad) n c] 64 :: Own 34 4 (some ad) n c (ws l) :: L) w := s
            refine st_val (.slice A26 (0 + m + 1) c27) ha (by kernel_rfl) (by kernel_rfl) ?_
            clear ha; intro a ha
            refine wpList_nil ?_
            refine then_normal ?_
            refine wp_region_lit ?_
            refine st_val (.slice A26 (0 + m + 1) c27) ha (by kernel_rfl) (by kernel_rfl) ?_
            clear ha; intro a ha
            refine st_val (.slice (some ade) e.length co) ha (by kernel_rfl) (by kernel_rfl) ?_
            clear ha; intro a ha
            refine st_val (.int .i64 ((m : Nat) : Int)) ha (by kernel_rfl) (by kernel_rfl) ?_
            clear ha; intro a ha
            refine st_val (.slice (slA (some ade) m co 2) (e.length - m) (co - m)) ha (by kernel_rfl) (run_slice (n := e.length) (c := co) m e.length co rfl Try.underlying47 Try.sizeOf51 (by kernel_rfl) (fun h => by cases h) bnd_none bnd_none (bnd_some .i64 (by kernel_rfl)) (by omega) (by omega) (by omega) _) ?_
            clear ha; intro a ha
            refine st_ex ha (by kernel_rfl) (ex_append (m := (e.length - m)) (d' := (co - m)) elt47 (by decide) 1 (pcs (e.drop m)) s rfl (by kernel_rfl) (by kernel_rfl) rfl (by rw [← pcs_drop]; exact Reads.sub (Own.reads (s.at_ (j := 3) rfl).1) (by omega) (by omega) hec) (pcs_one _) (by simp only [maxLen]; omega) (by omega)) ?_
            clear ha; rintro _ w a ⟨A28, c29, rfl, hA_, s⟩ ha
            replace s : St W (.blk g25 [.int .i64 v.waiter, .int .i64 v.holder] 51 :: Own 51 2 A28 (0 + m + 1 + (e.length - m)) c29 ((([] ++ (pcs (e.take m))) ++ [.int .i64 v.waiter, .int .i64 v.holder]) ++ (pcs (e.drop m))) :: .blk g1 [.int .i64 v.waiter, .int .i64 v.holder] 51 :: Own 51 2 (some ade) e.length co (pcs e) :: .blk g [.slice (some ad) n c] 64 :: Own 34 4 (some ad) n c (ws l) :: L) w := s
            refine st_val (.slice A28 (0 + m + 1 + (e.length - m)) c29) ha (by kernel_rfl) (by kernel_rfl) ?_
            clear ha; intro a ha
            refine wpList_nil ?_
            refine block_normal ?_
            refine then_normal ?_
            refine wp_region_lit ?_
            refine st_val (.int .i64 ((k : Nat) : Int)) ha (by kernel_rfl) (by kernel_rfl) ?_
            clear ha; intro a ha
            refine st_val (.int .i64 ((k + 1 : Nat) : Int)) ha (by kernel_rfl) (run_arith (((k : Nat) : Int) + (1 : Int)) ((k + 1 : Nat) : Int) rfl (by kernel_rfl) (by kernel_rfl) (.inl ⟨rfl, rfl⟩) (by rw [wrap64_in (by omega)]; try omega) _) ?_
            clear ha; intro a ha
            refine st_val (.int .i64 ((k + 1 : Nat) : Int)) ha (by kernel_rfl) (by kernel_rfl) ?_
            clear ha; intro a ha
            refine wpList_nil ?_
            refine then_normal ?_
            replace s := s.at_ (j := 5) rfl
            replace s : St W (Own 34 4 (some ad) n c (ws l) :: .blk g25 [.int .i64 v.waiter, .int .i64 v.holder] 51 :: Own 51 2 A28 (0 + m + 1 + (e.length - m)) c29 ((([] ++ (pcs (e.take m))) ++ [.int .i64 v.waiter, .int .i64 v.holder]) ++ (pcs (e.drop m))) :: .blk g1 [.int .i64 v.waiter, .int .i64 v.holder] 51 :: Own 51 2 (some ade) e.length co (pcs e) :: .blk g [.slice (some ad) n c] 64 :: L) w := s
            replace s := s.at_ (j := 5) rfl
            replace s : St W (.blk g [.slice (some ad) n c] 64 :: Own 34 4 (some ad) n c (ws l) :: .blk g25 [.int .i64 v.waiter, .int .i64 v.holder] 51 :: Own 51 2 A28 (0 + m + 1 + (e.length - m)) c29 ((([] ++ (pcs (e.take m))) ++ [.int .i64 v.waiter, .int .i64 v.holder]) ++ (pcs (e.drop m))) :: .blk g1 [.int .i64 v.waiter, .int .i64 v.holder] 51 :: Own 51 2 (some ade) e.length co (pcs e) :: L) w := s
            replace s := s.at_ (j := 3) rfl
            replace s : St W (Own 51 2 A28 (0 + m + 1 + (e.length - m)) c29 ((([] ++ (pcs (e.take m))) ++ [.int .i64 v.waiter, .int .i64 v.holder]) ++ (pcs (e.drop m))) :: .blk g [.slice (some ad) n c] 64 :: Own 34 4 (some ad) n c (ws l) :: .blk g25 [.int .i64 v.waiter, .int .i64 v.holder] 51 :: .blk g1 [.int .i64 v.waiter, .int .i64 v.holder] 51 :: Own 51 2 (some ade) e.length co (pcs e) :: L) w := s
            replace s : St W (Own 51 2 A28 (0 + m + 1 + (e.length - m)) c29 ((([] ++ (pcs (e.take m))) ++ [.int .i64 v.waiter, .int .i64 v.holder]) ++ (pcs (e.drop m))) :: .blk g [.slice (some ad) n c] 64 :: Own 34 4 (some ad) n c (ws l) :: L) w := St.mid (A := [Own 51 2 A28 (0 + m + 1 + (e.length - m)) c29 ((([] ++ (pcs (e.take m))) ++ [.int .i64 v.waiter, .int .i64 v.holder]) ++ (pcs (e.drop m))), .blk g [.slice (some ad) n c] 64, Own 34 4 (some ad) n c (ws l)]) (B := [.blk g25 [.int .i64 v.waiter, .int .i64 v.holder] 51, .blk g1 [.int .i64 v.waiter, .int .i64 v.holder] 51, Own 51 2 (some ade) e.length co (pcs e)]) s
            have hmE : 0 + m + 1 + (e.length - m) = (e.take m ++ [pr v] ++ e.drop m).length := by rw [List.length_append, List.length_append, List.length_take, List.length_drop, List.length_singleton]; omega
            replace s : St W (Own 51 2 A28 ((e.take m ++ [pr v] ++ e.drop m).length) c29 (pcs (e.take m ++ [pr v] ++ e.drop m)) :: .blk g [.slice (some ad) n c] 64 :: Own 34 4 (some ad) n c (ws l) :: L) w := by rw [← hmE, pcs_append, pcs_append]; exact s
            have hEO := EdgesOf.put (w := v) (n := m) hpo.2.1 hp.2 hge hne (by omega)
            rw [← take_snoc hv] at hEO
            exact ⟨(k + 1, (e.take m ++ [pr v] ++ e.drop m), A28, c29), (show n - (k + 1) < n - k by omega), (Has.cons ha (by kernel_rfl) (by kernel_rfl) (Has.cons ha (by kernel_rfl) (by rw [← hmE]; rfl) (Has.cons ha (by kernel_rfl) (by kernel_rfl) (Has.nil ha)))), s, (show k + 1 ≤ n by omega), hEO, (show (e.take m ++ [pr v] ++ e.drop m).length ≤ k + 1 by rw [← hmE]; omega)⟩
    · rw [hb] at ha; replace hb : ¬ (((k : Nat) : Int) < ((n : Nat) : Int)) := of_decide_eq_false hb
      have hE : EdgesOf l e := by have := hp.2.1; rwa [List.take_of_length_le (by omega)] at this
      refine wp_exit ?_
      refine then_exit ?_
      refine then_exit ?_
      refine block_hit ?_
      refine then_normal ?_
      refine wp_seq ?_
      refine wp_region_lit ?_
      refine st_val (.slice Ao e.length co) ha (by kernel_rfl) (by kernel_rfl) ?_
      clear ha; intro a ha
      refine st_val (.slice Ao e.length co) ha (by kernel_rfl) (by kernel_rfl) ?_
      clear ha; intro a ha
      refine wpList_nil ?_
      refine then_normal ?_
      refine wp_ret ?_
      refine ret_with (v := .slice Ao e.length co) ha (results_1 rfl ha (res_tmp (by kernel_rfl) (by kernel_rfl))) ?_
      exact ⟨_, _, e, rfl, hE, s⟩

end Go.Proofs.Ytlkoppmenpeepaa.B
