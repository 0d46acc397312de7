import Derived.Test.YtcgnhmdiedfamaaB2
namespace Go.Proofs.Ytcgnhmdiedfamaa.B
open Go.RowKit Go.Proofs.Ytcgnhmdiedfamaa.Sep
set_option linter.unusedVariables false
set_option linter.unusedSimpArgs false

def i64s (zs : List Int) : List Value := zs.map (Value.int .i64)
theorem i64s_at (zs : List Int) (k : Nat) (h : k < zs.length) : (i64s zs)[k]? = some (.int .i64 (zs.getD k 0)) := by simp [i64s, h]
/-- The message number i of BagOrder. -/
def mo (zs : List Int) (i : Nat) : Msg := ⟨1 + zs.getD i 0 % 4, 1 + zs.getD i 0 % 3, [(i : Int) % 256]⟩
def mos (zs : List Int) (k : Nat) : List Msg := (List.range k).map (mo zs)
def rest (zs : List Int) (n g i : Nat) : List Msg := ((List.range' i (n - i)).filter fun j => j != g).map (mo zs)
theorem mos_len (zs : List Int) (k : Nat) : (mos zs k).length = k := by simp [mos]
theorem mos_succ (zs : List Int) (k : Nat) : mos zs k ++ [mo zs k] = mos zs (k + 1) := by simp [mos, List.range_succ]
theorem mos_at (zs : List Int) (k i : Nat) (h : i < k) : (mos zs k)[i]? = some (mo zs i) := by simp [mos, h]
theorem mo_code (zs : List Int) (i n : Nat) (hn : n < 2048) : putCode (mo zs i) n = 0 := by
  have h1 := Int.emod_nonneg (zs.getD i 0) (show (4 : Int) ≠ 0 by omega)
  have h2 := Int.emod_lt_of_pos (zs.getD i 0) (show (0 : Int) < 4 by omega)
  have h3 := Int.emod_nonneg (zs.getD i 0) (show (3 : Int) ≠ 0 by omega)
  have h4 := Int.emod_lt_of_pos (zs.getD i 0) (show (0 : Int) < 3 by omega)
  have hf : 1 ≤ (mo zs i).f ∧ (mo zs i).f ≤ 4 := by simp only [mo]; omega
  have ht : 1 ≤ (mo zs i).t ∧ (mo zs i).t ≤ 4 := by simp only [mo]; omega
  unfold putCode
  rw [if_pos ⟨hf, ht⟩, if_neg (by simp [mo]), if_neg (by omega)]
theorem mos_put (zs : List Int) (k : Nat) (h : k < 2048) : bput (mos zs k) (mo zs k) = mos zs (k + 1) := by
  unfold bput
  rw [mos_len, if_pos (mo_code zs k k h), mos_succ]
theorem ok_mos (zs : List Int) (k : Nat) (h : k ≤ 2048) : OkBag (mos zs k) := ⟨fun m hm => by
  obtain ⟨i, _, rfl⟩ := List.mem_map.1 hm; simp [mo], by rw [mos_len]; exact h⟩
theorem ok_rest (zs : List Int) (n g i : Nat) (h : n ≤ 2048) : OkBag (rest zs n g i) := ⟨fun m hm => by
  obtain ⟨i, _, rfl⟩ := List.mem_map.1 hm; simp [mo], by
  have := List.length_filter_le (fun j => j != g) (List.range' i (n - i))
  simp only [rest, List.length_map, List.length_range'] at *
  omega⟩
theorem map_erase {α β : Type} (f : α → β) (l : List α) (g : Nat) : (l.map f).eraseIdx g = (l.eraseIdx g).map f := by
  rw [List.eraseIdx_eq_take_drop_succ, List.eraseIdx_eq_take_drop_succ, List.map_append, List.map_take, List.map_drop]
theorem rest_zero (zs : List Int) (n g : Nat) : (mos zs n).eraseIdx g = rest zs n g 0 := by
  have h : ∀ m, (List.range m).eraseIdx g = (List.range m).filter fun j => j != g := by
    intro m
    induction m with
    | zero => rfl
    | succ m ih =>
      rw [List.range_succ, List.filter_append, ← ih]
      by_cases hg : g < m
      · rw [List.eraseIdx_append_of_lt_length (by simpa using hg)]
        simp [show m ≠ g by omega]
      · rw [List.eraseIdx_append_of_length_le (by simp; omega), List.length_range]
        have e0 : (List.range m).eraseIdx g = List.range m := List.eraseIdx_of_length_le (by simp; omega)
        rw [e0]
        by_cases hm : g = m
        · subst hm; simp
        · have : g - m ≠ 0 := by omega
          obtain ⟨q, hq⟩ : ∃ q, g - m = q + 1 := ⟨g - m - 1, by omega⟩
          rw [hq]
          simp [show m ≠ g by omega]
  unfold mos rest
  rw [Nat.sub_zero, ← List.range_eq_range', ← h n, map_erase]
theorem rest_skip (zs : List Int) (n g : Nat) (h : g < n) : rest zs n g g = rest zs n g (g + 1) := by
  unfold rest
  obtain ⟨d, hd⟩ : ∃ d, n - g = d + 1 := ⟨n - g - 1, by omega⟩
  rw [hd, List.range'_succ, show n - (g + 1) = d by omega]
  simp
theorem rest_step (zs : List Int) (n g i : Nat) (h : i < n) (hg : i ≠ g) : rest zs n g i = mo zs i :: rest zs n g (i + 1) := by
  unfold rest
  obtain ⟨d, hd⟩ : ∃ d, n - i = d + 1 := ⟨n - i - 1, by omega⟩
  rw [hd, List.range'_succ, show n - (i + 1) = d by omega]
  simp [hg]
theorem rest_end (zs : List Int) (n g : Nat) : rest zs n g n = [] := by simp [rest]
theorem wrap_u8 (x : Int) : IntKind.u8.wrap x = x % 256 := by simp [IntKind.wrap, IntKind.bits, IntKind.signed]

theorem bring_to (W : World) (L : List Chunk) (w : World) (i n z : Int) (hz : i % n = z) (hn : 0 < n) (hb : n ≤ 1000000) (s : St W L w) : Calls Try.prog 10 #[.int .i64 i, .int .i64 n] w fun e w' => e = .returned (.int .i64 z) ∧ St W L w' := by
  subst hz; exact bring_pos W L w i n hn hb s

theorem bagOrder_pos (W : World) (L : List Chunk) (w : World) (ad : Addr) (n c N : Nat) (zs : List Int) (q : Int) (hr : Knows L fun w => Reads w 1 (some ad) n (i64s zs)) (hzn : zs.length = n) (hnc : n ≤ c) (hN : N = min n 60) (hNn : N ≤ n) (h60 : N ≤ 60) (G : Nat) (hG : G < N) (hq : q % (N : Int) = (G : Int)) (s : St W L w) :
    Calls Try.prog 5 #[.slice (some ad) n c, .int .i64 q] w fun e w' => e = .returned (.bool true) ∧ St W L w' := by
  refine enter_args (l := [.slice (some ad) n c, .int .i64 q]) Try.func5 rfl rfl (Nat.le_of_ble_eq_true rfl) ?_
  intro a ha; replace ha : Has a 114 [(0, .slice (some ad) n c), (1, .int .i64 q)] := ha
  refine wp_seq ?_
  refine wp_region_lit ?_
  refine st_val (.bool false) ha (by kernel_rfl) (by kernel_rfl) ?_
  clear ha; intro a ha
  refine wpList_nil ?_
  refine then_normal ?_
  refine wp_seq ?_
  refine wp_seq ?_
  refine wp_region_lit ?_
  refine st_call ha (by kernel_rfl) (by kernel_rfl) (works_true W _ w s) ?_
  rintro _ w ⟨rfl, s⟩
  replace s : St W (L) w := s
  refine ⟨_, rfl, ?_⟩; clear ha; intro a ha
  refine st_val (.bool false) ha (by kernel_rfl) (by kernel_rfl) ?_
  clear ha; intro a ha
  refine wpList_nil ?_
  refine then_normal ?_
  refine wp_false ha rfl (by kernel_rfl) ?_
  refine wp_skip ?_
  refine then_normal ?_
  refine wp_seq ?_
  refine wp_region_lit ?_
  refine st_call ha (by kernel_rfl) (by kernel_rfl) (new_bag W _ w s) ?_
  rintro _ w ⟨g1, rfl, s⟩
  replace s : St W (Bag g1 [] :: L) w := s
  refine ⟨_, rfl, ?_⟩; clear ha; intro a ha
  refine st_val (.pointer (some ⟨g1, 0, none⟩)) ha (by kernel_rfl) (by kernel_rfl) ?_
  clear ha; intro a ha
  refine wpList_nil ?_
  refine then_normal ?_
  refine wp_seq ?_
  refine wp_region_lit ?_
  refine st_val (.slice (some ad) n c) ha (by kernel_rfl) (by kernel_rfl) ?_
  clear ha; intro a ha
  refine st_val (.slice (some ad) n c) ha (by kernel_rfl) (by kernel_rfl) ?_
  clear ha; intro a ha
  refine st_val (.int .i64 ((n : Nat) : Int)) ha (by kernel_rfl) (by kernel_rfl) ?_
  clear ha; intro a ha
  refine st_val (.int .i64 ((N : Nat) : Int)) ha (by kernel_rfl) (run_min2 (p := ((n : Nat) : Int)) (q := (60 : Int)) ((N : Nat) : Int) rfl (by kernel_rfl) (by kernel_rfl) (by split <;> omega) _) ?_
  clear ha; intro a ha
  refine st_val (.slice (some ad) N c) ha (by kernel_rfl) (run_slice0 (n := n) (c := c) N c rfl Try.underlying47 Try.sizeOf3 (by kernel_rfl) (fun _ => rfl) bnd_none (bnd_some .i64 (by kernel_rfl)) bnd_none (by omega) (by omega) _) ?_
  clear ha; intro a ha
  refine st_val (.slice (some ad) N c) ha (by kernel_rfl) (by kernel_rfl) ?_
  clear ha; intro a ha
  refine wpList_nil ?_
  refine then_normal ?_
  refine wp_seq ?_
  refine wp_seq ?_
  refine wp_region_lit ?_
  refine st_val (.int .i64 0) ha (by kernel_rfl) (by kernel_rfl) ?_
  clear ha; intro a ha
  refine wpList_nil ?_
  refine then_normal ?_
  refine wp_block ?_
  refine wp_loopG (G := Nat) (fun k a w => Has a 114 [(0, .slice (some ad) N c), (1, .int .i64 q), (5, .pointer (some ⟨g1, 0, none⟩)), (6, .int .i64 ((k : Nat) : Int))] ∧ St W (Bag g1 (mos zs k) :: L) w ∧ (k ≤ N)) (fun k => N - k) 0 ?_ ?_
  · exact ⟨(Has.cons ha (by kernel_rfl) (by kernel_rfl) (Has.cons ha (by kernel_rfl) (by kernel_rfl) (Has.cons ha (by kernel_rfl) (by kernel_rfl) (Has.cons ha (by kernel_rfl) (by kernel_rfl) (Has.nil ha))))), s, Nat.zero_le _⟩
  · clear ha s; rintro k a w ⟨ha, s, hp⟩
    refine wp_seq ?_
    refine wp_seq ?_
    refine wp_region_lit ?_
    refine st_val (.int .i64 ((k : Nat) : Int)) ha (by kernel_rfl) (by kernel_rfl) ?_
    clear ha; intro a ha
    refine st_val (.slice (some ad) N c) ha (by kernel_rfl) (by kernel_rfl) ?_
    clear ha; intro a ha
    refine st_val (.int .i64 ((N : Nat) : Int)) ha (by kernel_rfl) (by kernel_rfl) ?_
    clear ha; intro a ha
    refine st_val (.bool (decide (((k : Nat) : Int) < ((N : Nat) : Int)))) ha (by kernel_rfl) (by kernel_rfl) ?_
    clear ha; intro a ha
    refine wpList_nil ?_
    refine then_normal ?_
    refine wp_part (decide (((k : Nat) : Int) < ((N : Nat) : Int))) ha rfl (by kernel_rfl) (fun hb => ?_) (fun hb => ?_)
    · rw [hb] at ha; replace hb : (((k : Nat) : Int) < ((N : Nat) : Int)) := of_decide_eq_true hb
      refine wp_skip ?_
      refine then_normal ?_
      refine wp_seq ?_
      refine wp_block ?_
      refine wp_seq ?_
      refine wp_region_head 16 (fun w => Reads w 1 (some ad) N ((i64s zs).take (N * 1)) ∧ True) (by kernel_rfl) (by decide) ?_
      replace s := s.drew; generalize _root_.Go.World.drew _ = w at s ⊢
      have hS : (fun w => Reads w 1 (some ad) N ((i64s zs).take (N * 1)) ∧ True) w := ⟨Reads.take (hr _ s.sat.tail) hNn, trivial⟩
      refine hd_val (i := 0) (.pointer (some ⟨g1, 0, none⟩)) ha rfl (by kernel_rfl) (fun _ _ _ h => h) (by kernel_rfl) (fun w hS => (by kernel_rfl)) hS ?_
      clear ha; intro a ha
      refine hd_val (i := 1) (.slice (some ad) N c) ha rfl (by kernel_rfl) (fun _ _ _ h => h) (by kernel_rfl) (fun w hS => (by kernel_rfl)) hS ?_
      clear ha; intro a ha
      refine hd_val (i := 2) (.int .i64 ((k : Nat) : Int)) ha rfl (by kernel_rfl) (fun _ _ _ h => h) (by kernel_rfl) (fun w hS => (by kernel_rfl)) hS ?_
      clear ha; intro a ha
      refine hd_val (i := 3) (.pointer (some (ad.add (k * 1)))) ha rfl (by kernel_rfl) (fun _ _ _ h => h) (by kernel_rfl) (fun w hS => (run_indexAddr' (kd := .i64) (n := N) (c := c) k rfl Try.underlying47 Try.sizeOf3 (by kernel_rfl) (by kernel_rfl) rfl (by first | assumption | omega) _)) hS ?_
      clear ha; intro a ha
      refine hd_val (i := 4) (.int .i64 (zs.getD k 0)) ha rfl (by kernel_rfl) (fun _ _ _ h => h) (by kernel_rfl) (fun w hS => run_loadRow1 (m := k) hS.1 rfl (by kernel_rfl) Try.isAgg3 (by rw [List.getElem?_take, if_pos (by omega)]; exact i64s_at zs k (by omega))) hS ?_
      clear ha; intro a ha
      refine hd_val (i := 7) (.slice (some ad) N c) ha rfl (by kernel_rfl) (fun _ _ _ h => h) (by kernel_rfl) (fun w hS => (by kernel_rfl)) hS ?_
      clear ha; intro a ha
      refine hd_val (i := 8) (.int .i64 ((k : Nat) : Int)) ha rfl (by kernel_rfl) (fun _ _ _ h => h) (by kernel_rfl) (fun w hS => (by kernel_rfl)) hS ?_
      clear ha; intro a ha
      refine hd_val (i := 9) (.pointer (some (ad.add (k * 1)))) ha rfl (by kernel_rfl) (fun _ _ _ h => h) (by kernel_rfl) (fun w hS => (run_indexAddr' (kd := .i64) (n := N) (c := c) k rfl Try.underlying47 Try.sizeOf3 (by kernel_rfl) (by kernel_rfl) rfl (by first | assumption | omega) _)) hS ?_
      clear ha; intro a ha
      refine hd_val (i := 10) (.int .i64 (zs.getD k 0)) ha rfl (by kernel_rfl) (fun _ _ _ h => h) (by kernel_rfl) (fun w hS => run_loadRow1 (m := k) hS.1 rfl (by kernel_rfl) Try.isAgg3 (by rw [List.getElem?_take, if_pos (by omega)]; exact i64s_at zs k (by omega))) hS ?_
      clear ha; intro a ha
      refine hd_val (i := 13) (.int .i64 ((k : Nat) : Int)) ha rfl (by kernel_rfl) (fun _ _ _ h => h) (by kernel_rfl) (fun w hS => (by kernel_rfl)) hS ?_
      clear ha; intro a ha
      refine hd_val (i := 14) (.int .u8 (((k : Nat) : Int) % 256)) ha rfl (by kernel_rfl) (fun _ _ _ h => h) (by kernel_rfl) (fun w hS => (run_conv (((k : Nat) : Int) % 256) rfl (by kernel_rfl) Try.underlying3 Try.underlying5 (wrap_u8 _) _)) hS ?_
      clear ha; intro a ha
      refine hd_call (i := 5) ha rfl (by kernel_rfl) (by kernel_rfl) (by kernel_rfl) (bring_pos W _ w (zs.getD k 0) 4 (by omega) (by omega) s) ?_
      clear hS; rintro _ w ⟨rfl, s⟩
      replace s : St W (Bag g1 (mos zs k) :: L) w := s
      have hS : (fun w => Reads w 1 (some ad) N ((i64s zs).take (N * 1)) ∧ True) w := ⟨Reads.take (hr _ s.sat.tail) hNn, trivial⟩
      refine ⟨_, rfl, hS, ?_⟩; clear ha; intro a ha
      refine hd_val (i := 6) (.int .i64 ((1 : Int) + ((zs.getD k 0) % (4 : Int)))) ha rfl (by kernel_rfl) (fun _ _ _ h => h) (by kernel_rfl) (fun w hS => (run_arith ((1 : Int) + ((zs.getD k 0) % (4 : Int))) ((1 : Int) + ((zs.getD k 0) % (4 : Int))) rfl (by kernel_rfl) (by kernel_rfl) (.inl ⟨rfl, rfl⟩) (by rw [wrap64_in (by omega)]) _)) hS ?_
      clear ha; intro a ha
      refine hd_call (i := 11) ha rfl (by kernel_rfl) (by kernel_rfl) (by kernel_rfl) (bring_pos W _ w (zs.getD k 0) 3 (by omega) (by omega) s) ?_
      clear hS; rintro _ w ⟨rfl, s⟩
      replace s : St W (Bag g1 (mos zs k) :: L) w := s
      have hS : (fun w => Reads w 1 (some ad) N ((i64s zs).take (N * 1)) ∧ True) w := ⟨Reads.take (hr _ s.sat.tail) hNn, trivial⟩
      refine ⟨_, rfl, hS, ?_⟩; clear ha; intro a ha
      refine hd_val (i := 12) (.int .i64 ((1 : Int) + ((zs.getD k 0) % (3 : Int)))) ha rfl (by kernel_rfl) (fun _ _ _ h => h) (by kernel_rfl) (fun w hS => (run_arith ((1 : Int) + ((zs.getD k 0) % (3 : Int))) ((1 : Int) + ((zs.getD k 0) % (3 : Int))) rfl (by kernel_rfl) (by kernel_rfl) (.inl ⟨rfl, rfl⟩) (by rw [wrap64_in (by omega)]) _)) hS ?_
      clear ha; intro a ha
      refine hd_call (i := 15) ha rfl (by kernel_rfl) (by kernel_rfl) (by kernel_rfl) (mail_any W _ w ((1 : Int) + ((zs.getD k 0) % (4 : Int))) ((1 : Int) + ((zs.getD k 0) % (3 : Int))) (((k : Nat) : Int) % 256) s) ?_
      clear hS; rintro _ w ⟨A2, c3, rfl, s⟩
      replace s : St W (Own 5 1 A2 1 c3 (u8s [(((k : Nat) : Int) % 256)]) :: Bag g1 (mos zs k) :: L) w := s
      have hS : (fun w => Reads w 1 (some ad) N ((i64s zs).take (N * 1)) ∧ True) w := ⟨Reads.take (hr _ s.sat.tail.tail) hNn, trivial⟩
      refine ⟨_, rfl, hS, ?_⟩; clear ha; intro a ha
      refine Head.done (by kernel_rfl) ?_
      clear hS; simp only [List.drop_succ_cons, List.drop_zero]
      replace s := s.at_ (j := 1) rfl
      replace s : St W (Bag g1 (mos zs k) :: Own 5 1 A2 1 c3 (u8s [(((k : Nat) : Int) % 256)]) :: L) w := s
      refine st_call ha (by kernel_rfl) (by kernel_rfl) (put_to W _ w g1 (mos zs k) ((1 : Int) + ((zs.getD k 0) % (4 : Int))) ((1 : Int) + ((zs.getD k 0) % (3 : Int))) [(((k : Nat) : Int) % 256)] A2 1 c3 0 (mos zs (k + 1)) rfl (by rw [mos_len]; exact mo_code zs k k (by omega)) (mos_put zs k (by omega)) (Knows.own (j := 0) rfl) (by omega) s) ?_
      rintro _ w ⟨rfl, s⟩
      replace s : St W (Bag g1 (mos zs (k + 1)) :: Own 5 1 A2 1 c3 (u8s [(((k : Nat) : Int) % 256)]) :: L) w := s
      refine ⟨_, rfl, ?_⟩; clear ha; intro a ha
      refine st_val (.bool false) ha (by kernel_rfl) (by kernel_rfl) ?_
      clear ha; intro a ha
      refine wpList_nil ?_
      refine then_normal ?_
      refine wp_false ha rfl (by kernel_rfl) ?_
      refine wp_skip ?_
      refine block_normal ?_
      refine then_normal ?_
      refine wp_region_lit ?_
      refine st_val (.int .i64 ((k : Nat) : Int)) ha (by kernel_rfl) (by kernel_rfl) ?_
      clear ha; intro a ha
      refine st_val (.int .i64 ((k + 1 : Nat) : Int)) ha (by kernel_rfl) (run_arith (((k : Nat) : Int) + (1 : Int)) ((k + 1 : Nat) : Int) rfl (by kernel_rfl) (by kernel_rfl) (.inl ⟨rfl, rfl⟩) (by rw [wrap64_in (by omega)]; try omega) _) ?_
      clear ha; intro a ha
      refine st_val (.int .i64 ((k + 1 : Nat) : Int)) ha (by kernel_rfl) (by kernel_rfl) ?_
      clear ha; intro a ha
      refine wpList_nil ?_
      refine then_normal ?_
      replace s : St W (Bag g1 (mos zs (k + 1)) :: L) w := St.mid (A := [Bag g1 (mos zs (k + 1))]) (B := [Own 5 1 A2 1 c3 (u8s [(((k : Nat) : Int) % 256)])]) s
      exact ⟨k + 1, by omega, (Has.cons ha (by kernel_rfl) (by kernel_rfl) (Has.cons ha (by kernel_rfl) (by kernel_rfl) (Has.cons ha (by kernel_rfl) (by kernel_rfl) (Has.cons ha (by kernel_rfl) (by kernel_rfl) (Has.nil ha))))), s, by omega⟩
    · rw [hb] at ha; replace hb : ¬ (((k : Nat) : Int) < ((N : Nat) : Int)) := of_decide_eq_false hb
      have hk : k = N := by omega
      rw [hk] at s
      refine wp_exit ?_
      refine then_exit ?_
      refine then_exit ?_
      refine block_hit ?_
      refine then_normal ?_
      refine wp_seq ?_
      refine wp_region_lit ?_
      refine st_val (.int .i64 (-1)) ha (by kernel_rfl) (by kernel_rfl) ?_
      clear ha; intro a ha
      refine wpList_nil ?_
      refine then_normal ?_
      refine wp_seq ?_
      refine wp_seq ?_
      refine wp_region_lit ?_
      refine st_val (.slice (some ad) N c) ha (by kernel_rfl) (by kernel_rfl) ?_
      clear ha; intro a ha
      refine st_val (.int .i64 ((N : Nat) : Int)) ha (by kernel_rfl) (by kernel_rfl) ?_
      clear ha; intro a ha
      refine st_val (.bool true) ha (by kernel_rfl) (run_known (show (decide (((N : Nat) : Int) > (0 : Int))) = true from decide_eq_true (by omega)) (by kernel_rfl)) ?_
      clear ha; intro a ha
      refine wpList_nil ?_
      refine then_normal ?_
      refine wp_true ha rfl (by kernel_rfl) ?_
      refine wp_seq ?_
      refine wp_region_lit ?_
      refine st_val (.int .i64 q) ha (by kernel_rfl) (by kernel_rfl) ?_
      clear ha; intro a ha
      refine st_val (.slice (some ad) N c) ha (by kernel_rfl) (by kernel_rfl) ?_
      clear ha; intro a ha
      refine st_val (.int .i64 ((N : Nat) : Int)) ha (by kernel_rfl) (by kernel_rfl) ?_
      clear ha; intro a ha
      refine st_call ha (by kernel_rfl) (by kernel_rfl) (bring_to W _ w q ((N : Nat) : Int) ((G : Nat) : Int) hq (by omega) (by omega) s) ?_
      rintro _ w ⟨rfl, s⟩
      replace s : St W (Bag g1 (mos zs N) :: L) w := s
      refine ⟨_, rfl, ?_⟩; clear ha; intro a ha
      refine st_val (.int .i64 ((G : Nat) : Int)) ha (by kernel_rfl) (by kernel_rfl) ?_
      clear ha; intro a ha
      refine wpList_nil ?_
      refine then_normal ?_
      refine wp_seq ?_
      refine wp_region_lit ?_
      refine st_val (.pointer (some ⟨g1, 0, none⟩)) ha (by kernel_rfl) (by kernel_rfl) ?_
      clear ha; intro a ha
      refine st_val (.int .i64 ((G : Nat) : Int)) ha (by kernel_rfl) (by kernel_rfl) ?_
      clear ha; intro a ha
      refine st_call ha (by kernel_rfl) (by kernel_rfl) (take_to W _ w g1 (mos zs N) G (1 + zs.getD G 0 % 4) (1 + zs.getD G 0 % 3) [((G : Nat) : Int) % 256] 1 (rest zs N G 0) (mos_at zs N G hG) rfl (rest_zero zs N G) (ok_mos zs N (by omega)) s) ?_
      rintro _ w ⟨A4, c5, rfl, s⟩
      replace s : St W (Own 5 1 A4 1 c5 (u8s [((G : Nat) : Int) % 256]) :: Bag g1 (rest zs N G 0) :: L) w := s
      refine ⟨_, rfl, ?_⟩; clear ha; intro a ha
      refine st_val (.tuple #[.agg #[.int .i64 (1 + zs.getD G 0 % 4), .int .i64 (1 + zs.getD G 0 % 3), .slice A4 1 c5], .bool true]) ha (by kernel_rfl) (by kernel_rfl) ?_
      clear ha; intro a ha
      refine st_val (.agg #[.int .i64 (1 + zs.getD G 0 % 4), .int .i64 (1 + zs.getD G 0 % 3), .slice A4 1 c5]) ha (by kernel_rfl) (by kernel_rfl) ?_
      clear ha; intro a ha
      refine st_val (.bool true) ha (by kernel_rfl) (by kernel_rfl) ?_
      clear ha; intro a ha
      refine st_ex ha (by kernel_rfl) (ex_alloc [.int .i64 0, .int .i64 0, .slice none 0 0] s rfl (Try.zeroValue29 _) (by kernel_rfl)) ?_
      clear ha; rintro _ w a ⟨g6, rfl, s⟩ ha
      replace s : St W (.blk g6 [.int .i64 0, .int .i64 0, .slice none 0 0] 29 :: Own 5 1 A4 1 c5 (u8s [((G : Nat) : Int) % 256]) :: Bag g1 (rest zs N G 0) :: L) w := s
      refine st_exd ha (by kernel_rfl) (ex_store (of_ := 0) 0 [.int .i64 (1 + zs.getD G 0 % 4), .int .i64 (1 + zs.getD G 0 % 3), .slice A4 1 c5] s rfl rfl (by kernel_rfl) (by kernel_rfl) (Try.sizeOf29 _) rfl (by simp [Value.oneCell']) (Nat.le_of_ble_eq_true rfl)) ?_
      clear ha; rintro w a s ha
      replace s : St W (.blk g6 [.int .i64 (1 + zs.getD G 0 % 4), .int .i64 (1 + zs.getD G 0 % 3), .slice A4 1 c5] 29 :: Own 5 1 A4 1 c5 (u8s [((G : Nat) : Int) % 256]) :: Bag g1 (rest zs N G 0) :: L) w := s
      refine st_val (.bool true) ha (by kernel_rfl) (by kernel_rfl) ?_
      clear ha; intro a ha
      refine wpList_nil ?_
      refine then_normal ?_
      refine wp_seq ?_
      refine wp_region_lit ?_
      refine st_val (.bool true) ha (by kernel_rfl) (by kernel_rfl) ?_
      clear ha; intro a ha
      refine st_val (.bool false) ha (by kernel_rfl) (by kernel_rfl) ?_
      clear ha; intro a ha
      refine st_val (.bool false) ha (by kernel_rfl) (by kernel_rfl) ?_
      clear ha; intro a ha
      refine st_val (.agg #[.int .i64 (1 + zs.getD G 0 % 4), .int .i64 (1 + zs.getD G 0 % 3), .slice A4 1 c5]) ha (by kernel_rfl) (run_loadN (of_ := 0) [.int .i64 (1 + zs.getD G 0 % 4), .int .i64 (1 + zs.getD G 0 % 3), .slice A4 1 c5] (s.blkIs 0 rfl) rfl (by kernel_rfl) Try.isAgg29 Try.sizeOf29 rfl (Nat.le_of_ble_eq_true rfl)) ?_
      clear ha; intro a ha
      refine st_call ha (by kernel_rfl) (by kernel_rfl) (first_one W _ w (1 + zs.getD G 0 % 4) (1 + zs.getD G 0 % 3) A4 1 c5 (((G : Nat) : Int) % 256) rfl (Knows.own (j := 1) rfl) s) ?_
      rintro _ w ⟨rfl, s⟩
      replace s : St W (.blk g6 [.int .i64 (1 + zs.getD G 0 % 4), .int .i64 (1 + zs.getD G 0 % 3), .slice A4 1 c5] 29 :: Own 5 1 A4 1 c5 (u8s [((G : Nat) : Int) % 256]) :: Bag g1 (rest zs N G 0) :: L) w := s
      refine ⟨_, rfl, ?_⟩; clear ha; intro a ha
      refine st_val (.int .i64 (((G : Nat) : Int) % 256)) ha (by kernel_rfl) (run_conv ((((G : Nat) : Int) % 256)) rfl (by kernel_rfl) Try.underlying5 Try.underlying3 (wrap64_in (by omega)) _) ?_
      clear ha; intro a ha
      refine st_val (.int .i64 ((G : Nat) : Int)) ha (by kernel_rfl) (by kernel_rfl) ?_
      clear ha; intro a ha
      refine st_val (.bool false) ha (by kernel_rfl) (run_known (show ((((G : Nat) : Int) % 256) != ((G : Nat) : Int)) = false from by rw [bne_eq_false_iff_eq]; omega) (by kernel_rfl)) ?_
      clear ha; intro a ha
      refine st_val (.bool false) ha (by kernel_rfl) (by kernel_rfl) ?_
      clear ha; intro a ha
      refine wpList_nil ?_
      refine then_normal ?_
      refine wp_false ha rfl (by kernel_rfl) ?_
      refine wp_skip ?_
      refine then_normal ?_
      refine wp_seq ?_
      refine wp_seq ?_
      refine wp_region_lit ?_
      refine st_val (.int .i64 0) ha (by kernel_rfl) (by kernel_rfl) ?_
      clear ha; intro a ha
      refine wpList_nil ?_
      refine then_normal ?_
      refine wp_block ?_
      replace s := s.at_ (j := 2) rfl
      replace s : St W (Bag g1 (rest zs N G 0) :: .blk g6 [.int .i64 (1 + zs.getD G 0 % 4), .int .i64 (1 + zs.getD G 0 % 3), .slice A4 1 c5] 29 :: Own 5 1 A4 1 c5 (u8s [((G : Nat) : Int) % 256]) :: L) w := s
      replace s : St W (Bag g1 (rest zs N G 0) :: L) w := St.mid (A := [Bag g1 (rest zs N G 0)]) (B := [.blk g6 [.int .i64 (1 + zs.getD G 0 % 4), .int .i64 (1 + zs.getD G 0 % 3), .slice A4 1 c5] 29, Own 5 1 A4 1 c5 (u8s [((G : Nat) : Int) % 256])]) s
      refine wp_loopG (G := Nat) (fun k a w => Has a 114 [(0, .slice (some ad) N c), (5, .pointer (some ⟨g1, 0, none⟩)), (7, .int .i64 ((G : Nat) : Int)), (10, .int .i64 ((k : Nat) : Int))] ∧ St W (Bag g1 (rest zs N G k) :: L) w ∧ (k ≤ N)) (fun k => N - k) 0 ?_ ?_
      · exact ⟨(Has.cons ha (by kernel_rfl) (by kernel_rfl) (Has.cons ha (by kernel_rfl) (by kernel_rfl) (Has.cons ha (by kernel_rfl) (by kernel_rfl) (Has.cons ha (by kernel_rfl) (by kernel_rfl) (Has.nil ha))))), s, Nat.zero_le _⟩
      · clear ha s; rintro k a w ⟨ha, s, hp⟩
        refine wp_seq ?_
        refine wp_seq ?_
        refine wp_region_lit ?_
        refine st_val (.int .i64 ((k : Nat) : Int)) ha (by kernel_rfl) (by kernel_rfl) ?_
        clear ha; intro a ha
        refine st_val (.slice (some ad) N c) ha (by kernel_rfl) (by kernel_rfl) ?_
        clear ha; intro a ha
        refine st_val (.int .i64 ((N : Nat) : Int)) ha (by kernel_rfl) (by kernel_rfl) ?_
        clear ha; intro a ha
        refine st_val (.bool (decide (((k : Nat) : Int) < ((N : Nat) : Int)))) ha (by kernel_rfl) (by kernel_rfl) ?_
        clear ha; intro a ha
        refine wpList_nil ?_
        refine then_normal ?_
        refine wp_part (decide (((k : Nat) : Int) < ((N : Nat) : Int))) ha rfl (by kernel_rfl) (fun hb => ?_) (fun hb => ?_)
        · rw [hb] at ha; replace hb : (((k : Nat) : Int) < ((N : Nat) : Int)) := of_decide_eq_true hb
          refine wp_skip ?_
          refine then_normal ?_
          refine wp_seq ?_
          refine wp_block ?_
          refine wp_seq ?_
          refine wp_seq ?_
          refine wp_region_lit ?_
          refine st_val (.int .i64 ((k : Nat) : Int)) ha (by kernel_rfl) (by kernel_rfl) ?_
          clear ha; intro a ha
          refine st_val (.int .i64 ((G : Nat) : Int)) ha (by kernel_rfl) (by kernel_rfl) ?_
          clear ha; intro a ha
          refine st_val (.bool (((k : Nat) : Int) == ((G : Nat) : Int))) ha (by kernel_rfl) (by kernel_rfl) ?_
          clear ha; intro a ha
          refine wpList_nil ?_
          refine then_normal ?_
          refine wp_part (((k : Nat) : Int) == ((G : Nat) : Int)) ha rfl (by kernel_rfl) (fun hb => ?_) (fun hb => ?_)
          · rw [hb] at ha; have hb_ := hb; replace hb := eq_of_beq hb
            refine wp_exit ?_
            refine then_exit ?_
            refine block_hit ?_
            refine then_normal ?_
            refine wp_region_lit ?_
            refine st_val (.int .i64 ((k : Nat) : Int)) ha (by kernel_rfl) (by kernel_rfl) ?_
            clear ha; intro a ha
            refine st_val (.int .i64 ((k + 1 : Nat) : Int)) ha (by kernel_rfl) (run_arith (((k : Nat) : Int) + (1 : Int)) ((k + 1 : Nat) : Int) rfl (by kernel_rfl) (by kernel_rfl) (.inl ⟨rfl, rfl⟩) (by rw [wrap64_in (by omega)]; try omega) _) ?_
            clear ha; intro a ha
            refine st_val (.int .i64 ((k + 1 : Nat) : Int)) ha (by kernel_rfl) (by kernel_rfl) ?_
            clear ha; intro a ha
            refine wpList_nil ?_
            refine then_normal ?_
            obtain rfl : k = G := by omega
            rw [rest_skip zs N k (by omega)] at s
            exact ⟨k + 1, by omega, (Has.cons ha (by kernel_rfl) (by kernel_rfl) (Has.cons ha (by kernel_rfl) (by kernel_rfl) (Has.cons ha (by kernel_rfl) (by kernel_rfl) (Has.cons ha (by kernel_rfl) (by kernel_rfl) (Has.nil ha))))), s, by omega⟩
          · rw [hb] at ha; have hb_ := hb; replace hb := ne_of_beq_false hb
            refine wp_skip ?_
            refine then_normal ?_
            refine wp_seq ?_
            refine wp_region_lit ?_
            refine st_val (.pointer (some ⟨g1, 0, none⟩)) ha (by kernel_rfl) (by kernel_rfl) ?_
            clear ha; intro a ha
            refine st_call ha (by kernel_rfl) (by kernel_rfl) (take_to W _ w g1 (rest zs N G k) 0 (1 + zs.getD k 0 % 4) (1 + zs.getD k 0 % 3) [((k : Nat) : Int) % 256] 1 (rest zs N G (k + 1)) (by rw [rest_step zs N G k (by omega) (by omega)]; rfl) rfl (by rw [rest_step zs N G k (by omega) (by omega)]; rfl) (ok_rest zs N G k (by omega)) s) ?_
            rintro _ w ⟨A7, c8, rfl, s⟩
            replace s : St W (Own 5 1 A7 1 c8 (u8s [((k : Nat) : Int) % 256]) :: Bag g1 (rest zs N G (k + 1)) :: L) w := s
            refine ⟨_, rfl, ?_⟩; clear ha; intro a ha
            refine st_val (.tuple #[.agg #[.int .i64 (1 + zs.getD k 0 % 4), .int .i64 (1 + zs.getD k 0 % 3), .slice A7 1 c8], .bool true]) ha (by kernel_rfl) (by kernel_rfl) ?_
            clear ha; intro a ha
            refine st_val (.agg #[.int .i64 (1 + zs.getD k 0 % 4), .int .i64 (1 + zs.getD k 0 % 3), .slice A7 1 c8]) ha (by kernel_rfl) (by kernel_rfl) ?_
            clear ha; intro a ha
            refine st_val (.bool true) ha (by kernel_rfl) (by kernel_rfl) ?_
            clear ha; intro a ha
            refine st_ex ha (by kernel_rfl) (ex_alloc [.int .i64 0, .int .i64 0, .slice none 0 0] s rfl (Try.zeroValue29 _) (by kernel_rfl)) ?_
            clear ha; rintro _ w a ⟨g9, rfl, s⟩ ha
            replace s : St W (.blk g9 [.int .i64 0, .int .i64 0, .slice none 0 0] 29 :: Own 5 1 A7 1 c8 (u8s [((k : Nat) : Int) % 256]) :: Bag g1 (rest zs N G (k + 1)) :: L) w := s
            refine st_exd ha (by kernel_rfl) (ex_store (of_ := 0) 0 [.int .i64 (1 + zs.getD k 0 % 4), .int .i64 (1 + zs.getD k 0 % 3), .slice A7 1 c8] s rfl rfl (by kernel_rfl) (by kernel_rfl) (Try.sizeOf29 _) rfl (by simp [Value.oneCell']) (Nat.le_of_ble_eq_true rfl)) ?_
            clear ha; rintro w a s ha
            replace s : St W (.blk g9 [.int .i64 (1 + zs.getD k 0 % 4), .int .i64 (1 + zs.getD k 0 % 3), .slice A7 1 c8] 29 :: Own 5 1 A7 1 c8 (u8s [((k : Nat) : Int) % 256]) :: Bag g1 (rest zs N G (k + 1)) :: L) w := s
            refine st_val (.bool true) ha (by kernel_rfl) (by kernel_rfl) ?_
            clear ha; intro a ha
            refine wpList_nil ?_
            refine then_normal ?_
            refine wp_seq ?_
            refine wp_region_head 17 (fun w => BlkIs g9 [.int .i64 (1 + zs.getD k 0 % 4), .int .i64 (1 + zs.getD k 0 % 3), .slice A7 1 c8] w ∧ Reads w 1 (some ad) N ((i64s zs).take (N * 1)) ∧ True) (by kernel_rfl) (by decide) ?_
            replace s := s.drew; generalize _root_.Go.World.drew _ = w at s ⊢
            have hS : (fun w => BlkIs g9 [.int .i64 (1 + zs.getD k 0 % 4), .int .i64 (1 + zs.getD k 0 % 3), .slice A7 1 c8] w ∧ Reads w 1 (some ad) N ((i64s zs).take (N * 1)) ∧ True) w := ⟨s.blkIs 0 rfl, Reads.take (hr _ s.sat.tail.tail.tail) hNn, trivial⟩
            refine hd_val (i := 0) (.agg #[.int .i64 (1 + zs.getD k 0 % 4), .int .i64 (1 + zs.getD k 0 % 3), .slice A7 1 c8]) ha rfl (by kernel_rfl) (fun _ _ _ h => h) (by kernel_rfl) (fun w hS => run_loadN (of_ := 0) [.int .i64 (1 + zs.getD k 0 % 4), .int .i64 (1 + zs.getD k 0 % 3), .slice A7 1 c8] hS.1 rfl (by kernel_rfl) Try.isAgg29 Try.sizeOf29 rfl (Nat.le_of_ble_eq_true rfl)) hS ?_
            clear ha; intro a ha
            refine hd_val (i := 1) (.bool true) ha rfl (by kernel_rfl) (fun _ _ _ h => h) (by kernel_rfl) (fun w hS => (by kernel_rfl)) hS ?_
            clear ha; intro a ha
            refine hd_val (i := 2) (.slice (some ad) N c) ha rfl (by kernel_rfl) (fun _ _ _ h => h) (by kernel_rfl) (fun w hS => (by kernel_rfl)) hS ?_
            clear ha; intro a ha
            refine hd_val (i := 3) (.int .i64 ((k : Nat) : Int)) ha rfl (by kernel_rfl) (fun _ _ _ h => h) (by kernel_rfl) (fun w hS => (by kernel_rfl)) hS ?_
            clear ha; intro a ha
            refine hd_val (i := 4) (.pointer (some (ad.add (k * 1)))) ha rfl (by kernel_rfl) (fun _ _ _ h => h) (by kernel_rfl) (fun w hS => (run_indexAddr' (kd := .i64) (n := N) (c := c) k rfl Try.underlying47 Try.sizeOf3 (by kernel_rfl) (by kernel_rfl) rfl (by first | assumption | omega) _)) hS ?_
            clear ha; intro a ha
            refine hd_val (i := 5) (.int .i64 (zs.getD k 0)) ha rfl (by kernel_rfl) (fun _ _ _ h => h) (by kernel_rfl) (fun w hS => run_loadRow1 (m := k) hS.2.1 rfl (by kernel_rfl) Try.isAgg3 (by rw [List.getElem?_take, if_pos (by omega)]; exact i64s_at zs k (by omega))) hS ?_
            clear ha; intro a ha
            refine hd_val (i := 8) (.slice (some ad) N c) ha rfl (by kernel_rfl) (fun _ _ _ h => h) (by kernel_rfl) (fun w hS => (by kernel_rfl)) hS ?_
            clear ha; intro a ha
            refine hd_val (i := 9) (.int .i64 ((k : Nat) : Int)) ha rfl (by kernel_rfl) (fun _ _ _ h => h) (by kernel_rfl) (fun w hS => (by kernel_rfl)) hS ?_
            clear ha; intro a ha
            refine hd_val (i := 10) (.pointer (some (ad.add (k * 1)))) ha rfl (by kernel_rfl) (fun _ _ _ h => h) (by kernel_rfl) (fun w hS => (run_indexAddr' (kd := .i64) (n := N) (c := c) k rfl Try.underlying47 Try.sizeOf3 (by kernel_rfl) (by kernel_rfl) rfl (by first | assumption | omega) _)) hS ?_
            clear ha; intro a ha
            refine hd_val (i := 11) (.int .i64 (zs.getD k 0)) ha rfl (by kernel_rfl) (fun _ _ _ h => h) (by kernel_rfl) (fun w hS => run_loadRow1 (m := k) hS.2.1 rfl (by kernel_rfl) Try.isAgg3 (by rw [List.getElem?_take, if_pos (by omega)]; exact i64s_at zs k (by omega))) hS ?_
            clear ha; intro a ha
            refine hd_val (i := 14) (.int .i64 ((k : Nat) : Int)) ha rfl (by kernel_rfl) (fun _ _ _ h => h) (by kernel_rfl) (fun w hS => (by kernel_rfl)) hS ?_
            clear ha; intro a ha
            refine hd_val (i := 15) (.int .u8 (((k : Nat) : Int) % 256)) ha rfl (by kernel_rfl) (fun _ _ _ h => h) (by kernel_rfl) (fun w hS => (run_conv (((k : Nat) : Int) % 256) rfl (by kernel_rfl) Try.underlying3 Try.underlying5 (wrap_u8 _) _)) hS ?_
            clear ha; intro a ha
            refine hd_call (i := 6) ha rfl (by kernel_rfl) (by kernel_rfl) (by kernel_rfl) (bring_pos W _ w (zs.getD k 0) 4 (by omega) (by omega) s) ?_
            clear hS; rintro _ w ⟨rfl, s⟩
            replace s : St W (.blk g9 [.int .i64 (1 + zs.getD k 0 % 4), .int .i64 (1 + zs.getD k 0 % 3), .slice A7 1 c8] 29 :: Own 5 1 A7 1 c8 (u8s [((k : Nat) : Int) % 256]) :: Bag g1 (rest zs N G (k + 1)) :: L) w := s
            have hS : (fun w => BlkIs g9 [.int .i64 (1 + zs.getD k 0 % 4), .int .i64 (1 + zs.getD k 0 % 3), .slice A7 1 c8] w ∧ Reads w 1 (some ad) N ((i64s zs).take (N * 1)) ∧ True) w := ⟨s.blkIs 0 rfl, Reads.take (hr _ s.sat.tail.tail.tail) hNn, trivial⟩
            refine ⟨_, rfl, hS, ?_⟩; clear ha; intro a ha
            refine hd_val (i := 7) (.int .i64 ((1 : Int) + ((zs.getD k 0) % (4 : Int)))) ha rfl (by kernel_rfl) (fun _ _ _ h => h) (by kernel_rfl) (fun w hS => (run_arith ((1 : Int) + ((zs.getD k 0) % (4 : Int))) ((1 : Int) + ((zs.getD k 0) % (4 : Int))) rfl (by kernel_rfl) (by kernel_rfl) (.inl ⟨rfl, rfl⟩) (by rw [wrap64_in (by omega)]) _)) hS ?_
            clear ha; intro a ha
            refine hd_call (i := 12) ha rfl (by kernel_rfl) (by kernel_rfl) (by kernel_rfl) (bring_pos W _ w (zs.getD k 0) 3 (by omega) (by omega) s) ?_
            clear hS; rintro _ w ⟨rfl, s⟩
            replace s : St W (.blk g9 [.int .i64 (1 + zs.getD k 0 % 4), .int .i64 (1 + zs.getD k 0 % 3), .slice A7 1 c8] 29 :: Own 5 1 A7 1 c8 (u8s [((k : Nat) : Int) % 256]) :: Bag g1 (rest zs N G (k + 1)) :: L) w := s
            have hS : (fun w => BlkIs g9 [.int .i64 (1 + zs.getD k 0 % 4), .int .i64 (1 + zs.getD k 0 % 3), .slice A7 1 c8] w ∧ Reads w 1 (some ad) N ((i64s zs).take (N * 1)) ∧ True) w := ⟨s.blkIs 0 rfl, Reads.take (hr _ s.sat.tail.tail.tail) hNn, trivial⟩
            refine ⟨_, rfl, hS, ?_⟩; clear ha; intro a ha
            refine hd_val (i := 13) (.int .i64 ((1 : Int) + ((zs.getD k 0) % (3 : Int)))) ha rfl (by kernel_rfl) (fun _ _ _ h => h) (by kernel_rfl) (fun w hS => (run_arith ((1 : Int) + ((zs.getD k 0) % (3 : Int))) ((1 : Int) + ((zs.getD k 0) % (3 : Int))) rfl (by kernel_rfl) (by kernel_rfl) (.inl ⟨rfl, rfl⟩) (by rw [wrap64_in (by omega)]) _)) hS ?_
            clear ha; intro a ha
            refine hd_call (i := 16) ha rfl (by kernel_rfl) (by kernel_rfl) (by kernel_rfl) (mail_any W _ w ((1 : Int) + ((zs.getD k 0) % (4 : Int))) ((1 : Int) + ((zs.getD k 0) % (3 : Int))) (((k : Nat) : Int) % 256) s) ?_
            clear hS; rintro _ w ⟨A10, c11, rfl, s⟩
            replace s : St W (Own 5 1 A10 1 c11 (u8s [(((k : Nat) : Int) % 256)]) :: .blk g9 [.int .i64 (1 + zs.getD k 0 % 4), .int .i64 (1 + zs.getD k 0 % 3), .slice A7 1 c8] 29 :: Own 5 1 A7 1 c8 (u8s [((k : Nat) : Int) % 256]) :: Bag g1 (rest zs N G (k + 1)) :: L) w := s
            have hS : (fun w => BlkIs g9 [.int .i64 (1 + zs.getD k 0 % 4), .int .i64 (1 + zs.getD k 0 % 3), .slice A7 1 c8] w ∧ Reads w 1 (some ad) N ((i64s zs).take (N * 1)) ∧ True) w := ⟨s.blkIs 1 rfl, Reads.take (hr _ s.sat.tail.tail.tail.tail) hNn, trivial⟩
            refine ⟨_, rfl, hS, ?_⟩; clear ha; intro a ha
            refine Head.done (by kernel_rfl) ?_
            clear hS; simp only [List.drop_succ_cons, List.drop_zero]
            refine st_call ha (by kernel_rfl) (by kernel_rfl) (is_to W _ w (1 + zs.getD k 0 % 4) (1 + zs.getD k 0 % 3) ((1 : Int) + ((zs.getD k 0) % (4 : Int))) ((1 : Int) + ((zs.getD k 0) % (3 : Int))) A7 A10 c8 c11 1 1 [((k : Nat) : Int) % 256] [(((k : Nat) : Int) % 256)] true rfl rfl (Knows.own (j := 2) rfl) (Knows.own (j := 0) rfl) (by omega) (decide_eq_true ⟨rfl, rfl, rfl⟩) s) ?_
            rintro _ w ⟨rfl, s⟩
            replace s : St W (Own 5 1 A10 1 c11 (u8s [(((k : Nat) : Int) % 256)]) :: .blk g9 [.int .i64 (1 + zs.getD k 0 % 4), .int .i64 (1 + zs.getD k 0 % 3), .slice A7 1 c8] 29 :: Own 5 1 A7 1 c8 (u8s [((k : Nat) : Int) % 256]) :: Bag g1 (rest zs N G (k + 1)) :: L) w := s
            refine ⟨_, rfl, ?_⟩; clear ha; intro a ha
            refine st_val (.bool false) ha (by kernel_rfl) (by kernel_rfl) ?_
            clear ha; intro a ha
            refine wpList_nil ?_
            refine then_normal ?_
            refine wp_false ha rfl (by kernel_rfl) ?_
            refine wp_skip ?_
            refine block_normal ?_
            refine then_normal ?_
            refine wp_region_lit ?_
            refine st_val (.int .i64 ((k : Nat) : Int)) ha (by kernel_rfl) (by kernel_rfl) ?_
            clear ha; intro a ha
            refine st_val (.int .i64 ((k + 1 : Nat) : Int)) ha (by kernel_rfl) (run_arith (((k : Nat) : Int) + (1 : Int)) ((k + 1 : Nat) : Int) rfl (by kernel_rfl) (by kernel_rfl) (.inl ⟨rfl, rfl⟩) (by rw [wrap64_in (by omega)]; try omega) _) ?_
            clear ha; intro a ha
            refine st_val (.int .i64 ((k + 1 : Nat) : Int)) ha (by kernel_rfl) (by kernel_rfl) ?_
            clear ha; intro a ha
            refine wpList_nil ?_
            refine then_normal ?_
            replace s := s.at_ (j := 3) rfl
            replace s : St W (Bag g1 (rest zs N G (k + 1)) :: Own 5 1 A10 1 c11 (u8s [(((k : Nat) : Int) % 256)]) :: .blk g9 [.int .i64 (1 + zs.getD k 0 % 4), .int .i64 (1 + zs.getD k 0 % 3), .slice A7 1 c8] 29 :: Own 5 1 A7 1 c8 (u8s [((k : Nat) : Int) % 256]) :: L) w := s
            replace s : St W (Bag g1 (rest zs N G (k + 1)) :: L) w := St.mid (A := [Bag g1 (rest zs N G (k + 1))]) (B := [Own 5 1 A10 1 c11 (u8s [(((k : Nat) : Int) % 256)]), .blk g9 [.int .i64 (1 + zs.getD k 0 % 4), .int .i64 (1 + zs.getD k 0 % 3), .slice A7 1 c8] 29, Own 5 1 A7 1 c8 (u8s [((k : Nat) : Int) % 256])]) s
            exact ⟨k + 1, by omega, (Has.cons ha (by kernel_rfl) (by kernel_rfl) (Has.cons ha (by kernel_rfl) (by kernel_rfl) (Has.cons ha (by kernel_rfl) (by kernel_rfl) (Has.cons ha (by kernel_rfl) (by kernel_rfl) (Has.nil ha))))), s, by omega⟩
        · rw [hb] at ha; replace hb : ¬ (((k : Nat) : Int) < ((N : Nat) : Int)) := of_decide_eq_false hb
          have hk : k = N := by omega
          rw [hk] at s
          refine wp_exit ?_
          refine then_exit ?_
          refine then_exit ?_
          refine block_hit ?_
          refine then_normal ?_
          refine wp_seq ?_
          refine wp_region_lit ?_
          refine st_val (.pointer (some ⟨g1, 0, none⟩)) ha (by kernel_rfl) (by kernel_rfl) ?_
          clear ha; intro a ha
          refine st_call ha (by kernel_rfl) (by kernel_rfl) (take_bag_out W _ w g1 (rest zs N G N) 0 (by rw [rest_end]; simp) s) ?_
          rintro _ w ⟨rfl, s⟩
          replace s : St W (Bag g1 (rest zs N G N) :: L) w := s
          refine ⟨_, rfl, ?_⟩; clear ha; intro a ha
          refine st_val (.tuple #[.agg #[.int .i64 0, .int .i64 0, .slice none 0 0], .bool false]) ha (by kernel_rfl) (by kernel_rfl) ?_
          clear ha; intro a ha
          refine st_val (.agg #[.int .i64 0, .int .i64 0, .slice none 0 0]) ha (by kernel_rfl) (by kernel_rfl) ?_
          clear ha; intro a ha
          refine st_val (.bool false) ha (by kernel_rfl) (by kernel_rfl) ?_
          clear ha; intro a ha
          refine st_ex ha (by kernel_rfl) (ex_alloc [.int .i64 0, .int .i64 0, .slice none 0 0] s rfl (Try.zeroValue29 _) (by kernel_rfl)) ?_
          clear ha; rintro _ w a ⟨g12, rfl, s⟩ ha
          replace s : St W (.blk g12 [.int .i64 0, .int .i64 0, .slice none 0 0] 29 :: Bag g1 (rest zs N G N) :: L) w := s
          refine st_exd ha (by kernel_rfl) (ex_store (of_ := 0) 0 [.int .i64 0, .int .i64 0, .slice none 0 0] s rfl rfl (by kernel_rfl) (by kernel_rfl) (Try.sizeOf29 _) rfl (by simp [Value.oneCell']) (Nat.le_of_ble_eq_true rfl)) ?_
          clear ha; rintro w a s ha
          replace s : St W (.blk g12 [.int .i64 0, .int .i64 0, .slice none 0 0] 29 :: Bag g1 (rest zs N G N) :: L) w := s
          refine st_val (.bool false) ha (by kernel_rfl) (by kernel_rfl) ?_
          clear ha; intro a ha
          refine wpList_nil ?_
          refine then_normal ?_
          refine wp_seq ?_
          refine wp_region_lit ?_
          refine st_val (.bool false) ha (by kernel_rfl) (by kernel_rfl) ?_
          clear ha; intro a ha
          refine st_val (.bool true) ha (by kernel_rfl) (by kernel_rfl) ?_
          clear ha; intro a ha
          refine st_val (.bool true) ha (by kernel_rfl) (by kernel_rfl) ?_
          clear ha; intro a ha
          refine st_val (.pointer (some ⟨g1, 0, none⟩)) ha (by kernel_rfl) (by kernel_rfl) ?_
          clear ha; intro a ha
          replace s := s.at_ (j := 1) rfl
          replace s : St W (Bag g1 (rest zs N G N) :: .blk g12 [.int .i64 0, .int .i64 0, .slice none 0 0] 29 :: L) w := s
          refine st_call ha (by kernel_rfl) (by kernel_rfl) (len_to W _ w g1 (rest zs N G N) 0 (by rw [rest_end]; rfl) s) ?_
          rintro _ w ⟨rfl, s⟩
          replace s : St W (Bag g1 (rest zs N G N) :: .blk g12 [.int .i64 0, .int .i64 0, .slice none 0 0] 29 :: L) w := s
          refine ⟨_, rfl, ?_⟩; clear ha; intro a ha
          refine st_val (.bool true) ha (by kernel_rfl) (by kernel_rfl) ?_
          clear ha; intro a ha
          refine st_val (.bool true) ha (by kernel_rfl) (by kernel_rfl) ?_
          clear ha; intro a ha
          refine st_val (.bool true) ha (by kernel_rfl) (by kernel_rfl) ?_
          clear ha; intro a ha
          refine wpList_nil ?_
          refine then_normal ?_
          refine wp_ret ?_
          refine ret_with (v := .bool true) ha (results_1 rfl ha (res_tmp (by kernel_rfl) (by kernel_rfl))) ?_
          replace s : St W (L) w := St.mid (A := []) (B := [Bag g1 (rest zs N G N), .blk g12 [.int .i64 0, .int .i64 0, .slice none 0 0] 29]) s
          exact ⟨rfl, s⟩

theorem bagOrder_zero (W : World) (L : List Chunk) (w : World) (A : Option Addr) (c : Nat) (q : Int) (s : St W L w) :
    Calls Try.prog 5 #[.slice A 0 c, .int .i64 q] w fun e w' => e = .returned (.bool true) ∧ St W L w' := by
  refine enter_args (l := [.slice A 0 c, .int .i64 q]) Try.func5 rfl rfl (Nat.le_of_ble_eq_true rfl) ?_
  intro a ha; replace ha : Has a 114 [(0, .slice A 0 c), (1, .int .i64 q)] := ha
  refine wp_seq ?_
  refine wp_region_lit ?_
  refine st_val (.bool false) ha (by kernel_rfl) (by kernel_rfl) ?_
  clear ha; intro a ha
  refine wpList_nil ?_
  refine then_normal ?_
  refine wp_seq ?_
  refine wp_seq ?_
  refine wp_region_lit ?_
  refine st_call ha (by kernel_rfl) (by kernel_rfl) (works_true W _ w s) ?_
  rintro _ w ⟨rfl, s⟩
  replace s : St W (L) w := s
  refine ⟨_, rfl, ?_⟩; clear ha; intro a ha
  refine st_val (.bool false) ha (by kernel_rfl) (by kernel_rfl) ?_
  clear ha; intro a ha
  refine wpList_nil ?_
  refine then_normal ?_
  refine wp_false ha rfl (by kernel_rfl) ?_
  refine wp_skip ?_
  refine then_normal ?_
  refine wp_seq ?_
  refine wp_region_lit ?_
  refine st_call ha (by kernel_rfl) (by kernel_rfl) (new_bag W _ w s) ?_
  rintro _ w ⟨g1, rfl, s⟩
  replace s : St W (Bag g1 [] :: L) w := s
  refine ⟨_, rfl, ?_⟩; clear ha; intro a ha
  refine st_val (.pointer (some ⟨g1, 0, none⟩)) ha (by kernel_rfl) (by kernel_rfl) ?_
  clear ha; intro a ha
  refine wpList_nil ?_
  refine then_normal ?_
  refine wp_seq ?_
  refine wp_region_lit ?_
  refine st_val (.slice A 0 c) ha (by kernel_rfl) (by kernel_rfl) ?_
  clear ha; intro a ha
  refine st_val (.slice A 0 c) ha (by kernel_rfl) (by kernel_rfl) ?_
  clear ha; intro a ha
  refine st_val (.int .i64 0) ha (by kernel_rfl) (by kernel_rfl) ?_
  clear ha; intro a ha
  refine st_val (.int .i64 0) ha (by kernel_rfl) (by kernel_rfl) ?_
  clear ha; intro a ha
  refine st_val (.slice A 0 c) ha (by kernel_rfl) (run_slice0 (n := 0) (c := c) 0 c rfl Try.underlying47 Try.sizeOf3 (by kernel_rfl) (fun _ => rfl) bnd_none (bnd_some .i64 (by kernel_rfl)) bnd_none (by omega) (by omega) _) ?_
  clear ha; intro a ha
  refine st_val (.slice A 0 c) ha (by kernel_rfl) (by kernel_rfl) ?_
  clear ha; intro a ha
  refine wpList_nil ?_
  refine then_normal ?_
  refine wp_seq ?_
  refine wp_seq ?_
  refine wp_region_lit ?_
  refine st_val (.int .i64 0) ha (by kernel_rfl) (by kernel_rfl) ?_
  clear ha; intro a ha
  refine wpList_nil ?_
  refine then_normal ?_
  refine wp_block ?_
  refine wp_loopG (G := Unit) (fun _g a w => Has a 114 [(0, .slice A 0 c), (1, .int .i64 q), (5, .pointer (some ⟨g1, 0, none⟩)), (6, .int .i64 0)] ∧ St W (Bag g1 [] :: L) w ∧ True) (fun _g => 0) () ?_ ?_
  · exact ⟨(Has.cons ha (by kernel_rfl) (by kernel_rfl) (Has.cons ha (by kernel_rfl) (by kernel_rfl) (Has.cons ha (by kernel_rfl) (by kernel_rfl) (Has.cons ha (by kernel_rfl) (by kernel_rfl) (Has.nil ha))))), s, trivial⟩
  · clear ha s; rintro _g a w ⟨ha, s, hp⟩
    refine wp_seq ?_
    refine wp_seq ?_
    refine wp_region_lit ?_
    refine st_val (.int .i64 0) ha (by kernel_rfl) (by kernel_rfl) ?_
    clear ha; intro a ha
    refine st_val (.slice A 0 c) ha (by kernel_rfl) (by kernel_rfl) ?_
    clear ha; intro a ha
    refine st_val (.int .i64 0) ha (by kernel_rfl) (by kernel_rfl) ?_
    clear ha; intro a ha
    refine st_val (.bool false) ha (by kernel_rfl) (by kernel_rfl) ?_
    clear ha; intro a ha
    refine wpList_nil ?_
    refine then_normal ?_
    refine wp_false ha rfl (by kernel_rfl) ?_
    refine wp_exit ?_
    refine then_exit ?_
    refine then_exit ?_
    refine block_hit ?_
    refine then_normal ?_
    refine wp_seq ?_
    refine wp_region_lit ?_
    refine st_val (.int .i64 (-1)) ha (by kernel_rfl) (by kernel_rfl) ?_
    clear ha; intro a ha
    refine wpList_nil ?_
    refine then_normal ?_
    refine wp_seq ?_
    refine wp_seq ?_
    refine wp_region_lit ?_
    refine st_val (.slice A 0 c) ha (by kernel_rfl) (by kernel_rfl) ?_
    clear ha; intro a ha
    refine st_val (.int .i64 0) ha (by kernel_rfl) (by kernel_rfl) ?_
    clear ha; intro a ha
    refine st_val (.bool false) ha (by kernel_rfl) (by kernel_rfl) ?_
    clear ha; intro a ha
    refine wpList_nil ?_
    refine then_normal ?_
    refine wp_false ha rfl (by kernel_rfl) ?_
    refine wp_skip ?_
    refine then_normal ?_
    refine wp_seq ?_
    refine wp_seq ?_
    refine wp_region_lit ?_
    refine st_val (.int .i64 0) ha (by kernel_rfl) (by kernel_rfl) ?_
    clear ha; intro a ha
    refine wpList_nil ?_
    refine then_normal ?_
    refine wp_block ?_
    refine wp_loopG (G := Unit) (fun _g a w => Has a 114 [(0, .slice A 0 c), (5, .pointer (some ⟨g1, 0, none⟩)), (7, .int .i64 (-1)), (10, .int .i64 0)] ∧ St W (Bag g1 [] :: L) w ∧ True) (fun _g => 0) () ?_ ?_
    · exact ⟨(Has.cons ha (by kernel_rfl) (by kernel_rfl) (Has.cons ha (by kernel_rfl) (by kernel_rfl) (Has.cons ha (by kernel_rfl) (by kernel_rfl) (Has.cons ha (by kernel_rfl) (by kernel_rfl) (Has.nil ha))))), s, trivial⟩
    · clear ha s; rintro _g a w ⟨ha, s, hp⟩
      refine wp_seq ?_
      refine wp_seq ?_
      refine wp_region_lit ?_
      refine st_val (.int .i64 0) ha (by kernel_rfl) (by kernel_rfl) ?_
      clear ha; intro a ha
      refine st_val (.slice A 0 c) ha (by kernel_rfl) (by kernel_rfl) ?_
      clear ha; intro a ha
      refine st_val (.int .i64 0) ha (by kernel_rfl) (by kernel_rfl) ?_
      clear ha; intro a ha
      refine st_val (.bool false) ha (by kernel_rfl) (by kernel_rfl) ?_
      clear ha; intro a ha
      refine wpList_nil ?_
      refine then_normal ?_
      refine wp_false ha rfl (by kernel_rfl) ?_
      refine wp_exit ?_
      refine then_exit ?_
      refine then_exit ?_
      refine block_hit ?_
      refine then_normal ?_
      refine wp_seq ?_
      refine wp_region_lit ?_
      refine st_val (.pointer (some ⟨g1, 0, none⟩)) ha (by kernel_rfl) (by kernel_rfl) ?_
      clear ha; intro a ha
      refine st_call ha (by kernel_rfl) (by kernel_rfl) (take_bag_out W _ w g1 [] 0 (by simp) s) ?_
      rintro _ w ⟨rfl, s⟩
      replace s : St W (Bag g1 [] :: L) w := s
      refine ⟨_, rfl, ?_⟩; clear ha; intro a ha
      refine st_val (.tuple #[.agg #[.int .i64 0, .int .i64 0, .slice none 0 0], .bool false]) ha (by kernel_rfl) (by kernel_rfl) ?_
      clear ha; intro a ha
      refine st_val (.agg #[.int .i64 0, .int .i64 0, .slice none 0 0]) ha (by kernel_rfl) (by kernel_rfl) ?_
      clear ha; intro a ha
      refine st_val (.bool false) ha (by kernel_rfl) (by kernel_rfl) ?_
      clear ha; intro a ha
      refine st_ex ha (by kernel_rfl) (ex_alloc [.int .i64 0, .int .i64 0, .slice none 0 0] s rfl (Try.zeroValue29 _) (by kernel_rfl)) ?_
      clear ha; rintro _ w a ⟨g2, rfl, s⟩ ha
      replace s : St W (.blk g2 [.int .i64 0, .int .i64 0, .slice none 0 0] 29 :: Bag g1 [] :: L) w := s
      refine st_exd ha (by kernel_rfl) (ex_store (of_ := 0) 0 [.int .i64 0, .int .i64 0, .slice none 0 0] s rfl rfl (by kernel_rfl) (by kernel_rfl) (Try.sizeOf29 _) rfl (by simp [Value.oneCell']) (Nat.le_of_ble_eq_true rfl)) ?_
      clear ha; rintro w a s ha
      replace s : St W (.blk g2 [.int .i64 0, .int .i64 0, .slice none 0 0] 29 :: Bag g1 [] :: L) w := s
      refine st_val (.bool false) ha (by kernel_rfl) (by kernel_rfl) ?_
      clear ha; intro a ha
      refine wpList_nil ?_
      refine then_normal ?_
      refine wp_seq ?_
      refine wp_region_lit ?_
      refine st_val (.bool false) ha (by kernel_rfl) (by kernel_rfl) ?_
      clear ha; intro a ha
      refine st_val (.bool true) ha (by kernel_rfl) (by kernel_rfl) ?_
      clear ha; intro a ha
      refine st_val (.bool true) ha (by kernel_rfl) (by kernel_rfl) ?_
      clear ha; intro a ha
      refine st_val (.pointer (some ⟨g1, 0, none⟩)) ha (by kernel_rfl) (by kernel_rfl) ?_
      clear ha; intro a ha
      replace s := s.at_ (j := 1) rfl
      replace s : St W (Bag g1 [] :: .blk g2 [.int .i64 0, .int .i64 0, .slice none 0 0] 29 :: L) w := s
      refine st_call ha (by kernel_rfl) (by kernel_rfl) (len_to W _ w g1 [] 0 rfl s) ?_
      rintro _ w ⟨rfl, s⟩
      replace s : St W (Bag g1 [] :: .blk g2 [.int .i64 0, .int .i64 0, .slice none 0 0] 29 :: L) w := s
      refine ⟨_, rfl, ?_⟩; clear ha; intro a ha
      refine st_val (.bool true) ha (by kernel_rfl) (by kernel_rfl) ?_
      clear ha; intro a ha
      refine st_val (.bool true) ha (by kernel_rfl) (by kernel_rfl) ?_
      clear ha; intro a ha
      refine st_val (.bool true) ha (by kernel_rfl) (by kernel_rfl) ?_
      clear ha; intro a ha
      refine wpList_nil ?_
      refine then_normal ?_
      refine wp_ret ?_
      refine ret_with (v := .bool true) ha (results_1 rfl ha (res_tmp (by kernel_rfl) (by kernel_rfl))) ?_
      replace s : St W (L) w := St.mid (A := []) (B := [Bag g1 [], .blk g2 [.int .i64 0, .int .i64 0, .slice none 0 0] 29]) s
      exact ⟨rfl, s⟩

theorem bagOrder_any (W : World) (L : List Chunk) (w : World) (A : Option Addr) (n c : Nat) (zs : List Int) (q : Int) (hr : Knows L fun w => Reads w 1 A n (i64s zs)) (hzn : zs.length = n) (hnc : n ≤ c) (s : St W L w) :
    Calls Try.prog 5 #[.slice A n c, .int .i64 q] w fun e w' => e = .returned (.bool true) ∧ St W L w' := by
  by_cases h0 : n = 0
  · subst h0; exact bagOrder_zero W L w A c q s
  · cases A with
    | none => exact absurd rfl ((hr w s.1).2.1 (by omega))
    | some ad =>
      have hN0 : 0 < min n 60 := by omega
      have h1 := Int.emod_nonneg q (show ((min n 60 : Nat) : Int) ≠ 0 by omega)
      have h2 := Int.emod_lt_of_pos q (show (0 : Int) < ((min n 60 : Nat) : Int) by omega)
      exact bagOrder_pos W L w ad n c (min n 60) zs q hr hzn hnc rfl (by omega) (by omega) (q % ((min n 60 : Nat) : Int)).toNat (by omega) (by omega) s

end Go.Proofs.Ytcgnhmdiedfamaa.B
