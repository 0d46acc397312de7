import Derived.Test.YtcnlidaacgcdhaaB8
import Derived.Test.YtcnlidaacgcdhaaB9
namespace Go.Proofs.Ytcnlidaacgcdhaa.B
open Go.RowKit Go.Proofs.Ytcnlidaacgcdhaa.Sep Go.Proofs.Ytcnlidaacgcdhaa.P
set_option linter.unusedVariables false
set_option linter.unusedSimpArgs false
theorem Knows.cells {L : List Chunk} {j g : Nat} {cs : List Value} {t : TypeId} (h : L[j]? = some (.blk g cs t)) : Knows L fun w => BlkIs g cs w := fun w s => (s.perm (perm_at h)).cell
theorem prev_lt {l : List Span} {k : Nat} {v : Span} (ho : l.Pairwise fun s t => s.2 < t.1) (hv : l[k]? = some v) (hk : 0 < k) : ∃ u, l[k - 1]? = some u ∧ u.2 < v.1 := by
  obtain ⟨h, rfl⟩ := List.getElem?_eq_some_iff.1 hv
  exact ⟨l[k - 1], List.getElem?_eq_getElem (by omega), List.pairwise_iff_getElem.1 ho (k - 1) k (by omega) h (by omega)⟩
theorem cnt_take {l : List Span} {i : Nat} {v : Span} (h : l[i]? = some v) (q : K) : decide (0 < cnt (l.take (i + 1)) q) = (decide (0 < cnt (l.take i) q) || has v q) := by
  obtain ⟨hk, rfl⟩ := List.getElem?_eq_some_iff.1 h
  rw [List.take_succ_eq_append_getElem hk, cnt_append]
  by_cases h1 : 0 < cnt (l.take i) q
  · simp [h1]; omega
  · have h1 : cnt (l.take i) q = 0 := by omega
    have h3 : cnt [l[i]] q = if has l[i] q then 1 else 0 := by simp [cnt, List.countP_cons]
    rw [h1, h3]
    cases h2 : has l[i] q <;> simp
theorem cnt_none {l : List Span} {q : K} (h : ∀ (i : Nat) (y : Span), l[i]? = some y → has y q = false) : decide (0 < cnt l q) = false := by
  refine decide_eq_false fun hc => ?_
  obtain ⟨s, hs, hh⟩ := cnt_pos.1 hc
  obtain ⟨i, hi, e⟩ := List.mem_iff_getElem.1 hs
  rw [h i s (by rw [List.getElem?_eq_getElem hi, e])] at hh
  cases hh
theorem cnt_some {l : List Span} {q : K} {i : Nat} {y : Span} (h : l[i]? = some y) (hh : has y q = true) : decide (0 < cnt l q) = true :=
  decide_eq_true (cnt_pos.2 ⟨y, List.mem_of_getElem? h, hh⟩)

theorem ordered_ok (W : World) (L : List Chunk) (w : World) (A : Option Addr) (n ca : Nat) (l : List Span) (hr : Knows L fun w => Reads w 2 A n (sps l)) (hl : l.length = n) (hn : n ≤ 140737488351232) (ho : l.Pairwise fun s t => s.2 < t.1) (hlt : ∀ s ∈ l, s.1 < s.2) (s : St W L w) :
    Calls Try.prog 18 #[.slice A n ca] w fun e w' => e = .returned (.bool true) ∧ St W L w' := by
  refine enter_args (l := [.slice A n ca]) Try.func18 rfl rfl (Nat.le_of_ble_eq_true rfl) ?_
  intro a ha; replace ha : Has a 39 [(0, .slice A n ca)] := ha
  refine wp_seq ?_
  refine wp_region_lit ?_
  refine st_val (.bool false) ha (by kernel_rfl) (by kernel_rfl) ?_
  clear ha; intro a ha
  refine wpList_nil ?_
  refine then_normal ?_
  refine wp_seq ?_
  refine wp_seq ?_
  refine wp_region_lit ?_
  refine st_val (.int .i64 0) ha (by kernel_rfl) (by kernel_rfl) ?_
  clear ha; intro a ha
  refine wpList_nil ?_
  refine then_normal ?_
  refine wp_block ?_
  refine wp_loopG (G := Nat) (fun k a w => Has a 39 [(0, .slice A n ca), (3, .int .i64 ((k : Nat) : Int))] ∧ St W (L) w ∧ (k ≤ n)) (fun k => n - k) 0 ?_ ?_
  · exact ⟨(Has.cons ha (by kernel_rfl) (by kernel_rfl) (Has.cons ha (by kernel_rfl) (by kernel_rfl) (Has.nil ha))), s, Nat.zero_le _⟩
  · clear ha s; rintro k a w ⟨ha, s, hp⟩
    refine wp_seq ?_
    refine wp_seq ?_
    refine wp_region_lit ?_
    refine st_val (.int .i64 ((k : Nat) : Int)) ha (by kernel_rfl) (by kernel_rfl) ?_
    clear ha; intro a ha
    refine st_val (.slice A n ca) ha (by kernel_rfl) (by kernel_rfl) ?_
    clear ha; intro a ha
    refine st_val (.int .i64 ((n : Nat) : Int)) ha (by kernel_rfl) (by kernel_rfl) ?_
    clear ha; intro a ha
    refine st_val (.bool (decide (((k : Nat) : Int) < ((n : Nat) : Int)))) ha (by kernel_rfl) (by kernel_rfl) ?_
    clear ha; intro a ha
    refine wpList_nil ?_
    refine then_normal ?_
    refine wp_part (decide (((k : Nat) : Int) < ((n : Nat) : Int))) ha rfl (by kernel_rfl) (fun hb => ?_) (fun hb => ?_)
    · rw [hb] at ha; replace hb : (((k : Nat) : Int) < ((n : Nat) : Int)) := of_decide_eq_true hb
      have hkn : k < n := by omega
      obtain ⟨v, hv⟩ : ∃ v, l[k]? = some v := ⟨_, List.getElem?_eq_getElem (by omega)⟩
      obtain ⟨ad, hA⟩ := Reads.addr (hr _ (Sat.drops (A := []) s.sat)) (by omega)
      subst hA
      have hvv := hlt v (List.mem_of_getElem? hv)
      refine wp_skip ?_
      refine then_normal ?_
      refine wp_seq ?_
      refine wp_block ?_
      refine wp_seq ?_
      refine wp_region_head 26 (fun w => Reads w 2 (some ad) n (sps l) ∧ True) (by kernel_rfl) (by decide) ?_
      replace s := s.drew; generalize _root_.Go.World.drew _ = w at s ⊢
      have hS : (fun w => Reads w 2 (some ad) n (sps l) ∧ True) w := ⟨(hr _ (Sat.drops (A := []) s.sat)), trivial⟩
      refine hd_val (i := 0) (.slice (some ad) n ca) ha rfl (by kernel_rfl) (fun _ _ _ h => h) (by kernel_rfl) (fun w hS => (by kernel_rfl)) hS ?_
      clear ha; intro a ha
      refine hd_val (i := 1) (.int .i64 ((k : Nat) : Int)) ha rfl (by kernel_rfl) (fun _ _ _ h => h) (by kernel_rfl) (fun w hS => (by kernel_rfl)) hS ?_
      clear ha; intro a ha
      refine hd_val (i := 2) (.pointer (some (ad.add (k * 2)))) ha rfl (by kernel_rfl) (fun _ _ _ h => h) (by kernel_rfl) (fun w hS => (run_indexAddr' (kd := .i64) (i := ((k : Nat) : Int)) (n := n) (c := ca) k rfl Try.underlying22 Try.sizeOf29 (by kernel_rfl) (by kernel_rfl) rfl (by first | assumption | omega) _)) hS ?_
      clear ha; intro a ha
      refine hd_val (i := 3) (.pointer (some (ad.add (k * 2 + 0)))) ha rfl (by kernel_rfl) (fun _ _ _ h => h) (by kernel_rfl) (fun w hS => (run_fieldAddr_at (i := k * 2) (off := 0) rfl Try.underlying29 rfl Try.sizeOf9 (by kernel_rfl) _)) hS ?_
      clear ha; intro a ha
      refine hd_val (i := 4) (.string (str v.1)) ha rfl (by kernel_rfl) (fun _ _ _ h => h) (by kernel_rfl) (fun w hS => run_loadAt1 (i := k * 2 + 0) hS.1 rfl (by kernel_rfl) Try.isAgg9 (by rw [sps_at hv (by omega)]; rfl)) hS ?_
      clear ha; intro a ha
      refine hd_val (i := 5) (.slice (some ad) n ca) ha rfl (by kernel_rfl) (fun _ _ _ h => h) (by kernel_rfl) (fun w hS => (by kernel_rfl)) hS ?_
      clear ha; intro a ha
      refine hd_val (i := 6) (.int .i64 ((k : Nat) : Int)) ha rfl (by kernel_rfl) (fun _ _ _ h => h) (by kernel_rfl) (fun w hS => (by kernel_rfl)) hS ?_
      clear ha; intro a ha
      refine hd_val (i := 7) (.pointer (some (ad.add (k * 2)))) ha rfl (by kernel_rfl) (fun _ _ _ h => h) (by kernel_rfl) (fun w hS => (run_indexAddr' (kd := .i64) (i := ((k : Nat) : Int)) (n := n) (c := ca) k rfl Try.underlying22 Try.sizeOf29 (by kernel_rfl) (by kernel_rfl) rfl (by first | assumption | omega) _)) hS ?_
      clear ha; intro a ha
      refine hd_val (i := 8) (.pointer (some (ad.add (k * 2 + 1)))) ha rfl (by kernel_rfl) (fun _ _ _ h => h) (by kernel_rfl) (fun w hS => (run_fieldAddr_at (i := k * 2) (off := 1) rfl Try.underlying29 rfl Try.sizeOf9 (by kernel_rfl) _)) hS ?_
      clear ha; intro a ha
      refine hd_val (i := 9) (.string (str v.2)) ha rfl (by kernel_rfl) (fun _ _ _ h => h) (by kernel_rfl) (fun w hS => run_loadAt1 (i := k * 2 + 1) hS.1 rfl (by kernel_rfl) Try.isAgg9 (by rw [sps_at hv (by omega)]; rfl)) hS ?_
      clear ha; intro a ha
      refine hd_val (i := 10) (.bool false) ha rfl (by kernel_rfl) (fun _ _ _ h => h) (by kernel_rfl) (fun w hS => (run_known (show (decide (v.2 ≤ v.1)) = false from decide_eq_false (by grind)) (run_sgeq (p := v.1) (q := v.2) rfl (by kernel_rfl) (by kernel_rfl) _))) hS ?_
      clear ha; intro a ha
      refine hd_val (i := 11) (.bool false) ha rfl (by kernel_rfl) (fun _ _ _ h => h) (by kernel_rfl) (fun w hS => (by kernel_rfl)) hS ?_
      clear ha; intro a ha
      refine hd_val (i := 12) (.int .i64 ((k : Nat) : Int)) ha rfl (by kernel_rfl) (fun _ _ _ h => h) (by kernel_rfl) (fun w hS => (by kernel_rfl)) hS ?_
      clear ha; intro a ha
      refine hd_val (i := 13) (.bool (decide (((k : Nat) : Int) > (0 : Int)))) ha rfl (by kernel_rfl) (fun _ _ _ h => h) (by kernel_rfl) (fun w hS => (by kernel_rfl)) hS ?_
      clear ha; intro a ha
      refine hd_val (i := 14) (.bool (decide (((k : Nat) : Int) > (0 : Int)))) ha rfl (by kernel_rfl) (fun _ _ _ h => h) (by kernel_rfl) (fun w hS => (by kernel_rfl)) hS ?_
      clear ha; intro a ha
      rcases Bool.eq_false_or_eq_true (decide (((k : Nat) : Int) > (0 : Int))) with hb | hb
      · rw [hb] at ha; replace hb : (((k : Nat) : Int) > (0 : Int)) := of_decide_eq_true hb
        obtain ⟨u, hu, huv⟩ := prev_lt ho hv (by omega)
        refine hd_val (i := 15) (.slice (some ad) n ca) ha rfl (by kernel_rfl) (fun _ _ _ h => h) (by kernel_rfl) (fun w hS => (by kernel_rfl)) hS ?_
        clear ha; intro a ha
        refine hd_val (i := 16) (.int .i64 ((k : Nat) : Int)) ha rfl (by kernel_rfl) (fun _ _ _ h => h) (by kernel_rfl) (fun w hS => (by kernel_rfl)) hS ?_
        clear ha; intro a ha
        refine hd_val (i := 17) (.int .i64 ((k - 1 : Nat) : Int)) ha rfl (by kernel_rfl) (fun _ _ _ h => h) (by kernel_rfl) (fun w hS => (run_arith (((k : Nat) : Int) - (1 : Int)) ((k - 1 : Nat) : Int) rfl (by kernel_rfl) (by kernel_rfl) (.inr (.inl ⟨rfl, rfl⟩)) (by rw [wrap64_in (by omega)]; try omega) _)) hS ?_
        clear ha; intro a ha
        refine hd_val (i := 18) (.pointer (some (ad.add ((k - 1) * 2)))) ha rfl (by kernel_rfl) (fun _ _ _ h => h) (by kernel_rfl) (fun w hS => (run_indexAddr' (kd := .i64) (i := ((k - 1 : Nat) : Int)) (n := n) (c := ca) (k - 1) rfl Try.underlying22 Try.sizeOf29 (by kernel_rfl) (by kernel_rfl) rfl (by first | assumption | omega) _)) hS ?_
        clear ha; intro a ha
        refine hd_val (i := 19) (.pointer (some (ad.add ((k - 1) * 2 + 1)))) ha rfl (by kernel_rfl) (fun _ _ _ h => h) (by kernel_rfl) (fun w hS => (run_fieldAddr_at (i := (k - 1) * 2) (off := 1) rfl Try.underlying29 rfl Try.sizeOf9 (by kernel_rfl) _)) hS ?_
        clear ha; intro a ha
        refine hd_val (i := 20) (.string (str u.2)) ha rfl (by kernel_rfl) (fun _ _ _ h => h) (by kernel_rfl) (fun w hS => run_loadAt1 (i := (k - 1) * 2 + 1) hS.1 rfl (by kernel_rfl) Try.isAgg9 (by rw [sps_at hu (by omega)]; rfl)) hS ?_
        clear ha; intro a ha
        refine hd_val (i := 21) (.slice (some ad) n ca) ha rfl (by kernel_rfl) (fun _ _ _ h => h) (by kernel_rfl) (fun w hS => (by kernel_rfl)) hS ?_
        clear ha; intro a ha
        refine hd_val (i := 22) (.int .i64 ((k : Nat) : Int)) ha rfl (by kernel_rfl) (fun _ _ _ h => h) (by kernel_rfl) (fun w hS => (by kernel_rfl)) hS ?_
        clear ha; intro a ha
        refine hd_val (i := 23) (.pointer (some (ad.add (k * 2)))) ha rfl (by kernel_rfl) (fun _ _ _ h => h) (by kernel_rfl) (fun w hS => (run_indexAddr' (kd := .i64) (i := ((k : Nat) : Int)) (n := n) (c := ca) k rfl Try.underlying22 Try.sizeOf29 (by kernel_rfl) (by kernel_rfl) rfl (by first | assumption | omega) _)) hS ?_
        clear ha; intro a ha
        refine hd_val (i := 24) (.pointer (some (ad.add (k * 2 + 0)))) ha rfl (by kernel_rfl) (fun _ _ _ h => h) (by kernel_rfl) (fun w hS => (run_fieldAddr_at (i := k * 2) (off := 0) rfl Try.underlying29 rfl Try.sizeOf9 (by kernel_rfl) _)) hS ?_
        clear ha; intro a ha
        refine hd_val (i := 25) (.string (str v.1)) ha rfl (by kernel_rfl) (fun _ _ _ h => h) (by kernel_rfl) (fun w hS => run_loadAt1 (i := k * 2 + 0) hS.1 rfl (by kernel_rfl) Try.isAgg9 (by rw [sps_at hv (by omega)]; rfl)) hS ?_
        clear ha; intro a ha
        refine Head.done (by kernel_rfl) ?_
        clear hS; simp only [List.drop_succ_cons, List.drop_zero]
        refine st_val (.bool false) ha (by kernel_rfl) (run_known (show (decide (v.1 ≤ u.2)) = false from decide_eq_false (by grind)) (run_sgeq (p := u.2) (q := v.1) rfl (by kernel_rfl) (by kernel_rfl) _)) ?_
        clear ha; intro a ha
        refine st_val (.bool false) ha (by kernel_rfl) (by kernel_rfl) ?_
        clear ha; intro a ha
        refine st_val (.bool false) ha (by kernel_rfl) (by kernel_rfl) ?_
        clear ha; intro a ha
        refine wpList_nil ?_
        refine then_normal ?_
        refine wp_false ha rfl (by kernel_rfl) ?_
        refine wp_skip ?_
        refine block_normal ?_
        refine then_normal ?_
        refine wp_region_lit ?_
        refine st_val (.int .i64 ((k : Nat) : Int)) ha (by kernel_rfl) (by kernel_rfl) ?_
        clear ha; intro a ha
        refine st_val (.int .i64 ((k + 1 : Nat) : Int)) ha (by kernel_rfl) (run_arith (((k : Nat) : Int) + (1 : Int)) ((k + 1 : Nat) : Int) rfl (by kernel_rfl) (by kernel_rfl) (.inl ⟨rfl, rfl⟩) (by rw [wrap64_in (by omega)]; try omega) _) ?_
        clear ha; intro a ha
        refine st_val (.int .i64 ((k + 1 : Nat) : Int)) ha (by kernel_rfl) (by kernel_rfl) ?_
        clear ha; intro a ha
        refine wpList_nil ?_
        refine then_normal ?_
        exact ⟨k + 1, by omega, (Has.cons ha (by kernel_rfl) (by kernel_rfl) (Has.cons ha (by kernel_rfl) (by kernel_rfl) (Has.nil ha))), s, by omega⟩
      · rw [hb] at ha; replace hb : ¬ (((k : Nat) : Int) > (0 : Int)) := of_decide_eq_false hb
        refine hd_pass (i := 15) ha rfl (by kernel_rfl) (fun _ _ _ h => h) (by kernel_rfl) hS ?_
        clear ha; intro a ha
        refine hd_pass (i := 16) ha rfl (by kernel_rfl) (fun _ _ _ h => h) (by kernel_rfl) hS ?_
        clear ha; intro a ha
        refine hd_pass (i := 17) ha rfl (by kernel_rfl) (fun _ _ _ h => h) (by kernel_rfl) hS ?_
        clear ha; intro a ha
        refine hd_pass (i := 18) ha rfl (by kernel_rfl) (fun _ _ _ h => h) (by kernel_rfl) hS ?_
        clear ha; intro a ha
        refine hd_pass (i := 19) ha rfl (by kernel_rfl) (fun _ _ _ h => h) (by kernel_rfl) hS ?_
        clear ha; intro a ha
        refine hd_pass (i := 20) ha rfl (by kernel_rfl) (fun _ _ _ h => h) (by kernel_rfl) hS ?_
        clear ha; intro a ha
        refine hd_pass (i := 21) ha rfl (by kernel_rfl) (fun _ _ _ h => h) (by kernel_rfl) hS ?_
        clear ha; intro a ha
        refine hd_pass (i := 22) ha rfl (by kernel_rfl) (fun _ _ _ h => h) (by kernel_rfl) hS ?_
        clear ha; intro a ha
        refine hd_pass (i := 23) ha rfl (by kernel_rfl) (fun _ _ _ h => h) (by kernel_rfl) hS ?_
        clear ha; intro a ha
        refine hd_pass (i := 24) ha rfl (by kernel_rfl) (fun _ _ _ h => h) (by kernel_rfl) hS ?_
        clear ha; intro a ha
        refine hd_pass (i := 25) ha rfl (by kernel_rfl) (fun _ _ _ h => h) (by kernel_rfl) hS ?_
        clear ha; intro a ha
        refine Head.done (by kernel_rfl) ?_
        clear hS; simp only [List.drop_succ_cons, List.drop_zero]
        refine st_pass ha (by kernel_rfl) ?_
        clear ha; intro a ha
        refine st_val (.bool false) ha (by kernel_rfl) (by kernel_rfl) ?_
        clear ha; intro a ha
        refine st_val (.bool false) ha (by kernel_rfl) (by kernel_rfl) ?_
        clear ha; intro a ha
        refine wpList_nil ?_
        refine then_normal ?_
        refine wp_false ha rfl (by kernel_rfl) ?_
        refine wp_skip ?_
        refine block_normal ?_
        refine then_normal ?_
        refine wp_region_lit ?_
        refine st_val (.int .i64 ((k : Nat) : Int)) ha (by kernel_rfl) (by kernel_rfl) ?_
        clear ha; intro a ha
        refine st_val (.int .i64 ((k + 1 : Nat) : Int)) ha (by kernel_rfl) (run_arith (((k : Nat) : Int) + (1 : Int)) ((k + 1 : Nat) : Int) rfl (by kernel_rfl) (by kernel_rfl) (.inl ⟨rfl, rfl⟩) (by rw [wrap64_in (by omega)]; try omega) _) ?_
        clear ha; intro a ha
        refine st_val (.int .i64 ((k + 1 : Nat) : Int)) ha (by kernel_rfl) (by kernel_rfl) ?_
        clear ha; intro a ha
        refine wpList_nil ?_
        refine then_normal ?_
        exact ⟨k + 1, by omega, (Has.cons ha (by kernel_rfl) (by kernel_rfl) (Has.cons ha (by kernel_rfl) (by kernel_rfl) (Has.nil ha))), s, by omega⟩
    · rw [hb] at ha; replace hb : ¬ (((k : Nat) : Int) < ((n : Nat) : Int)) := of_decide_eq_false hb
      refine wp_exit ?_
      refine then_exit ?_
      refine then_exit ?_
      refine block_hit ?_
      refine then_normal ?_
      refine wp_seq ?_
      refine wp_region_lit ?_
      refine st_val (.bool true) ha (by kernel_rfl) (by kernel_rfl) ?_
      clear ha; intro a ha
      refine wpList_nil ?_
      refine then_normal ?_
      refine wp_ret ?_
      refine ret_with (v := .bool true) ha (results_1 rfl ha (res_tmp (by kernel_rfl) (by kernel_rfl))) ?_
      exact ⟨rfl, s⟩

theorem in1_any (W : World) (L : List Chunk) (w : World) (v : Span) (q : K) (g : Nat) (hg : Knows L fun w => BlkIs g [.string (str q)] w) (s : St W L w) :
    Calls Try.prog 28 #[.agg #[.string (str v.1), .string (str v.2)], .pointer (some ⟨g, 0, none⟩)] w fun e w' => e = .returned (.bool (has v q)) ∧ St W L w' := by
  refine enter_args (l := [.agg #[.string (str v.1), .string (str v.2)], .pointer (some ⟨g, 0, none⟩)]) Try.func28 rfl rfl (Nat.le_of_ble_eq_true rfl) ?_
  intro a ha; replace ha : Has a 7 [(0, .agg #[.string (str v.1), .string (str v.2)]), (1, .pointer (some ⟨g, 0, none⟩))] := ha
  refine wp_seq ?_
  refine wp_region_lit ?_
  refine st_ex ha (by kernel_rfl) (ex_box [.string (str v.1), .string (str v.2)] s rfl (by kernel_rfl)) ?_
  clear ha; rintro _ w a ⟨g1, rfl, s⟩ ha
  replace s : St W (.blk g1 [.string (str v.1), .string (str v.2)] 29 :: L) w := s
  refine st_val (.bool false) ha (by kernel_rfl) (by kernel_rfl) ?_
  clear ha; intro a ha
  refine wpList_nil ?_
  refine then_normal ?_
  refine wp_seq ?_
  refine wp_region_lit ?_
  refine st_val (.agg #[.string (str v.1), .string (str v.2)]) ha (by kernel_rfl) (run_loadN (of_ := 0) [.string (str v.1), .string (str v.2)] (s.blkIs 0 rfl) rfl (by kernel_rfl) Try.isAgg29 Try.sizeOf29 rfl (Nat.le_of_ble_eq_true rfl)) ?_
  clear ha; intro a ha
  refine st_val (.string (str q)) ha (by kernel_rfl) (run_load1 (of_ := 0) ((hg _ (Sat.drops (A := [.blk g1 [.string (str v.1), .string (str v.2)] 29]) s.sat))) rfl (by kernel_rfl) Try.isAgg9 rfl) ?_
  clear ha; intro a ha
  refine st_call ha (by kernel_rfl) (by kernel_rfl) (has_any W _ w v q s) ?_
  rintro _ w ⟨rfl, s⟩
  replace s : St W (.blk g1 [.string (str v.1), .string (str v.2)] 29 :: L) w := s
  refine ⟨_, rfl, ?_⟩; clear ha; intro a ha
  refine st_val (.bool (has v q)) ha (by kernel_rfl) (by kernel_rfl) ?_
  clear ha; intro a ha
  refine wpList_nil ?_
  refine then_normal ?_
  refine wp_ret ?_
  refine ret_with (v := .bool (has v q)) ha (results_1 rfl ha (res_tmp (by kernel_rfl) (by kernel_rfl))) ?_
  replace s := s.tail
  replace s : St W (L) w := s
  exact ⟨rfl, s⟩

theorem index_any (W : World) (L : List Chunk) (w : World) (A : Option Addr) (n ca : Nat) (l : List Span) (hr : Knows L fun w => Reads w 2 A n (sps l)) (hl : l.length = n) (hn : n ≤ 140737488351232) (q : K) (g : Nat) (hg : Knows L fun w => BlkIs g [.string (str q)] w) (s : St W L w) :
    Calls Try.prog 38 #[.slice A n ca, .func (.func 28) #[] #[.pointer (some ⟨g, 0, none⟩)]] w fun e w' => ∃ r : Int, e = .returned (.int .i64 r) ∧ decide (r ≥ 0) = decide (0 < cnt l q) ∧ St W L w' := by
  refine enter_args (l := [.slice A n ca, .func (.func 28) #[] #[.pointer (some ⟨g, 0, none⟩)]]) Try.func38 rfl rfl (Nat.le_of_ble_eq_true rfl) ?_
  intro a ha; replace ha : Has a 19 [(0, .slice A n ca), (1, .func (.func 28) #[] #[.pointer (some ⟨g, 0, none⟩)])] := ha
  refine wp_seq ?_
  refine wp_region_lit ?_
  refine st_val (.int .i64 0) ha (by kernel_rfl) (by kernel_rfl) ?_
  clear ha; intro a ha
  refine wpList_nil ?_
  refine then_normal ?_
  refine wp_seq ?_
  refine wp_seq ?_
  refine wp_region_lit ?_
  refine st_val (.slice A n ca) ha (by kernel_rfl) (by kernel_rfl) ?_
  clear ha; intro a ha
  refine st_val (.int .i64 ((n : Nat) : Int)) ha (by kernel_rfl) (by kernel_rfl) ?_
  clear ha; intro a ha
  refine st_val (.int .i64 0) ha (by kernel_rfl) (by kernel_rfl) ?_
  clear ha; intro a ha
  refine wpList_nil ?_
  refine then_normal ?_
  refine wp_block ?_
  refine wp_loopG (G := Nat) (fun k a w => Has a 19 [(0, .slice A n ca), (1, .func (.func 28) #[] #[.pointer (some ⟨g, 0, none⟩)]), (7, .int .i64 ((n : Nat) : Int)), (8, .int .i64 ((k : Nat) : Int))] ∧ St W (L) w ∧ (k ≤ n ∧ ∀ i, i < k → ∀ y, l[i]? = some y → has y q = false)) (fun k => n - k) 0 ?_ ?_
  · exact ⟨(Has.cons ha (by kernel_rfl) (by kernel_rfl) (Has.cons ha (by kernel_rfl) (by kernel_rfl) (Has.cons ha (by kernel_rfl) (by kernel_rfl) (Has.cons ha (by kernel_rfl) (by kernel_rfl) (Has.nil ha))))), s, ⟨Nat.zero_le _, fun i hi => absurd hi (Nat.not_lt_zero _)⟩⟩
  · clear ha s; rintro k a w ⟨ha, s, hp⟩
    refine wp_seq ?_
    refine wp_region_lit ?_
    refine st_val (.bool (decide (((k : Nat) : Int) < ((n : Nat) : Int)))) ha (by kernel_rfl) (by kernel_rfl) ?_
    clear ha; intro a ha
    refine wpList_nil ?_
    refine then_normal ?_
    refine wp_seq ?_
    refine wp_part (decide (((k : Nat) : Int) < ((n : Nat) : Int))) ha rfl (by kernel_rfl) (fun hb => ?_) (fun hb => ?_)
    · rw [hb] at ha; replace hb : (((k : Nat) : Int) < ((n : Nat) : Int)) := of_decide_eq_true hb
      have hkn : k < n := by omega
      obtain ⟨v, hv⟩ : ∃ v, l[k]? = some v := ⟨_, List.getElem?_eq_getElem (by omega)⟩
      obtain ⟨ad, hA⟩ := Reads.addr (hr _ (Sat.drops (A := []) s.sat)) (by omega)
      subst hA
      refine wp_skip ?_
      refine then_normal ?_
      refine wp_seq ?_
      refine wp_block ?_
      refine wp_seq ?_
      refine wp_region_lit ?_
      refine st_val (.int .i64 ((k : Nat) : Int)) ha (by kernel_rfl) (by kernel_rfl) ?_
      clear ha; intro a ha
      refine st_val (.int .i64 ((k : Nat) : Int)) ha (by kernel_rfl) (by kernel_rfl) ?_
      clear ha; intro a ha
      refine wpList_nil ?_
      refine then_normal ?_
      refine wp_seq ?_
      refine wp_region_lit ?_
      refine st_val (.func (.func 28) #[] #[.pointer (some ⟨g, 0, none⟩)]) ha (by kernel_rfl) (by kernel_rfl) ?_
      clear ha; intro a ha
      refine st_val (.slice (some ad) n ca) ha (by kernel_rfl) (by kernel_rfl) ?_
      clear ha; intro a ha
      refine st_val (.int .i64 ((k : Nat) : Int)) ha (by kernel_rfl) (by kernel_rfl) ?_
      clear ha; intro a ha
      refine st_val (.pointer (some (ad.add (k * 2)))) ha (by kernel_rfl) (run_indexAddr' (kd := .i64) (i := ((k : Nat) : Int)) (n := n) (c := ca) k rfl Try.underlying22 Try.sizeOf29 (by kernel_rfl) (by kernel_rfl) rfl (by first | assumption | omega) _) ?_
      clear ha; intro a ha
      refine st_val (.agg #[.string (str v.1), .string (str v.2)]) ha (by kernel_rfl) (run_loadAtN (i := k * 2) [.string (str v.1), .string (str v.2)] ((hr _ (Sat.drops (A := []) s.sat))) rfl (by kernel_rfl) Try.isAgg29 Try.sizeOf29 (fun j hj => sps_at hv hj) rfl) ?_
      clear ha; intro a ha
      refine st_call ha (by kernel_rfl) (by kernel_rfl) (in1_any W _ w v q g hg s) ?_
      rintro _ w ⟨rfl, s⟩
      replace s : St W (L) w := s
      refine ⟨_, rfl, ?_⟩; clear ha; intro a ha
      refine wpList_nil ?_
      refine then_normal ?_
      refine wp_part (has v q) ha rfl (by kernel_rfl) (fun hb => ?_) (fun hb => ?_)
      · rw [hb] at ha; skip
        refine wp_seq ?_
        refine wp_region_lit ?_
        refine st_val (.int .i64 ((k : Nat) : Int)) ha (by kernel_rfl) (by kernel_rfl) ?_
        clear ha; intro a ha
        refine st_val (.int .i64 ((k : Nat) : Int)) ha (by kernel_rfl) (by kernel_rfl) ?_
        clear ha; intro a ha
        refine wpList_nil ?_
        refine then_normal ?_
        refine wp_ret ?_
        refine block_ret ?_
        refine then_ret ?_
        refine then_ret ?_
        refine block_ret ?_
        refine then_ret ?_
        refine ret_with (v := .int .i64 ((k : Nat) : Int)) ha (results_1 rfl ha (res_tmp (by kernel_rfl) (by kernel_rfl))) ?_
        refine ⟨_, rfl, ?_, s⟩
        rw [cnt_some hv hb]
        exact decide_eq_true (by omega)
      · rw [hb] at ha; skip
        refine wp_skip ?_
        refine block_normal ?_
        refine then_normal ?_
        refine wp_region_lit ?_
        refine st_val (.int .i64 ((k + 1 : Nat) : Int)) ha (by kernel_rfl) (run_arith (((k : Nat) : Int) + (1 : Int)) ((k + 1 : Nat) : Int) rfl (by kernel_rfl) (by kernel_rfl) (.inl ⟨rfl, rfl⟩) (by rw [wrap64_in (by omega)]; try omega) _) ?_
        clear ha; intro a ha
        refine st_val (.int .i64 ((k + 1 : Nat) : Int)) ha (by kernel_rfl) (by kernel_rfl) ?_
        clear ha; intro a ha
        refine wpList_nil ?_
        refine then_normal ?_
        exact ⟨k + 1, by omega, (Has.cons ha (by kernel_rfl) (by kernel_rfl) (Has.cons ha (by kernel_rfl) (by kernel_rfl) (Has.cons ha (by kernel_rfl) (by kernel_rfl) (Has.cons ha (by kernel_rfl) (by kernel_rfl) (Has.nil ha))))), s, by omega, fun i hi y hy => by
        rcases Nat.lt_or_ge i k with h | h
        · exact hp.2 i h y hy
        · have hik : i = k := by omega
          rw [hik, hv] at hy; cases hy; exact hb⟩
    · rw [hb] at ha; replace hb : ¬ (((k : Nat) : Int) < ((n : Nat) : Int)) := of_decide_eq_false hb
      refine wp_exit ?_
      refine then_exit ?_
      refine then_exit ?_
      refine block_hit ?_
      refine then_normal ?_
      refine wp_seq ?_
      refine wp_region_lit ?_
      refine st_val (.int .i64 (-1)) ha (by kernel_rfl) (by kernel_rfl) ?_
      clear ha; intro a ha
      refine wpList_nil ?_
      refine then_normal ?_
      refine wp_ret ?_
      refine ret_with (v := .int .i64 (-1)) ha (results_1 rfl ha (res_tmp (by kernel_rfl) (by kernel_rfl))) ?_
      refine ⟨_, rfl, ?_, s⟩
      rw [cnt_none fun i y h => hp.2 i (by have := (List.getElem?_eq_some_iff.1 h).1; omega) y h]
      rfl

theorem contains_any (W : World) (L : List Chunk) (w : World) (A : Option Addr) (n ca : Nat) (l : List Span) (hr : Knows L fun w => Reads w 2 A n (sps l)) (hl : l.length = n) (hn : n ≤ 140737488351232) (q : K) (g : Nat) (hg : Knows L fun w => BlkIs g [.string (str q)] w) (s : St W L w) :
    Calls Try.prog 27 #[.slice A n ca, .func (.func 28) #[] #[.pointer (some ⟨g, 0, none⟩)]] w fun e w' => e = .returned (.bool (decide (0 < cnt l q))) ∧ St W L w' := by
  refine enter_args (l := [.slice A n ca, .func (.func 28) #[] #[.pointer (some ⟨g, 0, none⟩)]]) Try.func27 rfl rfl (Nat.le_of_ble_eq_true rfl) ?_
  intro a ha; replace ha : Has a 9 [(0, .slice A n ca), (1, .func (.func 28) #[] #[.pointer (some ⟨g, 0, none⟩)])] := ha
  refine wp_seq ?_
  refine wp_region_lit ?_
  refine st_val (.bool false) ha (by kernel_rfl) (by kernel_rfl) ?_
  clear ha; intro a ha
  refine wpList_nil ?_
  refine then_normal ?_
  refine wp_seq ?_
  refine wp_region_lit ?_
  refine st_val (.slice A n ca) ha (by kernel_rfl) (by kernel_rfl) ?_
  clear ha; intro a ha
  refine st_val (.func (.func 28) #[] #[.pointer (some ⟨g, 0, none⟩)]) ha (by kernel_rfl) (by kernel_rfl) ?_
  clear ha; intro a ha
  refine st_call ha (by kernel_rfl) (by kernel_rfl) (index_any W _ w A n ca l hr hl hn q g hg s) ?_
  rintro _ w ⟨r, rfl, hr0, s⟩
  replace s : St W (L) w := s
  refine ⟨_, rfl, ?_⟩; clear ha; intro a ha
  refine st_val (.bool (decide (r ≥ (0 : Int)))) ha (by kernel_rfl) (by kernel_rfl) ?_
  clear ha; intro a ha
  refine st_val (.bool (decide (r ≥ (0 : Int)))) ha (by kernel_rfl) (by kernel_rfl) ?_
  clear ha; intro a ha
  refine wpList_nil ?_
  refine then_normal ?_
  refine wp_ret ?_
  refine ret_with (v := .bool (decide (r ≥ (0 : Int)))) ha (results_1 rfl ha (res_tmp (by kernel_rfl) (by kernel_rfl))) ?_
  exact ⟨by rw [hr0], s⟩

theorem in_any (W : World) (L : List Chunk) (w : World) (A : Option Addr) (n ca : Nat) (l : List Span) (hr : Knows L fun w => Reads w 2 A n (sps l)) (hl : l.length = n) (hn : n ≤ 140737488351232) (q : K) (s : St W L w) :
    Calls Try.prog 19 #[.slice A n ca, .string (str q)] w fun e w' => e = .returned (.bool (decide (0 < cnt l q))) ∧ St W L w' := by
  refine enter_args (l := [.slice A n ca, .string (str q)]) Try.func19 rfl rfl (Nat.le_of_ble_eq_true rfl) ?_
  intro a ha; replace ha : Has a 8 [(0, .slice A n ca), (1, .string (str q))] := ha
  refine wp_seq ?_
  refine wp_region_lit ?_
  refine st_ex ha (by kernel_rfl) (ex_box [.string (str q)] s rfl (by kernel_rfl)) ?_
  clear ha; rintro _ w a ⟨g1, rfl, s⟩ ha
  replace s : St W (.blk g1 [.string (str q)] 9 :: L) w := s
  refine st_val (.bool false) ha (by kernel_rfl) (by kernel_rfl) ?_
  clear ha; intro a ha
  refine wpList_nil ?_
  refine then_normal ?_
  refine wp_seq ?_
  refine wp_region_lit ?_
  refine st_val (.slice A n ca) ha (by kernel_rfl) (by kernel_rfl) ?_
  clear ha; intro a ha
  refine st_val (.func (.func 28) #[] #[.pointer (some ⟨g1, 0, none⟩)]) ha (by kernel_rfl) (by kernel_rfl) ?_
  clear ha; intro a ha
  refine st_call ha (by kernel_rfl) (by kernel_rfl) (contains_any W _ w A n ca l (fun w s => hr w (Sat.drops (A := [.blk g1 [.string (str q)] 9]) s)) hl hn q g1 (Knows.cells (j := 0) rfl) s) ?_
  rintro _ w ⟨rfl, s⟩
  replace s : St W (.blk g1 [.string (str q)] 9 :: L) w := s
  refine ⟨_, rfl, ?_⟩; clear ha; intro a ha
  refine st_val (.bool (decide (0 < cnt l q))) ha (by kernel_rfl) (by kernel_rfl) ?_
  clear ha; intro a ha
  refine wpList_nil ?_
  refine then_normal ?_
  refine wp_ret ?_
  refine ret_with (v := .bool (decide (0 < cnt l q))) ha (results_1 rfl ha (res_tmp (by kernel_rfl) (by kernel_rfl))) ?_
  replace s := s.tail
  replace s : St W (L) w := s
  exact ⟨rfl, s⟩

theorem in_is (W : World) (L : List Chunk) (w : World) (A : Option Addr) (n ca : Nat) (l : List Span) (hr : Knows L fun w => Reads w 2 A n (sps l)) (hl : l.length = n) (hn : n ≤ 140737488351232) (q : K) (b : Bool) (h : decide (0 < cnt l q) = b) (s : St W L w) : Calls Try.prog 19 #[.slice A n ca, .string (str q)] w fun e w' => e = .returned (.bool b) ∧ St W L w' := by
  subst h; exact in_any W L w A n ca l hr hl hn q s

theorem spansKeys_true_true (W : World) (L : List Chunk) (w : World) (A B : Option Addr) (n m ca cb : Nat) (la lb : List Span) (hra : Knows L fun w => Reads w 2 A n (sps la)) (hrb : Knows L fun w => Reads w 2 B m (sps lb)) (han : la.length = n) (hbm : lb.length = m) (hn : n ≤ 140737488351232) (hm : m ≤ 140737488351232) (q : K) (h1 : decide (0 < cnt la q) = true) (h2 : decide (0 < cnt lb q) = true) (s : St W L w) :
    Calls Try.prog 6 #[.slice A n ca, .slice B m cb, .string (str q)] w fun e w' => e = .returned (.bool true) ∧ St W L w' := by
  have h3 : decide (cnt lb q = 0) = false := by simp at h2 ⊢; omega
  refine enter_args (l := [.slice A n ca, .slice B m cb, .string (str q)]) Try.func6 rfl rfl (Nat.le_of_ble_eq_true rfl) ?_
  intro a ha; replace ha : Has a 151 [(0, .slice A n ca), (1, .slice B m cb), (2, .string (str q))] := ha
  refine wp_seq ?_
  refine wp_region_lit ?_
  refine st_val (.bool false) ha (by kernel_rfl) (by kernel_rfl) ?_
  clear ha; intro a ha
  refine wpList_nil ?_
  refine then_normal ?_
  refine wp_seq ?_
  refine wp_seq ?_
  refine wp_region_lit ?_
  refine st_call ha (by kernel_rfl) (by kernel_rfl) (works_true W _ w s) ?_
  rintro _ w ⟨rfl, s⟩
  replace s : St W (L) w := s
  refine ⟨_, rfl, ?_⟩; clear ha; intro a ha
  refine st_val (.bool false) ha (by kernel_rfl) (by kernel_rfl) ?_
  clear ha; intro a ha
  refine wpList_nil ?_
  refine then_normal ?_
  refine wp_false ha rfl (by kernel_rfl) ?_
  refine wp_skip ?_
  refine then_normal ?_
  refine wp_seq ?_
  refine wp_seq ?_
  refine wp_region_lit ?_
  refine st_val (.slice A n ca) ha (by kernel_rfl) (by kernel_rfl) ?_
  clear ha; intro a ha
  refine st_call ha (by kernel_rfl) (by kernel_rfl) (may_any W _ w A n ca la (fun w s => hra w (Sat.drops (A := []) s)) han hn s) ?_
  rintro _ w ⟨bn, rfl, hmayn, s⟩
  replace s : St W (L) w := s
  refine ⟨_, rfl, ?_⟩; clear ha; intro a ha
  refine st_val (.bool (!bn)) ha (by kernel_rfl) (by kernel_rfl) ?_
  clear ha; intro a ha
  refine st_val (.bool (!bn)) ha (by kernel_rfl) (by kernel_rfl) ?_
  clear ha; intro a ha
  rcases Bool.eq_false_or_eq_true (!bn) with hb | hb
  · rw [hb] at ha; skip
    refine st_pass ha (by kernel_rfl) ?_
    clear ha; intro a ha
    refine st_pass ha (by kernel_rfl) ?_
    clear ha; intro a ha
    refine st_pass ha (by kernel_rfl) ?_
    clear ha; intro a ha
    refine st_val (.bool true) ha (by kernel_rfl) (by kernel_rfl) ?_
    clear ha; intro a ha
    refine wpList_nil ?_
    refine then_normal ?_
    refine wp_true ha rfl (by kernel_rfl) ?_
    refine wp_seq ?_
    refine wp_region_lit ?_
    refine st_val (.bool true) ha (by kernel_rfl) (by kernel_rfl) ?_
    clear ha; intro a ha
    refine wpList_nil ?_
    refine then_normal ?_
    refine wp_ret ?_
    refine then_ret ?_
    refine ret_with (v := .bool true) ha (results_1 rfl ha (res_tmp (by kernel_rfl) (by kernel_rfl))) ?_
    exact ⟨rfl, s⟩
  · rw [hb] at ha; skip
    obtain ⟨hn3, hoka⟩ := hmayn (by simpa using hb)
    refine st_val (.slice B m cb) ha (by kernel_rfl) (by kernel_rfl) ?_
    clear ha; intro a ha
    refine st_call ha (by kernel_rfl) (by kernel_rfl) (may_any W _ w B m cb lb (fun w s => hrb w (Sat.drops (A := []) s)) hbm hm s) ?_
    rintro _ w ⟨bm, rfl, hmaym, s⟩
    replace s : St W (L) w := s
    refine ⟨_, rfl, ?_⟩; clear ha; intro a ha
    refine st_val (.bool (!bm)) ha (by kernel_rfl) (by kernel_rfl) ?_
    clear ha; intro a ha
    refine st_val (.bool (!bm)) ha (by kernel_rfl) (by kernel_rfl) ?_
    clear ha; intro a ha
    refine wpList_nil ?_
    refine then_normal ?_
    refine wp_part (!bm) ha rfl (by kernel_rfl) (fun hb => ?_) (fun hb => ?_)
    · rw [hb] at ha; skip
      refine wp_seq ?_
      refine wp_region_lit ?_
      refine st_val (.bool true) ha (by kernel_rfl) (by kernel_rfl) ?_
      clear ha; intro a ha
      refine wpList_nil ?_
      refine then_normal ?_
      refine wp_ret ?_
      refine then_ret ?_
      refine ret_with (v := .bool true) ha (results_1 rfl ha (res_tmp (by kernel_rfl) (by kernel_rfl))) ?_
      exact ⟨rfl, s⟩
    · rw [hb] at ha; skip
      obtain ⟨hm3, hokb⟩ := hmaym (by simpa using hb)
      refine wp_skip ?_
      refine then_normal ?_
      refine wp_seq ?_
      refine wp_region_lit ?_
      refine st_val (.slice A n ca) ha (by kernel_rfl) (by kernel_rfl) ?_
      clear ha; intro a ha
      refine st_call ha (by kernel_rfl) (by kernel_rfl) (join_ok W _ w A n ca la (fun w s => hra w (Sat.drops (A := []) s)) han hoka (by omega) s) ?_
      rintro _ w ⟨A1, c2, x, rfl, hcx, hsx, hlx, s⟩
      replace s : St W (Own 29 2 A1 x.length c2 (sps x) :: L) w := s
      refine ⟨_, rfl, ?_⟩; clear ha; intro a ha
      refine st_val (.tuple #[.slice A1 x.length c2, .int .i64 0]) ha (by kernel_rfl) (by kernel_rfl) ?_
      clear ha; intro a ha
      refine st_val (.slice A1 x.length c2) ha (by kernel_rfl) (by kernel_rfl) ?_
      clear ha; intro a ha
      refine st_val (.int .i64 0) ha (by kernel_rfl) (by kernel_rfl) ?_
      clear ha; intro a ha
      refine st_val (.slice A1 x.length c2) ha (by kernel_rfl) (by kernel_rfl) ?_
      clear ha; intro a ha
      refine st_val (.int .i64 0) ha (by kernel_rfl) (by kernel_rfl) ?_
      clear ha; intro a ha
      refine wpList_nil ?_
      refine then_normal ?_
      refine wp_seq ?_
      refine wp_region_lit ?_
      refine st_val (.slice A n ca) ha (by kernel_rfl) (by kernel_rfl) ?_
      clear ha; intro a ha
      refine st_val (.slice B m cb) ha (by kernel_rfl) (by kernel_rfl) ?_
      clear ha; intro a ha
      refine st_call ha (by kernel_rfl) (by kernel_rfl) (both_ok W _ w A B n m ca cb la lb (fun w s => hra w (Sat.drops (A := [Own 29 2 A1 x.length c2 (sps x)]) s)) (fun w s => hrb w (Sat.drops (A := [Own 29 2 A1 x.length c2 (sps x)]) s)) han hbm hoka hokb (by omega) (by omega) s) ?_
      rintro _ w ⟨A3, c4, y, rfl, hcy, hsy, hly, s⟩
      replace s : St W (Own 29 2 A3 y.length c4 (sps y) :: Own 29 2 A1 x.length c2 (sps x) :: L) w := s
      refine ⟨_, rfl, ?_⟩; clear ha; intro a ha
      refine st_val (.tuple #[.slice A3 y.length c4, .int .i64 0]) ha (by kernel_rfl) (by kernel_rfl) ?_
      clear ha; intro a ha
      refine st_val (.slice A3 y.length c4) ha (by kernel_rfl) (by kernel_rfl) ?_
      clear ha; intro a ha
      refine st_val (.int .i64 0) ha (by kernel_rfl) (by kernel_rfl) ?_
      clear ha; intro a ha
      refine st_val (.slice A3 y.length c4) ha (by kernel_rfl) (by kernel_rfl) ?_
      clear ha; intro a ha
      refine st_val (.int .i64 0) ha (by kernel_rfl) (by kernel_rfl) ?_
      clear ha; intro a ha
      refine wpList_nil ?_
      refine then_normal ?_
      refine wp_seq ?_
      refine wp_region_lit ?_
      refine st_val (.slice A n ca) ha (by kernel_rfl) (by kernel_rfl) ?_
      clear ha; intro a ha
      refine st_val (.slice B m cb) ha (by kernel_rfl) (by kernel_rfl) ?_
      clear ha; intro a ha
      refine st_call ha (by kernel_rfl) (by kernel_rfl) (less_ok W _ w A B n m ca cb la lb (fun w s => hra w (Sat.drops (A := [Own 29 2 A3 y.length c4 (sps y), Own 29 2 A1 x.length c2 (sps x)]) s)) (fun w s => hrb w (Sat.drops (A := [Own 29 2 A3 y.length c4 (sps y), Own 29 2 A1 x.length c2 (sps x)]) s)) han hbm hoka hokb (by omega) (by omega) s) ?_
      rintro _ w ⟨A5, c6, z, rfl, hcz, hsz, hlz, s⟩
      replace s : St W (Own 29 2 A5 z.length c6 (sps z) :: Own 29 2 A3 y.length c4 (sps y) :: Own 29 2 A1 x.length c2 (sps x) :: L) w := s
      refine ⟨_, rfl, ?_⟩; clear ha; intro a ha
      refine st_val (.tuple #[.slice A5 z.length c6, .int .i64 0]) ha (by kernel_rfl) (by kernel_rfl) ?_
      clear ha; intro a ha
      refine st_val (.slice A5 z.length c6) ha (by kernel_rfl) (by kernel_rfl) ?_
      clear ha; intro a ha
      refine st_val (.int .i64 0) ha (by kernel_rfl) (by kernel_rfl) ?_
      clear ha; intro a ha
      refine st_val (.slice A5 z.length c6) ha (by kernel_rfl) (by kernel_rfl) ?_
      clear ha; intro a ha
      refine st_val (.int .i64 0) ha (by kernel_rfl) (by kernel_rfl) ?_
      clear ha; intro a ha
      refine wpList_nil ?_
      refine then_normal ?_
      refine wp_seq ?_
      refine wp_region_lit ?_
      refine st_val (.bool false) ha (by kernel_rfl) (by kernel_rfl) ?_
      clear ha; intro a ha
      refine st_val (.bool false) ha (by kernel_rfl) (by kernel_rfl) ?_
      clear ha; intro a ha
      refine wpList_nil ?_
      refine then_normal ?_
      refine wp_seq ?_
      refine wp_seq ?_
      refine wp_region_lit ?_
      refine st_val (.int .i64 0) ha (by kernel_rfl) (by kernel_rfl) ?_
      clear ha; intro a ha
      refine wpList_nil ?_
      refine then_normal ?_
      refine wp_block ?_
      refine wp_loopG (G := Nat) (fun k a w => Has a 151 [(0, .slice A n ca), (1, .slice B m cb), (2, .string (str q)), (7, .slice A1 x.length c2), (8, .int .i64 0), (9, .slice A3 y.length c4), (10, .int .i64 0), (11, .slice A5 z.length c6), (12, .int .i64 0), (14, .bool false), (15, .int .i64 ((k : Nat) : Int)), (13, .bool (decide (0 < cnt (la.take k) q)))] ∧ St W (Own 29 2 A5 z.length c6 (sps z) :: Own 29 2 A3 y.length c4 (sps y) :: Own 29 2 A1 x.length c2 (sps x) :: L) w ∧ (k ≤ n)) (fun k => n - k) 0 ?_ ?_
      · exact ⟨(Has.cons ha (by kernel_rfl) (by kernel_rfl) (Has.cons ha (by kernel_rfl) (by kernel_rfl) (Has.cons ha (by kernel_rfl) (by kernel_rfl) (Has.cons ha (by kernel_rfl) (by kernel_rfl) (Has.cons ha (by kernel_rfl) (by kernel_rfl) (Has.cons ha (by kernel_rfl) (by kernel_rfl) (Has.cons ha (by kernel_rfl) (by kernel_rfl) (Has.cons ha (by kernel_rfl) (by kernel_rfl) (Has.cons ha (by kernel_rfl) (by kernel_rfl) (Has.cons ha (by kernel_rfl) (by kernel_rfl) (Has.cons ha (by kernel_rfl) (by kernel_rfl) (Has.cons ha (by kernel_rfl) (by kernel_rfl) (Has.nil ha))))))))))))), s, Nat.zero_le _⟩
      · clear ha s; rintro k a w ⟨ha, s, hp⟩
        refine wp_seq ?_
        refine wp_seq ?_
        refine wp_region_lit ?_
        refine st_val (.int .i64 ((k : Nat) : Int)) ha (by kernel_rfl) (by kernel_rfl) ?_
        clear ha; intro a ha
        refine st_val (.slice A n ca) ha (by kernel_rfl) (by kernel_rfl) ?_
        clear ha; intro a ha
        refine st_val (.int .i64 ((n : Nat) : Int)) ha (by kernel_rfl) (by kernel_rfl) ?_
        clear ha; intro a ha
        refine st_val (.bool (decide (((k : Nat) : Int) < ((n : Nat) : Int)))) ha (by kernel_rfl) (by kernel_rfl) ?_
        clear ha; intro a ha
        refine wpList_nil ?_
        refine then_normal ?_
        refine wp_part (decide (((k : Nat) : Int) < ((n : Nat) : Int))) ha rfl (by kernel_rfl) (fun hb => ?_) (fun hb => ?_)
        · rw [hb] at ha; replace hb : (((k : Nat) : Int) < ((n : Nat) : Int)) := of_decide_eq_true hb
          obtain ⟨v, hv⟩ : ∃ v, la[k]? = some v := ⟨_, List.getElem?_eq_getElem (by omega)⟩
          obtain ⟨ada, hA⟩ := Reads.addr (hra _ (Sat.drops (A := [Own 29 2 A5 z.length c6 (sps z), Own 29 2 A3 y.length c4 (sps y), Own 29 2 A1 x.length c2 (sps x)]) s.sat)) (by omega)
          subst hA
          refine wp_skip ?_
          refine then_normal ?_
          refine wp_seq ?_
          refine wp_block ?_
          refine wp_region_lit ?_
          refine st_val (.bool (decide (0 < cnt (la.take k) q))) ha (by kernel_rfl) (by kernel_rfl) ?_
          clear ha; intro a ha
          refine st_val (.bool (decide (0 < cnt (la.take k) q))) ha (by kernel_rfl) (by kernel_rfl) ?_
          clear ha; intro a ha
          rcases Bool.eq_false_or_eq_true (decide (0 < cnt (la.take k) q)) with hb | hb
          · rw [hb] at ha; replace hb : (0 < cnt (la.take k) q) := of_decide_eq_true hb
            refine st_pass ha (by kernel_rfl) ?_
            clear ha; intro a ha
            refine st_pass ha (by kernel_rfl) ?_
            clear ha; intro a ha
            refine st_pass ha (by kernel_rfl) ?_
            clear ha; intro a ha
            refine st_pass ha (by kernel_rfl) ?_
            clear ha; intro a ha
            refine st_pass ha (by kernel_rfl) ?_
            clear ha; intro a ha
            refine st_pass ha (by kernel_rfl) ?_
            clear ha; intro a ha
            refine st_pass ha (by kernel_rfl) ?_
            clear ha; intro a ha
            refine st_pass ha (by kernel_rfl) ?_
            clear ha; intro a ha
            refine st_pass ha (by kernel_rfl) ?_
            clear ha; intro a ha
            refine st_pass ha (by kernel_rfl) ?_
            clear ha; intro a ha
            refine st_pass ha (by kernel_rfl) ?_
            clear ha; intro a ha
            refine st_pass ha (by kernel_rfl) ?_
            clear ha; intro a ha
            refine st_pass ha (by kernel_rfl) ?_
            clear ha; intro a ha
            refine st_pass ha (by kernel_rfl) ?_
            clear ha; intro a ha
            refine st_pass ha (by kernel_rfl) ?_
            clear ha; intro a ha
            refine st_pass ha (by kernel_rfl) ?_
            clear ha; intro a ha
            refine st_val (.bool true) ha (by kernel_rfl) (by kernel_rfl) ?_
            clear ha; intro a ha
            refine st_val (.bool true) ha (by kernel_rfl) (by kernel_rfl) ?_
            clear ha; intro a ha
            refine wpList_nil ?_
            refine block_normal ?_
            refine then_normal ?_
            refine wp_region_lit ?_
            refine st_val (.int .i64 ((k : Nat) : Int)) ha (by kernel_rfl) (by kernel_rfl) ?_
            clear ha; intro a ha
            refine st_val (.int .i64 ((k + 1 : Nat) : Int)) ha (by kernel_rfl) (run_arith (((k : Nat) : Int) + (1 : Int)) ((k + 1 : Nat) : Int) rfl (by kernel_rfl) (by kernel_rfl) (.inl ⟨rfl, rfl⟩) (by rw [wrap64_in (by omega)]; try omega) _) ?_
            clear ha; intro a ha
            refine st_val (.int .i64 ((k + 1 : Nat) : Int)) ha (by kernel_rfl) (by kernel_rfl) ?_
            clear ha; intro a ha
            refine wpList_nil ?_
            refine then_normal ?_
            have hacc : true = decide (0 < cnt (la.take (k + 1)) q) := by rw [cnt_take hv]; first | (simp_all [has]; done) | (rw [show has v q = false from by unfold has; rw [decide_eq_false hb]; rfl, Bool.or_false]; symm; exact decide_eq_false (by assumption))
            exact ⟨k + 1, by omega, (Has.cons ha (by kernel_rfl) (by kernel_rfl) (Has.cons ha (by kernel_rfl) (by kernel_rfl) (Has.cons ha (by kernel_rfl) (by kernel_rfl) (Has.cons ha (by kernel_rfl) (by kernel_rfl) (Has.cons ha (by kernel_rfl) (by kernel_rfl) (Has.cons ha (by kernel_rfl) (by kernel_rfl) (Has.cons ha (by kernel_rfl) (by kernel_rfl) (Has.cons ha (by kernel_rfl) (by kernel_rfl) (Has.cons ha (by kernel_rfl) (by kernel_rfl) (Has.cons ha (by kernel_rfl) (by kernel_rfl) (Has.cons ha (by kernel_rfl) (by kernel_rfl) (Has.cons ha (by kernel_rfl) (congrArg Value.bool hacc) (Has.nil ha))))))))))))), s, by omega⟩
          · rw [hb] at ha; replace hb : ¬ (0 < cnt (la.take k) q) := of_decide_eq_false hb
            refine st_val (.string (str q)) ha (by kernel_rfl) (by kernel_rfl) ?_
            clear ha; intro a ha
            refine st_val (.slice (some ada) n ca) ha (by kernel_rfl) (by kernel_rfl) ?_
            clear ha; intro a ha
            refine st_val (.int .i64 ((k : Nat) : Int)) ha (by kernel_rfl) (by kernel_rfl) ?_
            clear ha; intro a ha
            refine st_val (.pointer (some (ada.add (k * 2)))) ha (by kernel_rfl) (run_indexAddr' (kd := .i64) (i := ((k : Nat) : Int)) (n := n) (c := ca) k rfl Try.underlying22 Try.sizeOf29 (by kernel_rfl) (by kernel_rfl) rfl (by first | assumption | omega) _) ?_
            clear ha; intro a ha
            refine st_val (.pointer (some (ada.add (k * 2 + 0)))) ha (by kernel_rfl) (run_fieldAddr_at (i := k * 2) (off := 0) rfl Try.underlying29 rfl Try.sizeOf9 (by kernel_rfl) _) ?_
            clear ha; intro a ha
            refine st_val (.string (str v.1)) ha (by kernel_rfl) (run_loadAt1 (i := k * 2 + 0) ((hra _ (Sat.drops (A := [Own 29 2 A5 z.length c6 (sps z), Own 29 2 A3 y.length c4 (sps y), Own 29 2 A1 x.length c2 (sps x)]) s.sat))) rfl (by kernel_rfl) Try.isAgg9 (by rw [sps_at hv (by omega)]; rfl)) ?_
            clear ha; intro a ha
            refine st_val (.bool (decide (v.1 ≤ q))) ha (by kernel_rfl) (run_sgeq (p := q) (q := v.1) rfl (by kernel_rfl) (by kernel_rfl) _) ?_
            clear ha; intro a ha
            refine st_val (.bool (decide (v.1 ≤ q))) ha (by kernel_rfl) (by kernel_rfl) ?_
            clear ha; intro a ha
            rcases Bool.eq_false_or_eq_true (decide (v.1 ≤ q)) with hb | hb
            · rw [hb] at ha; replace hb : (v.1 ≤ q) := of_decide_eq_true hb
              refine st_val (.string (str q)) ha (by kernel_rfl) (by kernel_rfl) ?_
              clear ha; intro a ha
              refine st_val (.slice (some ada) n ca) ha (by kernel_rfl) (by kernel_rfl) ?_
              clear ha; intro a ha
              refine st_val (.int .i64 ((k : Nat) : Int)) ha (by kernel_rfl) (by kernel_rfl) ?_
              clear ha; intro a ha
              refine st_val (.pointer (some (ada.add (k * 2)))) ha (by kernel_rfl) (run_indexAddr' (kd := .i64) (i := ((k : Nat) : Int)) (n := n) (c := ca) k rfl Try.underlying22 Try.sizeOf29 (by kernel_rfl) (by kernel_rfl) rfl (by first | assumption | omega) _) ?_
              clear ha; intro a ha
              refine st_val (.pointer (some (ada.add (k * 2 + 1)))) ha (by kernel_rfl) (run_fieldAddr_at (i := k * 2) (off := 1) rfl Try.underlying29 rfl Try.sizeOf9 (by kernel_rfl) _) ?_
              clear ha; intro a ha
              refine st_val (.string (str v.2)) ha (by kernel_rfl) (run_loadAt1 (i := k * 2 + 1) ((hra _ (Sat.drops (A := [Own 29 2 A5 z.length c6 (sps z), Own 29 2 A3 y.length c4 (sps y), Own 29 2 A1 x.length c2 (sps x)]) s.sat))) rfl (by kernel_rfl) Try.isAgg9 (by rw [sps_at hv (by omega)]; rfl)) ?_
              clear ha; intro a ha
              refine st_val (.bool (decide (q < v.2))) ha (by kernel_rfl) (run_slss (p := q) (q := v.2) rfl (by kernel_rfl) (by kernel_rfl) _) ?_
              clear ha; intro a ha
              refine st_val (.bool (decide (q < v.2))) ha (by kernel_rfl) (by kernel_rfl) ?_
              clear ha; intro a ha
              refine st_val (.bool (decide (q < v.2))) ha (by kernel_rfl) (by kernel_rfl) ?_
              clear ha; intro a ha
              refine st_val (.bool (decide (q < v.2))) ha (by kernel_rfl) (by kernel_rfl) ?_
              clear ha; intro a ha
              refine wpList_nil ?_
              refine block_normal ?_
              refine then_normal ?_
              refine wp_region_lit ?_
              refine st_val (.int .i64 ((k : Nat) : Int)) ha (by kernel_rfl) (by kernel_rfl) ?_
              clear ha; intro a ha
              refine st_val (.int .i64 ((k + 1 : Nat) : Int)) ha (by kernel_rfl) (run_arith (((k : Nat) : Int) + (1 : Int)) ((k + 1 : Nat) : Int) rfl (by kernel_rfl) (by kernel_rfl) (.inl ⟨rfl, rfl⟩) (by rw [wrap64_in (by omega)]; try omega) _) ?_
              clear ha; intro a ha
              refine st_val (.int .i64 ((k + 1 : Nat) : Int)) ha (by kernel_rfl) (by kernel_rfl) ?_
              clear ha; intro a ha
              refine wpList_nil ?_
              refine then_normal ?_
              have hacc : decide (q < v.2) = decide (0 < cnt (la.take (k + 1)) q) := by rw [cnt_take hv]; first | (simp_all [has]; done) | (rw [show has v q = false from by unfold has; rw [decide_eq_false hb]; rfl, Bool.or_false]; symm; exact decide_eq_false (by assumption))
              exact ⟨k + 1, by omega, (Has.cons ha (by kernel_rfl) (by kernel_rfl) (Has.cons ha (by kernel_rfl) (by kernel_rfl) (Has.cons ha (by kernel_rfl) (by kernel_rfl) (Has.cons ha (by kernel_rfl) (by kernel_rfl) (Has.cons ha (by kernel_rfl) (by kernel_rfl) (Has.cons ha (by kernel_rfl) (by kernel_rfl) (Has.cons ha (by kernel_rfl) (by kernel_rfl) (Has.cons ha (by kernel_rfl) (by kernel_rfl) (Has.cons ha (by kernel_rfl) (by kernel_rfl) (Has.cons ha (by kernel_rfl) (by kernel_rfl) (Has.cons ha (by kernel_rfl) (by kernel_rfl) (Has.cons ha (by kernel_rfl) (congrArg Value.bool hacc) (Has.nil ha))))))))))))), s, by omega⟩
            · rw [hb] at ha; replace hb : ¬ (v.1 ≤ q) := of_decide_eq_false hb
              refine st_pass ha (by kernel_rfl) ?_
              clear ha; intro a ha
              refine st_pass ha (by kernel_rfl) ?_
              clear ha; intro a ha
              refine st_pass ha (by kernel_rfl) ?_
              clear ha; intro a ha
              refine st_pass ha (by kernel_rfl) ?_
              clear ha; intro a ha
              refine st_pass ha (by kernel_rfl) ?_
              clear ha; intro a ha
              refine st_pass ha (by kernel_rfl) ?_
              clear ha; intro a ha
              refine st_pass ha (by kernel_rfl) ?_
              clear ha; intro a ha
              refine st_val (.bool false) ha (by kernel_rfl) (by kernel_rfl) ?_
              clear ha; intro a ha
              refine st_val (.bool false) ha (by kernel_rfl) (by kernel_rfl) ?_
              clear ha; intro a ha
              refine st_val (.bool false) ha (by kernel_rfl) (by kernel_rfl) ?_
              clear ha; intro a ha
              refine wpList_nil ?_
              refine block_normal ?_
              refine then_normal ?_
              refine wp_region_lit ?_
              refine st_val (.int .i64 ((k : Nat) : Int)) ha (by kernel_rfl) (by kernel_rfl) ?_
              clear ha; intro a ha
              refine st_val (.int .i64 ((k + 1 : Nat) : Int)) ha (by kernel_rfl) (run_arith (((k : Nat) : Int) + (1 : Int)) ((k + 1 : Nat) : Int) rfl (by kernel_rfl) (by kernel_rfl) (.inl ⟨rfl, rfl⟩) (by rw [wrap64_in (by omega)]; try omega) _) ?_
              clear ha; intro a ha
              refine st_val (.int .i64 ((k + 1 : Nat) : Int)) ha (by kernel_rfl) (by kernel_rfl) ?_
              clear ha; intro a ha
              refine wpList_nil ?_
              refine then_normal ?_
              have hacc : false = decide (0 < cnt (la.take (k + 1)) q) := by rw [cnt_take hv]; first | (simp_all [has]; done) | (rw [show has v q = false from by unfold has; rw [decide_eq_false hb]; rfl, Bool.or_false]; symm; exact decide_eq_false (by assumption))
              exact ⟨k + 1, by omega, (Has.cons ha (by kernel_rfl) (by kernel_rfl) (Has.cons ha (by kernel_rfl) (by kernel_rfl) (Has.cons ha (by kernel_rfl) (by kernel_rfl) (Has.cons ha (by kernel_rfl) (by kernel_rfl) (Has.cons ha (by kernel_rfl) (by kernel_rfl) (Has.cons ha (by kernel_rfl) (by kernel_rfl) (Has.cons ha (by kernel_rfl) (by kernel_rfl) (Has.cons ha (by kernel_rfl) (by kernel_rfl) (Has.cons ha (by kernel_rfl) (by kernel_rfl) (Has.cons ha (by kernel_rfl) (by kernel_rfl) (Has.cons ha (by kernel_rfl) (by kernel_rfl) (Has.cons ha (by kernel_rfl) (congrArg Value.bool hacc) (Has.nil ha))))))))))))), s, by omega⟩
        · rw [hb] at ha; replace hb : ¬ (((k : Nat) : Int) < ((n : Nat) : Int)) := of_decide_eq_false hb
          have hk : k = n := by omega
          rw [hk, show la.take n = la from List.take_of_length_le (by omega), h1] at ha
          refine wp_exit ?_
          refine then_exit ?_
          refine then_exit ?_
          refine block_hit ?_
          refine then_normal ?_
          refine wp_seq ?_
          refine wp_seq ?_
          refine wp_region_lit ?_
          refine st_val (.int .i64 0) ha (by kernel_rfl) (by kernel_rfl) ?_
          clear ha; intro a ha
          refine wpList_nil ?_
          refine then_normal ?_
          refine wp_block ?_
          refine wp_loopG (G := Nat) (fun k a w => Has a 151 [(0, .slice A n ca), (1, .slice B m cb), (2, .string (str q)), (7, .slice A1 x.length c2), (8, .int .i64 0), (9, .slice A3 y.length c4), (10, .int .i64 0), (11, .slice A5 z.length c6), (12, .int .i64 0), (13, .bool true), (16, .int .i64 ((k : Nat) : Int)), (14, .bool (decide (0 < cnt (lb.take k) q)))] ∧ St W (Own 29 2 A5 z.length c6 (sps z) :: Own 29 2 A3 y.length c4 (sps y) :: Own 29 2 A1 x.length c2 (sps x) :: L) w ∧ (k ≤ m)) (fun k => m - k) 0 ?_ ?_
          · exact ⟨(Has.cons ha (by kernel_rfl) (by kernel_rfl) (Has.cons ha (by kernel_rfl) (by kernel_rfl) (Has.cons ha (by kernel_rfl) (by kernel_rfl) (Has.cons ha (by kernel_rfl) (by kernel_rfl) (Has.cons ha (by kernel_rfl) (by kernel_rfl) (Has.cons ha (by kernel_rfl) (by kernel_rfl) (Has.cons ha (by kernel_rfl) (by kernel_rfl) (Has.cons ha (by kernel_rfl) (by kernel_rfl) (Has.cons ha (by kernel_rfl) (by kernel_rfl) (Has.cons ha (by kernel_rfl) (by kernel_rfl) (Has.cons ha (by kernel_rfl) (by kernel_rfl) (Has.cons ha (by kernel_rfl) (by kernel_rfl) (Has.nil ha))))))))))))), s, Nat.zero_le _⟩
          · clear ha s; rintro k a w ⟨ha, s, hp⟩
            refine wp_seq ?_
            refine wp_seq ?_
            refine wp_region_lit ?_
            refine st_val (.int .i64 ((k : Nat) : Int)) ha (by kernel_rfl) (by kernel_rfl) ?_
            clear ha; intro a ha
            refine st_val (.slice B m cb) ha (by kernel_rfl) (by kernel_rfl) ?_
            clear ha; intro a ha
            refine st_val (.int .i64 ((m : Nat) : Int)) ha (by kernel_rfl) (by kernel_rfl) ?_
            clear ha; intro a ha
            refine st_val (.bool (decide (((k : Nat) : Int) < ((m : Nat) : Int)))) ha (by kernel_rfl) (by kernel_rfl) ?_
            clear ha; intro a ha
            refine wpList_nil ?_
            refine then_normal ?_
            refine wp_part (decide (((k : Nat) : Int) < ((m : Nat) : Int))) ha rfl (by kernel_rfl) (fun hb => ?_) (fun hb => ?_)
            · rw [hb] at ha; replace hb : (((k : Nat) : Int) < ((m : Nat) : Int)) := of_decide_eq_true hb
              obtain ⟨v, hv⟩ : ∃ v, lb[k]? = some v := ⟨_, List.getElem?_eq_getElem (by omega)⟩
              obtain ⟨adb, hA⟩ := Reads.addr (hrb _ (Sat.drops (A := [Own 29 2 A5 z.length c6 (sps z), Own 29 2 A3 y.length c4 (sps y), Own 29 2 A1 x.length c2 (sps x)]) s.sat)) (by omega)
              subst hA
              refine wp_skip ?_
              refine then_normal ?_
              refine wp_seq ?_
              refine wp_block ?_
              refine wp_region_lit ?_
              refine st_val (.bool (decide (0 < cnt (lb.take k) q))) ha (by kernel_rfl) (by kernel_rfl) ?_
              clear ha; intro a ha
              refine st_val (.bool (decide (0 < cnt (lb.take k) q))) ha (by kernel_rfl) (by kernel_rfl) ?_
              clear ha; intro a ha
              rcases Bool.eq_false_or_eq_true (decide (0 < cnt (lb.take k) q)) with hb | hb
              · rw [hb] at ha; replace hb : (0 < cnt (lb.take k) q) := of_decide_eq_true hb
                refine st_pass ha (by kernel_rfl) ?_
                clear ha; intro a ha
                refine st_pass ha (by kernel_rfl) ?_
                clear ha; intro a ha
                refine st_pass ha (by kernel_rfl) ?_
                clear ha; intro a ha
                refine st_pass ha (by kernel_rfl) ?_
                clear ha; intro a ha
                refine st_pass ha (by kernel_rfl) ?_
                clear ha; intro a ha
                refine st_pass ha (by kernel_rfl) ?_
                clear ha; intro a ha
                refine st_pass ha (by kernel_rfl) ?_
                clear ha; intro a ha
                refine st_pass ha (by kernel_rfl) ?_
                clear ha; intro a ha
                refine st_pass ha (by kernel_rfl) ?_
                clear ha; intro a ha
                refine st_pass ha (by kernel_rfl) ?_
                clear ha; intro a ha
                refine st_pass ha (by kernel_rfl) ?_
                clear ha; intro a ha
                refine st_pass ha (by kernel_rfl) ?_
                clear ha; intro a ha
                refine st_pass ha (by kernel_rfl) ?_
                clear ha; intro a ha
                refine st_pass ha (by kernel_rfl) ?_
                clear ha; intro a ha
                refine st_pass ha (by kernel_rfl) ?_
                clear ha; intro a ha
                refine st_pass ha (by kernel_rfl) ?_
                clear ha; intro a ha
                refine st_val (.bool true) ha (by kernel_rfl) (by kernel_rfl) ?_
                clear ha; intro a ha
                refine st_val (.bool true) ha (by kernel_rfl) (by kernel_rfl) ?_
                clear ha; intro a ha
                refine wpList_nil ?_
                refine block_normal ?_
                refine then_normal ?_
                refine wp_region_lit ?_
                refine st_val (.int .i64 ((k : Nat) : Int)) ha (by kernel_rfl) (by kernel_rfl) ?_
                clear ha; intro a ha
                refine st_val (.int .i64 ((k + 1 : Nat) : Int)) ha (by kernel_rfl) (run_arith (((k : Nat) : Int) + (1 : Int)) ((k + 1 : Nat) : Int) rfl (by kernel_rfl) (by kernel_rfl) (.inl ⟨rfl, rfl⟩) (by rw [wrap64_in (by omega)]; try omega) _) ?_
                clear ha; intro a ha
                refine st_val (.int .i64 ((k + 1 : Nat) : Int)) ha (by kernel_rfl) (by kernel_rfl) ?_
                clear ha; intro a ha
                refine wpList_nil ?_
                refine then_normal ?_
                have hacc : true = decide (0 < cnt (lb.take (k + 1)) q) := by rw [cnt_take hv]; first | (simp_all [has]; done) | (rw [show has v q = false from by unfold has; rw [decide_eq_false hb]; rfl, Bool.or_false]; symm; exact decide_eq_false (by assumption))
                exact ⟨k + 1, by omega, (Has.cons ha (by kernel_rfl) (by kernel_rfl) (Has.cons ha (by kernel_rfl) (by kernel_rfl) (Has.cons ha (by kernel_rfl) (by kernel_rfl) (Has.cons ha (by kernel_rfl) (by kernel_rfl) (Has.cons ha (by kernel_rfl) (by kernel_rfl) (Has.cons ha (by kernel_rfl) (by kernel_rfl) (Has.cons ha (by kernel_rfl) (by kernel_rfl) (Has.cons ha (by kernel_rfl) (by kernel_rfl) (Has.cons ha (by kernel_rfl) (by kernel_rfl) (Has.cons ha (by kernel_rfl) (by kernel_rfl) (Has.cons ha (by kernel_rfl) (by kernel_rfl) (Has.cons ha (by kernel_rfl) (congrArg Value.bool hacc) (Has.nil ha))))))))))))), s, by omega⟩
              · rw [hb] at ha; replace hb : ¬ (0 < cnt (lb.take k) q) := of_decide_eq_false hb
                refine st_val (.string (str q)) ha (by kernel_rfl) (by kernel_rfl) ?_
                clear ha; intro a ha
                refine st_val (.slice (some adb) m cb) ha (by kernel_rfl) (by kernel_rfl) ?_
                clear ha; intro a ha
                refine st_val (.int .i64 ((k : Nat) : Int)) ha (by kernel_rfl) (by kernel_rfl) ?_
                clear ha; intro a ha
                refine st_val (.pointer (some (adb.add (k * 2)))) ha (by kernel_rfl) (run_indexAddr' (kd := .i64) (i := ((k : Nat) : Int)) (n := m) (c := cb) k rfl Try.underlying22 Try.sizeOf29 (by kernel_rfl) (by kernel_rfl) rfl (by first | assumption | omega) _) ?_
                clear ha; intro a ha
                refine st_val (.pointer (some (adb.add (k * 2 + 0)))) ha (by kernel_rfl) (run_fieldAddr_at (i := k * 2) (off := 0) rfl Try.underlying29 rfl Try.sizeOf9 (by kernel_rfl) _) ?_
                clear ha; intro a ha
                refine st_val (.string (str v.1)) ha (by kernel_rfl) (run_loadAt1 (i := k * 2 + 0) ((hrb _ (Sat.drops (A := [Own 29 2 A5 z.length c6 (sps z), Own 29 2 A3 y.length c4 (sps y), Own 29 2 A1 x.length c2 (sps x)]) s.sat))) rfl (by kernel_rfl) Try.isAgg9 (by rw [sps_at hv (by omega)]; rfl)) ?_
                clear ha; intro a ha
                refine st_val (.bool (decide (v.1 ≤ q))) ha (by kernel_rfl) (run_sgeq (p := q) (q := v.1) rfl (by kernel_rfl) (by kernel_rfl) _) ?_
                clear ha; intro a ha
                refine st_val (.bool (decide (v.1 ≤ q))) ha (by kernel_rfl) (by kernel_rfl) ?_
                clear ha; intro a ha
                rcases Bool.eq_false_or_eq_true (decide (v.1 ≤ q)) with hb | hb
                · rw [hb] at ha; replace hb : (v.1 ≤ q) := of_decide_eq_true hb
                  refine st_val (.string (str q)) ha (by kernel_rfl) (by kernel_rfl) ?_
                  clear ha; intro a ha
                  refine st_val (.slice (some adb) m cb) ha (by kernel_rfl) (by kernel_rfl) ?_
                  clear ha; intro a ha
                  refine st_val (.int .i64 ((k : Nat) : Int)) ha (by kernel_rfl) (by kernel_rfl) ?_
                  clear ha; intro a ha
                  refine st_val (.pointer (some (adb.add (k * 2)))) ha (by kernel_rfl) (run_indexAddr' (kd := .i64) (i := ((k : Nat) : Int)) (n := m) (c := cb) k rfl Try.underlying22 Try.sizeOf29 (by kernel_rfl) (by kernel_rfl) rfl (by first | assumption | omega) _) ?_
                  clear ha; intro a ha
                  refine st_val (.pointer (some (adb.add (k * 2 + 1)))) ha (by kernel_rfl) (run_fieldAddr_at (i := k * 2) (off := 1) rfl Try.underlying29 rfl Try.sizeOf9 (by kernel_rfl) _) ?_
                  clear ha; intro a ha
                  refine st_val (.string (str v.2)) ha (by kernel_rfl) (run_loadAt1 (i := k * 2 + 1) ((hrb _ (Sat.drops (A := [Own 29 2 A5 z.length c6 (sps z), Own 29 2 A3 y.length c4 (sps y), Own 29 2 A1 x.length c2 (sps x)]) s.sat))) rfl (by kernel_rfl) Try.isAgg9 (by rw [sps_at hv (by omega)]; rfl)) ?_
                  clear ha; intro a ha
                  refine st_val (.bool (decide (q < v.2))) ha (by kernel_rfl) (run_slss (p := q) (q := v.2) rfl (by kernel_rfl) (by kernel_rfl) _) ?_
                  clear ha; intro a ha
                  refine st_val (.bool (decide (q < v.2))) ha (by kernel_rfl) (by kernel_rfl) ?_
                  clear ha; intro a ha
                  refine st_val (.bool (decide (q < v.2))) ha (by kernel_rfl) (by kernel_rfl) ?_
                  clear ha; intro a ha
                  refine st_val (.bool (decide (q < v.2))) ha (by kernel_rfl) (by kernel_rfl) ?_
                  clear ha; intro a ha
                  refine wpList_nil ?_
                  refine block_normal ?_
                  refine then_normal ?_
                  refine wp_region_lit ?_
                  refine st_val (.int .i64 ((k : Nat) : Int)) ha (by kernel_rfl) (by kernel_rfl) ?_
                  clear ha; intro a ha
                  refine st_val (.int .i64 ((k + 1 : Nat) : Int)) ha (by kernel_rfl) (run_arith (((k : Nat) : Int) + (1 : Int)) ((k + 1 : Nat) : Int) rfl (by kernel_rfl) (by kernel_rfl) (.inl ⟨rfl, rfl⟩) (by rw [wrap64_in (by omega)]; try omega) _) ?_
                  clear ha; intro a ha
                  refine st_val (.int .i64 ((k + 1 : Nat) : Int)) ha (by kernel_rfl) (by kernel_rfl) ?_
                  clear ha; intro a ha
                  refine wpList_nil ?_
                  refine then_normal ?_
                  have hacc : decide (q < v.2) = decide (0 < cnt (lb.take (k + 1)) q) := by rw [cnt_take hv]; first | (simp_all [has]; done) | (rw [show has v q = false from by unfold has; rw [decide_eq_false hb]; rfl, Bool.or_false]; symm; exact decide_eq_false (by assumption))
                  exact ⟨k + 1, by omega, (Has.cons ha (by kernel_rfl) (by kernel_rfl) (Has.cons ha (by kernel_rfl) (by kernel_rfl) (Has.cons ha (by kernel_rfl) (by kernel_rfl) (Has.cons ha (by kernel_rfl) (by kernel_rfl) (Has.cons ha (by kernel_rfl) (by kernel_rfl) (Has.cons ha (by kernel_rfl) (by kernel_rfl) (Has.cons ha (by kernel_rfl) (by kernel_rfl) (Has.cons ha (by kernel_rfl) (by kernel_rfl) (Has.cons ha (by kernel_rfl) (by kernel_rfl) (Has.cons ha (by kernel_rfl) (by kernel_rfl) (Has.cons ha (by kernel_rfl) (by kernel_rfl) (Has.cons ha (by kernel_rfl) (congrArg Value.bool hacc) (Has.nil ha))))))))))))), s, by omega⟩
                · rw [hb] at ha; replace hb : ¬ (v.1 ≤ q) := of_decide_eq_false hb
                  refine st_pass ha (by kernel_rfl) ?_
                  clear ha; intro a ha
                  refine st_pass ha (by kernel_rfl) ?_
                  clear ha; intro a ha
                  refine st_pass ha (by kernel_rfl) ?_
                  clear ha; intro a ha
                  refine st_pass ha (by kernel_rfl) ?_
                  clear ha; intro a ha
                  refine st_pass ha (by kernel_rfl) ?_
                  clear ha; intro a ha
                  refine st_pass ha (by kernel_rfl) ?_
                  clear ha; intro a ha
                  refine st_pass ha (by kernel_rfl) ?_
                  clear ha; intro a ha
                  refine st_val (.bool false) ha (by kernel_rfl) (by kernel_rfl) ?_
                  clear ha; intro a ha
                  refine st_val (.bool false) ha (by kernel_rfl) (by kernel_rfl) ?_
                  clear ha; intro a ha
                  refine st_val (.bool false) ha (by kernel_rfl) (by kernel_rfl) ?_
                  clear ha; intro a ha
                  refine wpList_nil ?_
                  refine block_normal ?_
                  refine then_normal ?_
                  refine wp_region_lit ?_
                  refine st_val (.int .i64 ((k : Nat) : Int)) ha (by kernel_rfl) (by kernel_rfl) ?_
                  clear ha; intro a ha
                  refine st_val (.int .i64 ((k + 1 : Nat) : Int)) ha (by kernel_rfl) (run_arith (((k : Nat) : Int) + (1 : Int)) ((k + 1 : Nat) : Int) rfl (by kernel_rfl) (by kernel_rfl) (.inl ⟨rfl, rfl⟩) (by rw [wrap64_in (by omega)]; try omega) _) ?_
                  clear ha; intro a ha
                  refine st_val (.int .i64 ((k + 1 : Nat) : Int)) ha (by kernel_rfl) (by kernel_rfl) ?_
                  clear ha; intro a ha
                  refine wpList_nil ?_
                  refine then_normal ?_
                  have hacc : false = decide (0 < cnt (lb.take (k + 1)) q) := by rw [cnt_take hv]; first | (simp_all [has]; done) | (rw [show has v q = false from by unfold has; rw [decide_eq_false hb]; rfl, Bool.or_false]; symm; exact decide_eq_false (by assumption))
                  exact ⟨k + 1, by omega, (Has.cons ha (by kernel_rfl) (by kernel_rfl) (Has.cons ha (by kernel_rfl) (by kernel_rfl) (Has.cons ha (by kernel_rfl) (by kernel_rfl) (Has.cons ha (by kernel_rfl) (by kernel_rfl) (Has.cons ha (by kernel_rfl) (by kernel_rfl) (Has.cons ha (by kernel_rfl) (by kernel_rfl) (Has.cons ha (by kernel_rfl) (by kernel_rfl) (Has.cons ha (by kernel_rfl) (by kernel_rfl) (Has.cons ha (by kernel_rfl) (by kernel_rfl) (Has.cons ha (by kernel_rfl) (by kernel_rfl) (Has.cons ha (by kernel_rfl) (by kernel_rfl) (Has.cons ha (by kernel_rfl) (congrArg Value.bool hacc) (Has.nil ha))))))))))))), s, by omega⟩
            · rw [hb] at ha; replace hb : ¬ (((k : Nat) : Int) < ((m : Nat) : Int)) := of_decide_eq_false hb
              have hk : k = m := by omega
              rw [hk, show lb.take m = lb from List.take_of_length_le (by omega), h2] at ha
              refine wp_exit ?_
              refine then_exit ?_
              refine then_exit ?_
              refine block_hit ?_
              refine then_normal ?_
              refine wp_seq ?_
              refine wp_region_lit ?_
              refine st_val (.int .i64 0) ha (by kernel_rfl) (by kernel_rfl) ?_
              clear ha; intro a ha
              refine st_val (.bool true) ha (by kernel_rfl) (by kernel_rfl) ?_
              clear ha; intro a ha
              refine st_val (.bool true) ha (by kernel_rfl) (by kernel_rfl) ?_
              clear ha; intro a ha
              refine st_val (.int .i64 0) ha (by kernel_rfl) (by kernel_rfl) ?_
              clear ha; intro a ha
              refine st_val (.bool true) ha (by kernel_rfl) (by kernel_rfl) ?_
              clear ha; intro a ha
              refine st_val (.bool true) ha (by kernel_rfl) (by kernel_rfl) ?_
              clear ha; intro a ha
              refine st_val (.bool true) ha (by kernel_rfl) (by kernel_rfl) ?_
              clear ha; intro a ha
              refine st_val (.int .i64 0) ha (by kernel_rfl) (by kernel_rfl) ?_
              clear ha; intro a ha
              refine st_val (.bool true) ha (by kernel_rfl) (by kernel_rfl) ?_
              clear ha; intro a ha
              refine st_val (.bool true) ha (by kernel_rfl) (by kernel_rfl) ?_
              clear ha; intro a ha
              refine st_val (.bool true) ha (by kernel_rfl) (by kernel_rfl) ?_
              clear ha; intro a ha
              refine st_val (.slice A1 x.length c2) ha (by kernel_rfl) (by kernel_rfl) ?_
              clear ha; intro a ha
              refine st_call ha (by kernel_rfl) (by kernel_rfl) (ordered_ok W _ w A1 x.length c2 x (Knows.own (j := 2) rfl) rfl (by omega) hcx.ord hcx.lt s) ?_
              rintro _ w ⟨rfl, s⟩
              replace s : St W (Own 29 2 A5 z.length c6 (sps z) :: Own 29 2 A3 y.length c4 (sps y) :: Own 29 2 A1 x.length c2 (sps x) :: L) w := s
              refine ⟨_, rfl, ?_⟩; clear ha; intro a ha
              refine st_val (.bool true) ha (by kernel_rfl) (by kernel_rfl) ?_
              clear ha; intro a ha
              refine st_val (.bool true) ha (by kernel_rfl) (by kernel_rfl) ?_
              clear ha; intro a ha
              refine st_val (.slice A3 y.length c4) ha (by kernel_rfl) (by kernel_rfl) ?_
              clear ha; intro a ha
              refine st_call ha (by kernel_rfl) (by kernel_rfl) (ordered_ok W _ w A3 y.length c4 y (Knows.own (j := 1) rfl) rfl (by omega) hcy.ord hcy.lt s) ?_
              rintro _ w ⟨rfl, s⟩
              replace s : St W (Own 29 2 A5 z.length c6 (sps z) :: Own 29 2 A3 y.length c4 (sps y) :: Own 29 2 A1 x.length c2 (sps x) :: L) w := s
              refine ⟨_, rfl, ?_⟩; clear ha; intro a ha
              refine st_val (.bool true) ha (by kernel_rfl) (by kernel_rfl) ?_
              clear ha; intro a ha
              refine st_val (.bool true) ha (by kernel_rfl) (by kernel_rfl) ?_
              clear ha; intro a ha
              refine st_val (.slice A5 z.length c6) ha (by kernel_rfl) (by kernel_rfl) ?_
              clear ha; intro a ha
              refine st_call ha (by kernel_rfl) (by kernel_rfl) (ordered_ok W _ w A5 z.length c6 z (Knows.own (j := 0) rfl) rfl (by omega) hcz.ord hcz.lt s) ?_
              rintro _ w ⟨rfl, s⟩
              replace s : St W (Own 29 2 A5 z.length c6 (sps z) :: Own 29 2 A3 y.length c4 (sps y) :: Own 29 2 A1 x.length c2 (sps x) :: L) w := s
              refine ⟨_, rfl, ?_⟩; clear ha; intro a ha
              refine st_val (.bool true) ha (by kernel_rfl) (by kernel_rfl) ?_
              clear ha; intro a ha
              refine st_val (.bool true) ha (by kernel_rfl) (by kernel_rfl) ?_
              clear ha; intro a ha
              refine st_val (.slice A1 x.length c2) ha (by kernel_rfl) (by kernel_rfl) ?_
              clear ha; intro a ha
              refine st_val (.string (str q)) ha (by kernel_rfl) (by kernel_rfl) ?_
              clear ha; intro a ha
              refine st_call ha (by kernel_rfl) (by kernel_rfl) (in_is W _ w A1 x.length c2 x (Knows.own (j := 2) rfl) rfl (by omega) q true ((canon_self hcx q).trans h1) s) ?_
              rintro _ w ⟨rfl, s⟩
              replace s : St W (Own 29 2 A5 z.length c6 (sps z) :: Own 29 2 A3 y.length c4 (sps y) :: Own 29 2 A1 x.length c2 (sps x) :: L) w := s
              refine ⟨_, rfl, ?_⟩; clear ha; intro a ha
              refine st_val (.bool true) ha (by kernel_rfl) (by kernel_rfl) ?_
              clear ha; intro a ha
              refine st_val (.bool true) ha (by kernel_rfl) (by kernel_rfl) ?_
              clear ha; intro a ha
              refine st_val (.bool true) ha (by kernel_rfl) (by kernel_rfl) ?_
              clear ha; intro a ha
              refine st_val (.bool true) ha (by kernel_rfl) (by kernel_rfl) ?_
              clear ha; intro a ha
              refine st_val (.slice A3 y.length c4) ha (by kernel_rfl) (by kernel_rfl) ?_
              clear ha; intro a ha
              refine st_val (.string (str q)) ha (by kernel_rfl) (by kernel_rfl) ?_
              clear ha; intro a ha
              refine st_call ha (by kernel_rfl) (by kernel_rfl) (in_is W _ w A3 y.length c4 y (Knows.own (j := 1) rfl) rfl (by omega) q true ((canon_self hcy q).trans (by rw [h1, h2]; rfl)) s) ?_
              rintro _ w ⟨rfl, s⟩
              replace s : St W (Own 29 2 A5 z.length c6 (sps z) :: Own 29 2 A3 y.length c4 (sps y) :: Own 29 2 A1 x.length c2 (sps x) :: L) w := s
              refine ⟨_, rfl, ?_⟩; clear ha; intro a ha
              refine st_val (.bool true) ha (by kernel_rfl) (by kernel_rfl) ?_
              clear ha; intro a ha
              refine st_val (.bool true) ha (by kernel_rfl) (by kernel_rfl) ?_
              clear ha; intro a ha
              refine st_val (.bool true) ha (by kernel_rfl) (by kernel_rfl) ?_
              clear ha; intro a ha
              refine st_val (.bool true) ha (by kernel_rfl) (by kernel_rfl) ?_
              clear ha; intro a ha
              refine st_val (.bool true) ha (by kernel_rfl) (by kernel_rfl) ?_
              clear ha; intro a ha
              refine st_val (.bool true) ha (by kernel_rfl) (by kernel_rfl) ?_
              clear ha; intro a ha
              refine st_val (.bool true) ha (by kernel_rfl) (by kernel_rfl) ?_
              clear ha; intro a ha
              refine st_val (.slice A5 z.length c6) ha (by kernel_rfl) (by kernel_rfl) ?_
              clear ha; intro a ha
              refine st_val (.string (str q)) ha (by kernel_rfl) (by kernel_rfl) ?_
              clear ha; intro a ha
              refine st_call ha (by kernel_rfl) (by kernel_rfl) (in_is W _ w A5 z.length c6 z (Knows.own (j := 0) rfl) rfl (by omega) q false ((canon_self hcz q).trans (by rw [h1, h3]; rfl)) s) ?_
              rintro _ w ⟨rfl, s⟩
              replace s : St W (Own 29 2 A5 z.length c6 (sps z) :: Own 29 2 A3 y.length c4 (sps y) :: Own 29 2 A1 x.length c2 (sps x) :: L) w := s
              refine ⟨_, rfl, ?_⟩; clear ha; intro a ha
              refine st_val (.bool true) ha (by kernel_rfl) (by kernel_rfl) ?_
              clear ha; intro a ha
              refine st_val (.bool true) ha (by kernel_rfl) (by kernel_rfl) ?_
              clear ha; intro a ha
              refine st_val (.bool true) ha (by kernel_rfl) (by kernel_rfl) ?_
              clear ha; intro a ha
              refine st_val (.bool false) ha (by kernel_rfl) (by kernel_rfl) ?_
              clear ha; intro a ha
              refine st_val (.bool false) ha (by kernel_rfl) (by kernel_rfl) ?_
              clear ha; intro a ha
              refine st_val (.bool true) ha (by kernel_rfl) (by kernel_rfl) ?_
              clear ha; intro a ha
              refine st_val (.bool true) ha (by kernel_rfl) (by kernel_rfl) ?_
              clear ha; intro a ha
              refine st_val (.bool true) ha (by kernel_rfl) (by kernel_rfl) ?_
              clear ha; intro a ha
              refine st_val (.slice A n ca) ha (by kernel_rfl) (by kernel_rfl) ?_
              clear ha; intro a ha
              refine st_val (.string (str q)) ha (by kernel_rfl) (by kernel_rfl) ?_
              clear ha; intro a ha
              refine st_call ha (by kernel_rfl) (by kernel_rfl) (in_is W _ w A n ca la (fun w s => hra w (Sat.drops (A := [Own 29 2 A5 z.length c6 (sps z), Own 29 2 A3 y.length c4 (sps y), Own 29 2 A1 x.length c2 (sps x)]) s)) han hn q true h1 s) ?_
              rintro _ w ⟨rfl, s⟩
              replace s : St W (Own 29 2 A5 z.length c6 (sps z) :: Own 29 2 A3 y.length c4 (sps y) :: Own 29 2 A1 x.length c2 (sps x) :: L) w := s
              refine ⟨_, rfl, ?_⟩; clear ha; intro a ha
              refine st_val (.bool true) ha (by kernel_rfl) (by kernel_rfl) ?_
              clear ha; intro a ha
              refine st_val (.bool true) ha (by kernel_rfl) (by kernel_rfl) ?_
              clear ha; intro a ha
              refine st_val (.bool true) ha (by kernel_rfl) (by kernel_rfl) ?_
              clear ha; intro a ha
              refine st_val (.bool true) ha (by kernel_rfl) (by kernel_rfl) ?_
              clear ha; intro a ha
              refine wpList_nil ?_
              refine then_normal ?_
              refine wp_ret ?_
              refine ret_with (v := .bool true) ha (results_1 rfl ha (res_tmp (by kernel_rfl) (by kernel_rfl))) ?_
              replace s := s.tail.tail.tail
              replace s : St W (L) w := s
              exact ⟨rfl, s⟩

theorem spansKeys_true_false (W : World) (L : List Chunk) (w : World) (A B : Option Addr) (n m ca cb : Nat) (la lb : List Span) (hra : Knows L fun w => Reads w 2 A n (sps la)) (hrb : Knows L fun w => Reads w 2 B m (sps lb)) (han : la.length = n) (hbm : lb.length = m) (hn : n ≤ 140737488351232) (hm : m ≤ 140737488351232) (q : K) (h1 : decide (0 < cnt la q) = true) (h2 : decide (0 < cnt lb q) = false) (s : St W L w) :
    Calls Try.prog 6 #[.slice A n ca, .slice B m cb, .string (str q)] w fun e w' => e = .returned (.bool true) ∧ St W L w' := by
  have h3 : decide (cnt lb q = 0) = true := by simp at h2 ⊢; omega
  refine enter_args (l := [.slice A n ca, .slice B m cb, .string (str q)]) Try.func6 rfl rfl (Nat.le_of_ble_eq_true rfl) ?_
  intro a ha; replace ha : Has a 151 [(0, .slice A n ca), (1, .slice B m cb), (2, .string (str q))] := ha
  refine wp_seq ?_
  refine wp_region_lit ?_
  refine st_val (.bool false) ha (by kernel_rfl) (by kernel_rfl) ?_
  clear ha; intro a ha
  refine wpList_nil ?_
  refine then_normal ?_
  refine wp_seq ?_
  refine wp_seq ?_
  refine wp_region_lit ?_
  refine st_call ha (by kernel_rfl) (by kernel_rfl) (works_true W _ w s) ?_
  rintro _ w ⟨rfl, s⟩
  replace s : St W (L) w := s
  refine ⟨_, rfl, ?_⟩; clear ha; intro a ha
  refine st_val (.bool false) ha (by kernel_rfl) (by kernel_rfl) ?_
  clear ha; intro a ha
  refine wpList_nil ?_
  refine then_normal ?_
  refine wp_false ha rfl (by kernel_rfl) ?_
  refine wp_skip ?_
  refine then_normal ?_
  refine wp_seq ?_
  refine wp_seq ?_
  refine wp_region_lit ?_
  refine st_val (.slice A n ca) ha (by kernel_rfl) (by kernel_rfl) ?_
  clear ha; intro a ha
  refine st_call ha (by kernel_rfl) (by kernel_rfl) (may_any W _ w A n ca la (fun w s => hra w (Sat.drops (A := []) s)) han hn s) ?_
  rintro _ w ⟨bn, rfl, hmayn, s⟩
  replace s : St W (L) w := s
  refine ⟨_, rfl, ?_⟩; clear ha; intro a ha
  refine st_val (.bool (!bn)) ha (by kernel_rfl) (by kernel_rfl) ?_
  clear ha; intro a ha
  refine st_val (.bool (!bn)) ha (by kernel_rfl) (by kernel_rfl) ?_
  clear ha; intro a ha
  rcases Bool.eq_false_or_eq_true (!bn) with hb | hb
  · rw [hb] at ha; skip
    refine st_pass ha (by kernel_rfl) ?_
    clear ha; intro a ha
    refine st_pass ha (by kernel_rfl) ?_
    clear ha; intro a ha
    refine st_pass ha (by kernel_rfl) ?_
    clear ha; intro a ha
    refine st_val (.bool true) ha (by kernel_rfl) (by kernel_rfl) ?_
    clear ha; intro a ha
    refine wpList_nil ?_
    refine then_normal ?_
    refine wp_true ha rfl (by kernel_rfl) ?_
    refine wp_seq ?_
    refine wp_region_lit ?_
    refine st_val (.bool true) ha (by kernel_rfl) (by kernel_rfl) ?_
    clear ha; intro a ha
    refine wpList_nil ?_
    refine then_normal ?_
    refine wp_ret ?_
    refine then_ret ?_
    refine ret_with (v := .bool true) ha (results_1 rfl ha (res_tmp (by kernel_rfl) (by kernel_rfl))) ?_
    exact ⟨rfl, s⟩
  · rw [hb] at ha; skip
    obtain ⟨hn3, hoka⟩ := hmayn (by simpa using hb)
    refine st_val (.slice B m cb) ha (by kernel_rfl) (by kernel_rfl) ?_
    clear ha; intro a ha
    refine st_call ha (by kernel_rfl) (by kernel_rfl) (may_any W _ w B m cb lb (fun w s => hrb w (Sat.drops (A := []) s)) hbm hm s) ?_
    rintro _ w ⟨bm, rfl, hmaym, s⟩
    replace s : St W (L) w := s
    refine ⟨_, rfl, ?_⟩; clear ha; intro a ha
    refine st_val (.bool (!bm)) ha (by kernel_rfl) (by kernel_rfl) ?_
    clear ha; intro a ha
    refine st_val (.bool (!bm)) ha (by kernel_rfl) (by kernel_rfl) ?_
    clear ha; intro a ha
    refine wpList_nil ?_
    refine then_normal ?_
    refine wp_part (!bm) ha rfl (by kernel_rfl) (fun hb => ?_) (fun hb => ?_)
    · rw [hb] at ha; skip
      refine wp_seq ?_
      refine wp_region_lit ?_
      refine st_val (.bool true) ha (by kernel_rfl) (by kernel_rfl) ?_
      clear ha; intro a ha
      refine wpList_nil ?_
      refine then_normal ?_
      refine wp_ret ?_
      refine then_ret ?_
      refine ret_with (v := .bool true) ha (results_1 rfl ha (res_tmp (by kernel_rfl) (by kernel_rfl))) ?_
      exact ⟨rfl, s⟩
    · rw [hb] at ha; skip
      obtain ⟨hm3, hokb⟩ := hmaym (by simpa using hb)
      refine wp_skip ?_
      refine then_normal ?_
      refine wp_seq ?_
      refine wp_region_lit ?_
      refine st_val (.slice A n ca) ha (by kernel_rfl) (by kernel_rfl) ?_
      clear ha; intro a ha
      refine st_call ha (by kernel_rfl) (by kernel_rfl) (join_ok W _ w A n ca la (fun w s => hra w (Sat.drops (A := []) s)) han hoka (by omega) s) ?_
      rintro _ w ⟨A1, c2, x, rfl, hcx, hsx, hlx, s⟩
      replace s : St W (Own 29 2 A1 x.length c2 (sps x) :: L) w := s
      refine ⟨_, rfl, ?_⟩; clear ha; intro a ha
      refine st_val (.tuple #[.slice A1 x.length c2, .int .i64 0]) ha (by kernel_rfl) (by kernel_rfl) ?_
      clear ha; intro a ha
      refine st_val (.slice A1 x.length c2) ha (by kernel_rfl) (by kernel_rfl) ?_
      clear ha; intro a ha
      refine st_val (.int .i64 0) ha (by kernel_rfl) (by kernel_rfl) ?_
      clear ha; intro a ha
      refine st_val (.slice A1 x.length c2) ha (by kernel_rfl) (by kernel_rfl) ?_
      clear ha; intro a ha
      refine st_val (.int .i64 0) ha (by kernel_rfl) (by kernel_rfl) ?_
      clear ha; intro a ha
      refine wpList_nil ?_
      refine then_normal ?_
      refine wp_seq ?_
      refine wp_region_lit ?_
      refine st_val (.slice A n ca) ha (by kernel_rfl) (by kernel_rfl) ?_
      clear ha; intro a ha
      refine st_val (.slice B m cb) ha (by kernel_rfl) (by kernel_rfl) ?_
      clear ha; intro a ha
      refine st_call ha (by kernel_rfl) (by kernel_rfl) (both_ok W _ w A B n m ca cb la lb (fun w s => hra w (Sat.drops (A := [Own 29 2 A1 x.length c2 (sps x)]) s)) (fun w s => hrb w (Sat.drops (A := [Own 29 2 A1 x.length c2 (sps x)]) s)) han hbm hoka hokb (by omega) (by omega) s) ?_
      rintro _ w ⟨A3, c4, y, rfl, hcy, hsy, hly, s⟩
      replace s : St W (Own 29 2 A3 y.length c4 (sps y) :: Own 29 2 A1 x.length c2 (sps x) :: L) w := s
      refine ⟨_, rfl, ?_⟩; clear ha; intro a ha
      refine st_val (.tuple #[.slice A3 y.length c4, .int .i64 0]) ha (by kernel_rfl) (by kernel_rfl) ?_
      clear ha; intro a ha
      refine st_val (.slice A3 y.length c4) ha (by kernel_rfl) (by kernel_rfl) ?_
      clear ha; intro a ha
      refine st_val (.int .i64 0) ha (by kernel_rfl) (by kernel_rfl) ?_
      clear ha; intro a ha
      refine st_val (.slice A3 y.length c4) ha (by kernel_rfl) (by kernel_rfl) ?_
      clear ha; intro a ha
      refine st_val (.int .i64 0) ha (by kernel_rfl) (by kernel_rfl) ?_
      clear ha; intro a ha
      refine wpList_nil ?_
      refine then_normal ?_
      refine wp_seq ?_
      refine wp_region_lit ?_
      refine st_val (.slice A n ca) ha (by kernel_rfl) (by kernel_rfl) ?_
      clear ha; intro a ha
      refine st_val (.slice B m cb) ha (by kernel_rfl) (by kernel_rfl) ?_
      clear ha; intro a ha
      refine st_call ha (by kernel_rfl) (by kernel_rfl) (less_ok W _ w A B n m ca cb la lb (fun w s => hra w (Sat.drops (A := [Own 29 2 A3 y.length c4 (sps y), Own 29 2 A1 x.length c2 (sps x)]) s)) (fun w s => hrb w (Sat.drops (A := [Own 29 2 A3 y.length c4 (sps y), Own 29 2 A1 x.length c2 (sps x)]) s)) han hbm hoka hokb (by omega) (by omega) s) ?_
      rintro _ w ⟨A5, c6, z, rfl, hcz, hsz, hlz, s⟩
      replace s : St W (Own 29 2 A5 z.length c6 (sps z) :: Own 29 2 A3 y.length c4 (sps y) :: Own 29 2 A1 x.length c2 (sps x) :: L) w := s
      refine ⟨_, rfl, ?_⟩; clear ha; intro a ha
      refine st_val (.tuple #[.slice A5 z.length c6, .int .i64 0]) ha (by kernel_rfl) (by kernel_rfl) ?_
      clear ha; intro a ha
      refine st_val (.slice A5 z.length c6) ha (by kernel_rfl) (by kernel_rfl) ?_
      clear ha; intro a ha
      refine st_val (.int .i64 0) ha (by kernel_rfl) (by kernel_rfl) ?_
      clear ha; intro a ha
      refine st_val (.slice A5 z.length c6) ha (by kernel_rfl) (by kernel_rfl) ?_
      clear ha; intro a ha
      refine st_val (.int .i64 0) ha (by kernel_rfl) (by kernel_rfl) ?_
      clear ha; intro a ha
      refine wpList_nil ?_
      refine then_normal ?_
      refine wp_seq ?_
      refine wp_region_lit ?_
      refine st_val (.bool false) ha (by kernel_rfl) (by kernel_rfl) ?_
      clear ha; intro a ha
      refine st_val (.bool false) ha (by kernel_rfl) (by kernel_rfl) ?_
      clear ha; intro a ha
      refine wpList_nil ?_
      refine then_normal ?_
      refine wp_seq ?_
      refine wp_seq ?_
      refine wp_region_lit ?_
      refine st_val (.int .i64 0) ha (by kernel_rfl) (by kernel_rfl) ?_
      clear ha; intro a ha
      refine wpList_nil ?_
      refine then_normal ?_
      refine wp_block ?_
      refine wp_loopG (G := Nat) (fun k a w => Has a 151 [(0, .slice A n ca), (1, .slice B m cb), (2, .string (str q)), (7, .slice A1 x.length c2), (8, .int .i64 0), (9, .slice A3 y.length c4), (10, .int .i64 0), (11, .slice A5 z.length c6), (12, .int .i64 0), (14, .bool false), (15, .int .i64 ((k : Nat) : Int)), (13, .bool (decide (0 < cnt (la.take k) q)))] ∧ St W (Own 29 2 A5 z.length c6 (sps z) :: Own 29 2 A3 y.length c4 (sps y) :: Own 29 2 A1 x.length c2 (sps x) :: L) w ∧ (k ≤ n)) (fun k => n - k) 0 ?_ ?_
      · exact ⟨(Has.cons ha (by kernel_rfl) (by kernel_rfl) (Has.cons ha (by kernel_rfl) (by kernel_rfl) (Has.cons ha (by kernel_rfl) (by kernel_rfl) (Has.cons ha (by kernel_rfl) (by kernel_rfl) (Has.cons ha (by kernel_rfl) (by kernel_rfl) (Has.cons ha (by kernel_rfl) (by kernel_rfl) (Has.cons ha (by kernel_rfl) (by kernel_rfl) (Has.cons ha (by kernel_rfl) (by kernel_rfl) (Has.cons ha (by kernel_rfl) (by kernel_rfl) (Has.cons ha (by kernel_rfl) (by kernel_rfl) (Has.cons ha (by kernel_rfl) (by kernel_rfl) (Has.cons ha (by kernel_rfl) (by kernel_rfl) (Has.nil ha))))))))))))), s, Nat.zero_le _⟩
      · clear ha s; rintro k a w ⟨ha, s, hp⟩
        refine wp_seq ?_
        refine wp_seq ?_
        refine wp_region_lit ?_
        refine st_val (.int .i64 ((k : Nat) : Int)) ha (by kernel_rfl) (by kernel_rfl) ?_
        clear ha; intro a ha
        refine st_val (.slice A n ca) ha (by kernel_rfl) (by kernel_rfl) ?_
        clear ha; intro a ha
        refine st_val (.int .i64 ((n : Nat) : Int)) ha (by kernel_rfl) (by kernel_rfl) ?_
        clear ha; intro a ha
        refine st_val (.bool (decide (((k : Nat) : Int) < ((n : Nat) : Int)))) ha (by kernel_rfl) (by kernel_rfl) ?_
        clear ha; intro a ha
        refine wpList_nil ?_
        refine then_normal ?_
        refine wp_part (decide (((k : Nat) : Int) < ((n : Nat) : Int))) ha rfl (by kernel_rfl) (fun hb => ?_) (fun hb => ?_)
        · rw [hb] at ha; replace hb : (((k : Nat) : Int) < ((n : Nat) : Int)) := of_decide_eq_true hb
          obtain ⟨v, hv⟩ : ∃ v, la[k]? = some v := ⟨_, List.getElem?_eq_getElem (by omega)⟩
          obtain ⟨ada, hA⟩ := Reads.addr (hra _ (Sat.drops (A := [Own 29 2 A5 z.length c6 (sps z), Own 29 2 A3 y.length c4 (sps y), Own 29 2 A1 x.length c2 (sps x)]) s.sat)) (by omega)
          subst hA
          refine wp_skip ?_
          refine then_normal ?_
          refine wp_seq ?_
          refine wp_block ?_
          refine wp_region_lit ?_
          refine st_val (.bool (decide (0 < cnt (la.take k) q))) ha (by kernel_rfl) (by kernel_rfl) ?_
          clear ha; intro a ha
          refine st_val (.bool (decide (0 < cnt (la.take k) q))) ha (by kernel_rfl) (by kernel_rfl) ?_
          clear ha; intro a ha
          rcases Bool.eq_false_or_eq_true (decide (0 < cnt (la.take k) q)) with hb | hb
          · rw [hb] at ha; replace hb : (0 < cnt (la.take k) q) := of_decide_eq_true hb
            refine st_pass ha (by kernel_rfl) ?_
            clear ha; intro a ha
            refine st_pass ha (by kernel_rfl) ?_
            clear ha; intro a ha
            refine st_pass ha (by kernel_rfl) ?_
            clear ha; intro a ha
            refine st_pass ha (by kernel_rfl) ?_
            clear ha; intro a ha
            refine st_pass ha (by kernel_rfl) ?_
            clear ha; intro a ha
            refine st_pass ha (by kernel_rfl) ?_
            clear ha; intro a ha
            refine st_pass ha (by kernel_rfl) ?_
            clear ha; intro a ha
            refine st_pass ha (by kernel_rfl) ?_
            clear ha; intro a ha
            refine st_pass ha (by kernel_rfl) ?_
            clear ha; intro a ha
            refine st_pass ha (by kernel_rfl) ?_
            clear ha; intro a ha
            refine st_pass ha (by kernel_rfl) ?_
            clear ha; intro a ha
            refine st_pass ha (by kernel_rfl) ?_
            clear ha; intro a ha
            refine st_pass ha (by kernel_rfl) ?_
            clear ha; intro a ha
            refine st_pass ha (by kernel_rfl) ?_
            clear ha; intro a ha
            refine st_pass ha (by kernel_rfl) ?_
            clear ha; intro a ha
            refine st_pass ha (by kernel_rfl) ?_
            clear ha; intro a ha
            refine st_val (.bool true) ha (by kernel_rfl) (by kernel_rfl) ?_
            clear ha; intro a ha
            refine st_val (.bool true) ha (by kernel_rfl) (by kernel_rfl) ?_
            clear ha; intro a ha
            refine wpList_nil ?_
            refine block_normal ?_
            refine then_normal ?_
            refine wp_region_lit ?_
            refine st_val (.int .i64 ((k : Nat) : Int)) ha (by kernel_rfl) (by kernel_rfl) ?_
            clear ha; intro a ha
            refine st_val (.int .i64 ((k + 1 : Nat) : Int)) ha (by kernel_rfl) (run_arith (((k : Nat) : Int) + (1 : Int)) ((k + 1 : Nat) : Int) rfl (by kernel_rfl) (by kernel_rfl) (.inl ⟨rfl, rfl⟩) (by rw [wrap64_in (by omega)]; try omega) _) ?_
            clear ha; intro a ha
            refine st_val (.int .i64 ((k + 1 : Nat) : Int)) ha (by kernel_rfl) (by kernel_rfl) ?_
            clear ha; intro a ha
            refine wpList_nil ?_
            refine then_normal ?_
            have hacc : true = decide (0 < cnt (la.take (k + 1)) q) := by rw [cnt_take hv]; first | (simp_all [has]; done) | (rw [show has v q = false from by unfold has; rw [decide_eq_false hb]; rfl, Bool.or_false]; symm; exact decide_eq_false (by assumption))
            exact ⟨k + 1, by omega, (Has.cons ha (by kernel_rfl) (by kernel_rfl) (Has.cons ha (by kernel_rfl) (by kernel_rfl) (Has.cons ha (by kernel_rfl) (by kernel_rfl) (Has.cons ha (by kernel_rfl) (by kernel_rfl) (Has.cons ha (by kernel_rfl) (by kernel_rfl) (Has.cons ha (by kernel_rfl) (by kernel_rfl) (Has.cons ha (by kernel_rfl) (by kernel_rfl) (Has.cons ha (by kernel_rfl) (by kernel_rfl) (Has.cons ha (by kernel_rfl) (by kernel_rfl) (Has.cons ha (by kernel_rfl) (by kernel_rfl) (Has.cons ha (by kernel_rfl) (by kernel_rfl) (Has.cons ha (by kernel_rfl) (congrArg Value.bool hacc) (Has.nil ha))))))))))))), s, by omega⟩
          · rw [hb] at ha; replace hb : ¬ (0 < cnt (la.take k) q) := of_decide_eq_false hb
            refine st_val (.string (str q)) ha (by kernel_rfl) (by kernel_rfl) ?_
            clear ha; intro a ha
            refine st_val (.slice (some ada) n ca) ha (by kernel_rfl) (by kernel_rfl) ?_
            clear ha; intro a ha
            refine st_val (.int .i64 ((k : Nat) : Int)) ha (by kernel_rfl) (by kernel_rfl) ?_
            clear ha; intro a ha
            refine st_val (.pointer (some (ada.add (k * 2)))) ha (by kernel_rfl) (run_indexAddr' (kd := .i64) (i := ((k : Nat) : Int)) (n := n) (c := ca) k rfl Try.underlying22 Try.sizeOf29 (by kernel_rfl) (by kernel_rfl) rfl (by first | assumption | omega) _) ?_
            clear ha; intro a ha
            refine st_val (.pointer (some (ada.add (k * 2 + 0)))) ha (by kernel_rfl) (run_fieldAddr_at (i := k * 2) (off := 0) rfl Try.underlying29 rfl Try.sizeOf9 (by kernel_rfl) _) ?_
            clear ha; intro a ha
            refine st_val (.string (str v.1)) ha (by kernel_rfl) (run_loadAt1 (i := k * 2 + 0) ((hra _ (Sat.drops (A := [Own 29 2 A5 z.length c6 (sps z), Own 29 2 A3 y.length c4 (sps y), Own 29 2 A1 x.length c2 (sps x)]) s.sat))) rfl (by kernel_rfl) Try.isAgg9 (by rw [sps_at hv (by omega)]; rfl)) ?_
            clear ha; intro a ha
            refine st_val (.bool (decide (v.1 ≤ q))) ha (by kernel_rfl) (run_sgeq (p := q) (q := v.1) rfl (by kernel_rfl) (by kernel_rfl) _) ?_
            clear ha; intro a ha
            refine st_val (.bool (decide (v.1 ≤ q))) ha (by kernel_rfl) (by kernel_rfl) ?_
            clear ha; intro a ha
            rcases Bool.eq_false_or_eq_true (decide (v.1 ≤ q)) with hb | hb
            · rw [hb] at ha; replace hb : (v.1 ≤ q) := of_decide_eq_true hb
              refine st_val (.string (str q)) ha (by kernel_rfl) (by kernel_rfl) ?_
              clear ha; intro a ha
              refine st_val (.slice (some ada) n ca) ha (by kernel_rfl) (by kernel_rfl) ?_
              clear ha; intro a ha
              refine st_val (.int .i64 ((k : Nat) : Int)) ha (by kernel_rfl) (by kernel_rfl) ?_
              clear ha; intro a ha
              refine st_val (.pointer (some (ada.add (k * 2)))) ha (by kernel_rfl) (run_indexAddr' (kd := .i64) (i := ((k : Nat) : Int)) (n := n) (c := ca) k rfl Try.underlying22 Try.sizeOf29 (by kernel_rfl) (by kernel_rfl) rfl (by first | assumption | omega) _) ?_
              clear ha; intro a ha
              refine st_val (.pointer (some (ada.add (k * 2 + 1)))) ha (by kernel_rfl) (run_fieldAddr_at (i := k * 2) (off := 1) rfl Try.underlying29 rfl Try.sizeOf9 (by kernel_rfl) _) ?_
              clear ha; intro a ha
              refine st_val (.string (str v.2)) ha (by kernel_rfl) (run_loadAt1 (i := k * 2 + 1) ((hra _ (Sat.drops (A := [Own 29 2 A5 z.length c6 (sps z), Own 29 2 A3 y.length c4 (sps y), Own 29 2 A1 x.length c2 (sps x)]) s.sat))) rfl (by kernel_rfl) Try.isAgg9 (by rw [sps_at hv (by omega)]; rfl)) ?_
              clear ha; intro a ha
              refine st_val (.bool (decide (q < v.2))) ha (by kernel_rfl) (run_slss (p := q) (q := v.2) rfl (by kernel_rfl) (by kernel_rfl) _) ?_
              clear ha; intro a ha
              refine st_val (.bool (decide (q < v.2))) ha (by kernel_rfl) (by kernel_rfl) ?_
              clear ha; intro a ha
              refine st_val (.bool (decide (q < v.2))) ha (by kernel_rfl) (by kernel_rfl) ?_
              clear ha; intro a ha
              refine st_val (.bool (decide (q < v.2))) ha (by kernel_rfl) (by kernel_rfl) ?_
              clear ha; intro a ha
              refine wpList_nil ?_
              refine block_normal ?_
              refine then_normal ?_
              refine wp_region_lit ?_
              refine st_val (.int .i64 ((k : Nat) : Int)) ha (by kernel_rfl) (by kernel_rfl) ?_
              clear ha; intro a ha
              refine st_val (.int .i64 ((k + 1 : Nat) : Int)) ha (by kernel_rfl) (run_arith (((k : Nat) : Int) + (1 : Int)) ((k + 1 : Nat) : Int) rfl (by kernel_rfl) (by kernel_rfl) (.inl ⟨rfl, rfl⟩) (by rw [wrap64_in (by omega)]; try omega) _) ?_
              clear ha; intro a ha
              refine st_val (.int .i64 ((k + 1 : Nat) : Int)) ha (by kernel_rfl) (by kernel_rfl) ?_
              clear ha; intro a ha
              refine wpList_nil ?_
              refine then_normal ?_
              have hacc : decide (q < v.2) = decide (0 < cnt (la.take (k + 1)) q) := by rw [cnt_take hv]; first | (simp_all [has]; done) | (rw [show has v q = false from by unfold has; rw [decide_eq_false hb]; rfl, Bool.or_false]; symm; exact decide_eq_false (by assumption))
              exact ⟨k + 1, by omega, (Has.cons ha (by kernel_rfl) (by kernel_rfl) (Has.cons ha (by kernel_rfl) (by kernel_rfl) (Has.cons ha (by kernel_rfl) (by kernel_rfl) (Has.cons ha (by kernel_rfl) (by kernel_rfl) (Has.cons ha (by kernel_rfl) (by kernel_rfl) (Has.cons ha (by kernel_rfl) (by kernel_rfl) (Has.cons ha (by kernel_rfl) (by kernel_rfl) (Has.cons ha (by kernel_rfl) (by kernel_rfl) (Has.cons ha (by kernel_rfl) (by kernel_rfl) (Has.cons ha (by kernel_rfl) (by kernel_rfl) (Has.cons ha (by kernel_rfl) (by kernel_rfl) (Has.cons ha (by kernel_rfl) (congrArg Value.bool hacc) (Has.nil ha))))))))))))), s, by omega⟩
            · rw [hb] at ha; replace hb : ¬ (v.1 ≤ q) := of_decide_eq_false hb
              refine st_pass ha (by kernel_rfl) ?_
              clear ha; intro a ha
              refine st_pass ha (by kernel_rfl) ?_
              clear ha; intro a ha
              refine st_pass ha (by kernel_rfl) ?_
              clear ha; intro a ha
              refine st_pass ha (by kernel_rfl) ?_
              clear ha; intro a ha
              refine st_pass ha (by kernel_rfl) ?_
              clear ha; intro a ha
              refine st_pass ha (by kernel_rfl) ?_
              clear ha; intro a ha
              refine st_pass ha (by kernel_rfl) ?_
              clear ha; intro a ha
              refine st_val (.bool false) ha (by kernel_rfl) (by kernel_rfl) ?_
              clear ha; intro a ha
              refine st_val (.bool false) ha (by kernel_rfl) (by kernel_rfl) ?_
              clear ha; intro a ha
              refine st_val (.bool false) ha (by kernel_rfl) (by kernel_rfl) ?_
              clear ha; intro a ha
              refine wpList_nil ?_
              refine block_normal ?_
              refine then_normal ?_
              refine wp_region_lit ?_
              refine st_val (.int .i64 ((k : Nat) : Int)) ha (by kernel_rfl) (by kernel_rfl) ?_
              clear ha; intro a ha
              refine st_val (.int .i64 ((k + 1 : Nat) : Int)) ha (by kernel_rfl) (run_arith (((k : Nat) : Int) + (1 : Int)) ((k + 1 : Nat) : Int) rfl (by kernel_rfl) (by kernel_rfl) (.inl ⟨rfl, rfl⟩) (by rw [wrap64_in (by omega)]; try omega) _) ?_
              clear ha; intro a ha
              refine st_val (.int .i64 ((k + 1 : Nat) : Int)) ha (by kernel_rfl) (by kernel_rfl) ?_
              clear ha; intro a ha
              refine wpList_nil ?_
              refine then_normal ?_
              have hacc : false = decide (0 < cnt (la.take (k + 1)) q) := by rw [cnt_take hv]; first | (simp_all [has]; done) | (rw [show has v q = false from by unfold has; rw [decide_eq_false hb]; rfl, Bool.or_false]; symm; exact decide_eq_false (by assumption))
              exact ⟨k + 1, by omega, (Has.cons ha (by kernel_rfl) (by kernel_rfl) (Has.cons ha (by kernel_rfl) (by kernel_rfl) (Has.cons ha (by kernel_rfl) (by kernel_rfl) (Has.cons ha (by kernel_rfl) (by kernel_rfl) (Has.cons ha (by kernel_rfl) (by kernel_rfl) (Has.cons ha (by kernel_rfl) (by kernel_rfl) (Has.cons ha (by kernel_rfl) (by kernel_rfl) (Has.cons ha (by kernel_rfl) (by kernel_rfl) (Has.cons ha (by kernel_rfl) (by kernel_rfl) (Has.cons ha (by kernel_rfl) (by kernel_rfl) (Has.cons ha (by kernel_rfl) (by kernel_rfl) (Has.cons ha (by kernel_rfl) (congrArg Value.bool hacc) (Has.nil ha))))))))))))), s, by omega⟩
        · rw [hb] at ha; replace hb : ¬ (((k : Nat) : Int) < ((n : Nat) : Int)) := of_decide_eq_false hb
          have hk : k = n := by omega
          rw [hk, show la.take n = la from List.take_of_length_le (by omega), h1] at ha
          refine wp_exit ?_
          refine then_exit ?_
          refine then_exit ?_
          refine block_hit ?_
          refine then_normal ?_
          refine wp_seq ?_
          refine wp_seq ?_
          refine wp_region_lit ?_
          refine st_val (.int .i64 0) ha (by kernel_rfl) (by kernel_rfl) ?_
          clear ha; intro a ha
          refine wpList_nil ?_
          refine then_normal ?_
          refine wp_block ?_
          refine wp_loopG (G := Nat) (fun k a w => Has a 151 [(0, .slice A n ca), (1, .slice B m cb), (2, .string (str q)), (7, .slice A1 x.length c2), (8, .int .i64 0), (9, .slice A3 y.length c4), (10, .int .i64 0), (11, .slice A5 z.length c6), (12, .int .i64 0), (13, .bool true), (16, .int .i64 ((k : Nat) : Int)), (14, .bool (decide (0 < cnt (lb.take k) q)))] ∧ St W (Own 29 2 A5 z.length c6 (sps z) :: Own 29 2 A3 y.length c4 (sps y) :: Own 29 2 A1 x.length c2 (sps x) :: L) w ∧ (k ≤ m)) (fun k => m - k) 0 ?_ ?_
          · exact ⟨(Has.cons ha (by kernel_rfl) (by kernel_rfl) (Has.cons ha (by kernel_rfl) (by kernel_rfl) (Has.cons ha (by kernel_rfl) (by kernel_rfl) (Has.cons ha (by kernel_rfl) (by kernel_rfl) (Has.cons ha (by kernel_rfl) (by kernel_rfl) (Has.cons ha (by kernel_rfl) (by kernel_rfl) (Has.cons ha (by kernel_rfl) (by kernel_rfl) (Has.cons ha (by kernel_rfl) (by kernel_rfl) (Has.cons ha (by kernel_rfl) (by kernel_rfl) (Has.cons ha (by kernel_rfl) (by kernel_rfl) (Has.cons ha (by kernel_rfl) (by kernel_rfl) (Has.cons ha (by kernel_rfl) (by kernel_rfl) (Has.nil ha))))))))))))), s, Nat.zero_le _⟩
          · clear ha s; rintro k a w ⟨ha, s, hp⟩
            refine wp_seq ?_
            refine wp_seq ?_
            refine wp_region_lit ?_
            refine st_val (.int .i64 ((k : Nat) : Int)) ha (by kernel_rfl) (by kernel_rfl) ?_
            clear ha; intro a ha
            refine st_val (.slice B m cb) ha (by kernel_rfl) (by kernel_rfl) ?_
            clear ha; intro a ha
            refine st_val (.int .i64 ((m : Nat) : Int)) ha (by kernel_rfl) (by kernel_rfl) ?_
            clear ha; intro a ha
            refine st_val (.bool (decide (((k : Nat) : Int) < ((m : Nat) : Int)))) ha (by kernel_rfl) (by kernel_rfl) ?_
            clear ha; intro a ha
            refine wpList_nil ?_
            refine then_normal ?_
            refine wp_part (decide (((k : Nat) : Int) < ((m : Nat) : Int))) ha rfl (by kernel_rfl) (fun hb => ?_) (fun hb => ?_)
            · rw [hb] at ha; replace hb : (((k : Nat) : Int) < ((m : Nat) : Int)) := of_decide_eq_true hb
              obtain ⟨v, hv⟩ : ∃ v, lb[k]? = some v := ⟨_, List.getElem?_eq_getElem (by omega)⟩
              obtain ⟨adb, hA⟩ := Reads.addr (hrb _ (Sat.drops (A := [Own 29 2 A5 z.length c6 (sps z), Own 29 2 A3 y.length c4 (sps y), Own 29 2 A1 x.length c2 (sps x)]) s.sat)) (by omega)
              subst hA
              refine wp_skip ?_
              refine then_normal ?_
              refine wp_seq ?_
              refine wp_block ?_
              refine wp_region_lit ?_
              refine st_val (.bool (decide (0 < cnt (lb.take k) q))) ha (by kernel_rfl) (by kernel_rfl) ?_
              clear ha; intro a ha
              refine st_val (.bool (decide (0 < cnt (lb.take k) q))) ha (by kernel_rfl) (by kernel_rfl) ?_
              clear ha; intro a ha
              rcases Bool.eq_false_or_eq_true (decide (0 < cnt (lb.take k) q)) with hb | hb
              · rw [hb] at ha; replace hb : (0 < cnt (lb.take k) q) := of_decide_eq_true hb
                refine st_pass ha (by kernel_rfl) ?_
                clear ha; intro a ha
                refine st_pass ha (by kernel_rfl) ?_
                clear ha; intro a ha
                refine st_pass ha (by kernel_rfl) ?_
                clear ha; intro a ha
                refine st_pass ha (by kernel_rfl) ?_
                clear ha; intro a ha
                refine st_pass ha (by kernel_rfl) ?_
                clear ha; intro a ha
                refine st_pass ha (by kernel_rfl) ?_
                clear ha; intro a ha
                refine st_pass ha (by kernel_rfl) ?_
                clear ha; intro a ha
                refine st_pass ha (by kernel_rfl) ?_
                clear ha; intro a ha
                refine st_pass ha (by kernel_rfl) ?_
                clear ha; intro a ha
                refine st_pass ha (by kernel_rfl) ?_
                clear ha; intro a ha
                refine st_pass ha (by kernel_rfl) ?_
                clear ha; intro a ha
                refine st_pass ha (by kernel_rfl) ?_
                clear ha; intro a ha
                refine st_pass ha (by kernel_rfl) ?_
                clear ha; intro a ha
                refine st_pass ha (by kernel_rfl) ?_
                clear ha; intro a ha
                refine st_pass ha (by kernel_rfl) ?_
                clear ha; intro a ha
                refine st_pass ha (by kernel_rfl) ?_
                clear ha; intro a ha
                refine st_val (.bool true) ha (by kernel_rfl) (by kernel_rfl) ?_
                clear ha; intro a ha
                refine st_val (.bool true) ha (by kernel_rfl) (by kernel_rfl) ?_
                clear ha; intro a ha
                refine wpList_nil ?_
                refine block_normal ?_
                refine then_normal ?_
                refine wp_region_lit ?_
                refine st_val (.int .i64 ((k : Nat) : Int)) ha (by kernel_rfl) (by kernel_rfl) ?_
                clear ha; intro a ha
                refine st_val (.int .i64 ((k + 1 : Nat) : Int)) ha (by kernel_rfl) (run_arith (((k : Nat) : Int) + (1 : Int)) ((k + 1 : Nat) : Int) rfl (by kernel_rfl) (by kernel_rfl) (.inl ⟨rfl, rfl⟩) (by rw [wrap64_in (by omega)]; try omega) _) ?_
                clear ha; intro a ha
                refine st_val (.int .i64 ((k + 1 : Nat) : Int)) ha (by kernel_rfl) (by kernel_rfl) ?_
                clear ha; intro a ha
                refine wpList_nil ?_
                refine then_normal ?_
                have hacc : true = decide (0 < cnt (lb.take (k + 1)) q) := by rw [cnt_take hv]; first | (simp_all [has]; done) | (rw [show has v q = false from by unfold has; rw [decide_eq_false hb]; rfl, Bool.or_false]; symm; exact decide_eq_false (by assumption))
                exact ⟨k + 1, by omega, (Has.cons ha (by kernel_rfl) (by kernel_rfl) (Has.cons ha (by kernel_rfl) (by kernel_rfl) (Has.cons ha (by kernel_rfl) (by kernel_rfl) (Has.cons ha (by kernel_rfl) (by kernel_rfl) (Has.cons ha (by kernel_rfl) (by kernel_rfl) (Has.cons ha (by kernel_rfl) (by kernel_rfl) (Has.cons ha (by kernel_rfl) (by kernel_rfl) (Has.cons ha (by kernel_rfl) (by kernel_rfl) (Has.cons ha (by kernel_rfl) (by kernel_rfl) (Has.cons ha (by kernel_rfl) (by kernel_rfl) (Has.cons ha (by kernel_rfl) (by kernel_rfl) (Has.cons ha (by kernel_rfl) (congrArg Value.bool hacc) (Has.nil ha))))))))))))), s, by omega⟩
              · rw [hb] at ha; replace hb : ¬ (0 < cnt (lb.take k) q) := of_decide_eq_false hb
                refine st_val (.string (str q)) ha (by kernel_rfl) (by kernel_rfl) ?_
                clear ha; intro a ha
                refine st_val (.slice (some adb) m cb) ha (by kernel_rfl) (by kernel_rfl) ?_
                clear ha; intro a ha
                refine st_val (.int .i64 ((k : Nat) : Int)) ha (by kernel_rfl) (by kernel_rfl) ?_
                clear ha; intro a ha
                refine st_val (.pointer (some (adb.add (k * 2)))) ha (by kernel_rfl) (run_indexAddr' (kd := .i64) (i := ((k : Nat) : Int)) (n := m) (c := cb) k rfl Try.underlying22 Try.sizeOf29 (by kernel_rfl) (by kernel_rfl) rfl (by first | assumption | omega) _) ?_
                clear ha; intro a ha
                refine st_val (.pointer (some (adb.add (k * 2 + 0)))) ha (by kernel_rfl) (run_fieldAddr_at (i := k * 2) (off := 0) rfl Try.underlying29 rfl Try.sizeOf9 (by kernel_rfl) _) ?_
                clear ha; intro a ha
                refine st_val (.string (str v.1)) ha (by kernel_rfl) (run_loadAt1 (i := k * 2 + 0) ((hrb _ (Sat.drops (A := [Own 29 2 A5 z.length c6 (sps z), Own 29 2 A3 y.length c4 (sps y), Own 29 2 A1 x.length c2 (sps x)]) s.sat))) rfl (by kernel_rfl) Try.isAgg9 (by rw [sps_at hv (by omega)]; rfl)) ?_
                clear ha; intro a ha
                refine st_val (.bool (decide (v.1 ≤ q))) ha (by kernel_rfl) (run_sgeq (p := q) (q := v.1) rfl (by kernel_rfl) (by kernel_rfl) _) ?_
                clear ha; intro a ha
                refine st_val (.bool (decide (v.1 ≤ q))) ha (by kernel_rfl) (by kernel_rfl) ?_
                clear ha; intro a ha
                rcases Bool.eq_false_or_eq_true (decide (v.1 ≤ q)) with hb | hb
                · rw [hb] at ha; replace hb : (v.1 ≤ q) := of_decide_eq_true hb
                  refine st_val (.string (str q)) ha (by kernel_rfl) (by kernel_rfl) ?_
                  clear ha; intro a ha
                  refine st_val (.slice (some adb) m cb) ha (by kernel_rfl) (by kernel_rfl) ?_
                  clear ha; intro a ha
                  refine st_val (.int .i64 ((k : Nat) : Int)) ha (by kernel_rfl) (by kernel_rfl) ?_
                  clear ha; intro a ha
                  refine st_val (.pointer (some (adb.add (k * 2)))) ha (by kernel_rfl) (run_indexAddr' (kd := .i64) (i := ((k : Nat) : Int)) (n := m) (c := cb) k rfl Try.underlying22 Try.sizeOf29 (by kernel_rfl) (by kernel_rfl) rfl (by first | assumption | omega) _) ?_
                  clear ha; intro a ha
                  refine st_val (.pointer (some (adb.add (k * 2 + 1)))) ha (by kernel_rfl) (run_fieldAddr_at (i := k * 2) (off := 1) rfl Try.underlying29 rfl Try.sizeOf9 (by kernel_rfl) _) ?_
                  clear ha; intro a ha
                  refine st_val (.string (str v.2)) ha (by kernel_rfl) (run_loadAt1 (i := k * 2 + 1) ((hrb _ (Sat.drops (A := [Own 29 2 A5 z.length c6 (sps z), Own 29 2 A3 y.length c4 (sps y), Own 29 2 A1 x.length c2 (sps x)]) s.sat))) rfl (by kernel_rfl) Try.isAgg9 (by rw [sps_at hv (by omega)]; rfl)) ?_
                  clear ha; intro a ha
                  refine st_val (.bool (decide (q < v.2))) ha (by kernel_rfl) (run_slss (p := q) (q := v.2) rfl (by kernel_rfl) (by kernel_rfl) _) ?_
                  clear ha; intro a ha
                  refine st_val (.bool (decide (q < v.2))) ha (by kernel_rfl) (by kernel_rfl) ?_
                  clear ha; intro a ha
                  refine st_val (.bool (decide (q < v.2))) ha (by kernel_rfl) (by kernel_rfl) ?_
                  clear ha; intro a ha
                  refine st_val (.bool (decide (q < v.2))) ha (by kernel_rfl) (by kernel_rfl) ?_
                  clear ha; intro a ha
                  refine wpList_nil ?_
                  refine block_normal ?_
                  refine then_normal ?_
                  refine wp_region_lit ?_
                  refine st_val (.int .i64 ((k : Nat) : Int)) ha (by kernel_rfl) (by kernel_rfl) ?_
                  clear ha; intro a ha
                  refine st_val (.int .i64 ((k + 1 : Nat) : Int)) ha (by kernel_rfl) (run_arith (((k : Nat) : Int) + (1 : Int)) ((k + 1 : Nat) : Int) rfl (by kernel_rfl) (by kernel_rfl) (.inl ⟨rfl, rfl⟩) (by rw [wrap64_in (by omega)]; try omega) _) ?_
                  clear ha; intro a ha
                  refine st_val (.int .i64 ((k + 1 : Nat) : Int)) ha (by kernel_rfl) (by kernel_rfl) ?_
                  clear ha; intro a ha
                  refine wpList_nil ?_
                  refine then_normal ?_
                  have hacc : decide (q < v.2) = decide (0 < cnt (lb.take (k + 1)) q) := by rw [cnt_take hv]; first | (simp_all [has]; done) | (rw [show has v q = false from by unfold has; rw [decide_eq_false hb]; rfl, Bool.or_false]; symm; exact decide_eq_false (by assumption))
                  exact ⟨k + 1, by omega, (Has.cons ha (by kernel_rfl) (by kernel_rfl) (Has.cons ha (by kernel_rfl) (by kernel_rfl) (Has.cons ha (by kernel_rfl) (by kernel_rfl) (Has.cons ha (by kernel_rfl) (by kernel_rfl) (Has.cons ha (by kernel_rfl) (by kernel_rfl) (Has.cons ha (by kernel_rfl) (by kernel_rfl) (Has.cons ha (by kernel_rfl) (by kernel_rfl) (Has.cons ha (by kernel_rfl) (by kernel_rfl) (Has.cons ha (by kernel_rfl) (by kernel_rfl) (Has.cons ha (by kernel_rfl) (by kernel_rfl) (Has.cons ha (by kernel_rfl) (by kernel_rfl) (Has.cons ha (by kernel_rfl) (congrArg Value.bool hacc) (Has.nil ha))))))))))))), s, by omega⟩
                · rw [hb] at ha; replace hb : ¬ (v.1 ≤ q) := of_decide_eq_false hb
                  refine st_pass ha (by kernel_rfl) ?_
                  clear ha; intro a ha
                  refine st_pass ha (by kernel_rfl) ?_
                  clear ha; intro a ha
                  refine st_pass ha (by kernel_rfl) ?_
                  clear ha; intro a ha
                  refine st_pass ha (by kernel_rfl) ?_
                  clear ha; intro a ha
                  refine st_pass ha (by kernel_rfl) ?_
                  clear ha; intro a ha
                  refine st_pass ha (by kernel_rfl) ?_
                  clear ha; intro a ha
                  refine st_pass ha (by kernel_rfl) ?_
                  clear ha; intro a ha
                  refine st_val (.bool false) ha (by kernel_rfl) (by kernel_rfl) ?_
                  clear ha; intro a ha
                  refine st_val (.bool false) ha (by kernel_rfl) (by kernel_rfl) ?_
                  clear ha; intro a ha
                  refine st_val (.bool false) ha (by kernel_rfl) (by kernel_rfl) ?_
                  clear ha; intro a ha
                  refine wpList_nil ?_
                  refine block_normal ?_
                  refine then_normal ?_
                  refine wp_region_lit ?_
                  refine st_val (.int .i64 ((k : Nat) : Int)) ha (by kernel_rfl) (by kernel_rfl) ?_
                  clear ha; intro a ha
                  refine st_val (.int .i64 ((k + 1 : Nat) : Int)) ha (by kernel_rfl) (run_arith (((k : Nat) : Int) + (1 : Int)) ((k + 1 : Nat) : Int) rfl (by kernel_rfl) (by kernel_rfl) (.inl ⟨rfl, rfl⟩) (by rw [wrap64_in (by omega)]; try omega) _) ?_
                  clear ha; intro a ha
                  refine st_val (.int .i64 ((k + 1 : Nat) : Int)) ha (by kernel_rfl) (by kernel_rfl) ?_
                  clear ha; intro a ha
                  refine wpList_nil ?_
                  refine then_normal ?_
                  have hacc : false = decide (0 < cnt (lb.take (k + 1)) q) := by rw [cnt_take hv]; first | (simp_all [has]; done) | (rw [show has v q = false from by unfold has; rw [decide_eq_false hb]; rfl, Bool.or_false]; symm; exact decide_eq_false (by assumption))
                  exact ⟨k + 1, by omega, (Has.cons ha (by kernel_rfl) (by kernel_rfl) (Has.cons ha (by kernel_rfl) (by kernel_rfl) (Has.cons ha (by kernel_rfl) (by kernel_rfl) (Has.cons ha (by kernel_rfl) (by kernel_rfl) (Has.cons ha (by kernel_rfl) (by kernel_rfl) (Has.cons ha (by kernel_rfl) (by kernel_rfl) (Has.cons ha (by kernel_rfl) (by kernel_rfl) (Has.cons ha (by kernel_rfl) (by kernel_rfl) (Has.cons ha (by kernel_rfl) (by kernel_rfl) (Has.cons ha (by kernel_rfl) (by kernel_rfl) (Has.cons ha (by kernel_rfl) (by kernel_rfl) (Has.cons ha (by kernel_rfl) (congrArg Value.bool hacc) (Has.nil ha))))))))))))), s, by omega⟩
            · rw [hb] at ha; replace hb : ¬ (((k : Nat) : Int) < ((m : Nat) : Int)) := of_decide_eq_false hb
              have hk : k = m := by omega
              rw [hk, show lb.take m = lb from List.take_of_length_le (by omega), h2] at ha
              refine wp_exit ?_
              refine then_exit ?_
              refine then_exit ?_
              refine block_hit ?_
              refine then_normal ?_
              refine wp_seq ?_
              refine wp_region_lit ?_
              refine st_val (.int .i64 0) ha (by kernel_rfl) (by kernel_rfl) ?_
              clear ha; intro a ha
              refine st_val (.bool true) ha (by kernel_rfl) (by kernel_rfl) ?_
              clear ha; intro a ha
              refine st_val (.bool true) ha (by kernel_rfl) (by kernel_rfl) ?_
              clear ha; intro a ha
              refine st_val (.int .i64 0) ha (by kernel_rfl) (by kernel_rfl) ?_
              clear ha; intro a ha
              refine st_val (.bool true) ha (by kernel_rfl) (by kernel_rfl) ?_
              clear ha; intro a ha
              refine st_val (.bool true) ha (by kernel_rfl) (by kernel_rfl) ?_
              clear ha; intro a ha
              refine st_val (.bool true) ha (by kernel_rfl) (by kernel_rfl) ?_
              clear ha; intro a ha
              refine st_val (.int .i64 0) ha (by kernel_rfl) (by kernel_rfl) ?_
              clear ha; intro a ha
              refine st_val (.bool true) ha (by kernel_rfl) (by kernel_rfl) ?_
              clear ha; intro a ha
              refine st_val (.bool true) ha (by kernel_rfl) (by kernel_rfl) ?_
              clear ha; intro a ha
              refine st_val (.bool true) ha (by kernel_rfl) (by kernel_rfl) ?_
              clear ha; intro a ha
              refine st_val (.slice A1 x.length c2) ha (by kernel_rfl) (by kernel_rfl) ?_
              clear ha; intro a ha
              refine st_call ha (by kernel_rfl) (by kernel_rfl) (ordered_ok W _ w A1 x.length c2 x (Knows.own (j := 2) rfl) rfl (by omega) hcx.ord hcx.lt s) ?_
              rintro _ w ⟨rfl, s⟩
              replace s : St W (Own 29 2 A5 z.length c6 (sps z) :: Own 29 2 A3 y.length c4 (sps y) :: Own 29 2 A1 x.length c2 (sps x) :: L) w := s
              refine ⟨_, rfl, ?_⟩; clear ha; intro a ha
              refine st_val (.bool true) ha (by kernel_rfl) (by kernel_rfl) ?_
              clear ha; intro a ha
              refine st_val (.bool true) ha (by kernel_rfl) (by kernel_rfl) ?_
              clear ha; intro a ha
              refine st_val (.slice A3 y.length c4) ha (by kernel_rfl) (by kernel_rfl) ?_
              clear ha; intro a ha
              refine st_call ha (by kernel_rfl) (by kernel_rfl) (ordered_ok W _ w A3 y.length c4 y (Knows.own (j := 1) rfl) rfl (by omega) hcy.ord hcy.lt s) ?_
              rintro _ w ⟨rfl, s⟩
              replace s : St W (Own 29 2 A5 z.length c6 (sps z) :: Own 29 2 A3 y.length c4 (sps y) :: Own 29 2 A1 x.length c2 (sps x) :: L) w := s
              refine ⟨_, rfl, ?_⟩; clear ha; intro a ha
              refine st_val (.bool true) ha (by kernel_rfl) (by kernel_rfl) ?_
              clear ha; intro a ha
              refine st_val (.bool true) ha (by kernel_rfl) (by kernel_rfl) ?_
              clear ha; intro a ha
              refine st_val (.slice A5 z.length c6) ha (by kernel_rfl) (by kernel_rfl) ?_
              clear ha; intro a ha
              refine st_call ha (by kernel_rfl) (by kernel_rfl) (ordered_ok W _ w A5 z.length c6 z (Knows.own (j := 0) rfl) rfl (by omega) hcz.ord hcz.lt s) ?_
              rintro _ w ⟨rfl, s⟩
              replace s : St W (Own 29 2 A5 z.length c6 (sps z) :: Own 29 2 A3 y.length c4 (sps y) :: Own 29 2 A1 x.length c2 (sps x) :: L) w := s
              refine ⟨_, rfl, ?_⟩; clear ha; intro a ha
              refine st_val (.bool true) ha (by kernel_rfl) (by kernel_rfl) ?_
              clear ha; intro a ha
              refine st_val (.bool true) ha (by kernel_rfl) (by kernel_rfl) ?_
              clear ha; intro a ha
              refine st_val (.slice A1 x.length c2) ha (by kernel_rfl) (by kernel_rfl) ?_
              clear ha; intro a ha
              refine st_val (.string (str q)) ha (by kernel_rfl) (by kernel_rfl) ?_
              clear ha; intro a ha
              refine st_call ha (by kernel_rfl) (by kernel_rfl) (in_is W _ w A1 x.length c2 x (Knows.own (j := 2) rfl) rfl (by omega) q true ((canon_self hcx q).trans h1) s) ?_
              rintro _ w ⟨rfl, s⟩
              replace s : St W (Own 29 2 A5 z.length c6 (sps z) :: Own 29 2 A3 y.length c4 (sps y) :: Own 29 2 A1 x.length c2 (sps x) :: L) w := s
              refine ⟨_, rfl, ?_⟩; clear ha; intro a ha
              refine st_val (.bool true) ha (by kernel_rfl) (by kernel_rfl) ?_
              clear ha; intro a ha
              refine st_val (.bool true) ha (by kernel_rfl) (by kernel_rfl) ?_
              clear ha; intro a ha
              refine st_val (.bool true) ha (by kernel_rfl) (by kernel_rfl) ?_
              clear ha; intro a ha
              refine st_val (.bool true) ha (by kernel_rfl) (by kernel_rfl) ?_
              clear ha; intro a ha
              refine st_val (.slice A3 y.length c4) ha (by kernel_rfl) (by kernel_rfl) ?_
              clear ha; intro a ha
              refine st_val (.string (str q)) ha (by kernel_rfl) (by kernel_rfl) ?_
              clear ha; intro a ha
              refine st_call ha (by kernel_rfl) (by kernel_rfl) (in_is W _ w A3 y.length c4 y (Knows.own (j := 1) rfl) rfl (by omega) q false ((canon_self hcy q).trans (by rw [h1, h2]; rfl)) s) ?_
              rintro _ w ⟨rfl, s⟩
              replace s : St W (Own 29 2 A5 z.length c6 (sps z) :: Own 29 2 A3 y.length c4 (sps y) :: Own 29 2 A1 x.length c2 (sps x) :: L) w := s
              refine ⟨_, rfl, ?_⟩; clear ha; intro a ha
              refine st_val (.bool true) ha (by kernel_rfl) (by kernel_rfl) ?_
              clear ha; intro a ha
              refine st_val (.bool true) ha (by kernel_rfl) (by kernel_rfl) ?_
              clear ha; intro a ha
              refine st_val (.bool false) ha (by kernel_rfl) (by kernel_rfl) ?_
              clear ha; intro a ha
              refine st_val (.bool false) ha (by kernel_rfl) (by kernel_rfl) ?_
              clear ha; intro a ha
              refine st_val (.bool true) ha (by kernel_rfl) (by kernel_rfl) ?_
              clear ha; intro a ha
              refine st_val (.bool true) ha (by kernel_rfl) (by kernel_rfl) ?_
              clear ha; intro a ha
              refine st_val (.bool true) ha (by kernel_rfl) (by kernel_rfl) ?_
              clear ha; intro a ha
              refine st_val (.slice A5 z.length c6) ha (by kernel_rfl) (by kernel_rfl) ?_
              clear ha; intro a ha
              refine st_val (.string (str q)) ha (by kernel_rfl) (by kernel_rfl) ?_
              clear ha; intro a ha
              refine st_call ha (by kernel_rfl) (by kernel_rfl) (in_is W _ w A5 z.length c6 z (Knows.own (j := 0) rfl) rfl (by omega) q true ((canon_self hcz q).trans (by rw [h1, h3]; rfl)) s) ?_
              rintro _ w ⟨rfl, s⟩
              replace s : St W (Own 29 2 A5 z.length c6 (sps z) :: Own 29 2 A3 y.length c4 (sps y) :: Own 29 2 A1 x.length c2 (sps x) :: L) w := s
              refine ⟨_, rfl, ?_⟩; clear ha; intro a ha
              refine st_val (.bool true) ha (by kernel_rfl) (by kernel_rfl) ?_
              clear ha; intro a ha
              refine st_val (.bool true) ha (by kernel_rfl) (by kernel_rfl) ?_
              clear ha; intro a ha
              refine st_val (.bool false) ha (by kernel_rfl) (by kernel_rfl) ?_
              clear ha; intro a ha
              refine st_val (.bool true) ha (by kernel_rfl) (by kernel_rfl) ?_
              clear ha; intro a ha
              refine st_val (.bool true) ha (by kernel_rfl) (by kernel_rfl) ?_
              clear ha; intro a ha
              refine st_val (.bool true) ha (by kernel_rfl) (by kernel_rfl) ?_
              clear ha; intro a ha
              refine st_val (.bool true) ha (by kernel_rfl) (by kernel_rfl) ?_
              clear ha; intro a ha
              refine st_val (.bool true) ha (by kernel_rfl) (by kernel_rfl) ?_
              clear ha; intro a ha
              refine st_val (.slice A n ca) ha (by kernel_rfl) (by kernel_rfl) ?_
              clear ha; intro a ha
              refine st_val (.string (str q)) ha (by kernel_rfl) (by kernel_rfl) ?_
              clear ha; intro a ha
              refine st_call ha (by kernel_rfl) (by kernel_rfl) (in_is W _ w A n ca la (fun w s => hra w (Sat.drops (A := [Own 29 2 A5 z.length c6 (sps z), Own 29 2 A3 y.length c4 (sps y), Own 29 2 A1 x.length c2 (sps x)]) s)) han hn q true h1 s) ?_
              rintro _ w ⟨rfl, s⟩
              replace s : St W (Own 29 2 A5 z.length c6 (sps z) :: Own 29 2 A3 y.length c4 (sps y) :: Own 29 2 A1 x.length c2 (sps x) :: L) w := s
              refine ⟨_, rfl, ?_⟩; clear ha; intro a ha
              refine st_val (.bool true) ha (by kernel_rfl) (by kernel_rfl) ?_
              clear ha; intro a ha
              refine st_val (.bool true) ha (by kernel_rfl) (by kernel_rfl) ?_
              clear ha; intro a ha
              refine st_val (.bool true) ha (by kernel_rfl) (by kernel_rfl) ?_
              clear ha; intro a ha
              refine st_val (.bool true) ha (by kernel_rfl) (by kernel_rfl) ?_
              clear ha; intro a ha
              refine wpList_nil ?_
              refine then_normal ?_
              refine wp_ret ?_
              refine ret_with (v := .bool true) ha (results_1 rfl ha (res_tmp (by kernel_rfl) (by kernel_rfl))) ?_
              replace s := s.tail.tail.tail
              replace s : St W (L) w := s
              exact ⟨rfl, s⟩

theorem spansKeys_false_true (W : World) (L : List Chunk) (w : World) (A B : Option Addr) (n m ca cb : Nat) (la lb : List Span) (hra : Knows L fun w => Reads w 2 A n (sps la)) (hrb : Knows L fun w => Reads w 2 B m (sps lb)) (han : la.length = n) (hbm : lb.length = m) (hn : n ≤ 140737488351232) (hm : m ≤ 140737488351232) (q : K) (h1 : decide (0 < cnt la q) = false) (h2 : decide (0 < cnt lb q) = true) (s : St W L w) :
    Calls Try.prog 6 #[.slice A n ca, .slice B m cb, .string (str q)] w fun e w' => e = .returned (.bool true) ∧ St W L w' := by
  have h3 : decide (cnt lb q = 0) = false := by simp at h2 ⊢; omega
  refine enter_args (l := [.slice A n ca, .slice B m cb, .string (str q)]) Try.func6 rfl rfl (Nat.le_of_ble_eq_true rfl) ?_
  intro a ha; replace ha : Has a 151 [(0, .slice A n ca), (1, .slice B m cb), (2, .string (str q))] := ha
  refine wp_seq ?_
  refine wp_region_lit ?_
  refine st_val (.bool false) ha (by kernel_rfl) (by kernel_rfl) ?_
  clear ha; intro a ha
  refine wpList_nil ?_
  refine then_normal ?_
  refine wp_seq ?_
  refine wp_seq ?_
  refine wp_region_lit ?_
  refine st_call ha (by kernel_rfl) (by kernel_rfl) (works_true W _ w s) ?_
  rintro _ w ⟨rfl, s⟩
  replace s : St W (L) w := s
  refine ⟨_, rfl, ?_⟩; clear ha; intro a ha
  refine st_val (.bool false) ha (by kernel_rfl) (by kernel_rfl) ?_
  clear ha; intro a ha
  refine wpList_nil ?_
  refine then_normal ?_
  refine wp_false ha rfl (by kernel_rfl) ?_
  refine wp_skip ?_
  refine then_normal ?_
  refine wp_seq ?_
  refine wp_seq ?_
  refine wp_region_lit ?_
  refine st_val (.slice A n ca) ha (by kernel_rfl) (by kernel_rfl) ?_
  clear ha; intro a ha
  refine st_call ha (by kernel_rfl) (by kernel_rfl) (may_any W _ w A n ca la (fun w s => hra w (Sat.drops (A := []) s)) han hn s) ?_
  rintro _ w ⟨bn, rfl, hmayn, s⟩
  replace s : St W (L) w := s
  refine ⟨_, rfl, ?_⟩; clear ha; intro a ha
  refine st_val (.bool (!bn)) ha (by kernel_rfl) (by kernel_rfl) ?_
  clear ha; intro a ha
  refine st_val (.bool (!bn)) ha (by kernel_rfl) (by kernel_rfl) ?_
  clear ha; intro a ha
  rcases Bool.eq_false_or_eq_true (!bn) with hb | hb
  · rw [hb] at ha; skip
    refine st_pass ha (by kernel_rfl) ?_
    clear ha; intro a ha
    refine st_pass ha (by kernel_rfl) ?_
    clear ha; intro a ha
    refine st_pass ha (by kernel_rfl) ?_
    clear ha; intro a ha
    refine st_val (.bool true) ha (by kernel_rfl) (by kernel_rfl) ?_
    clear ha; intro a ha
    refine wpList_nil ?_
    refine then_normal ?_
    refine wp_true ha rfl (by kernel_rfl) ?_
    refine wp_seq ?_
    refine wp_region_lit ?_
    refine st_val (.bool true) ha (by kernel_rfl) (by kernel_rfl) ?_
    clear ha; intro a ha
    refine wpList_nil ?_
    refine then_normal ?_
    refine wp_ret ?_
    refine then_ret ?_
    refine ret_with (v := .bool true) ha (results_1 rfl ha (res_tmp (by kernel_rfl) (by kernel_rfl))) ?_
    exact ⟨rfl, s⟩
  · rw [hb] at ha; skip
    obtain ⟨hn3, hoka⟩ := hmayn (by simpa using hb)
    refine st_val (.slice B m cb) ha (by kernel_rfl) (by kernel_rfl) ?_
    clear ha; intro a ha
    refine st_call ha (by kernel_rfl) (by kernel_rfl) (may_any W _ w B m cb lb (fun w s => hrb w (Sat.drops (A := []) s)) hbm hm s) ?_
    rintro _ w ⟨bm, rfl, hmaym, s⟩
    replace s : St W (L) w := s
    refine ⟨_, rfl, ?_⟩; clear ha; intro a ha
    refine st_val (.bool (!bm)) ha (by kernel_rfl) (by kernel_rfl) ?_
    clear ha; intro a ha
    refine st_val (.bool (!bm)) ha (by kernel_rfl) (by kernel_rfl) ?_
    clear ha; intro a ha
    refine wpList_nil ?_
    refine then_normal ?_
    refine wp_part (!bm) ha rfl (by kernel_rfl) (fun hb => ?_) (fun hb => ?_)
    · rw [hb] at ha; skip
      refine wp_seq ?_
      refine wp_region_lit ?_
      refine st_val (.bool true) ha (by kernel_rfl) (by kernel_rfl) ?_
      clear ha; intro a ha
      refine wpList_nil ?_
      refine then_normal ?_
      refine wp_ret ?_
      refine then_ret ?_
      refine ret_with (v := .bool true) ha (results_1 rfl ha (res_tmp (by kernel_rfl) (by kernel_rfl))) ?_
      exact ⟨rfl, s⟩
    · rw [hb] at ha; skip
      obtain ⟨hm3, hokb⟩ := hmaym (by simpa using hb)
      refine wp_skip ?_
      refine then_normal ?_
      refine wp_seq ?_
      refine wp_region_lit ?_
      refine st_val (.slice A n ca) ha (by kernel_rfl) (by kernel_rfl) ?_
      clear ha; intro a ha
      refine st_call ha (by kernel_rfl) (by kernel_rfl) (join_ok W _ w A n ca la (fun w s => hra w (Sat.drops (A := []) s)) han hoka (by omega) s) ?_
      rintro _ w ⟨A1, c2, x, rfl, hcx, hsx, hlx, s⟩
      replace s : St W (Own 29 2 A1 x.length c2 (sps x) :: L) w := s
      refine ⟨_, rfl, ?_⟩; clear ha; intro a ha
      refine st_val (.tuple #[.slice A1 x.length c2, .int .i64 0]) ha (by kernel_rfl) (by kernel_rfl) ?_
      clear ha; intro a ha
      refine st_val (.slice A1 x.length c2) ha (by kernel_rfl) (by kernel_rfl) ?_
      clear ha; intro a ha
      refine st_val (.int .i64 0) ha (by kernel_rfl) (by kernel_rfl) ?_
      clear ha; intro a ha
      refine st_val (.slice A1 x.length c2) ha (by kernel_rfl) (by kernel_rfl) ?_
      clear ha; intro a ha
      refine st_val (.int .i64 0) ha (by kernel_rfl) (by kernel_rfl) ?_
      clear ha; intro a ha
      refine wpList_nil ?_
      refine then_normal ?_
      refine wp_seq ?_
      refine wp_region_lit ?_
      refine st_val (.slice A n ca) ha (by kernel_rfl) (by kernel_rfl) ?_
      clear ha; intro a ha
      refine st_val (.slice B m cb) ha (by kernel_rfl) (by kernel_rfl) ?_
      clear ha; intro a ha
      refine st_call ha (by kernel_rfl) (by kernel_rfl) (both_ok W _ w A B n m ca cb la lb (fun w s => hra w (Sat.drops (A := [Own 29 2 A1 x.length c2 (sps x)]) s)) (fun w s => hrb w (Sat.drops (A := [Own 29 2 A1 x.length c2 (sps x)]) s)) han hbm hoka hokb (by omega) (by omega) s) ?_
      rintro _ w ⟨A3, c4, y, rfl, hcy, hsy, hly, s⟩
      replace s : St W (Own 29 2 A3 y.length c4 (sps y) :: Own 29 2 A1 x.length c2 (sps x) :: L) w := s
      refine ⟨_, rfl, ?_⟩; clear ha; intro a ha
      refine st_val (.tuple #[.slice A3 y.length c4, .int .i64 0]) ha (by kernel_rfl) (by kernel_rfl) ?_
      clear ha; intro a ha
      refine st_val (.slice A3 y.length c4) ha (by kernel_rfl) (by kernel_rfl) ?_
      clear ha; intro a ha
      refine st_val (.int .i64 0) ha (by kernel_rfl) (by kernel_rfl) ?_
      clear ha; intro a ha
      refine st_val (.slice A3 y.length c4) ha (by kernel_rfl) (by kernel_rfl) ?_
      clear ha; intro a ha
      refine st_val (.int .i64 0) ha (by kernel_rfl) (by kernel_rfl) ?_
      clear ha; intro a ha
      refine wpList_nil ?_
      refine then_normal ?_
      refine wp_seq ?_
      refine wp_region_lit ?_
      refine st_val (.slice A n ca) ha (by kernel_rfl) (by kernel_rfl) ?_
      clear ha; intro a ha
      refine st_val (.slice B m cb) ha (by kernel_rfl) (by kernel_rfl) ?_
      clear ha; intro a ha
      refine st_call ha (by kernel_rfl) (by kernel_rfl) (less_ok W _ w A B n m ca cb la lb (fun w s => hra w (Sat.drops (A := [Own 29 2 A3 y.length c4 (sps y), Own 29 2 A1 x.length c2 (sps x)]) s)) (fun w s => hrb w (Sat.drops (A := [Own 29 2 A3 y.length c4 (sps y), Own 29 2 A1 x.length c2 (sps x)]) s)) han hbm hoka hokb (by omega) (by omega) s) ?_
      rintro _ w ⟨A5, c6, z, rfl, hcz, hsz, hlz, s⟩
      replace s : St W (Own 29 2 A5 z.length c6 (sps z) :: Own 29 2 A3 y.length c4 (sps y) :: Own 29 2 A1 x.length c2 (sps x) :: L) w := s
      refine ⟨_, rfl, ?_⟩; clear ha; intro a ha
      refine st_val (.tuple #[.slice A5 z.length c6, .int .i64 0]) ha (by kernel_rfl) (by kernel_rfl) ?_
      clear ha; intro a ha
      refine st_val (.slice A5 z.length c6) ha (by kernel_rfl) (by kernel_rfl) ?_
      clear ha; intro a ha
      refine st_val (.int .i64 0) ha (by kernel_rfl) (by kernel_rfl) ?_
      clear ha; intro a ha
      refine st_val (.slice A5 z.length c6) ha (by kernel_rfl) (by kernel_rfl) ?_
      clear ha; intro a ha
      refine st_val (.int .i64 0) ha (by kernel_rfl) (by kernel_rfl) ?_
      clear ha; intro a ha
      refine wpList_nil ?_
      refine then_normal ?_
      refine wp_seq ?_
      refine wp_region_lit ?_
      refine st_val (.bool false) ha (by kernel_rfl) (by kernel_rfl) ?_
      clear ha; intro a ha
      refine st_val (.bool false) ha (by kernel_rfl) (by kernel_rfl) ?_
      clear ha; intro a ha
      refine wpList_nil ?_
      refine then_normal ?_
      refine wp_seq ?_
      refine wp_seq ?_
      refine wp_region_lit ?_
      refine st_val (.int .i64 0) ha (by kernel_rfl) (by kernel_rfl) ?_
      clear ha; intro a ha
      refine wpList_nil ?_
      refine then_normal ?_
      refine wp_block ?_
      refine wp_loopG (G := Nat) (fun k a w => Has a 151 [(0, .slice A n ca), (1, .slice B m cb), (2, .string (str q)), (7, .slice A1 x.length c2), (8, .int .i64 0), (9, .slice A3 y.length c4), (10, .int .i64 0), (11, .slice A5 z.length c6), (12, .int .i64 0), (14, .bool false), (15, .int .i64 ((k : Nat) : Int)), (13, .bool (decide (0 < cnt (la.take k) q)))] ∧ St W (Own 29 2 A5 z.length c6 (sps z) :: Own 29 2 A3 y.length c4 (sps y) :: Own 29 2 A1 x.length c2 (sps x) :: L) w ∧ (k ≤ n)) (fun k => n - k) 0 ?_ ?_
      · exact ⟨(Has.cons ha (by kernel_rfl) (by kernel_rfl) (Has.cons ha (by kernel_rfl) (by kernel_rfl) (Has.cons ha (by kernel_rfl) (by kernel_rfl) (Has.cons ha (by kernel_rfl) (by kernel_rfl) (Has.cons ha (by kernel_rfl) (by kernel_rfl) (Has.cons ha (by kernel_rfl) (by kernel_rfl) (Has.cons ha (by kernel_rfl) (by kernel_rfl) (Has.cons ha (by kernel_rfl) (by kernel_rfl) (Has.cons ha (by kernel_rfl) (by kernel_rfl) (Has.cons ha (by kernel_rfl) (by kernel_rfl) (Has.cons ha (by kernel_rfl) (by kernel_rfl) (Has.cons ha (by kernel_rfl) (by kernel_rfl) (Has.nil ha))))))))))))), s, Nat.zero_le _⟩
      · clear ha s; rintro k a w ⟨ha, s, hp⟩
        refine wp_seq ?_
        refine wp_seq ?_
        refine wp_region_lit ?_
        refine st_val (.int .i64 ((k : Nat) : Int)) ha (by kernel_rfl) (by kernel_rfl) ?_
        clear ha; intro a ha
        refine st_val (.slice A n ca) ha (by kernel_rfl) (by kernel_rfl) ?_
        clear ha; intro a ha
        refine st_val (.int .i64 ((n : Nat) : Int)) ha (by kernel_rfl) (by kernel_rfl) ?_
        clear ha; intro a ha
        refine st_val (.bool (decide (((k : Nat) : Int) < ((n : Nat) : Int)))) ha (by kernel_rfl) (by kernel_rfl) ?_
        clear ha; intro a ha
        refine wpList_nil ?_
        refine then_normal ?_
        refine wp_part (decide (((k : Nat) : Int) < ((n : Nat) : Int))) ha rfl (by kernel_rfl) (fun hb => ?_) (fun hb => ?_)
        · rw [hb] at ha; replace hb : (((k : Nat) : Int) < ((n : Nat) : Int)) := of_decide_eq_true hb
          obtain ⟨v, hv⟩ : ∃ v, la[k]? = some v := ⟨_, List.getElem?_eq_getElem (by omega)⟩
          obtain ⟨ada, hA⟩ := Reads.addr (hra _ (Sat.drops (A := [Own 29 2 A5 z.length c6 (sps z), Own 29 2 A3 y.length c4 (sps y), Own 29 2 A1 x.length c2 (sps x)]) s.sat)) (by omega)
          subst hA
          refine wp_skip ?_
          refine then_normal ?_
          refine wp_seq ?_
          refine wp_block ?_
          refine wp_region_lit ?_
          refine st_val (.bool (decide (0 < cnt (la.take k) q))) ha (by kernel_rfl) (by kernel_rfl) ?_
          clear ha; intro a ha
          refine st_val (.bool (decide (0 < cnt (la.take k) q))) ha (by kernel_rfl) (by kernel_rfl) ?_
          clear ha; intro a ha
          rcases Bool.eq_false_or_eq_true (decide (0 < cnt (la.take k) q)) with hb | hb
          · rw [hb] at ha; replace hb : (0 < cnt (la.take k) q) := of_decide_eq_true hb
            refine st_pass ha (by kernel_rfl) ?_
            clear ha; intro a ha
            refine st_pass ha (by kernel_rfl) ?_
            clear ha; intro a ha
            refine st_pass ha (by kernel_rfl) ?_
            clear ha; intro a ha
            refine st_pass ha (by kernel_rfl) ?_
            clear ha; intro a ha
            refine st_pass ha (by kernel_rfl) ?_
            clear ha; intro a ha
            refine st_pass ha (by kernel_rfl) ?_
            clear ha; intro a ha
            refine st_pass ha (by kernel_rfl) ?_
            clear ha; intro a ha
            refine st_pass ha (by kernel_rfl) ?_
            clear ha; intro a ha
            refine st_pass ha (by kernel_rfl) ?_
            clear ha; intro a ha
            refine st_pass ha (by kernel_rfl) ?_
            clear ha; intro a ha
            refine st_pass ha (by kernel_rfl) ?_
            clear ha; intro a ha
            refine st_pass ha (by kernel_rfl) ?_
            clear ha; intro a ha
            refine st_pass ha (by kernel_rfl) ?_
            clear ha; intro a ha
            refine st_pass ha (by kernel_rfl) ?_
            clear ha; intro a ha
            refine st_pass ha (by kernel_rfl) ?_
            clear ha; intro a ha
            refine st_pass ha (by kernel_rfl) ?_
            clear ha; intro a ha
            refine st_val (.bool true) ha (by kernel_rfl) (by kernel_rfl) ?_
            clear ha; intro a ha
            refine st_val (.bool true) ha (by kernel_rfl) (by kernel_rfl) ?_
            clear ha; intro a ha
            refine wpList_nil ?_
            refine block_normal ?_
            refine then_normal ?_
            refine wp_region_lit ?_
            refine st_val (.int .i64 ((k : Nat) : Int)) ha (by kernel_rfl) (by kernel_rfl) ?_
            clear ha; intro a ha
            refine st_val (.int .i64 ((k + 1 : Nat) : Int)) ha (by kernel_rfl) (run_arith (((k : Nat) : Int) + (1 : Int)) ((k + 1 : Nat) : Int) rfl (by kernel_rfl) (by kernel_rfl) (.inl ⟨rfl, rfl⟩) (by rw [wrap64_in (by omega)]; try omega) _) ?_
            clear ha; intro a ha
            refine st_val (.int .i64 ((k + 1 : Nat) : Int)) ha (by kernel_rfl) (by kernel_rfl) ?_
            clear ha; intro a ha
            refine wpList_nil ?_
            refine then_normal ?_
            have hacc : true = decide (0 < cnt (la.take (k + 1)) q) := by rw [cnt_take hv]; first | (simp_all [has]; done) | (rw [show has v q = false from by unfold has; rw [decide_eq_false hb]; rfl, Bool.or_false]; symm; exact decide_eq_false (by assumption))
            exact ⟨k + 1, by omega, (Has.cons ha (by kernel_rfl) (by kernel_rfl) (Has.cons ha (by kernel_rfl) (by kernel_rfl) (Has.cons ha (by kernel_rfl) (by kernel_rfl) (Has.cons ha (by kernel_rfl) (by kernel_rfl) (Has.cons ha (by kernel_rfl) (by kernel_rfl) (Has.cons ha (by kernel_rfl) (by kernel_rfl) (Has.cons ha (by kernel_rfl) (by kernel_rfl) (Has.cons ha (by kernel_rfl) (by kernel_rfl) (Has.cons ha (by kernel_rfl) (by kernel_rfl) (Has.cons ha (by kernel_rfl) (by kernel_rfl) (Has.cons ha (by kernel_rfl) (by kernel_rfl) (Has.cons ha (by kernel_rfl) (congrArg Value.bool hacc) (Has.nil ha))))))))))))), s, by omega⟩
          · rw [hb] at ha; replace hb : ¬ (0 < cnt (la.take k) q) := of_decide_eq_false hb
            refine st_val (.string (str q)) ha (by kernel_rfl) (by kernel_rfl) ?_
            clear ha; intro a ha
            refine st_val (.slice (some ada) n ca) ha (by kernel_rfl) (by kernel_rfl) ?_
            clear ha; intro a ha
            refine st_val (.int .i64 ((k : Nat) : Int)) ha (by kernel_rfl) (by kernel_rfl) ?_
            clear ha; intro a ha
            refine st_val (.pointer (some (ada.add (k * 2)))) ha (by kernel_rfl) (run_indexAddr' (kd := .i64) (i := ((k : Nat) : Int)) (n := n) (c := ca) k rfl Try.underlying22 Try.sizeOf29 (by kernel_rfl) (by kernel_rfl) rfl (by first | assumption | omega) _) ?_
            clear ha; intro a ha
            refine st_val (.pointer (some (ada.add (k * 2 + 0)))) ha (by kernel_rfl) (run_fieldAddr_at (i := k * 2) (off := 0) rfl Try.underlying29 rfl Try.sizeOf9 (by kernel_rfl) _) ?_
            clear ha; intro a ha
            refine st_val (.string (str v.1)) ha (by kernel_rfl) (run_loadAt1 (i := k * 2 + 0) ((hra _ (Sat.drops (A := [Own 29 2 A5 z.length c6 (sps z), Own 29 2 A3 y.length c4 (sps y), Own 29 2 A1 x.length c2 (sps x)]) s.sat))) rfl (by kernel_rfl) Try.isAgg9 (by rw [sps_at hv (by omega)]; rfl)) ?_
            clear ha; intro a ha
            refine st_val (.bool (decide (v.1 ≤ q))) ha (by kernel_rfl) (run_sgeq (p := q) (q := v.1) rfl (by kernel_rfl) (by kernel_rfl) _) ?_
            clear ha; intro a ha
            refine st_val (.bool (decide (v.1 ≤ q))) ha (by kernel_rfl) (by kernel_rfl) ?_
            clear ha; intro a ha
            rcases Bool.eq_false_or_eq_true (decide (v.1 ≤ q)) with hb | hb
            · rw [hb] at ha; replace hb : (v.1 ≤ q) := of_decide_eq_true hb
              refine st_val (.string (str q)) ha (by kernel_rfl) (by kernel_rfl) ?_
              clear ha; intro a ha
              refine st_val (.slice (some ada) n ca) ha (by kernel_rfl) (by kernel_rfl) ?_
              clear ha; intro a ha
              refine st_val (.int .i64 ((k : Nat) : Int)) ha (by kernel_rfl) (by kernel_rfl) ?_
              clear ha; intro a ha
              refine st_val (.pointer (some (ada.add (k * 2)))) ha (by kernel_rfl) (run_indexAddr' (kd := .i64) (i := ((k : Nat) : Int)) (n := n) (c := ca) k rfl Try.underlying22 Try.sizeOf29 (by kernel_rfl) (by kernel_rfl) rfl (by first | assumption | omega) _) ?_
              clear ha; intro a ha
              refine st_val (.pointer (some (ada.add (k * 2 + 1)))) ha (by kernel_rfl) (run_fieldAddr_at (i := k * 2) (off := 1) rfl Try.underlying29 rfl Try.sizeOf9 (by kernel_rfl) _) ?_
              clear ha; intro a ha
              refine st_val (.string (str v.2)) ha (by kernel_rfl) (run_loadAt1 (i := k * 2 + 1) ((hra _ (Sat.drops (A := [Own 29 2 A5 z.length c6 (sps z), Own 29 2 A3 y.length c4 (sps y), Own 29 2 A1 x.length c2 (sps x)]) s.sat))) rfl (by kernel_rfl) Try.isAgg9 (by rw [sps_at hv (by omega)]; rfl)) ?_
              clear ha; intro a ha
              refine st_val (.bool (decide (q < v.2))) ha (by kernel_rfl) (run_slss (p := q) (q := v.2) rfl (by kernel_rfl) (by kernel_rfl) _) ?_
              clear ha; intro a ha
              refine st_val (.bool (decide (q < v.2))) ha (by kernel_rfl) (by kernel_rfl) ?_
              clear ha; intro a ha
              refine st_val (.bool (decide (q < v.2))) ha (by kernel_rfl) (by kernel_rfl) ?_
              clear ha; intro a ha
              refine st_val (.bool (decide (q < v.2))) ha (by kernel_rfl) (by kernel_rfl) ?_
              clear ha; intro a ha
              refine wpList_nil ?_
              refine block_normal ?_
              refine then_normal ?_
              refine wp_region_lit ?_
              refine st_val (.int .i64 ((k : Nat) : Int)) ha (by kernel_rfl) (by kernel_rfl) ?_
              clear ha; intro a ha
              refine st_val (.int .i64 ((k + 1 : Nat) : Int)) ha (by kernel_rfl) (run_arith (((k : Nat) : Int) + (1 : Int)) ((k + 1 : Nat) : Int) rfl (by kernel_rfl) (by kernel_rfl) (.inl ⟨rfl, rfl⟩) (by rw [wrap64_in (by omega)]; try omega) _) ?_
              clear ha; intro a ha
              refine st_val (.int .i64 ((k + 1 : Nat) : Int)) ha (by kernel_rfl) (by kernel_rfl) ?_
              clear ha; intro a ha
              refine wpList_nil ?_
              refine then_normal ?_
              have hacc : decide (q < v.2) = decide (0 < cnt (la.take (k + 1)) q) := by rw [cnt_take hv]; first | (simp_all [has]; done) | (rw [show has v q = false from by unfold has; rw [decide_eq_false hb]; rfl, Bool.or_false]; symm; exact decide_eq_false (by assumption))
              exact ⟨k + 1, by omega, (Has.cons ha (by kernel_rfl) (by kernel_rfl) (Has.cons ha (by kernel_rfl) (by kernel_rfl) (Has.cons ha (by kernel_rfl) (by kernel_rfl) (Has.cons ha (by kernel_rfl) (by kernel_rfl) (Has.cons ha (by kernel_rfl) (by kernel_rfl) (Has.cons ha (by kernel_rfl) (by kernel_rfl) (Has.cons ha (by kernel_rfl) (by kernel_rfl) (Has.cons ha (by kernel_rfl) (by kernel_rfl) (Has.cons ha (by kernel_rfl) (by kernel_rfl) (Has.cons ha (by kernel_rfl) (by kernel_rfl) (Has.cons ha (by kernel_rfl) (by kernel_rfl) (Has.cons ha (by kernel_rfl) (congrArg Value.bool hacc) (Has.nil ha))))))))))))), s, by omega⟩
            · rw [hb] at ha; replace hb : ¬ (v.1 ≤ q) := of_decide_eq_false hb
              refine st_pass ha (by kernel_rfl) ?_
              clear ha; intro a ha
              refine st_pass ha (by kernel_rfl) ?_
              clear ha; intro a ha
              refine st_pass ha (by kernel_rfl) ?_
              clear ha; intro a ha
              refine st_pass ha (by kernel_rfl) ?_
              clear ha; intro a ha
              refine st_pass ha (by kernel_rfl) ?_
              clear ha; intro a ha
              refine st_pass ha (by kernel_rfl) ?_
              clear ha; intro a ha
              refine st_pass ha (by kernel_rfl) ?_
              clear ha; intro a ha
              refine st_val (.bool false) ha (by kernel_rfl) (by kernel_rfl) ?_
              clear ha; intro a ha
              refine st_val (.bool false) ha (by kernel_rfl) (by kernel_rfl) ?_
              clear ha; intro a ha
              refine st_val (.bool false) ha (by kernel_rfl) (by kernel_rfl) ?_
              clear ha; intro a ha
              refine wpList_nil ?_
              refine block_normal ?_
              refine then_normal ?_
              refine wp_region_lit ?_
              refine st_val (.int .i64 ((k : Nat) : Int)) ha (by kernel_rfl) (by kernel_rfl) ?_
              clear ha; intro a ha
              refine st_val (.int .i64 ((k + 1 : Nat) : Int)) ha (by kernel_rfl) (run_arith (((k : Nat) : Int) + (1 : Int)) ((k + 1 : Nat) : Int) rfl (by kernel_rfl) (by kernel_rfl) (.inl ⟨rfl, rfl⟩) (by rw [wrap64_in (by omega)]; try omega) _) ?_
              clear ha; intro a ha
              refine st_val (.int .i64 ((k + 1 : Nat) : Int)) ha (by kernel_rfl) (by kernel_rfl) ?_
              clear ha; intro a ha
              refine wpList_nil ?_
              refine then_normal ?_
              have hacc : false = decide (0 < cnt (la.take (k + 1)) q) := by rw [cnt_take hv]; first | (simp_all [has]; done) | (rw [show has v q = false from by unfold has; rw [decide_eq_false hb]; rfl, Bool.or_false]; symm; exact decide_eq_false (by assumption))
              exact ⟨k + 1, by omega, (Has.cons ha (by kernel_rfl) (by kernel_rfl) (Has.cons ha (by kernel_rfl) (by kernel_rfl) (Has.cons ha (by kernel_rfl) (by kernel_rfl) (Has.cons ha (by kernel_rfl) (by kernel_rfl) (Has.cons ha (by kernel_rfl) (by kernel_rfl) (Has.cons ha (by kernel_rfl) (by kernel_rfl) (Has.cons ha (by kernel_rfl) (by kernel_rfl) (Has.cons ha (by kernel_rfl) (by kernel_rfl) (Has.cons ha (by kernel_rfl) (by kernel_rfl) (Has.cons ha (by kernel_rfl) (by kernel_rfl) (Has.cons ha (by kernel_rfl) (by kernel_rfl) (Has.cons ha (by kernel_rfl) (congrArg Value.bool hacc) (Has.nil ha))))))))))))), s, by omega⟩
        · rw [hb] at ha; replace hb : ¬ (((k : Nat) : Int) < ((n : Nat) : Int)) := of_decide_eq_false hb
          have hk : k = n := by omega
          rw [hk, show la.take n = la from List.take_of_length_le (by omega), h1] at ha
          refine wp_exit ?_
          refine then_exit ?_
          refine then_exit ?_
          refine block_hit ?_
          refine then_normal ?_
          refine wp_seq ?_
          refine wp_seq ?_
          refine wp_region_lit ?_
          refine st_val (.int .i64 0) ha (by kernel_rfl) (by kernel_rfl) ?_
          clear ha; intro a ha
          refine wpList_nil ?_
          refine then_normal ?_
          refine wp_block ?_
          refine wp_loopG (G := Nat) (fun k a w => Has a 151 [(0, .slice A n ca), (1, .slice B m cb), (2, .string (str q)), (7, .slice A1 x.length c2), (8, .int .i64 0), (9, .slice A3 y.length c4), (10, .int .i64 0), (11, .slice A5 z.length c6), (12, .int .i64 0), (13, .bool false), (16, .int .i64 ((k : Nat) : Int)), (14, .bool (decide (0 < cnt (lb.take k) q)))] ∧ St W (Own 29 2 A5 z.length c6 (sps z) :: Own 29 2 A3 y.length c4 (sps y) :: Own 29 2 A1 x.length c2 (sps x) :: L) w ∧ (k ≤ m)) (fun k => m - k) 0 ?_ ?_
          · exact ⟨(Has.cons ha (by kernel_rfl) (by kernel_rfl) (Has.cons ha (by kernel_rfl) (by kernel_rfl) (Has.cons ha (by kernel_rfl) (by kernel_rfl) (Has.cons ha (by kernel_rfl) (by kernel_rfl) (Has.cons ha (by kernel_rfl) (by kernel_rfl) (Has.cons ha (by kernel_rfl) (by kernel_rfl) (Has.cons ha (by kernel_rfl) (by kernel_rfl) (Has.cons ha (by kernel_rfl) (by kernel_rfl) (Has.cons ha (by kernel_rfl) (by kernel_rfl) (Has.cons ha (by kernel_rfl) (by kernel_rfl) (Has.cons ha (by kernel_rfl) (by kernel_rfl) (Has.cons ha (by kernel_rfl) (by kernel_rfl) (Has.nil ha))))))))))))), s, Nat.zero_le _⟩
          · clear ha s; rintro k a w ⟨ha, s, hp⟩
            refine wp_seq ?_
            refine wp_seq ?_
            refine wp_region_lit ?_
            refine st_val (.int .i64 ((k : Nat) : Int)) ha (by kernel_rfl) (by kernel_rfl) ?_
            clear ha; intro a ha
            refine st_val (.slice B m cb) ha (by kernel_rfl) (by kernel_rfl) ?_
            clear ha; intro a ha
            refine st_val (.int .i64 ((m : Nat) : Int)) ha (by kernel_rfl) (by kernel_rfl) ?_
            clear ha; intro a ha
            refine st_val (.bool (decide (((k : Nat) : Int) < ((m : Nat) : Int)))) ha (by kernel_rfl) (by kernel_rfl) ?_
            clear ha; intro a ha
            refine wpList_nil ?_
            refine then_normal ?_
            refine wp_part (decide (((k : Nat) : Int) < ((m : Nat) : Int))) ha rfl (by kernel_rfl) (fun hb => ?_) (fun hb => ?_)
            · rw [hb] at ha; replace hb : (((k : Nat) : Int) < ((m : Nat) : Int)) := of_decide_eq_true hb
              obtain ⟨v, hv⟩ : ∃ v, lb[k]? = some v := ⟨_, List.getElem?_eq_getElem (by omega)⟩
              obtain ⟨adb, hA⟩ := Reads.addr (hrb _ (Sat.drops (A := [Own 29 2 A5 z.length c6 (sps z), Own 29 2 A3 y.length c4 (sps y), Own 29 2 A1 x.length c2 (sps x)]) s.sat)) (by omega)
              subst hA
              refine wp_skip ?_
              refine then_normal ?_
              refine wp_seq ?_
              refine wp_block ?_
              refine wp_region_lit ?_
              refine st_val (.bool (decide (0 < cnt (lb.take k) q))) ha (by kernel_rfl) (by kernel_rfl) ?_
              clear ha; intro a ha
              refine st_val (.bool (decide (0 < cnt (lb.take k) q))) ha (by kernel_rfl) (by kernel_rfl) ?_
              clear ha; intro a ha
              rcases Bool.eq_false_or_eq_true (decide (0 < cnt (lb.take k) q)) with hb | hb
              · rw [hb] at ha; replace hb : (0 < cnt (lb.take k) q) := of_decide_eq_true hb
                refine st_pass ha (by kernel_rfl) ?_
                clear ha; intro a ha
                refine st_pass ha (by kernel_rfl) ?_
                clear ha; intro a ha
                refine st_pass ha (by kernel_rfl) ?_
                clear ha; intro a ha
                refine st_pass ha (by kernel_rfl) ?_
                clear ha; intro a ha
                refine st_pass ha (by kernel_rfl) ?_
                clear ha; intro a ha
                refine st_pass ha (by kernel_rfl) ?_
                clear ha; intro a ha
                refine st_pass ha (by kernel_rfl) ?_
                clear ha; intro a ha
                refine st_pass ha (by kernel_rfl) ?_
                clear ha; intro a ha
                refine st_pass ha (by kernel_rfl) ?_
                clear ha; intro a ha
                refine st_pass ha (by kernel_rfl) ?_
                clear ha; intro a ha
                refine st_pass ha (by kernel_rfl) ?_
                clear ha; intro a ha
                refine st_pass ha (by kernel_rfl) ?_
                clear ha; intro a ha
                refine st_pass ha (by kernel_rfl) ?_
                clear ha; intro a ha
                refine st_pass ha (by kernel_rfl) ?_
                clear ha; intro a ha
                refine st_pass ha (by kernel_rfl) ?_
                clear ha; intro a ha
                refine st_pass ha (by kernel_rfl) ?_
                clear ha; intro a ha
                refine st_val (.bool true) ha (by kernel_rfl) (by kernel_rfl) ?_
                clear ha; intro a ha
                refine st_val (.bool true) ha (by kernel_rfl) (by kernel_rfl) ?_
                clear ha; intro a ha
                refine wpList_nil ?_
                refine block_normal ?_
                refine then_normal ?_
                refine wp_region_lit ?_
                refine st_val (.int .i64 ((k : Nat) : Int)) ha (by kernel_rfl) (by kernel_rfl) ?_
                clear ha; intro a ha
                refine st_val (.int .i64 ((k + 1 : Nat) : Int)) ha (by kernel_rfl) (run_arith (((k : Nat) : Int) + (1 : Int)) ((k + 1 : Nat) : Int) rfl (by kernel_rfl) (by kernel_rfl) (.inl ⟨rfl, rfl⟩) (by rw [wrap64_in (by omega)]; try omega) _) ?_
                clear ha; intro a ha
                refine st_val (.int .i64 ((k + 1 : Nat) : Int)) ha (by kernel_rfl) (by kernel_rfl) ?_
                clear ha; intro a ha
                refine wpList_nil ?_
                refine then_normal ?_
                have hacc : true = decide (0 < cnt (lb.take (k + 1)) q) := by rw [cnt_take hv]; first | (simp_all [has]; done) | (rw [show has v q = false from by unfold has; rw [decide_eq_false hb]; rfl, Bool.or_false]; symm; exact decide_eq_false (by assumption))
                exact ⟨k + 1, by omega, (Has.cons ha (by kernel_rfl) (by kernel_rfl) (Has.cons ha (by kernel_rfl) (by kernel_rfl) (Has.cons ha (by kernel_rfl) (by kernel_rfl) (Has.cons ha (by kernel_rfl) (by kernel_rfl) (Has.cons ha (by kernel_rfl) (by kernel_rfl) (Has.cons ha (by kernel_rfl) (by kernel_rfl) (Has.cons ha (by kernel_rfl) (by kernel_rfl) (Has.cons ha (by kernel_rfl) (by kernel_rfl) (Has.cons ha (by kernel_rfl) (by kernel_rfl) (Has.cons ha (by kernel_rfl) (by kernel_rfl) (Has.cons ha (by kernel_rfl) (by kernel_rfl) (Has.cons ha (by kernel_rfl) (congrArg Value.bool hacc) (Has.nil ha))))))))))))), s, by omega⟩
              · rw [hb] at ha; replace hb : ¬ (0 < cnt (lb.take k) q) := of_decide_eq_false hb
                refine st_val (.string (str q)) ha (by kernel_rfl) (by kernel_rfl) ?_
                clear ha; intro a ha
                refine st_val (.slice (some adb) m cb) ha (by kernel_rfl) (by kernel_rfl) ?_
                clear ha; intro a ha
                refine st_val (.int .i64 ((k : Nat) : Int)) ha (by kernel_rfl) (by kernel_rfl) ?_
                clear ha; intro a ha
                refine st_val (.pointer (some (adb.add (k * 2)))) ha (by kernel_rfl) (run_indexAddr' (kd := .i64) (i := ((k : Nat) : Int)) (n := m) (c := cb) k rfl Try.underlying22 Try.sizeOf29 (by kernel_rfl) (by kernel_rfl) rfl (by first | assumption | omega) _) ?_
                clear ha; intro a ha
                refine st_val (.pointer (some (adb.add (k * 2 + 0)))) ha (by kernel_rfl) (run_fieldAddr_at (i := k * 2) (off := 0) rfl Try.underlying29 rfl Try.sizeOf9 (by kernel_rfl) _) ?_
                clear ha; intro a ha
                refine st_val (.string (str v.1)) ha (by kernel_rfl) (run_loadAt1 (i := k * 2 + 0) ((hrb _ (Sat.drops (A := [Own 29 2 A5 z.length c6 (sps z), Own 29 2 A3 y.length c4 (sps y), Own 29 2 A1 x.length c2 (sps x)]) s.sat))) rfl (by kernel_rfl) Try.isAgg9 (by rw [sps_at hv (by omega)]; rfl)) ?_
                clear ha; intro a ha
                refine st_val (.bool (decide (v.1 ≤ q))) ha (by kernel_rfl) (run_sgeq (p := q) (q := v.1) rfl (by kernel_rfl) (by kernel_rfl) _) ?_
                clear ha; intro a ha
                refine st_val (.bool (decide (v.1 ≤ q))) ha (by kernel_rfl) (by kernel_rfl) ?_
                clear ha; intro a ha
                rcases Bool.eq_false_or_eq_true (decide (v.1 ≤ q)) with hb | hb
                · rw [hb] at ha; replace hb : (v.1 ≤ q) := of_decide_eq_true hb
                  refine st_val (.string (str q)) ha (by kernel_rfl) (by kernel_rfl) ?_
                  clear ha; intro a ha
                  refine st_val (.slice (some adb) m cb) ha (by kernel_rfl) (by kernel_rfl) ?_
                  clear ha; intro a ha
                  refine st_val (.int .i64 ((k : Nat) : Int)) ha (by kernel_rfl) (by kernel_rfl) ?_
                  clear ha; intro a ha
                  refine st_val (.pointer (some (adb.add (k * 2)))) ha (by kernel_rfl) (run_indexAddr' (kd := .i64) (i := ((k : Nat) : Int)) (n := m) (c := cb) k rfl Try.underlying22 Try.sizeOf29 (by kernel_rfl) (by kernel_rfl) rfl (by first | assumption | omega) _) ?_
                  clear ha; intro a ha
                  refine st_val (.pointer (some (adb.add (k * 2 + 1)))) ha (by kernel_rfl) (run_fieldAddr_at (i := k * 2) (off := 1) rfl Try.underlying29 rfl Try.sizeOf9 (by kernel_rfl) _) ?_
                  clear ha; intro a ha
                  refine st_val (.string (str v.2)) ha (by kernel_rfl) (run_loadAt1 (i := k * 2 + 1) ((hrb _ (Sat.drops (A := [Own 29 2 A5 z.length c6 (sps z), Own 29 2 A3 y.length c4 (sps y), Own 29 2 A1 x.length c2 (sps x)]) s.sat))) rfl (by kernel_rfl) Try.isAgg9 (by rw [sps_at hv (by omega)]; rfl)) ?_
                  clear ha; intro a ha
                  refine st_val (.bool (decide (q < v.2))) ha (by kernel_rfl) (run_slss (p := q) (q := v.2) rfl (by kernel_rfl) (by kernel_rfl) _) ?_
                  clear ha; intro a ha
                  refine st_val (.bool (decide (q < v.2))) ha (by kernel_rfl) (by kernel_rfl) ?_
                  clear ha; intro a ha
                  refine st_val (.bool (decide (q < v.2))) ha (by kernel_rfl) (by kernel_rfl) ?_
                  clear ha; intro a ha
                  refine st_val (.bool (decide (q < v.2))) ha (by kernel_rfl) (by kernel_rfl) ?_
                  clear ha; intro a ha
                  refine wpList_nil ?_
                  refine block_normal ?_
                  refine then_normal ?_
                  refine wp_region_lit ?_
                  refine st_val (.int .i64 ((k : Nat) : Int)) ha (by kernel_rfl) (by kernel_rfl) ?_
                  clear ha; intro a ha
                  refine st_val (.int .i64 ((k + 1 : Nat) : Int)) ha (by kernel_rfl) (run_arith (((k : Nat) : Int) + (1 : Int)) ((k + 1 : Nat) : Int) rfl (by kernel_rfl) (by kernel_rfl) (.inl ⟨rfl, rfl⟩) (by rw [wrap64_in (by omega)]; try omega) _) ?_
                  clear ha; intro a ha
                  refine st_val (.int .i64 ((k + 1 : Nat) : Int)) ha (by kernel_rfl) (by kernel_rfl) ?_
                  clear ha; intro a ha
                  refine wpList_nil ?_
                  refine then_normal ?_
                  have hacc : decide (q < v.2) = decide (0 < cnt (lb.take (k + 1)) q) := by rw [cnt_take hv]; first | (simp_all [has]; done) | (rw [show has v q = false from by unfold has; rw [decide_eq_false hb]; rfl, Bool.or_false]; symm; exact decide_eq_false (by assumption))
                  exact ⟨k + 1, by omega, (Has.cons ha (by kernel_rfl) (by kernel_rfl) (Has.cons ha (by kernel_rfl) (by kernel_rfl) (Has.cons ha (by kernel_rfl) (by kernel_rfl) (Has.cons ha (by kernel_rfl) (by kernel_rfl) (Has.cons ha (by kernel_rfl) (by kernel_rfl) (Has.cons ha (by kernel_rfl) (by kernel_rfl) (Has.cons ha (by kernel_rfl) (by kernel_rfl) (Has.cons ha (by kernel_rfl) (by kernel_rfl) (Has.cons ha (by kernel_rfl) (by kernel_rfl) (Has.cons ha (by kernel_rfl) (by kernel_rfl) (Has.cons ha (by kernel_rfl) (by kernel_rfl) (Has.cons ha (by kernel_rfl) (congrArg Value.bool hacc) (Has.nil ha))))))))))))), s, by omega⟩
                · rw [hb] at ha; replace hb : ¬ (v.1 ≤ q) := of_decide_eq_false hb
                  refine st_pass ha (by kernel_rfl) ?_
                  clear ha; intro a ha
                  refine st_pass ha (by kernel_rfl) ?_
                  clear ha; intro a ha
                  refine st_pass ha (by kernel_rfl) ?_
                  clear ha; intro a ha
                  refine st_pass ha (by kernel_rfl) ?_
                  clear ha; intro a ha
                  refine st_pass ha (by kernel_rfl) ?_
                  clear ha; intro a ha
                  refine st_pass ha (by kernel_rfl) ?_
                  clear ha; intro a ha
                  refine st_pass ha (by kernel_rfl) ?_
                  clear ha; intro a ha
                  refine st_val (.bool false) ha (by kernel_rfl) (by kernel_rfl) ?_
                  clear ha; intro a ha
                  refine st_val (.bool false) ha (by kernel_rfl) (by kernel_rfl) ?_
                  clear ha; intro a ha
                  refine st_val (.bool false) ha (by kernel_rfl) (by kernel_rfl) ?_
                  clear ha; intro a ha
                  refine wpList_nil ?_
                  refine block_normal ?_
                  refine then_normal ?_
                  refine wp_region_lit ?_
                  refine st_val (.int .i64 ((k : Nat) : Int)) ha (by kernel_rfl) (by kernel_rfl) ?_
                  clear ha; intro a ha
                  refine st_val (.int .i64 ((k + 1 : Nat) : Int)) ha (by kernel_rfl) (run_arith (((k : Nat) : Int) + (1 : Int)) ((k + 1 : Nat) : Int) rfl (by kernel_rfl) (by kernel_rfl) (.inl ⟨rfl, rfl⟩) (by rw [wrap64_in (by omega)]; try omega) _) ?_
                  clear ha; intro a ha
                  refine st_val (.int .i64 ((k + 1 : Nat) : Int)) ha (by kernel_rfl) (by kernel_rfl) ?_
                  clear ha; intro a ha
                  refine wpList_nil ?_
                  refine then_normal ?_
                  have hacc : false = decide (0 < cnt (lb.take (k + 1)) q) := by rw [cnt_take hv]; first | (simp_all [has]; done) | (rw [show has v q = false from by unfold has; rw [decide_eq_false hb]; rfl, Bool.or_false]; symm; exact decide_eq_false (by assumption))
                  exact ⟨k + 1, by omega, (Has.cons ha (by kernel_rfl) (by kernel_rfl) (Has.cons ha (by kernel_rfl) (by kernel_rfl) (Has.cons ha (by kernel_rfl) (by kernel_rfl) (Has.cons ha (by kernel_rfl) (by kernel_rfl) (Has.cons ha (by kernel_rfl) (by kernel_rfl) (Has.cons ha (by kernel_rfl) (by kernel_rfl) (Has.cons ha (by kernel_rfl) (by kernel_rfl) (Has.cons ha (by kernel_rfl) (by kernel_rfl) (Has.cons ha (by kernel_rfl) (by kernel_rfl) (Has.cons ha (by kernel_rfl) (by kernel_rfl) (Has.cons ha (by kernel_rfl) (by kernel_rfl) (Has.cons ha (by kernel_rfl) (congrArg Value.bool hacc) (Has.nil ha))))))))))))), s, by omega⟩
            · rw [hb] at ha; replace hb : ¬ (((k : Nat) : Int) < ((m : Nat) : Int)) := of_decide_eq_false hb
              have hk : k = m := by omega
              rw [hk, show lb.take m = lb from List.take_of_length_le (by omega), h2] at ha
              refine wp_exit ?_
              refine then_exit ?_
              refine then_exit ?_
              refine block_hit ?_
              refine then_normal ?_
              refine wp_seq ?_
              refine wp_region_lit ?_
              refine st_val (.int .i64 0) ha (by kernel_rfl) (by kernel_rfl) ?_
              clear ha; intro a ha
              refine st_val (.bool true) ha (by kernel_rfl) (by kernel_rfl) ?_
              clear ha; intro a ha
              refine st_val (.bool true) ha (by kernel_rfl) (by kernel_rfl) ?_
              clear ha; intro a ha
              refine st_val (.int .i64 0) ha (by kernel_rfl) (by kernel_rfl) ?_
              clear ha; intro a ha
              refine st_val (.bool true) ha (by kernel_rfl) (by kernel_rfl) ?_
              clear ha; intro a ha
              refine st_val (.bool true) ha (by kernel_rfl) (by kernel_rfl) ?_
              clear ha; intro a ha
              refine st_val (.bool true) ha (by kernel_rfl) (by kernel_rfl) ?_
              clear ha; intro a ha
              refine st_val (.int .i64 0) ha (by kernel_rfl) (by kernel_rfl) ?_
              clear ha; intro a ha
              refine st_val (.bool true) ha (by kernel_rfl) (by kernel_rfl) ?_
              clear ha; intro a ha
              refine st_val (.bool true) ha (by kernel_rfl) (by kernel_rfl) ?_
              clear ha; intro a ha
              refine st_val (.bool true) ha (by kernel_rfl) (by kernel_rfl) ?_
              clear ha; intro a ha
              refine st_val (.slice A1 x.length c2) ha (by kernel_rfl) (by kernel_rfl) ?_
              clear ha; intro a ha
              refine st_call ha (by kernel_rfl) (by kernel_rfl) (ordered_ok W _ w A1 x.length c2 x (Knows.own (j := 2) rfl) rfl (by omega) hcx.ord hcx.lt s) ?_
              rintro _ w ⟨rfl, s⟩
              replace s : St W (Own 29 2 A5 z.length c6 (sps z) :: Own 29 2 A3 y.length c4 (sps y) :: Own 29 2 A1 x.length c2 (sps x) :: L) w := s
              refine ⟨_, rfl, ?_⟩; clear ha; intro a ha
              refine st_val (.bool true) ha (by kernel_rfl) (by kernel_rfl) ?_
              clear ha; intro a ha
              refine st_val (.bool true) ha (by kernel_rfl) (by kernel_rfl) ?_
              clear ha; intro a ha
              refine st_val (.slice A3 y.length c4) ha (by kernel_rfl) (by kernel_rfl) ?_
              clear ha; intro a ha
              refine st_call ha (by kernel_rfl) (by kernel_rfl) (ordered_ok W _ w A3 y.length c4 y (Knows.own (j := 1) rfl) rfl (by omega) hcy.ord hcy.lt s) ?_
              rintro _ w ⟨rfl, s⟩
              replace s : St W (Own 29 2 A5 z.length c6 (sps z) :: Own 29 2 A3 y.length c4 (sps y) :: Own 29 2 A1 x.length c2 (sps x) :: L) w := s
              refine ⟨_, rfl, ?_⟩; clear ha; intro a ha
              refine st_val (.bool true) ha (by kernel_rfl) (by kernel_rfl) ?_
              clear ha; intro a ha
              refine st_val (.bool true) ha (by kernel_rfl) (by kernel_rfl) ?_
              clear ha; intro a ha
              refine st_val (.slice A5 z.length c6) ha (by kernel_rfl) (by kernel_rfl) ?_
              clear ha; intro a ha
              refine st_call ha (by kernel_rfl) (by kernel_rfl) (ordered_ok W _ w A5 z.length c6 z (Knows.own (j := 0) rfl) rfl (by omega) hcz.ord hcz.lt s) ?_
              rintro _ w ⟨rfl, s⟩
              replace s : St W (Own 29 2 A5 z.length c6 (sps z) :: Own 29 2 A3 y.length c4 (sps y) :: Own 29 2 A1 x.length c2 (sps x) :: L) w := s
              refine ⟨_, rfl, ?_⟩; clear ha; intro a ha
              refine st_val (.bool true) ha (by kernel_rfl) (by kernel_rfl) ?_
              clear ha; intro a ha
              refine st_val (.bool true) ha (by kernel_rfl) (by kernel_rfl) ?_
              clear ha; intro a ha
              refine st_val (.slice A1 x.length c2) ha (by kernel_rfl) (by kernel_rfl) ?_
              clear ha; intro a ha
              refine st_val (.string (str q)) ha (by kernel_rfl) (by kernel_rfl) ?_
              clear ha; intro a ha
              refine st_call ha (by kernel_rfl) (by kernel_rfl) (in_is W _ w A1 x.length c2 x (Knows.own (j := 2) rfl) rfl (by omega) q false ((canon_self hcx q).trans h1) s) ?_
              rintro _ w ⟨rfl, s⟩
              replace s : St W (Own 29 2 A5 z.length c6 (sps z) :: Own 29 2 A3 y.length c4 (sps y) :: Own 29 2 A1 x.length c2 (sps x) :: L) w := s
              refine ⟨_, rfl, ?_⟩; clear ha; intro a ha
              refine st_val (.bool false) ha (by kernel_rfl) (by kernel_rfl) ?_
              clear ha; intro a ha
              refine st_val (.bool true) ha (by kernel_rfl) (by kernel_rfl) ?_
              clear ha; intro a ha
              refine st_val (.bool true) ha (by kernel_rfl) (by kernel_rfl) ?_
              clear ha; intro a ha
              refine st_val (.bool true) ha (by kernel_rfl) (by kernel_rfl) ?_
              clear ha; intro a ha
              refine st_val (.slice A3 y.length c4) ha (by kernel_rfl) (by kernel_rfl) ?_
              clear ha; intro a ha
              refine st_val (.string (str q)) ha (by kernel_rfl) (by kernel_rfl) ?_
              clear ha; intro a ha
              refine st_call ha (by kernel_rfl) (by kernel_rfl) (in_is W _ w A3 y.length c4 y (Knows.own (j := 1) rfl) rfl (by omega) q false ((canon_self hcy q).trans (by rw [h1, h2]; rfl)) s) ?_
              rintro _ w ⟨rfl, s⟩
              replace s : St W (Own 29 2 A5 z.length c6 (sps z) :: Own 29 2 A3 y.length c4 (sps y) :: Own 29 2 A1 x.length c2 (sps x) :: L) w := s
              refine ⟨_, rfl, ?_⟩; clear ha; intro a ha
              refine st_val (.bool false) ha (by kernel_rfl) (by kernel_rfl) ?_
              clear ha; intro a ha
              refine st_val (.bool false) ha (by kernel_rfl) (by kernel_rfl) ?_
              clear ha; intro a ha
              refine st_pass ha (by kernel_rfl) ?_
              clear ha; intro a ha
              refine st_val (.bool false) ha (by kernel_rfl) (by kernel_rfl) ?_
              clear ha; intro a ha
              refine st_val (.bool true) ha (by kernel_rfl) (by kernel_rfl) ?_
              clear ha; intro a ha
              refine st_val (.bool true) ha (by kernel_rfl) (by kernel_rfl) ?_
              clear ha; intro a ha
              refine st_val (.bool true) ha (by kernel_rfl) (by kernel_rfl) ?_
              clear ha; intro a ha
              refine st_val (.slice A5 z.length c6) ha (by kernel_rfl) (by kernel_rfl) ?_
              clear ha; intro a ha
              refine st_val (.string (str q)) ha (by kernel_rfl) (by kernel_rfl) ?_
              clear ha; intro a ha
              refine st_call ha (by kernel_rfl) (by kernel_rfl) (in_is W _ w A5 z.length c6 z (Knows.own (j := 0) rfl) rfl (by omega) q false ((canon_self hcz q).trans (by rw [h1, h3]; rfl)) s) ?_
              rintro _ w ⟨rfl, s⟩
              replace s : St W (Own 29 2 A5 z.length c6 (sps z) :: Own 29 2 A3 y.length c4 (sps y) :: Own 29 2 A1 x.length c2 (sps x) :: L) w := s
              refine ⟨_, rfl, ?_⟩; clear ha; intro a ha
              refine st_val (.bool false) ha (by kernel_rfl) (by kernel_rfl) ?_
              clear ha; intro a ha
              refine st_val (.bool false) ha (by kernel_rfl) (by kernel_rfl) ?_
              clear ha; intro a ha
              refine st_pass ha (by kernel_rfl) ?_
              clear ha; intro a ha
              refine st_pass ha (by kernel_rfl) ?_
              clear ha; intro a ha
              refine st_val (.bool false) ha (by kernel_rfl) (by kernel_rfl) ?_
              clear ha; intro a ha
              refine st_val (.bool true) ha (by kernel_rfl) (by kernel_rfl) ?_
              clear ha; intro a ha
              refine st_val (.bool true) ha (by kernel_rfl) (by kernel_rfl) ?_
              clear ha; intro a ha
              refine st_val (.bool true) ha (by kernel_rfl) (by kernel_rfl) ?_
              clear ha; intro a ha
              refine st_val (.slice A n ca) ha (by kernel_rfl) (by kernel_rfl) ?_
              clear ha; intro a ha
              refine st_val (.string (str q)) ha (by kernel_rfl) (by kernel_rfl) ?_
              clear ha; intro a ha
              refine st_call ha (by kernel_rfl) (by kernel_rfl) (in_is W _ w A n ca la (fun w s => hra w (Sat.drops (A := [Own 29 2 A5 z.length c6 (sps z), Own 29 2 A3 y.length c4 (sps y), Own 29 2 A1 x.length c2 (sps x)]) s)) han hn q false h1 s) ?_
              rintro _ w ⟨rfl, s⟩
              replace s : St W (Own 29 2 A5 z.length c6 (sps z) :: Own 29 2 A3 y.length c4 (sps y) :: Own 29 2 A1 x.length c2 (sps x) :: L) w := s
              refine ⟨_, rfl, ?_⟩; clear ha; intro a ha
              refine st_val (.bool false) ha (by kernel_rfl) (by kernel_rfl) ?_
              clear ha; intro a ha
              refine st_val (.bool true) ha (by kernel_rfl) (by kernel_rfl) ?_
              clear ha; intro a ha
              refine st_val (.bool true) ha (by kernel_rfl) (by kernel_rfl) ?_
              clear ha; intro a ha
              refine st_val (.bool true) ha (by kernel_rfl) (by kernel_rfl) ?_
              clear ha; intro a ha
              refine wpList_nil ?_
              refine then_normal ?_
              refine wp_ret ?_
              refine ret_with (v := .bool true) ha (results_1 rfl ha (res_tmp (by kernel_rfl) (by kernel_rfl))) ?_
              replace s := s.tail.tail.tail
              replace s : St W (L) w := s
              exact ⟨rfl, s⟩

theorem spansKeys_false_false (W : World) (L : List Chunk) (w : World) (A B : Option Addr) (n m ca cb : Nat) (la lb : List Span) (hra : Knows L fun w => Reads w 2 A n (sps la)) (hrb : Knows L fun w => Reads w 2 B m (sps lb)) (han : la.length = n) (hbm : lb.length = m) (hn : n ≤ 140737488351232) (hm : m ≤ 140737488351232) (q : K) (h1 : decide (0 < cnt la q) = false) (h2 : decide (0 < cnt lb q) = false) (s : St W L w) :
    Calls Try.prog 6 #[.slice A n ca, .slice B m cb, .string (str q)] w fun e w' => e = .returned (.bool true) ∧ St W L w' := by
  have h3 : decide (cnt lb q = 0) = true := by simp at h2 ⊢; omega
  refine enter_args (l := [.slice A n ca, .slice B m cb, .string (str q)]) Try.func6 rfl rfl (Nat.le_of_ble_eq_true rfl) ?_
  intro a ha; replace ha : Has a 151 [(0, .slice A n ca), (1, .slice B m cb), (2, .string (str q))] := ha
  refine wp_seq ?_
  refine wp_region_lit ?_
  refine st_val (.bool false) ha (by kernel_rfl) (by kernel_rfl) ?_
  clear ha; intro a ha
  refine wpList_nil ?_
  refine then_normal ?_
  refine wp_seq ?_
  refine wp_seq ?_
  refine wp_region_lit ?_
  refine st_call ha (by kernel_rfl) (by kernel_rfl) (works_true W _ w s) ?_
  rintro _ w ⟨rfl, s⟩
  replace s : St W (L) w := s
  refine ⟨_, rfl, ?_⟩; clear ha; intro a ha
  refine st_val (.bool false) ha (by kernel_rfl) (by kernel_rfl) ?_
  clear ha; intro a ha
  refine wpList_nil ?_
  refine then_normal ?_
  refine wp_false ha rfl (by kernel_rfl) ?_
  refine wp_skip ?_
  refine then_normal ?_
  refine wp_seq ?_
  refine wp_seq ?_
  refine wp_region_lit ?_
  refine st_val (.slice A n ca) ha (by kernel_rfl) (by kernel_rfl) ?_
  clear ha; intro a ha
  refine st_call ha (by kernel_rfl) (by kernel_rfl) (may_any W _ w A n ca la (fun w s => hra w (Sat.drops (A := []) s)) han hn s) ?_
  rintro _ w ⟨bn, rfl, hmayn, s⟩
  replace s : St W (L) w := s
  refine ⟨_, rfl, ?_⟩; clear ha; intro a ha
  refine st_val (.bool (!bn)) ha (by kernel_rfl) (by kernel_rfl) ?_
  clear ha; intro a ha
  refine st_val (.bool (!bn)) ha (by kernel_rfl) (by kernel_rfl) ?_
  clear ha; intro a ha
  rcases Bool.eq_false_or_eq_true (!bn) with hb | hb
  · rw [hb] at ha; skip
    refine st_pass ha (by kernel_rfl) ?_
    clear ha; intro a ha
    refine st_pass ha (by kernel_rfl) ?_
    clear ha; intro a ha
    refine st_pass ha (by kernel_rfl) ?_
    clear ha; intro a ha
    refine st_val (.bool true) ha (by kernel_rfl) (by kernel_rfl) ?_
    clear ha; intro a ha
    refine wpList_nil ?_
    refine then_normal ?_
    refine wp_true ha rfl (by kernel_rfl) ?_
    refine wp_seq ?_
    refine wp_region_lit ?_
    refine st_val (.bool true) ha (by kernel_rfl) (by kernel_rfl) ?_
    clear ha; intro a ha
    refine wpList_nil ?_
    refine then_normal ?_
    refine wp_ret ?_
    refine then_ret ?_
    refine ret_with (v := .bool true) ha (results_1 rfl ha (res_tmp (by kernel_rfl) (by kernel_rfl))) ?_
    exact ⟨rfl, s⟩
  · rw [hb] at ha; skip
    obtain ⟨hn3, hoka⟩ := hmayn (by simpa using hb)
    refine st_val (.slice B m cb) ha (by kernel_rfl) (by kernel_rfl) ?_
    clear ha; intro a ha
    refine st_call ha (by kernel_rfl) (by kernel_rfl) (may_any W _ w B m cb lb (fun w s => hrb w (Sat.drops (A := []) s)) hbm hm s) ?_
    rintro _ w ⟨bm, rfl, hmaym, s⟩
    replace s : St W (L) w := s
    refine ⟨_, rfl, ?_⟩; clear ha; intro a ha
    refine st_val (.bool (!bm)) ha (by kernel_rfl) (by kernel_rfl) ?_
    clear ha; intro a ha
    refine st_val (.bool (!bm)) ha (by kernel_rfl) (by kernel_rfl) ?_
    clear ha; intro a ha
    refine wpList_nil ?_
    refine then_normal ?_
    refine wp_part (!bm) ha rfl (by kernel_rfl) (fun hb => ?_) (fun hb => ?_)
    · rw [hb] at ha; skip
      refine wp_seq ?_
      refine wp_region_lit ?_
      refine st_val (.bool true) ha (by kernel_rfl) (by kernel_rfl) ?_
      clear ha; intro a ha
      refine wpList_nil ?_
      refine then_normal ?_
      refine wp_ret ?_
      refine then_ret ?_
      refine ret_with (v := .bool true) ha (results_1 rfl ha (res_tmp (by kernel_rfl) (by kernel_rfl))) ?_
      exact ⟨rfl, s⟩
    · rw [hb] at ha; skip
      obtain ⟨hm3, hokb⟩ := hmaym (by simpa using hb)
      refine wp_skip ?_
      refine then_normal ?_
      refine wp_seq ?_
      refine wp_region_lit ?_
      refine st_val (.slice A n ca) ha (by kernel_rfl) (by kernel_rfl) ?_
      clear ha; intro a ha
      refine st_call ha (by kernel_rfl) (by kernel_rfl) (join_ok W _ w A n ca la (fun w s => hra w (Sat.drops (A := []) s)) han hoka (by omega) s) ?_
      rintro _ w ⟨A1, c2, x, rfl, hcx, hsx, hlx, s⟩
      replace s : St W (Own 29 2 A1 x.length c2 (sps x) :: L) w := s
      refine ⟨_, rfl, ?_⟩; clear ha; intro a ha
      refine st_val (.tuple #[.slice A1 x.length c2, .int .i64 0]) ha (by kernel_rfl) (by kernel_rfl) ?_
      clear ha; intro a ha
      refine st_val (.slice A1 x.length c2) ha (by kernel_rfl) (by kernel_rfl) ?_
      clear ha; intro a ha
      refine st_val (.int .i64 0) ha (by kernel_rfl) (by kernel_rfl) ?_
      clear ha; intro a ha
      refine st_val (.slice A1 x.length c2) ha (by kernel_rfl) (by kernel_rfl) ?_
      clear ha; intro a ha
      refine st_val (.int .i64 0) ha (by kernel_rfl) (by kernel_rfl) ?_
      clear ha; intro a ha
      refine wpList_nil ?_
      refine then_normal ?_
      refine wp_seq ?_
      refine wp_region_lit ?_
      refine st_val (.slice A n ca) ha (by kernel_rfl) (by kernel_rfl) ?_
      clear ha; intro a ha
      refine st_val (.slice B m cb) ha (by kernel_rfl) (by kernel_rfl) ?_
      clear ha; intro a ha
      refine st_call ha (by kernel_rfl) (by kernel_rfl) (both_ok W _ w A B n m ca cb la lb (fun w s => hra w (Sat.drops (A := [Own 29 2 A1 x.length c2 (sps x)]) s)) (fun w s => hrb w (Sat.drops (A := [Own 29 2 A1 x.length c2 (sps x)]) s)) han hbm hoka hokb (by omega) (by omega) s) ?_
      rintro _ w ⟨A3, c4, y, rfl, hcy, hsy, hly, s⟩
      replace s : St W (Own 29 2 A3 y.length c4 (sps y) :: Own 29 2 A1 x.length c2 (sps x) :: L) w := s
      refine ⟨_, rfl, ?_⟩; clear ha; intro a ha
      refine st_val (.tuple #[.slice A3 y.length c4, .int .i64 0]) ha (by kernel_rfl) (by kernel_rfl) ?_
      clear ha; intro a ha
      refine st_val (.slice A3 y.length c4) ha (by kernel_rfl) (by kernel_rfl) ?_
      clear ha; intro a ha
      refine st_val (.int .i64 0) ha (by kernel_rfl) (by kernel_rfl) ?_
      clear ha; intro a ha
      refine st_val (.slice A3 y.length c4) ha (by kernel_rfl) (by kernel_rfl) ?_
      clear ha; intro a ha
      refine st_val (.int .i64 0) ha (by kernel_rfl) (by kernel_rfl) ?_
      clear ha; intro a ha
      refine wpList_nil ?_
      refine then_normal ?_
      refine wp_seq ?_
      refine wp_region_lit ?_
      refine st_val (.slice A n ca) ha (by kernel_rfl) (by kernel_rfl) ?_
      clear ha; intro a ha
      refine st_val (.slice B m cb) ha (by kernel_rfl) (by kernel_rfl) ?_
      clear ha; intro a ha
      refine st_call ha (by kernel_rfl) (by kernel_rfl) (less_ok W _ w A B n m ca cb la lb (fun w s => hra w (Sat.drops (A := [Own 29 2 A3 y.length c4 (sps y), Own 29 2 A1 x.length c2 (sps x)]) s)) (fun w s => hrb w (Sat.drops (A := [Own 29 2 A3 y.length c4 (sps y), Own 29 2 A1 x.length c2 (sps x)]) s)) han hbm hoka hokb (by omega) (by omega) s) ?_
      rintro _ w ⟨A5, c6, z, rfl, hcz, hsz, hlz, s⟩
      replace s : St W (Own 29 2 A5 z.length c6 (sps z) :: Own 29 2 A3 y.length c4 (sps y) :: Own 29 2 A1 x.length c2 (sps x) :: L) w := s
      refine ⟨_, rfl, ?_⟩; clear ha; intro a ha
      refine st_val (.tuple #[.slice A5 z.length c6, .int .i64 0]) ha (by kernel_rfl) (by kernel_rfl) ?_
      clear ha; intro a ha
      refine st_val (.slice A5 z.length c6) ha (by kernel_rfl) (by kernel_rfl) ?_
      clear ha; intro a ha
      refine st_val (.int .i64 0) ha (by kernel_rfl) (by kernel_rfl) ?_
      clear ha; intro a ha
      refine st_val (.slice A5 z.length c6) ha (by kernel_rfl) (by kernel_rfl) ?_
      clear ha; intro a ha
      refine st_val (.int .i64 0) ha (by kernel_rfl) (by kernel_rfl) ?_
      clear ha; intro a ha
      refine wpList_nil ?_
      refine then_normal ?_
      refine wp_seq ?_
      refine wp_region_lit ?_
      refine st_val (.bool false) ha (by kernel_rfl) (by kernel_rfl) ?_
      clear ha; intro a ha
      refine st_val (.bool false) ha (by kernel_rfl) (by kernel_rfl) ?_
      clear ha; intro a ha
      refine wpList_nil ?_
      refine then_normal ?_
      refine wp_seq ?_
      refine wp_seq ?_
      refine wp_region_lit ?_
      refine st_val (.int .i64 0) ha (by kernel_rfl) (by kernel_rfl) ?_
      clear ha; intro a ha
      refine wpList_nil ?_
      refine then_normal ?_
      refine wp_block ?_
      refine wp_loopG (G := Nat) (fun k a w => Has a 151 [(0, .slice A n ca), (1, .slice B m cb), (2, .string (str q)), (7, .slice A1 x.length c2), (8, .int .i64 0), (9, .slice A3 y.length c4), (10, .int .i64 0), (11, .slice A5 z.length c6), (12, .int .i64 0), (14, .bool false), (15, .int .i64 ((k : Nat) : Int)), (13, .bool (decide (0 < cnt (la.take k) q)))] ∧ St W (Own 29 2 A5 z.length c6 (sps z) :: Own 29 2 A3 y.length c4 (sps y) :: Own 29 2 A1 x.length c2 (sps x) :: L) w ∧ (k ≤ n)) (fun k => n - k) 0 ?_ ?_
      · exact ⟨(Has.cons ha (by kernel_rfl) (by kernel_rfl) (Has.cons ha (by kernel_rfl) (by kernel_rfl) (Has.cons ha (by kernel_rfl) (by kernel_rfl) (Has.cons ha (by kernel_rfl) (by kernel_rfl) (Has.cons ha (by kernel_rfl) (by kernel_rfl) (Has.cons ha (by kernel_rfl) (by kernel_rfl) (Has.cons ha (by kernel_rfl) (by kernel_rfl) (Has.cons ha (by kernel_rfl) (by kernel_rfl) (Has.cons ha (by kernel_rfl) (by kernel_rfl) (Has.cons ha (by kernel_rfl) (by kernel_rfl) (Has.cons ha (by kernel_rfl) (by kernel_rfl) (Has.cons ha (by kernel_rfl) (by kernel_rfl) (Has.nil ha))))))))))))), s, Nat.zero_le _⟩
      · clear ha s; rintro k a w ⟨ha, s, hp⟩
        refine wp_seq ?_
        refine wp_seq ?_
        refine wp_region_lit ?_
        refine st_val (.int .i64 ((k : Nat) : Int)) ha (by kernel_rfl) (by kernel_rfl) ?_
        clear ha; intro a ha
        refine st_val (.slice A n ca) ha (by kernel_rfl) (by kernel_rfl) ?_
        clear ha; intro a ha
        refine st_val (.int .i64 ((n : Nat) : Int)) ha (by kernel_rfl) (by kernel_rfl) ?_
        clear ha; intro a ha
        refine st_val (.bool (decide (((k : Nat) : Int) < ((n : Nat) : Int)))) ha (by kernel_rfl) (by kernel_rfl) ?_
        clear ha; intro a ha
        refine wpList_nil ?_
        refine then_normal ?_
        refine wp_part (decide (((k : Nat) : Int) < ((n : Nat) : Int))) ha rfl (by kernel_rfl) (fun hb => ?_) (fun hb => ?_)
        · rw [hb] at ha; replace hb : (((k : Nat) : Int) < ((n : Nat) : Int)) := of_decide_eq_true hb
          obtain ⟨v, hv⟩ : ∃ v, la[k]? = some v := ⟨_, List.getElem?_eq_getElem (by omega)⟩
          obtain ⟨ada, hA⟩ := Reads.addr (hra _ (Sat.drops (A := [Own 29 2 A5 z.length c6 (sps z), Own 29 2 A3 y.length c4 (sps y), Own 29 2 A1 x.length c2 (sps x)]) s.sat)) (by omega)
          subst hA
          refine wp_skip ?_
          refine then_normal ?_
          refine wp_seq ?_
          refine wp_block ?_
          refine wp_region_lit ?_
          refine st_val (.bool (decide (0 < cnt (la.take k) q))) ha (by kernel_rfl) (by kernel_rfl) ?_
          clear ha; intro a ha
          refine st_val (.bool (decide (0 < cnt (la.take k) q))) ha (by kernel_rfl) (by kernel_rfl) ?_
          clear ha; intro a ha
          rcases Bool.eq_false_or_eq_true (decide (0 < cnt (la.take k) q)) with hb | hb
          · rw [hb] at ha; replace hb : (0 < cnt (la.take k) q) := of_decide_eq_true hb
            refine st_pass ha (by kernel_rfl) ?_
            clear ha; intro a ha
            refine st_pass ha (by kernel_rfl) ?_
            clear ha; intro a ha
            refine st_pass ha (by kernel_rfl) ?_
            clear ha; intro a ha
            refine st_pass ha (by kernel_rfl) ?_
            clear ha; intro a ha
            refine st_pass ha (by kernel_rfl) ?_
            clear ha; intro a ha
            refine st_pass ha (by kernel_rfl) ?_
            clear ha; intro a ha
            refine st_pass ha (by kernel_rfl) ?_
            clear ha; intro a ha
            refine st_pass ha (by kernel_rfl) ?_
            clear ha; intro a ha
            refine st_pass ha (by kernel_rfl) ?_
            clear ha; intro a ha
            refine st_pass ha (by kernel_rfl) ?_
            clear ha; intro a ha
            refine st_pass ha (by kernel_rfl) ?_
            clear ha; intro a ha
            refine st_pass ha (by kernel_rfl) ?_
            clear ha; intro a ha
            refine st_pass ha (by kernel_rfl) ?_
            clear ha; intro a ha
            refine st_pass ha (by kernel_rfl) ?_
            clear ha; intro a ha
            refine st_pass ha (by kernel_rfl) ?_
            clear ha; intro a ha
            refine st_pass ha (by kernel_rfl) ?_
            clear ha; intro a ha
            refine st_val (.bool true) ha (by kernel_rfl) (by kernel_rfl) ?_
            clear ha; intro a ha
            refine st_val (.bool true) ha (by kernel_rfl) (by kernel_rfl) ?_
            clear ha; intro a ha
            refine wpList_nil ?_
            refine block_normal ?_
            refine then_normal ?_
            refine wp_region_lit ?_
            refine st_val (.int .i64 ((k : Nat) : Int)) ha (by kernel_rfl) (by kernel_rfl) ?_
            clear ha; intro a ha
            refine st_val (.int .i64 ((k + 1 : Nat) : Int)) ha (by kernel_rfl) (run_arith (((k : Nat) : Int) + (1 : Int)) ((k + 1 : Nat) : Int) rfl (by kernel_rfl) (by kernel_rfl) (.inl ⟨rfl, rfl⟩) (by rw [wrap64_in (by omega)]; try omega) _) ?_
            clear ha; intro a ha
            refine st_val (.int .i64 ((k + 1 : Nat) : Int)) ha (by kernel_rfl) (by kernel_rfl) ?_
            clear ha; intro a ha
            refine wpList_nil ?_
            refine then_normal ?_
            have hacc : true = decide (0 < cnt (la.take (k + 1)) q) := by rw [cnt_take hv]; first | (simp_all [has]; done) | (rw [show has v q = false from by unfold has; rw [decide_eq_false hb]; rfl, Bool.or_false]; symm; exact decide_eq_false (by assumption))
            exact ⟨k + 1, by omega, (Has.cons ha (by kernel_rfl) (by kernel_rfl) (Has.cons ha (by kernel_rfl) (by kernel_rfl) (Has.cons ha (by kernel_rfl) (by kernel_rfl) (Has.cons ha (by kernel_rfl) (by kernel_rfl) (Has.cons ha (by kernel_rfl) (by kernel_rfl) (Has.cons ha (by kernel_rfl) (by kernel_rfl) (Has.cons ha (by kernel_rfl) (by kernel_rfl) (Has.cons ha (by kernel_rfl) (by kernel_rfl) (Has.cons ha (by kernel_rfl) (by kernel_rfl) (Has.cons ha (by kernel_rfl) (by kernel_rfl) (Has.cons ha (by kernel_rfl) (by kernel_rfl) (Has.cons ha (by kernel_rfl) (congrArg Value.bool hacc) (Has.nil ha))))))))))))), s, by omega⟩
          · rw [hb] at ha; replace hb : ¬ (0 < cnt (la.take k) q) := of_decide_eq_false hb
            refine st_val (.string (str q)) ha (by kernel_rfl) (by kernel_rfl) ?_
            clear ha; intro a ha
            refine st_val (.slice (some ada) n ca) ha (by kernel_rfl) (by kernel_rfl) ?_
            clear ha; intro a ha
            refine st_val (.int .i64 ((k : Nat) : Int)) ha (by kernel_rfl) (by kernel_rfl) ?_
            clear ha; intro a ha
            refine st_val (.pointer (some (ada.add (k * 2)))) ha (by kernel_rfl) (run_indexAddr' (kd := .i64) (i := ((k : Nat) : Int)) (n := n) (c := ca) k rfl Try.underlying22 Try.sizeOf29 (by kernel_rfl) (by kernel_rfl) rfl (by first | assumption | omega) _) ?_
            clear ha; intro a ha
            refine st_val (.pointer (some (ada.add (k * 2 + 0)))) ha (by kernel_rfl) (run_fieldAddr_at (i := k * 2) (off := 0) rfl Try.underlying29 rfl Try.sizeOf9 (by kernel_rfl) _) ?_
            clear ha; intro a ha
            refine st_val (.string (str v.1)) ha (by kernel_rfl) (run_loadAt1 (i := k * 2 + 0) ((hra _ (Sat.drops (A := [Own 29 2 A5 z.length c6 (sps z), Own 29 2 A3 y.length c4 (sps y), Own 29 2 A1 x.length c2 (sps x)]) s.sat))) rfl (by kernel_rfl) Try.isAgg9 (by rw [sps_at hv (by omega)]; rfl)) ?_
            clear ha; intro a ha
            refine st_val (.bool (decide (v.1 ≤ q))) ha (by kernel_rfl) (run_sgeq (p := q) (q := v.1) rfl (by kernel_rfl) (by kernel_rfl) _) ?_
            clear ha; intro a ha
            refine st_val (.bool (decide (v.1 ≤ q))) ha (by kernel_rfl) (by kernel_rfl) ?_
            clear ha; intro a ha
            rcases Bool.eq_false_or_eq_true (decide (v.1 ≤ q)) with hb | hb
            · rw [hb] at ha; replace hb : (v.1 ≤ q) := of_decide_eq_true hb
              refine st_val (.string (str q)) ha (by kernel_rfl) (by kernel_rfl) ?_
              clear ha; intro a ha
              refine st_val (.slice (some ada) n ca) ha (by kernel_rfl) (by kernel_rfl) ?_
              clear ha; intro a ha
              refine st_val (.int .i64 ((k : Nat) : Int)) ha (by kernel_rfl) (by kernel_rfl) ?_
              clear ha; intro a ha
              refine st_val (.pointer (some (ada.add (k * 2)))) ha (by kernel_rfl) (run_indexAddr' (kd := .i64) (i := ((k : Nat) : Int)) (n := n) (c := ca) k rfl Try.underlying22 Try.sizeOf29 (by kernel_rfl) (by kernel_rfl) rfl (by first | assumption | omega) _) ?_
              clear ha; intro a ha
              refine st_val (.pointer (some (ada.add (k * 2 + 1)))) ha (by kernel_rfl) (run_fieldAddr_at (i := k * 2) (off := 1) rfl Try.underlying29 rfl Try.sizeOf9 (by kernel_rfl) _) ?_
              clear ha; intro a ha
              refine st_val (.string (str v.2)) ha (by kernel_rfl) (run_loadAt1 (i := k * 2 + 1) ((hra _ (Sat.drops (A := [Own 29 2 A5 z.length c6 (sps z), Own 29 2 A3 y.length c4 (sps y), Own 29 2 A1 x.length c2 (sps x)]) s.sat))) rfl (by kernel_rfl) Try.isAgg9 (by rw [sps_at hv (by omega)]; rfl)) ?_
              clear ha; intro a ha
              refine st_val (.bool (decide (q < v.2))) ha (by kernel_rfl) (run_slss (p := q) (q := v.2) rfl (by kernel_rfl) (by kernel_rfl) _) ?_
              clear ha; intro a ha
              refine st_val (.bool (decide (q < v.2))) ha (by kernel_rfl) (by kernel_rfl) ?_
              clear ha; intro a ha
              refine st_val (.bool (decide (q < v.2))) ha (by kernel_rfl) (by kernel_rfl) ?_
              clear ha; intro a ha
              refine st_val (.bool (decide (q < v.2))) ha (by kernel_rfl) (by kernel_rfl) ?_
              clear ha; intro a ha
              refine wpList_nil ?_
              refine block_normal ?_
              refine then_normal ?_
              refine wp_region_lit ?_
              refine st_val (.int .i64 ((k : Nat) : Int)) ha (by kernel_rfl) (by kernel_rfl) ?_
              clear ha; intro a ha
              refine st_val (.int .i64 ((k + 1 : Nat) : Int)) ha (by kernel_rfl) (run_arith (((k : Nat) : Int) + (1 : Int)) ((k + 1 : Nat) : Int) rfl (by kernel_rfl) (by kernel_rfl) (.inl ⟨rfl, rfl⟩) (by rw [wrap64_in (by omega)]; try omega) _) ?_
              clear ha; intro a ha
              refine st_val (.int .i64 ((k + 1 : Nat) : Int)) ha (by kernel_rfl) (by kernel_rfl) ?_
              clear ha; intro a ha
              refine wpList_nil ?_
              refine then_normal ?_
              have hacc : decide (q < v.2) = decide (0 < cnt (la.take (k + 1)) q) := by rw [cnt_take hv]; first | (simp_all [has]; done) | (rw [show has v q = false from by unfold has; rw [decide_eq_false hb]; rfl, Bool.or_false]; symm; exact decide_eq_false (by assumption))
              exact ⟨k + 1, by omega, (Has.cons ha (by kernel_rfl) (by kernel_rfl) (Has.cons ha (by kernel_rfl) (by kernel_rfl) (Has.cons ha (by kernel_rfl) (by kernel_rfl) (Has.cons ha (by kernel_rfl) (by kernel_rfl) (Has.cons ha (by kernel_rfl) (by kernel_rfl) (Has.cons ha (by kernel_rfl) (by kernel_rfl) (Has.cons ha (by kernel_rfl) (by kernel_rfl) (Has.cons ha (by kernel_rfl) (by kernel_rfl) (Has.cons ha (by kernel_rfl) (by kernel_rfl) (Has.cons ha (by kernel_rfl) (by kernel_rfl) (Has.cons ha (by kernel_rfl) (by kernel_rfl) (Has.cons ha (by kernel_rfl) (congrArg Value.bool hacc) (Has.nil ha))))))))))))), s, by omega⟩
            · rw [hb] at ha; replace hb : ¬ (v.1 ≤ q) := of_decide_eq_false hb
              refine st_pass ha (by kernel_rfl) ?_
              clear ha; intro a ha
              refine st_pass ha (by kernel_rfl) ?_
              clear ha; intro a ha
              refine st_pass ha (by kernel_rfl) ?_
              clear ha; intro a ha
              refine st_pass ha (by kernel_rfl) ?_
              clear ha; intro a ha
              refine st_pass ha (by kernel_rfl) ?_
              clear ha; intro a ha
              refine st_pass ha (by kernel_rfl) ?_
              clear ha; intro a ha
              refine st_pass ha (by kernel_rfl) ?_
              clear ha; intro a ha
              refine st_val (.bool false) ha (by kernel_rfl) (by kernel_rfl) ?_
              clear ha; intro a ha
              refine st_val (.bool false) ha (by kernel_rfl) (by kernel_rfl) ?_
              clear ha; intro a ha
              refine st_val (.bool false) ha (by kernel_rfl) (by kernel_rfl) ?_
              clear ha; intro a ha
              refine wpList_nil ?_
              refine block_normal ?_
              refine then_normal ?_
              refine wp_region_lit ?_
              refine st_val (.int .i64 ((k : Nat) : Int)) ha (by kernel_rfl) (by kernel_rfl) ?_
              clear ha; intro a ha
              refine st_val (.int .i64 ((k + 1 : Nat) : Int)) ha (by kernel_rfl) (run_arith (((k : Nat) : Int) + (1 : Int)) ((k + 1 : Nat) : Int) rfl (by kernel_rfl) (by kernel_rfl) (.inl ⟨rfl, rfl⟩) (by rw [wrap64_in (by omega)]; try omega) _) ?_
              clear ha; intro a ha
              refine st_val (.int .i64 ((k + 1 : Nat) : Int)) ha (by kernel_rfl) (by kernel_rfl) ?_
              clear ha; intro a ha
              refine wpList_nil ?_
              refine then_normal ?_
              have hacc : false = decide (0 < cnt (la.take (k + 1)) q) := by rw [cnt_take hv]; first | (simp_all [has]; done) | (rw [show has v q = false from by unfold has; rw [decide_eq_false hb]; rfl, Bool.or_false]; symm; exact decide_eq_false (by assumption))
              exact ⟨k + 1, by omega, (Has.cons ha (by kernel_rfl) (by kernel_rfl) (Has.cons ha (by kernel_rfl) (by kernel_rfl) (Has.cons ha (by kernel_rfl) (by kernel_rfl) (Has.cons ha (by kernel_rfl) (by kernel_rfl) (Has.cons ha (by kernel_rfl) (by kernel_rfl) (Has.cons ha (by kernel_rfl) (by kernel_rfl) (Has.cons ha (by kernel_rfl) (by kernel_rfl) (Has.cons ha (by kernel_rfl) (by kernel_rfl) (Has.cons ha (by kernel_rfl) (by kernel_rfl) (Has.cons ha (by kernel_rfl) (by kernel_rfl) (Has.cons ha (by kernel_rfl) (by kernel_rfl) (Has.cons ha (by kernel_rfl) (congrArg Value.bool hacc) (Has.nil ha))))))))))))), s, by omega⟩
        · rw [hb] at ha; replace hb : ¬ (((k : Nat) : Int) < ((n : Nat) : Int)) := of_decide_eq_false hb
          have hk : k = n := by omega
          rw [hk, show la.take n = la from List.take_of_length_le (by omega), h1] at ha
          refine wp_exit ?_
          refine then_exit ?_
          refine then_exit ?_
          refine block_hit ?_
          refine then_normal ?_
          refine wp_seq ?_
          refine wp_seq ?_
          refine wp_region_lit ?_
          refine st_val (.int .i64 0) ha (by kernel_rfl) (by kernel_rfl) ?_
          clear ha; intro a ha
          refine wpList_nil ?_
          refine then_normal ?_
          refine wp_block ?_
          refine wp_loopG (G := Nat) (fun k a w => Has a 151 [(0, .slice A n ca), (1, .slice B m cb), (2, .string (str q)), (7, .slice A1 x.length c2), (8, .int .i64 0), (9, .slice A3 y.length c4), (10, .int .i64 0), (11, .slice A5 z.length c6), (12, .int .i64 0), (13, .bool false), (16, .int .i64 ((k : Nat) : Int)), (14, .bool (decide (0 < cnt (lb.take k) q)))] ∧ St W (Own 29 2 A5 z.length c6 (sps z) :: Own 29 2 A3 y.length c4 (sps y) :: Own 29 2 A1 x.length c2 (sps x) :: L) w ∧ (k ≤ m)) (fun k => m - k) 0 ?_ ?_
          · exact ⟨(Has.cons ha (by kernel_rfl) (by kernel_rfl) (Has.cons ha (by kernel_rfl) (by kernel_rfl) (Has.cons ha (by kernel_rfl) (by kernel_rfl) (Has.cons ha (by kernel_rfl) (by kernel_rfl) (Has.cons ha (by kernel_rfl) (by kernel_rfl) (Has.cons ha (by kernel_rfl) (by kernel_rfl) (Has.cons ha (by kernel_rfl) (by kernel_rfl) (Has.cons ha (by kernel_rfl) (by kernel_rfl) (Has.cons ha (by kernel_rfl) (by kernel_rfl) (Has.cons ha (by kernel_rfl) (by kernel_rfl) (Has.cons ha (by kernel_rfl) (by kernel_rfl) (Has.cons ha (by kernel_rfl) (by kernel_rfl) (Has.nil ha))))))))))))), s, Nat.zero_le _⟩
          · clear ha s; rintro k a w ⟨ha, s, hp⟩
            refine wp_seq ?_
            refine wp_seq ?_
            refine wp_region_lit ?_
            refine st_val (.int .i64 ((k : Nat) : Int)) ha (by kernel_rfl) (by kernel_rfl) ?_
            clear ha; intro a ha
            refine st_val (.slice B m cb) ha (by kernel_rfl) (by kernel_rfl) ?_
            clear ha; intro a ha
            refine st_val (.int .i64 ((m : Nat) : Int)) ha (by kernel_rfl) (by kernel_rfl) ?_
            clear ha; intro a ha
            refine st_val (.bool (decide (((k : Nat) : Int) < ((m : Nat) : Int)))) ha (by kernel_rfl) (by kernel_rfl) ?_
            clear ha; intro a ha
            refine wpList_nil ?_
            refine then_normal ?_
            refine wp_part (decide (((k : Nat) : Int) < ((m : Nat) : Int))) ha rfl (by kernel_rfl) (fun hb => ?_) (fun hb => ?_)
            · rw [hb] at ha; replace hb : (((k : Nat) : Int) < ((m : Nat) : Int)) := of_decide_eq_true hb
              obtain ⟨v, hv⟩ : ∃ v, lb[k]? = some v := ⟨_, List.getElem?_eq_getElem (by omega)⟩
              obtain ⟨adb, hA⟩ := Reads.addr (hrb _ (Sat.drops (A := [Own 29 2 A5 z.length c6 (sps z), Own 29 2 A3 y.length c4 (sps y), Own 29 2 A1 x.length c2 (sps x)]) s.sat)) (by omega)
              subst hA
              refine wp_skip ?_
              refine then_normal ?_
              refine wp_seq ?_
              refine wp_block ?_
              refine wp_region_lit ?_
              refine st_val (.bool (decide (0 < cnt (lb.take k) q))) ha (by kernel_rfl) (by kernel_rfl) ?_
              clear ha; intro a ha
              refine st_val (.bool (decide (0 < cnt (lb.take k) q))) ha (by kernel_rfl) (by kernel_rfl) ?_
              clear ha; intro a ha
              rcases Bool.eq_false_or_eq_true (decide (0 < cnt (lb.take k) q)) with hb | hb
              · rw [hb] at ha; replace hb : (0 < cnt (lb.take k) q) := of_decide_eq_true hb
                refine st_pass ha (by kernel_rfl) ?_
                clear ha; intro a ha
                refine st_pass ha (by kernel_rfl) ?_
                clear ha; intro a ha
                refine st_pass ha (by kernel_rfl) ?_
                clear ha; intro a ha
                refine st_pass ha (by kernel_rfl) ?_
                clear ha; intro a ha
                refine st_pass ha (by kernel_rfl) ?_
                clear ha; intro a ha
                refine st_pass ha (by kernel_rfl) ?_
                clear ha; intro a ha
                refine st_pass ha (by kernel_rfl) ?_
                clear ha; intro a ha
                refine st_pass ha (by kernel_rfl) ?_
                clear ha; intro a ha
                refine st_pass ha (by kernel_rfl) ?_
                clear ha; intro a ha
                refine st_pass ha (by kernel_rfl) ?_
                clear ha; intro a ha
                refine st_pass ha (by kernel_rfl) ?_
                clear ha; intro a ha
                refine st_pass ha (by kernel_rfl) ?_
                clear ha; intro a ha
                refine st_pass ha (by kernel_rfl) ?_
                clear ha; intro a ha
                refine st_pass ha (by kernel_rfl) ?_
                clear ha; intro a ha
                refine st_pass ha (by kernel_rfl) ?_
                clear ha; intro a ha
                refine st_pass ha (by kernel_rfl) ?_
                clear ha; intro a ha
                refine st_val (.bool true) ha (by kernel_rfl) (by kernel_rfl) ?_
                clear ha; intro a ha
                refine st_val (.bool true) ha (by kernel_rfl) (by kernel_rfl) ?_
                clear ha; intro a ha
                refine wpList_nil ?_
                refine block_normal ?_
                refine then_normal ?_
                refine wp_region_lit ?_
                refine st_val (.int .i64 ((k : Nat) : Int)) ha (by kernel_rfl) (by kernel_rfl) ?_
                clear ha; intro a ha
                refine st_val (.int .i64 ((k + 1 : Nat) : Int)) ha (by kernel_rfl) (run_arith (((k : Nat) : Int) + (1 : Int)) ((k + 1 : Nat) : Int) rfl (by kernel_rfl) (by kernel_rfl) (.inl ⟨rfl, rfl⟩) (by rw [wrap64_in (by omega)]; try omega) _) ?_
                clear ha; intro a ha
                refine st_val (.int .i64 ((k + 1 : Nat) : Int)) ha (by kernel_rfl) (by kernel_rfl) ?_
                clear ha; intro a ha
                refine wpList_nil ?_
                refine then_normal ?_
                have hacc : true = decide (0 < cnt (lb.take (k + 1)) q) := by rw [cnt_take hv]; first | (simp_all [has]; done) | (rw [show has v q = false from by unfold has; rw [decide_eq_false hb]; rfl, Bool.or_false]; symm; exact decide_eq_false (by assumption))
                exact ⟨k + 1, by omega, (Has.cons ha (by kernel_rfl) (by kernel_rfl) (Has.cons ha (by kernel_rfl) (by kernel_rfl) (Has.cons ha (by kernel_rfl) (by kernel_rfl) (Has.cons ha (by kernel_rfl) (by kernel_rfl) (Has.cons ha (by kernel_rfl) (by kernel_rfl) (Has.cons ha (by kernel_rfl) (by kernel_rfl) (Has.cons ha (by kernel_rfl) (by kernel_rfl) (Has.cons ha (by kernel_rfl) (by kernel_rfl) (Has.cons ha (by kernel_rfl) (by kernel_rfl) (Has.cons ha (by kernel_rfl) (by kernel_rfl) (Has.cons ha (by kernel_rfl) (by kernel_rfl) (Has.cons ha (by kernel_rfl) (congrArg Value.bool hacc) (Has.nil ha))))))))))))), s, by omega⟩
              · rw [hb] at ha; replace hb : ¬ (0 < cnt (lb.take k) q) := of_decide_eq_false hb
                refine st_val (.string (str q)) ha (by kernel_rfl) (by kernel_rfl) ?_
                clear ha; intro a ha
                refine st_val (.slice (some adb) m cb) ha (by kernel_rfl) (by kernel_rfl) ?_
                clear ha; intro a ha
                refine st_val (.int .i64 ((k : Nat) : Int)) ha (by kernel_rfl) (by kernel_rfl) ?_
                clear ha; intro a ha
                refine st_val (.pointer (some (adb.add (k * 2)))) ha (by kernel_rfl) (run_indexAddr' (kd := .i64) (i := ((k : Nat) : Int)) (n := m) (c := cb) k rfl Try.underlying22 Try.sizeOf29 (by kernel_rfl) (by kernel_rfl) rfl (by first | assumption | omega) _) ?_
                clear ha; intro a ha
                refine st_val (.pointer (some (adb.add (k * 2 + 0)))) ha (by kernel_rfl) (run_fieldAddr_at (i := k * 2) (off := 0) rfl Try.underlying29 rfl Try.sizeOf9 (by kernel_rfl) _) ?_
                clear ha; intro a ha
                refine st_val (.string (str v.1)) ha (by kernel_rfl) (run_loadAt1 (i := k * 2 + 0) ((hrb _ (Sat.drops (A := [Own 29 2 A5 z.length c6 (sps z), Own 29 2 A3 y.length c4 (sps y), Own 29 2 A1 x.length c2 (sps x)]) s.sat))) rfl (by kernel_rfl) Try.isAgg9 (by rw [sps_at hv (by omega)]; rfl)) ?_
                clear ha; intro a ha
                refine st_val (.bool (decide (v.1 ≤ q))) ha (by kernel_rfl) (run_sgeq (p := q) (q := v.1) rfl (by kernel_rfl) (by kernel_rfl) _) ?_
                clear ha; intro a ha
                refine st_val (.bool (decide (v.1 ≤ q))) ha (by kernel_rfl) (by kernel_rfl) ?_
                clear ha; intro a ha
                rcases Bool.eq_false_or_eq_true (decide (v.1 ≤ q)) with hb | hb
                · rw [hb] at ha; replace hb : (v.1 ≤ q) := of_decide_eq_true hb
                  refine st_val (.string (str q)) ha (by kernel_rfl) (by kernel_rfl) ?_
                  clear ha; intro a ha
                  refine st_val (.slice (some adb) m cb) ha (by kernel_rfl) (by kernel_rfl) ?_
                  clear ha; intro a ha
                  refine st_val (.int .i64 ((k : Nat) : Int)) ha (by kernel_rfl) (by kernel_rfl) ?_
                  clear ha; intro a ha
                  refine st_val (.pointer (some (adb.add (k * 2)))) ha (by kernel_rfl) (run_indexAddr' (kd := .i64) (i := ((k : Nat) : Int)) (n := m) (c := cb) k rfl Try.underlying22 Try.sizeOf29 (by kernel_rfl) (by kernel_rfl) rfl (by first | assumption | omega) _) ?_
                  clear ha; intro a ha
                  refine st_val (.pointer (some (adb.add (k * 2 + 1)))) ha (by kernel_rfl) (run_fieldAddr_at (i := k * 2) (off := 1) rfl Try.underlying29 rfl Try.sizeOf9 (by kernel_rfl) _) ?_
                  clear ha; intro a ha
                  refine st_val (.string (str v.2)) ha (by kernel_rfl) (run_loadAt1 (i := k * 2 + 1) ((hrb _ (Sat.drops (A := [Own 29 2 A5 z.length c6 (sps z), Own 29 2 A3 y.length c4 (sps y), Own 29 2 A1 x.length c2 (sps x)]) s.sat))) rfl (by kernel_rfl) Try.isAgg9 (by rw [sps_at hv (by omega)]; rfl)) ?_
                  clear ha; intro a ha
                  refine st_val (.bool (decide (q < v.2))) ha (by kernel_rfl) (run_slss (p := q) (q := v.2) rfl (by kernel_rfl) (by kernel_rfl) _) ?_
                  clear ha; intro a ha
                  refine st_val (.bool (decide (q < v.2))) ha (by kernel_rfl) (by kernel_rfl) ?_
                  clear ha; intro a ha
                  refine st_val (.bool (decide (q < v.2))) ha (by kernel_rfl) (by kernel_rfl) ?_
                  clear ha; intro a ha
                  refine st_val (.bool (decide (q < v.2))) ha (by kernel_rfl) (by kernel_rfl) ?_
                  clear ha; intro a ha
                  refine wpList_nil ?_
                  refine block_normal ?_
                  refine then_normal ?_
                  refine wp_region_lit ?_
                  refine st_val (.int .i64 ((k : Nat) : Int)) ha (by kernel_rfl) (by kernel_rfl) ?_
                  clear ha; intro a ha
                  refine st_val (.int .i64 ((k + 1 : Nat) : Int)) ha (by kernel_rfl) (run_arith (((k : Nat) : Int) + (1 : Int)) ((k + 1 : Nat) : Int) rfl (by kernel_rfl) (by kernel_rfl) (.inl ⟨rfl, rfl⟩) (by rw [wrap64_in (by omega)]; try omega) _) ?_
                  clear ha; intro a ha
                  refine st_val (.int .i64 ((k + 1 : Nat) : Int)) ha (by kernel_rfl) (by kernel_rfl) ?_
                  clear ha; intro a ha
                  refine wpList_nil ?_
                  refine then_normal ?_
                  have hacc : decide (q < v.2) = decide (0 < cnt (lb.take (k + 1)) q) := by rw [cnt_take hv]; first | (simp_all [has]; done) | (rw [show has v q = false from by unfold has; rw [decide_eq_false hb]; rfl, Bool.or_false]; symm; exact decide_eq_false (by assumption))
                  exact ⟨k + 1, by omega, (Has.cons ha (by kernel_rfl) (by kernel_rfl) (Has.cons ha (by kernel_rfl) (by kernel_rfl) (Has.cons ha (by kernel_rfl) (by kernel_rfl) (Has.cons ha (by kernel_rfl) (by kernel_rfl) (Has.cons ha (by kernel_rfl) (by kernel_rfl) (Has.cons ha (by kernel_rfl) (by kernel_rfl) (Has.cons ha (by kernel_rfl) (by kernel_rfl) (Has.cons ha (by kernel_rfl) (by kernel_rfl) (Has.cons ha (by kernel_rfl) (by kernel_rfl) (Has.cons ha (by kernel_rfl) (by kernel_rfl) (Has.cons ha (by kernel_rfl) (by kernel_rfl) (Has.cons ha (by kernel_rfl) (congrArg Value.bool hacc) (Has.nil ha))))))))))))), s, by omega⟩
                · rw [hb] at ha; replace hb : ¬ (v.1 ≤ q) := of_decide_eq_false hb
                  refine st_pass ha (by kernel_rfl) ?_
                  clear ha; intro a ha
                  refine st_pass ha (by kernel_rfl) ?_
                  clear ha; intro a ha
                  refine st_pass ha (by kernel_rfl) ?_
                  clear ha; intro a ha
                  refine st_pass ha (by kernel_rfl) ?_
                  clear ha; intro a ha
                  refine st_pass ha (by kernel_rfl) ?_
                  clear ha; intro a ha
                  refine st_pass ha (by kernel_rfl) ?_
                  clear ha; intro a ha
                  refine st_pass ha (by kernel_rfl) ?_
                  clear ha; intro a ha
                  refine st_val (.bool false) ha (by kernel_rfl) (by kernel_rfl) ?_
                  clear ha; intro a ha
                  refine st_val (.bool false) ha (by kernel_rfl) (by kernel_rfl) ?_
                  clear ha; intro a ha
                  refine st_val (.bool false) ha (by kernel_rfl) (by kernel_rfl) ?_
                  clear ha; intro a ha
                  refine wpList_nil ?_
                  refine block_normal ?_
                  refine then_normal ?_
                  refine wp_region_lit ?_
                  refine st_val (.int .i64 ((k : Nat) : Int)) ha (by kernel_rfl) (by kernel_rfl) ?_
                  clear ha; intro a ha
                  refine st_val (.int .i64 ((k + 1 : Nat) : Int)) ha (by kernel_rfl) (run_arith (((k : Nat) : Int) + (1 : Int)) ((k + 1 : Nat) : Int) rfl (by kernel_rfl) (by kernel_rfl) (.inl ⟨rfl, rfl⟩) (by rw [wrap64_in (by omega)]; try omega) _) ?_
                  clear ha; intro a ha
                  refine st_val (.int .i64 ((k + 1 : Nat) : Int)) ha (by kernel_rfl) (by kernel_rfl) ?_
                  clear ha; intro a ha
                  refine wpList_nil ?_
                  refine then_normal ?_
                  have hacc : false = decide (0 < cnt (lb.take (k + 1)) q) := by rw [cnt_take hv]; first | (simp_all [has]; done) | (rw [show has v q = false from by unfold has; rw [decide_eq_false hb]; rfl, Bool.or_false]; symm; exact decide_eq_false (by assumption))
                  exact ⟨k + 1, by omega, (Has.cons ha (by kernel_rfl) (by kernel_rfl) (Has.cons ha (by kernel_rfl) (by kernel_rfl) (Has.cons ha (by kernel_rfl) (by kernel_rfl) (Has.cons ha (by kernel_rfl) (by kernel_rfl) (Has.cons ha (by kernel_rfl) (by kernel_rfl) (Has.cons ha (by kernel_rfl) (by kernel_rfl) (Has.cons ha (by kernel_rfl) (by kernel_rfl) (Has.cons ha (by kernel_rfl) (by kernel_rfl) (Has.cons ha (by kernel_rfl) (by kernel_rfl) (Has.cons ha (by kernel_rfl) (by kernel_rfl) (Has.cons ha (by kernel_rfl) (by kernel_rfl) (Has.cons ha (by kernel_rfl) (congrArg Value.bool hacc) (Has.nil ha))))))))))))), s, by omega⟩
            · rw [hb] at ha; replace hb : ¬ (((k : Nat) : Int) < ((m : Nat) : Int)) := of_decide_eq_false hb
              have hk : k = m := by omega
              rw [hk, show lb.take m = lb from List.take_of_length_le (by omega), h2] at ha
              refine wp_exit ?_
              refine then_exit ?_
              refine then_exit ?_
              refine block_hit ?_
              refine then_normal ?_
              refine wp_seq ?_
              refine wp_region_lit ?_
              refine st_val (.int .i64 0) ha (by kernel_rfl) (by kernel_rfl) ?_
              clear ha; intro a ha
              refine st_val (.bool true) ha (by kernel_rfl) (by kernel_rfl) ?_
              clear ha; intro a ha
              refine st_val (.bool true) ha (by kernel_rfl) (by kernel_rfl) ?_
              clear ha; intro a ha
              refine st_val (.int .i64 0) ha (by kernel_rfl) (by kernel_rfl) ?_
              clear ha; intro a ha
              refine st_val (.bool true) ha (by kernel_rfl) (by kernel_rfl) ?_
              clear ha; intro a ha
              refine st_val (.bool true) ha (by kernel_rfl) (by kernel_rfl) ?_
              clear ha; intro a ha
              refine st_val (.bool true) ha (by kernel_rfl) (by kernel_rfl) ?_
              clear ha; intro a ha
              refine st_val (.int .i64 0) ha (by kernel_rfl) (by kernel_rfl) ?_
              clear ha; intro a ha
              refine st_val (.bool true) ha (by kernel_rfl) (by kernel_rfl) ?_
              clear ha; intro a ha
              refine st_val (.bool true) ha (by kernel_rfl) (by kernel_rfl) ?_
              clear ha; intro a ha
              refine st_val (.bool true) ha (by kernel_rfl) (by kernel_rfl) ?_
              clear ha; intro a ha
              refine st_val (.slice A1 x.length c2) ha (by kernel_rfl) (by kernel_rfl) ?_
              clear ha; intro a ha
              refine st_call ha (by kernel_rfl) (by kernel_rfl) (ordered_ok W _ w A1 x.length c2 x (Knows.own (j := 2) rfl) rfl (by omega) hcx.ord hcx.lt s) ?_
              rintro _ w ⟨rfl, s⟩
              replace s : St W (Own 29 2 A5 z.length c6 (sps z) :: Own 29 2 A3 y.length c4 (sps y) :: Own 29 2 A1 x.length c2 (sps x) :: L) w := s
              refine ⟨_, rfl, ?_⟩; clear ha; intro a ha
              refine st_val (.bool true) ha (by kernel_rfl) (by kernel_rfl) ?_
              clear ha; intro a ha
              refine st_val (.bool true) ha (by kernel_rfl) (by kernel_rfl) ?_
              clear ha; intro a ha
              refine st_val (.slice A3 y.length c4) ha (by kernel_rfl) (by kernel_rfl) ?_
              clear ha; intro a ha
              refine st_call ha (by kernel_rfl) (by kernel_rfl) (ordered_ok W _ w A3 y.length c4 y (Knows.own (j := 1) rfl) rfl (by omega) hcy.ord hcy.lt s) ?_
              rintro _ w ⟨rfl, s⟩
              replace s : St W (Own 29 2 A5 z.length c6 (sps z) :: Own 29 2 A3 y.length c4 (sps y) :: Own 29 2 A1 x.length c2 (sps x) :: L) w := s
              refine ⟨_, rfl, ?_⟩; clear ha; intro a ha
              refine st_val (.bool true) ha (by kernel_rfl) (by kernel_rfl) ?_
              clear ha; intro a ha
              refine st_val (.bool true) ha (by kernel_rfl) (by kernel_rfl) ?_
              clear ha; intro a ha
              refine st_val (.slice A5 z.length c6) ha (by kernel_rfl) (by kernel_rfl) ?_
              clear ha; intro a ha
              refine st_call ha (by kernel_rfl) (by kernel_rfl) (ordered_ok W _ w A5 z.length c6 z (Knows.own (j := 0) rfl) rfl (by omega) hcz.ord hcz.lt s) ?_
              rintro _ w ⟨rfl, s⟩
              replace s : St W (Own 29 2 A5 z.length c6 (sps z) :: Own 29 2 A3 y.length c4 (sps y) :: Own 29 2 A1 x.length c2 (sps x) :: L) w := s
              refine ⟨_, rfl, ?_⟩; clear ha; intro a ha
              refine st_val (.bool true) ha (by kernel_rfl) (by kernel_rfl) ?_
              clear ha; intro a ha
              refine st_val (.bool true) ha (by kernel_rfl) (by kernel_rfl) ?_
              clear ha; intro a ha
              refine st_val (.slice A1 x.length c2) ha (by kernel_rfl) (by kernel_rfl) ?_
              clear ha; intro a ha
              refine st_val (.string (str q)) ha (by kernel_rfl) (by kernel_rfl) ?_
              clear ha; intro a ha
              refine st_call ha (by kernel_rfl) (by kernel_rfl) (in_is W _ w A1 x.length c2 x (Knows.own (j := 2) rfl) rfl (by omega) q false ((canon_self hcx q).trans h1) s) ?_
              rintro _ w ⟨rfl, s⟩
              replace s : St W (Own 29 2 A5 z.length c6 (sps z) :: Own 29 2 A3 y.length c4 (sps y) :: Own 29 2 A1 x.length c2 (sps x) :: L) w := s
              refine ⟨_, rfl, ?_⟩; clear ha; intro a ha
              refine st_val (.bool false) ha (by kernel_rfl) (by kernel_rfl) ?_
              clear ha; intro a ha
              refine st_val (.bool true) ha (by kernel_rfl) (by kernel_rfl) ?_
              clear ha; intro a ha
              refine st_val (.bool true) ha (by kernel_rfl) (by kernel_rfl) ?_
              clear ha; intro a ha
              refine st_val (.bool true) ha (by kernel_rfl) (by kernel_rfl) ?_
              clear ha; intro a ha
              refine st_val (.slice A3 y.length c4) ha (by kernel_rfl) (by kernel_rfl) ?_
              clear ha; intro a ha
              refine st_val (.string (str q)) ha (by kernel_rfl) (by kernel_rfl) ?_
              clear ha; intro a ha
              refine st_call ha (by kernel_rfl) (by kernel_rfl) (in_is W _ w A3 y.length c4 y (Knows.own (j := 1) rfl) rfl (by omega) q false ((canon_self hcy q).trans (by rw [h1, h2]; rfl)) s) ?_
              rintro _ w ⟨rfl, s⟩
              replace s : St W (Own 29 2 A5 z.length c6 (sps z) :: Own 29 2 A3 y.length c4 (sps y) :: Own 29 2 A1 x.length c2 (sps x) :: L) w := s
              refine ⟨_, rfl, ?_⟩; clear ha; intro a ha
              refine st_val (.bool false) ha (by kernel_rfl) (by kernel_rfl) ?_
              clear ha; intro a ha
              refine st_val (.bool false) ha (by kernel_rfl) (by kernel_rfl) ?_
              clear ha; intro a ha
              refine st_pass ha (by kernel_rfl) ?_
              clear ha; intro a ha
              refine st_val (.bool false) ha (by kernel_rfl) (by kernel_rfl) ?_
              clear ha; intro a ha
              refine st_val (.bool true) ha (by kernel_rfl) (by kernel_rfl) ?_
              clear ha; intro a ha
              refine st_val (.bool true) ha (by kernel_rfl) (by kernel_rfl) ?_
              clear ha; intro a ha
              refine st_val (.bool true) ha (by kernel_rfl) (by kernel_rfl) ?_
              clear ha; intro a ha
              refine st_val (.slice A5 z.length c6) ha (by kernel_rfl) (by kernel_rfl) ?_
              clear ha; intro a ha
              refine st_val (.string (str q)) ha (by kernel_rfl) (by kernel_rfl) ?_
              clear ha; intro a ha
              refine st_call ha (by kernel_rfl) (by kernel_rfl) (in_is W _ w A5 z.length c6 z (Knows.own (j := 0) rfl) rfl (by omega) q false ((canon_self hcz q).trans (by rw [h1, h3]; rfl)) s) ?_
              rintro _ w ⟨rfl, s⟩
              replace s : St W (Own 29 2 A5 z.length c6 (sps z) :: Own 29 2 A3 y.length c4 (sps y) :: Own 29 2 A1 x.length c2 (sps x) :: L) w := s
              refine ⟨_, rfl, ?_⟩; clear ha; intro a ha
              refine st_val (.bool false) ha (by kernel_rfl) (by kernel_rfl) ?_
              clear ha; intro a ha
              refine st_val (.bool false) ha (by kernel_rfl) (by kernel_rfl) ?_
              clear ha; intro a ha
              refine st_pass ha (by kernel_rfl) ?_
              clear ha; intro a ha
              refine st_pass ha (by kernel_rfl) ?_
              clear ha; intro a ha
              refine st_val (.bool false) ha (by kernel_rfl) (by kernel_rfl) ?_
              clear ha; intro a ha
              refine st_val (.bool true) ha (by kernel_rfl) (by kernel_rfl) ?_
              clear ha; intro a ha
              refine st_val (.bool true) ha (by kernel_rfl) (by kernel_rfl) ?_
              clear ha; intro a ha
              refine st_val (.bool true) ha (by kernel_rfl) (by kernel_rfl) ?_
              clear ha; intro a ha
              refine st_val (.slice A n ca) ha (by kernel_rfl) (by kernel_rfl) ?_
              clear ha; intro a ha
              refine st_val (.string (str q)) ha (by kernel_rfl) (by kernel_rfl) ?_
              clear ha; intro a ha
              refine st_call ha (by kernel_rfl) (by kernel_rfl) (in_is W _ w A n ca la (fun w s => hra w (Sat.drops (A := [Own 29 2 A5 z.length c6 (sps z), Own 29 2 A3 y.length c4 (sps y), Own 29 2 A1 x.length c2 (sps x)]) s)) han hn q false h1 s) ?_
              rintro _ w ⟨rfl, s⟩
              replace s : St W (Own 29 2 A5 z.length c6 (sps z) :: Own 29 2 A3 y.length c4 (sps y) :: Own 29 2 A1 x.length c2 (sps x) :: L) w := s
              refine ⟨_, rfl, ?_⟩; clear ha; intro a ha
              refine st_val (.bool false) ha (by kernel_rfl) (by kernel_rfl) ?_
              clear ha; intro a ha
              refine st_val (.bool true) ha (by kernel_rfl) (by kernel_rfl) ?_
              clear ha; intro a ha
              refine st_val (.bool true) ha (by kernel_rfl) (by kernel_rfl) ?_
              clear ha; intro a ha
              refine st_val (.bool true) ha (by kernel_rfl) (by kernel_rfl) ?_
              clear ha; intro a ha
              refine wpList_nil ?_
              refine then_normal ?_
              refine wp_ret ?_
              refine ret_with (v := .bool true) ha (results_1 rfl ha (res_tmp (by kernel_rfl) (by kernel_rfl))) ?_
              replace s := s.tail.tail.tail
              replace s : St W (L) w := s
              exact ⟨rfl, s⟩

theorem spansKeys_any (W : World) (L : List Chunk) (w : World) (A B : Option Addr) (n m ca cb : Nat) (la lb : List Span) (hra : Knows L fun w => Reads w 2 A n (sps la)) (hrb : Knows L fun w => Reads w 2 B m (sps lb)) (han : la.length = n) (hbm : lb.length = m) (hn : n ≤ 140737488351232) (hm : m ≤ 140737488351232) (q : K) (s : St W L w) : Calls Try.prog 6 #[.slice A n ca, .slice B m cb, .string (str q)] w fun e w' => e = .returned (.bool true) ∧ St W L w' := by
  cases h1 : decide (0 < cnt la q) <;> cases h2 : decide (0 < cnt lb q)
  · exact spansKeys_false_false W L w A B n m ca cb la lb hra hrb han hbm hn hm q h1 h2 s
  · exact spansKeys_false_true W L w A B n m ca cb la lb hra hrb han hbm hn hm q h1 h2 s
  · exact spansKeys_true_false W L w A B n m ca cb la lb hra hrb han hbm hn hm q h1 h2 s
  · exact spansKeys_true_true W L w A B n m ca cb la lb hra hrb han hbm hn hm q h1 h2 s
end Go.Proofs.Ytcnlidaacgcdhaa.B
