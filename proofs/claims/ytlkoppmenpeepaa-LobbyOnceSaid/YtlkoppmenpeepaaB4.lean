import Derived.Test.YtlkoppmenpeepaaB3
namespace Go.Proofs.Ytlkoppmenpeepaa.B
open Go.RowKit Go.Maps Go.Sort Go.Shelf Go.Proofs.Ytlkoppmenpeepaa.Sep Go.Proofs.Ytlkoppmenpeepaa.P
set_option linter.unusedVariables false
set_option linter.unusedSimpArgs false
theorem out_yes {p : Wt → Bool} {l : List Wt} {k : Nat} {x : Wt} (h : l[k]? = some x) (hp : p x = true) : out p (l.take (k + 1)) = out p (l.take k) ++ [x] := by
  rw [take_snoc h, out_snoc, if_pos hp]
theorem out_no {p : Wt → Bool} {l : List Wt} {k : Nat} {x : Wt} (h : l[k]? = some x) (hp : p x = false) : out p (l.take (k + 1)) = out p (l.take k) := by
  rw [take_snoc h, out_snoc, if_neg (by rw [hp]; simp)]
theorem has_no {x v : Wt} {l : List Wt} {k : Nat} (h : l[k]? = some v) (hp : ∀ y ∈ l.take k, y.num ≠ x.num) (hv : v.num ≠ x.num) : ∀ y ∈ l.take (k + 1), y.num ≠ x.num := fun y hy => (mem_snoc h hy).elim (hp y) (fun e => e ▸ hv)
theorem has_false {x : Wt} {l : List Wt} (h : ∀ y ∈ l, y.num ≠ x.num) : has x l = false := by
  unfold P.has
  rw [Bool.eq_false_iff]
  intro hc
  obtain ⟨y, hy, e⟩ := List.any_eq_true.1 hc
  exact h y hy (of_decide_eq_true e)
theorem has_true {x v : Wt} {l : List Wt} {k : Nat} (h : l[k]? = some v) (hv : v.num = x.num) : has x l = true := List.any_eq_true.2 ⟨v, List.mem_of_getElem? h, decide_eq_true hv⟩

theorem roff_num (W : World) (L : List Chunk) (w : World) (g : Nat) (A : Option Addr) (n c : Nat) (l : List Wt) (hl : l.length = n) (hn : n ≤ 100) (m : Int) (s : St W (.blk g [.slice A n c] 64 :: Own 34 4 A n c (ws l) :: L) w) :
    Calls Try.prog 30 #[.pointer (some ⟨g, 0, none⟩), .int .i64 0, .int .i64 m, .string (str [])] w fun e w' => ∃ A' c' A1 c1, e = .returned (.slice A' (out (byNum m) l).length c') ∧ St W (Own 34 4 A' (out (byNum m) l).length c' (ws (out (byNum m) l)) :: .blk g [.slice A1 (left (byNum m) l).length c1] 64 :: Own 34 4 A1 (left (byNum m) l).length c1 (ws (left (byNum m) l)) :: L) w' := by
  refine enter_args (l := [.pointer (some ⟨g, 0, none⟩), .int .i64 0, .int .i64 m, .string (str [])]) Try.func30 rfl rfl (Nat.le_of_ble_eq_true rfl) ?_
  intro a ha; replace ha : Has a 70 [(0, .pointer (some ⟨g, 0, none⟩)), (1, .int .i64 0), (2, .int .i64 m), (3, .string (str []))] := ha
  refine wp_seq ?_
  refine wp_region_lit ?_
  refine st_val (.slice none 0 0) ha (by kernel_rfl) (by kernel_rfl) ?_
  clear ha; intro a ha
  refine wpList_nil ?_
  refine then_normal ?_
  refine wp_seq ?_
  refine wp_region_lit ?_
  refine st_val (.slice none 0 0) ha (by kernel_rfl) (by kernel_rfl) ?_
  clear ha; intro a ha
  refine st_val (.slice none 0 0) ha (by kernel_rfl) (by kernel_rfl) ?_
  clear ha; intro a ha
  refine wpList_nil ?_
  refine then_normal ?_
  refine wp_seq ?_
  refine wp_seq ?_
  refine wp_region_lit ?_
  refine st_val (.int .i64 0) ha (by kernel_rfl) (by kernel_rfl) ?_
  clear ha; intro a ha
  refine wpList_nil ?_
  refine then_normal ?_
  refine wp_block ?_
  replace s := Own.none_ (e := 34) (k := 4) none (Own.none_ (e := 34) (k := 4) none s)
  refine wp_loopG (G := (Nat × Option Addr × Nat × Option Addr × Nat)) (fun ⟨k, Ao, co, Al, cl⟩ a w => Has a 70 [(0, .pointer (some ⟨g, 0, none⟩)), (1, .int .i64 0), (2, .int .i64 m), (3, .string (str [])), (9, .slice Ao ((out (byNum m) (l.take k)).length) co), (10, .slice Al ((left (byNum m) (l.take k)).length) cl), (11, .int .i64 ((k : Nat) : Int))] ∧ St W (Own 34 4 Ao ((out (byNum m) (l.take k)).length) co (ws (out (byNum m) (l.take k))) :: Own 34 4 Al ((left (byNum m) (l.take k)).length) cl (ws (left (byNum m) (l.take k))) :: .blk g [.slice A n c] 64 :: Own 34 4 A n c (ws l) :: L) w ∧ (k ≤ n)) (fun ⟨k, Ao, co, Al, cl⟩ => n - k) (0, none, 0, none, 0) ?_ ?_
  · exact ⟨(Has.cons ha (by kernel_rfl) (by kernel_rfl) (Has.cons ha (by kernel_rfl) (by kernel_rfl) (Has.cons ha (by kernel_rfl) (by kernel_rfl) (Has.cons ha (by kernel_rfl) (by kernel_rfl) (Has.cons ha (by kernel_rfl) (by kernel_rfl) (Has.cons ha (by kernel_rfl) (by kernel_rfl) (Has.cons ha (by kernel_rfl) (by kernel_rfl) (Has.nil ha)))))))), s, Nat.zero_le _⟩
  · clear ha s; rintro ⟨k, Ao, co, Al, cl⟩ a w ⟨ha, s, hp⟩
    refine wp_seq ?_
    refine wp_seq ?_
    refine wp_region_lit ?_
    refine st_val (.int .i64 ((k : Nat) : Int)) ha (by kernel_rfl) (by kernel_rfl) ?_
    clear ha; intro a ha
    refine st_val (.pointer (some ⟨g, 0, none⟩)) ha (by kernel_rfl) (by kernel_rfl) ?_
    clear ha; intro a ha
    refine st_val (.pointer (some ⟨g, 0, none⟩)) ha (by kernel_rfl) (by kernel_rfl) ?_
    clear ha; intro a ha
    refine st_val (.pointer (some ⟨g, 0, none⟩)) ha (by kernel_rfl) (by kernel_rfl) ?_
    clear ha; intro a ha
    refine st_val (.slice A n c) ha (by kernel_rfl) (run_load1 (of_ := 0) (s.blkIs 2 rfl) rfl (by kernel_rfl) Try.isAgg39 rfl) ?_
    clear ha; intro a ha
    refine st_val (.int .i64 ((n : Nat) : Int)) ha (by kernel_rfl) (by kernel_rfl) ?_
    clear ha; intro a ha
    refine st_val (.bool (decide (((k : Nat) : Int) < ((n : Nat) : Int)))) ha (by kernel_rfl) (by kernel_rfl) ?_
    clear ha; intro a ha
    refine wpList_nil ?_
    refine then_normal ?_
    refine wp_part (decide (((k : Nat) : Int) < ((n : Nat) : Int))) ha rfl (by kernel_rfl) (fun hb => ?_) (fun hb => ?_)
    · rw [hb] at ha; replace hb : (((k : Nat) : Int) < ((n : Nat) : Int)) := of_decide_eq_true hb
      obtain ⟨v, hv⟩ : ∃ v, l[k]? = some v := ⟨_, List.getElem?_eq_getElem (by omega)⟩
      obtain ⟨ad, hA⟩ := Own.addr (s.at_ (j := 3) rfl) (by omega)
      subst hA
      have ho : (out (byNum m) (l.take k)).length ≤ 100 := by have := out_le (byNum m) (l.take k); rw [List.length_take] at this; omega
      have hle : (left (byNum m) (l.take k)).length ≤ 100 := by have := left_le (byNum m) (l.take k); rw [List.length_take] at this; omega
      refine wp_skip ?_
      refine then_normal ?_
      refine wp_seq ?_
      refine wp_block ?_
      refine wp_seq ?_
      refine wp_region_lit ?_
      refine st_val (.pointer (some ⟨g, 0, none⟩)) ha (by kernel_rfl) (by kernel_rfl) ?_
      clear ha; intro a ha
      refine st_val (.pointer (some ⟨g, 0, none⟩)) ha (by kernel_rfl) (by kernel_rfl) ?_
      clear ha; intro a ha
      refine st_val (.pointer (some ⟨g, 0, none⟩)) ha (by kernel_rfl) (by kernel_rfl) ?_
      clear ha; intro a ha
      refine st_val (.slice (some ad) n c) ha (by kernel_rfl) (run_load1 (of_ := 0) (s.blkIs 2 rfl) rfl (by kernel_rfl) Try.isAgg39 rfl) ?_
      clear ha; intro a ha
      refine st_val (.int .i64 ((k : Nat) : Int)) ha (by kernel_rfl) (by kernel_rfl) ?_
      clear ha; intro a ha
      refine st_val (.pointer (some (ad.add (k * 4)))) ha (by kernel_rfl) (run_indexAddr' (kd := .i64) (i := ((k : Nat) : Int)) (n := n) (c := c) k rfl Try.underlying39 Try.sizeOf34 (by kernel_rfl) (by kernel_rfl) rfl (by first | assumption | omega) _) ?_
      clear ha; intro a ha
      refine st_val (.agg #[.int .i64 v.num, .string (str v.key), .int .i64 v.waiter, .int .i64 v.holder]) ha (by kernel_rfl) (run_loadAtN (i := k * 4) [.int .i64 v.num, .string (str v.key), .int .i64 v.waiter, .int .i64 v.holder] ((Own.reads (s.at_ (j := 3) rfl).1)) rfl (by kernel_rfl) Try.isAgg34 Try.sizeOf34 (fun q_ hq_ => ws_at hv hq_) rfl) ?_
      clear ha; intro a ha
      refine st_ex ha (by kernel_rfl) (ex_alloc [.int .i64 0, .string (str []), .int .i64 0, .int .i64 0] s rfl (Try.zeroValue34 _) (by kernel_rfl)) ?_
      clear ha; rintro _ w a ⟨g1, rfl, s⟩ ha
      replace s : St W (.blk g1 [.int .i64 0, .string (str []), .int .i64 0, .int .i64 0] 34 :: Own 34 4 Ao ((out (byNum m) (l.take k)).length) co (ws (out (byNum m) (l.take k))) :: Own 34 4 Al ((left (byNum m) (l.take k)).length) cl (ws (left (byNum m) (l.take k))) :: .blk g [.slice (some ad) n c] 64 :: Own 34 4 (some ad) n c (ws l) :: L) w := s
      refine st_exd ha (by kernel_rfl) (ex_store (of_ := 0) 0 [.int .i64 v.num, .string (str v.key), .int .i64 v.waiter, .int .i64 v.holder] s rfl rfl (by kernel_rfl) (by kernel_rfl) (Try.sizeOf34 _) rfl (by simp [Value.oneCell']) (Nat.le_of_ble_eq_true rfl)) ?_
      clear ha; rintro w a s ha
      replace s : St W (.blk g1 [.int .i64 v.num, .string (str v.key), .int .i64 v.waiter, .int .i64 v.holder] 34 :: Own 34 4 Ao ((out (byNum m) (l.take k)).length) co (ws (out (byNum m) (l.take k))) :: Own 34 4 Al ((left (byNum m) (l.take k)).length) cl (ws (left (byNum m) (l.take k))) :: .blk g [.slice (some ad) n c] 64 :: Own 34 4 (some ad) n c (ws l) :: L) w := s
      refine wpList_nil ?_
      refine then_normal ?_
      refine wp_seq ?_
      refine wp_region_lit ?_
      refine st_val (.int .i64 0) ha (by kernel_rfl) (by kernel_rfl) ?_
      clear ha; intro a ha
      refine st_val (.bool true) ha (by kernel_rfl) (by kernel_rfl) ?_
      clear ha; intro a ha
      refine st_val (.bool true) ha (by kernel_rfl) (by kernel_rfl) ?_
      clear ha; intro a ha
      refine st_val (.pointer (some ⟨g1, 0, none⟩)) ha (by kernel_rfl) (by kernel_rfl) ?_
      clear ha; intro a ha
      refine st_val (.int .i64 v.num) ha (by kernel_rfl) (run_load1 (of_ := 0) (s.blkIs 0 rfl) rfl (by kernel_rfl) Try.isAgg3 rfl) ?_
      clear ha; intro a ha
      refine st_val (.int .i64 m) ha (by kernel_rfl) (by kernel_rfl) ?_
      clear ha; intro a ha
      refine st_val (.bool (v.num == m)) ha (by kernel_rfl) (by kernel_rfl) ?_
      clear ha; intro a ha
      refine st_val (.bool (v.num == m)) ha (by kernel_rfl) (by kernel_rfl) ?_
      clear ha; intro a ha
      refine st_val (.bool (v.num == m)) ha (by kernel_rfl) (by kernel_rfl) ?_
      clear ha; intro a ha
      rcases Bool.eq_false_or_eq_true (v.num == m) with hb | hb
      · rw [hb] at ha; have hb_ := hb; replace hb := eq_of_beq hb
        refine st_pass ha (by kernel_rfl) ?_
        clear ha; intro a ha
        refine st_pass ha (by kernel_rfl) ?_
        clear ha; intro a ha
        refine st_pass ha (by kernel_rfl) ?_
        clear ha; intro a ha
        refine st_pass ha (by kernel_rfl) ?_
        clear ha; intro a ha
        refine st_pass ha (by kernel_rfl) ?_
        clear ha; intro a ha
        refine st_pass ha (by kernel_rfl) ?_
        clear ha; intro a ha
        refine st_pass ha (by kernel_rfl) ?_
        clear ha; intro a ha
        refine st_pass ha (by kernel_rfl) ?_
        clear ha; intro a ha
        refine st_pass ha (by kernel_rfl) ?_
        clear ha; intro a ha
        refine st_pass ha (by kernel_rfl) ?_
        clear ha; intro a ha
        refine st_pass ha (by kernel_rfl) ?_
        clear ha; intro a ha
        refine st_pass ha (by kernel_rfl) ?_
        clear ha; intro a ha
        refine st_pass ha (by kernel_rfl) ?_
        clear ha; intro a ha
        refine st_pass ha (by kernel_rfl) ?_
        clear ha; intro a ha
        refine st_pass ha (by kernel_rfl) ?_
        clear ha; intro a ha
        refine st_pass ha (by kernel_rfl) ?_
        clear ha; intro a ha
        refine st_pass ha (by kernel_rfl) ?_
        clear ha; intro a ha
        refine st_pass ha (by kernel_rfl) ?_
        clear ha; intro a ha
        refine st_val (.bool true) ha (by kernel_rfl) (by kernel_rfl) ?_
        clear ha; intro a ha
        refine wpList_nil ?_
        refine then_normal ?_
        refine wp_true ha rfl (by kernel_rfl) ?_
        refine wp_region_lit ?_
        refine st_val (.slice Ao ((out (byNum m) (l.take k)).length) co) ha (by kernel_rfl) (by kernel_rfl) ?_
        clear ha; intro a ha
        refine st_val (.agg #[.int .i64 v.num, .string (str v.key), .int .i64 v.waiter, .int .i64 v.holder]) ha (by kernel_rfl) (run_loadN (of_ := 0) [.int .i64 v.num, .string (str v.key), .int .i64 v.waiter, .int .i64 v.holder] (s.blkIs 0 rfl) rfl (by kernel_rfl) Try.isAgg34 Try.sizeOf34 rfl (Nat.le_of_ble_eq_true rfl)) ?_
        clear ha; intro a ha
        refine st_ex ha (by kernel_rfl) (ex_buildSlice elt39 _ zs39 [.int .i64 v.num, .string (str v.key), .int .i64 v.waiter, .int .i64 v.holder] s rfl (by kernel_rfl) (by decide)) ?_
        clear ha; rintro _ w a ⟨g2, rfl, s⟩ ha
        replace s : St W (.blk g2 [.int .i64 v.num, .string (str v.key), .int .i64 v.waiter, .int .i64 v.holder] 34 :: .blk g1 [.int .i64 v.num, .string (str v.key), .int .i64 v.waiter, .int .i64 v.holder] 34 :: Own 34 4 Ao ((out (byNum m) (l.take k)).length) co (ws (out (byNum m) (l.take k))) :: Own 34 4 Al ((left (byNum m) (l.take k)).length) cl (ws (left (byNum m) (l.take k))) :: .blk g [.slice (some ad) n c] 64 :: Own 34 4 (some ad) n c (ws l) :: L) w := s
        refine st_ex ha (by kernel_rfl) (ex_append (m := 1) (d' := 1) elt39 (by decide) 2 [.int .i64 v.num, .string (str v.key), .int .i64 v.waiter, .int .i64 v.holder] s rfl (by kernel_rfl) (by kernel_rfl) rfl (reads_blk (s.blkIs 0 rfl) rfl) (by simp [Value.oneCell']) (by simp only [maxLen]; omega) (by omega)) ?_
        clear ha; rintro _ w a ⟨A3, c4, rfl, hA_, s⟩ ha
        replace s : St W (.blk g2 [.int .i64 v.num, .string (str v.key), .int .i64 v.waiter, .int .i64 v.holder] 34 :: .blk g1 [.int .i64 v.num, .string (str v.key), .int .i64 v.waiter, .int .i64 v.holder] 34 :: Own 34 4 A3 ((out (byNum m) (l.take k)).length + 1) c4 ((ws (out (byNum m) (l.take k))) ++ [.int .i64 v.num, .string (str v.key), .int .i64 v.waiter, .int .i64 v.holder]) :: Own 34 4 Al ((left (byNum m) (l.take k)).length) cl (ws (left (byNum m) (l.take k))) :: .blk g [.slice (some ad) n c] 64 :: Own 34 4 (some ad) n c (ws l) :: L) w := s
        refine st_val (.slice A3 ((out (byNum m) (l.take k)).length + 1) c4) ha (by kernel_rfl) (by kernel_rfl) ?_
        clear ha; intro a ha
        refine wpList_nil ?_
        refine block_normal ?_
        refine then_normal ?_
        refine wp_region_lit ?_
        refine st_val (.int .i64 ((k : Nat) : Int)) ha (by kernel_rfl) (by kernel_rfl) ?_
        clear ha; intro a ha
        refine st_val (.int .i64 ((k + 1 : Nat) : Int)) ha (by kernel_rfl) (run_arith (((k : Nat) : Int) + (1 : Int)) ((k + 1 : Nat) : Int) rfl (by kernel_rfl) (by kernel_rfl) (.inl ⟨rfl, rfl⟩) (by rw [wrap64_in (by omega)]; try omega) _) ?_
        clear ha; intro a ha
        refine st_val (.int .i64 ((k + 1 : Nat) : Int)) ha (by kernel_rfl) (by kernel_rfl) ?_
        clear ha; intro a ha
        refine wpList_nil ?_
        refine then_normal ?_
        replace s := s.at_ (j := 5) rfl
        replace s : St W (Own 34 4 (some ad) n c (ws l) :: .blk g2 [.int .i64 v.num, .string (str v.key), .int .i64 v.waiter, .int .i64 v.holder] 34 :: .blk g1 [.int .i64 v.num, .string (str v.key), .int .i64 v.waiter, .int .i64 v.holder] 34 :: Own 34 4 A3 ((out (byNum m) (l.take k)).length + 1) c4 ((ws (out (byNum m) (l.take k))) ++ [.int .i64 v.num, .string (str v.key), .int .i64 v.waiter, .int .i64 v.holder]) :: Own 34 4 Al ((left (byNum m) (l.take k)).length) cl (ws (left (byNum m) (l.take k))) :: .blk g [.slice (some ad) n c] 64 :: L) w := s
        replace s := s.at_ (j := 5) rfl
        replace s : St W (.blk g [.slice (some ad) n c] 64 :: Own 34 4 (some ad) n c (ws l) :: .blk g2 [.int .i64 v.num, .string (str v.key), .int .i64 v.waiter, .int .i64 v.holder] 34 :: .blk g1 [.int .i64 v.num, .string (str v.key), .int .i64 v.waiter, .int .i64 v.holder] 34 :: Own 34 4 A3 ((out (byNum m) (l.take k)).length + 1) c4 ((ws (out (byNum m) (l.take k))) ++ [.int .i64 v.num, .string (str v.key), .int .i64 v.waiter, .int .i64 v.holder]) :: Own 34 4 Al ((left (byNum m) (l.take k)).length) cl (ws (left (byNum m) (l.take k))) :: L) w := s
        replace s := s.at_ (j := 5) rfl
        replace s : St W (Own 34 4 Al ((left (byNum m) (l.take k)).length) cl (ws (left (byNum m) (l.take k))) :: .blk g [.slice (some ad) n c] 64 :: Own 34 4 (some ad) n c (ws l) :: .blk g2 [.int .i64 v.num, .string (str v.key), .int .i64 v.waiter, .int .i64 v.holder] 34 :: .blk g1 [.int .i64 v.num, .string (str v.key), .int .i64 v.waiter, .int .i64 v.holder] 34 :: Own 34 4 A3 ((out (byNum m) (l.take k)).length + 1) c4 ((ws (out (byNum m) (l.take k))) ++ [.int .i64 v.num, .string (str v.key), .int .i64 v.waiter, .int .i64 v.holder]) :: L) w := s
        replace s := s.at_ (j := 5) rfl
        replace s : St W (Own 34 4 A3 ((out (byNum m) (l.take k)).length + 1) c4 ((ws (out (byNum m) (l.take k))) ++ [.int .i64 v.num, .string (str v.key), .int .i64 v.waiter, .int .i64 v.holder]) :: Own 34 4 Al ((left (byNum m) (l.take k)).length) cl (ws (left (byNum m) (l.take k))) :: .blk g [.slice (some ad) n c] 64 :: Own 34 4 (some ad) n c (ws l) :: .blk g2 [.int .i64 v.num, .string (str v.key), .int .i64 v.waiter, .int .i64 v.holder] 34 :: .blk g1 [.int .i64 v.num, .string (str v.key), .int .i64 v.waiter, .int .i64 v.holder] 34 :: L) w := s
        replace s : St W (Own 34 4 A3 ((out (byNum m) (l.take k)).length + 1) c4 ((ws (out (byNum m) (l.take k))) ++ [.int .i64 v.num, .string (str v.key), .int .i64 v.waiter, .int .i64 v.holder]) :: Own 34 4 Al ((left (byNum m) (l.take k)).length) cl (ws (left (byNum m) (l.take k))) :: .blk g [.slice (some ad) n c] 64 :: Own 34 4 (some ad) n c (ws l) :: L) w := St.mid (A := [Own 34 4 A3 ((out (byNum m) (l.take k)).length + 1) c4 ((ws (out (byNum m) (l.take k))) ++ [.int .i64 v.num, .string (str v.key), .int .i64 v.waiter, .int .i64 v.holder]), Own 34 4 Al ((left (byNum m) (l.take k)).length) cl (ws (left (byNum m) (l.take k))), .blk g [.slice (some ad) n c] 64, Own 34 4 (some ad) n c (ws l)]) (B := [.blk g2 [.int .i64 v.num, .string (str v.key), .int .i64 v.waiter, .int .i64 v.holder] 34, .blk g1 [.int .i64 v.num, .string (str v.key), .int .i64 v.waiter, .int .i64 v.holder] 34]) s
        have hpv : (byNum m) v = true := by simp_all [byNum, byHolder, byKey]
        have e1 := out_yes (p := (byNum m)) hv hpv
        have e2 := left_snoc_no (p := (byNum m)) hv hpv
        have e3 := congrArg List.length e1
        have e4 := congrArg List.length e2
        rw [List.length_append] at e3
        replace s : St W (Own 34 4 A3 ((out (byNum m) (l.take (k + 1))).length) c4 (ws (out (byNum m) (l.take (k + 1)))) :: Own 34 4 Al ((left (byNum m) (l.take (k + 1))).length) cl (ws (left (byNum m) (l.take (k + 1)))) :: .blk g [.slice (some ad) n c] 64 :: Own 34 4 (some ad) n c (ws l) :: L) w := by rw [e3, e4, e1, e2, ws_append]; exact s
        exact ⟨(k + 1, A3, c4, Al, cl), (show n - (k + 1) < n - k by omega), (Has.cons ha (by kernel_rfl) (by kernel_rfl) (Has.cons ha (by kernel_rfl) (by kernel_rfl) (Has.cons ha (by kernel_rfl) (by kernel_rfl) (Has.cons ha (by kernel_rfl) (by kernel_rfl) (Has.cons ha (by kernel_rfl) (by rw [e3]; rfl) (Has.cons ha (by kernel_rfl) (by rw [e4]; rfl) (Has.cons ha (by kernel_rfl) (by kernel_rfl) (Has.nil ha)))))))), s, (show k + 1 ≤ n by omega)⟩
      · rw [hb] at ha; have hb_ := hb; replace hb := ne_of_beq_false hb
        refine st_val (.int .i64 0) ha (by kernel_rfl) (by kernel_rfl) ?_
        clear ha; intro a ha
        refine st_val (.bool false) ha (by kernel_rfl) (by kernel_rfl) ?_
        clear ha; intro a ha
        refine st_val (.bool false) ha (by kernel_rfl) (by kernel_rfl) ?_
        clear ha; intro a ha
        refine st_pass ha (by kernel_rfl) ?_
        clear ha; intro a ha
        refine st_pass ha (by kernel_rfl) ?_
        clear ha; intro a ha
        refine st_pass ha (by kernel_rfl) ?_
        clear ha; intro a ha
        refine st_pass ha (by kernel_rfl) ?_
        clear ha; intro a ha
        refine st_val (.bool false) ha (by kernel_rfl) (by kernel_rfl) ?_
        clear ha; intro a ha
        refine st_val (.bool false) ha (by kernel_rfl) (by kernel_rfl) ?_
        clear ha; intro a ha
        refine st_pass ha (by kernel_rfl) ?_
        clear ha; intro a ha
        refine st_pass ha (by kernel_rfl) ?_
        clear ha; intro a ha
        refine st_pass ha (by kernel_rfl) ?_
        clear ha; intro a ha
        refine st_pass ha (by kernel_rfl) ?_
        clear ha; intro a ha
        refine st_pass ha (by kernel_rfl) ?_
        clear ha; intro a ha
        refine st_pass ha (by kernel_rfl) ?_
        clear ha; intro a ha
        refine st_pass ha (by kernel_rfl) ?_
        clear ha; intro a ha
        refine st_pass ha (by kernel_rfl) ?_
        clear ha; intro a ha
        refine st_val (.bool false) ha (by kernel_rfl) (by kernel_rfl) ?_
        clear ha; intro a ha
        refine st_val (.bool false) ha (by kernel_rfl) (by kernel_rfl) ?_
        clear ha; intro a ha
        refine wpList_nil ?_
        refine then_normal ?_
        refine wp_false ha rfl (by kernel_rfl) ?_
        refine wp_region_lit ?_
        refine st_val (.slice Al ((left (byNum m) (l.take k)).length) cl) ha (by kernel_rfl) (by kernel_rfl) ?_
        clear ha; intro a ha
        refine st_val (.agg #[.int .i64 v.num, .string (str v.key), .int .i64 v.waiter, .int .i64 v.holder]) ha (by kernel_rfl) (run_loadN (of_ := 0) [.int .i64 v.num, .string (str v.key), .int .i64 v.waiter, .int .i64 v.holder] (s.blkIs 0 rfl) rfl (by kernel_rfl) Try.isAgg34 Try.sizeOf34 rfl (Nat.le_of_ble_eq_true rfl)) ?_
        clear ha; intro a ha
        refine st_ex ha (by kernel_rfl) (ex_buildSlice elt39 _ zs39 [.int .i64 v.num, .string (str v.key), .int .i64 v.waiter, .int .i64 v.holder] s rfl (by kernel_rfl) (by decide)) ?_
        clear ha; rintro _ w a ⟨g5, rfl, s⟩ ha
        replace s : St W (.blk g5 [.int .i64 v.num, .string (str v.key), .int .i64 v.waiter, .int .i64 v.holder] 34 :: .blk g1 [.int .i64 v.num, .string (str v.key), .int .i64 v.waiter, .int .i64 v.holder] 34 :: Own 34 4 Ao ((out (byNum m) (l.take k)).length) co (ws (out (byNum m) (l.take k))) :: Own 34 4 Al ((left (byNum m) (l.take k)).length) cl (ws (left (byNum m) (l.take k))) :: .blk g [.slice (some ad) n c] 64 :: Own 34 4 (some ad) n c (ws l) :: L) w := s
        refine st_ex ha (by kernel_rfl) (ex_append (m := 1) (d' := 1) elt39 (by decide) 3 [.int .i64 v.num, .string (str v.key), .int .i64 v.waiter, .int .i64 v.holder] s rfl (by kernel_rfl) (by kernel_rfl) rfl (reads_blk (s.blkIs 0 rfl) rfl) (by simp [Value.oneCell']) (by simp only [maxLen]; omega) (by omega)) ?_
        clear ha; rintro _ w a ⟨A6, c7, rfl, hA_, s⟩ ha
        replace s : St W (.blk g5 [.int .i64 v.num, .string (str v.key), .int .i64 v.waiter, .int .i64 v.holder] 34 :: .blk g1 [.int .i64 v.num, .string (str v.key), .int .i64 v.waiter, .int .i64 v.holder] 34 :: Own 34 4 Ao ((out (byNum m) (l.take k)).length) co (ws (out (byNum m) (l.take k))) :: Own 34 4 A6 ((left (byNum m) (l.take k)).length + 1) c7 ((ws (left (byNum m) (l.take k))) ++ [.int .i64 v.num, .string (str v.key), .int .i64 v.waiter, .int .i64 v.holder]) :: .blk g [.slice (some ad) n c] 64 :: Own 34 4 (some ad) n c (ws l) :: L) w := s
        refine st_val (.slice A6 ((left (byNum m) (l.take k)).length + 1) c7) ha (by kernel_rfl) (by kernel_rfl) ?_
        clear ha; intro a ha
        refine wpList_nil ?_
        refine block_normal ?_
        refine then_normal ?_
        refine wp_region_lit ?_
        refine st_val (.int .i64 ((k : Nat) : Int)) ha (by kernel_rfl) (by kernel_rfl) ?_
        clear ha; intro a ha
        refine st_val (.int .i64 ((k + 1 : Nat) : Int)) ha (by kernel_rfl) (run_arith (((k : Nat) : Int) + (1 : Int)) ((k + 1 : Nat) : Int) rfl (by kernel_rfl) (by kernel_rfl) (.inl ⟨rfl, rfl⟩) (by rw [wrap64_in (by omega)]; try omega) _) ?_
        clear ha; intro a ha
        refine st_val (.int .i64 ((k + 1 : Nat) : Int)) ha (by kernel_rfl) (by kernel_rfl) ?_
        clear ha; intro a ha
        refine wpList_nil ?_
        refine then_normal ?_
        replace s := s.at_ (j := 5) rfl
        replace s : St W (Own 34 4 (some ad) n c (ws l) :: .blk g5 [.int .i64 v.num, .string (str v.key), .int .i64 v.waiter, .int .i64 v.holder] 34 :: .blk g1 [.int .i64 v.num, .string (str v.key), .int .i64 v.waiter, .int .i64 v.holder] 34 :: Own 34 4 Ao ((out (byNum m) (l.take k)).length) co (ws (out (byNum m) (l.take k))) :: Own 34 4 A6 ((left (byNum m) (l.take k)).length + 1) c7 ((ws (left (byNum m) (l.take k))) ++ [.int .i64 v.num, .string (str v.key), .int .i64 v.waiter, .int .i64 v.holder]) :: .blk g [.slice (some ad) n c] 64 :: L) w := s
        replace s := s.at_ (j := 5) rfl
        replace s : St W (.blk g [.slice (some ad) n c] 64 :: Own 34 4 (some ad) n c (ws l) :: .blk g5 [.int .i64 v.num, .string (str v.key), .int .i64 v.waiter, .int .i64 v.holder] 34 :: .blk g1 [.int .i64 v.num, .string (str v.key), .int .i64 v.waiter, .int .i64 v.holder] 34 :: Own 34 4 Ao ((out (byNum m) (l.take k)).length) co (ws (out (byNum m) (l.take k))) :: Own 34 4 A6 ((left (byNum m) (l.take k)).length + 1) c7 ((ws (left (byNum m) (l.take k))) ++ [.int .i64 v.num, .string (str v.key), .int .i64 v.waiter, .int .i64 v.holder]) :: L) w := s
        replace s := s.at_ (j := 5) rfl
        replace s : St W (Own 34 4 A6 ((left (byNum m) (l.take k)).length + 1) c7 ((ws (left (byNum m) (l.take k))) ++ [.int .i64 v.num, .string (str v.key), .int .i64 v.waiter, .int .i64 v.holder]) :: .blk g [.slice (some ad) n c] 64 :: Own 34 4 (some ad) n c (ws l) :: .blk g5 [.int .i64 v.num, .string (str v.key), .int .i64 v.waiter, .int .i64 v.holder] 34 :: .blk g1 [.int .i64 v.num, .string (str v.key), .int .i64 v.waiter, .int .i64 v.holder] 34 :: Own 34 4 Ao ((out (byNum m) (l.take k)).length) co (ws (out (byNum m) (l.take k))) :: L) w := s
        replace s := s.at_ (j := 5) rfl
        replace s : St W (Own 34 4 Ao ((out (byNum m) (l.take k)).length) co (ws (out (byNum m) (l.take k))) :: Own 34 4 A6 ((left (byNum m) (l.take k)).length + 1) c7 ((ws (left (byNum m) (l.take k))) ++ [.int .i64 v.num, .string (str v.key), .int .i64 v.waiter, .int .i64 v.holder]) :: .blk g [.slice (some ad) n c] 64 :: Own 34 4 (some ad) n c (ws l) :: .blk g5 [.int .i64 v.num, .string (str v.key), .int .i64 v.waiter, .int .i64 v.holder] 34 :: .blk g1 [.int .i64 v.num, .string (str v.key), .int .i64 v.waiter, .int .i64 v.holder] 34 :: L) w := s
        replace s : St W (Own 34 4 Ao ((out (byNum m) (l.take k)).length) co (ws (out (byNum m) (l.take k))) :: Own 34 4 A6 ((left (byNum m) (l.take k)).length + 1) c7 ((ws (left (byNum m) (l.take k))) ++ [.int .i64 v.num, .string (str v.key), .int .i64 v.waiter, .int .i64 v.holder]) :: .blk g [.slice (some ad) n c] 64 :: Own 34 4 (some ad) n c (ws l) :: L) w := St.mid (A := [Own 34 4 Ao ((out (byNum m) (l.take k)).length) co (ws (out (byNum m) (l.take k))), Own 34 4 A6 ((left (byNum m) (l.take k)).length + 1) c7 ((ws (left (byNum m) (l.take k))) ++ [.int .i64 v.num, .string (str v.key), .int .i64 v.waiter, .int .i64 v.holder]), .blk g [.slice (some ad) n c] 64, Own 34 4 (some ad) n c (ws l)]) (B := [.blk g5 [.int .i64 v.num, .string (str v.key), .int .i64 v.waiter, .int .i64 v.holder] 34, .blk g1 [.int .i64 v.num, .string (str v.key), .int .i64 v.waiter, .int .i64 v.holder] 34]) s
        have hpv : (byNum m) v = false := by simp_all [byNum, byHolder, byKey]
        have e1 := out_no (p := (byNum m)) hv hpv
        have e2 := left_snoc_yes (p := (byNum m)) hv hpv
        have e3 := congrArg List.length e1
        have e4 := congrArg List.length e2
        rw [List.length_append] at e4
        replace s : St W (Own 34 4 Ao ((out (byNum m) (l.take (k + 1))).length) co (ws (out (byNum m) (l.take (k + 1)))) :: Own 34 4 A6 ((left (byNum m) (l.take (k + 1))).length) c7 (ws (left (byNum m) (l.take (k + 1)))) :: .blk g [.slice (some ad) n c] 64 :: Own 34 4 (some ad) n c (ws l) :: L) w := by rw [e3, e4, e1, e2, ws_append]; exact s
        exact ⟨(k + 1, Ao, co, A6, c7), (show n - (k + 1) < n - k by omega), (Has.cons ha (by kernel_rfl) (by kernel_rfl) (Has.cons ha (by kernel_rfl) (by kernel_rfl) (Has.cons ha (by kernel_rfl) (by kernel_rfl) (Has.cons ha (by kernel_rfl) (by kernel_rfl) (Has.cons ha (by kernel_rfl) (by rw [e3]; rfl) (Has.cons ha (by kernel_rfl) (by rw [e4]; rfl) (Has.cons ha (by kernel_rfl) (by kernel_rfl) (Has.nil ha)))))))), s, (show k + 1 ≤ n by omega)⟩
    · rw [hb] at ha; replace hb : ¬ (((k : Nat) : Int) < ((n : Nat) : Int)) := of_decide_eq_false hb
      have hk : k = n := by omega
      rw [hk, List.take_of_length_le (by omega)] at s ha
      replace s : St W (Own 34 4 Ao ((out (byNum m) l).length) co (ws (out (byNum m) l)) :: Own 34 4 Al ((left (byNum m) l).length) cl (ws (left (byNum m) l)) :: .blk g [.slice A n c] 64 :: Own 34 4 A n c (ws l) :: L) w := s
      refine wp_exit ?_
      refine then_exit ?_
      refine then_exit ?_
      refine block_hit ?_
      refine then_normal ?_
      refine wp_seq ?_
      refine wp_region_lit ?_
      refine st_val (.pointer (some ⟨g, 0, none⟩)) ha (by kernel_rfl) (by kernel_rfl) ?_
      clear ha; intro a ha
      refine st_val (.slice Al ((left (byNum m) l).length) cl) ha (by kernel_rfl) (by kernel_rfl) ?_
      clear ha; intro a ha
      refine st_val (.pointer (some ⟨g, 0, none⟩)) ha (by kernel_rfl) (by kernel_rfl) ?_
      clear ha; intro a ha
      refine st_val (.pointer (some ⟨g, 0, none⟩)) ha (by kernel_rfl) (by kernel_rfl) ?_
      clear ha; intro a ha
      refine st_exd ha (by kernel_rfl) (ex_store (of_ := 0) 2 [.slice Al ((left (byNum m) l).length) cl] s rfl rfl (by kernel_rfl) (by kernel_rfl) (Try.sizeOf39 _) rfl (by simp [Value.oneCell']) (Nat.le_of_ble_eq_true rfl)) ?_
      clear ha; rintro w a s ha
      replace s : St W (Own 34 4 Ao ((out (byNum m) l).length) co (ws (out (byNum m) l)) :: Own 34 4 Al ((left (byNum m) l).length) cl (ws (left (byNum m) l)) :: .blk g [.slice Al ((left (byNum m) l).length) cl] 64 :: Own 34 4 A n c (ws l) :: L) w := s
      refine wpList_nil ?_
      refine then_normal ?_
      refine wp_seq ?_
      refine wp_region_lit ?_
      refine st_val (.slice Ao ((out (byNum m) l).length) co) ha (by kernel_rfl) (by kernel_rfl) ?_
      clear ha; intro a ha
      refine st_val (.slice Ao ((out (byNum m) l).length) co) ha (by kernel_rfl) (by kernel_rfl) ?_
      clear ha; intro a ha
      refine wpList_nil ?_
      refine then_normal ?_
      refine wp_ret ?_
      refine ret_with (v := .slice Ao ((out (byNum m) l).length) co) ha (results_1 rfl ha (res_tmp (by kernel_rfl) (by kernel_rfl))) ?_
      replace s := s.at_ (j := 1) rfl
      replace s : St W (Own 34 4 Al ((left (byNum m) l).length) cl (ws (left (byNum m) l)) :: Own 34 4 Ao ((out (byNum m) l).length) co (ws (out (byNum m) l)) :: .blk g [.slice Al ((left (byNum m) l).length) cl] 64 :: Own 34 4 A n c (ws l) :: L) w := s
      replace s := s.at_ (j := 2) rfl
      replace s : St W (.blk g [.slice Al ((left (byNum m) l).length) cl] 64 :: Own 34 4 Al ((left (byNum m) l).length) cl (ws (left (byNum m) l)) :: Own 34 4 Ao ((out (byNum m) l).length) co (ws (out (byNum m) l)) :: Own 34 4 A n c (ws l) :: L) w := s
      replace s := s.at_ (j := 2) rfl
      replace s : St W (Own 34 4 Ao ((out (byNum m) l).length) co (ws (out (byNum m) l)) :: .blk g [.slice Al ((left (byNum m) l).length) cl] 64 :: Own 34 4 Al ((left (byNum m) l).length) cl (ws (left (byNum m) l)) :: Own 34 4 A n c (ws l) :: L) w := s
      replace s : St W (Own 34 4 Ao ((out (byNum m) l).length) co (ws (out (byNum m) l)) :: .blk g [.slice Al ((left (byNum m) l).length) cl] 64 :: Own 34 4 Al ((left (byNum m) l).length) cl (ws (left (byNum m) l)) :: L) w := St.mid (A := [Own 34 4 Ao ((out (byNum m) l).length) co (ws (out (byNum m) l)), .blk g [.slice Al ((left (byNum m) l).length) cl] 64, Own 34 4 Al ((left (byNum m) l).length) cl (ws (left (byNum m) l))]) (B := [Own 34 4 A n c (ws l)]) s
      exact ⟨_, _, _, _, rfl, s⟩

theorem roff_holder (W : World) (L : List Chunk) (w : World) (g : Nat) (A : Option Addr) (n c : Nat) (l : List Wt) (hl : l.length = n) (hn : n ≤ 100) (m : Int) (s : St W (.blk g [.slice A n c] 64 :: Own 34 4 A n c (ws l) :: L) w) :
    Calls Try.prog 30 #[.pointer (some ⟨g, 0, none⟩), .int .i64 1, .int .i64 m, .string (str [])] w fun e w' => ∃ A' c' A1 c1, e = .returned (.slice A' (out (byHolder m) l).length c') ∧ St W (Own 34 4 A' (out (byHolder m) l).length c' (ws (out (byHolder m) l)) :: .blk g [.slice A1 (left (byHolder m) l).length c1] 64 :: Own 34 4 A1 (left (byHolder m) l).length c1 (ws (left (byHolder m) l)) :: L) w' := by
  refine enter_args (l := [.pointer (some ⟨g, 0, none⟩), .int .i64 1, .int .i64 m, .string (str [])]) Try.func30 rfl rfl (Nat.le_of_ble_eq_true rfl) ?_
  intro a ha; replace ha : Has a 70 [(0, .pointer (some ⟨g, 0, none⟩)), (1, .int .i64 1), (2, .int .i64 m), (3, .string (str []))] := ha
  refine wp_seq ?_
  refine wp_region_lit ?_
  refine st_val (.slice none 0 0) ha (by kernel_rfl) (by kernel_rfl) ?_
  clear ha; intro a ha
  refine wpList_nil ?_
  refine then_normal ?_
  refine wp_seq ?_
  refine wp_region_lit ?_
  refine st_val (.slice none 0 0) ha (by kernel_rfl) (by kernel_rfl) ?_
  clear ha; intro a ha
  refine st_val (.slice none 0 0) ha (by kernel_rfl) (by kernel_rfl) ?_
  clear ha; intro a ha
  refine wpList_nil ?_
  refine then_normal ?_
  refine wp_seq ?_
  refine wp_seq ?_
  refine wp_region_lit ?_
  refine st_val (.int .i64 0) ha (by kernel_rfl) (by kernel_rfl) ?_
  clear ha; intro a ha
  refine wpList_nil ?_
  refine then_normal ?_
  refine wp_block ?_
  replace s := Own.none_ (e := 34) (k := 4) none (Own.none_ (e := 34) (k := 4) none s)
  refine wp_loopG (G := (Nat × Option Addr × Nat × Option Addr × Nat)) (fun ⟨k, Ao, co, Al, cl⟩ a w => Has a 70 [(0, .pointer (some ⟨g, 0, none⟩)), (1, .int .i64 1), (2, .int .i64 m), (3, .string (str [])), (9, .slice Ao ((out (byHolder m) (l.take k)).length) co), (10, .slice Al ((left (byHolder m) (l.take k)).length) cl), (11, .int .i64 ((k : Nat) : Int))] ∧ St W (Own 34 4 Ao ((out (byHolder m) (l.take k)).length) co (ws (out (byHolder m) (l.take k))) :: Own 34 4 Al ((left (byHolder m) (l.take k)).length) cl (ws (left (byHolder m) (l.take k))) :: .blk g [.slice A n c] 64 :: Own 34 4 A n c (ws l) :: L) w ∧ (k ≤ n)) (fun ⟨k, Ao, co, Al, cl⟩ => n - k) (0, none, 0, none, 0) ?_ ?_
  · exact ⟨(Has.cons ha (by kernel_rfl) (by kernel_rfl) (Has.cons ha (by kernel_rfl) (by kernel_rfl) (Has.cons ha (by kernel_rfl) (by kernel_rfl) (Has.cons ha (by kernel_rfl) (by kernel_rfl) (Has.cons ha (by kernel_rfl) (by kernel_rfl) (Has.cons ha (by kernel_rfl) (by kernel_rfl) (Has.cons ha (by kernel_rfl) (by kernel_rfl) (Has.nil ha)))))))), s, Nat.zero_le _⟩
  · clear ha s; rintro ⟨k, Ao, co, Al, cl⟩ a w ⟨ha, s, hp⟩
    refine wp_seq ?_
    refine wp_seq ?_
    refine wp_region_lit ?_
    refine st_val (.int .i64 ((k : Nat) : Int)) ha (by kernel_rfl) (by kernel_rfl) ?_
    clear ha; intro a ha
    refine st_val (.pointer (some ⟨g, 0, none⟩)) ha (by kernel_rfl) (by kernel_rfl) ?_
    clear ha; intro a ha
    refine st_val (.pointer (some ⟨g, 0, none⟩)) ha (by kernel_rfl) (by kernel_rfl) ?_
    clear ha; intro a ha
    refine st_val (.pointer (some ⟨g, 0, none⟩)) ha (by kernel_rfl) (by kernel_rfl) ?_
    clear ha; intro a ha
    refine st_val (.slice A n c) ha (by kernel_rfl) (run_load1 (of_ := 0) (s.blkIs 2 rfl) rfl (by kernel_rfl) Try.isAgg39 rfl) ?_
    clear ha; intro a ha
    refine st_val (.int .i64 ((n : Nat) : Int)) ha (by kernel_rfl) (by kernel_rfl) ?_
    clear ha; intro a ha
    refine st_val (.bool (decide (((k : Nat) : Int) < ((n : Nat) : Int)))) ha (by kernel_rfl) (by kernel_rfl) ?_
    clear ha; intro a ha
    refine wpList_nil ?_
    refine then_normal ?_
    refine wp_part (decide (((k : Nat) : Int) < ((n : Nat) : Int))) ha rfl (by kernel_rfl) (fun hb => ?_) (fun hb => ?_)
    · rw [hb] at ha; replace hb : (((k : Nat) : Int) < ((n : Nat) : Int)) := of_decide_eq_true hb
      obtain ⟨v, hv⟩ : ∃ v, l[k]? = some v := ⟨_, List.getElem?_eq_getElem (by omega)⟩
      obtain ⟨ad, hA⟩ := Own.addr (s.at_ (j := 3) rfl) (by omega)
      subst hA
      have ho : (out (byHolder m) (l.take k)).length ≤ 100 := by have := out_le (byHolder m) (l.take k); rw [List.length_take] at this; omega
      have hle : (left (byHolder m) (l.take k)).length ≤ 100 := by have := left_le (byHolder m) (l.take k); rw [List.length_take] at this; omega
      refine wp_skip ?_
      refine then_normal ?_
      refine wp_seq ?_
      refine wp_block ?_
      refine wp_seq ?_
      refine wp_region_lit ?_
      refine st_val (.pointer (some ⟨g, 0, none⟩)) ha (by kernel_rfl) (by kernel_rfl) ?_
      clear ha; intro a ha
      refine st_val (.pointer (some ⟨g, 0, none⟩)) ha (by kernel_rfl) (by kernel_rfl) ?_
      clear ha; intro a ha
      refine st_val (.pointer (some ⟨g, 0, none⟩)) ha (by kernel_rfl) (by kernel_rfl) ?_
      clear ha; intro a ha
      refine st_val (.slice (some ad) n c) ha (by kernel_rfl) (run_load1 (of_ := 0) (s.blkIs 2 rfl) rfl (by kernel_rfl) Try.isAgg39 rfl) ?_
      clear ha; intro a ha
      refine st_val (.int .i64 ((k : Nat) : Int)) ha (by kernel_rfl) (by kernel_rfl) ?_
      clear ha; intro a ha
      refine st_val (.pointer (some (ad.add (k * 4)))) ha (by kernel_rfl) (run_indexAddr' (kd := .i64) (i := ((k : Nat) : Int)) (n := n) (c := c) k rfl Try.underlying39 Try.sizeOf34 (by kernel_rfl) (by kernel_rfl) rfl (by first | assumption | omega) _) ?_
      clear ha; intro a ha
      refine st_val (.agg #[.int .i64 v.num, .string (str v.key), .int .i64 v.waiter, .int .i64 v.holder]) ha (by kernel_rfl) (run_loadAtN (i := k * 4) [.int .i64 v.num, .string (str v.key), .int .i64 v.waiter, .int .i64 v.holder] ((Own.reads (s.at_ (j := 3) rfl).1)) rfl (by kernel_rfl) Try.isAgg34 Try.sizeOf34 (fun q_ hq_ => ws_at hv hq_) rfl) ?_
      clear ha; intro a ha
      refine st_ex ha (by kernel_rfl) (ex_alloc [.int .i64 0, .string (str []), .int .i64 0, .int .i64 0] s rfl (Try.zeroValue34 _) (by kernel_rfl)) ?_
      clear ha; rintro _ w a ⟨g1, rfl, s⟩ ha
      replace s : St W (.blk g1 [.int .i64 0, .string (str []), .int .i64 0, .int .i64 0] 34 :: Own 34 4 Ao ((out (byHolder m) (l.take k)).length) co (ws (out (byHolder m) (l.take k))) :: Own 34 4 Al ((left (byHolder m) (l.take k)).length) cl (ws (left (byHolder m) (l.take k))) :: .blk g [.slice (some ad) n c] 64 :: Own 34 4 (some ad) n c (ws l) :: L) w := s
      refine st_exd ha (by kernel_rfl) (ex_store (of_ := 0) 0 [.int .i64 v.num, .string (str v.key), .int .i64 v.waiter, .int .i64 v.holder] s rfl rfl (by kernel_rfl) (by kernel_rfl) (Try.sizeOf34 _) rfl (by simp [Value.oneCell']) (Nat.le_of_ble_eq_true rfl)) ?_
      clear ha; rintro w a s ha
      replace s : St W (.blk g1 [.int .i64 v.num, .string (str v.key), .int .i64 v.waiter, .int .i64 v.holder] 34 :: Own 34 4 Ao ((out (byHolder m) (l.take k)).length) co (ws (out (byHolder m) (l.take k))) :: Own 34 4 Al ((left (byHolder m) (l.take k)).length) cl (ws (left (byHolder m) (l.take k))) :: .blk g [.slice (some ad) n c] 64 :: Own 34 4 (some ad) n c (ws l) :: L) w := s
      refine wpList_nil ?_
      refine then_normal ?_
      refine wp_seq ?_
      refine wp_region_lit ?_
      refine st_val (.int .i64 1) ha (by kernel_rfl) (by kernel_rfl) ?_
      clear ha; intro a ha
      refine st_val (.bool false) ha (by kernel_rfl) (by kernel_rfl) ?_
      clear ha; intro a ha
      refine st_val (.bool false) ha (by kernel_rfl) (by kernel_rfl) ?_
      clear ha; intro a ha
      refine st_pass ha (by kernel_rfl) ?_
      clear ha; intro a ha
      refine st_pass ha (by kernel_rfl) ?_
      clear ha; intro a ha
      refine st_pass ha (by kernel_rfl) ?_
      clear ha; intro a ha
      refine st_pass ha (by kernel_rfl) ?_
      clear ha; intro a ha
      refine st_val (.bool false) ha (by kernel_rfl) (by kernel_rfl) ?_
      clear ha; intro a ha
      refine st_val (.bool false) ha (by kernel_rfl) (by kernel_rfl) ?_
      clear ha; intro a ha
      refine st_val (.int .i64 1) ha (by kernel_rfl) (by kernel_rfl) ?_
      clear ha; intro a ha
      refine st_val (.bool true) ha (by kernel_rfl) (by kernel_rfl) ?_
      clear ha; intro a ha
      refine st_val (.bool true) ha (by kernel_rfl) (by kernel_rfl) ?_
      clear ha; intro a ha
      refine st_val (.pointer (some ⟨g1, 3, none⟩)) ha (by kernel_rfl) (by kernel_rfl) ?_
      clear ha; intro a ha
      refine st_val (.int .i64 v.holder) ha (by kernel_rfl) (run_load1 (of_ := 3) (s.blkIs 0 rfl) rfl (by kernel_rfl) Try.isAgg3 rfl) ?_
      clear ha; intro a ha
      refine st_val (.int .i64 m) ha (by kernel_rfl) (by kernel_rfl) ?_
      clear ha; intro a ha
      refine st_val (.bool (v.holder == m)) ha (by kernel_rfl) (by kernel_rfl) ?_
      clear ha; intro a ha
      refine st_val (.bool (v.holder == m)) ha (by kernel_rfl) (by kernel_rfl) ?_
      clear ha; intro a ha
      refine st_val (.bool (v.holder == m)) ha (by kernel_rfl) (by kernel_rfl) ?_
      clear ha; intro a ha
      rcases Bool.eq_false_or_eq_true (v.holder == m) with hb | hb
      · rw [hb] at ha; have hb_ := hb; replace hb := eq_of_beq hb
        refine st_val (.int .i64 1) ha (by kernel_rfl) (by kernel_rfl) ?_
        clear ha; intro a ha
        refine st_val (.bool true) ha (by kernel_rfl) (by kernel_rfl) ?_
        clear ha; intro a ha
        refine st_val (.bool true) ha (by kernel_rfl) (by kernel_rfl) ?_
        clear ha; intro a ha
        refine st_pass ha (by kernel_rfl) ?_
        clear ha; intro a ha
        refine st_pass ha (by kernel_rfl) ?_
        clear ha; intro a ha
        refine st_pass ha (by kernel_rfl) ?_
        clear ha; intro a ha
        refine st_pass ha (by kernel_rfl) ?_
        clear ha; intro a ha
        refine st_val (.bool true) ha (by kernel_rfl) (by kernel_rfl) ?_
        clear ha; intro a ha
        refine st_val (.bool true) ha (by kernel_rfl) (by kernel_rfl) ?_
        clear ha; intro a ha
        refine st_val (.bool true) ha (by kernel_rfl) (by kernel_rfl) ?_
        clear ha; intro a ha
        refine wpList_nil ?_
        refine then_normal ?_
        refine wp_true ha rfl (by kernel_rfl) ?_
        refine wp_region_lit ?_
        refine st_val (.slice Ao ((out (byHolder m) (l.take k)).length) co) ha (by kernel_rfl) (by kernel_rfl) ?_
        clear ha; intro a ha
        refine st_val (.agg #[.int .i64 v.num, .string (str v.key), .int .i64 v.waiter, .int .i64 v.holder]) ha (by kernel_rfl) (run_loadN (of_ := 0) [.int .i64 v.num, .string (str v.key), .int .i64 v.waiter, .int .i64 v.holder] (s.blkIs 0 rfl) rfl (by kernel_rfl) Try.isAgg34 Try.sizeOf34 rfl (Nat.le_of_ble_eq_true rfl)) ?_
        clear ha; intro a ha
        refine st_ex ha (by kernel_rfl) (ex_buildSlice elt39 _ zs39 [.int .i64 v.num, .string (str v.key), .int .i64 v.waiter, .int .i64 v.holder] s rfl (by kernel_rfl) (by decide)) ?_
        clear ha; rintro _ w a ⟨g2, rfl, s⟩ ha
        replace s : St W (.blk g2 [.int .i64 v.num, .string (str v.key), .int .i64 v.waiter, .int .i64 v.holder] 34 :: .blk g1 [.int .i64 v.num, .string (str v.key), .int .i64 v.waiter, .int .i64 v.holder] 34 :: Own 34 4 Ao ((out (byHolder m) (l.take k)).length) co (ws (out (byHolder m) (l.take k))) :: Own 34 4 Al ((left (byHolder m) (l.take k)).length) cl (ws (left (byHolder m) (l.take k))) :: .blk g [.slice (some ad) n c] 64 :: Own 34 4 (some ad) n c (ws l) :: L) w := s
        refine st_ex ha (by kernel_rfl) (ex_append (m := 1) (d' := 1) elt39 (by decide) 2 [.int .i64 v.num, .string (str v.key), .int .i64 v.waiter, .int .i64 v.holder] s rfl (by kernel_rfl) (by kernel_rfl) rfl (reads_blk (s.blkIs 0 rfl) rfl) (by simp [Value.oneCell']) (by simp only [maxLen]; omega) (by omega)) ?_
        clear ha; rintro _ w a ⟨A3, c4, rfl, hA_, s⟩ ha
        replace s : St W (.blk g2 [.int .i64 v.num, .string (str v.key), .int .i64 v.waiter, .int .i64 v.holder] 34 :: .blk g1 [.int .i64 v.num, .string (str v.key), .int .i64 v.waiter, .int .i64 v.holder] 34 :: Own 34 4 A3 ((out (byHolder m) (l.take k)).length + 1) c4 ((ws (out (byHolder m) (l.take k))) ++ [.int .i64 v.num, .string (str v.key), .int .i64 v.waiter, .int .i64 v.holder]) :: Own 34 4 Al ((left (byHolder m) (l.take k)).length) cl (ws (left (byHolder m) (l.take k))) :: .blk g [.slice (some ad) n c] 64 :: Own 34 4 (some ad) n c (ws l) :: L) w := s
        refine st_val (.slice A3 ((out (byHolder m) (l.take k)).length + 1) c4) ha (by kernel_rfl) (by kernel_rfl) ?_
        clear ha; intro a ha
        refine wpList_nil ?_
        refine block_normal ?_
        refine then_normal ?_
        refine wp_region_lit ?_
        refine st_val (.int .i64 ((k : Nat) : Int)) ha (by kernel_rfl) (by kernel_rfl) ?_
        clear ha; intro a ha
        refine st_val (.int .i64 ((k + 1 : Nat) : Int)) ha (by kernel_rfl) (run_arith (((k : Nat) : Int) + (1 : Int)) ((k + 1 : Nat) : Int) rfl (by kernel_rfl) (by kernel_rfl) (.inl ⟨rfl, rfl⟩) (by rw [wrap64_in (by omega)]; try omega) _) ?_
        clear ha; intro a ha
        refine st_val (.int .i64 ((k + 1 : Nat) : Int)) ha (by kernel_rfl) (by kernel_rfl) ?_
        clear ha; intro a ha
        refine wpList_nil ?_
        refine then_normal ?_
        replace s := s.at_ (j := 5) rfl
        replace s : St W (Own 34 4 (some ad) n c (ws l) :: .blk g2 [.int .i64 v.num, .string (str v.key), .int .i64 v.waiter, .int .i64 v.holder] 34 :: .blk g1 [.int .i64 v.num, .string (str v.key), .int .i64 v.waiter, .int .i64 v.holder] 34 :: Own 34 4 A3 ((out (byHolder m) (l.take k)).length + 1) c4 ((ws (out (byHolder m) (l.take k))) ++ [.int .i64 v.num, .string (str v.key), .int .i64 v.waiter, .int .i64 v.holder]) :: Own 34 4 Al ((left (byHolder m) (l.take k)).length) cl (ws (left (byHolder m) (l.take k))) :: .blk g [.slice (some ad) n c] 64 :: L) w := s
        replace s := s.at_ (j := 5) rfl
        replace s : St W (.blk g [.slice (some ad) n c] 64 :: Own 34 4 (some ad) n c (ws l) :: .blk g2 [.int .i64 v.num, .string (str v.key), .int .i64 v.waiter, .int .i64 v.holder] 34 :: .blk g1 [.int .i64 v.num, .string (str v.key), .int .i64 v.waiter, .int .i64 v.holder] 34 :: Own 34 4 A3 ((out (byHolder m) (l.take k)).length + 1) c4 ((ws (out (byHolder m) (l.take k))) ++ [.int .i64 v.num, .string (str v.key), .int .i64 v.waiter, .int .i64 v.holder]) :: Own 34 4 Al ((left (byHolder m) (l.take k)).length) cl (ws (left (byHolder m) (l.take k))) :: L) w := s
        replace s := s.at_ (j := 5) rfl
        replace s : St W (Own 34 4 Al ((left (byHolder m) (l.take k)).length) cl (ws (left (byHolder m) (l.take k))) :: .blk g [.slice (some ad) n c] 64 :: Own 34 4 (some ad) n c (ws l) :: .blk g2 [.int .i64 v.num, .string (str v.key), .int .i64 v.waiter, .int .i64 v.holder] 34 :: .blk g1 [.int .i64 v.num, .string (str v.key), .int .i64 v.waiter, .int .i64 v.holder] 34 :: Own 34 4 A3 ((out (byHolder m) (l.take k)).length + 1) c4 ((ws (out (byHolder m) (l.take k))) ++ [.int .i64 v.num, .string (str v.key), .int .i64 v.waiter, .int .i64 v.holder]) :: L) w := s
        replace s := s.at_ (j := 5) rfl
        replace s : St W (Own 34 4 A3 ((out (byHolder m) (l.take k)).length + 1) c4 ((ws (out (byHolder m) (l.take k))) ++ [.int .i64 v.num, .string (str v.key), .int .i64 v.waiter, .int .i64 v.holder]) :: Own 34 4 Al ((left (byHolder m) (l.take k)).length) cl (ws (left (byHolder m) (l.take k))) :: .blk g [.slice (some ad) n c] 64 :: Own 34 4 (some ad) n c (ws l) :: .blk g2 [.int .i64 v.num, .string (str v.key), .int .i64 v.waiter, .int .i64 v.holder] 34 :: .blk g1 [.int .i64 v.num, .string (str v.key), .int .i64 v.waiter, .int .i64 v.holder] 34 :: L) w := s
        replace s : St W (Own 34 4 A3 ((out (byHolder m) (l.take k)).length + 1) c4 ((ws (out (byHolder m) (l.take k))) ++ [.int .i64 v.num, .string (str v.key), .int .i64 v.waiter, .int .i64 v.holder]) :: Own 34 4 Al ((left (byHolder m) (l.take k)).length) cl (ws (left (byHolder m) (l.take k))) :: .blk g [.slice (some ad) n c] 64 :: Own 34 4 (some ad) n c (ws l) :: L) w := St.mid (A := [Own 34 4 A3 ((out (byHolder m) (l.take k)).length + 1) c4 ((ws (out (byHolder m) (l.take k))) ++ [.int .i64 v.num, .string (str v.key), .int .i64 v.waiter, .int .i64 v.holder]), Own 34 4 Al ((left (byHolder m) (l.take k)).length) cl (ws (left (byHolder m) (l.take k))), .blk g [.slice (some ad) n c] 64, Own 34 4 (some ad) n c (ws l)]) (B := [.blk g2 [.int .i64 v.num, .string (str v.key), .int .i64 v.waiter, .int .i64 v.holder] 34, .blk g1 [.int .i64 v.num, .string (str v.key), .int .i64 v.waiter, .int .i64 v.holder] 34]) s
        have hpv : (byHolder m) v = true := by simp_all [byNum, byHolder, byKey]
        have e1 := out_yes (p := (byHolder m)) hv hpv
        have e2 := left_snoc_no (p := (byHolder m)) hv hpv
        have e3 := congrArg List.length e1
        have e4 := congrArg List.length e2
        rw [List.length_append] at e3
        replace s : St W (Own 34 4 A3 ((out (byHolder m) (l.take (k + 1))).length) c4 (ws (out (byHolder m) (l.take (k + 1)))) :: Own 34 4 Al ((left (byHolder m) (l.take (k + 1))).length) cl (ws (left (byHolder m) (l.take (k + 1)))) :: .blk g [.slice (some ad) n c] 64 :: Own 34 4 (some ad) n c (ws l) :: L) w := by rw [e3, e4, e1, e2, ws_append]; exact s
        exact ⟨(k + 1, A3, c4, Al, cl), (show n - (k + 1) < n - k by omega), (Has.cons ha (by kernel_rfl) (by kernel_rfl) (Has.cons ha (by kernel_rfl) (by kernel_rfl) (Has.cons ha (by kernel_rfl) (by kernel_rfl) (Has.cons ha (by kernel_rfl) (by kernel_rfl) (Has.cons ha (by kernel_rfl) (by rw [e3]; rfl) (Has.cons ha (by kernel_rfl) (by rw [e4]; rfl) (Has.cons ha (by kernel_rfl) (by kernel_rfl) (Has.nil ha)))))))), s, (show k + 1 ≤ n by omega)⟩
      · rw [hb] at ha; have hb_ := hb; replace hb := ne_of_beq_false hb
        refine st_pass ha (by kernel_rfl) ?_
        clear ha; intro a ha
        refine st_pass ha (by kernel_rfl) ?_
        clear ha; intro a ha
        refine st_pass ha (by kernel_rfl) ?_
        clear ha; intro a ha
        refine st_pass ha (by kernel_rfl) ?_
        clear ha; intro a ha
        refine st_pass ha (by kernel_rfl) ?_
        clear ha; intro a ha
        refine st_pass ha (by kernel_rfl) ?_
        clear ha; intro a ha
        refine st_pass ha (by kernel_rfl) ?_
        clear ha; intro a ha
        refine st_pass ha (by kernel_rfl) ?_
        clear ha; intro a ha
        refine st_val (.bool false) ha (by kernel_rfl) (by kernel_rfl) ?_
        clear ha; intro a ha
        refine st_val (.bool false) ha (by kernel_rfl) (by kernel_rfl) ?_
        clear ha; intro a ha
        refine wpList_nil ?_
        refine then_normal ?_
        refine wp_false ha rfl (by kernel_rfl) ?_
        refine wp_region_lit ?_
        refine st_val (.slice Al ((left (byHolder m) (l.take k)).length) cl) ha (by kernel_rfl) (by kernel_rfl) ?_
        clear ha; intro a ha
        refine st_val (.agg #[.int .i64 v.num, .string (str v.key), .int .i64 v.waiter, .int .i64 v.holder]) ha (by kernel_rfl) (run_loadN (of_ := 0) [.int .i64 v.num, .string (str v.key), .int .i64 v.waiter, .int .i64 v.holder] (s.blkIs 0 rfl) rfl (by kernel_rfl) Try.isAgg34 Try.sizeOf34 rfl (Nat.le_of_ble_eq_true rfl)) ?_
        clear ha; intro a ha
        refine st_ex ha (by kernel_rfl) (ex_buildSlice elt39 _ zs39 [.int .i64 v.num, .string (str v.key), .int .i64 v.waiter, .int .i64 v.holder] s rfl (by kernel_rfl) (by decide)) ?_
        clear ha; rintro _ w a ⟨g5, rfl, s⟩ ha
        replace s : St W (.blk g5 [.int .i64 v.num, .string (str v.key), .int .i64 v.waiter, .int .i64 v.holder] 34 :: .blk g1 [.int .i64 v.num, .string (str v.key), .int .i64 v.waiter, .int .i64 v.holder] 34 :: Own 34 4 Ao ((out (byHolder m) (l.take k)).length) co (ws (out (byHolder m) (l.take k))) :: Own 34 4 Al ((left (byHolder m) (l.take k)).length) cl (ws (left (byHolder m) (l.take k))) :: .blk g [.slice (some ad) n c] 64 :: Own 34 4 (some ad) n c (ws l) :: L) w := s
        refine st_ex ha (by kernel_rfl) (ex_append (m := 1) (d' := 1) elt39 (by decide) 3 [.int .i64 v.num, .string (str v.key), .int .i64 v.waiter, .int .i64 v.holder] s rfl (by kernel_rfl) (by kernel_rfl) rfl (reads_blk (s.blkIs 0 rfl) rfl) (by simp [Value.oneCell']) (by simp only [maxLen]; omega) (by omega)) ?_
        clear ha; rintro _ w a ⟨A6, c7, rfl, hA_, s⟩ ha
        replace s : St W (.blk g5 [.int .i64 v.num, .string (str v.key), .int .i64 v.waiter, .int .i64 v.holder] 34 :: .blk g1 [.int .i64 v.num, .string (str v.key), .int .i64 v.waiter, .int .i64 v.holder] 34 :: Own 34 4 Ao ((out (byHolder m) (l.take k)).length) co (ws (out (byHolder m) (l.take k))) :: Own 34 4 A6 ((left (byHolder m) (l.take k)).length + 1) c7 ((ws (left (byHolder m) (l.take k))) ++ [.int .i64 v.num, .string (str v.key), .int .i64 v.waiter, .int .i64 v.holder]) :: .blk g [.slice (some ad) n c] 64 :: Own 34 4 (some ad) n c (ws l) :: L) w := s
        refine st_val (.slice A6 ((left (byHolder m) (l.take k)).length + 1) c7) ha (by kernel_rfl) (by kernel_rfl) ?_
        clear ha; intro a ha
        refine wpList_nil ?_
        refine block_normal ?_
        refine then_normal ?_
        refine wp_region_lit ?_
        refine st_val (.int .i64 ((k : Nat) : Int)) ha (by kernel_rfl) (by kernel_rfl) ?_
        clear ha; intro a ha
        refine st_val (.int .i64 ((k + 1 : Nat) : Int)) ha (by kernel_rfl) (run_arith (((k : Nat) : Int) + (1 : Int)) ((k + 1 : Nat) : Int) rfl (by kernel_rfl) (by kernel_rfl) (.inl ⟨rfl, rfl⟩) (by rw [wrap64_in (by omega)]; try omega) _) ?_
        clear ha; intro a ha
        refine st_val (.int .i64 ((k + 1 : Nat) : Int)) ha (by kernel_rfl) (by kernel_rfl) ?_
        clear ha; intro a ha
        refine wpList_nil ?_
        refine then_normal ?_
        replace s := s.at_ (j := 5) rfl
        replace s : St W (Own 34 4 (some ad) n c (ws l) :: .blk g5 [.int .i64 v.num, .string (str v.key), .int .i64 v.waiter, .int .i64 v.holder] 34 :: .blk g1 [.int .i64 v.num, .string (str v.key), .int .i64 v.waiter, .int .i64 v.holder] 34 :: Own 34 4 Ao ((out (byHolder m) (l.take k)).length) co (ws (out (byHolder m) (l.take k))) :: Own 34 4 A6 ((left (byHolder m) (l.take k)).length + 1) c7 ((ws (left (byHolder m) (l.take k))) ++ [.int .i64 v.num, .string (str v.key), .int .i64 v.waiter, .int .i64 v.holder]) :: .blk g [.slice (some ad) n c] 64 :: L) w := s
        replace s := s.at_ (j := 5) rfl
        replace s : St W (.blk g [.slice (some ad) n c] 64 :: Own 34 4 (some ad) n c (ws l) :: .blk g5 [.int .i64 v.num, .string (str v.key), .int .i64 v.waiter, .int .i64 v.holder] 34 :: .blk g1 [.int .i64 v.num, .string (str v.key), .int .i64 v.waiter, .int .i64 v.holder] 34 :: Own 34 4 Ao ((out (byHolder m) (l.take k)).length) co (ws (out (byHolder m) (l.take k))) :: Own 34 4 A6 ((left (byHolder m) (l.take k)).length + 1) c7 ((ws (left (byHolder m) (l.take k))) ++ [.int .i64 v.num, .string (str v.key), .int .i64 v.waiter, .int .i64 v.holder]) :: L) w := s
        replace s := s.at_ (j := 5) rfl
        replace s : St W (Own 34 4 A6 ((left (byHolder m) (l.take k)).length + 1) c7 ((ws (left (byHolder m) (l.take k))) ++ [.int .i64 v.num, .string (str v.key), .int .i64 v.waiter, .int .i64 v.holder]) :: .blk g [.slice (some ad) n c] 64 :: Own 34 4 (some ad) n c (ws l) :: .blk g5 [.int .i64 v.num, .string (str v.key), .int .i64 v.waiter, .int .i64 v.holder] 34 :: .blk g1 [.int .i64 v.num, .string (str v.key), .int .i64 v.waiter, .int .i64 v.holder] 34 :: Own 34 4 Ao ((out (byHolder m) (l.take k)).length) co (ws (out (byHolder m) (l.take k))) :: L) w := s
        replace s := s.at_ (j := 5) rfl
        replace s : St W (Own 34 4 Ao ((out (byHolder m) (l.take k)).length) co (ws (out (byHolder m) (l.take k))) :: Own 34 4 A6 ((left (byHolder m) (l.take k)).length + 1) c7 ((ws (left (byHolder m) (l.take k))) ++ [.int .i64 v.num, .string (str v.key), .int .i64 v.waiter, .int .i64 v.holder]) :: .blk g [.slice (some ad) n c] 64 :: Own 34 4 (some ad) n c (ws l) :: .blk g5 [.int .i64 v.num, .string (str v.key), .int .i64 v.waiter, .int .i64 v.holder] 34 :: .blk g1 [.int .i64 v.num, .string (str v.key), .int .i64 v.waiter, .int .i64 v.holder] 34 :: L) w := s
        replace s : St W (Own 34 4 Ao ((out (byHolder m) (l.take k)).length) co (ws (out (byHolder m) (l.take k))) :: Own 34 4 A6 ((left (byHolder m) (l.take k)).length + 1) c7 ((ws (left (byHolder m) (l.take k))) ++ [.int .i64 v.num, .string (str v.key), .int .i64 v.waiter, .int .i64 v.holder]) :: .blk g [.slice (some ad) n c] 64 :: Own 34 4 (some ad) n c (ws l) :: L) w := St.mid (A := [Own 34 4 Ao ((out (byHolder m) (l.take k)).length) co (ws (out (byHolder m) (l.take k))), Own 34 4 A6 ((left (byHolder m) (l.take k)).length + 1) c7 ((ws (left (byHolder m) (l.take k))) ++ [.int .i64 v.num, .string (str v.key), .int .i64 v.waiter, .int .i64 v.holder]), .blk g [.slice (some ad) n c] 64, Own 34 4 (some ad) n c (ws l)]) (B := [.blk g5 [.int .i64 v.num, .string (str v.key), .int .i64 v.waiter, .int .i64 v.holder] 34, .blk g1 [.int .i64 v.num, .string (str v.key), .int .i64 v.waiter, .int .i64 v.holder] 34]) s
        have hpv : (byHolder m) v = false := by simp_all [byNum, byHolder, byKey]
        have e1 := out_no (p := (byHolder m)) hv hpv
        have e2 := left_snoc_yes (p := (byHolder m)) hv hpv
        have e3 := congrArg List.length e1
        have e4 := congrArg List.length e2
        rw [List.length_append] at e4
        replace s : St W (Own 34 4 Ao ((out (byHolder m) (l.take (k + 1))).length) co (ws (out (byHolder m) (l.take (k + 1)))) :: Own 34 4 A6 ((left (byHolder m) (l.take (k + 1))).length) c7 (ws (left (byHolder m) (l.take (k + 1)))) :: .blk g [.slice (some ad) n c] 64 :: Own 34 4 (some ad) n c (ws l) :: L) w := by rw [e3, e4, e1, e2, ws_append]; exact s
        exact ⟨(k + 1, Ao, co, A6, c7), (show n - (k + 1) < n - k by omega), (Has.cons ha (by kernel_rfl) (by kernel_rfl) (Has.cons ha (by kernel_rfl) (by kernel_rfl) (Has.cons ha (by kernel_rfl) (by kernel_rfl) (Has.cons ha (by kernel_rfl) (by kernel_rfl) (Has.cons ha (by kernel_rfl) (by rw [e3]; rfl) (Has.cons ha (by kernel_rfl) (by rw [e4]; rfl) (Has.cons ha (by kernel_rfl) (by kernel_rfl) (Has.nil ha)))))))), s, (show k + 1 ≤ n by omega)⟩
    · rw [hb] at ha; replace hb : ¬ (((k : Nat) : Int) < ((n : Nat) : Int)) := of_decide_eq_false hb
      have hk : k = n := by omega
      rw [hk, List.take_of_length_le (by omega)] at s ha
      replace s : St W (Own 34 4 Ao ((out (byHolder m) l).length) co (ws (out (byHolder m) l)) :: Own 34 4 Al ((left (byHolder m) l).length) cl (ws (left (byHolder m) l)) :: .blk g [.slice A n c] 64 :: Own 34 4 A n c (ws l) :: L) w := s
      refine wp_exit ?_
      refine then_exit ?_
      refine then_exit ?_
      refine block_hit ?_
      refine then_normal ?_
      refine wp_seq ?_
      refine wp_region_lit ?_
      refine st_val (.pointer (some ⟨g, 0, none⟩)) ha (by kernel_rfl) (by kernel_rfl) ?_
      clear ha; intro a ha
      refine st_val (.slice Al ((left (byHolder m) l).length) cl) ha (by kernel_rfl) (by kernel_rfl) ?_
      clear ha; intro a ha
      refine st_val (.pointer (some ⟨g, 0, none⟩)) ha (by kernel_rfl) (by kernel_rfl) ?_
      clear ha; intro a ha
      refine st_val (.pointer (some ⟨g, 0, none⟩)) ha (by kernel_rfl) (by kernel_rfl) ?_
      clear ha; intro a ha
      refine st_exd ha (by kernel_rfl) (ex_store (of_ := 0) 2 [.slice Al ((left (byHolder m) l).length) cl] s rfl rfl (by kernel_rfl) (by kernel_rfl) (Try.sizeOf39 _) rfl (by simp [Value.oneCell']) (Nat.le_of_ble_eq_true rfl)) ?_
      clear ha; rintro w a s ha
      replace s : St W (Own 34 4 Ao ((out (byHolder m) l).length) co (ws (out (byHolder m) l)) :: Own 34 4 Al ((left (byHolder m) l).length) cl (ws (left (byHolder m) l)) :: .blk g [.slice Al ((left (byHolder m) l).length) cl] 64 :: Own 34 4 A n c (ws l) :: L) w := s
      refine wpList_nil ?_
      refine then_normal ?_
      refine wp_seq ?_
      refine wp_region_lit ?_
      refine st_val (.slice Ao ((out (byHolder m) l).length) co) ha (by kernel_rfl) (by kernel_rfl) ?_
      clear ha; intro a ha
      refine st_val (.slice Ao ((out (byHolder m) l).length) co) ha (by kernel_rfl) (by kernel_rfl) ?_
      clear ha; intro a ha
      refine wpList_nil ?_
      refine then_normal ?_
      refine wp_ret ?_
      refine ret_with (v := .slice Ao ((out (byHolder m) l).length) co) ha (results_1 rfl ha (res_tmp (by kernel_rfl) (by kernel_rfl))) ?_
      replace s := s.at_ (j := 1) rfl
      replace s : St W (Own 34 4 Al ((left (byHolder m) l).length) cl (ws (left (byHolder m) l)) :: Own 34 4 Ao ((out (byHolder m) l).length) co (ws (out (byHolder m) l)) :: .blk g [.slice Al ((left (byHolder m) l).length) cl] 64 :: Own 34 4 A n c (ws l) :: L) w := s
      replace s := s.at_ (j := 2) rfl
      replace s : St W (.blk g [.slice Al ((left (byHolder m) l).length) cl] 64 :: Own 34 4 Al ((left (byHolder m) l).length) cl (ws (left (byHolder m) l)) :: Own 34 4 Ao ((out (byHolder m) l).length) co (ws (out (byHolder m) l)) :: Own 34 4 A n c (ws l) :: L) w := s
      replace s := s.at_ (j := 2) rfl
      replace s : St W (Own 34 4 Ao ((out (byHolder m) l).length) co (ws (out (byHolder m) l)) :: .blk g [.slice Al ((left (byHolder m) l).length) cl] 64 :: Own 34 4 Al ((left (byHolder m) l).length) cl (ws (left (byHolder m) l)) :: Own 34 4 A n c (ws l) :: L) w := s
      replace s : St W (Own 34 4 Ao ((out (byHolder m) l).length) co (ws (out (byHolder m) l)) :: .blk g [.slice Al ((left (byHolder m) l).length) cl] 64 :: Own 34 4 Al ((left (byHolder m) l).length) cl (ws (left (byHolder m) l)) :: L) w := St.mid (A := [Own 34 4 Ao ((out (byHolder m) l).length) co (ws (out (byHolder m) l)), .blk g [.slice Al ((left (byHolder m) l).length) cl] 64, Own 34 4 Al ((left (byHolder m) l).length) cl (ws (left (byHolder m) l))]) (B := [Own 34 4 A n c (ws l)]) s
      exact ⟨_, _, _, _, rfl, s⟩

theorem roff_key (W : World) (L : List Chunk) (w : World) (g : Nat) (A : Option Addr) (n c : Nat) (l : List Wt) (hl : l.length = n) (hn : n ≤ 100) (k0 : List UInt8) (m : Int) (s : St W (.blk g [.slice A n c] 64 :: Own 34 4 A n c (ws l) :: L) w) :
    Calls Try.prog 30 #[.pointer (some ⟨g, 0, none⟩), .int .i64 2, .int .i64 m, .string (str k0)] w fun e w' => ∃ A' c' A1 c1, e = .returned (.slice A' (out (byKey k0 m) l).length c') ∧ St W (Own 34 4 A' (out (byKey k0 m) l).length c' (ws (out (byKey k0 m) l)) :: .blk g [.slice A1 (left (byKey k0 m) l).length c1] 64 :: Own 34 4 A1 (left (byKey k0 m) l).length c1 (ws (left (byKey k0 m) l)) :: L) w' := by
  refine enter_args (l := [.pointer (some ⟨g, 0, none⟩), .int .i64 2, .int .i64 m, .string (str k0)]) Try.func30 rfl rfl (Nat.le_of_ble_eq_true rfl) ?_
  intro a ha; replace ha : Has a 70 [(0, .pointer (some ⟨g, 0, none⟩)), (1, .int .i64 2), (2, .int .i64 m), (3, .string (str k0))] := ha
  refine wp_seq ?_
  refine wp_region_lit ?_
  refine st_val (.slice none 0 0) ha (by kernel_rfl) (by kernel_rfl) ?_
  clear ha; intro a ha
  refine wpList_nil ?_
  refine then_normal ?_
  refine wp_seq ?_
  refine wp_region_lit ?_
  refine st_val (.slice none 0 0) ha (by kernel_rfl) (by kernel_rfl) ?_
  clear ha; intro a ha
  refine st_val (.slice none 0 0) ha (by kernel_rfl) (by kernel_rfl) ?_
  clear ha; intro a ha
  refine wpList_nil ?_
  refine then_normal ?_
  refine wp_seq ?_
  refine wp_seq ?_
  refine wp_region_lit ?_
  refine st_val (.int .i64 0) ha (by kernel_rfl) (by kernel_rfl) ?_
  clear ha; intro a ha
  refine wpList_nil ?_
  refine then_normal ?_
  refine wp_block ?_
  replace s := Own.none_ (e := 34) (k := 4) none (Own.none_ (e := 34) (k := 4) none s)
  refine wp_loopG (G := (Nat × Option Addr × Nat × Option Addr × Nat)) (fun ⟨k, Ao, co, Al, cl⟩ a w => Has a 70 [(0, .pointer (some ⟨g, 0, none⟩)), (1, .int .i64 2), (2, .int .i64 m), (3, .string (str k0)), (9, .slice Ao ((out (byKey k0 m) (l.take k)).length) co), (10, .slice Al ((left (byKey k0 m) (l.take k)).length) cl), (11, .int .i64 ((k : Nat) : Int))] ∧ St W (Own 34 4 Ao ((out (byKey k0 m) (l.take k)).length) co (ws (out (byKey k0 m) (l.take k))) :: Own 34 4 Al ((left (byKey k0 m) (l.take k)).length) cl (ws (left (byKey k0 m) (l.take k))) :: .blk g [.slice A n c] 64 :: Own 34 4 A n c (ws l) :: L) w ∧ (k ≤ n)) (fun ⟨k, Ao, co, Al, cl⟩ => n - k) (0, none, 0, none, 0) ?_ ?_
  · exact ⟨(Has.cons ha (by kernel_rfl) (by kernel_rfl) (Has.cons ha (by kernel_rfl) (by kernel_rfl) (Has.cons ha (by kernel_rfl) (by kernel_rfl) (Has.cons ha (by kernel_rfl) (by kernel_rfl) (Has.cons ha (by kernel_rfl) (by kernel_rfl) (Has.cons ha (by kernel_rfl) (by kernel_rfl) (Has.cons ha (by kernel_rfl) (by kernel_rfl) (Has.nil ha)))))))), s, Nat.zero_le _⟩
  · clear ha s; rintro ⟨k, Ao, co, Al, cl⟩ a w ⟨ha, s, hp⟩
    refine wp_seq ?_
    refine wp_seq ?_
    refine wp_region_lit ?_
    refine st_val (.int .i64 ((k : Nat) : Int)) ha (by kernel_rfl) (by kernel_rfl) ?_
    clear ha; intro a ha
    refine st_val (.pointer (some ⟨g, 0, none⟩)) ha (by kernel_rfl) (by kernel_rfl) ?_
    clear ha; intro a ha
    refine st_val (.pointer (some ⟨g, 0, none⟩)) ha (by kernel_rfl) (by kernel_rfl) ?_
    clear ha; intro a ha
    refine st_val (.pointer (some ⟨g, 0, none⟩)) ha (by kernel_rfl) (by kernel_rfl) ?_
    clear ha; intro a ha
    refine st_val (.slice A n c) ha (by kernel_rfl) (run_load1 (of_ := 0) (s.blkIs 2 rfl) rfl (by kernel_rfl) Try.isAgg39 rfl) ?_
    clear ha; intro a ha
    refine st_val (.int .i64 ((n : Nat) : Int)) ha (by kernel_rfl) (by kernel_rfl) ?_
    clear ha; intro a ha
    refine st_val (.bool (decide (((k : Nat) : Int) < ((n : Nat) : Int)))) ha (by kernel_rfl) (by kernel_rfl) ?_
    clear ha; intro a ha
    refine wpList_nil ?_
    refine then_normal ?_
    refine wp_part (decide (((k : Nat) : Int) < ((n : Nat) : Int))) ha rfl (by kernel_rfl) (fun hb => ?_) (fun hb => ?_)
    · rw [hb] at ha; replace hb : (((k : Nat) : Int) < ((n : Nat) : Int)) := of_decide_eq_true hb
      obtain ⟨v, hv⟩ : ∃ v, l[k]? = some v := ⟨_, List.getElem?_eq_getElem (by omega)⟩
      obtain ⟨ad, hA⟩ := Own.addr (s.at_ (j := 3) rfl) (by omega)
      subst hA
      have ho : (out (byKey k0 m) (l.take k)).length ≤ 100 := by have := out_le (byKey k0 m) (l.take k); rw [List.length_take] at this; omega
      have hle : (left (byKey k0 m) (l.take k)).length ≤ 100 := by have := left_le (byKey k0 m) (l.take k); rw [List.length_take] at this; omega
      refine wp_skip ?_
      refine then_normal ?_
      refine wp_seq ?_
      refine wp_block ?_
      refine wp_seq ?_
      refine wp_region_lit ?_
      refine st_val (.pointer (some ⟨g, 0, none⟩)) ha (by kernel_rfl) (by kernel_rfl) ?_
      clear ha; intro a ha
      refine st_val (.pointer (some ⟨g, 0, none⟩)) ha (by kernel_rfl) (by kernel_rfl) ?_
      clear ha; intro a ha
      refine st_val (.pointer (some ⟨g, 0, none⟩)) ha (by kernel_rfl) (by kernel_rfl) ?_
      clear ha; intro a ha
      refine st_val (.slice (some ad) n c) ha (by kernel_rfl) (run_load1 (of_ := 0) (s.blkIs 2 rfl) rfl (by kernel_rfl) Try.isAgg39 rfl) ?_
      clear ha; intro a ha
      refine st_val (.int .i64 ((k : Nat) : Int)) ha (by kernel_rfl) (by kernel_rfl) ?_
      clear ha; intro a ha
      refine st_val (.pointer (some (ad.add (k * 4)))) ha (by kernel_rfl) (run_indexAddr' (kd := .i64) (i := ((k : Nat) : Int)) (n := n) (c := c) k rfl Try.underlying39 Try.sizeOf34 (by kernel_rfl) (by kernel_rfl) rfl (by first | assumption | omega) _) ?_
      clear ha; intro a ha
      refine st_val (.agg #[.int .i64 v.num, .string (str v.key), .int .i64 v.waiter, .int .i64 v.holder]) ha (by kernel_rfl) (run_loadAtN (i := k * 4) [.int .i64 v.num, .string (str v.key), .int .i64 v.waiter, .int .i64 v.holder] ((Own.reads (s.at_ (j := 3) rfl).1)) rfl (by kernel_rfl) Try.isAgg34 Try.sizeOf34 (fun q_ hq_ => ws_at hv hq_) rfl) ?_
      clear ha; intro a ha
      refine st_ex ha (by kernel_rfl) (ex_alloc [.int .i64 0, .string (str []), .int .i64 0, .int .i64 0] s rfl (Try.zeroValue34 _) (by kernel_rfl)) ?_
      clear ha; rintro _ w a ⟨g1, rfl, s⟩ ha
      replace s : St W (.blk g1 [.int .i64 0, .string (str []), .int .i64 0, .int .i64 0] 34 :: Own 34 4 Ao ((out (byKey k0 m) (l.take k)).length) co (ws (out (byKey k0 m) (l.take k))) :: Own 34 4 Al ((left (byKey k0 m) (l.take k)).length) cl (ws (left (byKey k0 m) (l.take k))) :: .blk g [.slice (some ad) n c] 64 :: Own 34 4 (some ad) n c (ws l) :: L) w := s
      refine st_exd ha (by kernel_rfl) (ex_store (of_ := 0) 0 [.int .i64 v.num, .string (str v.key), .int .i64 v.waiter, .int .i64 v.holder] s rfl rfl (by kernel_rfl) (by kernel_rfl) (Try.sizeOf34 _) rfl (by simp [Value.oneCell']) (Nat.le_of_ble_eq_true rfl)) ?_
      clear ha; rintro w a s ha
      replace s : St W (.blk g1 [.int .i64 v.num, .string (str v.key), .int .i64 v.waiter, .int .i64 v.holder] 34 :: Own 34 4 Ao ((out (byKey k0 m) (l.take k)).length) co (ws (out (byKey k0 m) (l.take k))) :: Own 34 4 Al ((left (byKey k0 m) (l.take k)).length) cl (ws (left (byKey k0 m) (l.take k))) :: .blk g [.slice (some ad) n c] 64 :: Own 34 4 (some ad) n c (ws l) :: L) w := s
      refine wpList_nil ?_
      refine then_normal ?_
      refine wp_seq ?_
      refine wp_region_lit ?_
      refine st_val (.int .i64 2) ha (by kernel_rfl) (by kernel_rfl) ?_
      clear ha; intro a ha
      refine st_val (.bool false) ha (by kernel_rfl) (by kernel_rfl) ?_
      clear ha; intro a ha
      refine st_val (.bool false) ha (by kernel_rfl) (by kernel_rfl) ?_
      clear ha; intro a ha
      refine st_pass ha (by kernel_rfl) ?_
      clear ha; intro a ha
      refine st_pass ha (by kernel_rfl) ?_
      clear ha; intro a ha
      refine st_pass ha (by kernel_rfl) ?_
      clear ha; intro a ha
      refine st_pass ha (by kernel_rfl) ?_
      clear ha; intro a ha
      refine st_val (.bool false) ha (by kernel_rfl) (by kernel_rfl) ?_
      clear ha; intro a ha
      refine st_val (.bool false) ha (by kernel_rfl) (by kernel_rfl) ?_
      clear ha; intro a ha
      refine st_val (.int .i64 2) ha (by kernel_rfl) (by kernel_rfl) ?_
      clear ha; intro a ha
      refine st_val (.bool true) ha (by kernel_rfl) (by kernel_rfl) ?_
      clear ha; intro a ha
      refine st_val (.bool true) ha (by kernel_rfl) (by kernel_rfl) ?_
      clear ha; intro a ha
      refine st_val (.pointer (some ⟨g1, 3, none⟩)) ha (by kernel_rfl) (by kernel_rfl) ?_
      clear ha; intro a ha
      refine st_val (.int .i64 v.holder) ha (by kernel_rfl) (run_load1 (of_ := 3) (s.blkIs 0 rfl) rfl (by kernel_rfl) Try.isAgg3 rfl) ?_
      clear ha; intro a ha
      refine st_val (.int .i64 m) ha (by kernel_rfl) (by kernel_rfl) ?_
      clear ha; intro a ha
      refine st_val (.bool (v.holder == m)) ha (by kernel_rfl) (by kernel_rfl) ?_
      clear ha; intro a ha
      refine st_val (.bool (v.holder == m)) ha (by kernel_rfl) (by kernel_rfl) ?_
      clear ha; intro a ha
      refine st_val (.bool (v.holder == m)) ha (by kernel_rfl) (by kernel_rfl) ?_
      clear ha; intro a ha
      rcases Bool.eq_false_or_eq_true (v.holder == m) with hb | hb
      · rw [hb] at ha; have hb_ := hb; replace hb := eq_of_beq hb
        refine st_val (.int .i64 2) ha (by kernel_rfl) (by kernel_rfl) ?_
        clear ha; intro a ha
        refine st_val (.bool false) ha (by kernel_rfl) (by kernel_rfl) ?_
        clear ha; intro a ha
        refine st_val (.bool false) ha (by kernel_rfl) (by kernel_rfl) ?_
        clear ha; intro a ha
        refine st_val (.pointer (some ⟨g1, 1, none⟩)) ha (by kernel_rfl) (by kernel_rfl) ?_
        clear ha; intro a ha
        refine st_val (.string (str v.key)) ha (by kernel_rfl) (run_load1 (of_ := 1) (s.blkIs 0 rfl) rfl (by kernel_rfl) Try.isAgg9 rfl) ?_
        clear ha; intro a ha
        refine st_val (.string (str k0)) ha (by kernel_rfl) (by kernel_rfl) ?_
        clear ha; intro a ha
        refine st_val (.bool (decide (v.key = k0))) ha (by kernel_rfl) (run_seql (p := v.key) (q := k0) rfl (by kernel_rfl) (by kernel_rfl) _) ?_
        clear ha; intro a ha
        refine st_val (.bool (decide (v.key = k0))) ha (by kernel_rfl) (by kernel_rfl) ?_
        clear ha; intro a ha
        refine st_val (.bool (decide (v.key = k0))) ha (by kernel_rfl) (by kernel_rfl) ?_
        clear ha; intro a ha
        refine st_val (.bool (decide (v.key = k0))) ha (by kernel_rfl) (by kernel_rfl) ?_
        clear ha; intro a ha
        refine wpList_nil ?_
        refine then_normal ?_
        refine wp_part (decide (v.key = k0)) ha rfl (by kernel_rfl) (fun hb => ?_) (fun hb => ?_)
        · rw [hb] at ha; replace hb : (v.key = k0) := of_decide_eq_true hb
          refine wp_region_lit ?_
          refine st_val (.slice Ao ((out (byKey k0 m) (l.take k)).length) co) ha (by kernel_rfl) (by kernel_rfl) ?_
          clear ha; intro a ha
          refine st_val (.agg #[.int .i64 v.num, .string (str v.key), .int .i64 v.waiter, .int .i64 v.holder]) ha (by kernel_rfl) (run_loadN (of_ := 0) [.int .i64 v.num, .string (str v.key), .int .i64 v.waiter, .int .i64 v.holder] (s.blkIs 0 rfl) rfl (by kernel_rfl) Try.isAgg34 Try.sizeOf34 rfl (Nat.le_of_ble_eq_true rfl)) ?_
          clear ha; intro a ha
          refine st_ex ha (by kernel_rfl) (ex_buildSlice elt39 _ zs39 [.int .i64 v.num, .string (str v.key), .int .i64 v.waiter, .int .i64 v.holder] s rfl (by kernel_rfl) (by decide)) ?_
          clear ha; rintro _ w a ⟨g2, rfl, s⟩ ha
          replace s : St W (.blk g2 [.int .i64 v.num, .string (str v.key), .int .i64 v.waiter, .int .i64 v.holder] 34 :: .blk g1 [.int .i64 v.num, .string (str v.key), .int .i64 v.waiter, .int .i64 v.holder] 34 :: Own 34 4 Ao ((out (byKey k0 m) (l.take k)).length) co (ws (out (byKey k0 m) (l.take k))) :: Own 34 4 Al ((left (byKey k0 m) (l.take k)).length) cl (ws (left (byKey k0 m) (l.take k))) :: .blk g [.slice (some ad) n c] 64 :: Own 34 4 (some ad) n c (ws l) :: L) w := s
          refine st_ex ha (by kernel_rfl) (ex_append (m := 1) (d' := 1) elt39 (by decide) 2 [.int .i64 v.num, .string (str v.key), .int .i64 v.waiter, .int .i64 v.holder] s rfl (by kernel_rfl) (by kernel_rfl) rfl (reads_blk (s.blkIs 0 rfl) rfl) (by simp [Value.oneCell']) (by simp only [maxLen]; omega) (by omega)) ?_
          clear ha; rintro _ w a ⟨A3, c4, rfl, hA_, s⟩ ha
          replace s : St W (.blk g2 [.int .i64 v.num, .string (str v.key), .int .i64 v.waiter, .int .i64 v.holder] 34 :: .blk g1 [.int .i64 v.num, .string (str v.key), .int .i64 v.waiter, .int .i64 v.holder] 34 :: Own 34 4 A3 ((out (byKey k0 m) (l.take k)).length + 1) c4 ((ws (out (byKey k0 m) (l.take k))) ++ [.int .i64 v.num, .string (str v.key), .int .i64 v.waiter, .int .i64 v.holder]) :: Own 34 4 Al ((left (byKey k0 m) (l.take k)).length) cl (ws (left (byKey k0 m) (l.take k))) :: .blk g [.slice (some ad) n c] 64 :: Own 34 4 (some ad) n c (ws l) :: L) w := s
          refine st_val (.slice A3 ((out (byKey k0 m) (l.take k)).length + 1) c4) ha (by kernel_rfl) (by kernel_rfl) ?_
          clear ha; intro a ha
          refine wpList_nil ?_
          refine block_normal ?_
          refine then_normal ?_
          refine wp_region_lit ?_
          refine st_val (.int .i64 ((k : Nat) : Int)) ha (by kernel_rfl) (by kernel_rfl) ?_
          clear ha; intro a ha
          refine st_val (.int .i64 ((k + 1 : Nat) : Int)) ha (by kernel_rfl) (run_arith (((k : Nat) : Int) + (1 : Int)) ((k + 1 : Nat) : Int) rfl (by kernel_rfl) (by kernel_rfl) (.inl ⟨rfl, rfl⟩) (by rw [wrap64_in (by omega)]; try omega) _) ?_
          clear ha; intro a ha
          refine st_val (.int .i64 ((k + 1 : Nat) : Int)) ha (by kernel_rfl) (by kernel_rfl) ?_
          clear ha; intro a ha
          refine wpList_nil ?_
          refine then_normal ?_
          replace s := s.at_ (j := 5) rfl
          replace s : St W (Own 34 4 (some ad) n c (ws l) :: .blk g2 [.int .i64 v.num, .string (str v.key), .int .i64 v.waiter, .int .i64 v.holder] 34 :: .blk g1 [.int .i64 v.num, .string (str v.key), .int .i64 v.waiter, .int .i64 v.holder] 34 :: Own 34 4 A3 ((out (byKey k0 m) (l.take k)).length + 1) c4 ((ws (out (byKey k0 m) (l.take k))) ++ [.int .i64 v.num, .string (str v.key), .int .i64 v.waiter, .int .i64 v.holder]) :: Own 34 4 Al ((left (byKey k0 m) (l.take k)).length) cl (ws (left (byKey k0 m) (l.take k))) :: .blk g [.slice (some ad) n c] 64 :: L) w := s
          replace s := s.at_ (j := 5) rfl
          replace s : St W (.blk g [.slice (some ad) n c] 64 :: Own 34 4 (some ad) n c (ws l) :: .blk g2 [.int .i64 v.num, .string (str v.key), .int .i64 v.waiter, .int .i64 v.holder] 34 :: .blk g1 [.int .i64 v.num, .string (str v.key), .int .i64 v.waiter, .int .i64 v.holder] 34 :: Own 34 4 A3 ((out (byKey k0 m) (l.take k)).length + 1) c4 ((ws (out (byKey k0 m) (l.take k))) ++ [.int .i64 v.num, .string (str v.key), .int .i64 v.waiter, .int .i64 v.holder]) :: Own 34 4 Al ((left (byKey k0 m) (l.take k)).length) cl (ws (left (byKey k0 m) (l.take k))) :: L) w := s
          replace s := s.at_ (j := 5) rfl
          replace s : St W (Own 34 4 Al ((left (byKey k0 m) (l.take k)).length) cl (ws (left (byKey k0 m) (l.take k))) :: .blk g [.slice (some ad) n c] 64 :: Own 34 4 (some ad) n c (ws l) :: .blk g2 [.int .i64 v.num, .string (str v.key), .int .i64 v.waiter, .int .i64 v.holder] 34 :: .blk g1 [.int .i64 v.num, .string (str v.key), .int .i64 v.waiter, .int .i64 v.holder] 34 :: Own 34 4 A3 ((out (byKey k0 m) (l.take k)).length + 1) c4 ((ws (out (byKey k0 m) (l.take k))) ++ [.int .i64 v.num, .string (str v.key), .int .i64 v.waiter, .int .i64 v.holder]) :: L) w := s
          replace s := s.at_ (j := 5) rfl
          replace s : St W (Own 34 4 A3 ((out (byKey k0 m) (l.take k)).length + 1) c4 ((ws (out (byKey k0 m) (l.take k))) ++ [.int .i64 v.num, .string (str v.key), .int .i64 v.waiter, .int .i64 v.holder]) :: Own 34 4 Al ((left (byKey k0 m) (l.take k)).length) cl (ws (left (byKey k0 m) (l.take k))) :: .blk g [.slice (some ad) n c] 64 :: Own 34 4 (some ad) n c (ws l) :: .blk g2 [.int .i64 v.num, .string (str v.key), .int .i64 v.waiter, .int .i64 v.holder] 34 :: .blk g1 [.int .i64 v.num, .string (str v.key), .int .i64 v.waiter, .int .i64 v.holder] 34 :: L) w := s
          replace s : St W (Own 34 4 A3 ((out (byKey k0 m) (l.take k)).length + 1) c4 ((ws (out (byKey k0 m) (l.take k))) ++ [.int .i64 v.num, .string (str v.key), .int .i64 v.waiter, .int .i64 v.holder]) :: Own 34 4 Al ((left (byKey k0 m) (l.take k)).length) cl (ws (left (byKey k0 m) (l.take k))) :: .blk g [.slice (some ad) n c] 64 :: Own 34 4 (some ad) n c (ws l) :: L) w := St.mid (A := [Own 34 4 A3 ((out (byKey k0 m) (l.take k)).length + 1) c4 ((ws (out (byKey k0 m) (l.take k))) ++ [.int .i64 v.num, .string (str v.key), .int .i64 v.waiter, .int .i64 v.holder]), Own 34 4 Al ((left (byKey k0 m) (l.take k)).length) cl (ws (left (byKey k0 m) (l.take k))), .blk g [.slice (some ad) n c] 64, Own 34 4 (some ad) n c (ws l)]) (B := [.blk g2 [.int .i64 v.num, .string (str v.key), .int .i64 v.waiter, .int .i64 v.holder] 34, .blk g1 [.int .i64 v.num, .string (str v.key), .int .i64 v.waiter, .int .i64 v.holder] 34]) s
          have hpv : (byKey k0 m) v = true := by simp_all [byNum, byHolder, byKey]
          have e1 := out_yes (p := (byKey k0 m)) hv hpv
          have e2 := left_snoc_no (p := (byKey k0 m)) hv hpv
          have e3 := congrArg List.length e1
          have e4 := congrArg List.length e2
          rw [List.length_append] at e3
          replace s : St W (Own 34 4 A3 ((out (byKey k0 m) (l.take (k + 1))).length) c4 (ws (out (byKey k0 m) (l.take (k + 1)))) :: Own 34 4 Al ((left (byKey k0 m) (l.take (k + 1))).length) cl (ws (left (byKey k0 m) (l.take (k + 1)))) :: .blk g [.slice (some ad) n c] 64 :: Own 34 4 (some ad) n c (ws l) :: L) w := by rw [e3, e4, e1, e2, ws_append]; exact s
          exact ⟨(k + 1, A3, c4, Al, cl), (show n - (k + 1) < n - k by omega), (Has.cons ha (by kernel_rfl) (by kernel_rfl) (Has.cons ha (by kernel_rfl) (by kernel_rfl) (Has.cons ha (by kernel_rfl) (by kernel_rfl) (Has.cons ha (by kernel_rfl) (by kernel_rfl) (Has.cons ha (by kernel_rfl) (by rw [e3]; rfl) (Has.cons ha (by kernel_rfl) (by rw [e4]; rfl) (Has.cons ha (by kernel_rfl) (by kernel_rfl) (Has.nil ha)))))))), s, (show k + 1 ≤ n by omega)⟩
        · rw [hb] at ha; replace hb : ¬ (v.key = k0) := of_decide_eq_false hb
          refine wp_region_lit ?_
          refine st_val (.slice Al ((left (byKey k0 m) (l.take k)).length) cl) ha (by kernel_rfl) (by kernel_rfl) ?_
          clear ha; intro a ha
          refine st_val (.agg #[.int .i64 v.num, .string (str v.key), .int .i64 v.waiter, .int .i64 v.holder]) ha (by kernel_rfl) (run_loadN (of_ := 0) [.int .i64 v.num, .string (str v.key), .int .i64 v.waiter, .int .i64 v.holder] (s.blkIs 0 rfl) rfl (by kernel_rfl) Try.isAgg34 Try.sizeOf34 rfl (Nat.le_of_ble_eq_true rfl)) ?_
          clear ha; intro a ha
          refine st_ex ha (by kernel_rfl) (ex_buildSlice elt39 _ zs39 [.int .i64 v.num, .string (str v.key), .int .i64 v.waiter, .int .i64 v.holder] s rfl (by kernel_rfl) (by decide)) ?_
          clear ha; rintro _ w a ⟨g5, rfl, s⟩ ha
          replace s : St W (.blk g5 [.int .i64 v.num, .string (str v.key), .int .i64 v.waiter, .int .i64 v.holder] 34 :: .blk g1 [.int .i64 v.num, .string (str v.key), .int .i64 v.waiter, .int .i64 v.holder] 34 :: Own 34 4 Ao ((out (byKey k0 m) (l.take k)).length) co (ws (out (byKey k0 m) (l.take k))) :: Own 34 4 Al ((left (byKey k0 m) (l.take k)).length) cl (ws (left (byKey k0 m) (l.take k))) :: .blk g [.slice (some ad) n c] 64 :: Own 34 4 (some ad) n c (ws l) :: L) w := s
          refine st_ex ha (by kernel_rfl) (ex_append (m := 1) (d' := 1) elt39 (by decide) 3 [.int .i64 v.num, .string (str v.key), .int .i64 v.waiter, .int .i64 v.holder] s rfl (by kernel_rfl) (by kernel_rfl) rfl (reads_blk (s.blkIs 0 rfl) rfl) (by simp [Value.oneCell']) (by simp only [maxLen]; omega) (by omega)) ?_
          clear ha; rintro _ w a ⟨A6, c7, rfl, hA_, s⟩ ha
          replace s : St W (.blk g5 [.int .i64 v.num, .string (str v.key), .int .i64 v.waiter, .int .i64 v.holder] 34 :: .blk g1 [.int .i64 v.num, .string (str v.key), .int .i64 v.waiter, .int .i64 v.holder] 34 :: Own 34 4 Ao ((out (byKey k0 m) (l.take k)).length) co (ws (out (byKey k0 m) (l.take k))) :: Own 34 4 A6 ((left (byKey k0 m) (l.take k)).length + 1) c7 ((ws (left (byKey k0 m) (l.take k))) ++ [.int .i64 v.num, .string (str v.key), .int .i64 v.waiter, .int .i64 v.holder]) :: .blk g [.slice (some ad) n c] 64 :: Own 34 4 (some ad) n c (ws l) :: L) w := s
          refine st_val (.slice A6 ((left (byKey k0 m) (l.take k)).length + 1) c7) ha (by kernel_rfl) (by kernel_rfl) ?_
          clear ha; intro a ha
          refine wpList_nil ?_
          refine block_normal ?_
          refine then_normal ?_
          refine wp_region_lit ?_
          refine st_val (.int .i64 ((k : Nat) : Int)) ha (by kernel_rfl) (by kernel_rfl) ?_
          clear ha; intro a ha
          refine st_val (.int .i64 ((k + 1 : Nat) : Int)) ha (by kernel_rfl) (run_arith (((k : Nat) : Int) + (1 : Int)) ((k + 1 : Nat) : Int) rfl (by kernel_rfl) (by kernel_rfl) (.inl ⟨rfl, rfl⟩) (by rw [wrap64_in (by omega)]; try omega) _) ?_
          clear ha; intro a ha
          refine st_val (.int .i64 ((k + 1 : Nat) : Int)) ha (by kernel_rfl) (by kernel_rfl) ?_
          clear ha; intro a ha
          refine wpList_nil ?_
          refine then_normal ?_
          replace s := s.at_ (j := 5) rfl
          replace s : St W (Own 34 4 (some ad) n c (ws l) :: .blk g5 [.int .i64 v.num, .string (str v.key), .int .i64 v.waiter, .int .i64 v.holder] 34 :: .blk g1 [.int .i64 v.num, .string (str v.key), .int .i64 v.waiter, .int .i64 v.holder] 34 :: Own 34 4 Ao ((out (byKey k0 m) (l.take k)).length) co (ws (out (byKey k0 m) (l.take k))) :: Own 34 4 A6 ((left (byKey k0 m) (l.take k)).length + 1) c7 ((ws (left (byKey k0 m) (l.take k))) ++ [.int .i64 v.num, .string (str v.key), .int .i64 v.waiter, .int .i64 v.holder]) :: .blk g [.slice (some ad) n c] 64 :: L) w := s
          replace s := s.at_ (j := 5) rfl
          replace s : St W (.blk g [.slice (some ad) n c] 64 :: Own 34 4 (some ad) n c (ws l) :: .blk g5 [.int .i64 v.num, .string (str v.key), .int .i64 v.waiter, .int .i64 v.holder] 34 :: .blk g1 [.int .i64 v.num, .string (str v.key), .int .i64 v.waiter, .int .i64 v.holder] 34 :: Own 34 4 Ao ((out (byKey k0 m) (l.take k)).length) co (ws (out (byKey k0 m) (l.take k))) :: Own 34 4 A6 ((left (byKey k0 m) (l.take k)).length + 1) c7 ((ws (left (byKey k0 m) (l.take k))) ++ [.int .i64 v.num, .string (str v.key), .int .i64 v.waiter, .int .i64 v.holder]) :: L) w := s
          replace s := s.at_ (j := 5) rfl
          replace s : St W (Own 34 4 A6 ((left (byKey k0 m) (l.take k)).length + 1) c7 ((ws (left (byKey k0 m) (l.take k))) ++ [.int .i64 v.num, .string (str v.key), .int .i64 v.waiter, .int .i64 v.holder]) :: .blk g [.slice (some ad) n c] 64 :: Own 34 4 (some ad) n c (ws l) :: .blk g5 [.int .i64 v.num, .string (str v.key), .int .i64 v.waiter, .int .i64 v.holder] 34 :: .blk g1 [.int .i64 v.num, .string (str v.key), .int .i64 v.waiter, .int .i64 v.holder] 34 :: Own 34 4 Ao ((out (byKey k0 m) (l.take k)).length) co (ws (out (byKey k0 m) (l.take k))) :: L) w := s
          replace s := s.at_ (j := 5) rfl
          replace s : St W (Own 34 4 Ao ((out (byKey k0 m) (l.take k)).length) co (ws (out (byKey k0 m) (l.take k))) :: Own 34 4 A6 ((left (byKey k0 m) (l.take k)).length + 1) c7 ((ws (left (byKey k0 m) (l.take k))) ++ [.int .i64 v.num, .string (str v.key), .int .i64 v.waiter, .int .i64 v.holder]) :: .blk g [.slice (some ad) n c] 64 :: Own 34 4 (some ad) n c (ws l) :: .blk g5 [.int .i64 v.num, .string (str v.key), .int .i64 v.waiter, .int .i64 v.holder] 34 :: .blk g1 [.int .i64 v.num, .string (str v.key), .int .i64 v.waiter, .int .i64 v.holder] 34 :: L) w := s
          replace s : St W (Own 34 4 Ao ((out (byKey k0 m) (l.take k)).length) co (ws (out (byKey k0 m) (l.take k))) :: Own 34 4 A6 ((left (byKey k0 m) (l.take k)).length + 1) c7 ((ws (left (byKey k0 m) (l.take k))) ++ [.int .i64 v.num, .string (str v.key), .int .i64 v.waiter, .int .i64 v.holder]) :: .blk g [.slice (some ad) n c] 64 :: Own 34 4 (some ad) n c (ws l) :: L) w := St.mid (A := [Own 34 4 Ao ((out (byKey k0 m) (l.take k)).length) co (ws (out (byKey k0 m) (l.take k))), Own 34 4 A6 ((left (byKey k0 m) (l.take k)).length + 1) c7 ((ws (left (byKey k0 m) (l.take k))) ++ [.int .i64 v.num, .string (str v.key), .int .i64 v.waiter, .int .i64 v.holder]), .blk g [.slice (some ad) n c] 64, Own 34 4 (some ad) n c (ws l)]) (B := [.blk g5 [.int .i64 v.num, .string (str v.key), .int .i64 v.waiter, .int .i64 v.holder] 34, .blk g1 [.int .i64 v.num, .string (str v.key), .int .i64 v.waiter, .int .i64 v.holder] 34]) s
          have hpv : (byKey k0 m) v = false := by simp_all [byNum, byHolder, byKey]
          have e1 := out_no (p := (byKey k0 m)) hv hpv
          have e2 := left_snoc_yes (p := (byKey k0 m)) hv hpv
          have e3 := congrArg List.length e1
          have e4 := congrArg List.length e2
          rw [List.length_append] at e4
          replace s : St W (Own 34 4 Ao ((out (byKey k0 m) (l.take (k + 1))).length) co (ws (out (byKey k0 m) (l.take (k + 1)))) :: Own 34 4 A6 ((left (byKey k0 m) (l.take (k + 1))).length) c7 (ws (left (byKey k0 m) (l.take (k + 1)))) :: .blk g [.slice (some ad) n c] 64 :: Own 34 4 (some ad) n c (ws l) :: L) w := by rw [e3, e4, e1, e2, ws_append]; exact s
          exact ⟨(k + 1, Ao, co, A6, c7), (show n - (k + 1) < n - k by omega), (Has.cons ha (by kernel_rfl) (by kernel_rfl) (Has.cons ha (by kernel_rfl) (by kernel_rfl) (Has.cons ha (by kernel_rfl) (by kernel_rfl) (Has.cons ha (by kernel_rfl) (by kernel_rfl) (Has.cons ha (by kernel_rfl) (by rw [e3]; rfl) (Has.cons ha (by kernel_rfl) (by rw [e4]; rfl) (Has.cons ha (by kernel_rfl) (by kernel_rfl) (Has.nil ha)))))))), s, (show k + 1 ≤ n by omega)⟩
      · rw [hb] at ha; have hb_ := hb; replace hb := ne_of_beq_false hb
        refine st_pass ha (by kernel_rfl) ?_
        clear ha; intro a ha
        refine st_pass ha (by kernel_rfl) ?_
        clear ha; intro a ha
        refine st_pass ha (by kernel_rfl) ?_
        clear ha; intro a ha
        refine st_pass ha (by kernel_rfl) ?_
        clear ha; intro a ha
        refine st_pass ha (by kernel_rfl) ?_
        clear ha; intro a ha
        refine st_pass ha (by kernel_rfl) ?_
        clear ha; intro a ha
        refine st_pass ha (by kernel_rfl) ?_
        clear ha; intro a ha
        refine st_pass ha (by kernel_rfl) ?_
        clear ha; intro a ha
        refine st_val (.bool false) ha (by kernel_rfl) (by kernel_rfl) ?_
        clear ha; intro a ha
        refine st_val (.bool false) ha (by kernel_rfl) (by kernel_rfl) ?_
        clear ha; intro a ha
        refine wpList_nil ?_
        refine then_normal ?_
        refine wp_false ha rfl (by kernel_rfl) ?_
        refine wp_region_lit ?_
        refine st_val (.slice Al ((left (byKey k0 m) (l.take k)).length) cl) ha (by kernel_rfl) (by kernel_rfl) ?_
        clear ha; intro a ha
        refine st_val (.agg #[.int .i64 v.num, .string (str v.key), .int .i64 v.waiter, .int .i64 v.holder]) ha (by kernel_rfl) (run_loadN (of_ := 0) [.int .i64 v.num, .string (str v.key), .int .i64 v.waiter, .int .i64 v.holder] (s.blkIs 0 rfl) rfl (by kernel_rfl) Try.isAgg34 Try.sizeOf34 rfl (Nat.le_of_ble_eq_true rfl)) ?_
        clear ha; intro a ha
        refine st_ex ha (by kernel_rfl) (ex_buildSlice elt39 _ zs39 [.int .i64 v.num, .string (str v.key), .int .i64 v.waiter, .int .i64 v.holder] s rfl (by kernel_rfl) (by decide)) ?_
        clear ha; rintro _ w a ⟨g8, rfl, s⟩ ha
        replace s : St W (.blk g8 [.int .i64 v.num, .string (str v.key), .int .i64 v.waiter, .int .i64 v.holder] 34 :: .blk g1 [.int .i64 v.num, .string (str v.key), .int .i64 v.waiter, .int .i64 v.holder] 34 :: Own 34 4 Ao ((out (byKey k0 m) (l.take k)).length) co (ws (out (byKey k0 m) (l.take k))) :: Own 34 4 Al ((left (byKey k0 m) (l.take k)).length) cl (ws (left (byKey k0 m) (l.take k))) :: .blk g [.slice (some ad) n c] 64 :: Own 34 4 (some ad) n c (ws l) :: L) w := s
        refine st_ex ha (by kernel_rfl) (ex_append (m := 1) (d' := 1) elt39 (by decide) 3 [.int .i64 v.num, .string (str v.key), .int .i64 v.waiter, .int .i64 v.holder] s rfl (by kernel_rfl) (by kernel_rfl) rfl (reads_blk (s.blkIs 0 rfl) rfl) (by simp [Value.oneCell']) (by simp only [maxLen]; omega) (by omega)) ?_
        clear ha; rintro _ w a ⟨A9, c10, rfl, hA_, s⟩ ha
        replace s : St W (.blk g8 [.int .i64 v.num, .string (str v.key), .int .i64 v.waiter, .int .i64 v.holder] 34 :: .blk g1 [.int .i64 v.num, .string (str v.key), .int .i64 v.waiter, .int .i64 v.holder] 34 :: Own 34 4 Ao ((out (byKey k0 m) (l.take k)).length) co (ws (out (byKey k0 m) (l.take k))) :: Own 34 4 A9 ((left (byKey k0 m) (l.take k)).length + 1) c10 ((ws (left (byKey k0 m) (l.take k))) ++ [.int .i64 v.num, .string (str v.key), .int .i64 v.waiter, .int .i64 v.holder]) :: .blk g [.slice (some ad) n c] 64 :: Own 34 4 (some ad) n c (ws l) :: L) w := s
        refine st_val (.slice A9 ((left (byKey k0 m) (l.take k)).length + 1) c10) ha (by kernel_rfl) (by kernel_rfl) ?_
        clear ha; intro a ha
        refine wpList_nil ?_
        refine block_normal ?_
        refine then_normal ?_
        refine wp_region_lit ?_
        refine st_val (.int .i64 ((k : Nat) : Int)) ha (by kernel_rfl) (by kernel_rfl) ?_
        clear ha; intro a ha
        refine st_val (.int .i64 ((k + 1 : Nat) : Int)) ha (by kernel_rfl) (run_arith (((k : Nat) : Int) + (1 : Int)) ((k + 1 : Nat) : Int) rfl (by kernel_rfl) (by kernel_rfl) (.inl ⟨rfl, rfl⟩) (by rw [wrap64_in (by omega)]; try omega) _) ?_
        clear ha; intro a ha
        refine st_val (.int .i64 ((k + 1 : Nat) : Int)) ha (by kernel_rfl) (by kernel_rfl) ?_
        clear ha; intro a ha
        refine wpList_nil ?_
        refine then_normal ?_
        replace s := s.at_ (j := 5) rfl
        replace s : St W (Own 34 4 (some ad) n c (ws l) :: .blk g8 [.int .i64 v.num, .string (str v.key), .int .i64 v.waiter, .int .i64 v.holder] 34 :: .blk g1 [.int .i64 v.num, .string (str v.key), .int .i64 v.waiter, .int .i64 v.holder] 34 :: Own 34 4 Ao ((out (byKey k0 m) (l.take k)).length) co (ws (out (byKey k0 m) (l.take k))) :: Own 34 4 A9 ((left (byKey k0 m) (l.take k)).length + 1) c10 ((ws (left (byKey k0 m) (l.take k))) ++ [.int .i64 v.num, .string (str v.key), .int .i64 v.waiter, .int .i64 v.holder]) :: .blk g [.slice (some ad) n c] 64 :: L) w := s
        replace s := s.at_ (j := 5) rfl
        replace s : St W (.blk g [.slice (some ad) n c] 64 :: Own 34 4 (some ad) n c (ws l) :: .blk g8 [.int .i64 v.num, .string (str v.key), .int .i64 v.waiter, .int .i64 v.holder] 34 :: .blk g1 [.int .i64 v.num, .string (str v.key), .int .i64 v.waiter, .int .i64 v.holder] 34 :: Own 34 4 Ao ((out (byKey k0 m) (l.take k)).length) co (ws (out (byKey k0 m) (l.take k))) :: Own 34 4 A9 ((left (byKey k0 m) (l.take k)).length + 1) c10 ((ws (left (byKey k0 m) (l.take k))) ++ [.int .i64 v.num, .string (str v.key), .int .i64 v.waiter, .int .i64 v.holder]) :: L) w := s
        replace s := s.at_ (j := 5) rfl
        replace s : St W (Own 34 4 A9 ((left (byKey k0 m) (l.take k)).length + 1) c10 ((ws (left (byKey k0 m) (l.take k))) ++ [.int .i64 v.num, .string (str v.key), .int .i64 v.waiter, .int .i64 v.holder]) :: .blk g [.slice (some ad) n c] 64 :: Own 34 4 (some ad) n c (ws l) :: .blk g8 [.int .i64 v.num, .string (str v.key), .int .i64 v.waiter, .int .i64 v.holder] 34 :: .blk g1 [.int .i64 v.num, .string (str v.key), .int .i64 v.waiter, .int .i64 v.holder] 34 :: Own 34 4 Ao ((out (byKey k0 m) (l.take k)).length) co (ws (out (byKey k0 m) (l.take k))) :: L) w := s
        replace s := s.at_ (j := 5) rfl
        replace s : St W (Own 34 4 Ao ((out (byKey k0 m) (l.take k)).length) co (ws (out (byKey k0 m) (l.take k))) :: Own 34 4 A9 ((left (byKey k0 m) (l.take k)).length + 1) c10 ((ws (left (byKey k0 m) (l.take k))) ++ [.int .i64 v.num, .string (str v.key), .int .i64 v.waiter, .int .i64 v.holder]) :: .blk g [.slice (some ad) n c] 64 :: Own 34 4 (some ad) n c (ws l) :: .blk g8 [.int .i64 v.num, .string (str v.key), .int .i64 v.waiter, .int .i64 v.holder] 34 :: .blk g1 [.int .i64 v.num, .string (str v.key), .int .i64 v.waiter, .int .i64 v.holder] 34 :: L) w := s
        replace s : St W (Own 34 4 Ao ((out (byKey k0 m) (l.take k)).length) co (ws (out (byKey k0 m) (l.take k))) :: Own 34 4 A9 ((left (byKey k0 m) (l.take k)).length + 1) c10 ((ws (left (byKey k0 m) (l.take k))) ++ [.int .i64 v.num, .string (str v.key), .int .i64 v.waiter, .int .i64 v.holder]) :: .blk g [.slice (some ad) n c] 64 :: Own 34 4 (some ad) n c (ws l) :: L) w := St.mid (A := [Own 34 4 Ao ((out (byKey k0 m) (l.take k)).length) co (ws (out (byKey k0 m) (l.take k))), Own 34 4 A9 ((left (byKey k0 m) (l.take k)).length + 1) c10 ((ws (left (byKey k0 m) (l.take k))) ++ [.int .i64 v.num, .string (str v.key), .int .i64 v.waiter, .int .i64 v.holder]), .blk g [.slice (some ad) n c] 64, Own 34 4 (some ad) n c (ws l)]) (B := [.blk g8 [.int .i64 v.num, .string (str v.key), .int .i64 v.waiter, .int .i64 v.holder] 34, .blk g1 [.int .i64 v.num, .string (str v.key), .int .i64 v.waiter, .int .i64 v.holder] 34]) s
        have hpv : (byKey k0 m) v = false := by simp_all [byNum, byHolder, byKey]
        have e1 := out_no (p := (byKey k0 m)) hv hpv
        have e2 := left_snoc_yes (p := (byKey k0 m)) hv hpv
        have e3 := congrArg List.length e1
        have e4 := congrArg List.length e2
        rw [List.length_append] at e4
        replace s : St W (Own 34 4 Ao ((out (byKey k0 m) (l.take (k + 1))).length) co (ws (out (byKey k0 m) (l.take (k + 1)))) :: Own 34 4 A9 ((left (byKey k0 m) (l.take (k + 1))).length) c10 (ws (left (byKey k0 m) (l.take (k + 1)))) :: .blk g [.slice (some ad) n c] 64 :: Own 34 4 (some ad) n c (ws l) :: L) w := by rw [e3, e4, e1, e2, ws_append]; exact s
        exact ⟨(k + 1, Ao, co, A9, c10), (show n - (k + 1) < n - k by omega), (Has.cons ha (by kernel_rfl) (by kernel_rfl) (Has.cons ha (by kernel_rfl) (by kernel_rfl) (Has.cons ha (by kernel_rfl) (by kernel_rfl) (Has.cons ha (by kernel_rfl) (by kernel_rfl) (Has.cons ha (by kernel_rfl) (by rw [e3]; rfl) (Has.cons ha (by kernel_rfl) (by rw [e4]; rfl) (Has.cons ha (by kernel_rfl) (by kernel_rfl) (Has.nil ha)))))))), s, (show k + 1 ≤ n by omega)⟩
    · rw [hb] at ha; replace hb : ¬ (((k : Nat) : Int) < ((n : Nat) : Int)) := of_decide_eq_false hb
      have hk : k = n := by omega
      rw [hk, List.take_of_length_le (by omega)] at s ha
      replace s : St W (Own 34 4 Ao ((out (byKey k0 m) l).length) co (ws (out (byKey k0 m) l)) :: Own 34 4 Al ((left (byKey k0 m) l).length) cl (ws (left (byKey k0 m) l)) :: .blk g [.slice A n c] 64 :: Own 34 4 A n c (ws l) :: L) w := s
      refine wp_exit ?_
      refine then_exit ?_
      refine then_exit ?_
      refine block_hit ?_
      refine then_normal ?_
      refine wp_seq ?_
      refine wp_region_lit ?_
      refine st_val (.pointer (some ⟨g, 0, none⟩)) ha (by kernel_rfl) (by kernel_rfl) ?_
      clear ha; intro a ha
      refine st_val (.slice Al ((left (byKey k0 m) l).length) cl) ha (by kernel_rfl) (by kernel_rfl) ?_
      clear ha; intro a ha
      refine st_val (.pointer (some ⟨g, 0, none⟩)) ha (by kernel_rfl) (by kernel_rfl) ?_
      clear ha; intro a ha
      refine st_val (.pointer (some ⟨g, 0, none⟩)) ha (by kernel_rfl) (by kernel_rfl) ?_
      clear ha; intro a ha
      refine st_exd ha (by kernel_rfl) (ex_store (of_ := 0) 2 [.slice Al ((left (byKey k0 m) l).length) cl] s rfl rfl (by kernel_rfl) (by kernel_rfl) (Try.sizeOf39 _) rfl (by simp [Value.oneCell']) (Nat.le_of_ble_eq_true rfl)) ?_
      clear ha; rintro w a s ha
      replace s : St W (Own 34 4 Ao ((out (byKey k0 m) l).length) co (ws (out (byKey k0 m) l)) :: Own 34 4 Al ((left (byKey k0 m) l).length) cl (ws (left (byKey k0 m) l)) :: .blk g [.slice Al ((left (byKey k0 m) l).length) cl] 64 :: Own 34 4 A n c (ws l) :: L) w := s
      refine wpList_nil ?_
      refine then_normal ?_
      refine wp_seq ?_
      refine wp_region_lit ?_
      refine st_val (.slice Ao ((out (byKey k0 m) l).length) co) ha (by kernel_rfl) (by kernel_rfl) ?_
      clear ha; intro a ha
      refine st_val (.slice Ao ((out (byKey k0 m) l).length) co) ha (by kernel_rfl) (by kernel_rfl) ?_
      clear ha; intro a ha
      refine wpList_nil ?_
      refine then_normal ?_
      refine wp_ret ?_
      refine ret_with (v := .slice Ao ((out (byKey k0 m) l).length) co) ha (results_1 rfl ha (res_tmp (by kernel_rfl) (by kernel_rfl))) ?_
      replace s := s.at_ (j := 1) rfl
      replace s : St W (Own 34 4 Al ((left (byKey k0 m) l).length) cl (ws (left (byKey k0 m) l)) :: Own 34 4 Ao ((out (byKey k0 m) l).length) co (ws (out (byKey k0 m) l)) :: .blk g [.slice Al ((left (byKey k0 m) l).length) cl] 64 :: Own 34 4 A n c (ws l) :: L) w := s
      replace s := s.at_ (j := 2) rfl
      replace s : St W (.blk g [.slice Al ((left (byKey k0 m) l).length) cl] 64 :: Own 34 4 Al ((left (byKey k0 m) l).length) cl (ws (left (byKey k0 m) l)) :: Own 34 4 Ao ((out (byKey k0 m) l).length) co (ws (out (byKey k0 m) l)) :: Own 34 4 A n c (ws l) :: L) w := s
      replace s := s.at_ (j := 2) rfl
      replace s : St W (Own 34 4 Ao ((out (byKey k0 m) l).length) co (ws (out (byKey k0 m) l)) :: .blk g [.slice Al ((left (byKey k0 m) l).length) cl] 64 :: Own 34 4 Al ((left (byKey k0 m) l).length) cl (ws (left (byKey k0 m) l)) :: Own 34 4 A n c (ws l) :: L) w := s
      replace s : St W (Own 34 4 Ao ((out (byKey k0 m) l).length) co (ws (out (byKey k0 m) l)) :: .blk g [.slice Al ((left (byKey k0 m) l).length) cl] 64 :: Own 34 4 Al ((left (byKey k0 m) l).length) cl (ws (left (byKey k0 m) l)) :: L) w := St.mid (A := [Own 34 4 Ao ((out (byKey k0 m) l).length) co (ws (out (byKey k0 m) l)), .blk g [.slice Al ((left (byKey k0 m) l).length) cl] 64, Own 34 4 Al ((left (byKey k0 m) l).length) cl (ws (left (byKey k0 m) l))]) (B := [Own 34 4 A n c (ws l)]) s
      exact ⟨_, _, _, _, rfl, s⟩

theorem rfree_any (W : World) (L : List Chunk) (w : World) (g : Nat) (A : Option Addr) (n c : Nat) (l : List Wt) (hl : l.length = n) (hn : n ≤ 100) (m : Int) (s : St W (.blk g [.slice A n c] 64 :: Own 34 4 A n c (ws l) :: L) w) :
    Calls Try.prog 17 #[.pointer (some ⟨g, 0, none⟩), .int .i64 m] w fun e w' => ∃ A' c' A1 c1, e = .returned (.slice A' (out (byHolder m) l).length c') ∧ St W (Own 34 4 A' (out (byHolder m) l).length c' (ws (out (byHolder m) l)) :: .blk g [.slice A1 (left (byHolder m) l).length c1] 64 :: Own 34 4 A1 (left (byHolder m) l).length c1 (ws (left (byHolder m) l)) :: L) w' := by
  refine enter_args (l := [.pointer (some ⟨g, 0, none⟩), .int .i64 m]) Try.func17 rfl rfl (Nat.le_of_ble_eq_true rfl) ?_
  intro a ha; replace ha : Has a 8 [(0, .pointer (some ⟨g, 0, none⟩)), (1, .int .i64 m)] := ha
  refine wp_seq ?_
  refine wp_region_lit ?_
  refine st_val (.slice none 0 0) ha (by kernel_rfl) (by kernel_rfl) ?_
  clear ha; intro a ha
  refine wpList_nil ?_
  refine then_normal ?_
  refine wp_seq ?_
  refine wp_region_lit ?_
  refine st_val (.pointer (some ⟨g, 0, none⟩)) ha (by kernel_rfl) (by kernel_rfl) ?_
  clear ha; intro a ha
  refine st_val (.int .i64 m) ha (by kernel_rfl) (by kernel_rfl) ?_
  clear ha; intro a ha
  refine st_call ha (by kernel_rfl) (by kernel_rfl) (roff_holder W _ w g A n c l hl hn m s) ?_
  rintro _ w ⟨A1, c2, A3, c4, rfl, s⟩
  replace s : St W (Own 34 4 A1 ((out (byHolder m) l).length) c2 (ws (out (byHolder m) l)) :: .blk g [.slice A3 ((left (byHolder m) l).length) c4] 64 :: Own 34 4 A3 ((left (byHolder m) l).length) c4 (ws (left (byHolder m) l)) :: L) w := s
  refine ⟨_, rfl, ?_⟩; clear ha; intro a ha
  refine st_val (.slice A1 ((out (byHolder m) l).length) c2) ha (by kernel_rfl) (by kernel_rfl) ?_
  clear ha; intro a ha
  refine wpList_nil ?_
  refine then_normal ?_
  refine wp_ret ?_
  refine ret_with (v := .slice A1 ((out (byHolder m) l).length) c2) ha (results_1 rfl ha (res_tmp (by kernel_rfl) (by kernel_rfl))) ?_
  exact ⟨_, _, _, _, rfl, s⟩

theorem rat_any (W : World) (L : List Chunk) (w : World) (g : Nat) (A : Option Addr) (n c : Nat) (l : List Wt) (hl : l.length = n) (hn : n ≤ 100) (k0 : List UInt8) (m : Int) (s : St W (.blk g [.slice A n c] 64 :: Own 34 4 A n c (ws l) :: L) w) :
    Calls Try.prog 14 #[.pointer (some ⟨g, 0, none⟩), .string (str k0), .int .i64 m] w fun e w' => ∃ A' c' A1 c1, e = .returned (.slice A' (out (byKey k0 m) l).length c') ∧ St W (Own 34 4 A' (out (byKey k0 m) l).length c' (ws (out (byKey k0 m) l)) :: .blk g [.slice A1 (left (byKey k0 m) l).length c1] 64 :: Own 34 4 A1 (left (byKey k0 m) l).length c1 (ws (left (byKey k0 m) l)) :: L) w' := by
  refine enter_args (l := [.pointer (some ⟨g, 0, none⟩), .string (str k0), .int .i64 m]) Try.func14 rfl rfl (Nat.le_of_ble_eq_true rfl) ?_
  intro a ha; replace ha : Has a 11 [(0, .pointer (some ⟨g, 0, none⟩)), (1, .string (str k0)), (2, .int .i64 m)] := ha
  refine wp_seq ?_
  refine wp_region_lit ?_
  refine st_val (.slice none 0 0) ha (by kernel_rfl) (by kernel_rfl) ?_
  clear ha; intro a ha
  refine wpList_nil ?_
  refine then_normal ?_
  refine wp_seq ?_
  refine wp_region_lit ?_
  refine st_val (.pointer (some ⟨g, 0, none⟩)) ha (by kernel_rfl) (by kernel_rfl) ?_
  clear ha; intro a ha
  refine st_val (.int .i64 m) ha (by kernel_rfl) (by kernel_rfl) ?_
  clear ha; intro a ha
  refine st_val (.string (str k0)) ha (by kernel_rfl) (by kernel_rfl) ?_
  clear ha; intro a ha
  refine st_call ha (by kernel_rfl) (by kernel_rfl) (roff_key W _ w g A n c l hl hn k0 m s) ?_
  rintro _ w ⟨A1, c2, A3, c4, rfl, s⟩
  replace s : St W (Own 34 4 A1 ((out (byKey k0 m) l).length) c2 (ws (out (byKey k0 m) l)) :: .blk g [.slice A3 ((left (byKey k0 m) l).length) c4] 64 :: Own 34 4 A3 ((left (byKey k0 m) l).length) c4 (ws (left (byKey k0 m) l)) :: L) w := s
  refine ⟨_, rfl, ?_⟩; clear ha; intro a ha
  refine st_val (.slice A1 ((out (byKey k0 m) l).length) c2) ha (by kernel_rfl) (by kernel_rfl) ?_
  clear ha; intro a ha
  refine wpList_nil ?_
  refine then_normal ?_
  refine wp_ret ?_
  refine ret_with (v := .slice A1 ((out (byKey k0 m) l).length) c2) ha (results_1 rfl ha (res_tmp (by kernel_rfl) (by kernel_rfl))) ?_
  exact ⟨_, _, _, _, rfl, s⟩

theorem rtake_any (W : World) (L : List Chunk) (w : World) (g : Nat) (A : Option Addr) (n c : Nat) (l : List Wt) (hl : l.length = n) (hn : n ≤ 100) (m : Int) (s : St W (.blk g [.slice A n c] 64 :: Own 34 4 A n c (ws l) :: L) w) :
    Calls Try.prog 12 #[.pointer (some ⟨g, 0, none⟩), .int .i64 m] w fun e w' => ∃ A1 c1, e = .returned (.tuple #[.agg #[.int .i64 (hd (out (byNum m) l)).num, .string (str (hd (out (byNum m) l)).key), .int .i64 (hd (out (byNum m) l)).waiter, .int .i64 (hd (out (byNum m) l)).holder], .bool (!(out (byNum m) l).isEmpty)]) ∧ St W (.blk g [.slice A1 (left (byNum m) l).length c1] 64 :: Own 34 4 A1 (left (byNum m) l).length c1 (ws (left (byNum m) l)) :: L) w' := by
  refine enter_args (l := [.pointer (some ⟨g, 0, none⟩), .int .i64 m]) Try.func12 rfl rfl (Nat.le_of_ble_eq_true rfl) ?_
  intro a ha; replace ha : Has a 17 [(0, .pointer (some ⟨g, 0, none⟩)), (1, .int .i64 m)] := ha
  refine wp_seq ?_
  refine wp_region_lit ?_
  refine st_ex ha (by kernel_rfl) (ex_alloc [.int .i64 0, .string (str []), .int .i64 0, .int .i64 0] s rfl (Try.zeroValue34 _) (by kernel_rfl)) ?_
  clear ha; rintro _ w a ⟨g1, rfl, s⟩ ha
  replace s : St W (.blk g1 [.int .i64 0, .string (str []), .int .i64 0, .int .i64 0] 34 :: .blk g [.slice A n c] 64 :: Own 34 4 A n c (ws l) :: L) w := s
  refine st_val (.bool false) ha (by kernel_rfl) (by kernel_rfl) ?_
  clear ha; intro a ha
  refine wpList_nil ?_
  refine then_normal ?_
  refine wp_seq ?_
  refine wp_region_lit ?_
  refine st_val (.pointer (some ⟨g, 0, none⟩)) ha (by kernel_rfl) (by kernel_rfl) ?_
  clear ha; intro a ha
  refine st_val (.int .i64 m) ha (by kernel_rfl) (by kernel_rfl) ?_
  clear ha; intro a ha
  replace s := s.at_ (j := 2) rfl
  replace s : St W (Own 34 4 A n c (ws l) :: .blk g1 [.int .i64 0, .string (str []), .int .i64 0, .int .i64 0] 34 :: .blk g [.slice A n c] 64 :: L) w := s
  replace s := s.at_ (j := 2) rfl
  replace s : St W (.blk g [.slice A n c] 64 :: Own 34 4 A n c (ws l) :: .blk g1 [.int .i64 0, .string (str []), .int .i64 0, .int .i64 0] 34 :: L) w := s
  refine st_call ha (by kernel_rfl) (by kernel_rfl) (roff_num W _ w g A n c l hl hn m s) ?_
  rintro _ w ⟨A2, c3, A4, c5, rfl, s⟩
  replace s : St W (Own 34 4 A2 ((out (byNum m) l).length) c3 (ws (out (byNum m) l)) :: .blk g [.slice A4 ((left (byNum m) l).length) c5] 64 :: Own 34 4 A4 ((left (byNum m) l).length) c5 (ws (left (byNum m) l)) :: .blk g1 [.int .i64 0, .string (str []), .int .i64 0, .int .i64 0] 34 :: L) w := s
  refine ⟨_, rfl, ?_⟩; clear ha; intro a ha
  refine st_val (.slice A2 ((out (byNum m) l).length) c3) ha (by kernel_rfl) (by kernel_rfl) ?_
  clear ha; intro a ha
  refine wpList_nil ?_
  refine then_normal ?_
  refine wp_seq ?_
  refine wp_seq ?_
  refine wp_region_lit ?_
  refine st_val (.slice A2 ((out (byNum m) l).length) c3) ha (by kernel_rfl) (by kernel_rfl) ?_
  clear ha; intro a ha
  refine st_val (.int .i64 (((out (byNum m) l).length : Nat) : Int)) ha (by kernel_rfl) (by kernel_rfl) ?_
  clear ha; intro a ha
  refine st_val (.bool ((((out (byNum m) l).length : Nat) : Int) == (0 : Int))) ha (by kernel_rfl) (by kernel_rfl) ?_
  clear ha; intro a ha
  refine wpList_nil ?_
  refine then_normal ?_
  refine wp_part ((((out (byNum m) l).length : Nat) : Int) == (0 : Int)) ha rfl (by kernel_rfl) (fun hb => ?_) (fun hb => ?_)
  · rw [hb] at ha; have hb_ := hb; replace hb := eq_of_beq hb
    have ho : (out (byNum m) l) = [] := List.eq_nil_of_length_eq_zero (by omega)
    refine wp_seq ?_
    refine wp_region_lit ?_
    refine st_val (.agg #[.int .i64 0, .string (str []), .int .i64 0, .int .i64 0]) ha (by kernel_rfl) (by kernel_rfl) ?_
    clear ha; intro a ha
    refine st_exd ha (by kernel_rfl) (ex_store (of_ := 0) 3 [.int .i64 0, .string (str []), .int .i64 0, .int .i64 0] s rfl rfl (by kernel_rfl) (by kernel_rfl) (Try.sizeOf34 _) rfl (by simp [Value.oneCell']) (Nat.le_of_ble_eq_true rfl)) ?_
    clear ha; rintro w a s ha
    replace s : St W (Own 34 4 A2 ((out (byNum m) l).length) c3 (ws (out (byNum m) l)) :: .blk g [.slice A4 ((left (byNum m) l).length) c5] 64 :: Own 34 4 A4 ((left (byNum m) l).length) c5 (ws (left (byNum m) l)) :: .blk g1 [.int .i64 0, .string (str []), .int .i64 0, .int .i64 0] 34 :: L) w := s
    refine st_val (.bool false) ha (by kernel_rfl) (by kernel_rfl) ?_
    clear ha; intro a ha
    refine wpList_nil ?_
    refine then_normal ?_
    refine wp_ret ?_
    refine then_ret ?_
    refine ret_with (v := .tuple #[.agg #[.int .i64 0, .string (str []), .int .i64 0, .int .i64 0], .bool false]) ha (results_2 rfl ha (res_cellN (s.blkIs 3 rfl) (by kernel_rfl) (by kernel_rfl) Try.isAgg34 Try.sizeOf34 rfl) (res_tmp (by kernel_rfl) (by kernel_rfl))) ?_
    replace s := s.at_ (j := 2) rfl
    replace s : St W (Own 34 4 A4 ((left (byNum m) l).length) c5 (ws (left (byNum m) l)) :: Own 34 4 A2 ((out (byNum m) l).length) c3 (ws (out (byNum m) l)) :: .blk g [.slice A4 ((left (byNum m) l).length) c5] 64 :: .blk g1 [.int .i64 0, .string (str []), .int .i64 0, .int .i64 0] 34 :: L) w := s
    replace s := s.at_ (j := 2) rfl
    replace s : St W (.blk g [.slice A4 ((left (byNum m) l).length) c5] 64 :: Own 34 4 A4 ((left (byNum m) l).length) c5 (ws (left (byNum m) l)) :: Own 34 4 A2 ((out (byNum m) l).length) c3 (ws (out (byNum m) l)) :: .blk g1 [.int .i64 0, .string (str []), .int .i64 0, .int .i64 0] 34 :: L) w := s
    replace s : St W (.blk g [.slice A4 ((left (byNum m) l).length) c5] 64 :: Own 34 4 A4 ((left (byNum m) l).length) c5 (ws (left (byNum m) l)) :: L) w := St.mid (A := [.blk g [.slice A4 ((left (byNum m) l).length) c5] 64, Own 34 4 A4 ((left (byNum m) l).length) c5 (ws (left (byNum m) l))]) (B := [Own 34 4 A2 ((out (byNum m) l).length) c3 (ws (out (byNum m) l)), .blk g1 [.int .i64 0, .string (str []), .int .i64 0, .int .i64 0] 34]) s
    refine ⟨_, _, ?_, s⟩
    rw [ho]
    rfl
  · rw [hb] at ha; have hb_ := hb; replace hb := ne_of_beq_false hb
    have hol : 0 < (out (byNum m) l).length := by omega
    obtain ⟨x, xs, ho⟩ := List.exists_cons_of_length_pos hol
    obtain ⟨ad, hA⟩ := Own.addr (s.at_ (j := 0) rfl) (by omega)
    subst hA
    refine wp_skip ?_
    refine then_normal ?_
    refine wp_seq ?_
    refine wp_region_lit ?_
    refine st_val (.slice (some ad) ((out (byNum m) l).length) c3) ha (by kernel_rfl) (by kernel_rfl) ?_
    clear ha; intro a ha
    refine st_val (.pointer (some (ad.add (0 * 4)))) ha (by kernel_rfl) (run_indexAddr' (kd := .i64) (i := 0) (n := ((out (byNum m) l).length)) (c := c3) 0 rfl Try.underlying39 Try.sizeOf34 (by kernel_rfl) (by kernel_rfl) rfl (by first | assumption | omega) _) ?_
    clear ha; intro a ha
    refine st_val (.agg #[.int .i64 x.num, .string (str x.key), .int .i64 x.waiter, .int .i64 x.holder]) ha (by kernel_rfl) (run_loadAtN (i := 0 * 4) [.int .i64 x.num, .string (str x.key), .int .i64 x.waiter, .int .i64 x.holder] ((Own.reads (s.at_ (j := 0) rfl).1)) rfl (by kernel_rfl) Try.isAgg34 Try.sizeOf34 (fun q_ hq_ => ws_at (show (out (byNum m) l)[0]? = some x from by rw [ho]; rfl) hq_) rfl) ?_
    clear ha; intro a ha
    refine st_exd ha (by kernel_rfl) (ex_store (of_ := 0) 3 [.int .i64 x.num, .string (str x.key), .int .i64 x.waiter, .int .i64 x.holder] s rfl rfl (by kernel_rfl) (by kernel_rfl) (Try.sizeOf34 _) rfl (by simp [Value.oneCell']) (Nat.le_of_ble_eq_true rfl)) ?_
    clear ha; rintro w a s ha
    replace s : St W (Own 34 4 (some ad) ((out (byNum m) l).length) c3 (ws (out (byNum m) l)) :: .blk g [.slice A4 ((left (byNum m) l).length) c5] 64 :: Own 34 4 A4 ((left (byNum m) l).length) c5 (ws (left (byNum m) l)) :: .blk g1 [.int .i64 x.num, .string (str x.key), .int .i64 x.waiter, .int .i64 x.holder] 34 :: L) w := s
    refine st_val (.bool true) ha (by kernel_rfl) (by kernel_rfl) ?_
    clear ha; intro a ha
    refine wpList_nil ?_
    refine then_normal ?_
    refine wp_ret ?_
    refine ret_with (v := .tuple #[.agg #[.int .i64 x.num, .string (str x.key), .int .i64 x.waiter, .int .i64 x.holder], .bool true]) ha (results_2 rfl ha (res_cellN (s.blkIs 3 rfl) (by kernel_rfl) (by kernel_rfl) Try.isAgg34 Try.sizeOf34 rfl) (res_tmp (by kernel_rfl) (by kernel_rfl))) ?_
    replace s := s.at_ (j := 2) rfl
    replace s : St W (Own 34 4 A4 ((left (byNum m) l).length) c5 (ws (left (byNum m) l)) :: Own 34 4 (some ad) ((out (byNum m) l).length) c3 (ws (out (byNum m) l)) :: .blk g [.slice A4 ((left (byNum m) l).length) c5] 64 :: .blk g1 [.int .i64 x.num, .string (str x.key), .int .i64 x.waiter, .int .i64 x.holder] 34 :: L) w := s
    replace s := s.at_ (j := 2) rfl
    replace s : St W (.blk g [.slice A4 ((left (byNum m) l).length) c5] 64 :: Own 34 4 A4 ((left (byNum m) l).length) c5 (ws (left (byNum m) l)) :: Own 34 4 (some ad) ((out (byNum m) l).length) c3 (ws (out (byNum m) l)) :: .blk g1 [.int .i64 x.num, .string (str x.key), .int .i64 x.waiter, .int .i64 x.holder] 34 :: L) w := s
    replace s : St W (.blk g [.slice A4 ((left (byNum m) l).length) c5] 64 :: Own 34 4 A4 ((left (byNum m) l).length) c5 (ws (left (byNum m) l)) :: L) w := St.mid (A := [.blk g [.slice A4 ((left (byNum m) l).length) c5] 64, Own 34 4 A4 ((left (byNum m) l).length) c5 (ws (left (byNum m) l))]) (B := [Own 34 4 (some ad) ((out (byNum m) l).length) c3 (ws (out (byNum m) l)), .blk g1 [.int .i64 x.num, .string (str x.key), .int .i64 x.waiter, .int .i64 x.holder] 34]) s
    refine ⟨_, _, ?_, s⟩
    rw [ho]
    rfl

theorem rlen_any (W : World) (L : List Chunk) (w : World) (g : Nat) (A : Option Addr) (n c : Nat) (l : List Wt) (hl : l.length = n) (hn : n ≤ 100) (s : St W (.blk g [.slice A n c] 64 :: Own 34 4 A n c (ws l) :: L) w) :
    Calls Try.prog 24 #[.pointer (some ⟨g, 0, none⟩)] w fun e w' => e = .returned (.int .i64 ((n : Nat) : Int)) ∧ St W (.blk g [.slice A n c] 64 :: Own 34 4 A n c (ws l) :: L) w' := by
  refine enter_args (l := [.pointer (some ⟨g, 0, none⟩)]) Try.func24 rfl rfl (Nat.le_of_ble_eq_true rfl) ?_
  intro a ha; replace ha : Has a 8 [(0, .pointer (some ⟨g, 0, none⟩))] := ha
  refine wp_seq ?_
  refine wp_region_lit ?_
  refine st_val (.int .i64 0) ha (by kernel_rfl) (by kernel_rfl) ?_
  clear ha; intro a ha
  refine wpList_nil ?_
  refine then_normal ?_
  refine wp_seq ?_
  refine wp_region_lit ?_
  refine st_val (.pointer (some ⟨g, 0, none⟩)) ha (by kernel_rfl) (by kernel_rfl) ?_
  clear ha; intro a ha
  refine st_val (.pointer (some ⟨g, 0, none⟩)) ha (by kernel_rfl) (by kernel_rfl) ?_
  clear ha; intro a ha
  refine st_val (.pointer (some ⟨g, 0, none⟩)) ha (by kernel_rfl) (by kernel_rfl) ?_
  clear ha; intro a ha
  refine st_val (.slice A n c) ha (by kernel_rfl) (run_load1 (of_ := 0) (s.blkIs 0 rfl) rfl (by kernel_rfl) Try.isAgg39 rfl) ?_
  clear ha; intro a ha
  refine st_val (.int .i64 ((n : Nat) : Int)) ha (by kernel_rfl) (by kernel_rfl) ?_
  clear ha; intro a ha
  refine st_val (.int .i64 ((n : Nat) : Int)) ha (by kernel_rfl) (by kernel_rfl) ?_
  clear ha; intro a ha
  refine wpList_nil ?_
  refine then_normal ?_
  refine wp_ret ?_
  refine ret_with (v := .int .i64 ((n : Nat) : Int)) ha (results_1 rfl ha (res_tmp (by kernel_rfl) (by kernel_rfl))) ?_
  exact ⟨rfl, s⟩

theorem rnew_any (W : World) (L : List Chunk) (w : World) (s : St W L w) :
    Calls Try.prog 9 #[] w fun e w' => ∃ g, e = .returned (.pointer (some ⟨g, 0, none⟩)) ∧ St W (.blk g [.slice none 0 0] 64 :: L) w' := by
  refine enter_args (l := []) Try.func9 rfl rfl (Nat.le_of_ble_eq_true rfl) ?_
  intro a ha; replace ha : Has a 3 [] := ha
  refine wp_seq ?_
  refine wp_region_lit ?_
  refine st_val (.pointer none) ha (by kernel_rfl) (by kernel_rfl) ?_
  clear ha; intro a ha
  refine wpList_nil ?_
  refine then_normal ?_
  refine wp_seq ?_
  refine wp_region_lit ?_
  refine st_val (.agg #[.slice none 0 0]) ha (by kernel_rfl) (by kernel_rfl) ?_
  clear ha; intro a ha
  refine st_ex ha (by kernel_rfl) (ex_box [.slice none 0 0] s rfl (by kernel_rfl)) ?_
  clear ha; rintro _ w a ⟨g1, rfl, s⟩ ha
  replace s : St W (.blk g1 [.slice none 0 0] 64 :: L) w := s
  refine st_val (.pointer (some ⟨g1, 0, none⟩)) ha (by kernel_rfl) (by kernel_rfl) ?_
  clear ha; intro a ha
  refine wpList_nil ?_
  refine then_normal ?_
  refine wp_ret ?_
  refine ret_with (v := .pointer (some ⟨g1, 0, none⟩)) ha (results_1 rfl ha (res_tmp (by kernel_rfl) (by kernel_rfl))) ?_
  exact ⟨_, rfl, s⟩

theorem radd_any (W : World) (L : List Chunk) (w : World) (g : Nat) (A : Option Addr) (n c : Nat) (l : List Wt) (hl : l.length = n) (hn : n ≤ 100) (x : Wt) (s : St W (.blk g [.slice A n c] 64 :: Own 34 4 A n c (ws l) :: L) w) :
    Calls Try.prog 19 #[.pointer (some ⟨g, 0, none⟩), .agg #[.int .i64 x.num, .string (str x.key), .int .i64 x.waiter, .int .i64 x.holder]] w fun e w' => ∃ A' c', e = .returned (.int .i64 (addCode x l)) ∧ St W (.blk g [.slice A' (add x l).length c'] 64 :: Own 34 4 A' (add x l).length c' (ws (add x l)) :: L) w' := by
  refine enter_args (l := [.pointer (some ⟨g, 0, none⟩), .agg #[.int .i64 x.num, .string (str x.key), .int .i64 x.waiter, .int .i64 x.holder]]) Try.func19 rfl rfl (Nat.le_of_ble_eq_true rfl) ?_
  intro a ha; replace ha : Has a 65 [(0, .pointer (some ⟨g, 0, none⟩)), (1, .agg #[.int .i64 x.num, .string (str x.key), .int .i64 x.waiter, .int .i64 x.holder])] := ha
  refine wp_seq ?_
  refine wp_region_lit ?_
  refine st_ex ha (by kernel_rfl) (ex_box [.int .i64 x.num, .string (str x.key), .int .i64 x.waiter, .int .i64 x.holder] s rfl (by kernel_rfl)) ?_
  clear ha; rintro _ w a ⟨g1, rfl, s⟩ ha
  replace s : St W (.blk g1 [.int .i64 x.num, .string (str x.key), .int .i64 x.waiter, .int .i64 x.holder] 34 :: .blk g [.slice A n c] 64 :: Own 34 4 A n c (ws l) :: L) w := s
  refine st_val (.int .i64 0) ha (by kernel_rfl) (by kernel_rfl) ?_
  clear ha; intro a ha
  refine wpList_nil ?_
  refine then_normal ?_
  refine wp_seq ?_
  refine wp_seq ?_
  refine wp_region_lit ?_
  refine st_val (.pointer (some ⟨g1, 0, none⟩)) ha (by kernel_rfl) (by kernel_rfl) ?_
  clear ha; intro a ha
  refine st_val (.int .i64 x.num) ha (by kernel_rfl) (run_load1 (of_ := 0) (s.blkIs 0 rfl) rfl (by kernel_rfl) Try.isAgg3 rfl) ?_
  clear ha; intro a ha
  refine st_call ha (by kernel_rfl) (by kernel_rfl) (rid_any W _ w x.num s) ?_
  rintro _ w ⟨rfl, s⟩
  replace s : St W (.blk g1 [.int .i64 x.num, .string (str x.key), .int .i64 x.waiter, .int .i64 x.holder] 34 :: .blk g [.slice A n c] 64 :: Own 34 4 A n c (ws l) :: L) w := s
  refine ⟨_, rfl, ?_⟩; clear ha; intro a ha
  refine st_val (.bool (!(isIdB x.num))) ha (by kernel_rfl) (by kernel_rfl) ?_
  clear ha; intro a ha
  refine st_val (.bool (!(isIdB x.num))) ha (by kernel_rfl) (by kernel_rfl) ?_
  clear ha; intro a ha
  rcases Bool.eq_false_or_eq_true (!(isIdB x.num)) with hb | hb
  · rw [hb] at ha; skip
    have h1 := hb
    refine st_pass ha (by kernel_rfl) ?_
    clear ha; intro a ha
    refine st_pass ha (by kernel_rfl) ?_
    clear ha; intro a ha
    refine st_pass ha (by kernel_rfl) ?_
    clear ha; intro a ha
    refine st_pass ha (by kernel_rfl) ?_
    clear ha; intro a ha
    refine st_val (.bool true) ha (by kernel_rfl) (by kernel_rfl) ?_
    clear ha; intro a ha
    refine st_val (.bool true) ha (by kernel_rfl) (by kernel_rfl) ?_
    clear ha; intro a ha
    refine st_pass ha (by kernel_rfl) ?_
    clear ha; intro a ha
    refine st_pass ha (by kernel_rfl) ?_
    clear ha; intro a ha
    refine st_pass ha (by kernel_rfl) ?_
    clear ha; intro a ha
    refine st_pass ha (by kernel_rfl) ?_
    clear ha; intro a ha
    refine st_val (.bool true) ha (by kernel_rfl) (by kernel_rfl) ?_
    clear ha; intro a ha
    refine st_val (.bool true) ha (by kernel_rfl) (by kernel_rfl) ?_
    clear ha; intro a ha
    refine st_pass ha (by kernel_rfl) ?_
    clear ha; intro a ha
    refine st_pass ha (by kernel_rfl) ?_
    clear ha; intro a ha
    refine st_pass ha (by kernel_rfl) ?_
    clear ha; intro a ha
    refine st_pass ha (by kernel_rfl) ?_
    clear ha; intro a ha
    refine st_pass ha (by kernel_rfl) ?_
    clear ha; intro a ha
    refine st_val (.bool true) ha (by kernel_rfl) (by kernel_rfl) ?_
    clear ha; intro a ha
    refine wpList_nil ?_
    refine then_normal ?_
    refine wp_true ha rfl (by kernel_rfl) ?_
    refine wp_seq ?_
    refine wp_region_lit ?_
    refine st_val (.int .i64 2) ha (by kernel_rfl) (by kernel_rfl) ?_
    clear ha; intro a ha
    refine wpList_nil ?_
    refine then_normal ?_
    refine wp_ret ?_
    refine then_ret ?_
    refine ret_with (v := .int .i64 2) ha (results_1 rfl ha (res_tmp (by kernel_rfl) (by kernel_rfl))) ?_
    replace s := s.at_ (j := 2) rfl
    replace s : St W (Own 34 4 A n c (ws l) :: .blk g1 [.int .i64 x.num, .string (str x.key), .int .i64 x.waiter, .int .i64 x.holder] 34 :: .blk g [.slice A n c] 64 :: L) w := s
    replace s := s.at_ (j := 2) rfl
    replace s : St W (.blk g [.slice A n c] 64 :: Own 34 4 A n c (ws l) :: .blk g1 [.int .i64 x.num, .string (str x.key), .int .i64 x.waiter, .int .i64 x.holder] 34 :: L) w := s
    replace s : St W (.blk g [.slice A n c] 64 :: Own 34 4 A n c (ws l) :: L) w := St.mid (A := [.blk g [.slice A n c] 64, Own 34 4 A n c (ws l)]) (B := [.blk g1 [.int .i64 x.num, .string (str x.key), .int .i64 x.waiter, .int .i64 x.holder] 34]) s
    have hc : addCode x l = 2 := by unfold addCode; rw [if_pos (by intro h; unfold okW at h; simp_all)]
    refine ⟨A, c, by rw [hc], ?_⟩
    unfold add
    rw [if_neg (by rw [hc]; simp), hl]
    exact s
  · rw [hb] at ha; skip
    have h1 := hb
    refine st_val (.pointer (some ⟨g1, 2, none⟩)) ha (by kernel_rfl) (by kernel_rfl) ?_
    clear ha; intro a ha
    refine st_val (.int .i64 x.waiter) ha (by kernel_rfl) (run_load1 (of_ := 2) (s.blkIs 0 rfl) rfl (by kernel_rfl) Try.isAgg3 rfl) ?_
    clear ha; intro a ha
    refine st_call ha (by kernel_rfl) (by kernel_rfl) (rid_any W _ w x.waiter s) ?_
    rintro _ w ⟨rfl, s⟩
    replace s : St W (.blk g1 [.int .i64 x.num, .string (str x.key), .int .i64 x.waiter, .int .i64 x.holder] 34 :: .blk g [.slice A n c] 64 :: Own 34 4 A n c (ws l) :: L) w := s
    refine ⟨_, rfl, ?_⟩; clear ha; intro a ha
    refine st_val (.bool (!(isIdB x.waiter))) ha (by kernel_rfl) (by kernel_rfl) ?_
    clear ha; intro a ha
    refine st_val (.bool (!(isIdB x.waiter))) ha (by kernel_rfl) (by kernel_rfl) ?_
    clear ha; intro a ha
    refine st_val (.bool (!(isIdB x.waiter))) ha (by kernel_rfl) (by kernel_rfl) ?_
    clear ha; intro a ha
    rcases Bool.eq_false_or_eq_true (!(isIdB x.waiter)) with hb | hb
    · rw [hb] at ha; skip
      have h2 := hb
      refine st_pass ha (by kernel_rfl) ?_
      clear ha; intro a ha
      refine st_pass ha (by kernel_rfl) ?_
      clear ha; intro a ha
      refine st_pass ha (by kernel_rfl) ?_
      clear ha; intro a ha
      refine st_pass ha (by kernel_rfl) ?_
      clear ha; intro a ha
      refine st_val (.bool true) ha (by kernel_rfl) (by kernel_rfl) ?_
      clear ha; intro a ha
      refine st_val (.bool true) ha (by kernel_rfl) (by kernel_rfl) ?_
      clear ha; intro a ha
      refine st_pass ha (by kernel_rfl) ?_
      clear ha; intro a ha
      refine st_pass ha (by kernel_rfl) ?_
      clear ha; intro a ha
      refine st_pass ha (by kernel_rfl) ?_
      clear ha; intro a ha
      refine st_pass ha (by kernel_rfl) ?_
      clear ha; intro a ha
      refine st_pass ha (by kernel_rfl) ?_
      clear ha; intro a ha
      refine st_val (.bool true) ha (by kernel_rfl) (by kernel_rfl) ?_
      clear ha; intro a ha
      refine wpList_nil ?_
      refine then_normal ?_
      refine wp_true ha rfl (by kernel_rfl) ?_
      refine wp_seq ?_
      refine wp_region_lit ?_
      refine st_val (.int .i64 2) ha (by kernel_rfl) (by kernel_rfl) ?_
      clear ha; intro a ha
      refine wpList_nil ?_
      refine then_normal ?_
      refine wp_ret ?_
      refine then_ret ?_
      refine ret_with (v := .int .i64 2) ha (results_1 rfl ha (res_tmp (by kernel_rfl) (by kernel_rfl))) ?_
      replace s := s.at_ (j := 2) rfl
      replace s : St W (Own 34 4 A n c (ws l) :: .blk g1 [.int .i64 x.num, .string (str x.key), .int .i64 x.waiter, .int .i64 x.holder] 34 :: .blk g [.slice A n c] 64 :: L) w := s
      replace s := s.at_ (j := 2) rfl
      replace s : St W (.blk g [.slice A n c] 64 :: Own 34 4 A n c (ws l) :: .blk g1 [.int .i64 x.num, .string (str x.key), .int .i64 x.waiter, .int .i64 x.holder] 34 :: L) w := s
      replace s : St W (.blk g [.slice A n c] 64 :: Own 34 4 A n c (ws l) :: L) w := St.mid (A := [.blk g [.slice A n c] 64, Own 34 4 A n c (ws l)]) (B := [.blk g1 [.int .i64 x.num, .string (str x.key), .int .i64 x.waiter, .int .i64 x.holder] 34]) s
      have hc : addCode x l = 2 := by unfold addCode; rw [if_pos (by intro h; unfold okW at h; simp_all)]
      refine ⟨A, c, by rw [hc], ?_⟩
      unfold add
      rw [if_neg (by rw [hc]; simp), hl]
      exact s
    · rw [hb] at ha; skip
      have h2 := hb
      refine st_val (.pointer (some ⟨g1, 3, none⟩)) ha (by kernel_rfl) (by kernel_rfl) ?_
      clear ha; intro a ha
      refine st_val (.int .i64 x.holder) ha (by kernel_rfl) (run_load1 (of_ := 3) (s.blkIs 0 rfl) rfl (by kernel_rfl) Try.isAgg3 rfl) ?_
      clear ha; intro a ha
      refine st_call ha (by kernel_rfl) (by kernel_rfl) (rid_any W _ w x.holder s) ?_
      rintro _ w ⟨rfl, s⟩
      replace s : St W (.blk g1 [.int .i64 x.num, .string (str x.key), .int .i64 x.waiter, .int .i64 x.holder] 34 :: .blk g [.slice A n c] 64 :: Own 34 4 A n c (ws l) :: L) w := s
      refine ⟨_, rfl, ?_⟩; clear ha; intro a ha
      refine st_val (.bool (!(isIdB x.holder))) ha (by kernel_rfl) (by kernel_rfl) ?_
      clear ha; intro a ha
      refine st_val (.bool (!(isIdB x.holder))) ha (by kernel_rfl) (by kernel_rfl) ?_
      clear ha; intro a ha
      refine st_val (.bool (!(isIdB x.holder))) ha (by kernel_rfl) (by kernel_rfl) ?_
      clear ha; intro a ha
      rcases Bool.eq_false_or_eq_true (!(isIdB x.holder)) with hb | hb
      · rw [hb] at ha; skip
        have h3 := hb
        refine st_pass ha (by kernel_rfl) ?_
        clear ha; intro a ha
        refine st_pass ha (by kernel_rfl) ?_
        clear ha; intro a ha
        refine st_pass ha (by kernel_rfl) ?_
        clear ha; intro a ha
        refine st_pass ha (by kernel_rfl) ?_
        clear ha; intro a ha
        refine st_pass ha (by kernel_rfl) ?_
        clear ha; intro a ha
        refine st_val (.bool true) ha (by kernel_rfl) (by kernel_rfl) ?_
        clear ha; intro a ha
        refine wpList_nil ?_
        refine then_normal ?_
        refine wp_true ha rfl (by kernel_rfl) ?_
        refine wp_seq ?_
        refine wp_region_lit ?_
        refine st_val (.int .i64 2) ha (by kernel_rfl) (by kernel_rfl) ?_
        clear ha; intro a ha
        refine wpList_nil ?_
        refine then_normal ?_
        refine wp_ret ?_
        refine then_ret ?_
        refine ret_with (v := .int .i64 2) ha (results_1 rfl ha (res_tmp (by kernel_rfl) (by kernel_rfl))) ?_
        replace s := s.at_ (j := 2) rfl
        replace s : St W (Own 34 4 A n c (ws l) :: .blk g1 [.int .i64 x.num, .string (str x.key), .int .i64 x.waiter, .int .i64 x.holder] 34 :: .blk g [.slice A n c] 64 :: L) w := s
        replace s := s.at_ (j := 2) rfl
        replace s : St W (.blk g [.slice A n c] 64 :: Own 34 4 A n c (ws l) :: .blk g1 [.int .i64 x.num, .string (str x.key), .int .i64 x.waiter, .int .i64 x.holder] 34 :: L) w := s
        replace s : St W (.blk g [.slice A n c] 64 :: Own 34 4 A n c (ws l) :: L) w := St.mid (A := [.blk g [.slice A n c] 64, Own 34 4 A n c (ws l)]) (B := [.blk g1 [.int .i64 x.num, .string (str x.key), .int .i64 x.waiter, .int .i64 x.holder] 34]) s
        have hc : addCode x l = 2 := by unfold addCode; rw [if_pos (by intro h; unfold okW at h; simp_all)]
        refine ⟨A, c, by rw [hc], ?_⟩
        unfold add
        rw [if_neg (by rw [hc]; simp), hl]
        exact s
      · rw [hb] at ha; skip
        have h3 := hb
        refine st_val (.pointer (some ⟨g1, 2, none⟩)) ha (by kernel_rfl) (by kernel_rfl) ?_
        clear ha; intro a ha
        refine st_val (.int .i64 x.waiter) ha (by kernel_rfl) (run_load1 (of_ := 2) (s.blkIs 0 rfl) rfl (by kernel_rfl) Try.isAgg3 rfl) ?_
        clear ha; intro a ha
        refine st_val (.pointer (some ⟨g1, 3, none⟩)) ha (by kernel_rfl) (by kernel_rfl) ?_
        clear ha; intro a ha
        refine st_val (.int .i64 x.holder) ha (by kernel_rfl) (run_load1 (of_ := 3) (s.blkIs 0 rfl) rfl (by kernel_rfl) Try.isAgg3 rfl) ?_
        clear ha; intro a ha
        refine st_val (.bool (x.waiter == x.holder)) ha (by kernel_rfl) (by kernel_rfl) ?_
        clear ha; intro a ha
        refine st_val (.bool (x.waiter == x.holder)) ha (by kernel_rfl) (by kernel_rfl) ?_
        clear ha; intro a ha
        refine wpList_nil ?_
        refine then_normal ?_
        refine wp_part (x.waiter == x.holder) ha rfl (by kernel_rfl) (fun hb => ?_) (fun hb => ?_)
        · rw [hb] at ha; have hb_ := hb; replace hb := eq_of_beq hb
          have h4 := hb
          refine wp_seq ?_
          refine wp_region_lit ?_
          refine st_val (.int .i64 2) ha (by kernel_rfl) (by kernel_rfl) ?_
          clear ha; intro a ha
          refine wpList_nil ?_
          refine then_normal ?_
          refine wp_ret ?_
          refine then_ret ?_
          refine ret_with (v := .int .i64 2) ha (results_1 rfl ha (res_tmp (by kernel_rfl) (by kernel_rfl))) ?_
          replace s := s.at_ (j := 2) rfl
          replace s : St W (Own 34 4 A n c (ws l) :: .blk g1 [.int .i64 x.num, .string (str x.key), .int .i64 x.waiter, .int .i64 x.holder] 34 :: .blk g [.slice A n c] 64 :: L) w := s
          replace s := s.at_ (j := 2) rfl
          replace s : St W (.blk g [.slice A n c] 64 :: Own 34 4 A n c (ws l) :: .blk g1 [.int .i64 x.num, .string (str x.key), .int .i64 x.waiter, .int .i64 x.holder] 34 :: L) w := s
          replace s : St W (.blk g [.slice A n c] 64 :: Own 34 4 A n c (ws l) :: L) w := St.mid (A := [.blk g [.slice A n c] 64, Own 34 4 A n c (ws l)]) (B := [.blk g1 [.int .i64 x.num, .string (str x.key), .int .i64 x.waiter, .int .i64 x.holder] 34]) s
          have hc : addCode x l = 2 := by unfold addCode; rw [if_pos (by intro h; unfold okW at h; simp_all)]
          refine ⟨A, c, by rw [hc], ?_⟩
          unfold add
          rw [if_neg (by rw [hc]; simp), hl]
          exact s
        · rw [hb] at ha; have hb_ := hb; replace hb := ne_of_beq_false hb
          have h4 := hb
          refine wp_skip ?_
          refine then_normal ?_
          refine wp_seq ?_
          refine wp_seq ?_
          refine wp_region_lit ?_
          refine st_val (.int .i64 0) ha (by kernel_rfl) (by kernel_rfl) ?_
          clear ha; intro a ha
          refine wpList_nil ?_
          refine then_normal ?_
          refine wp_block ?_
          refine wp_loopG (G := Nat) (fun k a w => Has a 65 [(0, .pointer (some ⟨g, 0, none⟩)), (1, .agg #[.int .i64 x.num, .string (str x.key), .int .i64 x.waiter, .int .i64 x.holder]), (3, .pointer (some ⟨g1, 0, none⟩)), (5, .int .i64 ((k : Nat) : Int))] ∧ St W (.blk g1 [.int .i64 x.num, .string (str x.key), .int .i64 x.waiter, .int .i64 x.holder] 34 :: .blk g [.slice A n c] 64 :: Own 34 4 A n c (ws l) :: L) w ∧ (k ≤ n ∧ ∀ y ∈ l.take k, y.num ≠ x.num)) (fun k => n - k) 0 ?_ ?_
          · exact ⟨(Has.cons ha (by kernel_rfl) (by kernel_rfl) (Has.cons ha (by kernel_rfl) (by kernel_rfl) (Has.cons ha (by kernel_rfl) (by kernel_rfl) (Has.cons ha (by kernel_rfl) (by kernel_rfl) (Has.nil ha))))), s, ⟨Nat.zero_le _, by simp⟩⟩
          · clear ha s; rintro k a w ⟨ha, s, hp⟩
            refine wp_seq ?_
            refine wp_seq ?_
            refine wp_region_lit ?_
            refine st_val (.int .i64 ((k : Nat) : Int)) ha (by kernel_rfl) (by kernel_rfl) ?_
            clear ha; intro a ha
            refine st_val (.pointer (some ⟨g, 0, none⟩)) ha (by kernel_rfl) (by kernel_rfl) ?_
            clear ha; intro a ha
            refine st_val (.pointer (some ⟨g, 0, none⟩)) ha (by kernel_rfl) (by kernel_rfl) ?_
            clear ha; intro a ha
            refine st_val (.pointer (some ⟨g, 0, none⟩)) ha (by kernel_rfl) (by kernel_rfl) ?_
            clear ha; intro a ha
            refine st_val (.slice A n c) ha (by kernel_rfl) (run_load1 (of_ := 0) (s.blkIs 1 rfl) rfl (by kernel_rfl) Try.isAgg39 rfl) ?_
            clear ha; intro a ha
            refine st_val (.int .i64 ((n : Nat) : Int)) ha (by kernel_rfl) (by kernel_rfl) ?_
            clear ha; intro a ha
            refine st_val (.bool (decide (((k : Nat) : Int) < ((n : Nat) : Int)))) ha (by kernel_rfl) (by kernel_rfl) ?_
            clear ha; intro a ha
            refine wpList_nil ?_
            refine then_normal ?_
            refine wp_part (decide (((k : Nat) : Int) < ((n : Nat) : Int))) ha rfl (by kernel_rfl) (fun hb => ?_) (fun hb => ?_)
            · rw [hb] at ha; replace hb : (((k : Nat) : Int) < ((n : Nat) : Int)) := of_decide_eq_true hb
              obtain ⟨v, hv⟩ : ∃ v, l[k]? = some v := ⟨_, List.getElem?_eq_getElem (by omega)⟩
              obtain ⟨ad, hA⟩ := Own.addr (s.at_ (j := 2) rfl) (by omega)
              subst hA
              refine wp_skip ?_
              refine then_normal ?_
              refine wp_seq ?_
              refine wp_block ?_
              refine wp_seq ?_
              refine wp_region_head 10 (fun w => BlkIs g [.slice (some ad) n c] w ∧ Reads w 4 (some ad) n (ws l) ∧ BlkIs g1 [.int .i64 x.num, .string (str x.key), .int .i64 x.waiter, .int .i64 x.holder] w ∧ True) (by kernel_rfl) (by decide) ?_
              replace s := s.drew; generalize _root_.Go.World.drew _ = w at s ⊢
              have hS : (fun w => BlkIs g [.slice (some ad) n c] w ∧ Reads w 4 (some ad) n (ws l) ∧ BlkIs g1 [.int .i64 x.num, .string (str x.key), .int .i64 x.waiter, .int .i64 x.holder] w ∧ True) w := ⟨s.blkIs 1 rfl, (Own.reads (s.at_ (j := 2) rfl).1), s.blkIs 0 rfl, trivial⟩
              refine hd_val (i := 0) (.pointer (some ⟨g, 0, none⟩)) ha rfl (by kernel_rfl) (fun _ _ _ h => h) (by kernel_rfl) (fun w hS => (by kernel_rfl)) hS ?_
              clear ha; intro a ha
              refine hd_val (i := 1) (.pointer (some ⟨g, 0, none⟩)) ha rfl (by kernel_rfl) (fun _ _ _ h => h) (by kernel_rfl) (fun w hS => (by kernel_rfl)) hS ?_
              clear ha; intro a ha
              refine hd_val (i := 2) (.pointer (some ⟨g, 0, none⟩)) ha rfl (by kernel_rfl) (fun _ _ _ h => h) (by kernel_rfl) (fun w hS => (by kernel_rfl)) hS ?_
              clear ha; intro a ha
              refine hd_val (i := 3) (.slice (some ad) n c) ha rfl (by kernel_rfl) (fun _ _ _ h => h) (by kernel_rfl) (fun w hS => run_load1 (of_ := 0) hS.1 rfl (by kernel_rfl) Try.isAgg39 rfl) hS ?_
              clear ha; intro a ha
              refine hd_val (i := 4) (.int .i64 ((k : Nat) : Int)) ha rfl (by kernel_rfl) (fun _ _ _ h => h) (by kernel_rfl) (fun w hS => (by kernel_rfl)) hS ?_
              clear ha; intro a ha
              refine hd_val (i := 5) (.pointer (some (ad.add (k * 4)))) ha rfl (by kernel_rfl) (fun _ _ _ h => h) (by kernel_rfl) (fun w hS => (run_indexAddr' (kd := .i64) (i := ((k : Nat) : Int)) (n := n) (c := c) k rfl Try.underlying39 Try.sizeOf34 (by kernel_rfl) (by kernel_rfl) rfl (by first | assumption | omega) _)) hS ?_
              clear ha; intro a ha
              refine hd_val (i := 6) (.pointer (some (ad.add (k * 4 + 0)))) ha rfl (by kernel_rfl) (fun _ _ _ h => h) (by kernel_rfl) (fun w hS => (run_fieldAddr_at (i := k * 4) (off := 0) rfl Try.underlying34 rfl Try.sizeOf3 (by kernel_rfl) _)) hS ?_
              clear ha; intro a ha
              refine hd_val (i := 7) (.int .i64 v.num) ha rfl (by kernel_rfl) (fun _ _ _ h => h) (by kernel_rfl) (fun w hS => run_loadAt1 (i := k * 4 + 0) hS.2.1 rfl (by kernel_rfl) Try.isAgg3 (by rw [ws_at hv (by omega)]; rfl)) hS ?_
              clear ha; intro a ha
              refine hd_val (i := 8) (.pointer (some ⟨g1, 0, none⟩)) ha rfl (by kernel_rfl) (fun _ _ _ h => h) (by kernel_rfl) (fun w hS => (by kernel_rfl)) hS ?_
              clear ha; intro a ha
              refine hd_val (i := 9) (.int .i64 x.num) ha rfl (by kernel_rfl) (fun _ _ _ h => h) (by kernel_rfl) (fun w hS => run_load1 (of_ := 0) hS.2.2.1 rfl (by kernel_rfl) Try.isAgg3 rfl) hS ?_
              clear ha; intro a ha
              refine Head.done (by kernel_rfl) ?_
              clear hS; simp only [List.drop_succ_cons, List.drop_zero]
              refine st_val (.bool (v.num == x.num)) ha (by kernel_rfl) (by kernel_rfl) ?_
              clear ha; intro a ha
              refine wpList_nil ?_
              refine then_normal ?_
              refine wp_part (v.num == x.num) ha rfl (by kernel_rfl) (fun hb => ?_) (fun hb => ?_)
              · rw [hb] at ha; have hb_ := hb; replace hb := eq_of_beq hb
                refine wp_seq ?_
                refine wp_region_lit ?_
                refine st_val (.int .i64 2) ha (by kernel_rfl) (by kernel_rfl) ?_
                clear ha; intro a ha
                refine wpList_nil ?_
                refine then_normal ?_
                refine wp_ret ?_
                refine block_ret ?_
                refine then_ret ?_
                refine then_ret ?_
                refine block_ret ?_
                refine then_ret ?_
                refine ret_with (v := .int .i64 2) ha (results_1 rfl ha (res_tmp (by kernel_rfl) (by kernel_rfl))) ?_
                replace s := s.at_ (j := 2) rfl
                replace s : St W (Own 34 4 (some ad) n c (ws l) :: .blk g1 [.int .i64 x.num, .string (str x.key), .int .i64 x.waiter, .int .i64 x.holder] 34 :: .blk g [.slice (some ad) n c] 64 :: L) w := s
                replace s := s.at_ (j := 2) rfl
                replace s : St W (.blk g [.slice (some ad) n c] 64 :: Own 34 4 (some ad) n c (ws l) :: .blk g1 [.int .i64 x.num, .string (str x.key), .int .i64 x.waiter, .int .i64 x.holder] 34 :: L) w := s
                replace s : St W (.blk g [.slice (some ad) n c] 64 :: Own 34 4 (some ad) n c (ws l) :: L) w := St.mid (A := [.blk g [.slice (some ad) n c] 64, Own 34 4 (some ad) n c (ws l)]) (B := [.blk g1 [.int .i64 x.num, .string (str x.key), .int .i64 x.waiter, .int .i64 x.holder] 34]) s
                have hc : addCode x l = 2 := by unfold addCode; rw [if_neg (not_not.2 (show okW x from ⟨by simpa using h1, by simpa using h2, by simpa using h3, by simpa using h4⟩)), if_pos (has_true hv hb)]
                refine ⟨(some ad), c, by rw [hc], ?_⟩
                unfold add
                rw [if_neg (by rw [hc]; simp), hl]
                exact s
              · rw [hb] at ha; have hb_ := hb; replace hb := ne_of_beq_false hb
                refine wp_skip ?_
                refine block_normal ?_
                refine then_normal ?_
                refine wp_region_lit ?_
                refine st_val (.int .i64 ((k : Nat) : Int)) ha (by kernel_rfl) (by kernel_rfl) ?_
                clear ha; intro a ha
                refine st_val (.int .i64 ((k + 1 : Nat) : Int)) ha (by kernel_rfl) (run_arith (((k : Nat) : Int) + (1 : Int)) ((k + 1 : Nat) : Int) rfl (by kernel_rfl) (by kernel_rfl) (.inl ⟨rfl, rfl⟩) (by rw [wrap64_in (by omega)]; try omega) _) ?_
                clear ha; intro a ha
                refine st_val (.int .i64 ((k + 1 : Nat) : Int)) ha (by kernel_rfl) (by kernel_rfl) ?_
                clear ha; intro a ha
                refine wpList_nil ?_
                refine then_normal ?_
                exact ⟨k + 1, by omega, (Has.cons ha (by kernel_rfl) (by kernel_rfl) (Has.cons ha (by kernel_rfl) (by kernel_rfl) (Has.cons ha (by kernel_rfl) (by kernel_rfl) (Has.cons ha (by kernel_rfl) (by kernel_rfl) (Has.nil ha))))), s, by omega, has_no hv hp.2 hb⟩
            · rw [hb] at ha; replace hb : ¬ (((k : Nat) : Int) < ((n : Nat) : Int)) := of_decide_eq_false hb
              have h5 : P.has x l = false := has_false (by have := hp.2; rwa [List.take_of_length_le (by omega)] at this)
              refine wp_exit ?_
              refine then_exit ?_
              refine then_exit ?_
              refine block_hit ?_
              refine then_normal ?_
              refine wp_seq ?_
              refine wp_seq ?_
              refine wp_region_lit ?_
              refine st_val (.pointer (some ⟨g, 0, none⟩)) ha (by kernel_rfl) (by kernel_rfl) ?_
              clear ha; intro a ha
              refine st_val (.pointer (some ⟨g, 0, none⟩)) ha (by kernel_rfl) (by kernel_rfl) ?_
              clear ha; intro a ha
              refine st_val (.pointer (some ⟨g, 0, none⟩)) ha (by kernel_rfl) (by kernel_rfl) ?_
              clear ha; intro a ha
              refine st_val (.slice A n c) ha (by kernel_rfl) (run_load1 (of_ := 0) (s.blkIs 1 rfl) rfl (by kernel_rfl) Try.isAgg39 rfl) ?_
              clear ha; intro a ha
              refine st_val (.int .i64 ((n : Nat) : Int)) ha (by kernel_rfl) (by kernel_rfl) ?_
              clear ha; intro a ha
              refine st_val (.bool (decide (((n : Nat) : Int) ≥ (64 : Int)))) ha (by kernel_rfl) (by kernel_rfl) ?_
              clear ha; intro a ha
              refine wpList_nil ?_
              refine then_normal ?_
              refine wp_part (decide (((n : Nat) : Int) ≥ (64 : Int))) ha rfl (by kernel_rfl) (fun hb => ?_) (fun hb => ?_)
              · rw [hb] at ha; replace hb : (((n : Nat) : Int) ≥ (64 : Int)) := of_decide_eq_true hb
                refine wp_seq ?_
                refine wp_region_lit ?_
                refine st_val (.int .i64 7) ha (by kernel_rfl) (by kernel_rfl) ?_
                clear ha; intro a ha
                refine wpList_nil ?_
                refine then_normal ?_
                refine wp_ret ?_
                refine then_ret ?_
                refine ret_with (v := .int .i64 7) ha (results_1 rfl ha (res_tmp (by kernel_rfl) (by kernel_rfl))) ?_
                replace s := s.at_ (j := 2) rfl
                replace s : St W (Own 34 4 A n c (ws l) :: .blk g1 [.int .i64 x.num, .string (str x.key), .int .i64 x.waiter, .int .i64 x.holder] 34 :: .blk g [.slice A n c] 64 :: L) w := s
                replace s := s.at_ (j := 2) rfl
                replace s : St W (.blk g [.slice A n c] 64 :: Own 34 4 A n c (ws l) :: .blk g1 [.int .i64 x.num, .string (str x.key), .int .i64 x.waiter, .int .i64 x.holder] 34 :: L) w := s
                replace s : St W (.blk g [.slice A n c] 64 :: Own 34 4 A n c (ws l) :: L) w := St.mid (A := [.blk g [.slice A n c] 64, Own 34 4 A n c (ws l)]) (B := [.blk g1 [.int .i64 x.num, .string (str x.key), .int .i64 x.waiter, .int .i64 x.holder] 34]) s
                have hc : addCode x l = 7 := by unfold addCode; rw [if_neg (not_not.2 (show okW x from ⟨by simpa using h1, by simpa using h2, by simpa using h3, by simpa using h4⟩)), if_neg (by rw [h5]; simp), if_pos (by omega)]
                refine ⟨A, c, by rw [hc], ?_⟩
                unfold add
                rw [if_neg (by rw [hc]; simp), hl]
                exact s
              · rw [hb] at ha; replace hb : ¬ (((n : Nat) : Int) ≥ (64 : Int)) := of_decide_eq_false hb
                refine wp_skip ?_
                refine then_normal ?_
                refine wp_seq ?_
                refine wp_region_head 8 (fun w => BlkIs g [.slice A n c] w ∧ BlkIs g1 [.int .i64 x.num, .string (str x.key), .int .i64 x.waiter, .int .i64 x.holder] w ∧ True) (by kernel_rfl) (by decide) ?_
                replace s := s.drew; generalize _root_.Go.World.drew _ = w at s ⊢
                have hS : (fun w => BlkIs g [.slice A n c] w ∧ BlkIs g1 [.int .i64 x.num, .string (str x.key), .int .i64 x.waiter, .int .i64 x.holder] w ∧ True) w := ⟨s.blkIs 1 rfl, s.blkIs 0 rfl, trivial⟩
                refine hd_val (i := 0) (.pointer (some ⟨g, 0, none⟩)) ha rfl (by kernel_rfl) (fun _ _ _ h => h) (by kernel_rfl) (fun w hS => (by kernel_rfl)) hS ?_
                clear ha; intro a ha
                refine hd_val (i := 1) (.pointer (some ⟨g, 0, none⟩)) ha rfl (by kernel_rfl) (fun _ _ _ h => h) (by kernel_rfl) (fun w hS => (by kernel_rfl)) hS ?_
                clear ha; intro a ha
                refine hd_val (i := 2) (.pointer (some ⟨g, 0, none⟩)) ha rfl (by kernel_rfl) (fun _ _ _ h => h) (by kernel_rfl) (fun w hS => (by kernel_rfl)) hS ?_
                clear ha; intro a ha
                refine hd_val (i := 3) (.pointer (some ⟨g, 0, none⟩)) ha rfl (by kernel_rfl) (fun _ _ _ h => h) (by kernel_rfl) (fun w hS => (by kernel_rfl)) hS ?_
                clear ha; intro a ha
                refine hd_val (i := 4) (.slice A n c) ha rfl (by kernel_rfl) (fun _ _ _ h => h) (by kernel_rfl) (fun w hS => run_load1 (of_ := 0) hS.1 rfl (by kernel_rfl) Try.isAgg39 rfl) hS ?_
                clear ha; intro a ha
                refine hd_val (i := 5) (.agg #[.int .i64 x.num, .string (str x.key), .int .i64 x.waiter, .int .i64 x.holder]) ha rfl (by kernel_rfl) (fun _ _ _ h => h) (by kernel_rfl) (fun w hS => run_loadN (of_ := 0) [.int .i64 x.num, .string (str x.key), .int .i64 x.waiter, .int .i64 x.holder] hS.2.1 rfl (by kernel_rfl) Try.isAgg34 Try.sizeOf34 rfl (Nat.le_of_ble_eq_true rfl)) hS ?_
                clear ha; intro a ha
                refine hd_ex (i := 6) ha rfl (by kernel_rfl) (by kernel_rfl) (ex_buildSlice elt39 _ zs39 [.int .i64 x.num, .string (str x.key), .int .i64 x.waiter, .int .i64 x.holder] s rfl (by kernel_rfl) (by decide)) ?_
                clear hS; rintro _ w ⟨g2, rfl, s⟩
                replace s : St W (.blk g2 [.int .i64 x.num, .string (str x.key), .int .i64 x.waiter, .int .i64 x.holder] 34 :: .blk g1 [.int .i64 x.num, .string (str x.key), .int .i64 x.waiter, .int .i64 x.holder] 34 :: .blk g [.slice A n c] 64 :: Own 34 4 A n c (ws l) :: L) w := s
                have hS : (fun w => BlkIs g [.slice A n c] w ∧ BlkIs g1 [.int .i64 x.num, .string (str x.key), .int .i64 x.waiter, .int .i64 x.holder] w ∧ True) w := ⟨s.blkIs 2 rfl, s.blkIs 1 rfl, trivial⟩
                refine ⟨hS, ?_⟩; clear ha; intro a ha
                refine hd_ex (i := 7) ha rfl (by kernel_rfl) (by kernel_rfl) (ex_append (m := 1) (d' := 1) elt39 (by decide) 3 [.int .i64 x.num, .string (str x.key), .int .i64 x.waiter, .int .i64 x.holder] s rfl (by kernel_rfl) (by kernel_rfl) rfl (reads_blk (s.blkIs 0 rfl) rfl) (by simp [Value.oneCell']) (by simp only [maxLen]; omega) (by omega)) ?_
                clear hS; rintro _ w ⟨A3, c4, rfl, hA_, s⟩
                replace s : St W (.blk g2 [.int .i64 x.num, .string (str x.key), .int .i64 x.waiter, .int .i64 x.holder] 34 :: .blk g1 [.int .i64 x.num, .string (str x.key), .int .i64 x.waiter, .int .i64 x.holder] 34 :: .blk g [.slice A n c] 64 :: Own 34 4 A3 (n + 1) c4 ((ws l) ++ [.int .i64 x.num, .string (str x.key), .int .i64 x.waiter, .int .i64 x.holder]) :: L) w := s
                have hS : (fun w => BlkIs g [.slice A n c] w ∧ BlkIs g1 [.int .i64 x.num, .string (str x.key), .int .i64 x.waiter, .int .i64 x.holder] w ∧ True) w := ⟨s.blkIs 2 rfl, s.blkIs 1 rfl, trivial⟩
                refine ⟨hS, ?_⟩; clear ha; intro a ha
                refine Head.done (by kernel_rfl) ?_
                clear hS; simp only [List.drop_succ_cons, List.drop_zero]
                refine st_val (.pointer (some ⟨g, 0, none⟩)) ha (by kernel_rfl) (by kernel_rfl) ?_
                clear ha; intro a ha
                refine st_val (.pointer (some ⟨g, 0, none⟩)) ha (by kernel_rfl) (by kernel_rfl) ?_
                clear ha; intro a ha
                refine st_exd ha (by kernel_rfl) (ex_store (of_ := 0) 2 [.slice A3 (n + 1) c4] s rfl rfl (by kernel_rfl) (by kernel_rfl) (Try.sizeOf39 _) rfl (by simp [Value.oneCell']) (Nat.le_of_ble_eq_true rfl)) ?_
                clear ha; rintro w a s ha
                replace s : St W (.blk g2 [.int .i64 x.num, .string (str x.key), .int .i64 x.waiter, .int .i64 x.holder] 34 :: .blk g1 [.int .i64 x.num, .string (str x.key), .int .i64 x.waiter, .int .i64 x.holder] 34 :: .blk g [.slice A3 (n + 1) c4] 64 :: Own 34 4 A3 (n + 1) c4 ((ws l) ++ [.int .i64 x.num, .string (str x.key), .int .i64 x.waiter, .int .i64 x.holder]) :: L) w := s
                refine wpList_nil ?_
                refine then_normal ?_
                refine wp_seq ?_
                refine wp_region_lit ?_
                refine st_val (.int .i64 0) ha (by kernel_rfl) (by kernel_rfl) ?_
                clear ha; intro a ha
                refine wpList_nil ?_
                refine then_normal ?_
                refine wp_ret ?_
                refine ret_with (v := .int .i64 0) ha (results_1 rfl ha (res_tmp (by kernel_rfl) (by kernel_rfl))) ?_
                replace s := s.at_ (j := 3) rfl
                replace s : St W (Own 34 4 A3 (n + 1) c4 ((ws l) ++ [.int .i64 x.num, .string (str x.key), .int .i64 x.waiter, .int .i64 x.holder]) :: .blk g2 [.int .i64 x.num, .string (str x.key), .int .i64 x.waiter, .int .i64 x.holder] 34 :: .blk g1 [.int .i64 x.num, .string (str x.key), .int .i64 x.waiter, .int .i64 x.holder] 34 :: .blk g [.slice A3 (n + 1) c4] 64 :: L) w := s
                replace s := s.at_ (j := 3) rfl
                replace s : St W (.blk g [.slice A3 (n + 1) c4] 64 :: Own 34 4 A3 (n + 1) c4 ((ws l) ++ [.int .i64 x.num, .string (str x.key), .int .i64 x.waiter, .int .i64 x.holder]) :: .blk g2 [.int .i64 x.num, .string (str x.key), .int .i64 x.waiter, .int .i64 x.holder] 34 :: .blk g1 [.int .i64 x.num, .string (str x.key), .int .i64 x.waiter, .int .i64 x.holder] 34 :: L) w := s
                replace s : St W (.blk g [.slice A3 (n + 1) c4] 64 :: Own 34 4 A3 (n + 1) c4 ((ws l) ++ [.int .i64 x.num, .string (str x.key), .int .i64 x.waiter, .int .i64 x.holder]) :: L) w := St.mid (A := [.blk g [.slice A3 (n + 1) c4] 64, Own 34 4 A3 (n + 1) c4 ((ws l) ++ [.int .i64 x.num, .string (str x.key), .int .i64 x.waiter, .int .i64 x.holder])]) (B := [.blk g2 [.int .i64 x.num, .string (str x.key), .int .i64 x.waiter, .int .i64 x.holder] 34, .blk g1 [.int .i64 x.num, .string (str x.key), .int .i64 x.waiter, .int .i64 x.holder] 34]) s
                have ha0 := add_yes (show okW x from ⟨by simpa using h1, by simpa using h2, by simpa using h3, by simpa using h4⟩) h5 (by omega : l.length < 64)
                refine ⟨A3, c4, by rw [ha0.1], ?_⟩
                rw [ha0.2, List.length_append, hl, ws_append]
                exact s

end Go.Proofs.Ytlkoppmenpeepaa.B
