import Derived.Test.YtjdkpebnaohonaaB3
namespace Go.Proofs.Ytjdkpebnaohonaa.B
open Go.RowKit Go.Maps Go.Proofs.Ytjdkpebnaohonaa.Sep Go.Proofs.Ytjdkpebnaohonaa.P
set_option linter.unusedVariables false
set_option linter.unusedSimpArgs false
theorem bring_to (W : World) (L : List Chunk) (w : World) (i n z : Int) (hz : i % n = z) (hn : 0 < n) (hb : n ≤ 1000000) (s : St W L w) : Calls Try.prog 17 #[.int .i64 i, .int .i64 n] w fun e w' => e = .returned (.int .i64 z) ∧ St W L w' := by
  subst hz; exact bring_any W L w i n hn hb s
/-- The edge that a number tells. -/
def arcOf (z : Int) : Arc := (1 + z % 56 / 7, if 1 + z % 56 % 7 ≥ 1 + z % 56 / 7 then 1 + z % 56 % 7 + 1 else 1 + z % 56 % 7)
def arcs (l : List Int) : List Arc := (l.take 60).map arcOf
theorem arcOf_ok (z : Int) : 1 ≤ (arcOf z).1 ∧ (arcOf z).1 ≤ 8 ∧ 1 ≤ (arcOf z).2 ∧ (arcOf z).2 ≤ 8 ∧ (arcOf z).1 ≠ (arcOf z).2 := by
  unfold arcOf
  simp only
  split <;> omega
theorem arcs_ok {l : List Int} : ∀ x ∈ arcs l, okA x := by
  intro x hx
  obtain ⟨z, _, rfl⟩ := List.mem_map.1 hx
  have := arcOf_ok z
  exact ⟨isIdB_iff.2 (by omega), isIdB_iff.2 (by omega), this.2.2.2.2⟩
theorem arcs_small {l : List Int} : ∀ x ∈ arcs l, 1 ≤ x.1 ∧ x.1 ≤ 8 ∧ 1 ≤ x.2 ∧ x.2 ≤ 8 := by
  intro x hx
  obtain ⟨z, _, rfl⟩ := List.mem_map.1 hx
  have := arcOf_ok z
  omega
theorem arcs_len (l : List Int) : (arcs l).length = min 60 l.length := by simp [arcs]
theorem arcs_step {l : List Int} {k : Nat} {x : Int} (h : l[k]? = some x) : egs ((l.take (k + 1)).map arcOf) = egs ((l.take k).map arcOf) ++ eg (arcOf x) := by
  obtain ⟨hk, rfl⟩ := List.getElem?_eq_some_iff.1 h
  rw [List.take_succ_eq_append_getElem hk, List.map_append, egs_append]; simp [egs]
def withoutP (E : List Arc) (id : Int) : List Arc := E.filter fun e => decide (e.1 ≠ id) && decide (e.2 ≠ id)
theorem without_step {E : List Arc} {k : Nat} {x : Arc} (h : E[k]? = some x) (id : Int) : withoutP (E.take (k + 1)) id = withoutP (E.take k) id ++ (if x.1 ≠ id ∧ x.2 ≠ id then [x] else []) := by
  obtain ⟨hk, rfl⟩ := List.getElem?_eq_some_iff.1 h
  rw [List.take_succ_eq_append_getElem hk, withoutP, List.filter_append, withoutP]
  congr 1
  by_cases h1 : E[k].1 = id <;> by_cases h2 : E[k].2 = id <;> simp [h1, h2]
theorem without_len (E : List Arc) (id : Int) : (withoutP E id).length ≤ E.length := List.length_filter_le _ _

theorem edges_any (W : World) (L : List Chunk) (w : World) (A : Option Addr) (n ca : Nat) (l : List Int) (hra : Knows L fun w => Reads w 1 A n (ints l)) (hl : l.length = n) (hn : n ≤ 140737488351232) (s : St W L w) :
    Calls Try.prog 15 #[.slice A n ca] w fun e w' => ∃ A' c', e = .returned (.slice A' (arcs l).length c') ∧ St W (Own 37 2 A' (arcs l).length c' (egs (arcs l)) :: L) w' := by
  refine enter_args (l := [.slice A n ca]) Try.func15 rfl rfl (Nat.le_of_ble_eq_true rfl) ?_
  intro a ha; replace ha : Has a 41 [(0, .slice A n ca)] := ha
  refine wp_seq ?_
  refine wp_region_lit ?_
  refine st_val (.slice none 0 0) ha (by kernel_rfl) (by kernel_rfl) ?_
  clear ha; intro a ha
  refine wpList_nil ?_
  refine then_normal ?_
  refine wp_seq ?_
  refine wp_region_lit ?_
  refine st_val (.slice none 0 0) ha (by kernel_rfl) (by kernel_rfl) ?_
  clear ha; intro a ha
  refine wpList_nil ?_
  refine then_normal ?_
  refine wp_seq ?_
  refine wp_seq ?_
  refine wp_region_lit ?_
  refine st_val (.int .i64 0) ha (by kernel_rfl) (by kernel_rfl) ?_
  clear ha; intro a ha
  refine wpList_nil ?_
  refine then_normal ?_
  refine wp_block ?_
  replace s := Own.none_ (e := 37) (k := 2) none s
  refine wp_loopG (G := (Nat × Option Addr × Nat)) (fun ⟨k, Ao, co⟩ a w => Has a 41 [(0, .slice A n ca), (3, .slice Ao k co), (4, .int .i64 ((k : Nat) : Int))] ∧ St W (Own 37 2 Ao k co (egs ((l.take k).map arcOf)) :: L) w ∧ (k ≤ n ∧ k ≤ 60)) (fun ⟨k, Ao, co⟩ => n - k) (0, none, 0) ?_ ?_
  · exact ⟨(Has.cons ha (by kernel_rfl) (by kernel_rfl) (Has.cons ha (by kernel_rfl) (by kernel_rfl) (Has.cons ha (by kernel_rfl) (by kernel_rfl) (Has.nil ha)))), s, ⟨Nat.zero_le _, Nat.zero_le _⟩⟩
  · clear ha s; rintro ⟨k, Ao, co⟩ a w ⟨ha, s, hp⟩
    refine wp_seq ?_
    refine wp_seq ?_
    refine wp_region_lit ?_
    refine st_val (.int .i64 ((k : Nat) : Int)) ha (by kernel_rfl) (by kernel_rfl) ?_
    clear ha; intro a ha
    refine st_val (.slice A n ca) ha (by kernel_rfl) (by kernel_rfl) ?_
    clear ha; intro a ha
    refine st_val (.int .i64 ((n : Nat) : Int)) ha (by kernel_rfl) (by kernel_rfl) ?_
    clear ha; intro a ha
    refine st_val (.bool (decide (((k : Nat) : Int) < ((n : Nat) : Int)))) ha (by kernel_rfl) (by kernel_rfl) ?_
    clear ha; intro a ha
    refine st_val (.bool (decide (((k : Nat) : Int) < ((n : Nat) : Int)))) ha (by kernel_rfl) (by kernel_rfl) ?_
    clear ha; intro a ha
    rcases Bool.eq_false_or_eq_true (decide (((k : Nat) : Int) < ((n : Nat) : Int))) with hb | hb
    · rw [hb] at ha; replace hb : (((k : Nat) : Int) < ((n : Nat) : Int)) := of_decide_eq_true hb
      obtain ⟨x, hx⟩ : ∃ x, l[k]? = some x := ⟨_, List.getElem?_eq_getElem (by omega)⟩
      obtain ⟨ada, hA⟩ := Reads.addr (hra _ s.sat.tail) (by omega)
      subst hA
      refine st_val (.int .i64 ((k : Nat) : Int)) ha (by kernel_rfl) (by kernel_rfl) ?_
      clear ha; intro a ha
      refine st_val (.bool (decide (((k : Nat) : Int) < (60 : Int)))) ha (by kernel_rfl) (by kernel_rfl) ?_
      clear ha; intro a ha
      refine st_val (.bool (decide (((k : Nat) : Int) < (60 : Int)))) ha (by kernel_rfl) (by kernel_rfl) ?_
      clear ha; intro a ha
      refine wpList_nil ?_
      refine then_normal ?_
      refine wp_part (decide (((k : Nat) : Int) < (60 : Int))) ha rfl (by kernel_rfl) (fun hb => ?_) (fun hb => ?_)
      · rw [hb] at ha; replace hb : (((k : Nat) : Int) < (60 : Int)) := of_decide_eq_true hb
        refine wp_skip ?_
        refine then_normal ?_
        refine wp_seq ?_
        refine wp_block ?_
        refine wp_seq ?_
        refine wp_region_lit ?_
        refine st_val (.slice (some ada) n ca) ha (by kernel_rfl) (by kernel_rfl) ?_
        clear ha; intro a ha
        refine st_val (.int .i64 ((k : Nat) : Int)) ha (by kernel_rfl) (by kernel_rfl) ?_
        clear ha; intro a ha
        refine st_val (.pointer (some (ada.add (k * 1)))) ha (by kernel_rfl) (run_indexAddr' (kd := .i64) (i := ((k : Nat) : Int)) (n := n) (c := ca) k rfl Try.underlying25 Try.sizeOf3 (by kernel_rfl) (by kernel_rfl) rfl (by first | assumption | omega) _) ?_
        clear ha; intro a ha
        refine st_val (.int .i64 x) ha (by kernel_rfl) (run_loadAt1 (i := k * 1) ((hra _ s.sat.tail)) rfl (by kernel_rfl) Try.isAgg3 (by rw [Nat.mul_one]; exact ints_at hx)) ?_
        clear ha; intro a ha
        obtain ⟨v, hv⟩ : ∃ v, x % 56 = v := ⟨_, rfl⟩
        have hvb : 0 ≤ v ∧ v < 56 := by omega
        refine st_call ha (by kernel_rfl) (by kernel_rfl) (bring_to W _ w x 56 v hv (by omega) (by omega) s) ?_
        rintro _ w ⟨rfl, s⟩
        replace s : St W (Own 37 2 Ao k co (egs ((l.take k).map arcOf)) :: L) w := s
        refine ⟨_, rfl, ?_⟩; clear ha; intro a ha
        refine st_val (.int .i64 v) ha (by kernel_rfl) (by kernel_rfl) ?_
        clear ha; intro a ha
        refine wpList_nil ?_
        refine then_normal ?_
        refine wp_seq ?_
        refine wp_region_lit ?_
        refine st_val (.int .i64 v) ha (by kernel_rfl) (by kernel_rfl) ?_
        clear ha; intro a ha
        refine st_val (.int .i64 (v / (7 : Int))) ha (by kernel_rfl) (run_quo (p := v) (q := (7 : Int)) (v / (7 : Int)) rfl (by kernel_rfl) (by kernel_rfl) (by omega) (by rw [Int.tdiv_eq_ediv_of_nonneg (by omega)]; exact wrap64_in (by omega)) _) ?_
        clear ha; intro a ha
        refine st_val (.int .i64 ((1 : Int) + (v / (7 : Int)))) ha (by kernel_rfl) (run_arith ((1 : Int) + (v / (7 : Int))) ((1 : Int) + (v / (7 : Int))) rfl (by kernel_rfl) (by kernel_rfl) (.inl ⟨rfl, rfl⟩) (by rw [wrap64_in (by omega)]) _) ?_
        clear ha; intro a ha
        refine st_val (.int .i64 v) ha (by kernel_rfl) (by kernel_rfl) ?_
        clear ha; intro a ha
        refine st_val (.int .i64 (v % (7 : Int))) ha (by kernel_rfl) (run_rem (p := v) (q := (7 : Int)) (v % (7 : Int)) rfl (by kernel_rfl) (by kernel_rfl) (by omega) (by rw [Int.tmod_eq_emod_of_nonneg (by omega)]) _) ?_
        clear ha; intro a ha
        refine st_val (.int .i64 ((1 : Int) + (v % (7 : Int)))) ha (by kernel_rfl) (run_arith ((1 : Int) + (v % (7 : Int))) ((1 : Int) + (v % (7 : Int))) rfl (by kernel_rfl) (by kernel_rfl) (.inl ⟨rfl, rfl⟩) (by rw [wrap64_in (by omega)]) _) ?_
        clear ha; intro a ha
        refine st_val (.int .i64 ((1 : Int) + (v / (7 : Int)))) ha (by kernel_rfl) (by kernel_rfl) ?_
        clear ha; intro a ha
        refine st_val (.int .i64 ((1 : Int) + (v % (7 : Int)))) ha (by kernel_rfl) (by kernel_rfl) ?_
        clear ha; intro a ha
        refine wpList_nil ?_
        refine then_normal ?_
        refine wp_seq ?_
        refine wp_seq ?_
        refine wp_region_lit ?_
        refine st_val (.int .i64 ((1 : Int) + (v % (7 : Int)))) ha (by kernel_rfl) (by kernel_rfl) ?_
        clear ha; intro a ha
        refine st_val (.int .i64 ((1 : Int) + (v / (7 : Int)))) ha (by kernel_rfl) (by kernel_rfl) ?_
        clear ha; intro a ha
        refine st_val (.bool (decide (((1 : Int) + (v % (7 : Int))) ≥ ((1 : Int) + (v / (7 : Int)))))) ha (by kernel_rfl) (by kernel_rfl) ?_
        clear ha; intro a ha
        refine wpList_nil ?_
        refine then_normal ?_
        refine wp_part (decide (((1 : Int) + (v % (7 : Int))) ≥ ((1 : Int) + (v / (7 : Int))))) ha rfl (by kernel_rfl) (fun hb => ?_) (fun hb => ?_)
        · rw [hb] at ha; replace hb : (((1 : Int) + (v % (7 : Int))) ≥ ((1 : Int) + (v / (7 : Int)))) := of_decide_eq_true hb
          refine wp_region_lit ?_
          refine st_val (.int .i64 ((1 : Int) + (v % (7 : Int)))) ha (by kernel_rfl) (by kernel_rfl) ?_
          clear ha; intro a ha
          refine st_val (.int .i64 (((1 : Int) + (v % (7 : Int))) + (1 : Int))) ha (by kernel_rfl) (run_arith (((1 : Int) + (v % (7 : Int))) + (1 : Int)) (((1 : Int) + (v % (7 : Int))) + (1 : Int)) rfl (by kernel_rfl) (by kernel_rfl) (.inl ⟨rfl, rfl⟩) (by rw [wrap64_in (by omega)]) _) ?_
          clear ha; intro a ha
          refine st_val (.int .i64 (((1 : Int) + (v % (7 : Int))) + (1 : Int))) ha (by kernel_rfl) (by kernel_rfl) ?_
          clear ha; intro a ha
          refine wpList_nil ?_
          refine then_normal ?_
          refine wp_region_lit ?_
          refine st_val (.slice Ao k co) ha (by kernel_rfl) (by kernel_rfl) ?_
          clear ha; intro a ha
          refine st_val (.int .i64 ((1 : Int) + (v / (7 : Int)))) ha (by kernel_rfl) (by kernel_rfl) ?_
          clear ha; intro a ha
          refine st_val (.int .i64 (((1 : Int) + (v % (7 : Int))) + (1 : Int))) ha (by kernel_rfl) (by kernel_rfl) ?_
          clear ha; intro a ha
          refine st_val (.agg #[.int .i64 ((1 : Int) + (v / (7 : Int))), .int .i64 (((1 : Int) + (v % (7 : Int))) + (1 : Int))]) ha (by kernel_rfl) (by kernel_rfl) ?_
          clear ha; intro a ha
          refine st_ex ha (by kernel_rfl) (ex_buildSlice elt22 _ zs22 [.int .i64 ((1 : Int) + (v / (7 : Int))), .int .i64 (((1 : Int) + (v % (7 : Int))) + (1 : Int))] s rfl (by kernel_rfl) (by decide)) ?_
          clear ha; rintro _ w a ⟨g1, rfl, s⟩ ha
          replace s : St W (.blk g1 [.int .i64 ((1 : Int) + (v / (7 : Int))), .int .i64 (((1 : Int) + (v % (7 : Int))) + (1 : Int))] 37 :: Own 37 2 Ao k co (egs ((l.take k).map arcOf)) :: L) w := s
          refine st_ex ha (by kernel_rfl) (ex_append (m := 1) (d' := 1) elt22 (by decide) 1 [.int .i64 ((1 : Int) + (v / (7 : Int))), .int .i64 (((1 : Int) + (v % (7 : Int))) + (1 : Int))] s rfl (by kernel_rfl) (by kernel_rfl) rfl (reads_blk (s.blkIs 0 rfl) rfl) (by simp [Value.oneCell']) (by simp only [maxLen]; omega) (by omega)) ?_
          clear ha; rintro _ w a ⟨A2, c3, rfl, hA_, s⟩ ha
          replace s : St W (.blk g1 [.int .i64 ((1 : Int) + (v / (7 : Int))), .int .i64 (((1 : Int) + (v % (7 : Int))) + (1 : Int))] 37 :: Own 37 2 A2 (k + 1) c3 ((egs ((l.take k).map arcOf)) ++ [.int .i64 ((1 : Int) + (v / (7 : Int))), .int .i64 (((1 : Int) + (v % (7 : Int))) + (1 : Int))]) :: L) w := s
          refine st_val (.slice A2 (k + 1) c3) ha (by kernel_rfl) (by kernel_rfl) ?_
          clear ha; intro a ha
          refine wpList_nil ?_
          refine block_normal ?_
          refine then_normal ?_
          refine wp_region_lit ?_
          refine st_val (.int .i64 ((k : Nat) : Int)) ha (by kernel_rfl) (by kernel_rfl) ?_
          clear ha; intro a ha
          refine st_val (.int .i64 ((k + 1 : Nat) : Int)) ha (by kernel_rfl) (run_arith (((k : Nat) : Int) + (1 : Int)) ((k + 1 : Nat) : Int) rfl (by kernel_rfl) (by kernel_rfl) (.inl ⟨rfl, rfl⟩) (by rw [wrap64_in (by omega)]; try omega) _) ?_
          clear ha; intro a ha
          refine st_val (.int .i64 ((k + 1 : Nat) : Int)) ha (by kernel_rfl) (by kernel_rfl) ?_
          clear ha; intro a ha
          refine wpList_nil ?_
          refine then_normal ?_
          replace s := s.at_ (j := 1) rfl
          replace s : St W (Own 37 2 A2 (k + 1) c3 ((egs ((l.take k).map arcOf)) ++ [.int .i64 ((1 : Int) + (v / (7 : Int))), .int .i64 (((1 : Int) + (v % (7 : Int))) + (1 : Int))]) :: .blk g1 [.int .i64 ((1 : Int) + (v / (7 : Int))), .int .i64 (((1 : Int) + (v % (7 : Int))) + (1 : Int))] 37 :: L) w := s
          replace s : St W (Own 37 2 A2 (k + 1) c3 ((egs ((l.take k).map arcOf)) ++ [.int .i64 ((1 : Int) + (v / (7 : Int))), .int .i64 (((1 : Int) + (v % (7 : Int))) + (1 : Int))]) :: L) w := St.mid (A := [Own 37 2 A2 (k + 1) c3 ((egs ((l.take k).map arcOf)) ++ [.int .i64 ((1 : Int) + (v / (7 : Int))), .int .i64 (((1 : Int) + (v % (7 : Int))) + (1 : Int))])]) (B := [.blk g1 [.int .i64 ((1 : Int) + (v / (7 : Int))), .int .i64 (((1 : Int) + (v % (7 : Int))) + (1 : Int))] 37]) s
          replace s : St W (Own 37 2 A2 (k + 1) c3 (egs ((l.take (k + 1)).map arcOf)) :: L) w := by
            rw [arcs_step hx, show arcOf x = (_, _) from rfl, hv]
            first | (rw [if_pos (by omega)]; exact s) | (rw [if_neg (by omega)]; exact s)
          exact ⟨(k + 1, A2, c3), (show n - (k + 1) < n - k by omega), (Has.cons ha (by kernel_rfl) (by kernel_rfl) (Has.cons ha (by kernel_rfl) (by kernel_rfl) (Has.cons ha (by kernel_rfl) (by kernel_rfl) (Has.nil ha)))), s, (show k + 1 ≤ n ∧ k + 1 ≤ 60 by omega)⟩
        · rw [hb] at ha; replace hb : ¬ (((1 : Int) + (v % (7 : Int))) ≥ ((1 : Int) + (v / (7 : Int)))) := of_decide_eq_false hb
          refine wp_skip ?_
          refine then_normal ?_
          refine wp_region_lit ?_
          refine st_val (.slice Ao k co) ha (by kernel_rfl) (by kernel_rfl) ?_
          clear ha; intro a ha
          refine st_val (.int .i64 ((1 : Int) + (v / (7 : Int)))) ha (by kernel_rfl) (by kernel_rfl) ?_
          clear ha; intro a ha
          refine st_val (.int .i64 ((1 : Int) + (v % (7 : Int)))) ha (by kernel_rfl) (by kernel_rfl) ?_
          clear ha; intro a ha
          refine st_val (.agg #[.int .i64 ((1 : Int) + (v / (7 : Int))), .int .i64 ((1 : Int) + (v % (7 : Int)))]) ha (by kernel_rfl) (by kernel_rfl) ?_
          clear ha; intro a ha
          refine st_ex ha (by kernel_rfl) (ex_buildSlice elt22 _ zs22 [.int .i64 ((1 : Int) + (v / (7 : Int))), .int .i64 ((1 : Int) + (v % (7 : Int)))] s rfl (by kernel_rfl) (by decide)) ?_
          clear ha; rintro _ w a ⟨g4, rfl, s⟩ ha
          replace s : St W (.blk g4 [.int .i64 ((1 : Int) + (v / (7 : Int))), .int .i64 ((1 : Int) + (v % (7 : Int)))] 37 :: Own 37 2 Ao k co (egs ((l.take k).map arcOf)) :: L) w := s
          refine st_ex ha (by kernel_rfl) (ex_append (m := 1) (d' := 1) elt22 (by decide) 1 [.int .i64 ((1 : Int) + (v / (7 : Int))), .int .i64 ((1 : Int) + (v % (7 : Int)))] s rfl (by kernel_rfl) (by kernel_rfl) rfl (reads_blk (s.blkIs 0 rfl) rfl) (by simp [Value.oneCell']) (by simp only [maxLen]; omega) (by omega)) ?_
          clear ha; rintro _ w a ⟨A5, c6, rfl, hA_, s⟩ ha
          replace s : St W (.blk g4 [.int .i64 ((1 : Int) + (v / (7 : Int))), .int .i64 ((1 : Int) + (v % (7 : Int)))] 37 :: Own 37 2 A5 (k + 1) c6 ((egs ((l.take k).map arcOf)) ++ [.int .i64 ((1 : Int) + (v / (7 : Int))), .int .i64 ((1 : Int) + (v % (7 : Int)))]) :: L) w := s
          refine st_val (.slice A5 (k + 1) c6) ha (by kernel_rfl) (by kernel_rfl) ?_
          clear ha; intro a ha
          refine wpList_nil ?_
          refine block_normal ?_
          refine then_normal ?_
          refine wp_region_lit ?_
          refine st_val (.int .i64 ((k : Nat) : Int)) ha (by kernel_rfl) (by kernel_rfl) ?_
          clear ha; intro a ha
          refine st_val (.int .i64 ((k + 1 : Nat) : Int)) ha (by kernel_rfl) (run_arith (((k : Nat) : Int) + (1 : Int)) ((k + 1 : Nat) : Int) rfl (by kernel_rfl) (by kernel_rfl) (.inl ⟨rfl, rfl⟩) (by rw [wrap64_in (by omega)]; try omega) _) ?_
          clear ha; intro a ha
          refine st_val (.int .i64 ((k + 1 : Nat) : Int)) ha (by kernel_rfl) (by kernel_rfl) ?_
          clear ha; intro a ha
          refine wpList_nil ?_
          refine then_normal ?_
          replace s := s.at_ (j := 1) rfl
          replace s : St W (Own 37 2 A5 (k + 1) c6 ((egs ((l.take k).map arcOf)) ++ [.int .i64 ((1 : Int) + (v / (7 : Int))), .int .i64 ((1 : Int) + (v % (7 : Int)))]) :: .blk g4 [.int .i64 ((1 : Int) + (v / (7 : Int))), .int .i64 ((1 : Int) + (v % (7 : Int)))] 37 :: L) w := s
          replace s : St W (Own 37 2 A5 (k + 1) c6 ((egs ((l.take k).map arcOf)) ++ [.int .i64 ((1 : Int) + (v / (7 : Int))), .int .i64 ((1 : Int) + (v % (7 : Int)))]) :: L) w := St.mid (A := [Own 37 2 A5 (k + 1) c6 ((egs ((l.take k).map arcOf)) ++ [.int .i64 ((1 : Int) + (v / (7 : Int))), .int .i64 ((1 : Int) + (v % (7 : Int)))])]) (B := [.blk g4 [.int .i64 ((1 : Int) + (v / (7 : Int))), .int .i64 ((1 : Int) + (v % (7 : Int)))] 37]) s
          replace s : St W (Own 37 2 A5 (k + 1) c6 (egs ((l.take (k + 1)).map arcOf)) :: L) w := by
            rw [arcs_step hx, show arcOf x = (_, _) from rfl, hv]
            first | (rw [if_pos (by omega)]; exact s) | (rw [if_neg (by omega)]; exact s)
          exact ⟨(k + 1, A5, c6), (show n - (k + 1) < n - k by omega), (Has.cons ha (by kernel_rfl) (by kernel_rfl) (Has.cons ha (by kernel_rfl) (by kernel_rfl) (Has.cons ha (by kernel_rfl) (by kernel_rfl) (Has.nil ha)))), s, (show k + 1 ≤ n ∧ k + 1 ≤ 60 by omega)⟩
      · rw [hb] at ha; replace hb : ¬ (((k : Nat) : Int) < (60 : Int)) := of_decide_eq_false hb
        refine wp_exit ?_
        refine then_exit ?_
        refine then_exit ?_
        refine block_hit ?_
        refine then_normal ?_
        refine wp_seq ?_
        refine wp_region_lit ?_
        refine st_val (.slice Ao k co) ha (by kernel_rfl) (by kernel_rfl) ?_
        clear ha; intro a ha
        refine st_val (.slice Ao k co) ha (by kernel_rfl) (by kernel_rfl) ?_
        clear ha; intro a ha
        refine wpList_nil ?_
        refine then_normal ?_
        refine wp_ret ?_
        refine ret_with (v := .slice Ao k co) ha (results_1 rfl ha (res_tmp (by kernel_rfl) (by kernel_rfl))) ?_
        have hk : arcs l = (l.take k).map arcOf := by
          unfold arcs
          congr 1
          rcases Nat.lt_or_ge k 60 with h | h
          · rw [List.take_of_length_le (by omega), List.take_of_length_le (by omega)]
          · rw [show k = 60 by omega]
        have hkl : (arcs l).length = k := by rw [arcs_len]; omega
        rw [hkl, hk]
        exact ⟨_, _, rfl, s⟩
    · rw [hb] at ha; replace hb : ¬ (((k : Nat) : Int) < ((n : Nat) : Int)) := of_decide_eq_false hb
      refine st_pass ha (by kernel_rfl) ?_
      clear ha; intro a ha
      refine st_pass ha (by kernel_rfl) ?_
      clear ha; intro a ha
      refine st_val (.bool false) ha (by kernel_rfl) (by kernel_rfl) ?_
      clear ha; intro a ha
      refine wpList_nil ?_
      refine then_normal ?_
      refine wp_false ha rfl (by kernel_rfl) ?_
      refine wp_exit ?_
      refine then_exit ?_
      refine then_exit ?_
      refine block_hit ?_
      refine then_normal ?_
      refine wp_seq ?_
      refine wp_region_lit ?_
      refine st_val (.slice Ao k co) ha (by kernel_rfl) (by kernel_rfl) ?_
      clear ha; intro a ha
      refine st_val (.slice Ao k co) ha (by kernel_rfl) (by kernel_rfl) ?_
      clear ha; intro a ha
      refine wpList_nil ?_
      refine then_normal ?_
      refine wp_ret ?_
      refine ret_with (v := .slice Ao k co) ha (results_1 rfl ha (res_tmp (by kernel_rfl) (by kernel_rfl))) ?_
      have hk : arcs l = (l.take k).map arcOf := by
        unfold arcs
        congr 1
        rcases Nat.lt_or_ge k 60 with h | h
        · rw [List.take_of_length_le (by omega), List.take_of_length_le (by omega)]
        · rw [show k = 60 by omega]
      have hkl : (arcs l).length = k := by rw [arcs_len]; omega
      rw [hkl, hk]
      exact ⟨_, _, rfl, s⟩

theorem without_any (W : World) (L : List Chunk) (w : World) (A : Option Addr) (n ca : Nat) (E : List Arc) (id : Int) (hr : Knows L fun w => Reads w 2 A n (egs E)) (hl : E.length = n) (hn : n ≤ 1000000) (s : St W L w) :
    Calls Try.prog 18 #[.slice A n ca, .int .i64 id] w fun e w' => ∃ A' c', e = .returned (.slice A' (withoutP E id).length c') ∧ St W (Own 37 2 A' (withoutP E id).length c' (egs (withoutP E id)) :: L) w' := by
  refine enter_args (l := [.slice A n ca, .int .i64 id]) Try.func18 rfl rfl (Nat.le_of_ble_eq_true rfl) ?_
  intro a ha; replace ha : Has a 37 [(0, .slice A n ca), (1, .int .i64 id)] := ha
  refine wp_seq ?_
  refine wp_region_lit ?_
  refine st_val (.slice none 0 0) ha (by kernel_rfl) (by kernel_rfl) ?_
  clear ha; intro a ha
  refine wpList_nil ?_
  refine then_normal ?_
  refine wp_seq ?_
  refine wp_region_lit ?_
  refine st_val (.slice none 0 0) ha (by kernel_rfl) (by kernel_rfl) ?_
  clear ha; intro a ha
  refine wpList_nil ?_
  refine then_normal ?_
  refine wp_seq ?_
  refine wp_seq ?_
  refine wp_region_lit ?_
  refine st_val (.int .i64 0) ha (by kernel_rfl) (by kernel_rfl) ?_
  clear ha; intro a ha
  refine wpList_nil ?_
  refine then_normal ?_
  refine wp_block ?_
  replace s := Own.none_ (e := 37) (k := 2) none s
  refine wp_loopG (G := (Nat × Option Addr × Nat)) (fun ⟨k, Ao, co⟩ a w => Has a 37 [(0, .slice A n ca), (1, .int .i64 id), (5, .slice Ao ((withoutP (E.take k) id).length) co), (6, .int .i64 ((k : Nat) : Int))] ∧ St W (Own 37 2 Ao ((withoutP (E.take k) id).length) co (egs (withoutP (E.take k) id)) :: L) w ∧ (k ≤ n)) (fun ⟨k, Ao, co⟩ => n - k) (0, none, 0) ?_ ?_
  · exact ⟨(Has.cons ha (by kernel_rfl) (by kernel_rfl) (Has.cons ha (by kernel_rfl) (by kernel_rfl) (Has.cons ha (by kernel_rfl) (by kernel_rfl) (Has.cons ha (by kernel_rfl) (by kernel_rfl) (Has.nil ha))))), s, Nat.zero_le _⟩
  · clear ha s; rintro ⟨k, Ao, co⟩ a w ⟨ha, s, hp⟩
    refine wp_seq ?_
    refine wp_seq ?_
    refine wp_region_lit ?_
    refine st_val (.int .i64 ((k : Nat) : Int)) ha (by kernel_rfl) (by kernel_rfl) ?_
    clear ha; intro a ha
    refine st_val (.slice A n ca) ha (by kernel_rfl) (by kernel_rfl) ?_
    clear ha; intro a ha
    refine st_val (.int .i64 ((n : Nat) : Int)) ha (by kernel_rfl) (by kernel_rfl) ?_
    clear ha; intro a ha
    refine st_val (.bool (decide (((k : Nat) : Int) < ((n : Nat) : Int)))) ha (by kernel_rfl) (by kernel_rfl) ?_
    clear ha; intro a ha
    refine wpList_nil ?_
    refine then_normal ?_
    refine wp_part (decide (((k : Nat) : Int) < ((n : Nat) : Int))) ha rfl (by kernel_rfl) (fun hb => ?_) (fun hb => ?_)
    · rw [hb] at ha; replace hb : (((k : Nat) : Int) < ((n : Nat) : Int)) := of_decide_eq_true hb
      obtain ⟨x, hx⟩ : ∃ x, E[k]? = some x := ⟨_, List.getElem?_eq_getElem (by omega)⟩
      have hwl := without_len (E.take k) id
      have htl := List.length_take_le k E
      obtain ⟨ada, hA⟩ := Reads.addr (hr _ s.sat.tail) (by omega)
      subst hA
      refine wp_skip ?_
      refine then_normal ?_
      refine wp_seq ?_
      refine wp_block ?_
      refine wp_seq ?_
      refine wp_region_lit ?_
      refine st_val (.slice (some ada) n ca) ha (by kernel_rfl) (by kernel_rfl) ?_
      clear ha; intro a ha
      refine st_val (.int .i64 ((k : Nat) : Int)) ha (by kernel_rfl) (by kernel_rfl) ?_
      clear ha; intro a ha
      refine st_val (.pointer (some (ada.add (k * 2)))) ha (by kernel_rfl) (run_indexAddr' (kd := .i64) (i := ((k : Nat) : Int)) (n := n) (c := ca) k rfl Try.underlying22 Try.sizeOf37 (by kernel_rfl) (by kernel_rfl) rfl (by first | assumption | omega) _) ?_
      clear ha; intro a ha
      refine st_val (.pointer (some (ada.add (k * 2 + 0 * 1)))) ha (by kernel_rfl) (run_indexArr_at (kd := .i64) (i := k * 2) (z := 0) 0 rfl Try.underlying37 Try.sizeOf3 (by kernel_rfl) (by kernel_rfl) rfl (by first | assumption | omega) _) ?_
      clear ha; intro a ha
      refine st_val (.int .i64 x.1) ha (by kernel_rfl) (run_loadAt1 (i := k * 2 + 0 * 1) ((hr _ s.sat.tail)) rfl (by kernel_rfl) Try.isAgg3 (by rw [Nat.mul_one]; rw [egs_at hx (by omega)]; rfl)) ?_
      clear ha; intro a ha
      refine st_val (.int .i64 id) ha (by kernel_rfl) (by kernel_rfl) ?_
      clear ha; intro a ha
      refine st_val (.bool (x.1 != id)) ha (by kernel_rfl) (by kernel_rfl) ?_
      clear ha; intro a ha
      refine st_val (.bool (x.1 != id)) ha (by kernel_rfl) (by kernel_rfl) ?_
      clear ha; intro a ha
      rcases Bool.eq_false_or_eq_true (x.1 != id) with hb | hb
      · rw [hb] at ha; have hb_ := hb; replace hb := bne_iff_ne.1 hb
        refine st_val (.slice (some ada) n ca) ha (by kernel_rfl) (by kernel_rfl) ?_
        clear ha; intro a ha
        refine st_val (.int .i64 ((k : Nat) : Int)) ha (by kernel_rfl) (by kernel_rfl) ?_
        clear ha; intro a ha
        refine st_val (.pointer (some (ada.add (k * 2)))) ha (by kernel_rfl) (run_indexAddr' (kd := .i64) (i := ((k : Nat) : Int)) (n := n) (c := ca) k rfl Try.underlying22 Try.sizeOf37 (by kernel_rfl) (by kernel_rfl) rfl (by first | assumption | omega) _) ?_
        clear ha; intro a ha
        refine st_val (.pointer (some (ada.add (k * 2 + 1 * 1)))) ha (by kernel_rfl) (run_indexArr_at (kd := .i64) (i := k * 2) (z := 1) 1 rfl Try.underlying37 Try.sizeOf3 (by kernel_rfl) (by kernel_rfl) rfl (by first | assumption | omega) _) ?_
        clear ha; intro a ha
        refine st_val (.int .i64 x.2) ha (by kernel_rfl) (run_loadAt1 (i := k * 2 + 1 * 1) ((hr _ s.sat.tail)) rfl (by kernel_rfl) Try.isAgg3 (by rw [Nat.mul_one]; rw [egs_at hx (by omega)]; rfl)) ?_
        clear ha; intro a ha
        refine st_val (.int .i64 id) ha (by kernel_rfl) (by kernel_rfl) ?_
        clear ha; intro a ha
        refine st_val (.bool (x.2 != id)) ha (by kernel_rfl) (by kernel_rfl) ?_
        clear ha; intro a ha
        refine st_val (.bool (x.2 != id)) ha (by kernel_rfl) (by kernel_rfl) ?_
        clear ha; intro a ha
        refine wpList_nil ?_
        refine then_normal ?_
        refine wp_part (x.2 != id) ha rfl (by kernel_rfl) (fun hb => ?_) (fun hb => ?_)
        · rw [hb] at ha; have hb_ := hb; replace hb := bne_iff_ne.1 hb
          refine wp_region_lit ?_
          refine st_val (.slice Ao ((withoutP (E.take k) id).length) co) ha (by kernel_rfl) (by kernel_rfl) ?_
          clear ha; intro a ha
          refine st_val (.slice (some ada) n ca) ha (by kernel_rfl) (by kernel_rfl) ?_
          clear ha; intro a ha
          refine st_val (.int .i64 ((k : Nat) : Int)) ha (by kernel_rfl) (by kernel_rfl) ?_
          clear ha; intro a ha
          refine st_val (.pointer (some (ada.add (k * 2)))) ha (by kernel_rfl) (run_indexAddr' (kd := .i64) (i := ((k : Nat) : Int)) (n := n) (c := ca) k rfl Try.underlying22 Try.sizeOf37 (by kernel_rfl) (by kernel_rfl) rfl (by first | assumption | omega) _) ?_
          clear ha; intro a ha
          refine st_val (.agg #[.int .i64 x.1, .int .i64 x.2]) ha (by kernel_rfl) (run_loadAtN (i := k * 2) [.int .i64 x.1, .int .i64 x.2] ((hr _ s.sat.tail)) rfl (by kernel_rfl) Try.isAgg37 Try.sizeOf37 (fun j hj => egs_at hx hj) rfl) ?_
          clear ha; intro a ha
          refine st_ex ha (by kernel_rfl) (ex_buildSlice elt22 _ zs22 [.int .i64 x.1, .int .i64 x.2] s rfl (by kernel_rfl) (by decide)) ?_
          clear ha; rintro _ w a ⟨g1, rfl, s⟩ ha
          replace s : St W (.blk g1 [.int .i64 x.1, .int .i64 x.2] 37 :: Own 37 2 Ao ((withoutP (E.take k) id).length) co (egs (withoutP (E.take k) id)) :: L) w := s
          refine st_ex ha (by kernel_rfl) (ex_append (m := 1) (d' := 1) elt22 (by decide) 1 [.int .i64 x.1, .int .i64 x.2] s rfl (by kernel_rfl) (by kernel_rfl) rfl (reads_blk (s.blkIs 0 rfl) rfl) (by simp [Value.oneCell']) (by simp only [maxLen]; omega) (by omega)) ?_
          clear ha; rintro _ w a ⟨A2, c3, rfl, hA_, s⟩ ha
          replace s : St W (.blk g1 [.int .i64 x.1, .int .i64 x.2] 37 :: Own 37 2 A2 ((withoutP (E.take k) id).length + 1) c3 ((egs (withoutP (E.take k) id)) ++ [.int .i64 x.1, .int .i64 x.2]) :: L) w := s
          refine st_val (.slice A2 ((withoutP (E.take k) id).length + 1) c3) ha (by kernel_rfl) (by kernel_rfl) ?_
          clear ha; intro a ha
          refine wpList_nil ?_
          refine block_normal ?_
          refine then_normal ?_
          refine wp_region_lit ?_
          refine st_val (.int .i64 ((k : Nat) : Int)) ha (by kernel_rfl) (by kernel_rfl) ?_
          clear ha; intro a ha
          refine st_val (.int .i64 ((k + 1 : Nat) : Int)) ha (by kernel_rfl) (run_arith (((k : Nat) : Int) + (1 : Int)) ((k + 1 : Nat) : Int) rfl (by kernel_rfl) (by kernel_rfl) (.inl ⟨rfl, rfl⟩) (by rw [wrap64_in (by omega)]; try omega) _) ?_
          clear ha; intro a ha
          refine st_val (.int .i64 ((k + 1 : Nat) : Int)) ha (by kernel_rfl) (by kernel_rfl) ?_
          clear ha; intro a ha
          refine wpList_nil ?_
          refine then_normal ?_
          replace s := s.at_ (j := 1) rfl
          replace s : St W (Own 37 2 A2 ((withoutP (E.take k) id).length + 1) c3 ((egs (withoutP (E.take k) id)) ++ [.int .i64 x.1, .int .i64 x.2]) :: .blk g1 [.int .i64 x.1, .int .i64 x.2] 37 :: L) w := s
          replace s : St W (Own 37 2 A2 ((withoutP (E.take k) id).length + 1) c3 ((egs (withoutP (E.take k) id)) ++ [.int .i64 x.1, .int .i64 x.2]) :: L) w := St.mid (A := [Own 37 2 A2 ((withoutP (E.take k) id).length + 1) c3 ((egs (withoutP (E.take k) id)) ++ [.int .i64 x.1, .int .i64 x.2])]) (B := [.blk g1 [.int .i64 x.1, .int .i64 x.2] 37]) s
          have hw1 : withoutP (E.take (k + 1)) id = withoutP (E.take k) id ++ [x] := by rw [without_step hx, if_pos ⟨by omega, by omega⟩]
          replace s : St W (Own 37 2 A2 ((withoutP (E.take (k + 1)) id).length) c3 (egs (withoutP (E.take (k + 1)) id)) :: L) w := by rw [hw1, List.length_append, egs_append]; exact s
          exact ⟨(k + 1, A2, c3), (show n - (k + 1) < n - k by omega), (Has.cons ha (by kernel_rfl) (by kernel_rfl) (Has.cons ha (by kernel_rfl) (by kernel_rfl) (Has.cons ha (by kernel_rfl) (by rw [hw1, List.length_append]; kernel_rfl) (Has.cons ha (by kernel_rfl) (by kernel_rfl) (Has.nil ha))))), s, (show k + 1 ≤ n by omega)⟩
        · rw [hb] at ha; have hb_ := hb; replace hb := bne_eq_false_iff_eq.1 hb
          refine wp_skip ?_
          refine block_normal ?_
          refine then_normal ?_
          refine wp_region_lit ?_
          refine st_val (.int .i64 ((k : Nat) : Int)) ha (by kernel_rfl) (by kernel_rfl) ?_
          clear ha; intro a ha
          refine st_val (.int .i64 ((k + 1 : Nat) : Int)) ha (by kernel_rfl) (run_arith (((k : Nat) : Int) + (1 : Int)) ((k + 1 : Nat) : Int) rfl (by kernel_rfl) (by kernel_rfl) (.inl ⟨rfl, rfl⟩) (by rw [wrap64_in (by omega)]; try omega) _) ?_
          clear ha; intro a ha
          refine st_val (.int .i64 ((k + 1 : Nat) : Int)) ha (by kernel_rfl) (by kernel_rfl) ?_
          clear ha; intro a ha
          refine wpList_nil ?_
          refine then_normal ?_
          have hw1 : withoutP (E.take (k + 1)) id = withoutP (E.take k) id := by rw [without_step hx, if_neg (by omega), List.append_nil]
          replace s : St W (Own 37 2 Ao ((withoutP (E.take (k + 1)) id).length) co (egs (withoutP (E.take (k + 1)) id)) :: L) w := by rw [hw1]; exact s
          exact ⟨(k + 1, Ao, co), (show n - (k + 1) < n - k by omega), (Has.cons ha (by kernel_rfl) (by kernel_rfl) (Has.cons ha (by kernel_rfl) (by kernel_rfl) (Has.cons ha (by kernel_rfl) (by rw [hw1]; kernel_rfl) (Has.cons ha (by kernel_rfl) (by kernel_rfl) (Has.nil ha))))), s, (show k + 1 ≤ n by omega)⟩
      · rw [hb] at ha; have hb_ := hb; replace hb := bne_eq_false_iff_eq.1 hb
        refine st_pass ha (by kernel_rfl) ?_
        clear ha; intro a ha
        refine st_pass ha (by kernel_rfl) ?_
        clear ha; intro a ha
        refine st_pass ha (by kernel_rfl) ?_
        clear ha; intro a ha
        refine st_pass ha (by kernel_rfl) ?_
        clear ha; intro a ha
        refine st_pass ha (by kernel_rfl) ?_
        clear ha; intro a ha
        refine st_pass ha (by kernel_rfl) ?_
        clear ha; intro a ha
        refine st_pass ha (by kernel_rfl) ?_
        clear ha; intro a ha
        refine st_val (.bool false) ha (by kernel_rfl) (by kernel_rfl) ?_
        clear ha; intro a ha
        refine wpList_nil ?_
        refine then_normal ?_
        refine wp_false ha rfl (by kernel_rfl) ?_
        refine wp_skip ?_
        refine block_normal ?_
        refine then_normal ?_
        refine wp_region_lit ?_
        refine st_val (.int .i64 ((k : Nat) : Int)) ha (by kernel_rfl) (by kernel_rfl) ?_
        clear ha; intro a ha
        refine st_val (.int .i64 ((k + 1 : Nat) : Int)) ha (by kernel_rfl) (run_arith (((k : Nat) : Int) + (1 : Int)) ((k + 1 : Nat) : Int) rfl (by kernel_rfl) (by kernel_rfl) (.inl ⟨rfl, rfl⟩) (by rw [wrap64_in (by omega)]; try omega) _) ?_
        clear ha; intro a ha
        refine st_val (.int .i64 ((k + 1 : Nat) : Int)) ha (by kernel_rfl) (by kernel_rfl) ?_
        clear ha; intro a ha
        refine wpList_nil ?_
        refine then_normal ?_
        have hw1 : withoutP (E.take (k + 1)) id = withoutP (E.take k) id := by rw [without_step hx, if_neg (by omega), List.append_nil]
        replace s : St W (Own 37 2 Ao ((withoutP (E.take (k + 1)) id).length) co (egs (withoutP (E.take (k + 1)) id)) :: L) w := by rw [hw1]; exact s
        exact ⟨(k + 1, Ao, co), (show n - (k + 1) < n - k by omega), (Has.cons ha (by kernel_rfl) (by kernel_rfl) (Has.cons ha (by kernel_rfl) (by kernel_rfl) (Has.cons ha (by kernel_rfl) (by rw [hw1]; kernel_rfl) (Has.cons ha (by kernel_rfl) (by kernel_rfl) (Has.nil ha))))), s, (show k + 1 ≤ n by omega)⟩
    · rw [hb] at ha; replace hb : ¬ (((k : Nat) : Int) < ((n : Nat) : Int)) := of_decide_eq_false hb
      refine wp_exit ?_
      refine then_exit ?_
      refine then_exit ?_
      refine block_hit ?_
      refine then_normal ?_
      refine wp_seq ?_
      refine wp_region_lit ?_
      refine st_val (.slice Ao ((withoutP (E.take k) id).length) co) ha (by kernel_rfl) (by kernel_rfl) ?_
      clear ha; intro a ha
      refine st_val (.slice Ao ((withoutP (E.take k) id).length) co) ha (by kernel_rfl) (by kernel_rfl) ?_
      clear ha; intro a ha
      refine wpList_nil ?_
      refine then_normal ?_
      refine wp_ret ?_
      refine ret_with (v := .slice Ao ((withoutP (E.take k) id).length) co) ha (results_1 rfl ha (res_tmp (by kernel_rfl) (by kernel_rfl))) ?_
      rw [List.take_of_length_le (by omega)] at s ⊢
      exact ⟨_, _, rfl, s⟩

theorem victimIs_any (W : World) (hW : W.drawn = 0) (L : List Chunk) (w : World) (A : Option Addr) (n ca : Nat) (E : List Arc) (hr : Knows L fun w => Reads w 2 A n (egs E)) (hl : E.length = n) (hn : n ≤ 140737488351232) (B : Option Addr) (m cb : Nat) (l : List Arc) (hrb : Knows L fun w => Reads w 2 B m (egs l)) (hm : l.length = m) (hmn : m ≤ 140737488351232) (hlb : ∀ x ∈ l, -9223372036854775808 ≤ x.1 ∧ x.1 ≤ 9223372036854775807) (want id : Int) (is : Bool) (hV : VictimRes E l id is 0) (his : is = decide (want > 0)) (hid : id = want) (s : St W L w) :
    Calls Try.prog 19 #[.slice A n ca, .slice B m cb, .int .i64 want] w fun e w' => e = .returned (.bool true) ∧ St W L w' := by
  refine enter_args (l := [.slice A n ca, .slice B m cb, .int .i64 want]) Try.func19 rfl rfl (Nat.le_of_ble_eq_true rfl) ?_
  intro a ha; replace ha : Has a 30 [(0, .slice A n ca), (1, .slice B m cb), (2, .int .i64 want)] := ha
  refine wp_seq ?_
  refine wp_region_lit ?_
  refine st_val (.bool false) ha (by kernel_rfl) (by kernel_rfl) ?_
  clear ha; intro a ha
  refine wpList_nil ?_
  refine then_normal ?_
  refine wp_seq ?_
  refine wp_region_lit ?_
  refine st_val (.slice A n ca) ha (by kernel_rfl) (by kernel_rfl) ?_
  clear ha; intro a ha
  refine st_val (.slice B m cb) ha (by kernel_rfl) (by kernel_rfl) ?_
  clear ha; intro a ha
  refine st_call ha (by kernel_rfl) (by kernel_rfl) (victim_any W hW _ w A n ca E (fun w s => hr w s) hl hn B m cb l (fun w s => hrb w s) hm hmn hlb s) ?_
  rintro _ w ⟨id2, is2, er2, rfl, hv, s⟩
  obtain ⟨rfl, rfl, rfl⟩ := hv.unique hV; subst his; have hid2 := hid.symm; subst hid2
  replace s : St W (L) w := s
  refine ⟨_, rfl, ?_⟩; clear ha; intro a ha
  refine st_val (.tuple #[.int .i64 want, .bool (decide (want > (0 : Int))), .int .i64 0]) ha (by kernel_rfl) (by kernel_rfl) ?_
  clear ha; intro a ha
  refine st_val (.int .i64 want) ha (by kernel_rfl) (by kernel_rfl) ?_
  clear ha; intro a ha
  refine st_val (.bool (decide (want > (0 : Int)))) ha (by kernel_rfl) (by kernel_rfl) ?_
  clear ha; intro a ha
  refine st_val (.int .i64 0) ha (by kernel_rfl) (by kernel_rfl) ?_
  clear ha; intro a ha
  refine st_val (.int .i64 want) ha (by kernel_rfl) (by kernel_rfl) ?_
  clear ha; intro a ha
  refine st_val (.bool (decide (want > (0 : Int)))) ha (by kernel_rfl) (by kernel_rfl) ?_
  clear ha; intro a ha
  refine st_val (.int .i64 0) ha (by kernel_rfl) (by kernel_rfl) ?_
  clear ha; intro a ha
  refine wpList_nil ?_
  refine then_normal ?_
  refine wp_seq ?_
  refine wp_region_lit ?_
  refine st_val (.int .i64 0) ha (by kernel_rfl) (by kernel_rfl) ?_
  clear ha; intro a ha
  refine st_val (.bool true) ha (by kernel_rfl) (by kernel_rfl) ?_
  clear ha; intro a ha
  refine st_val (.bool true) ha (by kernel_rfl) (by kernel_rfl) ?_
  clear ha; intro a ha
  refine st_val (.bool (decide (want > (0 : Int)))) ha (by kernel_rfl) (by kernel_rfl) ?_
  clear ha; intro a ha
  refine st_val (.int .i64 want) ha (by kernel_rfl) (by kernel_rfl) ?_
  clear ha; intro a ha
  refine st_val (.bool (decide (want > (0 : Int)))) ha (by kernel_rfl) (by kernel_rfl) ?_
  clear ha; intro a ha
  refine st_val (.bool true) ha (by kernel_rfl) (run_known (beq_self_eq_true _) (show (execOp (evalE _) _).run _ _ = .ok (.value (.bool ((decide (want > (0 : Int))) == (decide (want > (0 : Int)))))) _ from by kernel_rfl)) ?_
  clear ha; intro a ha
  refine st_val (.bool true) ha (by kernel_rfl) (by kernel_rfl) ?_
  clear ha; intro a ha
  refine st_val (.bool true) ha (by kernel_rfl) (by kernel_rfl) ?_
  clear ha; intro a ha
  refine st_val (.int .i64 want) ha (by kernel_rfl) (by kernel_rfl) ?_
  clear ha; intro a ha
  refine st_val (.int .i64 want) ha (by kernel_rfl) (by kernel_rfl) ?_
  clear ha; intro a ha
  refine st_val (.bool true) ha (by kernel_rfl) (run_known (beq_self_eq_true _) (show (execOp (evalE _) _).run _ _ = .ok (.value (.bool (want == want))) _ from by kernel_rfl)) ?_
  clear ha; intro a ha
  refine st_val (.bool true) ha (by kernel_rfl) (by kernel_rfl) ?_
  clear ha; intro a ha
  refine st_val (.bool true) ha (by kernel_rfl) (by kernel_rfl) ?_
  clear ha; intro a ha
  refine wpList_nil ?_
  refine then_normal ?_
  refine wp_ret ?_
  refine ret_with (v := .bool true) ha (results_1 rfl ha (res_tmp (by kernel_rfl) (by kernel_rfl))) ?_
  exact ⟨rfl, s⟩

end Go.Proofs.Ytjdkpebnaohonaa.B
