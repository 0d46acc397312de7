import Derived.Test.YtidfniglnmfphaaB12
namespace Go.Proofs.Ytidfniglnmfphaa.B
open Go.RowKit Go.Maps Go.Sort Go.Shelf Go.Proofs.Ytidfniglnmfphaa.Sep Go.Proofs.Ytidfniglnmfphaa.P
set_option linter.unusedVariables false
set_option linter.unusedSimpArgs false
theorem le_many {ds : List Dn} {d : Dn} (h : d ∈ ds) : d.l.length ≤ many (tns ds) := by
  induction ds with
  | nil => cases h
  | cons x ds ih =>
    have e : many (tns (x :: ds)) = x.l.length + many (tns ds) := by simp [many, Dn.t]
    rw [e]
    rcases List.mem_cons.1 h with rfl | h
    · omega
    · have := ih h; omega
theorem eqints_n (W : World) (L : List Chunk) (w : World) (A B : Option Addr) (ca cb n m : Nat) (la lb : List Nat) (hra : Knows L fun w => Reads w 1 A n (nats la)) (hrb : Knows L fun w => Reads w 1 B m (nats lb)) (h1 : la.length = n) (h2 : lb.length = m) (hn : lb.length ≤ 140737488351232) (e : la = lb) (s : St W L w) :
    Calls Try.prog 16 #[.slice A n ca, .slice B m cb] w fun e w' => e = .returned (.bool true) ∧ St W L w' := by
  subst h1 h2; exact eqints_is W L w A B ca cb la lb hra hrb hn e s
section
variable (W : World) (L : List Chunk) (w : World) (B : Option Addr) (cb : Nat) (ds ds2 : List Dn) (hk : Knows L (DonesIn B ds2)) (hn : Bn ds) (hcp : Copy ds ds2)
include hk hn hcp
theorem rorderC_ok (h0 : code (tns ds) = 0) (s : St W L w) : Calls Try.prog 12 #[.slice B ds.length cb] w fun e w' => ∃ B c o, e = .returned (.tuple #[.slice B ds.length c, .int .i64 0]) ∧ IsOrd (tns ds) o ∧ St W (Own 3 1 B ds.length c (nats o) :: L) w' := by
  have := rorder_ok W L w B cb ds2 hk (hcp.bn hn) (by rw [hcp.tns]; exact h0) s
  rwa [hcp.tns, hcp.length] at this
theorem rorderC_no (h0 : code (tns ds) ≠ 0) (s : St W L w) : Calls Try.prog 12 #[.slice B ds.length cb] w fun e w' => e = .returned (.tuple #[.slice none 0 0, .int .i64 (code (tns ds))]) ∧ St W L w' := by
  have := rorder_no W L w B cb ds2 hk (hcp.bn hn) (by rw [hcp.tns]; exact h0) s
  rwa [hcp.tns, hcp.length] at this
theorem rcheckC_ok (h0 : code (tns ds) = 0) (s : St W L w) : Calls Try.prog 14 #[.slice B ds.length cb] w fun e w' => ∃ o, e = .returned (.tuple #[.int .i64 ((fst (found (tns ds) o) : Nat) : Int), .int .i64 ((snd (found (tns ds) o) : Nat) : Int), .bool (found (tns ds) o).isSome, .int .i64 0]) ∧ IsOrd (tns ds) o ∧ St W L w' := by
  have := rcheckT_ok W L w B cb ds2 hk (hcp.bn hn) (by rw [hcp.tns]; exact h0) s
  rwa [hcp.tns, hcp.length] at this
theorem rcheckC_no (h0 : code (tns ds) ≠ 0) (s : St W L w) : Calls Try.prog 14 #[.slice B ds.length cb] w fun e w' => e = .returned (.tuple #[.int .i64 0, .int .i64 0, .bool false, .int .i64 (code (tns ds))]) ∧ St W L w' := by
  have := rcheckT_no W L w B cb ds2 hk (hcp.bn hn) (by rw [hcp.tns]; exact h0) s
  rwa [hcp.tns, hcp.length] at this
theorem rrowsC_ok (h0 : code (tns ds) = 0) (s : St W L w) : Calls Try.prog 15 #[.slice B ds.length cb] w fun e w' => ∃ B c o, e = .returned (.tuple #[.slice B (rowsOf (tns ds) o).length c, .int .i64 0]) ∧ IsOrd (tns ds) o ∧ St W (Own 54 2 B (rowsOf (tns ds) o).length c (rws (rowsOf (tns ds) o)) :: L) w' := by
  have := rrows_ok W L w B cb ds2 hk (hcp.bn hn) (by rw [hcp.tns]; exact h0) s
  rwa [hcp.tns, hcp.length] at this
theorem rrowsC_no (h0 : code (tns ds) ≠ 0) (s : St W L w) : Calls Try.prog 15 #[.slice B ds.length cb] w fun e w' => e = .returned (.tuple #[.slice none 0 0, .int .i64 (code (tns ds))]) ∧ St W L w' := by
  have := rrows_no W L w B cb ds2 hk (hcp.bn hn) (by rw [hcp.tns]; exact h0) s
  rwa [hcp.tns, hcp.length] at this
end

set_option maxRecDepth 100000 in
set_option maxHeartbeats 4000000 in
theorem tells_true (W : World) (hW : W.drawn = 0) (L : List Chunk) (w : World) (A : Option Addr) (ca : Nat) (ds : List Dn) (hr : Knows L (DonesIn A ds)) (hn : Bn ds) (s : St W L w) :
    Calls Try.prog 3 #[.slice A ds.length ca] w fun e w' => e = .returned (.bool true) ∧ St W L w' := by
  refine enter_args (l := [.slice A ds.length ca]) Try.func3 rfl rfl (Nat.le_of_ble_eq_true rfl) ?_
  intro a ha; replace ha : Has a 172 [(0, .slice A ds.length ca)] := ha
  refine wp_seq ?_
  refine wp_region_lit ?_
  refine st_val (.bool false) ha (by kernel_rfl) (by kernel_rfl) ?_
  clear ha; intro a ha
  refine wpList_nil ?_
  refine then_normal ?_
  refine wp_seq ?_
  refine wp_region_lit ?_
  refine st_val (.int .i64 0) ha (by kernel_rfl) (by kernel_rfl) ?_
  clear ha; intro a ha
  refine wpList_nil ?_
  refine then_normal ?_
  refine wp_seq ?_
  refine wp_seq ?_
  refine wp_region_lit ?_
  refine st_val (.int .i64 0) ha (by kernel_rfl) (by kernel_rfl) ?_
  clear ha; intro a ha
  refine wpList_nil ?_
  refine then_normal ?_
  refine wp_block ?_
  have hm0 : many (tns (ds.take 0)) = 0 := rfl
  refine wp_loopG (G := Nat) (fun k a w => Has a 172 [(0, .slice A ds.length ca), (3, .int .i64 ((many (tns (ds.take k)) : Nat) : Int)), (4, .int .i64 ((k : Nat) : Int))] ∧ St W (L) w ∧ (k ≤ ds.length ∧ k ≤ 1001 ∧ many (tns (ds.take k)) ≤ k * 140737488351232)) (fun k => 1001 - k) 0 ?_ ?_
  · exact ⟨(Has.cons ha (by kernel_rfl) (by kernel_rfl) (Has.cons ha (by kernel_rfl) (by kernel_rfl) (Has.cons ha (by kernel_rfl) (by kernel_rfl) (Has.nil ha)))), s, ⟨Nat.zero_le _, by omega, by rw [hm0]; omega⟩⟩
  · clear ha s; rintro k a w ⟨ha, s, hp⟩
    refine wp_seq ?_
    refine wp_seq ?_
    refine wp_region_lit ?_
    refine st_val (.int .i64 ((k : Nat) : Int)) ha (by kernel_rfl) (by kernel_rfl) ?_
    clear ha; intro a ha
    refine st_val (.slice A ds.length ca) ha (by kernel_rfl) (by kernel_rfl) ?_
    clear ha; intro a ha
    refine st_val (.int .i64 ((ds.length : Nat) : Int)) ha (by kernel_rfl) (by kernel_rfl) ?_
    clear ha; intro a ha
    refine st_val (.bool (decide (((k : Nat) : Int) < ((ds.length : Nat) : Int)))) ha (by kernel_rfl) (by kernel_rfl) ?_
    clear ha; intro a ha
    refine st_val (.bool (decide (((k : Nat) : Int) < ((ds.length : Nat) : Int)))) ha (by kernel_rfl) (by kernel_rfl) ?_
    clear ha; intro a ha
    rcases Bool.eq_false_or_eq_true (decide (((k : Nat) : Int) < ((ds.length : Nat) : Int))) with hb | hb
    · rw [hb] at ha; replace hb : (((k : Nat) : Int) < ((ds.length : Nat) : Int)) := of_decide_eq_true hb
      obtain ⟨d, hd⟩ : ∃ d, ds[k]? = some d := ⟨_, List.getElem?_eq_getElem (by omega)⟩
      have hdl := (hn.row hd).1
      obtain ⟨ad, hA⟩ := Reads.addr (hr _ s.sat).1 (by omega)
      subst hA
      have hk3 := hp.2.2
      have hk4 : k * 140737488351232 ≤ 1001 * 140737488351232 := Nat.mul_le_mul_right _ hp.2.1
      refine st_val (.int .i64 ((k : Nat) : Int)) ha (by kernel_rfl) (by kernel_rfl) ?_
      clear ha; intro a ha
      refine st_val (.bool (decide (((k : Nat) : Int) ≤ (1000 : Int)))) ha (by kernel_rfl) (by kernel_rfl) ?_
      clear ha; intro a ha
      refine st_val (.bool (decide (((k : Nat) : Int) ≤ (1000 : Int)))) ha (by kernel_rfl) (by kernel_rfl) ?_
      clear ha; intro a ha
      refine wpList_nil ?_
      refine then_normal ?_
      refine wp_part (decide (((k : Nat) : Int) ≤ (1000 : Int))) ha rfl (by kernel_rfl) (fun hb => ?_) (fun hb => ?_)
      · rw [hb] at ha; replace hb : (((k : Nat) : Int) ≤ (1000 : Int)) := of_decide_eq_true hb
        refine wp_skip ?_
        refine then_normal ?_
        refine wp_seq ?_
        refine wp_block ?_
        refine wp_region_lit ?_
        refine st_val (.int .i64 ((many (tns (ds.take k)) : Nat) : Int)) ha (by kernel_rfl) (by kernel_rfl) ?_
        clear ha; intro a ha
        refine st_val (.slice (some ad) ds.length ca) ha (by kernel_rfl) (by kernel_rfl) ?_
        clear ha; intro a ha
        refine st_val (.int .i64 ((k : Nat) : Int)) ha (by kernel_rfl) (by kernel_rfl) ?_
        clear ha; intro a ha
        refine st_val (.pointer (some (ad.add (k * 4)))) ha (by kernel_rfl) (run_indexAddr' (kd := .i64) (i := ((k : Nat) : Int)) (n := ds.length) (c := ca) k rfl Try.underlying22 Try.sizeOf27 (by kernel_rfl) (by kernel_rfl) rfl (by first | assumption | omega) _) ?_
        clear ha; intro a ha
        refine st_val (.pointer (some (ad.add (k * 4 + 3)))) ha (by kernel_rfl) (run_fieldAddr_at (i := k * 4) (off := 3) rfl Try.underlying27 rfl Try.sizeOf25 (by kernel_rfl) _) ?_
        clear ha; intro a ha
        refine st_val (.slice d.A d.l.length d.c) ha (by kernel_rfl) (run_loadAt1 (i := k * 4 + 3) ((hr _ s.sat).1) rfl (by kernel_rfl) Try.isAgg25 (by rw [nvs_at hd (by omega)]; rfl)) ?_
        clear ha; intro a ha
        refine st_val (.int .i64 ((d.l.length : Nat) : Int)) ha (by kernel_rfl) (by kernel_rfl) ?_
        clear ha; intro a ha
        refine st_val (.int .i64 ((many (tns (ds.take k)) + d.l.length : Nat) : Int)) ha (by kernel_rfl) (run_arith (((many (tns (ds.take k)) : Nat) : Int) + ((d.l.length : Nat) : Int)) ((many (tns (ds.take k)) + d.l.length : Nat) : Int) rfl (by kernel_rfl) (by kernel_rfl) (.inl ⟨rfl, rfl⟩) (by rw [wrap64_in (by omega)]; try omega) _) ?_
        clear ha; intro a ha
        refine st_val (.int .i64 ((many (tns (ds.take k)) + d.l.length : Nat) : Int)) ha (by kernel_rfl) (by kernel_rfl) ?_
        clear ha; intro a ha
        refine wpList_nil ?_
        refine block_normal ?_
        refine then_normal ?_
        refine wp_region_lit ?_
        refine st_val (.int .i64 ((k : Nat) : Int)) ha (by kernel_rfl) (by kernel_rfl) ?_
        clear ha; intro a ha
        refine st_val (.int .i64 ((k + 1 : Nat) : Int)) ha (by kernel_rfl) (run_arith (((k : Nat) : Int) + (1 : Int)) ((k + 1 : Nat) : Int) rfl (by kernel_rfl) (by kernel_rfl) (.inl ⟨rfl, rfl⟩) (by rw [wrap64_in (by omega)]; try omega) _) ?_
        clear ha; intro a ha
        refine st_val (.int .i64 ((k + 1 : Nat) : Int)) ha (by kernel_rfl) (by kernel_rfl) ?_
        clear ha; intro a ha
        refine wpList_nil ?_
        refine then_normal ?_
        have hmt := many_take hd
        exact ⟨k + 1, by omega, (Has.cons ha (by kernel_rfl) (by kernel_rfl) (Has.cons ha (by kernel_rfl) (Eq.trans (b := .int .i64 ((many (tns (ds.take k)) + d.l.length : Nat) : Int)) (by kernel_rfl) (by rw [many_take hd])) (Has.cons ha (by kernel_rfl) (by kernel_rfl) (Has.nil ha)))), s, by omega, by omega, by rw [hmt]; omega⟩
      · rw [hb] at ha; replace hb : ¬ (((k : Nat) : Int) ≤ (1000 : Int)) := of_decide_eq_false hb
        have hkb : 1000 < ds.length := by omega
        refine wp_exit ?_
        refine then_exit ?_
        refine then_exit ?_
        refine block_hit ?_
        refine then_normal ?_
        refine wp_seq ?_
        refine wp_seq ?_
        refine wp_region_lit ?_
        refine st_val (.slice (some ad) ds.length ca) ha (by kernel_rfl) (by kernel_rfl) ?_
        clear ha; intro a ha
        refine st_val (.int .i64 ((ds.length : Nat) : Int)) ha (by kernel_rfl) (by kernel_rfl) ?_
        clear ha; intro a ha
        refine st_val (.bool true) ha (by kernel_rfl) (run_known (show (decide (((ds.length : Nat) : Int) > (60 : Int))) = true from decide_eq_true (by omega)) (by kernel_rfl)) ?_
        clear ha; intro a ha
        refine st_val (.bool true) ha (by kernel_rfl) (by kernel_rfl) ?_
        clear ha; intro a ha
        refine st_pass ha (by kernel_rfl) ?_
        clear ha; intro a ha
        refine st_pass ha (by kernel_rfl) ?_
        clear ha; intro a ha
        refine st_val (.bool true) ha (by kernel_rfl) (by kernel_rfl) ?_
        clear ha; intro a ha
        refine wpList_nil ?_
        refine then_normal ?_
        refine wp_true ha rfl (by kernel_rfl) ?_
        refine wp_seq ?_
        refine wp_seq ?_
        refine wp_region_lit ?_
        refine st_val (.slice (some ad) ds.length ca) ha (by kernel_rfl) (by kernel_rfl) ?_
        clear ha; intro a ha
        refine st_val (.int .i64 ((ds.length : Nat) : Int)) ha (by kernel_rfl) (by kernel_rfl) ?_
        clear ha; intro a ha
        refine st_val (.bool (decide (((ds.length : Nat) : Int) ≤ (1000 : Int)))) ha (by kernel_rfl) (by kernel_rfl) ?_
        clear ha; intro a ha
        refine st_val (.bool (decide (((ds.length : Nat) : Int) ≤ (1000 : Int)))) ha (by kernel_rfl) (by kernel_rfl) ?_
        clear ha; intro a ha
        rcases Bool.eq_false_or_eq_true (decide (((ds.length : Nat) : Int) ≤ (1000 : Int))) with hb | hb
        · rw [hb] at ha; replace hb : (((ds.length : Nat) : Int) ≤ (1000 : Int)) := of_decide_eq_true hb
          refine st_val (.int .i64 ((many (tns (ds.take k)) : Nat) : Int)) ha (by kernel_rfl) (by kernel_rfl) ?_
          clear ha; intro a ha
          refine st_val (.bool (decide (((many (tns (ds.take k)) : Nat) : Int) ≤ (10000 : Int)))) ha (by kernel_rfl) (by kernel_rfl) ?_
          clear ha; intro a ha
          refine st_val (.bool (decide (((many (tns (ds.take k)) : Nat) : Int) ≤ (10000 : Int)))) ha (by kernel_rfl) (by kernel_rfl) ?_
          clear ha; intro a ha
          refine wpList_nil ?_
          refine then_normal ?_
          refine wp_part (decide (((many (tns (ds.take k)) : Nat) : Int) ≤ (10000 : Int))) ha rfl (by kernel_rfl) (fun hb => ?_) (fun hb => ?_)
          · rw [hb] at ha; replace hb : (((many (tns (ds.take k)) : Nat) : Int) ≤ (10000 : Int)) := of_decide_eq_true hb
            refine wp_seq ?_
            refine wp_region_lit ?_
            refine st_call ha (by kernel_rfl) (by kernel_rfl) (works_true W hW _ w s) ?_
            rintro _ w ⟨rfl, s⟩
            replace s : St W (L) w := s
            refine ⟨_, rfl, ?_⟩; clear ha; intro a ha
            refine st_val (.bool true) ha (by kernel_rfl) (by kernel_rfl) ?_
            clear ha; intro a ha
            refine wpList_nil ?_
            refine then_normal ?_
            refine wp_ret ?_
            refine then_ret ?_
            refine then_ret ?_
            refine ret_with (v := .bool true) ha (results_1 rfl ha (res_tmp (by kernel_rfl) (by kernel_rfl))) ?_
            exact ⟨rfl, s⟩
          · rw [hb] at ha; replace hb : ¬ (((many (tns (ds.take k)) : Nat) : Int) ≤ (10000 : Int)) := of_decide_eq_false hb
            refine wp_skip ?_
            refine then_normal ?_
            refine wp_seq ?_
            refine wp_region_lit ?_
            refine st_val (.slice (some ad) ds.length ca) ha (by kernel_rfl) (by kernel_rfl) ?_
            clear ha; intro a ha
            have h0 : code (tns ds) ≠ 0 := by rw [code_limit (fun h => by have h1 := h.1; have h2 := h.2; simp only [List.length_map] at h1; omega)]; decide
            refine st_call ha (by kernel_rfl) (by kernel_rfl) (order_no W _ w (some ad) ca ds (fun w s => hr w s) hn h0 s) ?_
            rintro _ w ⟨rfl, s⟩
            replace s : St W (L) w := s
            refine ⟨_, rfl, ?_⟩; clear ha; intro a ha
            refine st_val (.tuple #[.slice none 0 0, .int .i64 (code (tns ds))]) ha (by kernel_rfl) (by kernel_rfl) ?_
            clear ha; intro a ha
            refine st_val (.slice none 0 0) ha (by kernel_rfl) (by kernel_rfl) ?_
            clear ha; intro a ha
            refine st_val (.int .i64 (code (tns ds))) ha (by kernel_rfl) (by kernel_rfl) ?_
            clear ha; intro a ha
            refine st_val (.slice none 0 0) ha (by kernel_rfl) (by kernel_rfl) ?_
            clear ha; intro a ha
            refine st_val (.int .i64 (code (tns ds))) ha (by kernel_rfl) (by kernel_rfl) ?_
            clear ha; intro a ha
            refine wpList_nil ?_
            refine then_normal ?_
            refine wp_seq ?_
            refine wp_region_lit ?_
            refine st_val (.slice (some ad) ds.length ca) ha (by kernel_rfl) (by kernel_rfl) ?_
            clear ha; intro a ha
            refine st_call ha (by kernel_rfl) (by kernel_rfl) (check_no W hW _ w (some ad) ca ds (fun w s => hr w s) hn h0 s) ?_
            rintro _ w ⟨rfl, s⟩
            replace s : St W (L) w := s
            refine ⟨_, rfl, ?_⟩; clear ha; intro a ha
            refine st_val (.tuple #[.int .i64 0, .int .i64 0, .bool false, .int .i64 (code (tns ds))]) ha (by kernel_rfl) (by kernel_rfl) ?_
            clear ha; intro a ha
            refine st_val (.int .i64 0) ha (by kernel_rfl) (by kernel_rfl) ?_
            clear ha; intro a ha
            refine st_val (.int .i64 0) ha (by kernel_rfl) (by kernel_rfl) ?_
            clear ha; intro a ha
            refine st_val (.bool false) ha (by kernel_rfl) (by kernel_rfl) ?_
            clear ha; intro a ha
            refine st_val (.int .i64 (code (tns ds))) ha (by kernel_rfl) (by kernel_rfl) ?_
            clear ha; intro a ha
            refine st_val (.int .i64 0) ha (by kernel_rfl) (by kernel_rfl) ?_
            clear ha; intro a ha
            refine st_val (.int .i64 0) ha (by kernel_rfl) (by kernel_rfl) ?_
            clear ha; intro a ha
            refine st_val (.bool false) ha (by kernel_rfl) (by kernel_rfl) ?_
            clear ha; intro a ha
            refine st_val (.int .i64 (code (tns ds))) ha (by kernel_rfl) (by kernel_rfl) ?_
            clear ha; intro a ha
            refine wpList_nil ?_
            refine then_normal ?_
            refine wp_seq ?_
            refine wp_region_lit ?_
            refine st_val (.slice (some ad) ds.length ca) ha (by kernel_rfl) (by kernel_rfl) ?_
            clear ha; intro a ha
            refine st_call ha (by kernel_rfl) (by kernel_rfl) (rows_no W hW _ w (some ad) ca ds (fun w s => hr w s) hn h0 s) ?_
            rintro _ w ⟨rfl, s⟩
            replace s : St W (L) w := s
            refine ⟨_, rfl, ?_⟩; clear ha; intro a ha
            refine st_val (.tuple #[.slice none 0 0, .int .i64 (code (tns ds))]) ha (by kernel_rfl) (by kernel_rfl) ?_
            clear ha; intro a ha
            refine st_val (.slice none 0 0) ha (by kernel_rfl) (by kernel_rfl) ?_
            clear ha; intro a ha
            refine st_val (.int .i64 (code (tns ds))) ha (by kernel_rfl) (by kernel_rfl) ?_
            clear ha; intro a ha
            refine st_val (.slice none 0 0) ha (by kernel_rfl) (by kernel_rfl) ?_
            clear ha; intro a ha
            refine st_val (.int .i64 (code (tns ds))) ha (by kernel_rfl) (by kernel_rfl) ?_
            clear ha; intro a ha
            refine wpList_nil ?_
            refine then_normal ?_
            refine wp_seq ?_
            refine wp_region_lit ?_
            refine st_val (.int .i64 (code (tns ds))) ha (by kernel_rfl) (by kernel_rfl) ?_
            clear ha; intro a ha
            refine st_val (.bool true) ha (by kernel_rfl) (run_known (show ((code (tns ds)) == (5 : Int)) = true from by rw [code_limit (fun h => by have h1 := h.1; have h2 := h.2; simp only [List.length_map] at h1; omega)]; rfl) (by kernel_rfl)) ?_
            clear ha; intro a ha
            refine st_val (.bool true) ha (by kernel_rfl) (by kernel_rfl) ?_
            clear ha; intro a ha
            refine st_val (.int .i64 (code (tns ds))) ha (by kernel_rfl) (by kernel_rfl) ?_
            clear ha; intro a ha
            refine st_val (.int .i64 (code (tns ds))) ha (by kernel_rfl) (by kernel_rfl) ?_
            clear ha; intro a ha
            refine st_val (.bool true) ha (by kernel_rfl) (run_known (beq_self_eq_true _) (show (execOp (evalE _) _).run _ _ = .ok (.value (.bool ((code (tns ds)) == (code (tns ds))))) _ from by kernel_rfl)) ?_
            clear ha; intro a ha
            refine st_val (.bool true) ha (by kernel_rfl) (by kernel_rfl) ?_
            clear ha; intro a ha
            refine st_val (.bool true) ha (by kernel_rfl) (by kernel_rfl) ?_
            clear ha; intro a ha
            refine st_val (.int .i64 (code (tns ds))) ha (by kernel_rfl) (by kernel_rfl) ?_
            clear ha; intro a ha
            refine st_val (.int .i64 (code (tns ds))) ha (by kernel_rfl) (by kernel_rfl) ?_
            clear ha; intro a ha
            refine st_val (.bool true) ha (by kernel_rfl) (run_known (beq_self_eq_true _) (show (execOp (evalE _) _).run _ _ = .ok (.value (.bool ((code (tns ds)) == (code (tns ds))))) _ from by kernel_rfl)) ?_
            clear ha; intro a ha
            refine st_val (.bool true) ha (by kernel_rfl) (by kernel_rfl) ?_
            clear ha; intro a ha
            refine st_val (.bool true) ha (by kernel_rfl) (by kernel_rfl) ?_
            clear ha; intro a ha
            refine st_call ha (by kernel_rfl) (by kernel_rfl) (works_true W hW _ w s) ?_
            rintro _ w ⟨rfl, s⟩
            replace s : St W (L) w := s
            refine ⟨_, rfl, ?_⟩; clear ha; intro a ha
            refine st_val (.bool true) ha (by kernel_rfl) (by kernel_rfl) ?_
            clear ha; intro a ha
            refine st_val (.bool true) ha (by kernel_rfl) (by kernel_rfl) ?_
            clear ha; intro a ha
            refine wpList_nil ?_
            refine then_normal ?_
            refine wp_ret ?_
            refine then_ret ?_
            refine ret_with (v := .bool true) ha (results_1 rfl ha (res_tmp (by kernel_rfl) (by kernel_rfl))) ?_
            exact ⟨rfl, s⟩
        · rw [hb] at ha; replace hb : ¬ (((ds.length : Nat) : Int) ≤ (1000 : Int)) := of_decide_eq_false hb
          refine st_pass ha (by kernel_rfl) ?_
          clear ha; intro a ha
          refine st_pass ha (by kernel_rfl) ?_
          clear ha; intro a ha
          refine st_val (.bool false) ha (by kernel_rfl) (by kernel_rfl) ?_
          clear ha; intro a ha
          refine wpList_nil ?_
          refine then_normal ?_
          refine wp_false ha rfl (by kernel_rfl) ?_
          refine wp_skip ?_
          refine then_normal ?_
          refine wp_seq ?_
          refine wp_region_lit ?_
          refine st_val (.slice (some ad) ds.length ca) ha (by kernel_rfl) (by kernel_rfl) ?_
          clear ha; intro a ha
          have h0 : code (tns ds) ≠ 0 := by rw [code_limit (fun h => by have h1 := h.1; have h2 := h.2; simp only [List.length_map] at h1; omega)]; decide
          refine st_call ha (by kernel_rfl) (by kernel_rfl) (order_no W _ w (some ad) ca ds (fun w s => hr w s) hn h0 s) ?_
          rintro _ w ⟨rfl, s⟩
          replace s : St W (L) w := s
          refine ⟨_, rfl, ?_⟩; clear ha; intro a ha
          refine st_val (.tuple #[.slice none 0 0, .int .i64 (code (tns ds))]) ha (by kernel_rfl) (by kernel_rfl) ?_
          clear ha; intro a ha
          refine st_val (.slice none 0 0) ha (by kernel_rfl) (by kernel_rfl) ?_
          clear ha; intro a ha
          refine st_val (.int .i64 (code (tns ds))) ha (by kernel_rfl) (by kernel_rfl) ?_
          clear ha; intro a ha
          refine st_val (.slice none 0 0) ha (by kernel_rfl) (by kernel_rfl) ?_
          clear ha; intro a ha
          refine st_val (.int .i64 (code (tns ds))) ha (by kernel_rfl) (by kernel_rfl) ?_
          clear ha; intro a ha
          refine wpList_nil ?_
          refine then_normal ?_
          refine wp_seq ?_
          refine wp_region_lit ?_
          refine st_val (.slice (some ad) ds.length ca) ha (by kernel_rfl) (by kernel_rfl) ?_
          clear ha; intro a ha
          refine st_call ha (by kernel_rfl) (by kernel_rfl) (check_no W hW _ w (some ad) ca ds (fun w s => hr w s) hn h0 s) ?_
          rintro _ w ⟨rfl, s⟩
          replace s : St W (L) w := s
          refine ⟨_, rfl, ?_⟩; clear ha; intro a ha
          refine st_val (.tuple #[.int .i64 0, .int .i64 0, .bool false, .int .i64 (code (tns ds))]) ha (by kernel_rfl) (by kernel_rfl) ?_
          clear ha; intro a ha
          refine st_val (.int .i64 0) ha (by kernel_rfl) (by kernel_rfl) ?_
          clear ha; intro a ha
          refine st_val (.int .i64 0) ha (by kernel_rfl) (by kernel_rfl) ?_
          clear ha; intro a ha
          refine st_val (.bool false) ha (by kernel_rfl) (by kernel_rfl) ?_
          clear ha; intro a ha
          refine st_val (.int .i64 (code (tns ds))) ha (by kernel_rfl) (by kernel_rfl) ?_
          clear ha; intro a ha
          refine st_val (.int .i64 0) ha (by kernel_rfl) (by kernel_rfl) ?_
          clear ha; intro a ha
          refine st_val (.int .i64 0) ha (by kernel_rfl) (by kernel_rfl) ?_
          clear ha; intro a ha
          refine st_val (.bool false) ha (by kernel_rfl) (by kernel_rfl) ?_
          clear ha; intro a ha
          refine st_val (.int .i64 (code (tns ds))) ha (by kernel_rfl) (by kernel_rfl) ?_
          clear ha; intro a ha
          refine wpList_nil ?_
          refine then_normal ?_
          refine wp_seq ?_
          refine wp_region_lit ?_
          refine st_val (.slice (some ad) ds.length ca) ha (by kernel_rfl) (by kernel_rfl) ?_
          clear ha; intro a ha
          refine st_call ha (by kernel_rfl) (by kernel_rfl) (rows_no W hW _ w (some ad) ca ds (fun w s => hr w s) hn h0 s) ?_
          rintro _ w ⟨rfl, s⟩
          replace s : St W (L) w := s
          refine ⟨_, rfl, ?_⟩; clear ha; intro a ha
          refine st_val (.tuple #[.slice none 0 0, .int .i64 (code (tns ds))]) ha (by kernel_rfl) (by kernel_rfl) ?_
          clear ha; intro a ha
          refine st_val (.slice none 0 0) ha (by kernel_rfl) (by kernel_rfl) ?_
          clear ha; intro a ha
          refine st_val (.int .i64 (code (tns ds))) ha (by kernel_rfl) (by kernel_rfl) ?_
          clear ha; intro a ha
          refine st_val (.slice none 0 0) ha (by kernel_rfl) (by kernel_rfl) ?_
          clear ha; intro a ha
          refine st_val (.int .i64 (code (tns ds))) ha (by kernel_rfl) (by kernel_rfl) ?_
          clear ha; intro a ha
          refine wpList_nil ?_
          refine then_normal ?_
          refine wp_seq ?_
          refine wp_region_lit ?_
          refine st_val (.int .i64 (code (tns ds))) ha (by kernel_rfl) (by kernel_rfl) ?_
          clear ha; intro a ha
          refine st_val (.bool true) ha (by kernel_rfl) (run_known (show ((code (tns ds)) == (5 : Int)) = true from by rw [code_limit (fun h => by have h1 := h.1; have h2 := h.2; simp only [List.length_map] at h1; omega)]; rfl) (by kernel_rfl)) ?_
          clear ha; intro a ha
          refine st_val (.bool true) ha (by kernel_rfl) (by kernel_rfl) ?_
          clear ha; intro a ha
          refine st_val (.int .i64 (code (tns ds))) ha (by kernel_rfl) (by kernel_rfl) ?_
          clear ha; intro a ha
          refine st_val (.int .i64 (code (tns ds))) ha (by kernel_rfl) (by kernel_rfl) ?_
          clear ha; intro a ha
          refine st_val (.bool true) ha (by kernel_rfl) (run_known (beq_self_eq_true _) (show (execOp (evalE _) _).run _ _ = .ok (.value (.bool ((code (tns ds)) == (code (tns ds))))) _ from by kernel_rfl)) ?_
          clear ha; intro a ha
          refine st_val (.bool true) ha (by kernel_rfl) (by kernel_rfl) ?_
          clear ha; intro a ha
          refine st_val (.bool true) ha (by kernel_rfl) (by kernel_rfl) ?_
          clear ha; intro a ha
          refine st_val (.int .i64 (code (tns ds))) ha (by kernel_rfl) (by kernel_rfl) ?_
          clear ha; intro a ha
          refine st_val (.int .i64 (code (tns ds))) ha (by kernel_rfl) (by kernel_rfl) ?_
          clear ha; intro a ha
          refine st_val (.bool true) ha (by kernel_rfl) (run_known (beq_self_eq_true _) (show (execOp (evalE _) _).run _ _ = .ok (.value (.bool ((code (tns ds)) == (code (tns ds))))) _ from by kernel_rfl)) ?_
          clear ha; intro a ha
          refine st_val (.bool true) ha (by kernel_rfl) (by kernel_rfl) ?_
          clear ha; intro a ha
          refine st_val (.bool true) ha (by kernel_rfl) (by kernel_rfl) ?_
          clear ha; intro a ha
          refine st_call ha (by kernel_rfl) (by kernel_rfl) (works_true W hW _ w s) ?_
          rintro _ w ⟨rfl, s⟩
          replace s : St W (L) w := s
          refine ⟨_, rfl, ?_⟩; clear ha; intro a ha
          refine st_val (.bool true) ha (by kernel_rfl) (by kernel_rfl) ?_
          clear ha; intro a ha
          refine st_val (.bool true) ha (by kernel_rfl) (by kernel_rfl) ?_
          clear ha; intro a ha
          refine wpList_nil ?_
          refine then_normal ?_
          refine wp_ret ?_
          refine then_ret ?_
          refine ret_with (v := .bool true) ha (results_1 rfl ha (res_tmp (by kernel_rfl) (by kernel_rfl))) ?_
          exact ⟨rfl, s⟩
    · rw [hb] at ha; replace hb : ¬ (((k : Nat) : Int) < ((ds.length : Nat) : Int)) := of_decide_eq_false hb
      have hk : k = ds.length := by omega
      subst hk
      rw [List.take_length] at ha
      refine st_pass ha (by kernel_rfl) ?_
      clear ha; intro a ha
      refine st_pass ha (by kernel_rfl) ?_
      clear ha; intro a ha
      refine st_val (.bool false) ha (by kernel_rfl) (by kernel_rfl) ?_
      clear ha; intro a ha
      refine wpList_nil ?_
      refine then_normal ?_
      refine wp_false ha rfl (by kernel_rfl) ?_
      refine wp_exit ?_
      refine then_exit ?_
      refine then_exit ?_
      refine block_hit ?_
      refine then_normal ?_
      refine wp_seq ?_
      refine wp_seq ?_
      refine wp_region_lit ?_
      refine st_val (.slice A ds.length ca) ha (by kernel_rfl) (by kernel_rfl) ?_
      clear ha; intro a ha
      refine st_val (.int .i64 ((ds.length : Nat) : Int)) ha (by kernel_rfl) (by kernel_rfl) ?_
      clear ha; intro a ha
      refine st_val (.bool (decide (((ds.length : Nat) : Int) > (60 : Int)))) ha (by kernel_rfl) (by kernel_rfl) ?_
      clear ha; intro a ha
      refine st_val (.bool (decide (((ds.length : Nat) : Int) > (60 : Int)))) ha (by kernel_rfl) (by kernel_rfl) ?_
      clear ha; intro a ha
      rcases Bool.eq_false_or_eq_true (decide (((ds.length : Nat) : Int) > (60 : Int))) with hb | hb
      · rw [hb] at ha; replace hb : (((ds.length : Nat) : Int) > (60 : Int)) := of_decide_eq_true hb
        refine st_pass ha (by kernel_rfl) ?_
        clear ha; intro a ha
        refine st_pass ha (by kernel_rfl) ?_
        clear ha; intro a ha
        refine st_val (.bool true) ha (by kernel_rfl) (by kernel_rfl) ?_
        clear ha; intro a ha
        refine wpList_nil ?_
        refine then_normal ?_
        refine wp_true ha rfl (by kernel_rfl) ?_
        refine wp_seq ?_
        refine wp_seq ?_
        refine wp_region_lit ?_
        refine st_val (.slice A ds.length ca) ha (by kernel_rfl) (by kernel_rfl) ?_
        clear ha; intro a ha
        refine st_val (.int .i64 ((ds.length : Nat) : Int)) ha (by kernel_rfl) (by kernel_rfl) ?_
        clear ha; intro a ha
        refine st_val (.bool (decide (((ds.length : Nat) : Int) ≤ (1000 : Int)))) ha (by kernel_rfl) (by kernel_rfl) ?_
        clear ha; intro a ha
        refine st_val (.bool (decide (((ds.length : Nat) : Int) ≤ (1000 : Int)))) ha (by kernel_rfl) (by kernel_rfl) ?_
        clear ha; intro a ha
        rcases Bool.eq_false_or_eq_true (decide (((ds.length : Nat) : Int) ≤ (1000 : Int))) with hb | hb
        · rw [hb] at ha; replace hb : (((ds.length : Nat) : Int) ≤ (1000 : Int)) := of_decide_eq_true hb
          refine st_val (.int .i64 ((many (tns ds) : Nat) : Int)) ha (by kernel_rfl) (by kernel_rfl) ?_
          clear ha; intro a ha
          refine st_val (.bool (decide (((many (tns ds) : Nat) : Int) ≤ (10000 : Int)))) ha (by kernel_rfl) (by kernel_rfl) ?_
          clear ha; intro a ha
          refine st_val (.bool (decide (((many (tns ds) : Nat) : Int) ≤ (10000 : Int)))) ha (by kernel_rfl) (by kernel_rfl) ?_
          clear ha; intro a ha
          refine wpList_nil ?_
          refine then_normal ?_
          refine wp_part (decide (((many (tns ds) : Nat) : Int) ≤ (10000 : Int))) ha rfl (by kernel_rfl) (fun hb => ?_) (fun hb => ?_)
          · rw [hb] at ha; replace hb : (((many (tns ds) : Nat) : Int) ≤ (10000 : Int)) := of_decide_eq_true hb
            refine wp_seq ?_
            refine wp_region_lit ?_
            refine st_call ha (by kernel_rfl) (by kernel_rfl) (works_true W hW _ w s) ?_
            rintro _ w ⟨rfl, s⟩
            replace s : St W (L) w := s
            refine ⟨_, rfl, ?_⟩; clear ha; intro a ha
            refine st_val (.bool true) ha (by kernel_rfl) (by kernel_rfl) ?_
            clear ha; intro a ha
            refine wpList_nil ?_
            refine then_normal ?_
            refine wp_ret ?_
            refine then_ret ?_
            refine then_ret ?_
            refine ret_with (v := .bool true) ha (results_1 rfl ha (res_tmp (by kernel_rfl) (by kernel_rfl))) ?_
            exact ⟨rfl, s⟩
          · rw [hb] at ha; replace hb : ¬ (((many (tns ds) : Nat) : Int) ≤ (10000 : Int)) := of_decide_eq_false hb
            refine wp_skip ?_
            refine then_normal ?_
            refine wp_seq ?_
            refine wp_region_lit ?_
            refine st_val (.slice A ds.length ca) ha (by kernel_rfl) (by kernel_rfl) ?_
            clear ha; intro a ha
            have h0 : code (tns ds) ≠ 0 := by rw [code_limit (fun h => by have h1 := h.1; have h2 := h.2; simp only [List.length_map] at h1; omega)]; decide
            refine st_call ha (by kernel_rfl) (by kernel_rfl) (order_no W _ w A ca ds (fun w s => hr w s) hn h0 s) ?_
            rintro _ w ⟨rfl, s⟩
            replace s : St W (L) w := s
            refine ⟨_, rfl, ?_⟩; clear ha; intro a ha
            refine st_val (.tuple #[.slice none 0 0, .int .i64 (code (tns ds))]) ha (by kernel_rfl) (by kernel_rfl) ?_
            clear ha; intro a ha
            refine st_val (.slice none 0 0) ha (by kernel_rfl) (by kernel_rfl) ?_
            clear ha; intro a ha
            refine st_val (.int .i64 (code (tns ds))) ha (by kernel_rfl) (by kernel_rfl) ?_
            clear ha; intro a ha
            refine st_val (.slice none 0 0) ha (by kernel_rfl) (by kernel_rfl) ?_
            clear ha; intro a ha
            refine st_val (.int .i64 (code (tns ds))) ha (by kernel_rfl) (by kernel_rfl) ?_
            clear ha; intro a ha
            refine wpList_nil ?_
            refine then_normal ?_
            refine wp_seq ?_
            refine wp_region_lit ?_
            refine st_val (.slice A ds.length ca) ha (by kernel_rfl) (by kernel_rfl) ?_
            clear ha; intro a ha
            refine st_call ha (by kernel_rfl) (by kernel_rfl) (check_no W hW _ w A ca ds (fun w s => hr w s) hn h0 s) ?_
            rintro _ w ⟨rfl, s⟩
            replace s : St W (L) w := s
            refine ⟨_, rfl, ?_⟩; clear ha; intro a ha
            refine st_val (.tuple #[.int .i64 0, .int .i64 0, .bool false, .int .i64 (code (tns ds))]) ha (by kernel_rfl) (by kernel_rfl) ?_
            clear ha; intro a ha
            refine st_val (.int .i64 0) ha (by kernel_rfl) (by kernel_rfl) ?_
            clear ha; intro a ha
            refine st_val (.int .i64 0) ha (by kernel_rfl) (by kernel_rfl) ?_
            clear ha; intro a ha
            refine st_val (.bool false) ha (by kernel_rfl) (by kernel_rfl) ?_
            clear ha; intro a ha
            refine st_val (.int .i64 (code (tns ds))) ha (by kernel_rfl) (by kernel_rfl) ?_
            clear ha; intro a ha
            refine st_val (.int .i64 0) ha (by kernel_rfl) (by kernel_rfl) ?_
            clear ha; intro a ha
            refine st_val (.int .i64 0) ha (by kernel_rfl) (by kernel_rfl) ?_
            clear ha; intro a ha
            refine st_val (.bool false) ha (by kernel_rfl) (by kernel_rfl) ?_
            clear ha; intro a ha
            refine st_val (.int .i64 (code (tns ds))) ha (by kernel_rfl) (by kernel_rfl) ?_
            clear ha; intro a ha
            refine wpList_nil ?_
            refine then_normal ?_
            refine wp_seq ?_
            refine wp_region_lit ?_
            refine st_val (.slice A ds.length ca) ha (by kernel_rfl) (by kernel_rfl) ?_
            clear ha; intro a ha
            refine st_call ha (by kernel_rfl) (by kernel_rfl) (rows_no W hW _ w A ca ds (fun w s => hr w s) hn h0 s) ?_
            rintro _ w ⟨rfl, s⟩
            replace s : St W (L) w := s
            refine ⟨_, rfl, ?_⟩; clear ha; intro a ha
            refine st_val (.tuple #[.slice none 0 0, .int .i64 (code (tns ds))]) ha (by kernel_rfl) (by kernel_rfl) ?_
            clear ha; intro a ha
            refine st_val (.slice none 0 0) ha (by kernel_rfl) (by kernel_rfl) ?_
            clear ha; intro a ha
            refine st_val (.int .i64 (code (tns ds))) ha (by kernel_rfl) (by kernel_rfl) ?_
            clear ha; intro a ha
            refine st_val (.slice none 0 0) ha (by kernel_rfl) (by kernel_rfl) ?_
            clear ha; intro a ha
            refine st_val (.int .i64 (code (tns ds))) ha (by kernel_rfl) (by kernel_rfl) ?_
            clear ha; intro a ha
            refine wpList_nil ?_
            refine then_normal ?_
            refine wp_seq ?_
            refine wp_region_lit ?_
            refine st_val (.int .i64 (code (tns ds))) ha (by kernel_rfl) (by kernel_rfl) ?_
            clear ha; intro a ha
            refine st_val (.bool true) ha (by kernel_rfl) (run_known (show ((code (tns ds)) == (5 : Int)) = true from by rw [code_limit (fun h => by have h1 := h.1; have h2 := h.2; simp only [List.length_map] at h1; omega)]; rfl) (by kernel_rfl)) ?_
            clear ha; intro a ha
            refine st_val (.bool true) ha (by kernel_rfl) (by kernel_rfl) ?_
            clear ha; intro a ha
            refine st_val (.int .i64 (code (tns ds))) ha (by kernel_rfl) (by kernel_rfl) ?_
            clear ha; intro a ha
            refine st_val (.int .i64 (code (tns ds))) ha (by kernel_rfl) (by kernel_rfl) ?_
            clear ha; intro a ha
            refine st_val (.bool true) ha (by kernel_rfl) (run_known (beq_self_eq_true _) (show (execOp (evalE _) _).run _ _ = .ok (.value (.bool ((code (tns ds)) == (code (tns ds))))) _ from by kernel_rfl)) ?_
            clear ha; intro a ha
            refine st_val (.bool true) ha (by kernel_rfl) (by kernel_rfl) ?_
            clear ha; intro a ha
            refine st_val (.bool true) ha (by kernel_rfl) (by kernel_rfl) ?_
            clear ha; intro a ha
            refine st_val (.int .i64 (code (tns ds))) ha (by kernel_rfl) (by kernel_rfl) ?_
            clear ha; intro a ha
            refine st_val (.int .i64 (code (tns ds))) ha (by kernel_rfl) (by kernel_rfl) ?_
            clear ha; intro a ha
            refine st_val (.bool true) ha (by kernel_rfl) (run_known (beq_self_eq_true _) (show (execOp (evalE _) _).run _ _ = .ok (.value (.bool ((code (tns ds)) == (code (tns ds))))) _ from by kernel_rfl)) ?_
            clear ha; intro a ha
            refine st_val (.bool true) ha (by kernel_rfl) (by kernel_rfl) ?_
            clear ha; intro a ha
            refine st_val (.bool true) ha (by kernel_rfl) (by kernel_rfl) ?_
            clear ha; intro a ha
            refine st_call ha (by kernel_rfl) (by kernel_rfl) (works_true W hW _ w s) ?_
            rintro _ w ⟨rfl, s⟩
            replace s : St W (L) w := s
            refine ⟨_, rfl, ?_⟩; clear ha; intro a ha
            refine st_val (.bool true) ha (by kernel_rfl) (by kernel_rfl) ?_
            clear ha; intro a ha
            refine st_val (.bool true) ha (by kernel_rfl) (by kernel_rfl) ?_
            clear ha; intro a ha
            refine wpList_nil ?_
            refine then_normal ?_
            refine wp_ret ?_
            refine then_ret ?_
            refine ret_with (v := .bool true) ha (results_1 rfl ha (res_tmp (by kernel_rfl) (by kernel_rfl))) ?_
            exact ⟨rfl, s⟩
        · rw [hb] at ha; replace hb : ¬ (((ds.length : Nat) : Int) ≤ (1000 : Int)) := of_decide_eq_false hb
          refine st_pass ha (by kernel_rfl) ?_
          clear ha; intro a ha
          refine st_pass ha (by kernel_rfl) ?_
          clear ha; intro a ha
          refine st_val (.bool false) ha (by kernel_rfl) (by kernel_rfl) ?_
          clear ha; intro a ha
          refine wpList_nil ?_
          refine then_normal ?_
          refine wp_false ha rfl (by kernel_rfl) ?_
          refine wp_skip ?_
          refine then_normal ?_
          refine wp_seq ?_
          refine wp_region_lit ?_
          refine st_val (.slice A ds.length ca) ha (by kernel_rfl) (by kernel_rfl) ?_
          clear ha; intro a ha
          have h0 : code (tns ds) ≠ 0 := by rw [code_limit (fun h => by have h1 := h.1; have h2 := h.2; simp only [List.length_map] at h1; omega)]; decide
          refine st_call ha (by kernel_rfl) (by kernel_rfl) (order_no W _ w A ca ds (fun w s => hr w s) hn h0 s) ?_
          rintro _ w ⟨rfl, s⟩
          replace s : St W (L) w := s
          refine ⟨_, rfl, ?_⟩; clear ha; intro a ha
          refine st_val (.tuple #[.slice none 0 0, .int .i64 (code (tns ds))]) ha (by kernel_rfl) (by kernel_rfl) ?_
          clear ha; intro a ha
          refine st_val (.slice none 0 0) ha (by kernel_rfl) (by kernel_rfl) ?_
          clear ha; intro a ha
          refine st_val (.int .i64 (code (tns ds))) ha (by kernel_rfl) (by kernel_rfl) ?_
          clear ha; intro a ha
          refine st_val (.slice none 0 0) ha (by kernel_rfl) (by kernel_rfl) ?_
          clear ha; intro a ha
          refine st_val (.int .i64 (code (tns ds))) ha (by kernel_rfl) (by kernel_rfl) ?_
          clear ha; intro a ha
          refine wpList_nil ?_
          refine then_normal ?_
          refine wp_seq ?_
          refine wp_region_lit ?_
          refine st_val (.slice A ds.length ca) ha (by kernel_rfl) (by kernel_rfl) ?_
          clear ha; intro a ha
          refine st_call ha (by kernel_rfl) (by kernel_rfl) (check_no W hW _ w A ca ds (fun w s => hr w s) hn h0 s) ?_
          rintro _ w ⟨rfl, s⟩
          replace s : St W (L) w := s
          refine ⟨_, rfl, ?_⟩; clear ha; intro a ha
          refine st_val (.tuple #[.int .i64 0, .int .i64 0, .bool false, .int .i64 (code (tns ds))]) ha (by kernel_rfl) (by kernel_rfl) ?_
          clear ha; intro a ha
          refine st_val (.int .i64 0) ha (by kernel_rfl) (by kernel_rfl) ?_
          clear ha; intro a ha
          refine st_val (.int .i64 0) ha (by kernel_rfl) (by kernel_rfl) ?_
          clear ha; intro a ha
          refine st_val (.bool false) ha (by kernel_rfl) (by kernel_rfl) ?_
          clear ha; intro a ha
          refine st_val (.int .i64 (code (tns ds))) ha (by kernel_rfl) (by kernel_rfl) ?_
          clear ha; intro a ha
          refine st_val (.int .i64 0) ha (by kernel_rfl) (by kernel_rfl) ?_
          clear ha; intro a ha
          refine st_val (.int .i64 0) ha (by kernel_rfl) (by kernel_rfl) ?_
          clear ha; intro a ha
          refine st_val (.bool false) ha (by kernel_rfl) (by kernel_rfl) ?_
          clear ha; intro a ha
          refine st_val (.int .i64 (code (tns ds))) ha (by kernel_rfl) (by kernel_rfl) ?_
          clear ha; intro a ha
          refine wpList_nil ?_
          refine then_normal ?_
          refine wp_seq ?_
          refine wp_region_lit ?_
          refine st_val (.slice A ds.length ca) ha (by kernel_rfl) (by kernel_rfl) ?_
          clear ha; intro a ha
          refine st_call ha (by kernel_rfl) (by kernel_rfl) (rows_no W hW _ w A ca ds (fun w s => hr w s) hn h0 s) ?_
          rintro _ w ⟨rfl, s⟩
          replace s : St W (L) w := s
          refine ⟨_, rfl, ?_⟩; clear ha; intro a ha
          refine st_val (.tuple #[.slice none 0 0, .int .i64 (code (tns ds))]) ha (by kernel_rfl) (by kernel_rfl) ?_
          clear ha; intro a ha
          refine st_val (.slice none 0 0) ha (by kernel_rfl) (by kernel_rfl) ?_
          clear ha; intro a ha
          refine st_val (.int .i64 (code (tns ds))) ha (by kernel_rfl) (by kernel_rfl) ?_
          clear ha; intro a ha
          refine st_val (.slice none 0 0) ha (by kernel_rfl) (by kernel_rfl) ?_
          clear ha; intro a ha
          refine st_val (.int .i64 (code (tns ds))) ha (by kernel_rfl) (by kernel_rfl) ?_
          clear ha; intro a ha
          refine wpList_nil ?_
          refine then_normal ?_
          refine wp_seq ?_
          refine wp_region_lit ?_
          refine st_val (.int .i64 (code (tns ds))) ha (by kernel_rfl) (by kernel_rfl) ?_
          clear ha; intro a ha
          refine st_val (.bool true) ha (by kernel_rfl) (run_known (show ((code (tns ds)) == (5 : Int)) = true from by rw [code_limit (fun h => by have h1 := h.1; have h2 := h.2; simp only [List.length_map] at h1; omega)]; rfl) (by kernel_rfl)) ?_
          clear ha; intro a ha
          refine st_val (.bool true) ha (by kernel_rfl) (by kernel_rfl) ?_
          clear ha; intro a ha
          refine st_val (.int .i64 (code (tns ds))) ha (by kernel_rfl) (by kernel_rfl) ?_
          clear ha; intro a ha
          refine st_val (.int .i64 (code (tns ds))) ha (by kernel_rfl) (by kernel_rfl) ?_
          clear ha; intro a ha
          refine st_val (.bool true) ha (by kernel_rfl) (run_known (beq_self_eq_true _) (show (execOp (evalE _) _).run _ _ = .ok (.value (.bool ((code (tns ds)) == (code (tns ds))))) _ from by kernel_rfl)) ?_
          clear ha; intro a ha
          refine st_val (.bool true) ha (by kernel_rfl) (by kernel_rfl) ?_
          clear ha; intro a ha
          refine st_val (.bool true) ha (by kernel_rfl) (by kernel_rfl) ?_
          clear ha; intro a ha
          refine st_val (.int .i64 (code (tns ds))) ha (by kernel_rfl) (by kernel_rfl) ?_
          clear ha; intro a ha
          refine st_val (.int .i64 (code (tns ds))) ha (by kernel_rfl) (by kernel_rfl) ?_
          clear ha; intro a ha
          refine st_val (.bool true) ha (by kernel_rfl) (run_known (beq_self_eq_true _) (show (execOp (evalE _) _).run _ _ = .ok (.value (.bool ((code (tns ds)) == (code (tns ds))))) _ from by kernel_rfl)) ?_
          clear ha; intro a ha
          refine st_val (.bool true) ha (by kernel_rfl) (by kernel_rfl) ?_
          clear ha; intro a ha
          refine st_val (.bool true) ha (by kernel_rfl) (by kernel_rfl) ?_
          clear ha; intro a ha
          refine st_call ha (by kernel_rfl) (by kernel_rfl) (works_true W hW _ w s) ?_
          rintro _ w ⟨rfl, s⟩
          replace s : St W (L) w := s
          refine ⟨_, rfl, ?_⟩; clear ha; intro a ha
          refine st_val (.bool true) ha (by kernel_rfl) (by kernel_rfl) ?_
          clear ha; intro a ha
          refine st_val (.bool true) ha (by kernel_rfl) (by kernel_rfl) ?_
          clear ha; intro a ha
          refine wpList_nil ?_
          refine then_normal ?_
          refine wp_ret ?_
          refine then_ret ?_
          refine ret_with (v := .bool true) ha (results_1 rfl ha (res_tmp (by kernel_rfl) (by kernel_rfl))) ?_
          exact ⟨rfl, s⟩
      · rw [hb] at ha; replace hb : ¬ (((ds.length : Nat) : Int) > (60 : Int)) := of_decide_eq_false hb
        refine st_val (.int .i64 ((many (tns ds) : Nat) : Int)) ha (by kernel_rfl) (by kernel_rfl) ?_
        clear ha; intro a ha
        refine st_val (.bool (decide (((many (tns ds) : Nat) : Int) > (400 : Int)))) ha (by kernel_rfl) (by kernel_rfl) ?_
        clear ha; intro a ha
        refine st_val (.bool (decide (((many (tns ds) : Nat) : Int) > (400 : Int)))) ha (by kernel_rfl) (by kernel_rfl) ?_
        clear ha; intro a ha
        refine wpList_nil ?_
        refine then_normal ?_
        refine wp_part (decide (((many (tns ds) : Nat) : Int) > (400 : Int))) ha rfl (by kernel_rfl) (fun hb => ?_) (fun hb => ?_)
        · rw [hb] at ha; replace hb : (((many (tns ds) : Nat) : Int) > (400 : Int)) := of_decide_eq_true hb
          refine wp_seq ?_
          refine wp_seq ?_
          refine wp_region_lit ?_
          refine st_val (.slice A ds.length ca) ha (by kernel_rfl) (by kernel_rfl) ?_
          clear ha; intro a ha
          refine st_val (.int .i64 ((ds.length : Nat) : Int)) ha (by kernel_rfl) (by kernel_rfl) ?_
          clear ha; intro a ha
          refine st_val (.bool (decide (((ds.length : Nat) : Int) ≤ (1000 : Int)))) ha (by kernel_rfl) (by kernel_rfl) ?_
          clear ha; intro a ha
          refine st_val (.bool (decide (((ds.length : Nat) : Int) ≤ (1000 : Int)))) ha (by kernel_rfl) (by kernel_rfl) ?_
          clear ha; intro a ha
          rcases Bool.eq_false_or_eq_true (decide (((ds.length : Nat) : Int) ≤ (1000 : Int))) with hb | hb
          · rw [hb] at ha; replace hb : (((ds.length : Nat) : Int) ≤ (1000 : Int)) := of_decide_eq_true hb
            refine st_val (.int .i64 ((many (tns ds) : Nat) : Int)) ha (by kernel_rfl) (by kernel_rfl) ?_
            clear ha; intro a ha
            refine st_val (.bool (decide (((many (tns ds) : Nat) : Int) ≤ (10000 : Int)))) ha (by kernel_rfl) (by kernel_rfl) ?_
            clear ha; intro a ha
            refine st_val (.bool (decide (((many (tns ds) : Nat) : Int) ≤ (10000 : Int)))) ha (by kernel_rfl) (by kernel_rfl) ?_
            clear ha; intro a ha
            refine wpList_nil ?_
            refine then_normal ?_
            refine wp_part (decide (((many (tns ds) : Nat) : Int) ≤ (10000 : Int))) ha rfl (by kernel_rfl) (fun hb => ?_) (fun hb => ?_)
            · rw [hb] at ha; replace hb : (((many (tns ds) : Nat) : Int) ≤ (10000 : Int)) := of_decide_eq_true hb
              refine wp_seq ?_
              refine wp_region_lit ?_
              refine st_call ha (by kernel_rfl) (by kernel_rfl) (works_true W hW _ w s) ?_
              rintro _ w ⟨rfl, s⟩
              replace s : St W (L) w := s
              refine ⟨_, rfl, ?_⟩; clear ha; intro a ha
              refine st_val (.bool true) ha (by kernel_rfl) (by kernel_rfl) ?_
              clear ha; intro a ha
              refine wpList_nil ?_
              refine then_normal ?_
              refine wp_ret ?_
              refine then_ret ?_
              refine then_ret ?_
              refine ret_with (v := .bool true) ha (results_1 rfl ha (res_tmp (by kernel_rfl) (by kernel_rfl))) ?_
              exact ⟨rfl, s⟩
            · rw [hb] at ha; replace hb : ¬ (((many (tns ds) : Nat) : Int) ≤ (10000 : Int)) := of_decide_eq_false hb
              refine wp_skip ?_
              refine then_normal ?_
              refine wp_seq ?_
              refine wp_region_lit ?_
              refine st_val (.slice A ds.length ca) ha (by kernel_rfl) (by kernel_rfl) ?_
              clear ha; intro a ha
              have h0 : code (tns ds) ≠ 0 := by rw [code_limit (fun h => by have h1 := h.1; have h2 := h.2; simp only [List.length_map] at h1; omega)]; decide
              refine st_call ha (by kernel_rfl) (by kernel_rfl) (order_no W _ w A ca ds (fun w s => hr w s) hn h0 s) ?_
              rintro _ w ⟨rfl, s⟩
              replace s : St W (L) w := s
              refine ⟨_, rfl, ?_⟩; clear ha; intro a ha
              refine st_val (.tuple #[.slice none 0 0, .int .i64 (code (tns ds))]) ha (by kernel_rfl) (by kernel_rfl) ?_
              clear ha; intro a ha
              refine st_val (.slice none 0 0) ha (by kernel_rfl) (by kernel_rfl) ?_
              clear ha; intro a ha
              refine st_val (.int .i64 (code (tns ds))) ha (by kernel_rfl) (by kernel_rfl) ?_
              clear ha; intro a ha
              refine st_val (.slice none 0 0) ha (by kernel_rfl) (by kernel_rfl) ?_
              clear ha; intro a ha
              refine st_val (.int .i64 (code (tns ds))) ha (by kernel_rfl) (by kernel_rfl) ?_
              clear ha; intro a ha
              refine wpList_nil ?_
              refine then_normal ?_
              refine wp_seq ?_
              refine wp_region_lit ?_
              refine st_val (.slice A ds.length ca) ha (by kernel_rfl) (by kernel_rfl) ?_
              clear ha; intro a ha
              refine st_call ha (by kernel_rfl) (by kernel_rfl) (check_no W hW _ w A ca ds (fun w s => hr w s) hn h0 s) ?_
              rintro _ w ⟨rfl, s⟩
              replace s : St W (L) w := s
              refine ⟨_, rfl, ?_⟩; clear ha; intro a ha
              refine st_val (.tuple #[.int .i64 0, .int .i64 0, .bool false, .int .i64 (code (tns ds))]) ha (by kernel_rfl) (by kernel_rfl) ?_
              clear ha; intro a ha
              refine st_val (.int .i64 0) ha (by kernel_rfl) (by kernel_rfl) ?_
              clear ha; intro a ha
              refine st_val (.int .i64 0) ha (by kernel_rfl) (by kernel_rfl) ?_
              clear ha; intro a ha
              refine st_val (.bool false) ha (by kernel_rfl) (by kernel_rfl) ?_
              clear ha; intro a ha
              refine st_val (.int .i64 (code (tns ds))) ha (by kernel_rfl) (by kernel_rfl) ?_
              clear ha; intro a ha
              refine st_val (.int .i64 0) ha (by kernel_rfl) (by kernel_rfl) ?_
              clear ha; intro a ha
              refine st_val (.int .i64 0) ha (by kernel_rfl) (by kernel_rfl) ?_
              clear ha; intro a ha
              refine st_val (.bool false) ha (by kernel_rfl) (by kernel_rfl) ?_
              clear ha; intro a ha
              refine st_val (.int .i64 (code (tns ds))) ha (by kernel_rfl) (by kernel_rfl) ?_
              clear ha; intro a ha
              refine wpList_nil ?_
              refine then_normal ?_
              refine wp_seq ?_
              refine wp_region_lit ?_
              refine st_val (.slice A ds.length ca) ha (by kernel_rfl) (by kernel_rfl) ?_
              clear ha; intro a ha
              refine st_call ha (by kernel_rfl) (by kernel_rfl) (rows_no W hW _ w A ca ds (fun w s => hr w s) hn h0 s) ?_
              rintro _ w ⟨rfl, s⟩
              replace s : St W (L) w := s
              refine ⟨_, rfl, ?_⟩; clear ha; intro a ha
              refine st_val (.tuple #[.slice none 0 0, .int .i64 (code (tns ds))]) ha (by kernel_rfl) (by kernel_rfl) ?_
              clear ha; intro a ha
              refine st_val (.slice none 0 0) ha (by kernel_rfl) (by kernel_rfl) ?_
              clear ha; intro a ha
              refine st_val (.int .i64 (code (tns ds))) ha (by kernel_rfl) (by kernel_rfl) ?_
              clear ha; intro a ha
              refine st_val (.slice none 0 0) ha (by kernel_rfl) (by kernel_rfl) ?_
              clear ha; intro a ha
              refine st_val (.int .i64 (code (tns ds))) ha (by kernel_rfl) (by kernel_rfl) ?_
              clear ha; intro a ha
              refine wpList_nil ?_
              refine then_normal ?_
              refine wp_seq ?_
              refine wp_region_lit ?_
              refine st_val (.int .i64 (code (tns ds))) ha (by kernel_rfl) (by kernel_rfl) ?_
              clear ha; intro a ha
              refine st_val (.bool true) ha (by kernel_rfl) (run_known (show ((code (tns ds)) == (5 : Int)) = true from by rw [code_limit (fun h => by have h1 := h.1; have h2 := h.2; simp only [List.length_map] at h1; omega)]; rfl) (by kernel_rfl)) ?_
              clear ha; intro a ha
              refine st_val (.bool true) ha (by kernel_rfl) (by kernel_rfl) ?_
              clear ha; intro a ha
              refine st_val (.int .i64 (code (tns ds))) ha (by kernel_rfl) (by kernel_rfl) ?_
              clear ha; intro a ha
              refine st_val (.int .i64 (code (tns ds))) ha (by kernel_rfl) (by kernel_rfl) ?_
              clear ha; intro a ha
              refine st_val (.bool true) ha (by kernel_rfl) (run_known (beq_self_eq_true _) (show (execOp (evalE _) _).run _ _ = .ok (.value (.bool ((code (tns ds)) == (code (tns ds))))) _ from by kernel_rfl)) ?_
              clear ha; intro a ha
              refine st_val (.bool true) ha (by kernel_rfl) (by kernel_rfl) ?_
              clear ha; intro a ha
              refine st_val (.bool true) ha (by kernel_rfl) (by kernel_rfl) ?_
              clear ha; intro a ha
              refine st_val (.int .i64 (code (tns ds))) ha (by kernel_rfl) (by kernel_rfl) ?_
              clear ha; intro a ha
              refine st_val (.int .i64 (code (tns ds))) ha (by kernel_rfl) (by kernel_rfl) ?_
              clear ha; intro a ha
              refine st_val (.bool true) ha (by kernel_rfl) (run_known (beq_self_eq_true _) (show (execOp (evalE _) _).run _ _ = .ok (.value (.bool ((code (tns ds)) == (code (tns ds))))) _ from by kernel_rfl)) ?_
              clear ha; intro a ha
              refine st_val (.bool true) ha (by kernel_rfl) (by kernel_rfl) ?_
              clear ha; intro a ha
              refine st_val (.bool true) ha (by kernel_rfl) (by kernel_rfl) ?_
              clear ha; intro a ha
              refine st_call ha (by kernel_rfl) (by kernel_rfl) (works_true W hW _ w s) ?_
              rintro _ w ⟨rfl, s⟩
              replace s : St W (L) w := s
              refine ⟨_, rfl, ?_⟩; clear ha; intro a ha
              refine st_val (.bool true) ha (by kernel_rfl) (by kernel_rfl) ?_
              clear ha; intro a ha
              refine st_val (.bool true) ha (by kernel_rfl) (by kernel_rfl) ?_
              clear ha; intro a ha
              refine wpList_nil ?_
              refine then_normal ?_
              refine wp_ret ?_
              refine then_ret ?_
              refine ret_with (v := .bool true) ha (results_1 rfl ha (res_tmp (by kernel_rfl) (by kernel_rfl))) ?_
              exact ⟨rfl, s⟩
          · rw [hb] at ha; replace hb : ¬ (((ds.length : Nat) : Int) ≤ (1000 : Int)) := of_decide_eq_false hb
            refine st_pass ha (by kernel_rfl) ?_
            clear ha; intro a ha
            refine st_pass ha (by kernel_rfl) ?_
            clear ha; intro a ha
            refine st_val (.bool false) ha (by kernel_rfl) (by kernel_rfl) ?_
            clear ha; intro a ha
            refine wpList_nil ?_
            refine then_normal ?_
            refine wp_false ha rfl (by kernel_rfl) ?_
            refine wp_skip ?_
            refine then_normal ?_
            refine wp_seq ?_
            refine wp_region_lit ?_
            refine st_val (.slice A ds.length ca) ha (by kernel_rfl) (by kernel_rfl) ?_
            clear ha; intro a ha
            have h0 : code (tns ds) ≠ 0 := by rw [code_limit (fun h => by have h1 := h.1; have h2 := h.2; simp only [List.length_map] at h1; omega)]; decide
            refine st_call ha (by kernel_rfl) (by kernel_rfl) (order_no W _ w A ca ds (fun w s => hr w s) hn h0 s) ?_
            rintro _ w ⟨rfl, s⟩
            replace s : St W (L) w := s
            refine ⟨_, rfl, ?_⟩; clear ha; intro a ha
            refine st_val (.tuple #[.slice none 0 0, .int .i64 (code (tns ds))]) ha (by kernel_rfl) (by kernel_rfl) ?_
            clear ha; intro a ha
            refine st_val (.slice none 0 0) ha (by kernel_rfl) (by kernel_rfl) ?_
            clear ha; intro a ha
            refine st_val (.int .i64 (code (tns ds))) ha (by kernel_rfl) (by kernel_rfl) ?_
            clear ha; intro a ha
            refine st_val (.slice none 0 0) ha (by kernel_rfl) (by kernel_rfl) ?_
            clear ha; intro a ha
            refine st_val (.int .i64 (code (tns ds))) ha (by kernel_rfl) (by kernel_rfl) ?_
            clear ha; intro a ha
            refine wpList_nil ?_
            refine then_normal ?_
            refine wp_seq ?_
            refine wp_region_lit ?_
            refine st_val (.slice A ds.length ca) ha (by kernel_rfl) (by kernel_rfl) ?_
            clear ha; intro a ha
            refine st_call ha (by kernel_rfl) (by kernel_rfl) (check_no W hW _ w A ca ds (fun w s => hr w s) hn h0 s) ?_
            rintro _ w ⟨rfl, s⟩
            replace s : St W (L) w := s
            refine ⟨_, rfl, ?_⟩; clear ha; intro a ha
            refine st_val (.tuple #[.int .i64 0, .int .i64 0, .bool false, .int .i64 (code (tns ds))]) ha (by kernel_rfl) (by kernel_rfl) ?_
            clear ha; intro a ha
            refine st_val (.int .i64 0) ha (by kernel_rfl) (by kernel_rfl) ?_
            clear ha; intro a ha
            refine st_val (.int .i64 0) ha (by kernel_rfl) (by kernel_rfl) ?_
            clear ha; intro a ha
            refine st_val (.bool false) ha (by kernel_rfl) (by kernel_rfl) ?_
            clear ha; intro a ha
            refine st_val (.int .i64 (code (tns ds))) ha (by kernel_rfl) (by kernel_rfl) ?_
            clear ha; intro a ha
            refine st_val (.int .i64 0) ha (by kernel_rfl) (by kernel_rfl) ?_
            clear ha; intro a ha
            refine st_val (.int .i64 0) ha (by kernel_rfl) (by kernel_rfl) ?_
            clear ha; intro a ha
            refine st_val (.bool false) ha (by kernel_rfl) (by kernel_rfl) ?_
            clear ha; intro a ha
            refine st_val (.int .i64 (code (tns ds))) ha (by kernel_rfl) (by kernel_rfl) ?_
            clear ha; intro a ha
            refine wpList_nil ?_
            refine then_normal ?_
            refine wp_seq ?_
            refine wp_region_lit ?_
            refine st_val (.slice A ds.length ca) ha (by kernel_rfl) (by kernel_rfl) ?_
            clear ha; intro a ha
            refine st_call ha (by kernel_rfl) (by kernel_rfl) (rows_no W hW _ w A ca ds (fun w s => hr w s) hn h0 s) ?_
            rintro _ w ⟨rfl, s⟩
            replace s : St W (L) w := s
            refine ⟨_, rfl, ?_⟩; clear ha; intro a ha
            refine st_val (.tuple #[.slice none 0 0, .int .i64 (code (tns ds))]) ha (by kernel_rfl) (by kernel_rfl) ?_
            clear ha; intro a ha
            refine st_val (.slice none 0 0) ha (by kernel_rfl) (by kernel_rfl) ?_
            clear ha; intro a ha
            refine st_val (.int .i64 (code (tns ds))) ha (by kernel_rfl) (by kernel_rfl) ?_
            clear ha; intro a ha
            refine st_val (.slice none 0 0) ha (by kernel_rfl) (by kernel_rfl) ?_
            clear ha; intro a ha
            refine st_val (.int .i64 (code (tns ds))) ha (by kernel_rfl) (by kernel_rfl) ?_
            clear ha; intro a ha
            refine wpList_nil ?_
            refine then_normal ?_
            refine wp_seq ?_
            refine wp_region_lit ?_
            refine st_val (.int .i64 (code (tns ds))) ha (by kernel_rfl) (by kernel_rfl) ?_
            clear ha; intro a ha
            refine st_val (.bool true) ha (by kernel_rfl) (run_known (show ((code (tns ds)) == (5 : Int)) = true from by rw [code_limit (fun h => by have h1 := h.1; have h2 := h.2; simp only [List.length_map] at h1; omega)]; rfl) (by kernel_rfl)) ?_
            clear ha; intro a ha
            refine st_val (.bool true) ha (by kernel_rfl) (by kernel_rfl) ?_
            clear ha; intro a ha
            refine st_val (.int .i64 (code (tns ds))) ha (by kernel_rfl) (by kernel_rfl) ?_
            clear ha; intro a ha
            refine st_val (.int .i64 (code (tns ds))) ha (by kernel_rfl) (by kernel_rfl) ?_
            clear ha; intro a ha
            refine st_val (.bool true) ha (by kernel_rfl) (run_known (beq_self_eq_true _) (show (execOp (evalE _) _).run _ _ = .ok (.value (.bool ((code (tns ds)) == (code (tns ds))))) _ from by kernel_rfl)) ?_
            clear ha; intro a ha
            refine st_val (.bool true) ha (by kernel_rfl) (by kernel_rfl) ?_
            clear ha; intro a ha
            refine st_val (.bool true) ha (by kernel_rfl) (by kernel_rfl) ?_
            clear ha; intro a ha
            refine st_val (.int .i64 (code (tns ds))) ha (by kernel_rfl) (by kernel_rfl) ?_
            clear ha; intro a ha
            refine st_val (.int .i64 (code (tns ds))) ha (by kernel_rfl) (by kernel_rfl) ?_
            clear ha; intro a ha
            refine st_val (.bool true) ha (by kernel_rfl) (run_known (beq_self_eq_true _) (show (execOp (evalE _) _).run _ _ = .ok (.value (.bool ((code (tns ds)) == (code (tns ds))))) _ from by kernel_rfl)) ?_
            clear ha; intro a ha
            refine st_val (.bool true) ha (by kernel_rfl) (by kernel_rfl) ?_
            clear ha; intro a ha
            refine st_val (.bool true) ha (by kernel_rfl) (by kernel_rfl) ?_
            clear ha; intro a ha
            refine st_call ha (by kernel_rfl) (by kernel_rfl) (works_true W hW _ w s) ?_
            rintro _ w ⟨rfl, s⟩
            replace s : St W (L) w := s
            refine ⟨_, rfl, ?_⟩; clear ha; intro a ha
            refine st_val (.bool true) ha (by kernel_rfl) (by kernel_rfl) ?_
            clear ha; intro a ha
            refine st_val (.bool true) ha (by kernel_rfl) (by kernel_rfl) ?_
            clear ha; intro a ha
            refine wpList_nil ?_
            refine then_normal ?_
            refine wp_ret ?_
            refine then_ret ?_
            refine ret_with (v := .bool true) ha (results_1 rfl ha (res_tmp (by kernel_rfl) (by kernel_rfl))) ?_
            exact ⟨rfl, s⟩
        · rw [hb] at ha; replace hb : ¬ (((many (tns ds) : Nat) : Int) > (400 : Int)) := of_decide_eq_false hb
          have hsl : ∀ d ∈ ds, d.l.length ≤ 1000000 := fun d hd => by have := le_many hd; omega
          refine wp_skip ?_
          refine then_normal ?_
          refine wp_seq ?_
          refine wp_region_lit ?_
          refine st_val (.slice A ds.length ca) ha (by kernel_rfl) (by kernel_rfl) ?_
          clear ha; intro a ha
          by_cases h0 : code (tns ds) = 0
          · have hpost := order_post h0
            refine st_call ha (by kernel_rfl) (by kernel_rfl) (order_ok W _ w A ca ds (fun w s => hr w s) hn h0 s) ?_
            rintro _ w ⟨B1, c2, o3, rfl, ho3, s⟩
            replace s : St W (Own 3 1 B1 ds.length c2 (nats o3) :: L) w := s
            refine ⟨_, rfl, ?_⟩; clear ha; intro a ha
            refine st_val (.tuple #[.slice B1 ds.length c2, .int .i64 0]) ha (by kernel_rfl) (by kernel_rfl) ?_
            clear ha; intro a ha
            refine st_val (.slice B1 ds.length c2) ha (by kernel_rfl) (by kernel_rfl) ?_
            clear ha; intro a ha
            refine st_val (.int .i64 0) ha (by kernel_rfl) (by kernel_rfl) ?_
            clear ha; intro a ha
            refine st_val (.slice B1 ds.length c2) ha (by kernel_rfl) (by kernel_rfl) ?_
            clear ha; intro a ha
            refine st_val (.int .i64 0) ha (by kernel_rfl) (by kernel_rfl) ?_
            clear ha; intro a ha
            refine wpList_nil ?_
            refine then_normal ?_
            refine wp_seq ?_
            refine wp_region_lit ?_
            refine st_val (.slice A ds.length ca) ha (by kernel_rfl) (by kernel_rfl) ?_
            clear ha; intro a ha
            refine st_call ha (by kernel_rfl) (by kernel_rfl) (should_any W _ w A ca ds (fun w s => hr w s.tail) hn (by omega) hsl s) ?_
            rintro _ w ⟨B4, c5, ds6, rfl, hds6, hds6l, s⟩
            replace s : St W (Own 80 4 B4 ds.length c5 (nvs ds6) :: Inn 81 ds6 :: Own 3 1 B1 ds.length c2 (nats o3) :: L) w := s
            refine ⟨_, rfl, ?_⟩; clear ha; intro a ha
            refine st_call ha (by kernel_rfl) (by kernel_rfl) (rorderC_ok W _ w B4 c5 ds ds6 (nest_knows (i := 0) (j := 1) (e1 := 80) (e2 := 81) (by rw [hds6l]; rfl) rfl (fun w s => hr w s.tail.tail.tail) hds6) hn hds6 h0 s) ?_
            rintro _ w ⟨B7, c8, o9, rfl, ho9, s⟩
            obtain rfl := ho3.unique ho9
            replace s : St W (Own 3 1 B7 ds.length c8 (nats o3) :: Own 80 4 B4 ds.length c5 (nvs ds6) :: Inn 81 ds6 :: Own 3 1 B1 ds.length c2 (nats o3) :: L) w := s
            refine ⟨_, rfl, ?_⟩; clear ha; intro a ha
            refine st_val (.tuple #[.slice B7 ds.length c8, .int .i64 0]) ha (by kernel_rfl) (by kernel_rfl) ?_
            clear ha; intro a ha
            refine st_val (.slice B7 ds.length c8) ha (by kernel_rfl) (by kernel_rfl) ?_
            clear ha; intro a ha
            refine st_val (.int .i64 0) ha (by kernel_rfl) (by kernel_rfl) ?_
            clear ha; intro a ha
            refine st_val (.slice B7 ds.length c8) ha (by kernel_rfl) (by kernel_rfl) ?_
            clear ha; intro a ha
            refine st_val (.int .i64 0) ha (by kernel_rfl) (by kernel_rfl) ?_
            clear ha; intro a ha
            refine wpList_nil ?_
            refine then_normal ?_
            refine wp_seq ?_
            refine wp_region_lit ?_
            refine st_val (.slice A ds.length ca) ha (by kernel_rfl) (by kernel_rfl) ?_
            clear ha; intro a ha
            refine st_call ha (by kernel_rfl) (by kernel_rfl) (check_ok W hW _ w A ca ds (fun w s => hr w s.tail.tail.tail.tail) hn h0 s) ?_
            rintro _ w ⟨o10, rfl, ho10, s⟩
            obtain rfl := ho3.unique ho10
            replace s : St W (Own 3 1 B7 ds.length c8 (nats o3) :: Own 80 4 B4 ds.length c5 (nvs ds6) :: Inn 81 ds6 :: Own 3 1 B1 ds.length c2 (nats o3) :: L) w := s
            refine ⟨_, rfl, ?_⟩; clear ha; intro a ha
            refine st_val (.tuple #[.int .i64 ((fst (found (tns ds) o3) : Nat) : Int), .int .i64 ((snd (found (tns ds) o3) : Nat) : Int), .bool ((found (tns ds) o3).isSome), .int .i64 0]) ha (by kernel_rfl) (by kernel_rfl) ?_
            clear ha; intro a ha
            refine st_val (.int .i64 ((fst (found (tns ds) o3) : Nat) : Int)) ha (by kernel_rfl) (by kernel_rfl) ?_
            clear ha; intro a ha
            refine st_val (.int .i64 ((snd (found (tns ds) o3) : Nat) : Int)) ha (by kernel_rfl) (by kernel_rfl) ?_
            clear ha; intro a ha
            refine st_val (.bool ((found (tns ds) o3).isSome)) ha (by kernel_rfl) (by kernel_rfl) ?_
            clear ha; intro a ha
            refine st_val (.int .i64 0) ha (by kernel_rfl) (by kernel_rfl) ?_
            clear ha; intro a ha
            refine st_val (.int .i64 ((fst (found (tns ds) o3) : Nat) : Int)) ha (by kernel_rfl) (by kernel_rfl) ?_
            clear ha; intro a ha
            refine st_val (.int .i64 ((snd (found (tns ds) o3) : Nat) : Int)) ha (by kernel_rfl) (by kernel_rfl) ?_
            clear ha; intro a ha
            refine st_val (.bool ((found (tns ds) o3).isSome)) ha (by kernel_rfl) (by kernel_rfl) ?_
            clear ha; intro a ha
            refine st_val (.int .i64 0) ha (by kernel_rfl) (by kernel_rfl) ?_
            clear ha; intro a ha
            refine wpList_nil ?_
            refine then_normal ?_
            refine wp_seq ?_
            refine wp_region_lit ?_
            refine st_val (.slice A ds.length ca) ha (by kernel_rfl) (by kernel_rfl) ?_
            clear ha; intro a ha
            refine st_call ha (by kernel_rfl) (by kernel_rfl) (should_any W _ w A ca ds (fun w s => hr w s.tail.tail.tail.tail) hn (by omega) hsl s) ?_
            rintro _ w ⟨B11, c12, ds13, rfl, hds13, hds13l, s⟩
            replace s : St W (Own 80 4 B11 ds.length c12 (nvs ds13) :: Inn 81 ds13 :: Own 3 1 B7 ds.length c8 (nats o3) :: Own 80 4 B4 ds.length c5 (nvs ds6) :: Inn 81 ds6 :: Own 3 1 B1 ds.length c2 (nats o3) :: L) w := s
            refine ⟨_, rfl, ?_⟩; clear ha; intro a ha
            refine st_call ha (by kernel_rfl) (by kernel_rfl) (rcheckC_ok W _ w B11 c12 ds ds13 (nest_knows (i := 0) (j := 1) (e1 := 80) (e2 := 81) (by rw [hds13l]; rfl) rfl (fun w s => hr w s.tail.tail.tail.tail.tail.tail) hds13) hn hds13 h0 s) ?_
            rintro _ w ⟨o14, rfl, ho14, s⟩
            obtain rfl := ho3.unique ho14
            replace s : St W (Own 80 4 B11 ds.length c12 (nvs ds13) :: Inn 81 ds13 :: Own 3 1 B7 ds.length c8 (nats o3) :: Own 80 4 B4 ds.length c5 (nvs ds6) :: Inn 81 ds6 :: Own 3 1 B1 ds.length c2 (nats o3) :: L) w := s
            refine ⟨_, rfl, ?_⟩; clear ha; intro a ha
            refine st_val (.tuple #[.int .i64 ((fst (found (tns ds) o3) : Nat) : Int), .int .i64 ((snd (found (tns ds) o3) : Nat) : Int), .bool ((found (tns ds) o3).isSome), .int .i64 0]) ha (by kernel_rfl) (by kernel_rfl) ?_
            clear ha; intro a ha
            refine st_val (.int .i64 ((fst (found (tns ds) o3) : Nat) : Int)) ha (by kernel_rfl) (by kernel_rfl) ?_
            clear ha; intro a ha
            refine st_val (.int .i64 ((snd (found (tns ds) o3) : Nat) : Int)) ha (by kernel_rfl) (by kernel_rfl) ?_
            clear ha; intro a ha
            refine st_val (.bool ((found (tns ds) o3).isSome)) ha (by kernel_rfl) (by kernel_rfl) ?_
            clear ha; intro a ha
            refine st_val (.int .i64 0) ha (by kernel_rfl) (by kernel_rfl) ?_
            clear ha; intro a ha
            refine st_val (.int .i64 ((fst (found (tns ds) o3) : Nat) : Int)) ha (by kernel_rfl) (by kernel_rfl) ?_
            clear ha; intro a ha
            refine st_val (.int .i64 ((snd (found (tns ds) o3) : Nat) : Int)) ha (by kernel_rfl) (by kernel_rfl) ?_
            clear ha; intro a ha
            refine st_val (.bool ((found (tns ds) o3).isSome)) ha (by kernel_rfl) (by kernel_rfl) ?_
            clear ha; intro a ha
            refine st_val (.int .i64 0) ha (by kernel_rfl) (by kernel_rfl) ?_
            clear ha; intro a ha
            refine wpList_nil ?_
            refine then_normal ?_
            refine wp_seq ?_
            refine wp_region_lit ?_
            refine st_val (.slice A ds.length ca) ha (by kernel_rfl) (by kernel_rfl) ?_
            clear ha; intro a ha
            refine st_call ha (by kernel_rfl) (by kernel_rfl) (rows_ok W hW _ w A ca ds (fun w s => hr w s.tail.tail.tail.tail.tail.tail) hn h0 s) ?_
            rintro _ w ⟨B15, c16, o17, rfl, ho17, s⟩
            obtain rfl := ho3.unique ho17
            replace s : St W (Own 54 2 B15 ((rowsOf (tns ds) o3).length) c16 (rws (rowsOf (tns ds) o3)) :: Own 80 4 B11 ds.length c12 (nvs ds13) :: Inn 81 ds13 :: Own 3 1 B7 ds.length c8 (nats o3) :: Own 80 4 B4 ds.length c5 (nvs ds6) :: Inn 81 ds6 :: Own 3 1 B1 ds.length c2 (nats o3) :: L) w := s
            refine ⟨_, rfl, ?_⟩; clear ha; intro a ha
            refine st_val (.tuple #[.slice B15 ((rowsOf (tns ds) o3).length) c16, .int .i64 0]) ha (by kernel_rfl) (by kernel_rfl) ?_
            clear ha; intro a ha
            refine st_val (.slice B15 ((rowsOf (tns ds) o3).length) c16) ha (by kernel_rfl) (by kernel_rfl) ?_
            clear ha; intro a ha
            refine st_val (.int .i64 0) ha (by kernel_rfl) (by kernel_rfl) ?_
            clear ha; intro a ha
            refine st_val (.slice B15 ((rowsOf (tns ds) o3).length) c16) ha (by kernel_rfl) (by kernel_rfl) ?_
            clear ha; intro a ha
            refine st_val (.int .i64 0) ha (by kernel_rfl) (by kernel_rfl) ?_
            clear ha; intro a ha
            refine wpList_nil ?_
            refine then_normal ?_
            refine wp_seq ?_
            refine wp_region_lit ?_
            refine st_val (.slice A ds.length ca) ha (by kernel_rfl) (by kernel_rfl) ?_
            clear ha; intro a ha
            refine st_call ha (by kernel_rfl) (by kernel_rfl) (should_any W _ w A ca ds (fun w s => hr w s.tail.tail.tail.tail.tail.tail.tail) hn (by omega) hsl s) ?_
            rintro _ w ⟨B18, c19, ds20, rfl, hds20, hds20l, s⟩
            replace s : St W (Own 80 4 B18 ds.length c19 (nvs ds20) :: Inn 81 ds20 :: Own 54 2 B15 ((rowsOf (tns ds) o3).length) c16 (rws (rowsOf (tns ds) o3)) :: Own 80 4 B11 ds.length c12 (nvs ds13) :: Inn 81 ds13 :: Own 3 1 B7 ds.length c8 (nats o3) :: Own 80 4 B4 ds.length c5 (nvs ds6) :: Inn 81 ds6 :: Own 3 1 B1 ds.length c2 (nats o3) :: L) w := s
            refine ⟨_, rfl, ?_⟩; clear ha; intro a ha
            refine st_call ha (by kernel_rfl) (by kernel_rfl) (rrowsC_ok W _ w B18 c19 ds ds20 (nest_knows (i := 0) (j := 1) (e1 := 80) (e2 := 81) (by rw [hds20l]; rfl) rfl (fun w s => hr w s.tail.tail.tail.tail.tail.tail.tail.tail.tail) hds20) hn hds20 h0 s) ?_
            rintro _ w ⟨B21, c22, o23, rfl, ho23, s⟩
            obtain rfl := ho3.unique ho23
            replace s : St W (Own 54 2 B21 ((rowsOf (tns ds) o3).length) c22 (rws (rowsOf (tns ds) o3)) :: Own 80 4 B18 ds.length c19 (nvs ds20) :: Inn 81 ds20 :: Own 54 2 B15 ((rowsOf (tns ds) o3).length) c16 (rws (rowsOf (tns ds) o3)) :: Own 80 4 B11 ds.length c12 (nvs ds13) :: Inn 81 ds13 :: Own 3 1 B7 ds.length c8 (nats o3) :: Own 80 4 B4 ds.length c5 (nvs ds6) :: Inn 81 ds6 :: Own 3 1 B1 ds.length c2 (nats o3) :: L) w := s
            refine ⟨_, rfl, ?_⟩; clear ha; intro a ha
            refine st_val (.tuple #[.slice B21 ((rowsOf (tns ds) o3).length) c22, .int .i64 0]) ha (by kernel_rfl) (by kernel_rfl) ?_
            clear ha; intro a ha
            refine st_val (.slice B21 ((rowsOf (tns ds) o3).length) c22) ha (by kernel_rfl) (by kernel_rfl) ?_
            clear ha; intro a ha
            refine st_val (.int .i64 0) ha (by kernel_rfl) (by kernel_rfl) ?_
            clear ha; intro a ha
            refine st_val (.slice B21 ((rowsOf (tns ds) o3).length) c22) ha (by kernel_rfl) (by kernel_rfl) ?_
            clear ha; intro a ha
            refine st_val (.int .i64 0) ha (by kernel_rfl) (by kernel_rfl) ?_
            clear ha; intro a ha
            refine wpList_nil ?_
            refine then_normal ?_
            refine wp_seq ?_
            refine wp_region_lit ?_
            refine st_val (.slice B1 ds.length c2) ha (by kernel_rfl) (by kernel_rfl) ?_
            clear ha; intro a ha
            refine st_val (.slice B7 ds.length c8) ha (by kernel_rfl) (by kernel_rfl) ?_
            clear ha; intro a ha
            refine st_call ha (by kernel_rfl) (by kernel_rfl) (eqints_n W _ w B1 B7 c2 c8 ds.length ds.length o3 o3 (Knows.own (j := 9) rfl) (Knows.own (j := 6) rfl) (by have := ho3.length; simpa using this) (by have := ho3.length; simpa using this) (by have := ho3.length; simp only [List.length_map] at this; omega) rfl s) ?_
            rintro _ w ⟨rfl, s⟩
            replace s : St W (Own 54 2 B21 ((rowsOf (tns ds) o3).length) c22 (rws (rowsOf (tns ds) o3)) :: Own 80 4 B18 ds.length c19 (nvs ds20) :: Inn 81 ds20 :: Own 54 2 B15 ((rowsOf (tns ds) o3).length) c16 (rws (rowsOf (tns ds) o3)) :: Own 80 4 B11 ds.length c12 (nvs ds13) :: Inn 81 ds13 :: Own 3 1 B7 ds.length c8 (nats o3) :: Own 80 4 B4 ds.length c5 (nvs ds6) :: Inn 81 ds6 :: Own 3 1 B1 ds.length c2 (nats o3) :: L) w := s
            refine ⟨_, rfl, ?_⟩; clear ha; intro a ha
            refine st_val (.bool true) ha (by kernel_rfl) (by kernel_rfl) ?_
            clear ha; intro a ha
            refine st_val (.int .i64 0) ha (by kernel_rfl) (by kernel_rfl) ?_
            clear ha; intro a ha
            refine st_val (.int .i64 0) ha (by kernel_rfl) (by kernel_rfl) ?_
            clear ha; intro a ha
            refine st_val (.bool true) ha (by kernel_rfl) (by kernel_rfl) ?_
            clear ha; intro a ha
            refine st_val (.bool true) ha (by kernel_rfl) (by kernel_rfl) ?_
            clear ha; intro a ha
            refine st_val (.bool true) ha (by kernel_rfl) (by kernel_rfl) ?_
            clear ha; intro a ha
            refine st_val (.int .i64 ((fst (found (tns ds) o3) : Nat) : Int)) ha (by kernel_rfl) (by kernel_rfl) ?_
            clear ha; intro a ha
            refine st_val (.int .i64 ((fst (found (tns ds) o3) : Nat) : Int)) ha (by kernel_rfl) (by kernel_rfl) ?_
            clear ha; intro a ha
            refine st_val (.bool true) ha (by kernel_rfl) (run_known (beq_self_eq_true _) (show (execOp (evalE _) _).run _ _ = .ok (.value (.bool (((fst (found (tns ds) o3) : Nat) : Int) == ((fst (found (tns ds) o3) : Nat) : Int)))) _ from by kernel_rfl)) ?_
            clear ha; intro a ha
            refine st_val (.bool true) ha (by kernel_rfl) (by kernel_rfl) ?_
            clear ha; intro a ha
            refine st_val (.bool true) ha (by kernel_rfl) (by kernel_rfl) ?_
            clear ha; intro a ha
            refine st_val (.int .i64 ((snd (found (tns ds) o3) : Nat) : Int)) ha (by kernel_rfl) (by kernel_rfl) ?_
            clear ha; intro a ha
            refine st_val (.int .i64 ((snd (found (tns ds) o3) : Nat) : Int)) ha (by kernel_rfl) (by kernel_rfl) ?_
            clear ha; intro a ha
            refine st_val (.bool true) ha (by kernel_rfl) (run_known (beq_self_eq_true _) (show (execOp (evalE _) _).run _ _ = .ok (.value (.bool (((snd (found (tns ds) o3) : Nat) : Int) == ((snd (found (tns ds) o3) : Nat) : Int)))) _ from by kernel_rfl)) ?_
            clear ha; intro a ha
            refine st_val (.bool true) ha (by kernel_rfl) (by kernel_rfl) ?_
            clear ha; intro a ha
            refine st_val (.bool true) ha (by kernel_rfl) (by kernel_rfl) ?_
            clear ha; intro a ha
            refine st_val (.bool ((found (tns ds) o3).isSome)) ha (by kernel_rfl) (by kernel_rfl) ?_
            clear ha; intro a ha
            refine st_val (.bool ((found (tns ds) o3).isSome)) ha (by kernel_rfl) (by kernel_rfl) ?_
            clear ha; intro a ha
            refine st_val (.bool true) ha (by kernel_rfl) (run_known (beq_self_eq_true _) (show (execOp (evalE _) _).run _ _ = .ok (.value (.bool (((found (tns ds) o3).isSome) == ((found (tns ds) o3).isSome)))) _ from by kernel_rfl)) ?_
            clear ha; intro a ha
            refine st_val (.bool true) ha (by kernel_rfl) (by kernel_rfl) ?_
            clear ha; intro a ha
            refine st_val (.bool true) ha (by kernel_rfl) (by kernel_rfl) ?_
            clear ha; intro a ha
            refine st_val (.int .i64 0) ha (by kernel_rfl) (by kernel_rfl) ?_
            clear ha; intro a ha
            refine st_val (.int .i64 0) ha (by kernel_rfl) (by kernel_rfl) ?_
            clear ha; intro a ha
            refine st_val (.bool true) ha (by kernel_rfl) (by kernel_rfl) ?_
            clear ha; intro a ha
            refine st_val (.bool true) ha (by kernel_rfl) (by kernel_rfl) ?_
            clear ha; intro a ha
            refine st_val (.bool true) ha (by kernel_rfl) (by kernel_rfl) ?_
            clear ha; intro a ha
            refine st_val (.slice B15 ((rowsOf (tns ds) o3).length) c16) ha (by kernel_rfl) (by kernel_rfl) ?_
            clear ha; intro a ha
            refine st_val (.slice B21 ((rowsOf (tns ds) o3).length) c22) ha (by kernel_rfl) (by kernel_rfl) ?_
            clear ha; intro a ha
            refine st_call ha (by kernel_rfl) (by kernel_rfl) (same_is W _ w B15 B21 c16 c22 (rowsOf (tns ds) o3) (rowsOf (tns ds) o3) (Knows.own (j := 3) rfl) (Knows.own (j := 0) rfl) (by have := left_all_le ho3 hpost.2.2.2; unfold rowsOf; omega) rfl s) ?_
            rintro _ w ⟨rfl, s⟩
            replace s : St W (Own 54 2 B21 ((rowsOf (tns ds) o3).length) c22 (rws (rowsOf (tns ds) o3)) :: Own 80 4 B18 ds.length c19 (nvs ds20) :: Inn 81 ds20 :: Own 54 2 B15 ((rowsOf (tns ds) o3).length) c16 (rws (rowsOf (tns ds) o3)) :: Own 80 4 B11 ds.length c12 (nvs ds13) :: Inn 81 ds13 :: Own 3 1 B7 ds.length c8 (nats o3) :: Own 80 4 B4 ds.length c5 (nvs ds6) :: Inn 81 ds6 :: Own 3 1 B1 ds.length c2 (nats o3) :: L) w := s
            refine ⟨_, rfl, ?_⟩; clear ha; intro a ha
            refine st_val (.bool true) ha (by kernel_rfl) (by kernel_rfl) ?_
            clear ha; intro a ha
            refine st_val (.bool true) ha (by kernel_rfl) (by kernel_rfl) ?_
            clear ha; intro a ha
            refine st_val (.int .i64 0) ha (by kernel_rfl) (by kernel_rfl) ?_
            clear ha; intro a ha
            refine st_val (.int .i64 0) ha (by kernel_rfl) (by kernel_rfl) ?_
            clear ha; intro a ha
            refine st_val (.bool true) ha (by kernel_rfl) (by kernel_rfl) ?_
            clear ha; intro a ha
            refine st_val (.bool true) ha (by kernel_rfl) (by kernel_rfl) ?_
            clear ha; intro a ha
            refine st_val (.bool true) ha (by kernel_rfl) (by kernel_rfl) ?_
            clear ha; intro a ha
            refine st_call ha (by kernel_rfl) (by kernel_rfl) (works_true W hW _ w s) ?_
            rintro _ w ⟨rfl, s⟩
            replace s : St W (Own 54 2 B21 ((rowsOf (tns ds) o3).length) c22 (rws (rowsOf (tns ds) o3)) :: Own 80 4 B18 ds.length c19 (nvs ds20) :: Inn 81 ds20 :: Own 54 2 B15 ((rowsOf (tns ds) o3).length) c16 (rws (rowsOf (tns ds) o3)) :: Own 80 4 B11 ds.length c12 (nvs ds13) :: Inn 81 ds13 :: Own 3 1 B7 ds.length c8 (nats o3) :: Own 80 4 B4 ds.length c5 (nvs ds6) :: Inn 81 ds6 :: Own 3 1 B1 ds.length c2 (nats o3) :: L) w := s
            refine ⟨_, rfl, ?_⟩; clear ha; intro a ha
            refine st_val (.bool true) ha (by kernel_rfl) (by kernel_rfl) ?_
            clear ha; intro a ha
            refine st_val (.bool true) ha (by kernel_rfl) (by kernel_rfl) ?_
            clear ha; intro a ha
            refine wpList_nil ?_
            refine then_normal ?_
            refine wp_ret ?_
            refine ret_with (v := .bool true) ha (results_1 rfl ha (res_tmp (by kernel_rfl) (by kernel_rfl))) ?_
            replace s := s.tail.tail.tail.tail.tail.tail.tail.tail.tail.tail
            replace s : St W (L) w := s
            exact ⟨rfl, s⟩
          · skip
            refine st_call ha (by kernel_rfl) (by kernel_rfl) (order_no W _ w A ca ds (fun w s => hr w s) hn h0 s) ?_
            rintro _ w ⟨rfl, s⟩
            replace s : St W (L) w := s
            refine ⟨_, rfl, ?_⟩; clear ha; intro a ha
            refine st_val (.tuple #[.slice none 0 0, .int .i64 (code (tns ds))]) ha (by kernel_rfl) (by kernel_rfl) ?_
            clear ha; intro a ha
            refine st_val (.slice none 0 0) ha (by kernel_rfl) (by kernel_rfl) ?_
            clear ha; intro a ha
            refine st_val (.int .i64 (code (tns ds))) ha (by kernel_rfl) (by kernel_rfl) ?_
            clear ha; intro a ha
            refine st_val (.slice none 0 0) ha (by kernel_rfl) (by kernel_rfl) ?_
            clear ha; intro a ha
            refine st_val (.int .i64 (code (tns ds))) ha (by kernel_rfl) (by kernel_rfl) ?_
            clear ha; intro a ha
            refine wpList_nil ?_
            refine then_normal ?_
            refine wp_seq ?_
            refine wp_region_lit ?_
            refine st_val (.slice A ds.length ca) ha (by kernel_rfl) (by kernel_rfl) ?_
            clear ha; intro a ha
            refine st_call ha (by kernel_rfl) (by kernel_rfl) (should_any W _ w A ca ds (fun w s => hr w s) hn (by omega) hsl s) ?_
            rintro _ w ⟨B24, c25, ds26, rfl, hds26, hds26l, s⟩
            replace s : St W (Own 80 4 B24 ds.length c25 (nvs ds26) :: Inn 81 ds26 :: L) w := s
            refine ⟨_, rfl, ?_⟩; clear ha; intro a ha
            refine st_call ha (by kernel_rfl) (by kernel_rfl) (rorderC_no W _ w B24 c25 ds ds26 (nest_knows (i := 0) (j := 1) (e1 := 80) (e2 := 81) (by rw [hds26l]; rfl) rfl (fun w s => hr w s.tail.tail) hds26) hn hds26 h0 s) ?_
            rintro _ w ⟨rfl, s⟩
            replace s : St W (Own 80 4 B24 ds.length c25 (nvs ds26) :: Inn 81 ds26 :: L) w := s
            refine ⟨_, rfl, ?_⟩; clear ha; intro a ha
            refine st_val (.tuple #[.slice none 0 0, .int .i64 (code (tns ds))]) ha (by kernel_rfl) (by kernel_rfl) ?_
            clear ha; intro a ha
            refine st_val (.slice none 0 0) ha (by kernel_rfl) (by kernel_rfl) ?_
            clear ha; intro a ha
            refine st_val (.int .i64 (code (tns ds))) ha (by kernel_rfl) (by kernel_rfl) ?_
            clear ha; intro a ha
            refine st_val (.slice none 0 0) ha (by kernel_rfl) (by kernel_rfl) ?_
            clear ha; intro a ha
            refine st_val (.int .i64 (code (tns ds))) ha (by kernel_rfl) (by kernel_rfl) ?_
            clear ha; intro a ha
            refine wpList_nil ?_
            refine then_normal ?_
            refine wp_seq ?_
            refine wp_region_lit ?_
            refine st_val (.slice A ds.length ca) ha (by kernel_rfl) (by kernel_rfl) ?_
            clear ha; intro a ha
            refine st_call ha (by kernel_rfl) (by kernel_rfl) (check_no W hW _ w A ca ds (fun w s => hr w s.tail.tail) hn h0 s) ?_
            rintro _ w ⟨rfl, s⟩
            replace s : St W (Own 80 4 B24 ds.length c25 (nvs ds26) :: Inn 81 ds26 :: L) w := s
            refine ⟨_, rfl, ?_⟩; clear ha; intro a ha
            refine st_val (.tuple #[.int .i64 0, .int .i64 0, .bool false, .int .i64 (code (tns ds))]) ha (by kernel_rfl) (by kernel_rfl) ?_
            clear ha; intro a ha
            refine st_val (.int .i64 0) ha (by kernel_rfl) (by kernel_rfl) ?_
            clear ha; intro a ha
            refine st_val (.int .i64 0) ha (by kernel_rfl) (by kernel_rfl) ?_
            clear ha; intro a ha
            refine st_val (.bool false) ha (by kernel_rfl) (by kernel_rfl) ?_
            clear ha; intro a ha
            refine st_val (.int .i64 (code (tns ds))) ha (by kernel_rfl) (by kernel_rfl) ?_
            clear ha; intro a ha
            refine st_val (.int .i64 0) ha (by kernel_rfl) (by kernel_rfl) ?_
            clear ha; intro a ha
            refine st_val (.int .i64 0) ha (by kernel_rfl) (by kernel_rfl) ?_
            clear ha; intro a ha
            refine st_val (.bool false) ha (by kernel_rfl) (by kernel_rfl) ?_
            clear ha; intro a ha
            refine st_val (.int .i64 (code (tns ds))) ha (by kernel_rfl) (by kernel_rfl) ?_
            clear ha; intro a ha
            refine wpList_nil ?_
            refine then_normal ?_
            refine wp_seq ?_
            refine wp_region_lit ?_
            refine st_val (.slice A ds.length ca) ha (by kernel_rfl) (by kernel_rfl) ?_
            clear ha; intro a ha
            refine st_call ha (by kernel_rfl) (by kernel_rfl) (should_any W _ w A ca ds (fun w s => hr w s.tail.tail) hn (by omega) hsl s) ?_
            rintro _ w ⟨B27, c28, ds29, rfl, hds29, hds29l, s⟩
            replace s : St W (Own 80 4 B27 ds.length c28 (nvs ds29) :: Inn 81 ds29 :: Own 80 4 B24 ds.length c25 (nvs ds26) :: Inn 81 ds26 :: L) w := s
            refine ⟨_, rfl, ?_⟩; clear ha; intro a ha
            refine st_call ha (by kernel_rfl) (by kernel_rfl) (rcheckC_no W _ w B27 c28 ds ds29 (nest_knows (i := 0) (j := 1) (e1 := 80) (e2 := 81) (by rw [hds29l]; rfl) rfl (fun w s => hr w s.tail.tail.tail.tail) hds29) hn hds29 h0 s) ?_
            rintro _ w ⟨rfl, s⟩
            replace s : St W (Own 80 4 B27 ds.length c28 (nvs ds29) :: Inn 81 ds29 :: Own 80 4 B24 ds.length c25 (nvs ds26) :: Inn 81 ds26 :: L) w := s
            refine ⟨_, rfl, ?_⟩; clear ha; intro a ha
            refine st_val (.tuple #[.int .i64 0, .int .i64 0, .bool false, .int .i64 (code (tns ds))]) ha (by kernel_rfl) (by kernel_rfl) ?_
            clear ha; intro a ha
            refine st_val (.int .i64 0) ha (by kernel_rfl) (by kernel_rfl) ?_
            clear ha; intro a ha
            refine st_val (.int .i64 0) ha (by kernel_rfl) (by kernel_rfl) ?_
            clear ha; intro a ha
            refine st_val (.bool false) ha (by kernel_rfl) (by kernel_rfl) ?_
            clear ha; intro a ha
            refine st_val (.int .i64 (code (tns ds))) ha (by kernel_rfl) (by kernel_rfl) ?_
            clear ha; intro a ha
            refine st_val (.int .i64 0) ha (by kernel_rfl) (by kernel_rfl) ?_
            clear ha; intro a ha
            refine st_val (.int .i64 0) ha (by kernel_rfl) (by kernel_rfl) ?_
            clear ha; intro a ha
            refine st_val (.bool false) ha (by kernel_rfl) (by kernel_rfl) ?_
            clear ha; intro a ha
            refine st_val (.int .i64 (code (tns ds))) ha (by kernel_rfl) (by kernel_rfl) ?_
            clear ha; intro a ha
            refine wpList_nil ?_
            refine then_normal ?_
            refine wp_seq ?_
            refine wp_region_lit ?_
            refine st_val (.slice A ds.length ca) ha (by kernel_rfl) (by kernel_rfl) ?_
            clear ha; intro a ha
            refine st_call ha (by kernel_rfl) (by kernel_rfl) (rows_no W hW _ w A ca ds (fun w s => hr w s.tail.tail.tail.tail) hn h0 s) ?_
            rintro _ w ⟨rfl, s⟩
            replace s : St W (Own 80 4 B27 ds.length c28 (nvs ds29) :: Inn 81 ds29 :: Own 80 4 B24 ds.length c25 (nvs ds26) :: Inn 81 ds26 :: L) w := s
            refine ⟨_, rfl, ?_⟩; clear ha; intro a ha
            refine st_val (.tuple #[.slice none 0 0, .int .i64 (code (tns ds))]) ha (by kernel_rfl) (by kernel_rfl) ?_
            clear ha; intro a ha
            refine st_val (.slice none 0 0) ha (by kernel_rfl) (by kernel_rfl) ?_
            clear ha; intro a ha
            refine st_val (.int .i64 (code (tns ds))) ha (by kernel_rfl) (by kernel_rfl) ?_
            clear ha; intro a ha
            refine st_val (.slice none 0 0) ha (by kernel_rfl) (by kernel_rfl) ?_
            clear ha; intro a ha
            refine st_val (.int .i64 (code (tns ds))) ha (by kernel_rfl) (by kernel_rfl) ?_
            clear ha; intro a ha
            refine wpList_nil ?_
            refine then_normal ?_
            refine wp_seq ?_
            refine wp_region_lit ?_
            refine st_val (.slice A ds.length ca) ha (by kernel_rfl) (by kernel_rfl) ?_
            clear ha; intro a ha
            refine st_call ha (by kernel_rfl) (by kernel_rfl) (should_any W _ w A ca ds (fun w s => hr w s.tail.tail.tail.tail) hn (by omega) hsl s) ?_
            rintro _ w ⟨B30, c31, ds32, rfl, hds32, hds32l, s⟩
            replace s : St W (Own 80 4 B30 ds.length c31 (nvs ds32) :: Inn 81 ds32 :: Own 80 4 B27 ds.length c28 (nvs ds29) :: Inn 81 ds29 :: Own 80 4 B24 ds.length c25 (nvs ds26) :: Inn 81 ds26 :: L) w := s
            refine ⟨_, rfl, ?_⟩; clear ha; intro a ha
            refine st_call ha (by kernel_rfl) (by kernel_rfl) (rrowsC_no W _ w B30 c31 ds ds32 (nest_knows (i := 0) (j := 1) (e1 := 80) (e2 := 81) (by rw [hds32l]; rfl) rfl (fun w s => hr w s.tail.tail.tail.tail.tail.tail) hds32) hn hds32 h0 s) ?_
            rintro _ w ⟨rfl, s⟩
            replace s : St W (Own 80 4 B30 ds.length c31 (nvs ds32) :: Inn 81 ds32 :: Own 80 4 B27 ds.length c28 (nvs ds29) :: Inn 81 ds29 :: Own 80 4 B24 ds.length c25 (nvs ds26) :: Inn 81 ds26 :: L) w := s
            refine ⟨_, rfl, ?_⟩; clear ha; intro a ha
            refine st_val (.tuple #[.slice none 0 0, .int .i64 (code (tns ds))]) ha (by kernel_rfl) (by kernel_rfl) ?_
            clear ha; intro a ha
            refine st_val (.slice none 0 0) ha (by kernel_rfl) (by kernel_rfl) ?_
            clear ha; intro a ha
            refine st_val (.int .i64 (code (tns ds))) ha (by kernel_rfl) (by kernel_rfl) ?_
            clear ha; intro a ha
            refine st_val (.slice none 0 0) ha (by kernel_rfl) (by kernel_rfl) ?_
            clear ha; intro a ha
            refine st_val (.int .i64 (code (tns ds))) ha (by kernel_rfl) (by kernel_rfl) ?_
            clear ha; intro a ha
            refine wpList_nil ?_
            refine then_normal ?_
            refine wp_seq ?_
            refine wp_region_lit ?_
            refine st_val (.slice none 0 0) ha (by kernel_rfl) (by kernel_rfl) ?_
            clear ha; intro a ha
            refine st_val (.slice none 0 0) ha (by kernel_rfl) (by kernel_rfl) ?_
            clear ha; intro a ha
            refine st_call ha (by kernel_rfl) (by kernel_rfl) (eqints_is W _ w none none 0 0 [] [] (Knows.reads_none _ 1) (Knows.reads_none _ 1) (by simp) rfl s) ?_
            rintro _ w ⟨rfl, s⟩
            replace s : St W (Own 80 4 B30 ds.length c31 (nvs ds32) :: Inn 81 ds32 :: Own 80 4 B27 ds.length c28 (nvs ds29) :: Inn 81 ds29 :: Own 80 4 B24 ds.length c25 (nvs ds26) :: Inn 81 ds26 :: L) w := s
            refine ⟨_, rfl, ?_⟩; clear ha; intro a ha
            refine st_val (.bool true) ha (by kernel_rfl) (by kernel_rfl) ?_
            clear ha; intro a ha
            refine st_val (.int .i64 (code (tns ds))) ha (by kernel_rfl) (by kernel_rfl) ?_
            clear ha; intro a ha
            refine st_val (.int .i64 (code (tns ds))) ha (by kernel_rfl) (by kernel_rfl) ?_
            clear ha; intro a ha
            refine st_val (.bool true) ha (by kernel_rfl) (run_known (beq_self_eq_true _) (show (execOp (evalE _) _).run _ _ = .ok (.value (.bool ((code (tns ds)) == (code (tns ds))))) _ from by kernel_rfl)) ?_
            clear ha; intro a ha
            refine st_val (.bool true) ha (by kernel_rfl) (by kernel_rfl) ?_
            clear ha; intro a ha
            refine st_val (.bool true) ha (by kernel_rfl) (by kernel_rfl) ?_
            clear ha; intro a ha
            refine st_val (.int .i64 0) ha (by kernel_rfl) (by kernel_rfl) ?_
            clear ha; intro a ha
            refine st_val (.int .i64 0) ha (by kernel_rfl) (by kernel_rfl) ?_
            clear ha; intro a ha
            refine st_val (.bool true) ha (by kernel_rfl) (by kernel_rfl) ?_
            clear ha; intro a ha
            refine st_val (.bool true) ha (by kernel_rfl) (by kernel_rfl) ?_
            clear ha; intro a ha
            refine st_val (.bool true) ha (by kernel_rfl) (by kernel_rfl) ?_
            clear ha; intro a ha
            refine st_val (.int .i64 0) ha (by kernel_rfl) (by kernel_rfl) ?_
            clear ha; intro a ha
            refine st_val (.int .i64 0) ha (by kernel_rfl) (by kernel_rfl) ?_
            clear ha; intro a ha
            refine st_val (.bool true) ha (by kernel_rfl) (by kernel_rfl) ?_
            clear ha; intro a ha
            refine st_val (.bool true) ha (by kernel_rfl) (by kernel_rfl) ?_
            clear ha; intro a ha
            refine st_val (.bool true) ha (by kernel_rfl) (by kernel_rfl) ?_
            clear ha; intro a ha
            refine st_val (.bool false) ha (by kernel_rfl) (by kernel_rfl) ?_
            clear ha; intro a ha
            refine st_val (.bool false) ha (by kernel_rfl) (by kernel_rfl) ?_
            clear ha; intro a ha
            refine st_val (.bool true) ha (by kernel_rfl) (by kernel_rfl) ?_
            clear ha; intro a ha
            refine st_val (.bool true) ha (by kernel_rfl) (by kernel_rfl) ?_
            clear ha; intro a ha
            refine st_val (.bool true) ha (by kernel_rfl) (by kernel_rfl) ?_
            clear ha; intro a ha
            refine st_val (.int .i64 (code (tns ds))) ha (by kernel_rfl) (by kernel_rfl) ?_
            clear ha; intro a ha
            refine st_val (.int .i64 (code (tns ds))) ha (by kernel_rfl) (by kernel_rfl) ?_
            clear ha; intro a ha
            refine st_val (.bool true) ha (by kernel_rfl) (run_known (beq_self_eq_true _) (show (execOp (evalE _) _).run _ _ = .ok (.value (.bool ((code (tns ds)) == (code (tns ds))))) _ from by kernel_rfl)) ?_
            clear ha; intro a ha
            refine st_val (.bool true) ha (by kernel_rfl) (by kernel_rfl) ?_
            clear ha; intro a ha
            refine st_val (.bool true) ha (by kernel_rfl) (by kernel_rfl) ?_
            clear ha; intro a ha
            refine st_val (.slice none 0 0) ha (by kernel_rfl) (by kernel_rfl) ?_
            clear ha; intro a ha
            refine st_val (.slice none 0 0) ha (by kernel_rfl) (by kernel_rfl) ?_
            clear ha; intro a ha
            refine st_call ha (by kernel_rfl) (by kernel_rfl) (same_is W _ w none none 0 0 [] [] (Knows.reads_none _ 2) (Knows.reads_none _ 2) (by simp) rfl s) ?_
            rintro _ w ⟨rfl, s⟩
            replace s : St W (Own 80 4 B30 ds.length c31 (nvs ds32) :: Inn 81 ds32 :: Own 80 4 B27 ds.length c28 (nvs ds29) :: Inn 81 ds29 :: Own 80 4 B24 ds.length c25 (nvs ds26) :: Inn 81 ds26 :: L) w := s
            refine ⟨_, rfl, ?_⟩; clear ha; intro a ha
            refine st_val (.bool true) ha (by kernel_rfl) (by kernel_rfl) ?_
            clear ha; intro a ha
            refine st_val (.bool true) ha (by kernel_rfl) (by kernel_rfl) ?_
            clear ha; intro a ha
            refine st_val (.int .i64 (code (tns ds))) ha (by kernel_rfl) (by kernel_rfl) ?_
            clear ha; intro a ha
            refine st_val (.int .i64 (code (tns ds))) ha (by kernel_rfl) (by kernel_rfl) ?_
            clear ha; intro a ha
            refine st_val (.bool true) ha (by kernel_rfl) (run_known (beq_self_eq_true _) (show (execOp (evalE _) _).run _ _ = .ok (.value (.bool ((code (tns ds)) == (code (tns ds))))) _ from by kernel_rfl)) ?_
            clear ha; intro a ha
            refine st_val (.bool true) ha (by kernel_rfl) (by kernel_rfl) ?_
            clear ha; intro a ha
            refine st_val (.bool true) ha (by kernel_rfl) (by kernel_rfl) ?_
            clear ha; intro a ha
            refine st_call ha (by kernel_rfl) (by kernel_rfl) (works_true W hW _ w s) ?_
            rintro _ w ⟨rfl, s⟩
            replace s : St W (Own 80 4 B30 ds.length c31 (nvs ds32) :: Inn 81 ds32 :: Own 80 4 B27 ds.length c28 (nvs ds29) :: Inn 81 ds29 :: Own 80 4 B24 ds.length c25 (nvs ds26) :: Inn 81 ds26 :: L) w := s
            refine ⟨_, rfl, ?_⟩; clear ha; intro a ha
            refine st_val (.bool true) ha (by kernel_rfl) (by kernel_rfl) ?_
            clear ha; intro a ha
            refine st_val (.bool true) ha (by kernel_rfl) (by kernel_rfl) ?_
            clear ha; intro a ha
            refine wpList_nil ?_
            refine then_normal ?_
            refine wp_ret ?_
            refine ret_with (v := .bool true) ha (results_1 rfl ha (res_tmp (by kernel_rfl) (by kernel_rfl))) ?_
            replace s := s.tail.tail.tail.tail.tail.tail
            replace s : St W (L) w := s
            exact ⟨rfl, s⟩

end Go.Proofs.Ytidfniglnmfphaa.B
