import Derived.Test.YtidfniglnmfphaaB20
namespace Go.Proofs.Ytidfniglnmfphaa.B
open Go.RowKit Go.Maps Go.Sort Go.Shelf Go.Proofs.Ytidfniglnmfphaa.Sep Go.Proofs.Ytidfniglnmfphaa.P
set_option linter.unusedVariables false
set_option linter.unusedSimpArgs false
theorem spoil_rows2 {d : Td} {h : Int} (h1 : d.rows.length ≤ 140737488351232) (h2 : d.op = 2 → d.rows.length ≤ 1000000) (h3 : d.op = 1 ∨ d.op = 2) : (spoil d h).rows.length ≤ 140737488351232 := by
  rcases h3 with h3 | h3
  · unfold spoil; rw [if_pos h3]; split <;> exact h1
  · have := spoil_rows d h; have := h2 h3; omega

set_option maxRecDepth 100000 in
set_option maxHeartbeats 4000000 in
theorem spoilt_true (W : World) (hW : W.drawn = 0) (L : List Chunk) (w : World) (A : Option Addr) (ca : Nat) (ds : List Dn) (hr : Knows L (DonesIn A ds)) (hn : Bn ds) (hca : ds.length ≤ ca) (hcb : Cb ds) (a1 a2 : Int) (s : St W L w) :
    Calls Try.prog 5 #[.slice A ds.length ca, .int .i64 a1, .int .i64 a2] w fun e w' => e = .returned (.bool true) ∧ St W L w' := by
  refine enter_args (l := [.slice A ds.length ca, .int .i64 a1, .int .i64 a2]) Try.func5 rfl rfl (Nat.le_of_ble_eq_true rfl) ?_
  intro a ha; replace ha : Has a 116 [(0, .slice A ds.length ca), (1, .int .i64 a1), (2, .int .i64 a2)] := ha
  refine wp_seq ?_
  refine wp_region_lit ?_
  refine st_val (.bool false) ha (by kernel_rfl) (by kernel_rfl) ?_
  clear ha; intro a ha
  refine wpList_nil ?_
  refine then_normal ?_
  refine wp_seq ?_
  refine wp_seq ?_
  refine wp_region_lit ?_
  refine st_call ha (by kernel_rfl) (by kernel_rfl) (works_true W hW _ w s) ?_
  rintro _ w ⟨rfl, s⟩
  replace s : St W (L) w := s
  refine ⟨_, rfl, ?_⟩; clear ha; intro a ha
  refine st_val (.bool false) ha (by kernel_rfl) (by kernel_rfl) ?_
  clear ha; intro a ha
  refine wpList_nil ?_
  refine then_normal ?_
  refine wp_false ha rfl (by kernel_rfl) ?_
  refine wp_skip ?_
  refine then_normal ?_
  refine wp_seq ?_
  refine wp_region_lit ?_
  refine st_val (.slice A ds.length ca) ha (by kernel_rfl) (by kernel_rfl) ?_
  clear ha; intro a ha
  by_cases h0 : code (tns ds) = 0
  · have hpost := order_post h0
    refine st_call ha (by kernel_rfl) (by kernel_rfl) (order_ok W _ w A ca ds (fun w s => hr w s) hn h0 s) ?_
    rintro _ w ⟨B1, c2, o3, rfl, ho3, s⟩
    replace s : St W (Own 3 1 B1 ds.length c2 (nats o3) :: L) w := s
    refine ⟨_, rfl, ?_⟩; clear ha; intro a ha
    refine st_val (.tuple #[.slice B1 ds.length c2, .int .i64 0]) ha (by kernel_rfl) (by kernel_rfl) ?_
    clear ha; intro a ha
    refine st_val (.slice B1 ds.length c2) ha (by kernel_rfl) (by kernel_rfl) ?_
    clear ha; intro a ha
    refine st_val (.int .i64 0) ha (by kernel_rfl) (by kernel_rfl) ?_
    clear ha; intro a ha
    refine st_val (.slice B1 ds.length c2) ha (by kernel_rfl) (by kernel_rfl) ?_
    clear ha; intro a ha
    refine st_val (.int .i64 0) ha (by kernel_rfl) (by kernel_rfl) ?_
    clear ha; intro a ha
    refine wpList_nil ?_
    refine then_normal ?_
    refine wp_seq ?_
    refine wp_seq ?_
    refine wp_region_lit ?_
    refine st_val (.slice A ds.length ca) ha (by kernel_rfl) (by kernel_rfl) ?_
    clear ha; intro a ha
    refine st_call ha (by kernel_rfl) (by kernel_rfl) (few_any W _ w A ca ds (fun w s => hr w s.tail) hn s) ?_
    rintro _ w ⟨rfl, s⟩
    replace s : St W (Own 3 1 B1 ds.length c2 (nats o3) :: L) w := s
    refine ⟨_, rfl, ?_⟩; clear ha; intro a ha
    refine st_val (.bool (!(small (tns ds)))) ha (by kernel_rfl) (by kernel_rfl) ?_
    clear ha; intro a ha
    refine st_val (.bool (!(small (tns ds)))) ha (by kernel_rfl) (by kernel_rfl) ?_
    clear ha; intro a ha
    rcases Bool.eq_false_or_eq_true (!(small (tns ds))) with hb | hb
    · rw [hb] at ha; skip
      have hsb := hb
      refine st_pass ha (by kernel_rfl) ?_
      clear ha; intro a ha
      refine st_pass ha (by kernel_rfl) ?_
      clear ha; intro a ha
      refine st_val (.bool true) ha (by kernel_rfl) (by kernel_rfl) ?_
      clear ha; intro a ha
      refine wpList_nil ?_
      refine then_normal ?_
      refine wp_true ha rfl (by kernel_rfl) ?_
      refine wp_seq ?_
      refine wp_region_lit ?_
      refine st_val (.slice A ds.length ca) ha (by kernel_rfl) (by kernel_rfl) ?_
      clear ha; intro a ha
      refine st_call ha (by kernel_rfl) (by kernel_rfl) (few_any W _ w A ca ds (fun w s => hr w s.tail) hn s) ?_
      rintro _ w ⟨rfl, s⟩
      replace s : St W (Own 3 1 B1 ds.length c2 (nats o3) :: L) w := s
      refine ⟨_, rfl, ?_⟩; clear ha; intro a ha
      refine st_val (.bool true) ha (by kernel_rfl) (run_known (show (!(small (tns ds))) = true from by first | exact hsb | simpa using hsb) (by kernel_rfl)) ?_
      clear ha; intro a ha
      refine st_val (.bool true) ha (by kernel_rfl) (by kernel_rfl) ?_
      clear ha; intro a ha
      refine st_pass ha (by kernel_rfl) ?_
      clear ha; intro a ha
      refine st_pass ha (by kernel_rfl) ?_
      clear ha; intro a ha
      refine st_val (.bool true) ha (by kernel_rfl) (by kernel_rfl) ?_
      clear ha; intro a ha
      refine st_val (.bool true) ha (by kernel_rfl) (by kernel_rfl) ?_
      clear ha; intro a ha
      refine wpList_nil ?_
      refine then_normal ?_
      refine wp_ret ?_
      refine then_ret ?_
      refine ret_with (v := .bool true) ha (results_1 rfl ha (res_tmp (by kernel_rfl) (by kernel_rfl))) ?_
      replace s := s.tail
      replace s : St W (L) w := s
      exact ⟨rfl, s⟩
    · rw [hb] at ha; skip
      have hsb := hb
      have hsm := small_few (ds := tns ds) (by simpa using hb)
      rw [List.length_map] at hsm
      have hsl : ∀ d ∈ ds, d.l.length ≤ 1000000 := fun d hd => by have := le_many2 hd hsm.2; omega
      refine st_val (.int .i64 0) ha (by kernel_rfl) (by kernel_rfl) ?_
      clear ha; intro a ha
      refine st_val (.bool false) ha (by kernel_rfl) (by kernel_rfl) ?_
      clear ha; intro a ha
      refine st_val (.bool false) ha (by kernel_rfl) (by kernel_rfl) ?_
      clear ha; intro a ha
      refine wpList_nil ?_
      refine then_normal ?_
      refine wp_false ha rfl (by kernel_rfl) ?_
      refine wp_skip ?_
      refine then_normal ?_
      refine wp_seq ?_
      refine wp_region_lit ?_
      refine st_val (.slice A ds.length ca) ha (by kernel_rfl) (by kernel_rfl) ?_
      clear ha; intro a ha
      refine st_call ha (by kernel_rfl) (by kernel_rfl) (should_any W _ w A ca ds (fun w s => hr w s.tail) hn (by omega) hsl s) ?_
      rintro _ w ⟨B4, c5, ds6, rfl, hds6, hds6l, s⟩
      replace s : St W (Own 80 4 B4 ds.length c5 (nvs ds6) :: Inn 81 ds6 :: Own 3 1 B1 ds.length c2 (nats o3) :: L) w := s
      refine ⟨_, rfl, ?_⟩; clear ha; intro a ha
      refine st_call ha (by kernel_rfl) (by kernel_rfl) (right_c W _ w B4 c5 ds ds6 (nest_knows (i := 0) (j := 1) (e1 := 80) (e2 := 81) (by rw [hds6l]; rfl) rfl (fun w s => hr w s.tail.tail.tail) hds6) hn hds6 h0 s) ?_
      rintro _ w ⟨C7, c8, es, or_, rfl, hel, hor, hir, hbe, hcbe, s⟩
      obtain rfl := ho3.unique hor
      replace s : St W (Kn (fun w => DonesIn B4 ds6 w → DonesIn C7 es w) :: Own 80 4 B4 ds.length c5 (nvs ds6) :: Inn 81 ds6 :: Own 3 1 B1 ds.length c2 (nats o3) :: L) w := s
      have hel2 : many (tns es) ≤ 400 := by rw [hir.many ho3]; exact hsm.2
      replace s : St W (Kn (fun w => DonesIn B4 ds6 w → DonesIn C7 es w) :: Own 80 4 B4 ds.length c5 (nvs ds6) :: Inn 81 ds6 :: Own 3 1 B1 ds.length c2 (nats o3) :: L) w := s
      refine ⟨_, rfl, ?_⟩; clear ha; intro a ha
      refine st_call ha (by kernel_rfl) (by kernel_rfl) (with_n W _ w C7 c8 ds.length es hel (kn_mp (j := 0) rfl (nest_knows (i := 1) (j := 2) (e1 := 80) (e2 := 81) (by rw [hds6l]; rfl) rfl (fun w s => hr w s.tail.tail.tail.tail) hds6)) hbe (by omega) (fun d hd => Nat.le_trans (le_many2 hd hel2) (by decide)) s) ?_
      rintro _ w ⟨C9, c10, fs, rfl, hcf, hfl, s⟩
      have hft : tns fs = tns es := hcf.tns
      have hf0 : code (tns fs) = 0 := by rw [hft]; exact hir.code ho3 h0
      have hfo : IsOrd (tns fs) o3 := by rw [hft]; exact hir.ord ho3
      have hfq : first [] (things (tns fs) o3) = none := by rw [hft]; exact hir.quiet
      have hfb : Bn fs := hcf.bn hbe
      have hfm : many (tns fs) ≤ 400 := by rw [hft]; exact hel2
      have hfcb : Cb fs := hcf.cb (hcbe hcb)
      replace s : St W (Own 27 4 C9 ds.length c10 (nvs fs) :: Inn 51 fs :: Kn (fun w => DonesIn B4 ds6 w → DonesIn C7 es w) :: Own 80 4 B4 ds.length c5 (nvs ds6) :: Inn 81 ds6 :: Own 3 1 B1 ds.length c2 (nats o3) :: L) w := s
      refine ⟨_, rfl, ?_⟩; clear ha; intro a ha
      refine st_val (.slice C9 ds.length c10) ha (by kernel_rfl) (by kernel_rfl) ?_
      clear ha; intro a ha
      refine wpList_nil ?_
      refine then_normal ?_
      refine wp_seq ?_
      refine wp_region_lit ?_
      refine st_val (.int .i64 0) ha (by kernel_rfl) (by kernel_rfl) ?_
      clear ha; intro a ha
      refine wpList_nil ?_
      refine then_normal ?_
      refine wp_seq ?_
      refine wp_seq ?_
      refine wp_region_lit ?_
      refine st_val (.int .i64 0) ha (by kernel_rfl) (by kernel_rfl) ?_
      clear ha; intro a ha
      refine wpList_nil ?_
      refine then_normal ?_
      refine wp_block ?_
      replace s : St W (Own 27 4 C9 ds.length c10 (nvs fs) :: Inn 51 fs :: Kn (fun w => DonesIn B4 ds6 w → DonesIn C7 es w) :: Own 80 4 B4 ds.length c5 (nvs ds6) :: Inn 81 ds6 :: L) w := St.mid (A := [Own 27 4 C9 ds.length c10 (nvs fs), Inn 51 fs, Kn (fun w => DonesIn B4 ds6 w → DonesIn C7 es w), Own 80 4 B4 ds.length c5 (nvs ds6), Inn 81 ds6]) (B := [Own 3 1 B1 ds.length c2 (nats o3)]) s
      have hm0 : many (tns (fs.take 0)) = 0 := rfl
      refine wp_loopG (G := Nat) (fun k a w => Has a 116 [(1, .int .i64 a1), (2, .int .i64 a2), (9, .slice C9 ds.length c10), (10, .int .i64 ((many (tns (fs.take k)) : Nat) : Int)), (11, .int .i64 ((k : Nat) : Int))] ∧ St W (Own 27 4 C9 ds.length c10 (nvs fs) :: Inn 51 fs :: Kn (fun w => DonesIn B4 ds6 w → DonesIn C7 es w) :: Own 80 4 B4 ds.length c5 (nvs ds6) :: Inn 81 ds6 :: L) w ∧ k ≤ ds.length) (fun k => ds.length - k) 0 ?_ ?_
      · exact ⟨(Has.cons ha (by kernel_rfl) (by kernel_rfl) (Has.cons ha (by kernel_rfl) (by kernel_rfl) (Has.cons ha (by kernel_rfl) (by kernel_rfl) (Has.cons ha (by kernel_rfl) (by kernel_rfl) (Has.cons ha (by kernel_rfl) (by kernel_rfl) (Has.nil ha)))))), s, Nat.zero_le _⟩
      · clear ha s; rintro k a w ⟨ha, s, hp⟩
        refine wp_seq ?_
        refine wp_seq ?_
        refine wp_region_lit ?_
        refine st_val (.int .i64 ((k : Nat) : Int)) ha (by kernel_rfl) (by kernel_rfl) ?_
        clear ha; intro a ha
        refine st_val (.slice C9 ds.length c10) ha (by kernel_rfl) (by kernel_rfl) ?_
        clear ha; intro a ha
        refine st_val (.int .i64 ((ds.length : Nat) : Int)) ha (by kernel_rfl) (by kernel_rfl) ?_
        clear ha; intro a ha
        refine st_val (.bool (decide (((k : Nat) : Int) < ((ds.length : Nat) : Int)))) ha (by kernel_rfl) (by kernel_rfl) ?_
        clear ha; intro a ha
        refine wpList_nil ?_
        refine then_normal ?_
        refine wp_part (decide (((k : Nat) : Int) < ((ds.length : Nat) : Int))) ha rfl (by kernel_rfl) (fun hb => ?_) (fun hb => ?_)
        · rw [hb] at ha; replace hb : (((k : Nat) : Int) < ((ds.length : Nat) : Int)) := of_decide_eq_true hb
          obtain ⟨e, he⟩ : ∃ e, fs[k]? = some e := ⟨_, List.getElem?_eq_getElem (by omega)⟩
          have hm1 := many_take_le fs (k + 1)
          have hm2 := many_take he
          obtain ⟨ac, hAc⟩ := Own.addr (s.at_ (j := 0) rfl) (by omega)
          subst hAc
          refine wp_skip ?_
          refine then_normal ?_
          refine wp_seq ?_
          refine wp_block ?_
          refine wp_region_lit ?_
          refine st_val (.int .i64 ((many (tns (fs.take k)) : Nat) : Int)) ha (by kernel_rfl) (by kernel_rfl) ?_
          clear ha; intro a ha
          refine st_val (.slice (some ac) ds.length c10) ha (by kernel_rfl) (by kernel_rfl) ?_
          clear ha; intro a ha
          refine st_val (.int .i64 ((k : Nat) : Int)) ha (by kernel_rfl) (by kernel_rfl) ?_
          clear ha; intro a ha
          refine st_val (.pointer (some (ac.add (k * 4)))) ha (by kernel_rfl) (run_indexAddr' (kd := .i64) (i := ((k : Nat) : Int)) (n := ds.length) (c := c10) k rfl Try.underlying22 Try.sizeOf27 (by kernel_rfl) (by kernel_rfl) rfl (by first | assumption | omega) _) ?_
          clear ha; intro a ha
          refine st_val (.pointer (some (ac.add (k * 4 + 3)))) ha (by kernel_rfl) (run_fieldAddr_at (i := k * 4) (off := 3) rfl Try.underlying27 rfl Try.sizeOf25 (by kernel_rfl) _) ?_
          clear ha; intro a ha
          refine st_val (.slice e.A e.l.length e.c) ha (by kernel_rfl) (run_loadAt1 (i := k * 4 + 3) ((hfl ▸ (Own.reads (s.at_ (j := 0) rfl).1))) rfl (by kernel_rfl) Try.isAgg25 (by rw [nvs_at he (by omega)]; rfl)) ?_
          clear ha; intro a ha
          refine st_val (.int .i64 ((e.l.length : Nat) : Int)) ha (by kernel_rfl) (by kernel_rfl) ?_
          clear ha; intro a ha
          refine st_val (.int .i64 ((many (tns (fs.take k)) + e.l.length : Nat) : Int)) ha (by kernel_rfl) (run_arith (((many (tns (fs.take k)) : Nat) : Int) + ((e.l.length : Nat) : Int)) ((many (tns (fs.take k)) + e.l.length : Nat) : Int) rfl (by kernel_rfl) (by kernel_rfl) (.inl ⟨rfl, rfl⟩) (by rw [wrap64_in (by omega)]; try omega) _) ?_
          clear ha; intro a ha
          refine st_val (.int .i64 ((many (tns (fs.take k)) + e.l.length : Nat) : Int)) ha (by kernel_rfl) (by kernel_rfl) ?_
          clear ha; intro a ha
          refine wpList_nil ?_
          refine block_normal ?_
          refine then_normal ?_
          refine wp_region_lit ?_
          refine st_val (.int .i64 ((k : Nat) : Int)) ha (by kernel_rfl) (by kernel_rfl) ?_
          clear ha; intro a ha
          refine st_val (.int .i64 ((k + 1 : Nat) : Int)) ha (by kernel_rfl) (run_arith (((k : Nat) : Int) + (1 : Int)) ((k + 1 : Nat) : Int) rfl (by kernel_rfl) (by kernel_rfl) (.inl ⟨rfl, rfl⟩) (by rw [wrap64_in (by omega)]; try omega) _) ?_
          clear ha; intro a ha
          refine st_val (.int .i64 ((k + 1 : Nat) : Int)) ha (by kernel_rfl) (by kernel_rfl) ?_
          clear ha; intro a ha
          refine wpList_nil ?_
          refine then_normal ?_
          exact ⟨k + 1, (show ds.length - (k + 1) < ds.length - k by omega), (Has.cons ha (by kernel_rfl) (by kernel_rfl) (Has.cons ha (by kernel_rfl) (by kernel_rfl) (Has.cons ha (by kernel_rfl) (by kernel_rfl) (Has.cons ha (by kernel_rfl) (Eq.trans (b := .int .i64 ((many (tns (fs.take k)) + e.l.length : Nat) : Int)) (by kernel_rfl) (by rw [many_take he])) (Has.cons ha (by kernel_rfl) (by kernel_rfl) (Has.nil ha)))))), s, (show k + 1 ≤ ds.length by omega)⟩
        · rw [hb] at ha; replace hb : ¬ (((k : Nat) : Int) < ((ds.length : Nat) : Int)) := of_decide_eq_false hb
          have hk : k = fs.length := by omega
          rw [hk, List.take_length] at ha
          refine wp_exit ?_
          refine then_exit ?_
          refine then_exit ?_
          refine block_hit ?_
          refine then_normal ?_
          refine wp_seq ?_
          refine wp_seq ?_
          refine wp_region_lit ?_
          refine st_val (.int .i64 ((many (tns fs) : Nat) : Int)) ha (by kernel_rfl) (by kernel_rfl) ?_
          clear ha; intro a ha
          refine st_val (.bool (((many (tns fs) : Nat) : Int) == (0 : Int))) ha (by kernel_rfl) (by kernel_rfl) ?_
          clear ha; intro a ha
          refine wpList_nil ?_
          refine then_normal ?_
          refine wp_part (((many (tns fs) : Nat) : Int) == (0 : Int)) ha rfl (by kernel_rfl) (fun hb => ?_) (fun hb => ?_)
          · rw [hb] at ha; have hb_ := hb; replace hb := eq_of_beq hb
            refine wp_seq ?_
            refine wp_region_lit ?_
            refine st_val (.slice C9 ds.length c10) ha (by kernel_rfl) (by kernel_rfl) ?_
            clear ha; intro a ha
            refine st_call ha (by kernel_rfl) (by kernel_rfl) (finds_n W hW _ w C9 c10 ds.length fs hfl (nest_knows (i := 0) (j := 1) (e1 := 27) (e2 := 51) (by rw [hfl]; rfl) rfl (kn_mp (j := 2) rfl (nest_knows (i := 3) (j := 4) (e1 := 80) (e2 := 81) (by rw [hds6l]; rfl) rfl (fun w s => hr w s.tail.tail.tail.tail.tail) hds6)) hcf) hfb 0 0 false hf0 hfo (found_quiet hfq) s) ?_
            rintro _ w ⟨rfl, s⟩
            replace s : St W (Own 27 4 C9 ds.length c10 (nvs fs) :: Inn 51 fs :: Kn (fun w => DonesIn B4 ds6 w → DonesIn C7 es w) :: Own 80 4 B4 ds.length c5 (nvs ds6) :: Inn 81 ds6 :: L) w := s
            refine ⟨_, rfl, ?_⟩; clear ha; intro a ha
            refine st_val (.bool true) ha (by kernel_rfl) (by kernel_rfl) ?_
            clear ha; intro a ha
            refine wpList_nil ?_
            refine then_normal ?_
            refine wp_ret ?_
            refine then_ret ?_
            refine ret_with (v := .bool true) ha (results_1 rfl ha (res_tmp (by kernel_rfl) (by kernel_rfl))) ?_
            replace s := s.tail.tail.tail.tail.tail
            replace s : St W (L) w := s
            exact ⟨rfl, s⟩
          · rw [hb] at ha; have hb_ := hb; replace hb := ne_of_beq_false hb
            refine wp_skip ?_
            refine then_normal ?_
            refine wp_seq ?_
            refine wp_region_lit ?_
            refine st_val (.int .i64 a1) ha (by kernel_rfl) (by kernel_rfl) ?_
            clear ha; intro a ha
            refine st_val (.int .i64 ((many (tns fs) : Nat) : Int)) ha (by kernel_rfl) (by kernel_rfl) ?_
            clear ha; intro a ha
            obtain ⟨q, hq⟩ : ∃ q : Nat, a1 % ((many (tns fs) : Nat) : Int) = (q : Int) := ⟨(a1 % ((many (tns fs) : Nat) : Int)).toNat, by have := Int.emod_nonneg a1 (show ((many (tns fs) : Nat) : Int) ≠ 0 by omega); omega⟩
            have hql : q < many (tns fs) := by have := Int.emod_lt_of_pos a1 (show (0 : Int) < ((many (tns fs) : Nat) : Int) by omega); omega
            refine st_call ha (by kernel_rfl) (by kernel_rfl) (bring_nat W _ w a1 ((many (tns fs) : Nat) : Int) q hq (by omega) (by omega) s) ?_
            rintro _ w ⟨rfl, s⟩
            replace s : St W (Own 27 4 C9 ds.length c10 (nvs fs) :: Inn 51 fs :: Kn (fun w => DonesIn B4 ds6 w → DonesIn C7 es w) :: Own 80 4 B4 ds.length c5 (nvs ds6) :: Inn 81 ds6 :: L) w := s
            refine ⟨_, rfl, ?_⟩; clear ha; intro a ha
            refine st_val (.int .i64 ((q : Nat) : Int)) ha (by kernel_rfl) (by kernel_rfl) ?_
            clear ha; intro a ha
            refine wpList_nil ?_
            refine then_normal ?_
            refine wp_seq ?_
            refine wp_seq ?_
            refine wp_region_lit ?_
            refine st_val (.int .i64 0) ha (by kernel_rfl) (by kernel_rfl) ?_
            clear ha; intro a ha
            refine wpList_nil ?_
            refine then_normal ?_
            refine wp_block ?_
            refine wp_loopG (G := (Nat × Nat)) (fun ⟨k, p⟩ a w => Has a 116 [(2, .int .i64 a2), (9, .slice C9 ds.length c10), (12, .int .i64 ((p : Nat) : Int)), (13, .int .i64 ((k : Nat) : Int))] ∧ St W (Own 27 4 C9 ds.length c10 (nvs fs) :: Inn 51 fs :: Kn (fun w => DonesIn B4 ds6 w → DonesIn C7 es w) :: Own 80 4 B4 ds.length c5 (nvs ds6) :: Inn 81 ds6 :: L) w ∧ (k ≤ ds.length ∧ many (tns (fs.take k)) + p = q)) (fun ⟨k, p⟩ => ds.length - k) (0, q) ?_ ?_
            · exact ⟨(Has.cons ha (by kernel_rfl) (by kernel_rfl) (Has.cons ha (by kernel_rfl) (by kernel_rfl) (Has.cons ha (by kernel_rfl) (by kernel_rfl) (Has.cons ha (by kernel_rfl) (by kernel_rfl) (Has.nil ha))))), s, ⟨Nat.zero_le _, by show many (tns (fs.take 0)) + q = q; rw [show many (tns (fs.take 0)) = 0 from rfl, Nat.zero_add]⟩⟩
            · clear ha s; rintro ⟨k, p⟩ a w ⟨ha, s, hp⟩
              refine wp_seq ?_
              refine wp_seq ?_
              refine wp_region_lit ?_
              refine st_val (.int .i64 ((k : Nat) : Int)) ha (by kernel_rfl) (by kernel_rfl) ?_
              clear ha; intro a ha
              refine st_val (.slice C9 ds.length c10) ha (by kernel_rfl) (by kernel_rfl) ?_
              clear ha; intro a ha
              refine st_val (.int .i64 ((ds.length : Nat) : Int)) ha (by kernel_rfl) (by kernel_rfl) ?_
              clear ha; intro a ha
              have hkf : k < ds.length := Nat.lt_of_le_of_ne hp.1 fun h => by have h1 := hp.2; rw [h, ← hfl, List.take_length] at h1; omega
              have hp2 := hp.2
              obtain ⟨e, he⟩ : ∃ e, fs[k]? = some e := ⟨_, List.getElem?_eq_getElem (by omega)⟩
              have hel3 := le_many2 (List.mem_of_getElem? he) hfm
              obtain ⟨ac, hAc⟩ := Own.addr (s.at_ (j := 0) rfl) (by omega)
              subst hAc
              refine st_val (.bool true) ha (by kernel_rfl) (run_known (show (decide (((k : Nat) : Int) < ((ds.length : Nat) : Int))) = true from decide_eq_true (by omega)) (by kernel_rfl)) ?_
              clear ha; intro a ha
              refine wpList_nil ?_
              refine then_normal ?_
              refine wp_true ha rfl (by kernel_rfl) ?_
              refine wp_skip ?_
              refine then_normal ?_
              refine wp_seq ?_
              refine wp_block ?_
              refine wp_seq ?_
              refine wp_seq ?_
              refine wp_region_lit ?_
              refine st_val (.int .i64 ((p : Nat) : Int)) ha (by kernel_rfl) (by kernel_rfl) ?_
              clear ha; intro a ha
              refine st_val (.slice (some ac) ds.length c10) ha (by kernel_rfl) (by kernel_rfl) ?_
              clear ha; intro a ha
              refine st_val (.int .i64 ((k : Nat) : Int)) ha (by kernel_rfl) (by kernel_rfl) ?_
              clear ha; intro a ha
              refine st_val (.pointer (some (ac.add (k * 4)))) ha (by kernel_rfl) (run_indexAddr' (kd := .i64) (i := ((k : Nat) : Int)) (n := ds.length) (c := c10) k rfl Try.underlying22 Try.sizeOf27 (by kernel_rfl) (by kernel_rfl) rfl (by first | assumption | omega) _) ?_
              clear ha; intro a ha
              refine st_val (.pointer (some (ac.add (k * 4 + 3)))) ha (by kernel_rfl) (run_fieldAddr_at (i := k * 4) (off := 3) rfl Try.underlying27 rfl Try.sizeOf25 (by kernel_rfl) _) ?_
              clear ha; intro a ha
              refine st_val (.slice e.A e.l.length e.c) ha (by kernel_rfl) (run_loadAt1 (i := k * 4 + 3) ((hfl ▸ (Own.reads (s.at_ (j := 0) rfl).1))) rfl (by kernel_rfl) Try.isAgg25 (by rw [nvs_at he (by omega)]; rfl)) ?_
              clear ha; intro a ha
              refine st_val (.int .i64 ((e.l.length : Nat) : Int)) ha (by kernel_rfl) (by kernel_rfl) ?_
              clear ha; intro a ha
              refine st_val (.bool (decide (((p : Nat) : Int) ≥ ((e.l.length : Nat) : Int)))) ha (by kernel_rfl) (by kernel_rfl) ?_
              clear ha; intro a ha
              refine wpList_nil ?_
              refine then_normal ?_
              refine wp_part (decide (((p : Nat) : Int) ≥ ((e.l.length : Nat) : Int))) ha rfl (by kernel_rfl) (fun hb => ?_) (fun hb => ?_)
              · rw [hb] at ha; replace hb : (((p : Nat) : Int) ≥ ((e.l.length : Nat) : Int)) := of_decide_eq_true hb
                refine wp_seq ?_
                refine wp_region_lit ?_
                refine st_val (.int .i64 ((p : Nat) : Int)) ha (by kernel_rfl) (by kernel_rfl) ?_
                clear ha; intro a ha
                refine st_val (.slice (some ac) ds.length c10) ha (by kernel_rfl) (by kernel_rfl) ?_
                clear ha; intro a ha
                refine st_val (.int .i64 ((k : Nat) : Int)) ha (by kernel_rfl) (by kernel_rfl) ?_
                clear ha; intro a ha
                refine st_val (.pointer (some (ac.add (k * 4)))) ha (by kernel_rfl) (run_indexAddr' (kd := .i64) (i := ((k : Nat) : Int)) (n := ds.length) (c := c10) k rfl Try.underlying22 Try.sizeOf27 (by kernel_rfl) (by kernel_rfl) rfl (by first | assumption | omega) _) ?_
                clear ha; intro a ha
                refine st_val (.pointer (some (ac.add (k * 4 + 3)))) ha (by kernel_rfl) (run_fieldAddr_at (i := k * 4) (off := 3) rfl Try.underlying27 rfl Try.sizeOf25 (by kernel_rfl) _) ?_
                clear ha; intro a ha
                refine st_val (.slice e.A e.l.length e.c) ha (by kernel_rfl) (run_loadAt1 (i := k * 4 + 3) ((hfl ▸ (Own.reads (s.at_ (j := 0) rfl).1))) rfl (by kernel_rfl) Try.isAgg25 (by rw [nvs_at he (by omega)]; rfl)) ?_
                clear ha; intro a ha
                refine st_val (.int .i64 ((e.l.length : Nat) : Int)) ha (by kernel_rfl) (by kernel_rfl) ?_
                clear ha; intro a ha
                refine st_val (.int .i64 (((p : Nat) : Int) - ((e.l.length : Nat) : Int))) ha (by kernel_rfl) (run_arith (((p : Nat) : Int) - ((e.l.length : Nat) : Int)) (((p : Nat) : Int) - ((e.l.length : Nat) : Int)) rfl (by kernel_rfl) (by kernel_rfl) (.inr (.inl ⟨rfl, rfl⟩)) (by rw [wrap64_in (by omega)]) _) ?_
                clear ha; intro a ha
                refine st_val (.int .i64 (((p : Nat) : Int) - ((e.l.length : Nat) : Int))) ha (by kernel_rfl) (by kernel_rfl) ?_
                clear ha; intro a ha
                refine wpList_nil ?_
                refine then_normal ?_
                refine wp_exit ?_
                refine then_exit ?_
                refine block_hit ?_
                refine then_normal ?_
                refine wp_region_lit ?_
                refine st_val (.int .i64 ((k : Nat) : Int)) ha (by kernel_rfl) (by kernel_rfl) ?_
                clear ha; intro a ha
                refine st_val (.int .i64 ((k + 1 : Nat) : Int)) ha (by kernel_rfl) (run_arith (((k : Nat) : Int) + (1 : Int)) ((k + 1 : Nat) : Int) rfl (by kernel_rfl) (by kernel_rfl) (.inl ⟨rfl, rfl⟩) (by rw [wrap64_in (by omega)]; try omega) _) ?_
                clear ha; intro a ha
                refine st_val (.int .i64 ((k + 1 : Nat) : Int)) ha (by kernel_rfl) (by kernel_rfl) ?_
                clear ha; intro a ha
                refine wpList_nil ?_
                refine then_normal ?_
                exact ⟨(k + 1, p - e.l.length), (show ds.length - (k + 1) < ds.length - k by omega), (Has.cons ha (by kernel_rfl) (by kernel_rfl) (Has.cons ha (by kernel_rfl) (by kernel_rfl) (Has.cons ha (by kernel_rfl) (Eq.trans (b := .int .i64 (((p : Nat) : Int) - ((e.l.length : Nat) : Int))) (by kernel_rfl) (by congr 1; omega)) (Has.cons ha (by kernel_rfl) (by kernel_rfl) (Has.nil ha))))), s, (show k + 1 ≤ ds.length by omega), (show many (tns (fs.take (k + 1))) + (p - e.l.length) = q by have := hp.2; rw [many_take he]; omega)⟩
              · rw [hb] at ha; replace hb : ¬ (((p : Nat) : Int) ≥ ((e.l.length : Nat) : Int)) := of_decide_eq_false hb
                have hpe : p < e.l.length := by omega
                obtain ⟨x, hx⟩ : ∃ x, e.l[p]? = some x := ⟨_, List.getElem?_eq_getElem hpe⟩
                replace s := s.at_ (j := 1) rfl
                replace s : St W (Inn 51 fs :: Own 27 4 (some ac) ds.length c10 (nvs fs) :: Kn (fun w => DonesIn B4 ds6 w → DonesIn C7 es w) :: Own 80 4 B4 ds.length c5 (nvs ds6) :: Inn 81 ds6 :: L) w := s
                replace s := Inn.open_ he s
                replace s : St W (Own 51 7 e.A e.l.length e.c (dvs e.l) :: Rest 51 fs k :: Own 27 4 (some ac) ds.length c10 (nvs fs) :: Kn (fun w => DonesIn B4 ds6 w → DonesIn C7 es w) :: Own 80 4 B4 ds.length c5 (nvs ds6) :: Inn 81 ds6 :: L) w := s
                obtain ⟨al, hAl⟩ : ∃ al, e.A = some al := Own.addr s (by omega)
                rw [hAl] at s
                replace s : St W (Own 51 7 (some al) e.l.length e.c (dvs e.l) :: Rest 51 fs k :: Own 27 4 (some ac) ds.length c10 (nvs fs) :: Kn (fun w => DonesIn B4 ds6 w → DonesIn C7 es w) :: Own 80 4 B4 ds.length c5 (nvs ds6) :: Inn 81 ds6 :: L) w := s
                have hxb := (hfb.row he).row hx
                have hxc := hfcb e (List.mem_of_getElem? he) x (List.mem_of_getElem? hx)
                have htl : k < (tns fs).length := by rw [List.length_map]; omega
                have hxt : (tAt (tns fs) k).l[p]? = some x.t := by rw [tAt_of he]; show (e.l.map (·.t))[p]? = _; rw [List.getElem?_map, hx]; rfl
                have hr2 : x.t.op = 2 → x.t.rows.length ≤ 1000000 := fun h2 => Nat.le_trans (scan_small hfo hfq htl hxt h2 hfm) (by decide)
                refine wp_skip ?_
                refine then_normal ?_
                refine wp_seq ?_
                refine wp_region_lit ?_
                refine st_val (.slice (some ac) ds.length c10) ha (by kernel_rfl) (by kernel_rfl) ?_
                clear ha; intro a ha
                refine st_val (.int .i64 ((k : Nat) : Int)) ha (by kernel_rfl) (by kernel_rfl) ?_
                clear ha; intro a ha
                refine st_val (.pointer (some (ac.add (k * 4)))) ha (by kernel_rfl) (run_indexAddr' (kd := .i64) (i := ((k : Nat) : Int)) (n := ds.length) (c := c10) k rfl Try.underlying22 Try.sizeOf27 (by kernel_rfl) (by kernel_rfl) rfl (by first | assumption | omega) _) ?_
                clear ha; intro a ha
                refine st_val (.pointer (some (ac.add (k * 4 + 3)))) ha (by kernel_rfl) (run_fieldAddr_at (i := k * 4) (off := 3) rfl Try.underlying27 rfl Try.sizeOf25 (by kernel_rfl) _) ?_
                clear ha; intro a ha
                refine st_val (.slice e.A e.l.length e.c) ha (by kernel_rfl) (run_loadAt1 (i := k * 4 + 3) ((hfl ▸ (Own.reads (s.at_ (j := 2) rfl).1))) rfl (by kernel_rfl) Try.isAgg25 (by rw [nvs_at he (by omega)]; rfl)) ?_
                clear ha; intro a ha
                refine st_val (.int .i64 ((p : Nat) : Int)) ha (by kernel_rfl) (by kernel_rfl) ?_
                clear ha; intro a ha
                refine st_val (.pointer (some (al.add (p * 7)))) ha (by kernel_rfl) (run_indexAddr' (kd := .i64) (i := ((p : Nat) : Int)) (n := e.l.length) (c := e.c) p rfl Try.underlying25 Try.sizeOf51 (by rw [← hAl]; kernel_rfl) (by kernel_rfl) rfl (by first | assumption | omega) _) ?_
                clear ha; intro a ha
                refine st_val (.agg #[.int .i64 x.t.op, .string (str x.t.key), .string (str x.t.val), .string (str x.t.frm), .string (str x.t.to), .bool x.t.is, .slice x.A x.t.rows.length x.c]) ha (by kernel_rfl) (run_loadAtN (i := p * 7) [.int .i64 x.t.op, .string (str x.t.key), .string (str x.t.val), .string (str x.t.frm), .string (str x.t.to), .bool x.t.is, .slice x.A x.t.rows.length x.c] ((Own.reads (s.at_ (j := 0) rfl).1)) rfl (by kernel_rfl) Try.isAgg51 Try.sizeOf51 (fun q_ hq_ => dvs_at hx hq_) rfl) ?_
                clear ha; intro a ha
                refine st_ex ha (by kernel_rfl) (ex_alloc [.int .i64 0, .string (str []), .string (str []), .string (str []), .string (str []), .bool false, .slice none 0 0] s rfl (Try.zeroValue51 _) (by kernel_rfl)) ?_
                clear ha; rintro _ w a ⟨g11, rfl, s⟩ ha
                replace s : St W (.blk g11 [.int .i64 0, .string (str []), .string (str []), .string (str []), .string (str []), .bool false, .slice none 0 0] 51 :: Own 51 7 (some al) e.l.length e.c (dvs e.l) :: Rest 51 fs k :: Own 27 4 (some ac) ds.length c10 (nvs fs) :: Kn (fun w => DonesIn B4 ds6 w → DonesIn C7 es w) :: Own 80 4 B4 ds.length c5 (nvs ds6) :: Inn 81 ds6 :: L) w := s
                refine st_exd ha (by kernel_rfl) (ex_store (of_ := 0) 0 [.int .i64 x.t.op, .string (str x.t.key), .string (str x.t.val), .string (str x.t.frm), .string (str x.t.to), .bool x.t.is, .slice x.A x.t.rows.length x.c] s rfl rfl (by kernel_rfl) (by kernel_rfl) (Try.sizeOf51 _) rfl (by simp [Value.oneCell']) (Nat.le_of_ble_eq_true rfl)) ?_
                clear ha; rintro w a s ha
                replace s : St W (.blk g11 [.int .i64 x.t.op, .string (str x.t.key), .string (str x.t.val), .string (str x.t.frm), .string (str x.t.to), .bool x.t.is, .slice x.A x.t.rows.length x.c] 51 :: Own 51 7 (some al) e.l.length e.c (dvs e.l) :: Rest 51 fs k :: Own 27 4 (some ac) ds.length c10 (nvs fs) :: Kn (fun w => DonesIn B4 ds6 w → DonesIn C7 es w) :: Own 80 4 B4 ds.length c5 (nvs ds6) :: Inn 81 ds6 :: L) w := s
                refine wpList_nil ?_
                refine then_normal ?_
                refine wp_seq ?_
                refine wp_seq ?_
                refine wp_region_lit ?_
                refine st_val (.pointer (some ⟨g11, 0, none⟩)) ha (by kernel_rfl) (by kernel_rfl) ?_
                clear ha; intro a ha
                refine st_val (.int .i64 x.t.op) ha (by kernel_rfl) (run_load1 (of_ := 0) (s.blkIs 0 rfl) rfl (by kernel_rfl) Try.isAgg3 rfl) ?_
                clear ha; intro a ha
                refine st_val (.bool (x.t.op != (1 : Int))) ha (by kernel_rfl) (by kernel_rfl) ?_
                clear ha; intro a ha
                refine st_val (.bool (x.t.op != (1 : Int))) ha (by kernel_rfl) (by kernel_rfl) ?_
                clear ha; intro a ha
                rcases Bool.eq_false_or_eq_true (x.t.op != (1 : Int)) with hb | hb
                · rw [hb] at ha; have hb_ := hb; replace hb := bne_iff_ne.1 hb
                  refine st_val (.pointer (some ⟨g11, 0, none⟩)) ha (by kernel_rfl) (by kernel_rfl) ?_
                  clear ha; intro a ha
                  refine st_val (.int .i64 x.t.op) ha (by kernel_rfl) (run_load1 (of_ := 0) (s.blkIs 0 rfl) rfl (by kernel_rfl) Try.isAgg3 rfl) ?_
                  clear ha; intro a ha
                  refine st_val (.bool (x.t.op != (2 : Int))) ha (by kernel_rfl) (by kernel_rfl) ?_
                  clear ha; intro a ha
                  refine st_val (.bool (x.t.op != (2 : Int))) ha (by kernel_rfl) (by kernel_rfl) ?_
                  clear ha; intro a ha
                  refine wpList_nil ?_
                  refine then_normal ?_
                  refine wp_part (x.t.op != (2 : Int)) ha rfl (by kernel_rfl) (fun hb => ?_) (fun hb => ?_)
                  · rw [hb] at ha; have hb_ := hb; replace hb := bne_iff_ne.1 hb
                    rw [← hAl] at s
                    replace s := s.at_ (j := 2) rfl
                    replace s : St W (Rest 51 fs k :: .blk g11 [.int .i64 x.t.op, .string (str x.t.key), .string (str x.t.val), .string (str x.t.frm), .string (str x.t.to), .bool x.t.is, .slice x.A x.t.rows.length x.c] 51 :: Own 51 7 e.A e.l.length e.c (dvs e.l) :: Own 27 4 (some ac) ds.length c10 (nvs fs) :: Kn (fun w => DonesIn B4 ds6 w → DonesIn C7 es w) :: Own 80 4 B4 ds.length c5 (nvs ds6) :: Inn 81 ds6 :: L) w := s
                    replace s := s.at_ (j := 2) rfl
                    replace s : St W (Own 51 7 e.A e.l.length e.c (dvs e.l) :: Rest 51 fs k :: .blk g11 [.int .i64 x.t.op, .string (str x.t.key), .string (str x.t.val), .string (str x.t.frm), .string (str x.t.to), .bool x.t.is, .slice x.A x.t.rows.length x.c] 51 :: Own 27 4 (some ac) ds.length c10 (nvs fs) :: Kn (fun w => DonesIn B4 ds6 w → DonesIn C7 es w) :: Own 80 4 B4 ds.length c5 (nvs ds6) :: Inn 81 ds6 :: L) w := s
                    replace s := Inn.close he e.l s
                    rw [set_same he] at s
                    replace s : St W (Inn 51 fs :: .blk g11 [.int .i64 x.t.op, .string (str x.t.key), .string (str x.t.val), .string (str x.t.frm), .string (str x.t.to), .bool x.t.is, .slice x.A x.t.rows.length x.c] 51 :: Own 27 4 (some ac) ds.length c10 (nvs fs) :: Kn (fun w => DonesIn B4 ds6 w → DonesIn C7 es w) :: Own 80 4 B4 ds.length c5 (nvs ds6) :: Inn 81 ds6 :: L) w := s
                    refine wp_seq ?_
                    refine wp_region_lit ?_
                    refine st_val (.slice (some ac) ds.length c10) ha (by kernel_rfl) (by kernel_rfl) ?_
                    clear ha; intro a ha
                    refine st_call ha (by kernel_rfl) (by kernel_rfl) (finds_n W hW _ w (some ac) c10 ds.length fs hfl (nest_knows (i := 2) (j := 0) (e1 := 27) (e2 := 51) (by rw [hfl]; rfl) rfl (kn_mp (j := 3) rfl (nest_knows (i := 4) (j := 5) (e1 := 80) (e2 := 81) (by rw [hds6l]; rfl) rfl (fun w s => hr w s.tail.tail.tail.tail.tail.tail) hds6)) hcf) hfb 0 0 false hf0 hfo (found_quiet hfq) s) ?_
                    rintro _ w ⟨rfl, s⟩
                    replace s : St W (Inn 51 fs :: .blk g11 [.int .i64 x.t.op, .string (str x.t.key), .string (str x.t.val), .string (str x.t.frm), .string (str x.t.to), .bool x.t.is, .slice x.A x.t.rows.length x.c] 51 :: Own 27 4 (some ac) ds.length c10 (nvs fs) :: Kn (fun w => DonesIn B4 ds6 w → DonesIn C7 es w) :: Own 80 4 B4 ds.length c5 (nvs ds6) :: Inn 81 ds6 :: L) w := s
                    refine ⟨_, rfl, ?_⟩; clear ha; intro a ha
                    refine st_val (.bool true) ha (by kernel_rfl) (by kernel_rfl) ?_
                    clear ha; intro a ha
                    refine wpList_nil ?_
                    refine then_normal ?_
                    refine wp_ret ?_
                    refine then_ret ?_
                    refine block_ret ?_
                    refine then_ret ?_
                    refine then_ret ?_
                    refine block_ret ?_
                    refine then_ret ?_
                    refine ret_with (v := .bool true) ha (results_1 rfl ha (res_tmp (by kernel_rfl) (by kernel_rfl))) ?_
                    replace s := s.tail.tail.tail.tail.tail.tail
                    replace s : St W (L) w := s
                    exact ⟨rfl, s⟩
                  · rw [hb] at ha; have hb_ := hb; replace hb := bne_eq_false_iff_eq.1 hb
                    have hop : x.t.op = 1 ∨ x.t.op = 2 := .inr (by simpa using hb)
                    refine wp_skip ?_
                    refine then_normal ?_
                    refine wp_seq ?_
                    refine wp_region_head 10 (fun w => Reads w 4 (some ac) fs.length (nvs fs) ∧ BlkIs g11 [.int .i64 x.t.op, .string (str x.t.key), .string (str x.t.val), .string (str x.t.frm), .string (str x.t.to), .bool x.t.is, .slice x.A x.t.rows.length x.c] w ∧ True) (by kernel_rfl) (by decide) ?_
                    replace s := s.drew; generalize _root_.Go.World.drew _ = w at s ⊢
                    have hS : (fun w => Reads w 4 (some ac) fs.length (nvs fs) ∧ BlkIs g11 [.int .i64 x.t.op, .string (str x.t.key), .string (str x.t.val), .string (str x.t.frm), .string (str x.t.to), .bool x.t.is, .slice x.A x.t.rows.length x.c] w ∧ True) w := ⟨(hfl ▸ (Own.reads (s.at_ (j := 3) rfl).1)), s.blkIs 0 rfl, trivial⟩
                    refine hd_val (i := 0) (.slice (some ac) ds.length c10) ha rfl (by kernel_rfl) (fun _ _ _ h => h) (by kernel_rfl) (fun w hS => (by kernel_rfl)) hS ?_
                    clear ha; intro a ha
                    refine hd_val (i := 1) (.int .i64 ((k : Nat) : Int)) ha rfl (by kernel_rfl) (fun _ _ _ h => h) (by kernel_rfl) (fun w hS => (by kernel_rfl)) hS ?_
                    clear ha; intro a ha
                    refine hd_val (i := 2) (.pointer (some (ac.add (k * 4)))) ha rfl (by kernel_rfl) (fun _ _ _ h => h) (by kernel_rfl) (fun w hS => (run_indexAddr' (kd := .i64) (i := ((k : Nat) : Int)) (n := ds.length) (c := c10) k rfl Try.underlying22 Try.sizeOf27 (by kernel_rfl) (by kernel_rfl) rfl (by first | assumption | omega) _)) hS ?_
                    clear ha; intro a ha
                    refine hd_val (i := 3) (.pointer (some (ac.add (k * 4 + 3)))) ha rfl (by kernel_rfl) (fun _ _ _ h => h) (by kernel_rfl) (fun w hS => (run_fieldAddr_at (i := k * 4) (off := 3) rfl Try.underlying27 rfl Try.sizeOf25 (by kernel_rfl) _)) hS ?_
                    clear ha; intro a ha
                    refine hd_val (i := 4) (.slice e.A e.l.length e.c) ha rfl (by kernel_rfl) (fun _ _ _ h => h) (by kernel_rfl) (fun w hS => run_loadAt1 (i := k * 4 + 3) hS.1 rfl (by kernel_rfl) Try.isAgg25 (by rw [nvs_at he (by omega)]; rfl)) hS ?_
                    clear ha; intro a ha
                    refine hd_val (i := 5) (.int .i64 ((p : Nat) : Int)) ha rfl (by kernel_rfl) (fun _ _ _ h => h) (by kernel_rfl) (fun w hS => (by kernel_rfl)) hS ?_
                    clear ha; intro a ha
                    refine hd_val (i := 6) (.agg #[.int .i64 x.t.op, .string (str x.t.key), .string (str x.t.val), .string (str x.t.frm), .string (str x.t.to), .bool x.t.is, .slice x.A x.t.rows.length x.c]) ha rfl (by kernel_rfl) (fun _ _ _ h => h) (by kernel_rfl) (fun w hS => run_loadN (of_ := 0) [.int .i64 x.t.op, .string (str x.t.key), .string (str x.t.val), .string (str x.t.frm), .string (str x.t.to), .bool x.t.is, .slice x.A x.t.rows.length x.c] hS.2.1 rfl (by kernel_rfl) Try.isAgg51 Try.sizeOf51 rfl (Nat.le_of_ble_eq_true rfl)) hS ?_
                    clear ha; intro a ha
                    refine hd_val (i := 7) (.int .i64 a2) ha rfl (by kernel_rfl) (fun _ _ _ h => h) (by kernel_rfl) (fun w hS => (by kernel_rfl)) hS ?_
                    clear ha; intro a ha
                    obtain ⟨r, hr3⟩ : ∃ r : Nat, a2 % 3 = (r : Int) := ⟨(a2 % 3).toNat, by omega⟩
                    refine hd_call (i := 8) ha rfl (by kernel_rfl) (by kernel_rfl) (by kernel_rfl) (bring_nat W _ w a2 3 r hr3 (by omega) (by omega) s) ?_
                    clear hS; rintro _ w ⟨rfl, s⟩
                    replace s : St W (.blk g11 [.int .i64 x.t.op, .string (str x.t.key), .string (str x.t.val), .string (str x.t.frm), .string (str x.t.to), .bool x.t.is, .slice x.A x.t.rows.length x.c] 51 :: Own 51 7 (some al) e.l.length e.c (dvs e.l) :: Rest 51 fs k :: Own 27 4 (some ac) ds.length c10 (nvs fs) :: Kn (fun w => DonesIn B4 ds6 w → DonesIn C7 es w) :: Own 80 4 B4 ds.length c5 (nvs ds6) :: Inn 81 ds6 :: L) w := s
                    have hS : (fun w => Reads w 4 (some ac) fs.length (nvs fs) ∧ BlkIs g11 [.int .i64 x.t.op, .string (str x.t.key), .string (str x.t.val), .string (str x.t.frm), .string (str x.t.to), .bool x.t.is, .slice x.A x.t.rows.length x.c] w ∧ True) w := ⟨(hfl ▸ (Own.reads (s.at_ (j := 3) rfl).1)), s.blkIs 0 rfl, trivial⟩
                    refine ⟨_, rfl, hS, ?_⟩; clear ha; intro a ha
                    refine hd_call (i := 9) ha rfl (by kernel_rfl) (by kernel_rfl) (by kernel_rfl) (spoilt_any W _ w x ((r : Nat) : Int) (row_knows (kn_mp (j := 4) rfl (nest_knows (i := 5) (j := 6) (e1 := 80) (e2 := 81) (by rw [hds6l]; rfl) rfl (fun w s => hr w s.tail.tail.tail.tail.tail.tail.tail) hds6)) hcf he hx) hxc.1 hxb.1 hxc.2 hop hr2 s) ?_
                    clear hS; rintro _ w ⟨x2, rfl, hx2, s⟩
                    replace s : St W (Kn (fun w => Reads w 2 x.A x.t.rows.length (rws x.t.rows) → Reads w 2 x2.A x2.t.rows.length (rws x2.t.rows)) :: .blk g11 [.int .i64 x.t.op, .string (str x.t.key), .string (str x.t.val), .string (str x.t.frm), .string (str x.t.to), .bool x.t.is, .slice x.A x.t.rows.length x.c] 51 :: Own 51 7 (some al) e.l.length e.c (dvs e.l) :: Rest 51 fs k :: Own 27 4 (some ac) ds.length c10 (nvs fs) :: Kn (fun w => DonesIn B4 ds6 w → DonesIn C7 es w) :: Own 80 4 B4 ds.length c5 (nvs ds6) :: Inn 81 ds6 :: L) w := s
                    have hS : (fun w => Reads w 4 (some ac) fs.length (nvs fs) ∧ BlkIs g11 [.int .i64 x.t.op, .string (str x.t.key), .string (str x.t.val), .string (str x.t.frm), .string (str x.t.to), .bool x.t.is, .slice x.A x.t.rows.length x.c] w ∧ True) w := ⟨(hfl ▸ (Own.reads (s.at_ (j := 4) rfl).1)), s.blkIs 1 rfl, trivial⟩
                    refine ⟨_, rfl, hS, ?_⟩; clear ha; intro a ha
                    refine Head.done (by kernel_rfl) ?_
                    clear hS; simp only [List.drop_succ_cons, List.drop_zero]
                    refine st_val (.pointer (some (al.add (p * 7)))) ha (by kernel_rfl) (run_indexAddr' (kd := .i64) (i := ((p : Nat) : Int)) (n := e.l.length) (c := e.c) p rfl Try.underlying25 Try.sizeOf51 (by rw [← hAl]; kernel_rfl) (by kernel_rfl) rfl (by first | assumption | omega) _) ?_
                    clear ha; intro a ha
                    refine st_exd ha (by kernel_rfl) (ex_store_own (i := p * 7) 2 [.int .i64 x2.t.op, .string (str x2.t.key), .string (str x2.t.val), .string (str x2.t.frm), .string (str x2.t.to), .bool x2.t.is, .slice x2.A x2.t.rows.length x2.c] s (show putAt (dvs e.l) (p * 7) [.int .i64 x2.t.op, .string (str x2.t.key), .string (str x2.t.val), .string (str x2.t.frm), .string (str x2.t.to), .bool x2.t.is, .slice x2.A x2.t.rows.length x2.c] = dvs (e.l.set p x2) from putAt_dvs hpe x2) rfl rfl (by kernel_rfl) (by kernel_rfl) (Try.sizeOf51 _) rfl (by simp [Value.oneCell']) (by simp) (by rw [dvs_len]; simp only [List.length_cons, List.length_nil]; omega)) ?_
                    clear ha; rintro w a s ha
                    replace s : St W (Kn (fun w => Reads w 2 x.A x.t.rows.length (rws x.t.rows) → Reads w 2 x2.A x2.t.rows.length (rws x2.t.rows)) :: .blk g11 [.int .i64 x.t.op, .string (str x.t.key), .string (str x.t.val), .string (str x.t.frm), .string (str x.t.to), .bool x.t.is, .slice x.A x.t.rows.length x.c] 51 :: Own 51 7 (some al) e.l.length e.c (dvs (e.l.set p x2)) :: Rest 51 fs k :: Own 27 4 (some ac) ds.length c10 (nvs fs) :: Kn (fun w => DonesIn B4 ds6 w → DonesIn C7 es w) :: Own 80 4 B4 ds.length c5 (nvs ds6) :: Inn 81 ds6 :: L) w := s
                    refine wpList_nil ?_
                    refine then_normal ?_
                    refine wp_seq ?_
                    refine wp_region_lit ?_
                    refine st_val (.slice (some ac) ds.length c10) ha (by kernel_rfl) (by kernel_rfl) ?_
                    clear ha; intro a ha
                    refine st_val (.int .i64 ((k : Nat) : Int)) ha (by kernel_rfl) (by kernel_rfl) ?_
                    clear ha; intro a ha
                    refine st_val (.int .i64 ((p : Nat) : Int)) ha (by kernel_rfl) (by kernel_rfl) ?_
                    clear ha; intro a ha
                    rw [← hAl] at s
                    replace s := s.at_ (j := 3) rfl
                    replace s : St W (Rest 51 fs k :: Kn (fun w => Reads w 2 x.A x.t.rows.length (rws x.t.rows) → Reads w 2 x2.A x2.t.rows.length (rws x2.t.rows)) :: .blk g11 [.int .i64 x.t.op, .string (str x.t.key), .string (str x.t.val), .string (str x.t.frm), .string (str x.t.to), .bool x.t.is, .slice x.A x.t.rows.length x.c] 51 :: Own 51 7 e.A e.l.length e.c (dvs (e.l.set p x2)) :: Own 27 4 (some ac) ds.length c10 (nvs fs) :: Kn (fun w => DonesIn B4 ds6 w → DonesIn C7 es w) :: Own 80 4 B4 ds.length c5 (nvs ds6) :: Inn 81 ds6 :: L) w := s
                    replace s := s.at_ (j := 3) rfl
                    replace s : St W (Own 51 7 e.A e.l.length e.c (dvs (e.l.set p x2)) :: Rest 51 fs k :: Kn (fun w => Reads w 2 x.A x.t.rows.length (rws x.t.rows) → Reads w 2 x2.A x2.t.rows.length (rws x2.t.rows)) :: .blk g11 [.int .i64 x.t.op, .string (str x.t.key), .string (str x.t.val), .string (str x.t.frm), .string (str x.t.to), .bool x.t.is, .slice x.A x.t.rows.length x.c] 51 :: Own 27 4 (some ac) ds.length c10 (nvs fs) :: Kn (fun w => DonesIn B4 ds6 w → DonesIn C7 es w) :: Own 80 4 B4 ds.length c5 (nvs ds6) :: Inn 81 ds6 :: L) w := s
                    rw [show e.l.length = (e.l.set p x2).length from (List.length_set).symm] at s
                    replace s := Inn.close he (e.l.set p x2) s
                    rw [← nvs_set he (l := e.l.set p x2) List.length_set] at s
                    replace s : St W (Inn 51 (fs.set k { e with l := e.l.set p x2 }) :: Kn (fun w => Reads w 2 x.A x.t.rows.length (rws x.t.rows) → Reads w 2 x2.A x2.t.rows.length (rws x2.t.rows)) :: .blk g11 [.int .i64 x.t.op, .string (str x.t.key), .string (str x.t.val), .string (str x.t.frm), .string (str x.t.to), .bool x.t.is, .slice x.A x.t.rows.length x.c] 51 :: Own 27 4 (some ac) ds.length c10 (nvs (fs.set k { e with l := e.l.set p x2 })) :: Kn (fun w => DonesIn B4 ds6 w → DonesIn C7 es w) :: Own 80 4 B4 ds.length c5 (nvs ds6) :: Inn 81 ds6 :: L) w := s
                    have hzt : tns (fs.set k { e with l := e.l.set p x2 }) = setT (tns fs) k p x2.t := set_tns he x2
                    have hop2 : x2.t.op = x.t.op := by rw [hx2]; exact spoil_op _ _
                    have hz0 : code (tns (fs.set k { e with l := e.l.set p x2 })) = 0 := by rw [hzt]; exact setT_code hf0 htl hxt hop2
                    have hzo : IsOrd (tns (fs.set k { e with l := e.l.set p x2 })) o3 := by rw [hzt]; exact setT_ord hfo htl
                    have hzq : first [] (things (tns (fs.set k { e with l := e.l.set p x2 })) o3) = some (k, p) := by rw [hzt]; exact found_spoilt hfo hfq htl hxt (fun R hR => by rw [hx2]; exact spoil_bad hop R hR)
                    have hzb : Bn (fs.set k { e with l := e.l.set p x2 }) := set_bn hfb he hx (by rw [hx2]; exact spoil_rows2 hxb.1 hr2 hop) (by rw [hx2]; exact spoil_key _ _)
                    refine st_call ha (by kernel_rfl) (by kernel_rfl) (finds_n W hW _ w (some ac) c10 ds.length (fs.set k { e with l := e.l.set p x2 }) (by rw [List.length_set]; exact hfl) (set_knows (i := 3) (j := 0) (e1 := 27) (e2 := 51) rfl hfl rfl (kn_mp (j := 4) rfl (nest_knows (i := 5) (j := 6) (e1 := 80) (e2 := 81) (by rw [hds6l]; rfl) rfl (fun w s => hr w s.tail.tail.tail.tail.tail.tail.tail) hds6)) hcf he (kn_mp (j := 1) rfl (row_knows (kn_mp (j := 4) rfl (nest_knows (i := 5) (j := 6) (e1 := 80) (e2 := 81) (by rw [hds6l]; rfl) rfl (fun w s => hr w s.tail.tail.tail.tail.tail.tail.tail) hds6)) hcf he hx))) hzb _ _ true hz0 hzo (found_at hzq) s) ?_
                    rintro _ w ⟨rfl, s⟩
                    replace s : St W (Inn 51 (fs.set k { e with l := e.l.set p x2 }) :: Kn (fun w => Reads w 2 x.A x.t.rows.length (rws x.t.rows) → Reads w 2 x2.A x2.t.rows.length (rws x2.t.rows)) :: .blk g11 [.int .i64 x.t.op, .string (str x.t.key), .string (str x.t.val), .string (str x.t.frm), .string (str x.t.to), .bool x.t.is, .slice x.A x.t.rows.length x.c] 51 :: Own 27 4 (some ac) ds.length c10 (nvs (fs.set k { e with l := e.l.set p x2 })) :: Kn (fun w => DonesIn B4 ds6 w → DonesIn C7 es w) :: Own 80 4 B4 ds.length c5 (nvs ds6) :: Inn 81 ds6 :: L) w := s
                    refine ⟨_, rfl, ?_⟩; clear ha; intro a ha
                    refine st_val (.bool true) ha (by kernel_rfl) (by kernel_rfl) ?_
                    clear ha; intro a ha
                    refine wpList_nil ?_
                    refine then_normal ?_
                    refine wp_ret ?_
                    refine block_ret ?_
                    refine then_ret ?_
                    refine then_ret ?_
                    refine block_ret ?_
                    refine then_ret ?_
                    refine ret_with (v := .bool true) ha (results_1 rfl ha (res_tmp (by kernel_rfl) (by kernel_rfl))) ?_
                    replace s := s.tail.tail.tail.tail.tail.tail.tail
                    replace s : St W (L) w := s
                    exact ⟨rfl, s⟩
                · rw [hb] at ha; have hb_ := hb; replace hb := bne_eq_false_iff_eq.1 hb
                  have hop : x.t.op = 1 ∨ x.t.op = 2 := .inl (by simpa using hb)
                  refine st_pass ha (by kernel_rfl) ?_
                  clear ha; intro a ha
                  refine st_pass ha (by kernel_rfl) ?_
                  clear ha; intro a ha
                  refine st_pass ha (by kernel_rfl) ?_
                  clear ha; intro a ha
                  refine st_val (.bool false) ha (by kernel_rfl) (by kernel_rfl) ?_
                  clear ha; intro a ha
                  refine wpList_nil ?_
                  refine then_normal ?_
                  refine wp_false ha rfl (by kernel_rfl) ?_
                  refine wp_skip ?_
                  refine then_normal ?_
                  refine wp_seq ?_
                  refine wp_region_head 10 (fun w => Reads w 4 (some ac) fs.length (nvs fs) ∧ BlkIs g11 [.int .i64 x.t.op, .string (str x.t.key), .string (str x.t.val), .string (str x.t.frm), .string (str x.t.to), .bool x.t.is, .slice x.A x.t.rows.length x.c] w ∧ True) (by kernel_rfl) (by decide) ?_
                  replace s := s.drew; generalize _root_.Go.World.drew _ = w at s ⊢
                  have hS : (fun w => Reads w 4 (some ac) fs.length (nvs fs) ∧ BlkIs g11 [.int .i64 x.t.op, .string (str x.t.key), .string (str x.t.val), .string (str x.t.frm), .string (str x.t.to), .bool x.t.is, .slice x.A x.t.rows.length x.c] w ∧ True) w := ⟨(hfl ▸ (Own.reads (s.at_ (j := 3) rfl).1)), s.blkIs 0 rfl, trivial⟩
                  refine hd_val (i := 0) (.slice (some ac) ds.length c10) ha rfl (by kernel_rfl) (fun _ _ _ h => h) (by kernel_rfl) (fun w hS => (by kernel_rfl)) hS ?_
                  clear ha; intro a ha
                  refine hd_val (i := 1) (.int .i64 ((k : Nat) : Int)) ha rfl (by kernel_rfl) (fun _ _ _ h => h) (by kernel_rfl) (fun w hS => (by kernel_rfl)) hS ?_
                  clear ha; intro a ha
                  refine hd_val (i := 2) (.pointer (some (ac.add (k * 4)))) ha rfl (by kernel_rfl) (fun _ _ _ h => h) (by kernel_rfl) (fun w hS => (run_indexAddr' (kd := .i64) (i := ((k : Nat) : Int)) (n := ds.length) (c := c10) k rfl Try.underlying22 Try.sizeOf27 (by kernel_rfl) (by kernel_rfl) rfl (by first | assumption | omega) _)) hS ?_
                  clear ha; intro a ha
                  refine hd_val (i := 3) (.pointer (some (ac.add (k * 4 + 3)))) ha rfl (by kernel_rfl) (fun _ _ _ h => h) (by kernel_rfl) (fun w hS => (run_fieldAddr_at (i := k * 4) (off := 3) rfl Try.underlying27 rfl Try.sizeOf25 (by kernel_rfl) _)) hS ?_
                  clear ha; intro a ha
                  refine hd_val (i := 4) (.slice e.A e.l.length e.c) ha rfl (by kernel_rfl) (fun _ _ _ h => h) (by kernel_rfl) (fun w hS => run_loadAt1 (i := k * 4 + 3) hS.1 rfl (by kernel_rfl) Try.isAgg25 (by rw [nvs_at he (by omega)]; rfl)) hS ?_
                  clear ha; intro a ha
                  refine hd_val (i := 5) (.int .i64 ((p : Nat) : Int)) ha rfl (by kernel_rfl) (fun _ _ _ h => h) (by kernel_rfl) (fun w hS => (by kernel_rfl)) hS ?_
                  clear ha; intro a ha
                  refine hd_val (i := 6) (.agg #[.int .i64 x.t.op, .string (str x.t.key), .string (str x.t.val), .string (str x.t.frm), .string (str x.t.to), .bool x.t.is, .slice x.A x.t.rows.length x.c]) ha rfl (by kernel_rfl) (fun _ _ _ h => h) (by kernel_rfl) (fun w hS => run_loadN (of_ := 0) [.int .i64 x.t.op, .string (str x.t.key), .string (str x.t.val), .string (str x.t.frm), .string (str x.t.to), .bool x.t.is, .slice x.A x.t.rows.length x.c] hS.2.1 rfl (by kernel_rfl) Try.isAgg51 Try.sizeOf51 rfl (Nat.le_of_ble_eq_true rfl)) hS ?_
                  clear ha; intro a ha
                  refine hd_val (i := 7) (.int .i64 a2) ha rfl (by kernel_rfl) (fun _ _ _ h => h) (by kernel_rfl) (fun w hS => (by kernel_rfl)) hS ?_
                  clear ha; intro a ha
                  obtain ⟨r, hr3⟩ : ∃ r : Nat, a2 % 3 = (r : Int) := ⟨(a2 % 3).toNat, by omega⟩
                  refine hd_call (i := 8) ha rfl (by kernel_rfl) (by kernel_rfl) (by kernel_rfl) (bring_nat W _ w a2 3 r hr3 (by omega) (by omega) s) ?_
                  clear hS; rintro _ w ⟨rfl, s⟩
                  replace s : St W (.blk g11 [.int .i64 x.t.op, .string (str x.t.key), .string (str x.t.val), .string (str x.t.frm), .string (str x.t.to), .bool x.t.is, .slice x.A x.t.rows.length x.c] 51 :: Own 51 7 (some al) e.l.length e.c (dvs e.l) :: Rest 51 fs k :: Own 27 4 (some ac) ds.length c10 (nvs fs) :: Kn (fun w => DonesIn B4 ds6 w → DonesIn C7 es w) :: Own 80 4 B4 ds.length c5 (nvs ds6) :: Inn 81 ds6 :: L) w := s
                  have hS : (fun w => Reads w 4 (some ac) fs.length (nvs fs) ∧ BlkIs g11 [.int .i64 x.t.op, .string (str x.t.key), .string (str x.t.val), .string (str x.t.frm), .string (str x.t.to), .bool x.t.is, .slice x.A x.t.rows.length x.c] w ∧ True) w := ⟨(hfl ▸ (Own.reads (s.at_ (j := 3) rfl).1)), s.blkIs 0 rfl, trivial⟩
                  refine ⟨_, rfl, hS, ?_⟩; clear ha; intro a ha
                  refine hd_call (i := 9) ha rfl (by kernel_rfl) (by kernel_rfl) (by kernel_rfl) (spoilt_any W _ w x ((r : Nat) : Int) (row_knows (kn_mp (j := 4) rfl (nest_knows (i := 5) (j := 6) (e1 := 80) (e2 := 81) (by rw [hds6l]; rfl) rfl (fun w s => hr w s.tail.tail.tail.tail.tail.tail.tail) hds6)) hcf he hx) hxc.1 hxb.1 hxc.2 hop hr2 s) ?_
                  clear hS; rintro _ w ⟨x2, rfl, hx2, s⟩
                  replace s : St W (Kn (fun w => Reads w 2 x.A x.t.rows.length (rws x.t.rows) → Reads w 2 x2.A x2.t.rows.length (rws x2.t.rows)) :: .blk g11 [.int .i64 x.t.op, .string (str x.t.key), .string (str x.t.val), .string (str x.t.frm), .string (str x.t.to), .bool x.t.is, .slice x.A x.t.rows.length x.c] 51 :: Own 51 7 (some al) e.l.length e.c (dvs e.l) :: Rest 51 fs k :: Own 27 4 (some ac) ds.length c10 (nvs fs) :: Kn (fun w => DonesIn B4 ds6 w → DonesIn C7 es w) :: Own 80 4 B4 ds.length c5 (nvs ds6) :: Inn 81 ds6 :: L) w := s
                  have hS : (fun w => Reads w 4 (some ac) fs.length (nvs fs) ∧ BlkIs g11 [.int .i64 x.t.op, .string (str x.t.key), .string (str x.t.val), .string (str x.t.frm), .string (str x.t.to), .bool x.t.is, .slice x.A x.t.rows.length x.c] w ∧ True) w := ⟨(hfl ▸ (Own.reads (s.at_ (j := 4) rfl).1)), s.blkIs 1 rfl, trivial⟩
                  refine ⟨_, rfl, hS, ?_⟩; clear ha; intro a ha
                  refine Head.done (by kernel_rfl) ?_
                  clear hS; simp only [List.drop_succ_cons, List.drop_zero]
                  refine st_val (.pointer (some (al.add (p * 7)))) ha (by kernel_rfl) (run_indexAddr' (kd := .i64) (i := ((p : Nat) : Int)) (n := e.l.length) (c := e.c) p rfl Try.underlying25 Try.sizeOf51 (by rw [← hAl]; kernel_rfl) (by kernel_rfl) rfl (by first | assumption | omega) _) ?_
                  clear ha; intro a ha
                  refine st_exd ha (by kernel_rfl) (ex_store_own (i := p * 7) 2 [.int .i64 x2.t.op, .string (str x2.t.key), .string (str x2.t.val), .string (str x2.t.frm), .string (str x2.t.to), .bool x2.t.is, .slice x2.A x2.t.rows.length x2.c] s (show putAt (dvs e.l) (p * 7) [.int .i64 x2.t.op, .string (str x2.t.key), .string (str x2.t.val), .string (str x2.t.frm), .string (str x2.t.to), .bool x2.t.is, .slice x2.A x2.t.rows.length x2.c] = dvs (e.l.set p x2) from putAt_dvs hpe x2) rfl rfl (by kernel_rfl) (by kernel_rfl) (Try.sizeOf51 _) rfl (by simp [Value.oneCell']) (by simp) (by rw [dvs_len]; simp only [List.length_cons, List.length_nil]; omega)) ?_
                  clear ha; rintro w a s ha
                  replace s : St W (Kn (fun w => Reads w 2 x.A x.t.rows.length (rws x.t.rows) → Reads w 2 x2.A x2.t.rows.length (rws x2.t.rows)) :: .blk g11 [.int .i64 x.t.op, .string (str x.t.key), .string (str x.t.val), .string (str x.t.frm), .string (str x.t.to), .bool x.t.is, .slice x.A x.t.rows.length x.c] 51 :: Own 51 7 (some al) e.l.length e.c (dvs (e.l.set p x2)) :: Rest 51 fs k :: Own 27 4 (some ac) ds.length c10 (nvs fs) :: Kn (fun w => DonesIn B4 ds6 w → DonesIn C7 es w) :: Own 80 4 B4 ds.length c5 (nvs ds6) :: Inn 81 ds6 :: L) w := s
                  refine wpList_nil ?_
                  refine then_normal ?_
                  refine wp_seq ?_
                  refine wp_region_lit ?_
                  refine st_val (.slice (some ac) ds.length c10) ha (by kernel_rfl) (by kernel_rfl) ?_
                  clear ha; intro a ha
                  refine st_val (.int .i64 ((k : Nat) : Int)) ha (by kernel_rfl) (by kernel_rfl) ?_
                  clear ha; intro a ha
                  refine st_val (.int .i64 ((p : Nat) : Int)) ha (by kernel_rfl) (by kernel_rfl) ?_
                  clear ha; intro a ha
                  rw [← hAl] at s
                  replace s := s.at_ (j := 3) rfl
                  replace s : St W (Rest 51 fs k :: Kn (fun w => Reads w 2 x.A x.t.rows.length (rws x.t.rows) → Reads w 2 x2.A x2.t.rows.length (rws x2.t.rows)) :: .blk g11 [.int .i64 x.t.op, .string (str x.t.key), .string (str x.t.val), .string (str x.t.frm), .string (str x.t.to), .bool x.t.is, .slice x.A x.t.rows.length x.c] 51 :: Own 51 7 e.A e.l.length e.c (dvs (e.l.set p x2)) :: Own 27 4 (some ac) ds.length c10 (nvs fs) :: Kn (fun w => DonesIn B4 ds6 w → DonesIn C7 es w) :: Own 80 4 B4 ds.length c5 (nvs ds6) :: Inn 81 ds6 :: L) w := s
                  replace s := s.at_ (j := 3) rfl
                  replace s : St W (Own 51 7 e.A e.l.length e.c (dvs (e.l.set p x2)) :: Rest 51 fs k :: Kn (fun w => Reads w 2 x.A x.t.rows.length (rws x.t.rows) → Reads w 2 x2.A x2.t.rows.length (rws x2.t.rows)) :: .blk g11 [.int .i64 x.t.op, .string (str x.t.key), .string (str x.t.val), .string (str x.t.frm), .string (str x.t.to), .bool x.t.is, .slice x.A x.t.rows.length x.c] 51 :: Own 27 4 (some ac) ds.length c10 (nvs fs) :: Kn (fun w => DonesIn B4 ds6 w → DonesIn C7 es w) :: Own 80 4 B4 ds.length c5 (nvs ds6) :: Inn 81 ds6 :: L) w := s
                  rw [show e.l.length = (e.l.set p x2).length from (List.length_set).symm] at s
                  replace s := Inn.close he (e.l.set p x2) s
                  rw [← nvs_set he (l := e.l.set p x2) List.length_set] at s
                  replace s : St W (Inn 51 (fs.set k { e with l := e.l.set p x2 }) :: Kn (fun w => Reads w 2 x.A x.t.rows.length (rws x.t.rows) → Reads w 2 x2.A x2.t.rows.length (rws x2.t.rows)) :: .blk g11 [.int .i64 x.t.op, .string (str x.t.key), .string (str x.t.val), .string (str x.t.frm), .string (str x.t.to), .bool x.t.is, .slice x.A x.t.rows.length x.c] 51 :: Own 27 4 (some ac) ds.length c10 (nvs (fs.set k { e with l := e.l.set p x2 })) :: Kn (fun w => DonesIn B4 ds6 w → DonesIn C7 es w) :: Own 80 4 B4 ds.length c5 (nvs ds6) :: Inn 81 ds6 :: L) w := s
                  have hzt : tns (fs.set k { e with l := e.l.set p x2 }) = setT (tns fs) k p x2.t := set_tns he x2
                  have hop2 : x2.t.op = x.t.op := by rw [hx2]; exact spoil_op _ _
                  have hz0 : code (tns (fs.set k { e with l := e.l.set p x2 })) = 0 := by rw [hzt]; exact setT_code hf0 htl hxt hop2
                  have hzo : IsOrd (tns (fs.set k { e with l := e.l.set p x2 })) o3 := by rw [hzt]; exact setT_ord hfo htl
                  have hzq : first [] (things (tns (fs.set k { e with l := e.l.set p x2 })) o3) = some (k, p) := by rw [hzt]; exact found_spoilt hfo hfq htl hxt (fun R hR => by rw [hx2]; exact spoil_bad hop R hR)
                  have hzb : Bn (fs.set k { e with l := e.l.set p x2 }) := set_bn hfb he hx (by rw [hx2]; exact spoil_rows2 hxb.1 hr2 hop) (by rw [hx2]; exact spoil_key _ _)
                  refine st_call ha (by kernel_rfl) (by kernel_rfl) (finds_n W hW _ w (some ac) c10 ds.length (fs.set k { e with l := e.l.set p x2 }) (by rw [List.length_set]; exact hfl) (set_knows (i := 3) (j := 0) (e1 := 27) (e2 := 51) rfl hfl rfl (kn_mp (j := 4) rfl (nest_knows (i := 5) (j := 6) (e1 := 80) (e2 := 81) (by rw [hds6l]; rfl) rfl (fun w s => hr w s.tail.tail.tail.tail.tail.tail.tail) hds6)) hcf he (kn_mp (j := 1) rfl (row_knows (kn_mp (j := 4) rfl (nest_knows (i := 5) (j := 6) (e1 := 80) (e2 := 81) (by rw [hds6l]; rfl) rfl (fun w s => hr w s.tail.tail.tail.tail.tail.tail.tail) hds6)) hcf he hx))) hzb _ _ true hz0 hzo (found_at hzq) s) ?_
                  rintro _ w ⟨rfl, s⟩
                  replace s : St W (Inn 51 (fs.set k { e with l := e.l.set p x2 }) :: Kn (fun w => Reads w 2 x.A x.t.rows.length (rws x.t.rows) → Reads w 2 x2.A x2.t.rows.length (rws x2.t.rows)) :: .blk g11 [.int .i64 x.t.op, .string (str x.t.key), .string (str x.t.val), .string (str x.t.frm), .string (str x.t.to), .bool x.t.is, .slice x.A x.t.rows.length x.c] 51 :: Own 27 4 (some ac) ds.length c10 (nvs (fs.set k { e with l := e.l.set p x2 })) :: Kn (fun w => DonesIn B4 ds6 w → DonesIn C7 es w) :: Own 80 4 B4 ds.length c5 (nvs ds6) :: Inn 81 ds6 :: L) w := s
                  refine ⟨_, rfl, ?_⟩; clear ha; intro a ha
                  refine st_val (.bool true) ha (by kernel_rfl) (by kernel_rfl) ?_
                  clear ha; intro a ha
                  refine wpList_nil ?_
                  refine then_normal ?_
                  refine wp_ret ?_
                  refine block_ret ?_
                  refine then_ret ?_
                  refine then_ret ?_
                  refine block_ret ?_
                  refine then_ret ?_
                  refine ret_with (v := .bool true) ha (results_1 rfl ha (res_tmp (by kernel_rfl) (by kernel_rfl))) ?_
                  replace s := s.tail.tail.tail.tail.tail.tail.tail
                  replace s : St W (L) w := s
                  exact ⟨rfl, s⟩
  · skip
    refine st_call ha (by kernel_rfl) (by kernel_rfl) (order_no W _ w A ca ds (fun w s => hr w s) hn h0 s) ?_
    rintro _ w ⟨rfl, s⟩
    replace s : St W (L) w := s
    refine ⟨_, rfl, ?_⟩; clear ha; intro a ha
    refine st_val (.tuple #[.slice none 0 0, .int .i64 (code (tns ds))]) ha (by kernel_rfl) (by kernel_rfl) ?_
    clear ha; intro a ha
    refine st_val (.slice none 0 0) ha (by kernel_rfl) (by kernel_rfl) ?_
    clear ha; intro a ha
    refine st_val (.int .i64 (code (tns ds))) ha (by kernel_rfl) (by kernel_rfl) ?_
    clear ha; intro a ha
    refine st_val (.slice none 0 0) ha (by kernel_rfl) (by kernel_rfl) ?_
    clear ha; intro a ha
    refine st_val (.int .i64 (code (tns ds))) ha (by kernel_rfl) (by kernel_rfl) ?_
    clear ha; intro a ha
    refine wpList_nil ?_
    refine then_normal ?_
    refine wp_seq ?_
    refine wp_seq ?_
    refine wp_region_lit ?_
    refine st_val (.slice A ds.length ca) ha (by kernel_rfl) (by kernel_rfl) ?_
    clear ha; intro a ha
    refine st_call ha (by kernel_rfl) (by kernel_rfl) (few_any W _ w A ca ds (fun w s => hr w s) hn s) ?_
    rintro _ w ⟨rfl, s⟩
    replace s : St W (L) w := s
    refine ⟨_, rfl, ?_⟩; clear ha; intro a ha
    refine st_val (.bool (!(small (tns ds)))) ha (by kernel_rfl) (by kernel_rfl) ?_
    clear ha; intro a ha
    refine st_val (.bool (!(small (tns ds)))) ha (by kernel_rfl) (by kernel_rfl) ?_
    clear ha; intro a ha
    rcases Bool.eq_false_or_eq_true (!(small (tns ds))) with hb | hb
    · rw [hb] at ha; skip
      have hsb := hb
      refine st_pass ha (by kernel_rfl) ?_
      clear ha; intro a ha
      refine st_pass ha (by kernel_rfl) ?_
      clear ha; intro a ha
      refine st_val (.bool true) ha (by kernel_rfl) (by kernel_rfl) ?_
      clear ha; intro a ha
      refine wpList_nil ?_
      refine then_normal ?_
      refine wp_true ha rfl (by kernel_rfl) ?_
      refine wp_seq ?_
      refine wp_region_lit ?_
      refine st_val (.slice A ds.length ca) ha (by kernel_rfl) (by kernel_rfl) ?_
      clear ha; intro a ha
      refine st_call ha (by kernel_rfl) (by kernel_rfl) (few_any W _ w A ca ds (fun w s => hr w s) hn s) ?_
      rintro _ w ⟨rfl, s⟩
      replace s : St W (L) w := s
      refine ⟨_, rfl, ?_⟩; clear ha; intro a ha
      refine st_val (.bool true) ha (by kernel_rfl) (run_known (show (!(small (tns ds))) = true from by first | exact hsb | simpa using hsb) (by kernel_rfl)) ?_
      clear ha; intro a ha
      refine st_val (.bool true) ha (by kernel_rfl) (by kernel_rfl) ?_
      clear ha; intro a ha
      refine st_pass ha (by kernel_rfl) ?_
      clear ha; intro a ha
      refine st_pass ha (by kernel_rfl) ?_
      clear ha; intro a ha
      refine st_val (.bool true) ha (by kernel_rfl) (by kernel_rfl) ?_
      clear ha; intro a ha
      refine st_val (.bool true) ha (by kernel_rfl) (by kernel_rfl) ?_
      clear ha; intro a ha
      refine wpList_nil ?_
      refine then_normal ?_
      refine wp_ret ?_
      refine then_ret ?_
      refine ret_with (v := .bool true) ha (results_1 rfl ha (res_tmp (by kernel_rfl) (by kernel_rfl))) ?_
      exact ⟨rfl, s⟩
    · rw [hb] at ha; skip
      have hsb := hb
      have hsm := small_few (ds := tns ds) (by simpa using hb)
      rw [List.length_map] at hsm
      have hsl : ∀ d ∈ ds, d.l.length ≤ 1000000 := fun d hd => by have := le_many2 hd hsm.2; omega
      refine st_val (.int .i64 (code (tns ds))) ha (by kernel_rfl) (by kernel_rfl) ?_
      clear ha; intro a ha
      refine st_val (.bool true) ha (by kernel_rfl) (run_known (show ((code (tns ds)) != (0 : Int)) = true from bne_iff_ne.2 (by omega)) (by kernel_rfl)) ?_
      clear ha; intro a ha
      refine st_val (.bool true) ha (by kernel_rfl) (by kernel_rfl) ?_
      clear ha; intro a ha
      refine wpList_nil ?_
      refine then_normal ?_
      refine wp_true ha rfl (by kernel_rfl) ?_
      refine wp_seq ?_
      refine wp_region_lit ?_
      refine st_val (.slice A ds.length ca) ha (by kernel_rfl) (by kernel_rfl) ?_
      clear ha; intro a ha
      refine st_call ha (by kernel_rfl) (by kernel_rfl) (few_any W _ w A ca ds (fun w s => hr w s) hn s) ?_
      rintro _ w ⟨rfl, s⟩
      replace s : St W (L) w := s
      refine ⟨_, rfl, ?_⟩; clear ha; intro a ha
      refine st_val (.bool false) ha (by kernel_rfl) (run_known (show (!(small (tns ds))) = false from by first | exact hsb | simpa using hsb) (by kernel_rfl)) ?_
      clear ha; intro a ha
      refine st_val (.bool false) ha (by kernel_rfl) (by kernel_rfl) ?_
      clear ha; intro a ha
      refine st_val (.int .i64 (code (tns ds))) ha (by kernel_rfl) (by kernel_rfl) ?_
      clear ha; intro a ha
      refine st_val (.bool true) ha (by kernel_rfl) (run_known (show ((code (tns ds)) != (0 : Int)) = true from bne_iff_ne.2 (by omega)) (by kernel_rfl)) ?_
      clear ha; intro a ha
      refine st_val (.bool true) ha (by kernel_rfl) (by kernel_rfl) ?_
      clear ha; intro a ha
      refine st_val (.bool true) ha (by kernel_rfl) (by kernel_rfl) ?_
      clear ha; intro a ha
      refine wpList_nil ?_
      refine then_normal ?_
      refine wp_ret ?_
      refine then_ret ?_
      refine ret_with (v := .bool true) ha (results_1 rfl ha (res_tmp (by kernel_rfl) (by kernel_rfl))) ?_
      exact ⟨rfl, s⟩

end Go.Proofs.Ytidfniglnmfphaa.B
