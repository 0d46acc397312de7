import Derived.Test.YtcnlidaacgcdhaaB7
namespace Go.Proofs.Ytcnlidaacgcdhaa.B
open Go.RowKit Go.Proofs.Ytcnlidaacgcdhaa.Sep Go.Proofs.Ytcnlidaacgcdhaa.P
set_option linter.unusedVariables false
set_option linter.unusedSimpArgs false
theorem cnt_append (l m : List Span) (k : K) : cnt (l ++ m) k = cnt l k + cnt m k := by simp [cnt]
section
variable {la lb x y z u v t : List Span}
theorem parts_all (hcx : Canon x (fun k => decide (0 < cnt la k))) (hcy : Canon y (fun k => decide (0 < cnt la k) && decide (0 < cnt lb k))) (hcz : Canon z (fun k => decide (0 < cnt la k) && decide (cnt lb k = 0))) (hcu : Canon u (fun k => decide (0 < cnt (y ++ z) k))) : u = x := by
  refine Canon.unique (hcu.congr fun k => ?_) hcx
  have h1 := canon_self hcy k
  have h2 := canon_self hcz k
  simp only [cnt_append]
  by_cases a : 0 < cnt la k <;> by_cases b : 0 < cnt lb k <;> simp [a, b] at h1 h2 ⊢ <;> omega
theorem parts_none (hcy : Canon y (fun k => decide (0 < cnt la k) && decide (0 < cnt lb k))) (hcz : Canon z (fun k => decide (0 < cnt la k) && decide (cnt lb k = 0))) (hcv : Canon v (fun k => decide (0 < cnt y k) && decide (0 < cnt z k))) : v = [] := by
  refine Canon.unique hcv ⟨fun k => ?_, List.Pairwise.nil, by simp⟩
  have h1 := canon_self hcy k
  have h2 := canon_self hcz k
  by_cases a : 0 < cnt la k <;> by_cases b : 0 < cnt lb k <;> simp [a, b] at h1 h2 ⊢ <;> omega
theorem parts_back (hcy : Canon y (fun k => decide (0 < cnt la k) && decide (0 < cnt lb k))) (hct : Canon t (fun k => decide (0 < cnt lb k) && decide (0 < cnt la k))) : t = y :=
  Canon.unique (hct.congr fun k => Bool.and_comm _ _) hcy
end

theorem spansParts_any (W : World) (L : List Chunk) (w : World) (A B : Option Addr) (n m ca cb : Nat) (la lb : List Span) (hra : Knows L fun w => Reads w 2 A n (sps la)) (hrb : Knows L fun w => Reads w 2 B m (sps lb)) (han : la.length = n) (hbm : lb.length = m) (hn : n ≤ 140737488351232) (hm : m ≤ 140737488351232) (s : St W L w) :
    Calls Try.prog 4 #[.slice A n ca, .slice B m cb] w fun e w' => e = .returned (.bool true) ∧ St W L w' := by
  refine enter_args (l := [.slice A n ca, .slice B m cb]) Try.func4 rfl rfl (Nat.le_of_ble_eq_true rfl) ?_
  intro a ha; replace ha : Has a 109 [(0, .slice A n ca), (1, .slice B m cb)] := ha
  refine wp_seq ?_
  refine wp_region_lit ?_
  refine st_val (.bool false) ha (by kernel_rfl) (by kernel_rfl) ?_
  clear ha; intro a ha
  refine wpList_nil ?_
  refine then_normal ?_
  refine wp_seq ?_
  refine wp_seq ?_
  refine wp_region_lit ?_
  refine st_call ha (by kernel_rfl) (by kernel_rfl) (works_true W _ w s) ?_
  rintro _ w ⟨rfl, s⟩
  replace s : St W (L) w := s
  refine ⟨_, rfl, ?_⟩; clear ha; intro a ha
  refine st_val (.bool false) ha (by kernel_rfl) (by kernel_rfl) ?_
  clear ha; intro a ha
  refine wpList_nil ?_
  refine then_normal ?_
  refine wp_false ha rfl (by kernel_rfl) ?_
  refine wp_skip ?_
  refine then_normal ?_
  refine wp_seq ?_
  refine wp_seq ?_
  refine wp_region_lit ?_
  refine st_val (.slice A n ca) ha (by kernel_rfl) (by kernel_rfl) ?_
  clear ha; intro a ha
  refine st_call ha (by kernel_rfl) (by kernel_rfl) (may_any W _ w A n ca la (fun w s => hra w (Sat.drops (A := []) s)) han hn s) ?_
  rintro _ w ⟨bn, rfl, hmayn, s⟩
  replace s : St W (L) w := s
  refine ⟨_, rfl, ?_⟩; clear ha; intro a ha
  refine st_val (.bool (!bn)) ha (by kernel_rfl) (by kernel_rfl) ?_
  clear ha; intro a ha
  refine st_val (.bool (!bn)) ha (by kernel_rfl) (by kernel_rfl) ?_
  clear ha; intro a ha
  rcases Bool.eq_false_or_eq_true (!bn) with hb | hb
  · rw [hb] at ha; skip
    refine st_pass ha (by kernel_rfl) ?_
    clear ha; intro a ha
    refine st_pass ha (by kernel_rfl) ?_
    clear ha; intro a ha
    refine st_pass ha (by kernel_rfl) ?_
    clear ha; intro a ha
    refine st_val (.bool true) ha (by kernel_rfl) (by kernel_rfl) ?_
    clear ha; intro a ha
    refine wpList_nil ?_
    refine then_normal ?_
    refine wp_true ha rfl (by kernel_rfl) ?_
    refine wp_seq ?_
    refine wp_region_lit ?_
    refine st_val (.bool true) ha (by kernel_rfl) (by kernel_rfl) ?_
    clear ha; intro a ha
    refine wpList_nil ?_
    refine then_normal ?_
    refine wp_ret ?_
    refine then_ret ?_
    refine ret_with (v := .bool true) ha (results_1 rfl ha (res_tmp (by kernel_rfl) (by kernel_rfl))) ?_
    exact ⟨rfl, s⟩
  · rw [hb] at ha; skip
    obtain ⟨hn3, hoka⟩ := hmayn (by simpa using hb)
    refine st_val (.slice B m cb) ha (by kernel_rfl) (by kernel_rfl) ?_
    clear ha; intro a ha
    refine st_call ha (by kernel_rfl) (by kernel_rfl) (may_any W _ w B m cb lb (fun w s => hrb w (Sat.drops (A := []) s)) hbm hm s) ?_
    rintro _ w ⟨bm, rfl, hmaym, s⟩
    replace s : St W (L) w := s
    refine ⟨_, rfl, ?_⟩; clear ha; intro a ha
    refine st_val (.bool (!bm)) ha (by kernel_rfl) (by kernel_rfl) ?_
    clear ha; intro a ha
    refine st_val (.bool (!bm)) ha (by kernel_rfl) (by kernel_rfl) ?_
    clear ha; intro a ha
    refine wpList_nil ?_
    refine then_normal ?_
    refine wp_part (!bm) ha rfl (by kernel_rfl) (fun hb => ?_) (fun hb => ?_)
    · rw [hb] at ha; skip
      refine wp_seq ?_
      refine wp_region_lit ?_
      refine st_val (.bool true) ha (by kernel_rfl) (by kernel_rfl) ?_
      clear ha; intro a ha
      refine wpList_nil ?_
      refine then_normal ?_
      refine wp_ret ?_
      refine then_ret ?_
      refine ret_with (v := .bool true) ha (results_1 rfl ha (res_tmp (by kernel_rfl) (by kernel_rfl))) ?_
      exact ⟨rfl, s⟩
    · rw [hb] at ha; skip
      obtain ⟨hm3, hokb⟩ := hmaym (by simpa using hb)
      refine wp_skip ?_
      refine then_normal ?_
      refine wp_seq ?_
      refine wp_region_lit ?_
      refine st_val (.slice A n ca) ha (by kernel_rfl) (by kernel_rfl) ?_
      clear ha; intro a ha
      refine st_call ha (by kernel_rfl) (by kernel_rfl) (join_ok W _ w A n ca la (fun w s => hra w (Sat.drops (A := []) s)) han hoka (by omega) s) ?_
      rintro _ w ⟨A1, c2, x, rfl, hcx, hsx, hlx, s⟩
      replace s : St W (Own 29 2 A1 x.length c2 (sps x) :: L) w := s
      refine ⟨_, rfl, ?_⟩; clear ha; intro a ha
      refine st_val (.tuple #[.slice A1 x.length c2, .int .i64 0]) ha (by kernel_rfl) (by kernel_rfl) ?_
      clear ha; intro a ha
      refine st_val (.slice A1 x.length c2) ha (by kernel_rfl) (by kernel_rfl) ?_
      clear ha; intro a ha
      refine st_val (.int .i64 0) ha (by kernel_rfl) (by kernel_rfl) ?_
      clear ha; intro a ha
      refine st_val (.slice A1 x.length c2) ha (by kernel_rfl) (by kernel_rfl) ?_
      clear ha; intro a ha
      refine st_val (.int .i64 0) ha (by kernel_rfl) (by kernel_rfl) ?_
      clear ha; intro a ha
      refine wpList_nil ?_
      refine then_normal ?_
      refine wp_seq ?_
      refine wp_region_lit ?_
      refine st_val (.slice A n ca) ha (by kernel_rfl) (by kernel_rfl) ?_
      clear ha; intro a ha
      refine st_val (.slice B m cb) ha (by kernel_rfl) (by kernel_rfl) ?_
      clear ha; intro a ha
      refine st_call ha (by kernel_rfl) (by kernel_rfl) (both_ok W _ w A B n m ca cb la lb (fun w s => hra w (Sat.drops (A := [Own 29 2 A1 x.length c2 (sps x)]) s)) (fun w s => hrb w (Sat.drops (A := [Own 29 2 A1 x.length c2 (sps x)]) s)) han hbm hoka hokb (by omega) (by omega) s) ?_
      rintro _ w ⟨A3, c4, y, rfl, hcy, hsy, hly, s⟩
      replace s : St W (Own 29 2 A3 y.length c4 (sps y) :: Own 29 2 A1 x.length c2 (sps x) :: L) w := s
      refine ⟨_, rfl, ?_⟩; clear ha; intro a ha
      refine st_val (.tuple #[.slice A3 y.length c4, .int .i64 0]) ha (by kernel_rfl) (by kernel_rfl) ?_
      clear ha; intro a ha
      refine st_val (.slice A3 y.length c4) ha (by kernel_rfl) (by kernel_rfl) ?_
      clear ha; intro a ha
      refine st_val (.int .i64 0) ha (by kernel_rfl) (by kernel_rfl) ?_
      clear ha; intro a ha
      refine st_val (.slice A3 y.length c4) ha (by kernel_rfl) (by kernel_rfl) ?_
      clear ha; intro a ha
      refine st_val (.int .i64 0) ha (by kernel_rfl) (by kernel_rfl) ?_
      clear ha; intro a ha
      refine wpList_nil ?_
      refine then_normal ?_
      refine wp_seq ?_
      refine wp_region_lit ?_
      refine st_val (.slice A n ca) ha (by kernel_rfl) (by kernel_rfl) ?_
      clear ha; intro a ha
      refine st_val (.slice B m cb) ha (by kernel_rfl) (by kernel_rfl) ?_
      clear ha; intro a ha
      refine st_call ha (by kernel_rfl) (by kernel_rfl) (less_ok W _ w A B n m ca cb la lb (fun w s => hra w (Sat.drops (A := [Own 29 2 A3 y.length c4 (sps y), Own 29 2 A1 x.length c2 (sps x)]) s)) (fun w s => hrb w (Sat.drops (A := [Own 29 2 A3 y.length c4 (sps y), Own 29 2 A1 x.length c2 (sps x)]) s)) han hbm hoka hokb (by omega) (by omega) s) ?_
      rintro _ w ⟨A5, c6, z, rfl, hcz, hsz, hlz, s⟩
      replace s : St W (Own 29 2 A5 z.length c6 (sps z) :: Own 29 2 A3 y.length c4 (sps y) :: Own 29 2 A1 x.length c2 (sps x) :: L) w := s
      refine ⟨_, rfl, ?_⟩; clear ha; intro a ha
      refine st_val (.tuple #[.slice A5 z.length c6, .int .i64 0]) ha (by kernel_rfl) (by kernel_rfl) ?_
      clear ha; intro a ha
      refine st_val (.slice A5 z.length c6) ha (by kernel_rfl) (by kernel_rfl) ?_
      clear ha; intro a ha
      refine st_val (.int .i64 0) ha (by kernel_rfl) (by kernel_rfl) ?_
      clear ha; intro a ha
      refine st_val (.slice A5 z.length c6) ha (by kernel_rfl) (by kernel_rfl) ?_
      clear ha; intro a ha
      refine st_val (.int .i64 0) ha (by kernel_rfl) (by kernel_rfl) ?_
      clear ha; intro a ha
      refine wpList_nil ?_
      refine then_normal ?_
      refine wp_seq ?_
      refine wp_seq ?_
      refine wp_region_lit ?_
      refine st_val (.int .i64 0) ha (by kernel_rfl) (by kernel_rfl) ?_
      clear ha; intro a ha
      refine st_val (.bool false) ha (by kernel_rfl) (by kernel_rfl) ?_
      clear ha; intro a ha
      refine st_val (.bool false) ha (by kernel_rfl) (by kernel_rfl) ?_
      clear ha; intro a ha
      refine st_val (.int .i64 0) ha (by kernel_rfl) (by kernel_rfl) ?_
      clear ha; intro a ha
      refine st_val (.bool false) ha (by kernel_rfl) (by kernel_rfl) ?_
      clear ha; intro a ha
      refine st_val (.bool false) ha (by kernel_rfl) (by kernel_rfl) ?_
      clear ha; intro a ha
      refine st_val (.bool false) ha (by kernel_rfl) (by kernel_rfl) ?_
      clear ha; intro a ha
      refine st_val (.slice A3 y.length c4) ha (by kernel_rfl) (by kernel_rfl) ?_
      clear ha; intro a ha
      refine st_val (.int .i64 ((y.length : Nat) : Int)) ha (by kernel_rfl) (by kernel_rfl) ?_
      clear ha; intro a ha
      refine st_val (.slice A5 z.length c6) ha (by kernel_rfl) (by kernel_rfl) ?_
      clear ha; intro a ha
      refine st_val (.int .i64 ((z.length : Nat) : Int)) ha (by kernel_rfl) (by kernel_rfl) ?_
      clear ha; intro a ha
      refine st_val (.int .i64 ((y.length + z.length : Nat) : Int)) ha (by kernel_rfl) (run_arith (((y.length : Nat) : Int) + ((z.length : Nat) : Int)) ((y.length + z.length : Nat) : Int) rfl (by kernel_rfl) (by kernel_rfl) (.inl ⟨rfl, rfl⟩) (by rw [wrap64_in (by omega)]; try omega) _) ?_
      clear ha; intro a ha
      refine st_val (.bool (decide (((y.length + z.length : Nat) : Int) > (1000 : Int)))) ha (by kernel_rfl) (by kernel_rfl) ?_
      clear ha; intro a ha
      refine st_val (.bool (decide (((y.length + z.length : Nat) : Int) > (1000 : Int)))) ha (by kernel_rfl) (by kernel_rfl) ?_
      clear ha; intro a ha
      refine wpList_nil ?_
      refine then_normal ?_
      refine wp_part (decide (((y.length + z.length : Nat) : Int) > (1000 : Int))) ha rfl (by kernel_rfl) (fun hb => ?_) (fun hb => ?_)
      · rw [hb] at ha; replace hb : (((y.length + z.length : Nat) : Int) > (1000 : Int)) := of_decide_eq_true hb
        refine wp_seq ?_
        refine wp_region_lit ?_
        refine st_val (.int .i64 0) ha (by kernel_rfl) (by kernel_rfl) ?_
        clear ha; intro a ha
        refine st_val (.bool true) ha (by kernel_rfl) (by kernel_rfl) ?_
        clear ha; intro a ha
        refine st_val (.bool true) ha (by kernel_rfl) (by kernel_rfl) ?_
        clear ha; intro a ha
        refine st_val (.int .i64 0) ha (by kernel_rfl) (by kernel_rfl) ?_
        clear ha; intro a ha
        refine st_val (.bool true) ha (by kernel_rfl) (by kernel_rfl) ?_
        clear ha; intro a ha
        refine st_val (.bool true) ha (by kernel_rfl) (by kernel_rfl) ?_
        clear ha; intro a ha
        refine st_val (.bool true) ha (by kernel_rfl) (by kernel_rfl) ?_
        clear ha; intro a ha
        refine wpList_nil ?_
        refine then_normal ?_
        refine wp_ret ?_
        refine then_ret ?_
        refine ret_with (v := .bool true) ha (results_1 rfl ha (res_tmp (by kernel_rfl) (by kernel_rfl))) ?_
        replace s := s.tail.tail.tail
        replace s : St W (L) w := s
        exact ⟨rfl, s⟩
      · rw [hb] at ha; replace hb : ¬ (((y.length + z.length : Nat) : Int) > (1000 : Int)) := of_decide_eq_false hb
        refine wp_skip ?_
        refine then_normal ?_
        refine wp_seq ?_
        refine wp_region_lit ?_
        refine st_val (.slice A3 y.length c4) ha (by kernel_rfl) (by kernel_rfl) ?_
        clear ha; intro a ha
        replace s := Own.none_ (e := 29) (k := 2) none s
        replace s : St W (Own 29 2 none 0 0 [] :: Own 29 2 A5 z.length c6 (sps z) :: Own 29 2 A3 y.length c4 (sps y) :: Own 29 2 A1 x.length c2 (sps x) :: L) w := s
        refine st_ex ha (by kernel_rfl) (ex_append (m := y.length) (d' := c4) elt22 (by decide) 0 (sps y) s rfl (by kernel_rfl) (by kernel_rfl) rfl ((Knows.own (j := 2) rfl) _ s.sat) (sps_one y) (by simp only [maxLen]; omega) (by omega)) ?_
        clear ha; rintro _ w a ⟨A7, c8, rfl, hA_, s⟩ ha
        replace s : St W (Own 29 2 A7 (0 + y.length) c8 ([] ++ (sps y)) :: Own 29 2 A5 z.length c6 (sps z) :: Own 29 2 A3 y.length c4 (sps y) :: Own 29 2 A1 x.length c2 (sps x) :: L) w := s
        refine st_val (.slice A5 z.length c6) ha (by kernel_rfl) (by kernel_rfl) ?_
        clear ha; intro a ha
        refine st_ex ha (by kernel_rfl) (ex_append (m := z.length) (d' := c6) elt22 (by decide) 0 (sps z) s rfl (by kernel_rfl) (by kernel_rfl) rfl ((Knows.own (j := 1) rfl) _ s.sat) (sps_one z) (by simp only [maxLen]; omega) (by omega)) ?_
        clear ha; rintro _ w a ⟨A9, c10, rfl, hA_, s⟩ ha
        replace s : St W (Own 29 2 A9 (0 + y.length + z.length) c10 (([] ++ (sps y)) ++ (sps z)) :: Own 29 2 A5 z.length c6 (sps z) :: Own 29 2 A3 y.length c4 (sps y) :: Own 29 2 A1 x.length c2 (sps x) :: L) w := s
        replace s : St W (Own 29 2 A9 (0 + y.length + z.length) c10 (sps (y ++ z)) :: Own 29 2 A5 z.length c6 (sps z) :: Own 29 2 A3 y.length c4 (sps y) :: Own 29 2 A1 x.length c2 (sps x) :: L) w := by rw [sps_append]; exact s
        replace s : St W (Own 29 2 A9 (0 + y.length + z.length) c10 (sps (y ++ z)) :: Own 29 2 A5 z.length c6 (sps z) :: Own 29 2 A3 y.length c4 (sps y) :: Own 29 2 A1 x.length c2 (sps x) :: L) w := s
        refine st_call ha (by kernel_rfl) (by kernel_rfl) (join_ok W _ w A9 (0 + y.length + z.length) c10 (y ++ z) (Knows.own (j := 0) rfl) (by rw [List.length_append]; omega) (fun s h => (List.mem_append.1 h).elim (canon_chk hcy hsy s) (canon_chk hcz hsz s)) (by omega) s) ?_
        rintro _ w ⟨A11, c12, u, rfl, hcu, hsu, hlu, s⟩
        replace s : St W (Own 29 2 A11 u.length c12 (sps u) :: Own 29 2 A9 (0 + y.length + z.length) c10 (sps (y ++ z)) :: Own 29 2 A5 z.length c6 (sps z) :: Own 29 2 A3 y.length c4 (sps y) :: Own 29 2 A1 x.length c2 (sps x) :: L) w := s
        refine ⟨_, rfl, ?_⟩; clear ha; intro a ha
        refine st_val (.tuple #[.slice A11 u.length c12, .int .i64 0]) ha (by kernel_rfl) (by kernel_rfl) ?_
        clear ha; intro a ha
        refine st_val (.slice A11 u.length c12) ha (by kernel_rfl) (by kernel_rfl) ?_
        clear ha; intro a ha
        refine st_val (.int .i64 0) ha (by kernel_rfl) (by kernel_rfl) ?_
        clear ha; intro a ha
        refine st_val (.slice A11 u.length c12) ha (by kernel_rfl) (by kernel_rfl) ?_
        clear ha; intro a ha
        refine st_val (.int .i64 0) ha (by kernel_rfl) (by kernel_rfl) ?_
        clear ha; intro a ha
        refine wpList_nil ?_
        refine then_normal ?_
        refine wp_seq ?_
        refine wp_region_lit ?_
        refine st_val (.slice A3 y.length c4) ha (by kernel_rfl) (by kernel_rfl) ?_
        clear ha; intro a ha
        refine st_val (.slice A5 z.length c6) ha (by kernel_rfl) (by kernel_rfl) ?_
        clear ha; intro a ha
        refine st_call ha (by kernel_rfl) (by kernel_rfl) (both_ok W _ w A3 A5 y.length z.length c4 c6 y z (Knows.own (j := 3) rfl) (Knows.own (j := 2) rfl) rfl rfl (canon_chk hcy hsy) (canon_chk hcz hsz) (by omega) (by omega) s) ?_
        rintro _ w ⟨A13, c14, v, rfl, hcv, hsv, hlv, s⟩
        obtain rfl := parts_none hcy hcz hcv
        replace s : St W (Own 29 2 A13 0 c14 (sps []) :: Own 29 2 A11 u.length c12 (sps u) :: Own 29 2 A9 (0 + y.length + z.length) c10 (sps (y ++ z)) :: Own 29 2 A5 z.length c6 (sps z) :: Own 29 2 A3 y.length c4 (sps y) :: Own 29 2 A1 x.length c2 (sps x) :: L) w := s
        refine ⟨_, rfl, ?_⟩; clear ha; intro a ha
        refine st_val (.tuple #[.slice A13 0 c14, .int .i64 0]) ha (by kernel_rfl) (by kernel_rfl) ?_
        clear ha; intro a ha
        refine st_val (.slice A13 0 c14) ha (by kernel_rfl) (by kernel_rfl) ?_
        clear ha; intro a ha
        refine st_val (.int .i64 0) ha (by kernel_rfl) (by kernel_rfl) ?_
        clear ha; intro a ha
        refine st_val (.slice A13 0 c14) ha (by kernel_rfl) (by kernel_rfl) ?_
        clear ha; intro a ha
        refine st_val (.int .i64 0) ha (by kernel_rfl) (by kernel_rfl) ?_
        clear ha; intro a ha
        refine wpList_nil ?_
        refine then_normal ?_
        refine wp_seq ?_
        refine wp_region_lit ?_
        refine st_val (.slice B m cb) ha (by kernel_rfl) (by kernel_rfl) ?_
        clear ha; intro a ha
        refine st_val (.slice A n ca) ha (by kernel_rfl) (by kernel_rfl) ?_
        clear ha; intro a ha
        refine st_call ha (by kernel_rfl) (by kernel_rfl) (both_ok W _ w B A m n cb ca lb la (fun w s => hrb w (Sat.drops (A := [Own 29 2 A13 0 c14 (sps []), Own 29 2 A11 u.length c12 (sps u), Own 29 2 A9 (0 + y.length + z.length) c10 (sps (y ++ z)), Own 29 2 A5 z.length c6 (sps z), Own 29 2 A3 y.length c4 (sps y), Own 29 2 A1 x.length c2 (sps x)]) s)) (fun w s => hra w (Sat.drops (A := [Own 29 2 A13 0 c14 (sps []), Own 29 2 A11 u.length c12 (sps u), Own 29 2 A9 (0 + y.length + z.length) c10 (sps (y ++ z)), Own 29 2 A5 z.length c6 (sps z), Own 29 2 A3 y.length c4 (sps y), Own 29 2 A1 x.length c2 (sps x)]) s)) hbm han hokb hoka (by omega) (by omega) s) ?_
        rintro _ w ⟨A15, c16, t, rfl, hct, hst, hlt, s⟩
        replace s : St W (Own 29 2 A15 t.length c16 (sps t) :: Own 29 2 A13 0 c14 (sps []) :: Own 29 2 A11 u.length c12 (sps u) :: Own 29 2 A9 (0 + y.length + z.length) c10 (sps (y ++ z)) :: Own 29 2 A5 z.length c6 (sps z) :: Own 29 2 A3 y.length c4 (sps y) :: Own 29 2 A1 x.length c2 (sps x) :: L) w := s
        refine ⟨_, rfl, ?_⟩; clear ha; intro a ha
        refine st_val (.tuple #[.slice A15 t.length c16, .int .i64 0]) ha (by kernel_rfl) (by kernel_rfl) ?_
        clear ha; intro a ha
        refine st_val (.slice A15 t.length c16) ha (by kernel_rfl) (by kernel_rfl) ?_
        clear ha; intro a ha
        refine st_val (.int .i64 0) ha (by kernel_rfl) (by kernel_rfl) ?_
        clear ha; intro a ha
        refine st_val (.slice A15 t.length c16) ha (by kernel_rfl) (by kernel_rfl) ?_
        clear ha; intro a ha
        refine st_val (.int .i64 0) ha (by kernel_rfl) (by kernel_rfl) ?_
        clear ha; intro a ha
        refine wpList_nil ?_
        refine then_normal ?_
        refine wp_seq ?_
        refine wp_region_lit ?_
        refine st_val (.int .i64 0) ha (by kernel_rfl) (by kernel_rfl) ?_
        clear ha; intro a ha
        refine st_val (.bool true) ha (by kernel_rfl) (by kernel_rfl) ?_
        clear ha; intro a ha
        refine st_val (.bool true) ha (by kernel_rfl) (by kernel_rfl) ?_
        clear ha; intro a ha
        refine st_val (.slice A11 u.length c12) ha (by kernel_rfl) (by kernel_rfl) ?_
        clear ha; intro a ha
        refine st_val (.slice A1 x.length c2) ha (by kernel_rfl) (by kernel_rfl) ?_
        clear ha; intro a ha
        refine st_call ha (by kernel_rfl) (by kernel_rfl) (same_is W _ w A11 A1 u.length x.length c12 c2 u x (parts_all hcx hcy hcz hcu) (Knows.own (j := 2) rfl) (Knows.own (j := 6) rfl) rfl rfl (by omega) s) ?_
        rintro _ w ⟨rfl, s⟩
        replace s : St W (Own 29 2 A15 t.length c16 (sps t) :: Own 29 2 A13 0 c14 (sps []) :: Own 29 2 A11 u.length c12 (sps u) :: Own 29 2 A9 (0 + y.length + z.length) c10 (sps (y ++ z)) :: Own 29 2 A5 z.length c6 (sps z) :: Own 29 2 A3 y.length c4 (sps y) :: Own 29 2 A1 x.length c2 (sps x) :: L) w := s
        refine ⟨_, rfl, ?_⟩; clear ha; intro a ha
        refine st_val (.bool true) ha (by kernel_rfl) (by kernel_rfl) ?_
        clear ha; intro a ha
        refine st_val (.bool true) ha (by kernel_rfl) (by kernel_rfl) ?_
        clear ha; intro a ha
        refine st_val (.int .i64 0) ha (by kernel_rfl) (by kernel_rfl) ?_
        clear ha; intro a ha
        refine st_val (.bool true) ha (by kernel_rfl) (by kernel_rfl) ?_
        clear ha; intro a ha
        refine st_val (.bool true) ha (by kernel_rfl) (by kernel_rfl) ?_
        clear ha; intro a ha
        refine st_val (.bool true) ha (by kernel_rfl) (by kernel_rfl) ?_
        clear ha; intro a ha
        refine st_val (.slice A13 0 c14) ha (by kernel_rfl) (by kernel_rfl) ?_
        clear ha; intro a ha
        refine st_val (.int .i64 0) ha (by kernel_rfl) (by kernel_rfl) ?_
        clear ha; intro a ha
        refine st_val (.bool true) ha (by kernel_rfl) (by kernel_rfl) ?_
        clear ha; intro a ha
        refine st_val (.bool true) ha (by kernel_rfl) (by kernel_rfl) ?_
        clear ha; intro a ha
        refine st_val (.bool true) ha (by kernel_rfl) (by kernel_rfl) ?_
        clear ha; intro a ha
        refine st_val (.int .i64 0) ha (by kernel_rfl) (by kernel_rfl) ?_
        clear ha; intro a ha
        refine st_val (.bool true) ha (by kernel_rfl) (by kernel_rfl) ?_
        clear ha; intro a ha
        refine st_val (.bool true) ha (by kernel_rfl) (by kernel_rfl) ?_
        clear ha; intro a ha
        refine st_val (.bool true) ha (by kernel_rfl) (by kernel_rfl) ?_
        clear ha; intro a ha
        refine st_val (.slice A15 t.length c16) ha (by kernel_rfl) (by kernel_rfl) ?_
        clear ha; intro a ha
        refine st_val (.slice A3 y.length c4) ha (by kernel_rfl) (by kernel_rfl) ?_
        clear ha; intro a ha
        refine st_call ha (by kernel_rfl) (by kernel_rfl) (same_is W _ w A15 A3 t.length y.length c16 c4 t y (parts_back hcy hct) (Knows.own (j := 0) rfl) (Knows.own (j := 5) rfl) rfl rfl (by omega) s) ?_
        rintro _ w ⟨rfl, s⟩
        replace s : St W (Own 29 2 A15 t.length c16 (sps t) :: Own 29 2 A13 0 c14 (sps []) :: Own 29 2 A11 u.length c12 (sps u) :: Own 29 2 A9 (0 + y.length + z.length) c10 (sps (y ++ z)) :: Own 29 2 A5 z.length c6 (sps z) :: Own 29 2 A3 y.length c4 (sps y) :: Own 29 2 A1 x.length c2 (sps x) :: L) w := s
        refine ⟨_, rfl, ?_⟩; clear ha; intro a ha
        refine st_val (.bool true) ha (by kernel_rfl) (by kernel_rfl) ?_
        clear ha; intro a ha
        refine st_val (.bool true) ha (by kernel_rfl) (by kernel_rfl) ?_
        clear ha; intro a ha
        refine wpList_nil ?_
        refine then_normal ?_
        refine wp_ret ?_
        refine ret_with (v := .bool true) ha (results_1 rfl ha (res_tmp (by kernel_rfl) (by kernel_rfl))) ?_
        replace s := s.tail.tail.tail.tail.tail.tail.tail
        replace s : St W (L) w := s
        exact ⟨rfl, s⟩

end Go.Proofs.Ytcnlidaacgcdhaa.B
