import Derived.Test.YtidfniglnmfphaaB17
namespace Go.Proofs.Ytidfniglnmfphaa.B
open Go.RowKit Go.Maps Go.Sort Go.Shelf Go.Proofs.Ytidfniglnmfphaa.Sep Go.Proofs.Ytidfniglnmfphaa.P
set_option linter.unusedVariables false
set_option linter.unusedSimpArgs false
theorem tds_take {l : List Dd} {j : Nat} {x : Dd} (h : l[j]? = some x) : tds (l.take (j + 1)) = tds (l.take j) ++ [x.t] := map_take_snoc h
theorem tds_le (l : List Dd) (j : Nat) : (tds (l.take j)).length ≤ l.length := by simp only [tds, List.length_map, List.length_take]; omega

set_option maxRecDepth 100000 in
set_option maxHeartbeats 4000000 in
theorem right_any (W : World) (L : List Chunk) (w : World) (A : Option Addr) (ca : Nat) (ds : List Dn) (hr : Knows L (DonesIn A ds)) (hn : Bn ds) (h0 : code (tns ds) = 0) (s : St W L w) :
    Calls Try.prog 20 #[.slice A ds.length ca] w fun e w' => ∃ B c es X o, e = .returned (.slice B ds.length c) ∧ IsOrd (tns ds) o ∧ IsRight (tns ds) o (tns es) ∧ (∀ e ∈ es, ∀ x ∈ e.l, RowsOk ds X x) ∧ St W (Own 80 4 B ds.length c (nvs es) :: Inn 81 es :: Kn (RowsP X) :: L) w' := by
  have hpost := order_post h0
  refine enter_args (l := [.slice A ds.length ca]) Try.func20 rfl rfl (Nat.le_of_ble_eq_true rfl) ?_
  intro a ha; replace ha : Has a 115 [(0, .slice A ds.length ca)] := ha
  refine wp_seq ?_
  refine wp_region_lit ?_
  refine st_val (.slice none 0 0) ha (by kernel_rfl) (by kernel_rfl) ?_
  clear ha; intro a ha
  refine wpList_nil ?_
  refine then_normal ?_
  refine wp_seq ?_
  refine wp_region_lit ?_
  refine st_val (.slice A ds.length ca) ha (by kernel_rfl) (by kernel_rfl) ?_
  clear ha; intro a ha
  refine st_call ha (by kernel_rfl) (by kernel_rfl) (rorder_ok W _ w A ca ds (fun w s => hr w s) hn h0 s) ?_
  rintro _ w ⟨B3, c3, o, rfl, ho, s⟩
  have hol : o.length = ds.length := by have := ho.length; simpa using this
  replace s : St W (Own 3 1 B3 ds.length c3 (nats o) :: L) w := s
  refine ⟨_, rfl, ?_⟩; clear ha; intro a ha
  refine st_val (.tuple #[.slice B3 ds.length c3, .int .i64 0]) ha (by kernel_rfl) (by kernel_rfl) ?_
  clear ha; intro a ha
  refine st_val (.slice B3 ds.length c3) ha (by kernel_rfl) (by kernel_rfl) ?_
  clear ha; intro a ha
  refine st_val (.int .i64 0) ha (by kernel_rfl) (by kernel_rfl) ?_
  clear ha; intro a ha
  refine st_val (.slice B3 ds.length c3) ha (by kernel_rfl) (by kernel_rfl) ?_
  clear ha; intro a ha
  refine st_val (.int .i64 0) ha (by kernel_rfl) (by kernel_rfl) ?_
  clear ha; intro a ha
  refine wpList_nil ?_
  refine then_normal ?_
  refine wp_seq ?_
  refine wp_seq ?_
  refine wp_region_lit ?_
  refine st_val (.int .i64 0) ha (by kernel_rfl) (by kernel_rfl) ?_
  clear ha; intro a ha
  refine st_val (.bool false) ha (by kernel_rfl) (by kernel_rfl) ?_
  clear ha; intro a ha
  refine wpList_nil ?_
  refine then_normal ?_
  refine wp_false ha rfl (by kernel_rfl) ?_
  refine wp_skip ?_
  refine then_normal ?_
  refine wp_seq ?_
  refine wp_region_lit ?_
  refine st_val (.slice none 0 0) ha (by kernel_rfl) (by kernel_rfl) ?_
  clear ha; intro a ha
  refine wpList_nil ?_
  refine then_normal ?_
  refine wp_seq ?_
  refine wp_seq ?_
  refine wp_region_lit ?_
  refine st_val (.int .i64 0) ha (by kernel_rfl) (by kernel_rfl) ?_
  clear ha; intro a ha
  refine wpList_nil ?_
  refine then_normal ?_
  refine wp_block ?_
  replace s := Own.none_ (e := 80) (k := 4) none (Inn.nil 81 s)
  replace s : St W (Own 80 4 none 0 0 [] :: Inn 81 [] :: Own 3 1 B3 ds.length c3 (nats o) :: L) w := s
  refine wp_loopG (G := (Nat × Option Addr × Nat × List Dn)) (fun ⟨k, B, cb, es⟩ a w => Has a 115 [(0, .slice A ds.length ca), (3, .slice B3 ds.length c3), (5, .slice B k cb), (6, .int .i64 ((k : Nat) : Int))] ∧ St W (Own 80 4 B k cb (nvs es) :: Inn 81 es :: Own 3 1 B3 ds.length c3 (nats o) :: L) w ∧ (k ≤ ds.length ∧ Copy (ds.take k) es)) (fun ⟨k, B, cb, es⟩ => ds.length - k) (0, none, 0, []) ?_ ?_
  · exact ⟨(Has.cons ha (by kernel_rfl) (by kernel_rfl) (Has.cons ha (by kernel_rfl) (by kernel_rfl) (Has.cons ha (by kernel_rfl) (by kernel_rfl) (Has.cons ha (by kernel_rfl) (by kernel_rfl) (Has.nil ha))))), s, ⟨Nat.zero_le _, Copy.nil⟩⟩
  · clear ha s; rintro ⟨k, B, cb, es⟩ a w ⟨ha, s, hp⟩
    refine wp_seq ?_
    refine wp_seq ?_
    refine wp_region_lit ?_
    refine st_val (.int .i64 ((k : Nat) : Int)) ha (by kernel_rfl) (by kernel_rfl) ?_
    clear ha; intro a ha
    refine st_val (.slice A ds.length ca) ha (by kernel_rfl) (by kernel_rfl) ?_
    clear ha; intro a ha
    refine st_val (.int .i64 ((ds.length : Nat) : Int)) ha (by kernel_rfl) (by kernel_rfl) ?_
    clear ha; intro a ha
    refine st_val (.bool (decide (((k : Nat) : Int) < ((ds.length : Nat) : Int)))) ha (by kernel_rfl) (by kernel_rfl) ?_
    clear ha; intro a ha
    refine wpList_nil ?_
    refine then_normal ?_
    refine wp_part (decide (((k : Nat) : Int) < ((ds.length : Nat) : Int))) ha rfl (by kernel_rfl) (fun hb => ?_) (fun hb => ?_)
    · rw [hb] at ha; replace hb : (((k : Nat) : Int) < ((ds.length : Nat) : Int)) := of_decide_eq_true hb
      obtain ⟨d, hd⟩ : ∃ d, ds[k]? = some d := ⟨_, List.getElem?_eq_getElem (by omega)⟩
      have hdl := (hn.row hd).1
      obtain ⟨ad, hA⟩ := Reads.addr (hr _ s.sat.tail.tail.tail).1 (by omega)
      subst hA
      have hcp := hp.2
      have hmd := le_many (List.mem_of_getElem? hd)
      refine wp_skip ?_
      refine then_normal ?_
      refine wp_seq ?_
      refine wp_block ?_
      refine wp_region_head 19 (fun w => Reads w 4 (some ad) ds.length (nvs ds) ∧ True) (by kernel_rfl) (by decide) ?_
      replace s := s.drew; generalize _root_.Go.World.drew _ = w at s ⊢
      have hS : (fun w => Reads w 4 (some ad) ds.length (nvs ds) ∧ True) w := ⟨(hr _ s.sat.tail.tail.tail).1, trivial⟩
      refine hd_val (i := 0) (.slice B k cb) ha rfl (by kernel_rfl) (fun _ _ _ h => h) (by kernel_rfl) (fun w hS => (by kernel_rfl)) hS ?_
      clear ha; intro a ha
      refine hd_val (i := 1) (.slice (some ad) ds.length ca) ha rfl (by kernel_rfl) (fun _ _ _ h => h) (by kernel_rfl) (fun w hS => (by kernel_rfl)) hS ?_
      clear ha; intro a ha
      refine hd_val (i := 2) (.int .i64 ((k : Nat) : Int)) ha rfl (by kernel_rfl) (fun _ _ _ h => h) (by kernel_rfl) (fun w hS => (by kernel_rfl)) hS ?_
      clear ha; intro a ha
      refine hd_val (i := 3) (.pointer (some (ad.add (k * 4)))) ha rfl (by kernel_rfl) (fun _ _ _ h => h) (by kernel_rfl) (fun w hS => (run_indexAddr' (kd := .i64) (i := ((k : Nat) : Int)) (n := ds.length) (c := ca) k rfl Try.underlying39 Try.sizeOf80 (by kernel_rfl) (by kernel_rfl) rfl (by first | assumption | omega) _)) hS ?_
      clear ha; intro a ha
      refine hd_val (i := 4) (.pointer (some (ad.add (k * 4 + 0)))) ha rfl (by kernel_rfl) (fun _ _ _ h => h) (by kernel_rfl) (fun w hS => (run_fieldAddr_at (i := k * 4) (off := 0) rfl Try.underlying80 rfl Try.sizeOf3 (by kernel_rfl) _)) hS ?_
      clear ha; intro a ha
      refine hd_val (i := 5) (.int .i64 d.id) ha rfl (by kernel_rfl) (fun _ _ _ h => h) (by kernel_rfl) (fun w hS => run_loadAt1 (i := k * 4 + 0) hS.1 rfl (by kernel_rfl) Try.isAgg3 (by rw [nvs_at hd (by omega)]; rfl)) hS ?_
      clear ha; intro a ha
      refine hd_val (i := 6) (.slice (some ad) ds.length ca) ha rfl (by kernel_rfl) (fun _ _ _ h => h) (by kernel_rfl) (fun w hS => (by kernel_rfl)) hS ?_
      clear ha; intro a ha
      refine hd_val (i := 7) (.int .i64 ((k : Nat) : Int)) ha rfl (by kernel_rfl) (fun _ _ _ h => h) (by kernel_rfl) (fun w hS => (by kernel_rfl)) hS ?_
      clear ha; intro a ha
      refine hd_val (i := 8) (.pointer (some (ad.add (k * 4)))) ha rfl (by kernel_rfl) (fun _ _ _ h => h) (by kernel_rfl) (fun w hS => (run_indexAddr' (kd := .i64) (i := ((k : Nat) : Int)) (n := ds.length) (c := ca) k rfl Try.underlying39 Try.sizeOf80 (by kernel_rfl) (by kernel_rfl) rfl (by first | assumption | omega) _)) hS ?_
      clear ha; intro a ha
      refine hd_val (i := 9) (.pointer (some (ad.add (k * 4 + 1)))) ha rfl (by kernel_rfl) (fun _ _ _ h => h) (by kernel_rfl) (fun w hS => (run_fieldAddr_at (i := k * 4) (off := 1) rfl Try.underlying80 rfl Try.sizeOf24 (by kernel_rfl) _)) hS ?_
      clear ha; intro a ha
      refine hd_val (i := 10) (.agg #[.int .i64 d.wall, .int .i64 d.logic]) ha rfl (by kernel_rfl) (fun _ _ _ h => h) (by kernel_rfl) (fun w hS => run_loadAtN (i := k * 4 + 1) [.int .i64 d.wall, .int .i64 d.logic] hS.1 rfl (by kernel_rfl) Try.isAgg24 Try.sizeOf24 (fun q_ hq_ => by rw [Nat.add_assoc, nvs_at hd (by omega)]; match q_, hq_ with | 0, _ => rfl | 1, _ => rfl) rfl) hS ?_
      clear ha; intro a ha
      refine hd_val (i := 11) (.slice (some ad) ds.length ca) ha rfl (by kernel_rfl) (fun _ _ _ h => h) (by kernel_rfl) (fun w hS => (by kernel_rfl)) hS ?_
      clear ha; intro a ha
      refine hd_val (i := 12) (.int .i64 ((k : Nat) : Int)) ha rfl (by kernel_rfl) (fun _ _ _ h => h) (by kernel_rfl) (fun w hS => (by kernel_rfl)) hS ?_
      clear ha; intro a ha
      refine hd_val (i := 13) (.pointer (some (ad.add (k * 4)))) ha rfl (by kernel_rfl) (fun _ _ _ h => h) (by kernel_rfl) (fun w hS => (run_indexAddr' (kd := .i64) (i := ((k : Nat) : Int)) (n := ds.length) (c := ca) k rfl Try.underlying39 Try.sizeOf80 (by kernel_rfl) (by kernel_rfl) rfl (by first | assumption | omega) _)) hS ?_
      clear ha; intro a ha
      refine hd_val (i := 14) (.pointer (some (ad.add (k * 4 + 3)))) ha rfl (by kernel_rfl) (fun _ _ _ h => h) (by kernel_rfl) (fun w hS => (run_fieldAddr_at (i := k * 4) (off := 3) rfl Try.underlying80 rfl Try.sizeOf78 (by kernel_rfl) _)) hS ?_
      clear ha; intro a ha
      refine hd_val (i := 15) (.slice d.A d.l.length d.c) ha rfl (by kernel_rfl) (fun _ _ _ h => h) (by kernel_rfl) (fun w hS => run_loadAt1 (i := k * 4 + 3) hS.1 rfl (by kernel_rfl) Try.isAgg78 (by rw [nvs_at hd (by omega)]; rfl)) hS ?_
      clear ha; intro a ha
      replace s := Own.none_ (e := 81) (k := 7) none s
      replace s : St W (Own 81 7 none 0 0 [] :: Own 80 4 B k cb (nvs es) :: Inn 81 es :: Own 3 1 B3 ds.length c3 (nats o) :: L) w := s
      refine hd_ex (i := 16) ha rfl (by kernel_rfl) (by kernel_rfl) (ex_append (m := d.l.length) (d' := d.c) elt78 (by decide) 0 (dvs d.l) s rfl (by kernel_rfl) (by kernel_rfl) rfl ((hr _ s.sat.tail.tail.tail.tail).row hd).1 (dvs_one _) (by simp only [maxLen]; omega) (by omega)) ?_
      clear hS; rintro _ w ⟨A1, c2, rfl, hA_, s⟩
      replace s : St W (Own 81 7 A1 (0 + d.l.length) c2 ([] ++ (dvs d.l)) :: Own 80 4 B k cb (nvs es) :: Inn 81 es :: Own 3 1 B3 ds.length c3 (nats o) :: L) w := s
      have hS : (fun w => Reads w 4 (some ad) ds.length (nvs ds) ∧ True) w := ⟨(hr _ s.sat.tail.tail.tail.tail).1, trivial⟩
      refine ⟨hS, ?_⟩; clear ha; intro a ha
      refine hd_val (i := 17) (.agg #[.int .i64 d.id, .int .i64 d.wall, .int .i64 d.logic, .slice A1 (0 + d.l.length) c2]) ha rfl (by kernel_rfl) (fun _ _ _ h => h) (by kernel_rfl) (fun w hS => (by kernel_rfl)) hS ?_
      clear ha; intro a ha
      refine hd_ex (i := 18) ha rfl (by kernel_rfl) (by kernel_rfl) (ex_buildSlice elt39 _ zs39 [.int .i64 d.id, .int .i64 d.wall, .int .i64 d.logic, .slice A1 (0 + d.l.length) c2] s rfl (by kernel_rfl) (by decide)) ?_
      clear hS; rintro _ w ⟨g3, rfl, s⟩
      replace s : St W (.blk g3 [.int .i64 d.id, .int .i64 d.wall, .int .i64 d.logic, .slice A1 (0 + d.l.length) c2] 80 :: Own 81 7 A1 (0 + d.l.length) c2 ([] ++ (dvs d.l)) :: Own 80 4 B k cb (nvs es) :: Inn 81 es :: Own 3 1 B3 ds.length c3 (nats o) :: L) w := s
      have hS : (fun w => Reads w 4 (some ad) ds.length (nvs ds) ∧ True) w := ⟨(hr _ s.sat.tail.tail.tail.tail.tail).1, trivial⟩
      refine ⟨hS, ?_⟩; clear ha; intro a ha
      refine Head.done (by kernel_rfl) ?_
      clear hS; simp only [List.drop_succ_cons, List.drop_zero]
      refine st_ex ha (by kernel_rfl) (ex_append (m := 1) (d' := 1) elt39 (by decide) 2 [.int .i64 d.id, .int .i64 d.wall, .int .i64 d.logic, .slice A1 (0 + d.l.length) c2] s rfl (by kernel_rfl) (by kernel_rfl) rfl (reads_blk (s.blkIs 0 rfl) rfl) (by simp [Value.oneCell']) (by simp only [maxLen]; omega) (by omega)) ?_
      clear ha; rintro _ w a ⟨A4, c5, rfl, hA_, s⟩ ha
      replace s : St W (.blk g3 [.int .i64 d.id, .int .i64 d.wall, .int .i64 d.logic, .slice A1 (0 + d.l.length) c2] 80 :: Own 81 7 A1 (0 + d.l.length) c2 ([] ++ (dvs d.l)) :: Own 80 4 A4 (k + 1) c5 ((nvs es) ++ [.int .i64 d.id, .int .i64 d.wall, .int .i64 d.logic, .slice A1 (0 + d.l.length) c2]) :: Inn 81 es :: Own 3 1 B3 ds.length c3 (nats o) :: L) w := s
      refine st_val (.slice A4 (k + 1) c5) ha (by kernel_rfl) (by kernel_rfl) ?_
      clear ha; intro a ha
      refine wpList_nil ?_
      refine block_normal ?_
      refine then_normal ?_
      refine wp_region_lit ?_
      refine st_val (.int .i64 ((k : Nat) : Int)) ha (by kernel_rfl) (by kernel_rfl) ?_
      clear ha; intro a ha
      refine st_val (.int .i64 ((k + 1 : Nat) : Int)) ha (by kernel_rfl) (run_arith (((k : Nat) : Int) + (1 : Int)) ((k + 1 : Nat) : Int) rfl (by kernel_rfl) (by kernel_rfl) (.inl ⟨rfl, rfl⟩) (by rw [wrap64_in (by omega)]; try omega) _) ?_
      clear ha; intro a ha
      refine st_val (.int .i64 ((k + 1 : Nat) : Int)) ha (by kernel_rfl) (by kernel_rfl) ?_
      clear ha; intro a ha
      refine wpList_nil ?_
      refine then_normal ?_
      simp only [Nat.zero_add, List.nil_append] at s
      replace s : St W (.blk g3 [.int .i64 d.id, .int .i64 d.wall, .int .i64 d.logic, .slice A1 d.l.length c2] 80 :: Own 81 7 A1 d.l.length c2 (dvs d.l) :: Own 80 4 A4 (k + 1) c5 (nvs es ++ [.int .i64 d.id, .int .i64 d.wall, .int .i64 d.logic, .slice A1 d.l.length c2]) :: Inn 81 es :: Own 3 1 B3 ds.length c3 (nats o) :: L) w := s
      replace s := s.at_ (j := 4) rfl
      replace s : St W (Own 3 1 B3 ds.length c3 (nats o) :: .blk g3 [.int .i64 d.id, .int .i64 d.wall, .int .i64 d.logic, .slice A1 d.l.length c2] 80 :: Own 81 7 A1 d.l.length c2 (dvs d.l) :: Own 80 4 A4 (k + 1) c5 (nvs es ++ [.int .i64 d.id, .int .i64 d.wall, .int .i64 d.logic, .slice A1 d.l.length c2]) :: Inn 81 es :: L) w := s
      replace s := s.at_ (j := 3) rfl
      replace s : St W (Own 80 4 A4 (k + 1) c5 (nvs es ++ [.int .i64 d.id, .int .i64 d.wall, .int .i64 d.logic, .slice A1 d.l.length c2]) :: Own 3 1 B3 ds.length c3 (nats o) :: .blk g3 [.int .i64 d.id, .int .i64 d.wall, .int .i64 d.logic, .slice A1 d.l.length c2] 80 :: Own 81 7 A1 d.l.length c2 (dvs d.l) :: Inn 81 es :: L) w := s
      replace s := s.at_ (j := 4) rfl
      replace s : St W (Inn 81 es :: Own 80 4 A4 (k + 1) c5 (nvs es ++ [.int .i64 d.id, .int .i64 d.wall, .int .i64 d.logic, .slice A1 d.l.length c2]) :: Own 3 1 B3 ds.length c3 (nats o) :: .blk g3 [.int .i64 d.id, .int .i64 d.wall, .int .i64 d.logic, .slice A1 d.l.length c2] 80 :: Own 81 7 A1 d.l.length c2 (dvs d.l) :: L) w := s
      replace s := s.at_ (j := 4) rfl
      replace s : St W (Own 81 7 A1 d.l.length c2 (dvs d.l) :: Inn 81 es :: Own 80 4 A4 (k + 1) c5 (nvs es ++ [.int .i64 d.id, .int .i64 d.wall, .int .i64 d.logic, .slice A1 d.l.length c2]) :: Own 3 1 B3 ds.length c3 (nats o) :: .blk g3 [.int .i64 d.id, .int .i64 d.wall, .int .i64 d.logic, .slice A1 d.l.length c2] 80 :: L) w := s
      replace s : St W (Own 81 7 A1 d.l.length c2 (dvs d.l) :: Inn 81 es :: Own 80 4 A4 (k + 1) c5 (nvs es ++ [.int .i64 d.id, .int .i64 d.wall, .int .i64 d.logic, .slice A1 d.l.length c2]) :: Own 3 1 B3 ds.length c3 (nats o) :: L) w := St.mid (A := [Own 81 7 A1 d.l.length c2 (dvs d.l), Inn 81 es, Own 80 4 A4 (k + 1) c5 (nvs es ++ [.int .i64 d.id, .int .i64 d.wall, .int .i64 d.logic, .slice A1 d.l.length c2]), Own 3 1 B3 ds.length c3 (nats o)]) (B := [.blk g3 [.int .i64 d.id, .int .i64 d.wall, .int .i64 d.logic, .slice A1 d.l.length c2] 80]) s
      rw [show [.int .i64 d.id, .int .i64 d.wall, .int .i64 d.logic, .slice A1 d.l.length c2] = nv (⟨d.id, d.wall, d.logic, A1, c2, d.l⟩ : Dn) from rfl, nvs_snoc] at s
      replace s := (Inn.snoc (⟨d.id, d.wall, d.logic, A1, c2, d.l⟩ : Dn) s).at_ (j := 1) rfl
      replace s : St W (Own 80 4 A4 (k + 1) c5 (nvs (es ++ [(⟨d.id, d.wall, d.logic, A1, c2, d.l⟩ : Dn)])) :: Inn 81 (es ++ [(⟨d.id, d.wall, d.logic, A1, c2, d.l⟩ : Dn)]) :: Own 3 1 B3 ds.length c3 (nats o) :: L) w := s
      exact ⟨(k + 1, A4, c5, es ++ [(⟨d.id, d.wall, d.logic, A1, c2, d.l⟩ : Dn)]), (show ds.length - (k + 1) < ds.length - k by omega), (Has.cons ha (by kernel_rfl) (by kernel_rfl) (Has.cons ha (by kernel_rfl) (by kernel_rfl) (Has.cons ha (by kernel_rfl) (by kernel_rfl) (Has.cons ha (by kernel_rfl) (by kernel_rfl) (Has.nil ha))))), s, (show k + 1 ≤ ds.length by omega), by rw [take_snoc hd]; exact hcp.snoc rfl⟩
    · rw [hb] at ha; replace hb : ¬ (((k : Nat) : Int) < ((ds.length : Nat) : Int)) := of_decide_eq_false hb
      have hk : k = ds.length := by omega
      have hcp := hp.2
      subst hk
      rw [List.take_length] at hcp
      refine wp_exit ?_
      refine then_exit ?_
      refine then_exit ?_
      refine block_hit ?_
      refine then_normal ?_
      refine wp_seq ?_
      refine wp_region_lit ?_
      refine st_val (.slice none 0 0) ha (by kernel_rfl) (by kernel_rfl) ?_
      clear ha; intro a ha
      refine wpList_nil ?_
      refine then_normal ?_
      refine wp_seq ?_
      refine wp_seq ?_
      refine wp_region_lit ?_
      refine st_val (.int .i64 0) ha (by kernel_rfl) (by kernel_rfl) ?_
      clear ha; intro a ha
      refine wpList_nil ?_
      refine then_normal ?_
      refine wp_block ?_
      replace s := kn_of (M := []) (p := RowsP []) (fun w s => RowsP.nil) (Own.none_ (e := 54) (k := 2) none s)
      replace s : St W (Kn (RowsP []) :: Own 54 2 none 0 0 [] :: Own 80 4 B ds.length cb (nvs es) :: Inn 81 es :: Own 3 1 B3 ds.length c3 (nats o) :: L) w := s
      replace s := s.at_ (j := 1) rfl
      replace s : St W (Own 54 2 none 0 0 [] :: Kn (RowsP []) :: Own 80 4 B ds.length cb (nvs es) :: Inn 81 es :: Own 3 1 B3 ds.length c3 (nats o) :: L) w := s
      replace s := s.at_ (j := 3) rfl
      replace s : St W (Inn 81 es :: Own 54 2 none 0 0 [] :: Kn (RowsP []) :: Own 80 4 B ds.length cb (nvs es) :: Own 3 1 B3 ds.length c3 (nats o) :: L) w := s
      replace s := s.at_ (j := 3) rfl
      replace s : St W (Own 80 4 B ds.length cb (nvs es) :: Inn 81 es :: Own 54 2 none 0 0 [] :: Kn (RowsP []) :: Own 3 1 B3 ds.length c3 (nats o) :: L) w := s
      replace s := s.at_ (j := 4) rfl
      replace s : St W (Own 3 1 B3 ds.length c3 (nats o) :: Own 80 4 B ds.length cb (nvs es) :: Inn 81 es :: Own 54 2 none 0 0 [] :: Kn (RowsP []) :: L) w := s
      refine wp_loopG (G := (Nat × List Dn × Option Addr × Nat × List Dd)) (fun ⟨k, es, D, cD, X⟩ a w => Has a 115 [(3, .slice B3 ds.length c3), (5, .slice B ds.length cb), (7, .slice D ((left [] (things (tns ds) (o.take k))).length) cD), (8, .int .i64 ((k : Nat) : Int))] ∧ St W (Own 3 1 B3 ds.length c3 (nats o) :: Own 80 4 B ds.length cb (nvs es) :: Inn 81 es :: Own 54 2 D ((left [] (things (tns ds) (o.take k))).length) cD (rws (left [] (things (tns ds) (o.take k)))) :: Kn (RowsP X) :: L) w ∧ (k ≤ ds.length ∧ Prog ds o k es ∧ ∀ e ∈ es, ∀ x ∈ e.l, RowsOk ds X x)) (fun ⟨k, es, D, cD, X⟩ => ds.length - k) (0, es, none, 0, []) ?_ ?_
      · exact ⟨(Has.cons ha (by kernel_rfl) (by kernel_rfl) (Has.cons ha (by kernel_rfl) (by kernel_rfl) (Has.cons ha (by kernel_rfl) (by kernel_rfl) (Has.cons ha (by kernel_rfl) (by kernel_rfl) (Has.nil ha))))), s, ⟨Nat.zero_le _, Prog.start hcp, fun e he x hx => by obtain ⟨d, hd, e2⟩ := hcp.mem he; exact .inl ⟨d, hd, x, by rw [e2]; exact hx, rfl, rfl, rfl⟩⟩⟩
      · clear ha s; rintro ⟨k, es, D, cD, X⟩ a w ⟨ha, s, hp⟩
        refine wp_seq ?_
        refine wp_seq ?_
        refine wp_region_lit ?_
        refine st_val (.int .i64 ((k : Nat) : Int)) ha (by kernel_rfl) (by kernel_rfl) ?_
        clear ha; intro a ha
        refine st_val (.slice B3 ds.length c3) ha (by kernel_rfl) (by kernel_rfl) ?_
        clear ha; intro a ha
        refine st_val (.int .i64 ((ds.length : Nat) : Int)) ha (by kernel_rfl) (by kernel_rfl) ?_
        clear ha; intro a ha
        refine st_val (.bool (decide (((k : Nat) : Int) < ((ds.length : Nat) : Int)))) ha (by kernel_rfl) (by kernel_rfl) ?_
        clear ha; intro a ha
        refine wpList_nil ?_
        refine then_normal ?_
        refine wp_part (decide (((k : Nat) : Int) < ((ds.length : Nat) : Int))) ha rfl (by kernel_rfl) (fun hb => ?_) (fun hb => ?_)
        · rw [hb] at ha; replace hb : (((k : Nat) : Int) < ((ds.length : Nat) : Int)) := of_decide_eq_true hb
          have hP := hp.2.1
          have hR := hp.2.2
          obtain ⟨i, hi⟩ : ∃ i, o[k]? = some i := ⟨_, List.getElem?_eq_getElem (by omega)⟩
          have hil : i < ds.length := by have := ho.lt (List.mem_of_getElem? hi); simpa using this
          obtain ⟨d, hd⟩ : ∃ d, ds[i]? = some d := ⟨_, List.getElem?_eq_getElem hil⟩
          have hdl := (hn.row hd).1
          have hmd := le_many (List.mem_of_getElem? hd)
          have hesl : es.length = ds.length := hP.len
          obtain ⟨e, he⟩ : ∃ e, es[i]? = some e := ⟨_, List.getElem?_eq_getElem (by omega)⟩
          have hce : core e = core d := by have := hP.todo k i hi (Nat.le_refl _); rw [he, hd] at this; exact Option.some.inj this
          have hel : e.l = d.l := congrArg (fun x => x.2.2.2) hce
          have hell : e.l.length = d.l.length := by rw [hel]
          obtain ⟨ab, hB⟩ := Own.addr (s.at_ (j := 0) rfl) (by omega)
          subst hB
          obtain ⟨a5, hB5⟩ := Own.addr (s.at_ (j := 1) rfl) (by omega)
          subst hB5
          have hRk : (left [] (things (tns ds) (o.take k))).length ≤ 10000 := by have := left_take_le ho k; omega
          refine wp_skip ?_
          refine then_normal ?_
          refine wp_seq ?_
          refine wp_block ?_
          refine wp_seq ?_
          refine wp_region_lit ?_
          refine st_val (.slice (some a5) ds.length cb) ha (by kernel_rfl) (by kernel_rfl) ?_
          clear ha; intro a ha
          refine st_val (.slice (some ab) ds.length c3) ha (by kernel_rfl) (by kernel_rfl) ?_
          clear ha; intro a ha
          refine st_val (.int .i64 ((k : Nat) : Int)) ha (by kernel_rfl) (by kernel_rfl) ?_
          clear ha; intro a ha
          refine st_val (.pointer (some (ab.add (k * 1)))) ha (by kernel_rfl) (run_indexAddr' (kd := .i64) (i := ((k : Nat) : Int)) (n := ds.length) (c := c3) k rfl Try.underlying29 Try.sizeOf3 (by kernel_rfl) (by kernel_rfl) rfl (by first | assumption | omega) _) ?_
          clear ha; intro a ha
          refine st_val (.int .i64 ((i : Nat) : Int)) ha (by kernel_rfl) (run_loadRow1 (m := k) ((Own.reads (s.at_ (j := 0) rfl).1)) rfl (by kernel_rfl) Try.isAgg3 (nats_at hi)) ?_
          clear ha; intro a ha
          refine st_val (.pointer (some (a5.add (i * 4)))) ha (by kernel_rfl) (run_indexAddr' (kd := .i64) (i := ((i : Nat) : Int)) (n := ds.length) (c := cb) i rfl Try.underlying39 Try.sizeOf80 (by kernel_rfl) (by kernel_rfl) rfl (by first | assumption | omega) _) ?_
          clear ha; intro a ha
          refine st_val (.agg #[.int .i64 e.id, .int .i64 e.wall, .int .i64 e.logic, .slice e.A e.l.length e.c]) ha (by kernel_rfl) (run_loadAtN (i := i * 4) [.int .i64 e.id, .int .i64 e.wall, .int .i64 e.logic, .slice e.A e.l.length e.c] ((hesl ▸ (Own.reads (s.at_ (j := 1) rfl).1))) rfl (by kernel_rfl) Try.isAgg80 Try.sizeOf80 (fun q_ hq_ => nvs_at he hq_) rfl) ?_
          clear ha; intro a ha
          refine st_ex ha (by kernel_rfl) (ex_alloc [.int .i64 0, .int .i64 0, .int .i64 0, .slice none 0 0] s rfl (Try.zeroValue80 _) (by kernel_rfl)) ?_
          clear ha; rintro _ w a ⟨g6, rfl, s⟩ ha
          replace s : St W (.blk g6 [.int .i64 0, .int .i64 0, .int .i64 0, .slice none 0 0] 80 :: Own 3 1 (some ab) ds.length c3 (nats o) :: Own 80 4 (some a5) ds.length cb (nvs es) :: Inn 81 es :: Own 54 2 D ((left [] (things (tns ds) (o.take k))).length) cD (rws (left [] (things (tns ds) (o.take k)))) :: Kn (RowsP X) :: L) w := s
          refine st_exd ha (by kernel_rfl) (ex_store (of_ := 0) 0 [.int .i64 e.id, .int .i64 e.wall, .int .i64 e.logic, .slice e.A e.l.length e.c] s rfl rfl (by kernel_rfl) (by kernel_rfl) (Try.sizeOf80 _) rfl (by simp [Value.oneCell']) (Nat.le_of_ble_eq_true rfl)) ?_
          clear ha; rintro w a s ha
          replace s : St W (.blk g6 [.int .i64 e.id, .int .i64 e.wall, .int .i64 e.logic, .slice e.A e.l.length e.c] 80 :: Own 3 1 (some ab) ds.length c3 (nats o) :: Own 80 4 (some a5) ds.length cb (nvs es) :: Inn 81 es :: Own 54 2 D ((left [] (things (tns ds) (o.take k))).length) cD (rws (left [] (things (tns ds) (o.take k)))) :: Kn (RowsP X) :: L) w := s
          refine wpList_nil ?_
          refine then_normal ?_
          refine wp_seq ?_
          refine wp_region_lit ?_
          refine st_val (.int .i64 0) ha (by kernel_rfl) (by kernel_rfl) ?_
          clear ha; intro a ha
          refine wpList_nil ?_
          refine then_normal ?_
          refine wp_block ?_
          replace s := s.at_ (j := 3) rfl
          replace s : St W (Inn 81 es :: .blk g6 [.int .i64 e.id, .int .i64 e.wall, .int .i64 e.logic, .slice e.A e.l.length e.c] 80 :: Own 3 1 (some ab) ds.length c3 (nats o) :: Own 80 4 (some a5) ds.length cb (nvs es) :: Own 54 2 D ((left [] (things (tns ds) (o.take k))).length) cD (rws (left [] (things (tns ds) (o.take k)))) :: Kn (RowsP X) :: L) w := s
          replace s := Inn.open_ he s
          replace s : St W (Own 81 7 e.A e.l.length e.c (dvs e.l) :: Rest 81 es i :: .blk g6 [.int .i64 e.id, .int .i64 e.wall, .int .i64 e.logic, .slice e.A e.l.length e.c] 80 :: Own 3 1 (some ab) ds.length c3 (nats o) :: Own 80 4 (some a5) ds.length cb (nvs es) :: Own 54 2 D ((left [] (things (tns ds) (o.take k))).length) cD (rws (left [] (things (tns ds) (o.take k)))) :: Kn (RowsP X) :: L) w := s
          obtain ⟨Ae, hAe⟩ : ∃ Ae, Ae = e.A := ⟨_, rfl⟩
          rw [← hAe] at s ha
          replace s : St W (Own 81 7 Ae e.l.length e.c (dvs e.l) :: Rest 81 es i :: .blk g6 [.int .i64 e.id, .int .i64 e.wall, .int .i64 e.logic, .slice Ae e.l.length e.c] 80 :: Own 3 1 (some ab) ds.length c3 (nats o) :: Own 80 4 (some a5) ds.length cb (nvs es) :: Own 54 2 D ((left [] (things (tns ds) (o.take k))).length) cD (rws (left [] (things (tns ds) (o.take k)))) :: Kn (RowsP X) :: L) w := s
          replace s := s.at_ (j := 2) rfl
          replace s : St W (.blk g6 [.int .i64 e.id, .int .i64 e.wall, .int .i64 e.logic, .slice Ae e.l.length e.c] 80 :: Own 81 7 Ae e.l.length e.c (dvs e.l) :: Rest 81 es i :: Own 3 1 (some ab) ds.length c3 (nats o) :: Own 80 4 (some a5) ds.length cb (nvs es) :: Own 54 2 D ((left [] (things (tns ds) (o.take k))).length) cD (rws (left [] (things (tns ds) (o.take k)))) :: Kn (RowsP X) :: L) w := s
          replace s := s.at_ (j := 6) rfl
          replace s : St W (Kn (RowsP X) :: .blk g6 [.int .i64 e.id, .int .i64 e.wall, .int .i64 e.logic, .slice Ae e.l.length e.c] 80 :: Own 81 7 Ae e.l.length e.c (dvs e.l) :: Rest 81 es i :: Own 3 1 (some ab) ds.length c3 (nats o) :: Own 80 4 (some a5) ds.length cb (nvs es) :: Own 54 2 D ((left [] (things (tns ds) (o.take k))).length) cD (rws (left [] (things (tns ds) (o.take k)))) :: L) w := s
          replace s := s.at_ (j := 6) rfl
          replace s : St W (Own 54 2 D ((left [] (things (tns ds) (o.take k))).length) cD (rws (left [] (things (tns ds) (o.take k)))) :: Kn (RowsP X) :: .blk g6 [.int .i64 e.id, .int .i64 e.wall, .int .i64 e.logic, .slice Ae e.l.length e.c] 80 :: Own 81 7 Ae e.l.length e.c (dvs e.l) :: Rest 81 es i :: Own 3 1 (some ab) ds.length c3 (nats o) :: Own 80 4 (some a5) ds.length cb (nvs es) :: L) w := s
          replace s := s.at_ (j := 4) rfl
          replace s : St W (Rest 81 es i :: Own 54 2 D ((left [] (things (tns ds) (o.take k))).length) cD (rws (left [] (things (tns ds) (o.take k)))) :: Kn (RowsP X) :: .blk g6 [.int .i64 e.id, .int .i64 e.wall, .int .i64 e.logic, .slice Ae e.l.length e.c] 80 :: Own 81 7 Ae e.l.length e.c (dvs e.l) :: Own 3 1 (some ab) ds.length c3 (nats o) :: Own 80 4 (some a5) ds.length cb (nvs es) :: L) w := s
          replace s := s.at_ (j := 4) rfl
          replace s : St W (Own 81 7 Ae e.l.length e.c (dvs e.l) :: Rest 81 es i :: Own 54 2 D ((left [] (things (tns ds) (o.take k))).length) cD (rws (left [] (things (tns ds) (o.take k)))) :: Kn (RowsP X) :: .blk g6 [.int .i64 e.id, .int .i64 e.wall, .int .i64 e.logic, .slice Ae e.l.length e.c] 80 :: Own 3 1 (some ab) ds.length c3 (nats o) :: Own 80 4 (some a5) ds.length cb (nvs es) :: L) w := s
          replace s := s.at_ (j := 6) rfl
          replace s : St W (Own 80 4 (some a5) ds.length cb (nvs es) :: Own 81 7 Ae e.l.length e.c (dvs e.l) :: Rest 81 es i :: Own 54 2 D ((left [] (things (tns ds) (o.take k))).length) cD (rws (left [] (things (tns ds) (o.take k)))) :: Kn (RowsP X) :: .blk g6 [.int .i64 e.id, .int .i64 e.wall, .int .i64 e.logic, .slice Ae e.l.length e.c] 80 :: Own 3 1 (some ab) ds.length c3 (nats o) :: L) w := s
          replace s := s.at_ (j := 6) rfl
          replace s : St W (Own 3 1 (some ab) ds.length c3 (nats o) :: Own 80 4 (some a5) ds.length cb (nvs es) :: Own 81 7 Ae e.l.length e.c (dvs e.l) :: Rest 81 es i :: Own 54 2 D ((left [] (things (tns ds) (o.take k))).length) cD (rws (left [] (things (tns ds) (o.take k)))) :: Kn (RowsP X) :: .blk g6 [.int .i64 e.id, .int .i64 e.wall, .int .i64 e.logic, .slice Ae e.l.length e.c] 80 :: L) w := s
          refine wp_loopG (G := (Nat × List Dd × Option Addr × Nat × List Dd)) (fun ⟨j, mix, D, cD, X2⟩ a w => Has a 115 [(3, .slice (some ab) ds.length c3), (5, .slice (some a5) ds.length cb), (7, .slice D ((leftU (left [] (things (tns ds) (o.take k))) (tds (d.l.take j))).length) cD), (8, .int .i64 ((k : Nat) : Int)), (9, .pointer (some ⟨g6, 0, none⟩)), (10, .int .i64 ((j : Nat) : Int))] ∧ St W (Own 3 1 (some ab) ds.length c3 (nats o) :: Own 80 4 (some a5) ds.length cb (nvs es) :: Own 81 7 Ae e.l.length e.c (dvs mix) :: Rest 81 es i :: Own 54 2 D ((leftU (left [] (things (tns ds) (o.take k))) (tds (d.l.take j))).length) cD (rws (leftU (left [] (things (tns ds) (o.take k))) (tds (d.l.take j)))) :: Kn (RowsP X2) :: .blk g6 [.int .i64 e.id, .int .i64 e.wall, .int .i64 e.logic, .slice Ae e.l.length e.c] 80 :: L) w ∧ (j ≤ e.l.length ∧ mix.length = e.l.length ∧ (mix.take j).map (·.t) = rightL (left [] (things (tns ds) (o.take k))) (tds (d.l.take j)) ∧ mix.drop j = d.l.drop j ∧ (∀ x ∈ mix, RowsOk ds X2 x) ∧ ∀ x ∈ X, x ∈ X2)) (fun ⟨j, mix, D, cD, X2⟩ => e.l.length - j) (0, e.l, D, cD, X) ?_ ?_
          · exact ⟨(Has.cons ha (by kernel_rfl) (by kernel_rfl) (Has.cons ha (by kernel_rfl) (by kernel_rfl) (Has.cons ha (by kernel_rfl) (by kernel_rfl) (Has.cons ha (by kernel_rfl) (by kernel_rfl) (Has.cons ha (by kernel_rfl) (by kernel_rfl) (Has.cons ha (by kernel_rfl) (by kernel_rfl) (Has.nil ha))))))), s, ⟨Nat.zero_le _, rfl, rfl, by rw [hel], fun x hx => hR e (List.mem_of_getElem? he) x hx, fun x hx => hx⟩⟩
          · clear ha s; rintro ⟨j, mix, D, cD, X2⟩ a w ⟨ha, s, hp⟩
            refine wp_seq ?_
            refine wp_seq ?_
            refine wp_region_lit ?_
            refine st_val (.int .i64 ((j : Nat) : Int)) ha (by kernel_rfl) (by kernel_rfl) ?_
            clear ha; intro a ha
            refine st_val (.pointer (some ⟨g6, 3, none⟩)) ha (by kernel_rfl) (by kernel_rfl) ?_
            clear ha; intro a ha
            refine st_val (.slice Ae e.l.length e.c) ha (by kernel_rfl) (run_load1 (of_ := 3) (s.blkIs 6 rfl) rfl (by kernel_rfl) Try.isAgg78 rfl) ?_
            clear ha; intro a ha
            refine st_val (.int .i64 ((e.l.length : Nat) : Int)) ha (by kernel_rfl) (by kernel_rfl) ?_
            clear ha; intro a ha
            refine st_val (.bool (decide (((j : Nat) : Int) < ((e.l.length : Nat) : Int)))) ha (by kernel_rfl) (by kernel_rfl) ?_
            clear ha; intro a ha
            refine wpList_nil ?_
            refine then_normal ?_
            refine wp_part (decide (((j : Nat) : Int) < ((e.l.length : Nat) : Int))) ha rfl (by kernel_rfl) (fun hb => ?_) (fun hb => ?_)
            · rw [hb] at ha; replace hb : (((j : Nat) : Int) < ((e.l.length : Nat) : Int)) := of_decide_eq_true hb
              have hml := hp.2.1
              have hjm : j < mix.length := by omega
              obtain ⟨x, hxd⟩ : ∃ x, d.l[j]? = some x := ⟨_, List.getElem?_eq_getElem (by omega)⟩
              have hx : mix[j]? = some x := by have := congrArg (fun l => l[0]?) hp.2.2.2.1; simp only [List.getElem?_drop, Nat.add_zero] at this; rw [this]; exact hxd
              have hxm2 : ∃ d ∈ ds, x ∈ d.l := ⟨d, List.mem_of_getElem? hd, List.mem_of_getElem? hxd⟩
              have hxok := hp.2.2.2.2.1 x (List.mem_of_getElem? hx)
              have hxb := (hn.row hd).row hxd
              have hokx : okT x.t := (hpost.2.2.1.1 d.t (List.mem_of_getElem? (tns_at hd))).2.2 x.t (List.mem_map.2 ⟨x, List.mem_of_getElem? hxd, rfl⟩)
              have hup : Up (leftU (left [] (things (tns ds) (o.take k))) (tds (d.l.take j))) := leftU_up (left_up List.Pairwise.nil _) _
              have hRj : (leftU (left [] (things (tns ds) (o.take k))) (tds (d.l.take j))).length ≤ 1000000 := by have := leftU_le (left [] (things (tns ds) (o.take k))) (tds (d.l.take j)); have := tds_le d.l j; omega
              obtain ⟨ae, hA⟩ := Own.addr (s.at_ (j := 2) rfl) (by omega)
              subst hA
              refine wp_skip ?_
              refine then_normal ?_
              refine wp_seq ?_
              refine wp_block ?_
              refine wp_seq ?_
              refine wp_region_lit ?_
              refine st_val (.pointer (some ⟨g6, 3, none⟩)) ha (by kernel_rfl) (by kernel_rfl) ?_
              clear ha; intro a ha
              refine st_val (.slice (some ae) e.l.length e.c) ha (by kernel_rfl) (run_load1 (of_ := 3) (s.blkIs 6 rfl) rfl (by kernel_rfl) Try.isAgg78 rfl) ?_
              clear ha; intro a ha
              refine st_val (.int .i64 ((j : Nat) : Int)) ha (by kernel_rfl) (by kernel_rfl) ?_
              clear ha; intro a ha
              refine st_val (.pointer (some (ae.add (j * 7)))) ha (by kernel_rfl) (run_indexAddr' (kd := .i64) (i := ((j : Nat) : Int)) (n := e.l.length) (c := e.c) j rfl Try.underlying78 Try.sizeOf81 (by kernel_rfl) (by kernel_rfl) rfl (by first | assumption | omega) _) ?_
              clear ha; intro a ha
              refine st_val (.agg #[.int .i64 x.t.op, .string (str x.t.key), .string (str x.t.val), .string (str x.t.frm), .string (str x.t.to), .bool x.t.is, .slice x.A x.t.rows.length x.c]) ha (by kernel_rfl) (run_loadAtN (i := j * 7) [.int .i64 x.t.op, .string (str x.t.key), .string (str x.t.val), .string (str x.t.frm), .string (str x.t.to), .bool x.t.is, .slice x.A x.t.rows.length x.c] ((hml ▸ (Own.reads (s.at_ (j := 2) rfl).1))) rfl (by kernel_rfl) Try.isAgg81 Try.sizeOf81 (fun q_ hq_ => dvs_at hx hq_) rfl) ?_
              clear ha; intro a ha
              refine st_ex ha (by kernel_rfl) (ex_alloc [.int .i64 0, .string (str []), .string (str []), .string (str []), .string (str []), .bool false, .slice none 0 0] s rfl (Try.zeroValue81 _) (by kernel_rfl)) ?_
              clear ha; rintro _ w a ⟨g7, rfl, s⟩ ha
              replace s : St W (.blk g7 [.int .i64 0, .string (str []), .string (str []), .string (str []), .string (str []), .bool false, .slice none 0 0] 81 :: Own 3 1 (some ab) ds.length c3 (nats o) :: Own 80 4 (some a5) ds.length cb (nvs es) :: Own 81 7 (some ae) e.l.length e.c (dvs mix) :: Rest 81 es i :: Own 54 2 D ((leftU (left [] (things (tns ds) (o.take k))) (tds (d.l.take j))).length) cD (rws (leftU (left [] (things (tns ds) (o.take k))) (tds (d.l.take j)))) :: Kn (RowsP X2) :: .blk g6 [.int .i64 e.id, .int .i64 e.wall, .int .i64 e.logic, .slice (some ae) e.l.length e.c] 80 :: L) w := s
              refine st_exd ha (by kernel_rfl) (ex_store (of_ := 0) 0 [.int .i64 x.t.op, .string (str x.t.key), .string (str x.t.val), .string (str x.t.frm), .string (str x.t.to), .bool x.t.is, .slice x.A x.t.rows.length x.c] s rfl rfl (by kernel_rfl) (by kernel_rfl) (Try.sizeOf81 _) rfl (by simp [Value.oneCell']) (Nat.le_of_ble_eq_true rfl)) ?_
              clear ha; rintro w a s ha
              replace s : St W (.blk g7 [.int .i64 x.t.op, .string (str x.t.key), .string (str x.t.val), .string (str x.t.frm), .string (str x.t.to), .bool x.t.is, .slice x.A x.t.rows.length x.c] 81 :: Own 3 1 (some ab) ds.length c3 (nats o) :: Own 80 4 (some a5) ds.length cb (nvs es) :: Own 81 7 (some ae) e.l.length e.c (dvs mix) :: Rest 81 es i :: Own 54 2 D ((leftU (left [] (things (tns ds) (o.take k))) (tds (d.l.take j))).length) cD (rws (leftU (left [] (things (tns ds) (o.take k))) (tds (d.l.take j)))) :: Kn (RowsP X2) :: .blk g6 [.int .i64 e.id, .int .i64 e.wall, .int .i64 e.logic, .slice (some ae) e.l.length e.c] 80 :: L) w := s
              refine wpList_nil ?_
              refine then_normal ?_
              refine wp_seq ?_
              refine wp_seq ?_
              refine wp_region_lit ?_
              refine st_val (.pointer (some ⟨g7, 0, none⟩)) ha (by kernel_rfl) (by kernel_rfl) ?_
              clear ha; intro a ha
              refine st_val (.int .i64 x.t.op) ha (by kernel_rfl) (run_load1 (of_ := 0) (s.blkIs 0 rfl) rfl (by kernel_rfl) Try.isAgg3 rfl) ?_
              clear ha; intro a ha
              refine st_val (.bool (x.t.op == (1 : Int))) ha (by kernel_rfl) (by kernel_rfl) ?_
              clear ha; intro a ha
              refine wpList_nil ?_
              refine then_normal ?_
              refine wp_part (x.t.op == (1 : Int)) ha rfl (by kernel_rfl) (fun hb => ?_) (fun hb => ?_)
              · rw [hb] at ha; have hb_ := hb; replace hb := eq_of_beq hb
                have hop := hb
                refine wp_seq ?_
                refine wp_region_lit ?_
                refine st_val (.slice D ((leftU (left [] (things (tns ds) (o.take k))) (tds (d.l.take j))).length) cD) ha (by kernel_rfl) (by kernel_rfl) ?_
                clear ha; intro a ha
                refine st_val (.pointer (some ⟨g7, 1, none⟩)) ha (by kernel_rfl) (by kernel_rfl) ?_
                clear ha; intro a ha
                refine st_val (.string (str x.t.key)) ha (by kernel_rfl) (run_load1 (of_ := 1) (s.blkIs 0 rfl) rfl (by kernel_rfl) Try.isAgg9 rfl) ?_
                clear ha; intro a ha
                refine st_val (.pointer (some ⟨g7, 1, none⟩)) ha (by kernel_rfl) (by kernel_rfl) ?_
                clear ha; intro a ha
                refine st_val (.string (str x.t.key)) ha (by kernel_rfl) (run_load1 (of_ := 1) (s.blkIs 0 rfl) rfl (by kernel_rfl) Try.isAgg9 rfl) ?_
                clear ha; intro a ha
                refine st_val (.string (str (x.t.key ++ [0]))) ha (by kernel_rfl) (run_sadd rfl (by kernel_rfl) (by kernel_rfl) (by first | omega | (simp only [List.length_cons, List.length_nil]; omega)) _) ?_
                clear ha; intro a ha
                refine st_val (.agg #[.string (str x.t.key), .string (str (x.t.key ++ [0]))]) ha (by kernel_rfl) (by kernel_rfl) ?_
                clear ha; intro a ha
                rcases hfd : (leftU (left [] (things (tns ds) (o.take k))) (tds (d.l.take j))).find? (fun y => decide (y.key = x.t.key)) with _ | r
                · have hX : within (leftU (left [] (things (tns ds) (o.take k))) (tds (d.l.take j))) x.t.key (x.t.key ++ [0]) = [] := by rw [within_own _ hup, hfd]
                  refine st_call ha (by kernel_rfl) (by kernel_rfl) (rwithin_is W _ w D cD (leftU (left [] (things (tns ds) (o.take k))) (tds (d.l.take j))) (Knows.own (j := 5) rfl) hRj x.t.key (x.t.key ++ [0]) ([] : List Rw) hX s) ?_
                  rintro _ w ⟨A10, c11, rfl, s⟩
                  replace s : St W (Own 54 2 A10 0 c11 (rws ([] : List Rw)) :: .blk g7 [.int .i64 x.t.op, .string (str x.t.key), .string (str x.t.val), .string (str x.t.frm), .string (str x.t.to), .bool x.t.is, .slice x.A x.t.rows.length x.c] 81 :: Own 3 1 (some ab) ds.length c3 (nats o) :: Own 80 4 (some a5) ds.length cb (nvs es) :: Own 81 7 (some ae) e.l.length e.c (dvs mix) :: Rest 81 es i :: Own 54 2 D ((leftU (left [] (things (tns ds) (o.take k))) (tds (d.l.take j))).length) cD (rws (leftU (left [] (things (tns ds) (o.take k))) (tds (d.l.take j)))) :: Kn (RowsP X2) :: .blk g6 [.int .i64 e.id, .int .i64 e.wall, .int .i64 e.logic, .slice (some ae) e.l.length e.c] 80 :: L) w := s
                  refine ⟨_, rfl, ?_⟩; clear ha; intro a ha
                  refine st_val (.slice A10 0 c11) ha (by kernel_rfl) (by kernel_rfl) ?_
                  clear ha; intro a ha
                  refine wpList_nil ?_
                  refine then_normal ?_
                  refine wp_seq ?_
                  refine wp_region_lit ?_
                  refine st_val (.slice A10 0 c11) ha (by kernel_rfl) (by kernel_rfl) ?_
                  clear ha; intro a ha
                  refine st_val (.int .i64 0) ha (by kernel_rfl) (by kernel_rfl) ?_
                  clear ha; intro a ha
                  refine st_val (.bool false) ha (by kernel_rfl) (by kernel_rfl) ?_
                  clear ha; intro a ha
                  refine st_val (.pointer (some ⟨g7, 5, none⟩)) ha (by kernel_rfl) (by kernel_rfl) ?_
                  clear ha; intro a ha
                  refine st_exd ha (by kernel_rfl) (ex_store (of_ := 5) 1 [.bool false] s rfl rfl (by kernel_rfl) (by kernel_rfl) (Try.sizeOf4 _) rfl (by simp [Value.oneCell']) (Nat.le_of_ble_eq_true rfl)) ?_
                  clear ha; rintro w a s ha
                  replace s : St W (Own 54 2 A10 0 c11 (rws ([] : List Rw)) :: .blk g7 [.int .i64 x.t.op, .string (str x.t.key), .string (str x.t.val), .string (str x.t.frm), .string (str x.t.to), .bool false, .slice x.A x.t.rows.length x.c] 81 :: Own 3 1 (some ab) ds.length c3 (nats o) :: Own 80 4 (some a5) ds.length cb (nvs es) :: Own 81 7 (some ae) e.l.length e.c (dvs mix) :: Rest 81 es i :: Own 54 2 D ((leftU (left [] (things (tns ds) (o.take k))) (tds (d.l.take j))).length) cD (rws (leftU (left [] (things (tns ds) (o.take k))) (tds (d.l.take j)))) :: Kn (RowsP X2) :: .blk g6 [.int .i64 e.id, .int .i64 e.wall, .int .i64 e.logic, .slice (some ae) e.l.length e.c] 80 :: L) w := s
                  refine wpList_nil ?_
                  refine then_normal ?_
                  refine wp_seq ?_
                  refine wp_region_lit ?_
                  refine st_val (.pointer (some ⟨g7, 2, none⟩)) ha (by kernel_rfl) (by kernel_rfl) ?_
                  clear ha; intro a ha
                  refine st_exd ha (by kernel_rfl) (ex_store (of_ := 2) 1 [.string (str [])] s rfl rfl (by kernel_rfl) (by kernel_rfl) (Try.sizeOf9 _) rfl (by simp [Value.oneCell']) (Nat.le_of_ble_eq_true rfl)) ?_
                  clear ha; rintro w a s ha
                  replace s : St W (Own 54 2 A10 0 c11 (rws ([] : List Rw)) :: .blk g7 [.int .i64 x.t.op, .string (str x.t.key), .string (str []), .string (str x.t.frm), .string (str x.t.to), .bool false, .slice x.A x.t.rows.length x.c] 81 :: Own 3 1 (some ab) ds.length c3 (nats o) :: Own 80 4 (some a5) ds.length cb (nvs es) :: Own 81 7 (some ae) e.l.length e.c (dvs mix) :: Rest 81 es i :: Own 54 2 D ((leftU (left [] (things (tns ds) (o.take k))) (tds (d.l.take j))).length) cD (rws (leftU (left [] (things (tns ds) (o.take k))) (tds (d.l.take j)))) :: Kn (RowsP X2) :: .blk g6 [.int .i64 e.id, .int .i64 e.wall, .int .i64 e.logic, .slice (some ae) e.l.length e.c] 80 :: L) w := s
                  refine wpList_nil ?_
                  refine then_normal ?_
                  refine wp_seq ?_
                  refine wp_region_lit ?_
                  refine st_val (.pointer (some ⟨g7, 5, none⟩)) ha (by kernel_rfl) (by kernel_rfl) ?_
                  clear ha; intro a ha
                  refine st_val (.bool false) ha (by kernel_rfl) (run_load1 (of_ := 5) (s.blkIs 1 rfl) rfl (by kernel_rfl) Try.isAgg4 rfl) ?_
                  clear ha; intro a ha
                  refine wpList_nil ?_
                  refine then_normal ?_
                  refine wp_false ha rfl (by kernel_rfl) ?_
                  refine wp_skip ?_
                  refine then_normal ?_
                  refine wp_seq ?_
                  refine wp_seq ?_
                  refine wp_region_lit ?_
                  refine st_val (.pointer (some ⟨g7, 0, none⟩)) ha (by kernel_rfl) (by kernel_rfl) ?_
                  clear ha; intro a ha
                  refine st_val (.int .i64 x.t.op) ha (by kernel_rfl) (run_load1 (of_ := 0) (s.blkIs 1 rfl) rfl (by kernel_rfl) Try.isAgg3 rfl) ?_
                  clear ha; intro a ha
                  refine st_val (.bool false) ha (by kernel_rfl) (run_known (show (x.t.op == (2 : Int)) = false from beq_eq_false_iff_ne.2 (by omega)) (by kernel_rfl)) ?_
                  clear ha; intro a ha
                  refine wpList_nil ?_
                  refine then_normal ?_
                  refine wp_false ha rfl (by kernel_rfl) ?_
                  refine wp_skip ?_
                  refine then_normal ?_
                  refine wp_seq ?_
                  refine wp_region_lit ?_
                  refine st_val (.pointer (some ⟨g6, 3, none⟩)) ha (by kernel_rfl) (by kernel_rfl) ?_
                  clear ha; intro a ha
                  refine st_val (.slice (some ae) e.l.length e.c) ha (by kernel_rfl) (run_load1 (of_ := 3) (s.blkIs 8 rfl) rfl (by kernel_rfl) Try.isAgg78 rfl) ?_
                  clear ha; intro a ha
                  refine st_val (.int .i64 ((j : Nat) : Int)) ha (by kernel_rfl) (by kernel_rfl) ?_
                  clear ha; intro a ha
                  refine st_val (.agg #[.int .i64 x.t.op, .string (str x.t.key), .string (str []), .string (str x.t.frm), .string (str x.t.to), .bool false, .slice x.A x.t.rows.length x.c]) ha (by kernel_rfl) (run_loadN (of_ := 0) [.int .i64 x.t.op, .string (str x.t.key), .string (str []), .string (str x.t.frm), .string (str x.t.to), .bool false, .slice x.A x.t.rows.length x.c] (s.blkIs 1 rfl) rfl (by kernel_rfl) Try.isAgg81 Try.sizeOf81 rfl (Nat.le_of_ble_eq_true rfl)) ?_
                  clear ha; intro a ha
                  refine st_val (.pointer (some (ae.add (j * 7)))) ha (by kernel_rfl) (run_indexAddr' (kd := .i64) (i := ((j : Nat) : Int)) (n := e.l.length) (c := e.c) j rfl Try.underlying78 Try.sizeOf81 (by kernel_rfl) (by kernel_rfl) rfl (by first | assumption | omega) _) ?_
                  clear ha; intro a ha
                  refine st_exd ha (by kernel_rfl) (ex_store_own (i := j * 7) 4 [.int .i64 x.t.op, .string (str x.t.key), .string (str []), .string (str x.t.frm), .string (str x.t.to), .bool false, .slice x.A x.t.rows.length x.c] s (show putAt (dvs mix) (j * 7) [.int .i64 x.t.op, .string (str x.t.key), .string (str []), .string (str x.t.frm), .string (str x.t.to), .bool false, .slice x.A x.t.rows.length x.c] = dvs (mix.set j (⟨⟨x.t.op, x.t.key, [], x.t.frm, x.t.to, false, x.t.rows⟩, x.A, x.c⟩ : Dd)) from putAt_dvs hjm (⟨⟨x.t.op, x.t.key, [], x.t.frm, x.t.to, false, x.t.rows⟩, x.A, x.c⟩ : Dd)) rfl rfl (by kernel_rfl) (by kernel_rfl) (Try.sizeOf81 _) rfl (by simp [Value.oneCell']) (by simp) (by rw [dvs_len]; simp only [List.length_cons, List.length_nil]; omega)) ?_
                  clear ha; rintro w a s ha
                  replace s : St W (Own 54 2 A10 0 c11 (rws ([] : List Rw)) :: .blk g7 [.int .i64 x.t.op, .string (str x.t.key), .string (str []), .string (str x.t.frm), .string (str x.t.to), .bool false, .slice x.A x.t.rows.length x.c] 81 :: Own 3 1 (some ab) ds.length c3 (nats o) :: Own 80 4 (some a5) ds.length cb (nvs es) :: Own 81 7 (some ae) e.l.length e.c (dvs (mix.set j (⟨⟨x.t.op, x.t.key, [], x.t.frm, x.t.to, false, x.t.rows⟩, x.A, x.c⟩ : Dd))) :: Rest 81 es i :: Own 54 2 D ((leftU (left [] (things (tns ds) (o.take k))) (tds (d.l.take j))).length) cD (rws (leftU (left [] (things (tns ds) (o.take k))) (tds (d.l.take j)))) :: Kn (RowsP X2) :: .blk g6 [.int .i64 e.id, .int .i64 e.wall, .int .i64 e.logic, .slice (some ae) e.l.length e.c] 80 :: L) w := s
                  refine wpList_nil ?_
                  refine then_normal ?_
                  refine wp_region_lit ?_
                  refine st_val (.slice D ((leftU (left [] (things (tns ds) (o.take k))) (tds (d.l.take j))).length) cD) ha (by kernel_rfl) (by kernel_rfl) ?_
                  clear ha; intro a ha
                  refine st_val (.agg #[.int .i64 x.t.op, .string (str x.t.key), .string (str []), .string (str x.t.frm), .string (str x.t.to), .bool false, .slice x.A x.t.rows.length x.c]) ha (by kernel_rfl) (run_loadN (of_ := 0) [.int .i64 x.t.op, .string (str x.t.key), .string (str []), .string (str x.t.frm), .string (str x.t.to), .bool false, .slice x.A x.t.rows.length x.c] (s.blkIs 1 rfl) rfl (by kernel_rfl) Try.isAgg81 Try.sizeOf81 rfl (Nat.le_of_ble_eq_true rfl)) ?_
                  clear ha; intro a ha
                  replace s := s.at_ (j := 6) rfl
                  replace s : St W (Own 54 2 D ((leftU (left [] (things (tns ds) (o.take k))) (tds (d.l.take j))).length) cD (rws (leftU (left [] (things (tns ds) (o.take k))) (tds (d.l.take j)))) :: Own 54 2 A10 0 c11 (rws ([] : List Rw)) :: .blk g7 [.int .i64 x.t.op, .string (str x.t.key), .string (str []), .string (str x.t.frm), .string (str x.t.to), .bool false, .slice x.A x.t.rows.length x.c] 81 :: Own 3 1 (some ab) ds.length c3 (nats o) :: Own 80 4 (some a5) ds.length cb (nvs es) :: Own 81 7 (some ae) e.l.length e.c (dvs (mix.set j (⟨⟨x.t.op, x.t.key, [], x.t.frm, x.t.to, false, x.t.rows⟩, x.A, x.c⟩ : Dd))) :: Rest 81 es i :: Kn (RowsP X2) :: .blk g6 [.int .i64 e.id, .int .i64 e.wall, .int .i64 e.logic, .slice (some ae) e.l.length e.c] 80 :: L) w := s
                  have hxr : (⟨⟨x.t.op, x.t.key, [], x.t.frm, x.t.to, false, x.t.rows⟩, x.A, x.c⟩ : Dd).t = rightD (leftU (left [] (things (tns ds) (o.take k))) (tds (d.l.take j))) x.t := by unfold rightD lookR; rw [if_pos hop, hfd]; rfl
                  refine st_call ha (by kernel_rfl) (by kernel_rfl) (one_any W _ w D cD (leftU (left [] (things (tns ds) (o.take k))) (tds (d.l.take j))) hup hRj (⟨⟨x.t.op, x.t.key, [], x.t.frm, x.t.to, false, x.t.rows⟩, x.A, x.c⟩ : Dd) (fun w s => hxok.reads (hr _ s.tail.tail.tail.tail.tail.tail.tail.tail) ((Knows.kn (j := 6) rfl) w s)) hxb.1 hxb.2 hokx s) ?_
                  rintro _ w ⟨A13, c14, rfl, s⟩
                  replace s : St W (Own 54 2 A13 ((nextR (leftU (left [] (things (tns ds) (o.take k))) (tds (d.l.take j))) (⟨⟨x.t.op, x.t.key, [], x.t.frm, x.t.to, false, x.t.rows⟩, x.A, x.c⟩ : Dd).t).length) c14 (rws (nextR (leftU (left [] (things (tns ds) (o.take k))) (tds (d.l.take j))) (⟨⟨x.t.op, x.t.key, [], x.t.frm, x.t.to, false, x.t.rows⟩, x.A, x.c⟩ : Dd).t)) :: Own 54 2 A10 0 c11 (rws ([] : List Rw)) :: .blk g7 [.int .i64 x.t.op, .string (str x.t.key), .string (str []), .string (str x.t.frm), .string (str x.t.to), .bool false, .slice x.A x.t.rows.length x.c] 81 :: Own 3 1 (some ab) ds.length c3 (nats o) :: Own 80 4 (some a5) ds.length cb (nvs es) :: Own 81 7 (some ae) e.l.length e.c (dvs (mix.set j (⟨⟨x.t.op, x.t.key, [], x.t.frm, x.t.to, false, x.t.rows⟩, x.A, x.c⟩ : Dd))) :: Rest 81 es i :: Kn (RowsP X2) :: .blk g6 [.int .i64 e.id, .int .i64 e.wall, .int .i64 e.logic, .slice (some ae) e.l.length e.c] 80 :: L) w := s
                  refine ⟨_, rfl, ?_⟩; clear ha; intro a ha
                  refine st_val (.tuple #[.slice A13 ((nextR (leftU (left [] (things (tns ds) (o.take k))) (tds (d.l.take j))) (⟨⟨x.t.op, x.t.key, [], x.t.frm, x.t.to, false, x.t.rows⟩, x.A, x.c⟩ : Dd).t).length) c14, .bool (isWell (leftU (left [] (things (tns ds) (o.take k))) (tds (d.l.take j))) (⟨⟨x.t.op, x.t.key, [], x.t.frm, x.t.to, false, x.t.rows⟩, x.A, x.c⟩ : Dd).t)]) ha (by kernel_rfl) (by kernel_rfl) ?_
                  clear ha; intro a ha
                  refine st_val (.slice A13 ((nextR (leftU (left [] (things (tns ds) (o.take k))) (tds (d.l.take j))) (⟨⟨x.t.op, x.t.key, [], x.t.frm, x.t.to, false, x.t.rows⟩, x.A, x.c⟩ : Dd).t).length) c14) ha (by kernel_rfl) (by kernel_rfl) ?_
                  clear ha; intro a ha
                  refine st_val (.bool (isWell (leftU (left [] (things (tns ds) (o.take k))) (tds (d.l.take j))) (⟨⟨x.t.op, x.t.key, [], x.t.frm, x.t.to, false, x.t.rows⟩, x.A, x.c⟩ : Dd).t)) ha (by kernel_rfl) (by kernel_rfl) ?_
                  clear ha; intro a ha
                  refine st_val (.slice A13 ((nextR (leftU (left [] (things (tns ds) (o.take k))) (tds (d.l.take j))) (⟨⟨x.t.op, x.t.key, [], x.t.frm, x.t.to, false, x.t.rows⟩, x.A, x.c⟩ : Dd).t).length) c14) ha (by kernel_rfl) (by kernel_rfl) ?_
                  clear ha; intro a ha
                  refine wpList_nil ?_
                  refine block_normal ?_
                  refine then_normal ?_
                  refine wp_region_lit ?_
                  refine st_val (.int .i64 ((j : Nat) : Int)) ha (by kernel_rfl) (by kernel_rfl) ?_
                  clear ha; intro a ha
                  refine st_val (.int .i64 ((j + 1 : Nat) : Int)) ha (by kernel_rfl) (run_arith (((j : Nat) : Int) + (1 : Int)) ((j + 1 : Nat) : Int) rfl (by kernel_rfl) (by kernel_rfl) (.inl ⟨rfl, rfl⟩) (by rw [wrap64_in (by omega)]; try omega) _) ?_
                  clear ha; intro a ha
                  refine st_val (.int .i64 ((j + 1 : Nat) : Int)) ha (by kernel_rfl) (by kernel_rfl) ?_
                  clear ha; intro a ha
                  refine wpList_nil ?_
                  refine then_normal ?_
                  replace s := s.at_ (j := 8) rfl
                  replace s : St W (.blk g6 [.int .i64 e.id, .int .i64 e.wall, .int .i64 e.logic, .slice (some ae) e.l.length e.c] 80 :: Own 54 2 A13 ((nextR (leftU (left [] (things (tns ds) (o.take k))) (tds (d.l.take j))) (⟨⟨x.t.op, x.t.key, [], x.t.frm, x.t.to, false, x.t.rows⟩, x.A, x.c⟩ : Dd).t).length) c14 (rws (nextR (leftU (left [] (things (tns ds) (o.take k))) (tds (d.l.take j))) (⟨⟨x.t.op, x.t.key, [], x.t.frm, x.t.to, false, x.t.rows⟩, x.A, x.c⟩ : Dd).t)) :: Own 54 2 A10 0 c11 (rws ([] : List Rw)) :: .blk g7 [.int .i64 x.t.op, .string (str x.t.key), .string (str []), .string (str x.t.frm), .string (str x.t.to), .bool false, .slice x.A x.t.rows.length x.c] 81 :: Own 3 1 (some ab) ds.length c3 (nats o) :: Own 80 4 (some a5) ds.length cb (nvs es) :: Own 81 7 (some ae) e.l.length e.c (dvs (mix.set j (⟨⟨x.t.op, x.t.key, [], x.t.frm, x.t.to, false, x.t.rows⟩, x.A, x.c⟩ : Dd))) :: Rest 81 es i :: Kn (RowsP X2) :: L) w := s
                  replace s := s.at_ (j := 8) rfl
                  replace s : St W (Kn (RowsP X2) :: .blk g6 [.int .i64 e.id, .int .i64 e.wall, .int .i64 e.logic, .slice (some ae) e.l.length e.c] 80 :: Own 54 2 A13 ((nextR (leftU (left [] (things (tns ds) (o.take k))) (tds (d.l.take j))) (⟨⟨x.t.op, x.t.key, [], x.t.frm, x.t.to, false, x.t.rows⟩, x.A, x.c⟩ : Dd).t).length) c14 (rws (nextR (leftU (left [] (things (tns ds) (o.take k))) (tds (d.l.take j))) (⟨⟨x.t.op, x.t.key, [], x.t.frm, x.t.to, false, x.t.rows⟩, x.A, x.c⟩ : Dd).t)) :: Own 54 2 A10 0 c11 (rws ([] : List Rw)) :: .blk g7 [.int .i64 x.t.op, .string (str x.t.key), .string (str []), .string (str x.t.frm), .string (str x.t.to), .bool false, .slice x.A x.t.rows.length x.c] 81 :: Own 3 1 (some ab) ds.length c3 (nats o) :: Own 80 4 (some a5) ds.length cb (nvs es) :: Own 81 7 (some ae) e.l.length e.c (dvs (mix.set j (⟨⟨x.t.op, x.t.key, [], x.t.frm, x.t.to, false, x.t.rows⟩, x.A, x.c⟩ : Dd))) :: Rest 81 es i :: L) w := s
                  replace s := s.at_ (j := 2) rfl
                  replace s : St W (Own 54 2 A13 ((nextR (leftU (left [] (things (tns ds) (o.take k))) (tds (d.l.take j))) (⟨⟨x.t.op, x.t.key, [], x.t.frm, x.t.to, false, x.t.rows⟩, x.A, x.c⟩ : Dd).t).length) c14 (rws (nextR (leftU (left [] (things (tns ds) (o.take k))) (tds (d.l.take j))) (⟨⟨x.t.op, x.t.key, [], x.t.frm, x.t.to, false, x.t.rows⟩, x.A, x.c⟩ : Dd).t)) :: Kn (RowsP X2) :: .blk g6 [.int .i64 e.id, .int .i64 e.wall, .int .i64 e.logic, .slice (some ae) e.l.length e.c] 80 :: Own 54 2 A10 0 c11 (rws ([] : List Rw)) :: .blk g7 [.int .i64 x.t.op, .string (str x.t.key), .string (str []), .string (str x.t.frm), .string (str x.t.to), .bool false, .slice x.A x.t.rows.length x.c] 81 :: Own 3 1 (some ab) ds.length c3 (nats o) :: Own 80 4 (some a5) ds.length cb (nvs es) :: Own 81 7 (some ae) e.l.length e.c (dvs (mix.set j (⟨⟨x.t.op, x.t.key, [], x.t.frm, x.t.to, false, x.t.rows⟩, x.A, x.c⟩ : Dd))) :: Rest 81 es i :: L) w := s
                  replace s := s.at_ (j := 8) rfl
                  replace s : St W (Rest 81 es i :: Own 54 2 A13 ((nextR (leftU (left [] (things (tns ds) (o.take k))) (tds (d.l.take j))) (⟨⟨x.t.op, x.t.key, [], x.t.frm, x.t.to, false, x.t.rows⟩, x.A, x.c⟩ : Dd).t).length) c14 (rws (nextR (leftU (left [] (things (tns ds) (o.take k))) (tds (d.l.take j))) (⟨⟨x.t.op, x.t.key, [], x.t.frm, x.t.to, false, x.t.rows⟩, x.A, x.c⟩ : Dd).t)) :: Kn (RowsP X2) :: .blk g6 [.int .i64 e.id, .int .i64 e.wall, .int .i64 e.logic, .slice (some ae) e.l.length e.c] 80 :: Own 54 2 A10 0 c11 (rws ([] : List Rw)) :: .blk g7 [.int .i64 x.t.op, .string (str x.t.key), .string (str []), .string (str x.t.frm), .string (str x.t.to), .bool false, .slice x.A x.t.rows.length x.c] 81 :: Own 3 1 (some ab) ds.length c3 (nats o) :: Own 80 4 (some a5) ds.length cb (nvs es) :: Own 81 7 (some ae) e.l.length e.c (dvs (mix.set j (⟨⟨x.t.op, x.t.key, [], x.t.frm, x.t.to, false, x.t.rows⟩, x.A, x.c⟩ : Dd))) :: L) w := s
                  replace s := s.at_ (j := 8) rfl
                  replace s : St W (Own 81 7 (some ae) e.l.length e.c (dvs (mix.set j (⟨⟨x.t.op, x.t.key, [], x.t.frm, x.t.to, false, x.t.rows⟩, x.A, x.c⟩ : Dd))) :: Rest 81 es i :: Own 54 2 A13 ((nextR (leftU (left [] (things (tns ds) (o.take k))) (tds (d.l.take j))) (⟨⟨x.t.op, x.t.key, [], x.t.frm, x.t.to, false, x.t.rows⟩, x.A, x.c⟩ : Dd).t).length) c14 (rws (nextR (leftU (left [] (things (tns ds) (o.take k))) (tds (d.l.take j))) (⟨⟨x.t.op, x.t.key, [], x.t.frm, x.t.to, false, x.t.rows⟩, x.A, x.c⟩ : Dd).t)) :: Kn (RowsP X2) :: .blk g6 [.int .i64 e.id, .int .i64 e.wall, .int .i64 e.logic, .slice (some ae) e.l.length e.c] 80 :: Own 54 2 A10 0 c11 (rws ([] : List Rw)) :: .blk g7 [.int .i64 x.t.op, .string (str x.t.key), .string (str []), .string (str x.t.frm), .string (str x.t.to), .bool false, .slice x.A x.t.rows.length x.c] 81 :: Own 3 1 (some ab) ds.length c3 (nats o) :: Own 80 4 (some a5) ds.length cb (nvs es) :: L) w := s
                  replace s := s.at_ (j := 8) rfl
                  replace s : St W (Own 80 4 (some a5) ds.length cb (nvs es) :: Own 81 7 (some ae) e.l.length e.c (dvs (mix.set j (⟨⟨x.t.op, x.t.key, [], x.t.frm, x.t.to, false, x.t.rows⟩, x.A, x.c⟩ : Dd))) :: Rest 81 es i :: Own 54 2 A13 ((nextR (leftU (left [] (things (tns ds) (o.take k))) (tds (d.l.take j))) (⟨⟨x.t.op, x.t.key, [], x.t.frm, x.t.to, false, x.t.rows⟩, x.A, x.c⟩ : Dd).t).length) c14 (rws (nextR (leftU (left [] (things (tns ds) (o.take k))) (tds (d.l.take j))) (⟨⟨x.t.op, x.t.key, [], x.t.frm, x.t.to, false, x.t.rows⟩, x.A, x.c⟩ : Dd).t)) :: Kn (RowsP X2) :: .blk g6 [.int .i64 e.id, .int .i64 e.wall, .int .i64 e.logic, .slice (some ae) e.l.length e.c] 80 :: Own 54 2 A10 0 c11 (rws ([] : List Rw)) :: .blk g7 [.int .i64 x.t.op, .string (str x.t.key), .string (str []), .string (str x.t.frm), .string (str x.t.to), .bool false, .slice x.A x.t.rows.length x.c] 81 :: Own 3 1 (some ab) ds.length c3 (nats o) :: L) w := s
                  replace s := s.at_ (j := 8) rfl
                  replace s : St W (Own 3 1 (some ab) ds.length c3 (nats o) :: Own 80 4 (some a5) ds.length cb (nvs es) :: Own 81 7 (some ae) e.l.length e.c (dvs (mix.set j (⟨⟨x.t.op, x.t.key, [], x.t.frm, x.t.to, false, x.t.rows⟩, x.A, x.c⟩ : Dd))) :: Rest 81 es i :: Own 54 2 A13 ((nextR (leftU (left [] (things (tns ds) (o.take k))) (tds (d.l.take j))) (⟨⟨x.t.op, x.t.key, [], x.t.frm, x.t.to, false, x.t.rows⟩, x.A, x.c⟩ : Dd).t).length) c14 (rws (nextR (leftU (left [] (things (tns ds) (o.take k))) (tds (d.l.take j))) (⟨⟨x.t.op, x.t.key, [], x.t.frm, x.t.to, false, x.t.rows⟩, x.A, x.c⟩ : Dd).t)) :: Kn (RowsP X2) :: .blk g6 [.int .i64 e.id, .int .i64 e.wall, .int .i64 e.logic, .slice (some ae) e.l.length e.c] 80 :: Own 54 2 A10 0 c11 (rws ([] : List Rw)) :: .blk g7 [.int .i64 x.t.op, .string (str x.t.key), .string (str []), .string (str x.t.frm), .string (str x.t.to), .bool false, .slice x.A x.t.rows.length x.c] 81 :: L) w := s
                  replace s : St W (Own 3 1 (some ab) ds.length c3 (nats o) :: Own 80 4 (some a5) ds.length cb (nvs es) :: Own 81 7 (some ae) e.l.length e.c (dvs (mix.set j (⟨⟨x.t.op, x.t.key, [], x.t.frm, x.t.to, false, x.t.rows⟩, x.A, x.c⟩ : Dd))) :: Rest 81 es i :: Own 54 2 A13 ((nextR (leftU (left [] (things (tns ds) (o.take k))) (tds (d.l.take j))) (⟨⟨x.t.op, x.t.key, [], x.t.frm, x.t.to, false, x.t.rows⟩, x.A, x.c⟩ : Dd).t).length) c14 (rws (nextR (leftU (left [] (things (tns ds) (o.take k))) (tds (d.l.take j))) (⟨⟨x.t.op, x.t.key, [], x.t.frm, x.t.to, false, x.t.rows⟩, x.A, x.c⟩ : Dd).t)) :: Kn (RowsP X2) :: .blk g6 [.int .i64 e.id, .int .i64 e.wall, .int .i64 e.logic, .slice (some ae) e.l.length e.c] 80 :: L) w := St.mid (A := [Own 3 1 (some ab) ds.length c3 (nats o), Own 80 4 (some a5) ds.length cb (nvs es), Own 81 7 (some ae) e.l.length e.c (dvs (mix.set j (⟨⟨x.t.op, x.t.key, [], x.t.frm, x.t.to, false, x.t.rows⟩, x.A, x.c⟩ : Dd))), Rest 81 es i, Own 54 2 A13 ((nextR (leftU (left [] (things (tns ds) (o.take k))) (tds (d.l.take j))) (⟨⟨x.t.op, x.t.key, [], x.t.frm, x.t.to, false, x.t.rows⟩, x.A, x.c⟩ : Dd).t).length) c14 (rws (nextR (leftU (left [] (things (tns ds) (o.take k))) (tds (d.l.take j))) (⟨⟨x.t.op, x.t.key, [], x.t.frm, x.t.to, false, x.t.rows⟩, x.A, x.c⟩ : Dd).t)), Kn (RowsP X2), .blk g6 [.int .i64 e.id, .int .i64 e.wall, .int .i64 e.logic, .slice (some ae) e.l.length e.c] 80]) (B := [Own 54 2 A10 0 c11 (rws ([] : List Rw)), .blk g7 [.int .i64 x.t.op, .string (str x.t.key), .string (str []), .string (str x.t.frm), .string (str x.t.to), .bool false, .slice x.A x.t.rows.length x.c] 81]) s
                  have hls : (leftU (left [] (things (tns ds) (o.take k))) (tds (d.l.take (j + 1)))) = nextR (leftU (left [] (things (tns ds) (o.take k))) (tds (d.l.take j))) (⟨⟨x.t.op, x.t.key, [], x.t.frm, x.t.to, false, x.t.rows⟩, x.A, x.c⟩ : Dd).t := by rw [tds_take hxd, leftU_snoc, hxr, rightD_next]
                  rw [← hls] at s
                  have hok2 : RowsOk ds (X2) (⟨⟨x.t.op, x.t.key, [], x.t.frm, x.t.to, false, x.t.rows⟩, x.A, x.c⟩ : Dd) := hxok.same hxm2 rfl rfl rfl
                  exact ⟨(j + 1, mix.set j (⟨⟨x.t.op, x.t.key, [], x.t.frm, x.t.to, false, x.t.rows⟩, x.A, x.c⟩ : Dd), A13, c14, X2), (show e.l.length - (j + 1) < e.l.length - j by omega), (Has.cons ha (by kernel_rfl) (by kernel_rfl) (Has.cons ha (by kernel_rfl) (by kernel_rfl) (Has.cons ha (by kernel_rfl) (Eq.trans (b := .slice A13 (nextR (leftU (left [] (things (tns ds) (o.take k))) (tds (d.l.take j))) (⟨⟨x.t.op, x.t.key, [], x.t.frm, x.t.to, false, x.t.rows⟩, x.A, x.c⟩ : Dd).t).length c14) (by kernel_rfl) (by rw [hls])) (Has.cons ha (by kernel_rfl) (by kernel_rfl) (Has.cons ha (by kernel_rfl) (by kernel_rfl) (Has.cons ha (by kernel_rfl) (by kernel_rfl) (Has.nil ha))))))), s, (show j + 1 ≤ e.l.length by omega), by rw [List.length_set]; exact hml, by rw [take_set_succ _ hjm, List.map_append, hp.2.2.1, tds_take hxd, rightL_snoc, ← hxr]; rfl, by rw [drop_set_succ, ← List.drop_drop (i := 1) (j := j) (l := mix), hp.2.2.2.1, List.drop_drop], fun y hy => (List.mem_or_eq_of_mem_set hy).elim (fun hy => hp.2.2.2.2.1 y hy) (fun hy => by rw [hy]; exact hok2), fun x h => hp.2.2.2.2.2 x h⟩
                · have hX : within (leftU (left [] (things (tns ds) (o.take k))) (tds (d.l.take j))) x.t.key (x.t.key ++ [0]) = [r] := by rw [within_own _ hup, hfd]
                  refine st_call ha (by kernel_rfl) (by kernel_rfl) (rwithin_is W _ w D cD (leftU (left [] (things (tns ds) (o.take k))) (tds (d.l.take j))) (Knows.own (j := 5) rfl) hRj x.t.key (x.t.key ++ [0]) ([r] : List Rw) hX s) ?_
                  rintro _ w ⟨A15, c16, rfl, s⟩
                  obtain ⟨ax17, hAx⟩ := Own.addr s (by simp)
                  subst hAx
                  replace s : St W (Own 54 2 (some ax17) 1 c16 (rws ([r] : List Rw)) :: .blk g7 [.int .i64 x.t.op, .string (str x.t.key), .string (str x.t.val), .string (str x.t.frm), .string (str x.t.to), .bool x.t.is, .slice x.A x.t.rows.length x.c] 81 :: Own 3 1 (some ab) ds.length c3 (nats o) :: Own 80 4 (some a5) ds.length cb (nvs es) :: Own 81 7 (some ae) e.l.length e.c (dvs mix) :: Rest 81 es i :: Own 54 2 D ((leftU (left [] (things (tns ds) (o.take k))) (tds (d.l.take j))).length) cD (rws (leftU (left [] (things (tns ds) (o.take k))) (tds (d.l.take j)))) :: Kn (RowsP X2) :: .blk g6 [.int .i64 e.id, .int .i64 e.wall, .int .i64 e.logic, .slice (some ae) e.l.length e.c] 80 :: L) w := s
                  refine ⟨_, rfl, ?_⟩; clear ha; intro a ha
                  refine st_val (.slice (some ax17) 1 c16) ha (by kernel_rfl) (by kernel_rfl) ?_
                  clear ha; intro a ha
                  refine wpList_nil ?_
                  refine then_normal ?_
                  refine wp_seq ?_
                  refine wp_region_lit ?_
                  refine st_val (.slice (some ax17) 1 c16) ha (by kernel_rfl) (by kernel_rfl) ?_
                  clear ha; intro a ha
                  refine st_val (.int .i64 1) ha (by kernel_rfl) (by kernel_rfl) ?_
                  clear ha; intro a ha
                  refine st_val (.bool true) ha (by kernel_rfl) (by kernel_rfl) ?_
                  clear ha; intro a ha
                  refine st_val (.pointer (some ⟨g7, 5, none⟩)) ha (by kernel_rfl) (by kernel_rfl) ?_
                  clear ha; intro a ha
                  refine st_exd ha (by kernel_rfl) (ex_store (of_ := 5) 1 [.bool true] s rfl rfl (by kernel_rfl) (by kernel_rfl) (Try.sizeOf4 _) rfl (by simp [Value.oneCell']) (Nat.le_of_ble_eq_true rfl)) ?_
                  clear ha; rintro w a s ha
                  replace s : St W (Own 54 2 (some ax17) 1 c16 (rws ([r] : List Rw)) :: .blk g7 [.int .i64 x.t.op, .string (str x.t.key), .string (str x.t.val), .string (str x.t.frm), .string (str x.t.to), .bool true, .slice x.A x.t.rows.length x.c] 81 :: Own 3 1 (some ab) ds.length c3 (nats o) :: Own 80 4 (some a5) ds.length cb (nvs es) :: Own 81 7 (some ae) e.l.length e.c (dvs mix) :: Rest 81 es i :: Own 54 2 D ((leftU (left [] (things (tns ds) (o.take k))) (tds (d.l.take j))).length) cD (rws (leftU (left [] (things (tns ds) (o.take k))) (tds (d.l.take j)))) :: Kn (RowsP X2) :: .blk g6 [.int .i64 e.id, .int .i64 e.wall, .int .i64 e.logic, .slice (some ae) e.l.length e.c] 80 :: L) w := s
                  refine wpList_nil ?_
                  refine then_normal ?_
                  refine wp_seq ?_
                  refine wp_region_lit ?_
                  refine st_val (.pointer (some ⟨g7, 2, none⟩)) ha (by kernel_rfl) (by kernel_rfl) ?_
                  clear ha; intro a ha
                  refine st_exd ha (by kernel_rfl) (ex_store (of_ := 2) 1 [.string (str [])] s rfl rfl (by kernel_rfl) (by kernel_rfl) (Try.sizeOf9 _) rfl (by simp [Value.oneCell']) (Nat.le_of_ble_eq_true rfl)) ?_
                  clear ha; rintro w a s ha
                  replace s : St W (Own 54 2 (some ax17) 1 c16 (rws ([r] : List Rw)) :: .blk g7 [.int .i64 x.t.op, .string (str x.t.key), .string (str []), .string (str x.t.frm), .string (str x.t.to), .bool true, .slice x.A x.t.rows.length x.c] 81 :: Own 3 1 (some ab) ds.length c3 (nats o) :: Own 80 4 (some a5) ds.length cb (nvs es) :: Own 81 7 (some ae) e.l.length e.c (dvs mix) :: Rest 81 es i :: Own 54 2 D ((leftU (left [] (things (tns ds) (o.take k))) (tds (d.l.take j))).length) cD (rws (leftU (left [] (things (tns ds) (o.take k))) (tds (d.l.take j)))) :: Kn (RowsP X2) :: .blk g6 [.int .i64 e.id, .int .i64 e.wall, .int .i64 e.logic, .slice (some ae) e.l.length e.c] 80 :: L) w := s
                  refine wpList_nil ?_
                  refine then_normal ?_
                  refine wp_seq ?_
                  refine wp_region_lit ?_
                  refine st_val (.pointer (some ⟨g7, 5, none⟩)) ha (by kernel_rfl) (by kernel_rfl) ?_
                  clear ha; intro a ha
                  refine st_val (.bool true) ha (by kernel_rfl) (run_load1 (of_ := 5) (s.blkIs 1 rfl) rfl (by kernel_rfl) Try.isAgg4 rfl) ?_
                  clear ha; intro a ha
                  refine wpList_nil ?_
                  refine then_normal ?_
                  refine wp_true ha rfl (by kernel_rfl) ?_
                  refine wp_region_lit ?_
                  refine st_val (.slice (some ax17) 1 c16) ha (by kernel_rfl) (by kernel_rfl) ?_
                  clear ha; intro a ha
                  refine st_val (.pointer (some (ax17.add (0 * 2)))) ha (by kernel_rfl) (run_indexAddr' (kd := .i64) (i := 0) (n := 1) (c := c16) 0 rfl Try.underlying35 Try.sizeOf54 (by kernel_rfl) (by kernel_rfl) rfl (by first | assumption | omega) _) ?_
                  clear ha; intro a ha
                  refine st_val (.pointer (some (ax17.add (0 * 2 + 1)))) ha (by kernel_rfl) (run_fieldAddr_at (i := 0 * 2) (off := 1) rfl Try.underlying54 rfl Try.sizeOf9 (by kernel_rfl) _) ?_
                  clear ha; intro a ha
                  refine st_val (.string (str r.val)) ha (by kernel_rfl) (run_loadAt1 (i := 0 * 2 + 1) ((Own.reads (s.at_ (j := 0) rfl).1)) rfl (by kernel_rfl) Try.isAgg9 rfl) ?_
                  clear ha; intro a ha
                  refine st_val (.pointer (some ⟨g7, 2, none⟩)) ha (by kernel_rfl) (by kernel_rfl) ?_
                  clear ha; intro a ha
                  refine st_exd ha (by kernel_rfl) (ex_store (of_ := 2) 1 [.string (str r.val)] s rfl rfl (by kernel_rfl) (by kernel_rfl) (Try.sizeOf9 _) rfl (by simp [Value.oneCell']) (Nat.le_of_ble_eq_true rfl)) ?_
                  clear ha; rintro w a s ha
                  replace s : St W (Own 54 2 (some ax17) 1 c16 (rws ([r] : List Rw)) :: .blk g7 [.int .i64 x.t.op, .string (str x.t.key), .string (str r.val), .string (str x.t.frm), .string (str x.t.to), .bool true, .slice x.A x.t.rows.length x.c] 81 :: Own 3 1 (some ab) ds.length c3 (nats o) :: Own 80 4 (some a5) ds.length cb (nvs es) :: Own 81 7 (some ae) e.l.length e.c (dvs mix) :: Rest 81 es i :: Own 54 2 D ((leftU (left [] (things (tns ds) (o.take k))) (tds (d.l.take j))).length) cD (rws (leftU (left [] (things (tns ds) (o.take k))) (tds (d.l.take j)))) :: Kn (RowsP X2) :: .blk g6 [.int .i64 e.id, .int .i64 e.wall, .int .i64 e.logic, .slice (some ae) e.l.length e.c] 80 :: L) w := s
                  refine wpList_nil ?_
                  refine then_normal ?_
                  refine wp_seq ?_
                  refine wp_seq ?_
                  refine wp_region_lit ?_
                  refine st_val (.pointer (some ⟨g7, 0, none⟩)) ha (by kernel_rfl) (by kernel_rfl) ?_
                  clear ha; intro a ha
                  refine st_val (.int .i64 x.t.op) ha (by kernel_rfl) (run_load1 (of_ := 0) (s.blkIs 1 rfl) rfl (by kernel_rfl) Try.isAgg3 rfl) ?_
                  clear ha; intro a ha
                  refine st_val (.bool false) ha (by kernel_rfl) (run_known (show (x.t.op == (2 : Int)) = false from beq_eq_false_iff_ne.2 (by omega)) (by kernel_rfl)) ?_
                  clear ha; intro a ha
                  refine wpList_nil ?_
                  refine then_normal ?_
                  refine wp_false ha rfl (by kernel_rfl) ?_
                  refine wp_skip ?_
                  refine then_normal ?_
                  refine wp_seq ?_
                  refine wp_region_lit ?_
                  refine st_val (.pointer (some ⟨g6, 3, none⟩)) ha (by kernel_rfl) (by kernel_rfl) ?_
                  clear ha; intro a ha
                  refine st_val (.slice (some ae) e.l.length e.c) ha (by kernel_rfl) (run_load1 (of_ := 3) (s.blkIs 8 rfl) rfl (by kernel_rfl) Try.isAgg78 rfl) ?_
                  clear ha; intro a ha
                  refine st_val (.int .i64 ((j : Nat) : Int)) ha (by kernel_rfl) (by kernel_rfl) ?_
                  clear ha; intro a ha
                  refine st_val (.agg #[.int .i64 x.t.op, .string (str x.t.key), .string (str r.val), .string (str x.t.frm), .string (str x.t.to), .bool true, .slice x.A x.t.rows.length x.c]) ha (by kernel_rfl) (run_loadN (of_ := 0) [.int .i64 x.t.op, .string (str x.t.key), .string (str r.val), .string (str x.t.frm), .string (str x.t.to), .bool true, .slice x.A x.t.rows.length x.c] (s.blkIs 1 rfl) rfl (by kernel_rfl) Try.isAgg81 Try.sizeOf81 rfl (Nat.le_of_ble_eq_true rfl)) ?_
                  clear ha; intro a ha
                  refine st_val (.pointer (some (ae.add (j * 7)))) ha (by kernel_rfl) (run_indexAddr' (kd := .i64) (i := ((j : Nat) : Int)) (n := e.l.length) (c := e.c) j rfl Try.underlying78 Try.sizeOf81 (by kernel_rfl) (by kernel_rfl) rfl (by first | assumption | omega) _) ?_
                  clear ha; intro a ha
                  refine st_exd ha (by kernel_rfl) (ex_store_own (i := j * 7) 4 [.int .i64 x.t.op, .string (str x.t.key), .string (str r.val), .string (str x.t.frm), .string (str x.t.to), .bool true, .slice x.A x.t.rows.length x.c] s (show putAt (dvs mix) (j * 7) [.int .i64 x.t.op, .string (str x.t.key), .string (str r.val), .string (str x.t.frm), .string (str x.t.to), .bool true, .slice x.A x.t.rows.length x.c] = dvs (mix.set j (⟨⟨x.t.op, x.t.key, r.val, x.t.frm, x.t.to, true, x.t.rows⟩, x.A, x.c⟩ : Dd)) from putAt_dvs hjm (⟨⟨x.t.op, x.t.key, r.val, x.t.frm, x.t.to, true, x.t.rows⟩, x.A, x.c⟩ : Dd)) rfl rfl (by kernel_rfl) (by kernel_rfl) (Try.sizeOf81 _) rfl (by simp [Value.oneCell']) (by simp) (by rw [dvs_len]; simp only [List.length_cons, List.length_nil]; omega)) ?_
                  clear ha; rintro w a s ha
                  replace s : St W (Own 54 2 (some ax17) 1 c16 (rws ([r] : List Rw)) :: .blk g7 [.int .i64 x.t.op, .string (str x.t.key), .string (str r.val), .string (str x.t.frm), .string (str x.t.to), .bool true, .slice x.A x.t.rows.length x.c] 81 :: Own 3 1 (some ab) ds.length c3 (nats o) :: Own 80 4 (some a5) ds.length cb (nvs es) :: Own 81 7 (some ae) e.l.length e.c (dvs (mix.set j (⟨⟨x.t.op, x.t.key, r.val, x.t.frm, x.t.to, true, x.t.rows⟩, x.A, x.c⟩ : Dd))) :: Rest 81 es i :: Own 54 2 D ((leftU (left [] (things (tns ds) (o.take k))) (tds (d.l.take j))).length) cD (rws (leftU (left [] (things (tns ds) (o.take k))) (tds (d.l.take j)))) :: Kn (RowsP X2) :: .blk g6 [.int .i64 e.id, .int .i64 e.wall, .int .i64 e.logic, .slice (some ae) e.l.length e.c] 80 :: L) w := s
                  refine wpList_nil ?_
                  refine then_normal ?_
                  refine wp_region_lit ?_
                  refine st_val (.slice D ((leftU (left [] (things (tns ds) (o.take k))) (tds (d.l.take j))).length) cD) ha (by kernel_rfl) (by kernel_rfl) ?_
                  clear ha; intro a ha
                  refine st_val (.agg #[.int .i64 x.t.op, .string (str x.t.key), .string (str r.val), .string (str x.t.frm), .string (str x.t.to), .bool true, .slice x.A x.t.rows.length x.c]) ha (by kernel_rfl) (run_loadN (of_ := 0) [.int .i64 x.t.op, .string (str x.t.key), .string (str r.val), .string (str x.t.frm), .string (str x.t.to), .bool true, .slice x.A x.t.rows.length x.c] (s.blkIs 1 rfl) rfl (by kernel_rfl) Try.isAgg81 Try.sizeOf81 rfl (Nat.le_of_ble_eq_true rfl)) ?_
                  clear ha; intro a ha
                  replace s := s.at_ (j := 6) rfl
                  replace s : St W (Own 54 2 D ((leftU (left [] (things (tns ds) (o.take k))) (tds (d.l.take j))).length) cD (rws (leftU (left [] (things (tns ds) (o.take k))) (tds (d.l.take j)))) :: Own 54 2 (some ax17) 1 c16 (rws ([r] : List Rw)) :: .blk g7 [.int .i64 x.t.op, .string (str x.t.key), .string (str r.val), .string (str x.t.frm), .string (str x.t.to), .bool true, .slice x.A x.t.rows.length x.c] 81 :: Own 3 1 (some ab) ds.length c3 (nats o) :: Own 80 4 (some a5) ds.length cb (nvs es) :: Own 81 7 (some ae) e.l.length e.c (dvs (mix.set j (⟨⟨x.t.op, x.t.key, r.val, x.t.frm, x.t.to, true, x.t.rows⟩, x.A, x.c⟩ : Dd))) :: Rest 81 es i :: Kn (RowsP X2) :: .blk g6 [.int .i64 e.id, .int .i64 e.wall, .int .i64 e.logic, .slice (some ae) e.l.length e.c] 80 :: L) w := s
                  have hxr : (⟨⟨x.t.op, x.t.key, r.val, x.t.frm, x.t.to, true, x.t.rows⟩, x.A, x.c⟩ : Dd).t = rightD (leftU (left [] (things (tns ds) (o.take k))) (tds (d.l.take j))) x.t := by unfold rightD lookR; rw [if_pos hop, hfd]; rfl
                  refine st_call ha (by kernel_rfl) (by kernel_rfl) (one_any W _ w D cD (leftU (left [] (things (tns ds) (o.take k))) (tds (d.l.take j))) hup hRj (⟨⟨x.t.op, x.t.key, r.val, x.t.frm, x.t.to, true, x.t.rows⟩, x.A, x.c⟩ : Dd) (fun w s => hxok.reads (hr _ s.tail.tail.tail.tail.tail.tail.tail.tail) ((Knows.kn (j := 6) rfl) w s)) hxb.1 hxb.2 hokx s) ?_
                  rintro _ w ⟨A18, c19, rfl, s⟩
                  replace s : St W (Own 54 2 A18 ((nextR (leftU (left [] (things (tns ds) (o.take k))) (tds (d.l.take j))) (⟨⟨x.t.op, x.t.key, r.val, x.t.frm, x.t.to, true, x.t.rows⟩, x.A, x.c⟩ : Dd).t).length) c19 (rws (nextR (leftU (left [] (things (tns ds) (o.take k))) (tds (d.l.take j))) (⟨⟨x.t.op, x.t.key, r.val, x.t.frm, x.t.to, true, x.t.rows⟩, x.A, x.c⟩ : Dd).t)) :: Own 54 2 (some ax17) 1 c16 (rws ([r] : List Rw)) :: .blk g7 [.int .i64 x.t.op, .string (str x.t.key), .string (str r.val), .string (str x.t.frm), .string (str x.t.to), .bool true, .slice x.A x.t.rows.length x.c] 81 :: Own 3 1 (some ab) ds.length c3 (nats o) :: Own 80 4 (some a5) ds.length cb (nvs es) :: Own 81 7 (some ae) e.l.length e.c (dvs (mix.set j (⟨⟨x.t.op, x.t.key, r.val, x.t.frm, x.t.to, true, x.t.rows⟩, x.A, x.c⟩ : Dd))) :: Rest 81 es i :: Kn (RowsP X2) :: .blk g6 [.int .i64 e.id, .int .i64 e.wall, .int .i64 e.logic, .slice (some ae) e.l.length e.c] 80 :: L) w := s
                  refine ⟨_, rfl, ?_⟩; clear ha; intro a ha
                  refine st_val (.tuple #[.slice A18 ((nextR (leftU (left [] (things (tns ds) (o.take k))) (tds (d.l.take j))) (⟨⟨x.t.op, x.t.key, r.val, x.t.frm, x.t.to, true, x.t.rows⟩, x.A, x.c⟩ : Dd).t).length) c19, .bool (isWell (leftU (left [] (things (tns ds) (o.take k))) (tds (d.l.take j))) (⟨⟨x.t.op, x.t.key, r.val, x.t.frm, x.t.to, true, x.t.rows⟩, x.A, x.c⟩ : Dd).t)]) ha (by kernel_rfl) (by kernel_rfl) ?_
                  clear ha; intro a ha
                  refine st_val (.slice A18 ((nextR (leftU (left [] (things (tns ds) (o.take k))) (tds (d.l.take j))) (⟨⟨x.t.op, x.t.key, r.val, x.t.frm, x.t.to, true, x.t.rows⟩, x.A, x.c⟩ : Dd).t).length) c19) ha (by kernel_rfl) (by kernel_rfl) ?_
                  clear ha; intro a ha
                  refine st_val (.bool (isWell (leftU (left [] (things (tns ds) (o.take k))) (tds (d.l.take j))) (⟨⟨x.t.op, x.t.key, r.val, x.t.frm, x.t.to, true, x.t.rows⟩, x.A, x.c⟩ : Dd).t)) ha (by kernel_rfl) (by kernel_rfl) ?_
                  clear ha; intro a ha
                  refine st_val (.slice A18 ((nextR (leftU (left [] (things (tns ds) (o.take k))) (tds (d.l.take j))) (⟨⟨x.t.op, x.t.key, r.val, x.t.frm, x.t.to, true, x.t.rows⟩, x.A, x.c⟩ : Dd).t).length) c19) ha (by kernel_rfl) (by kernel_rfl) ?_
                  clear ha; intro a ha
                  refine wpList_nil ?_
                  refine block_normal ?_
                  refine then_normal ?_
                  refine wp_region_lit ?_
                  refine st_val (.int .i64 ((j : Nat) : Int)) ha (by kernel_rfl) (by kernel_rfl) ?_
                  clear ha; intro a ha
                  refine st_val (.int .i64 ((j + 1 : Nat) : Int)) ha (by kernel_rfl) (run_arith (((j : Nat) : Int) + (1 : Int)) ((j + 1 : Nat) : Int) rfl (by kernel_rfl) (by kernel_rfl) (.inl ⟨rfl, rfl⟩) (by rw [wrap64_in (by omega)]; try omega) _) ?_
                  clear ha; intro a ha
                  refine st_val (.int .i64 ((j + 1 : Nat) : Int)) ha (by kernel_rfl) (by kernel_rfl) ?_
                  clear ha; intro a ha
                  refine wpList_nil ?_
                  refine then_normal ?_
                  replace s := s.at_ (j := 8) rfl
                  replace s : St W (.blk g6 [.int .i64 e.id, .int .i64 e.wall, .int .i64 e.logic, .slice (some ae) e.l.length e.c] 80 :: Own 54 2 A18 ((nextR (leftU (left [] (things (tns ds) (o.take k))) (tds (d.l.take j))) (⟨⟨x.t.op, x.t.key, r.val, x.t.frm, x.t.to, true, x.t.rows⟩, x.A, x.c⟩ : Dd).t).length) c19 (rws (nextR (leftU (left [] (things (tns ds) (o.take k))) (tds (d.l.take j))) (⟨⟨x.t.op, x.t.key, r.val, x.t.frm, x.t.to, true, x.t.rows⟩, x.A, x.c⟩ : Dd).t)) :: Own 54 2 (some ax17) 1 c16 (rws ([r] : List Rw)) :: .blk g7 [.int .i64 x.t.op, .string (str x.t.key), .string (str r.val), .string (str x.t.frm), .string (str x.t.to), .bool true, .slice x.A x.t.rows.length x.c] 81 :: Own 3 1 (some ab) ds.length c3 (nats o) :: Own 80 4 (some a5) ds.length cb (nvs es) :: Own 81 7 (some ae) e.l.length e.c (dvs (mix.set j (⟨⟨x.t.op, x.t.key, r.val, x.t.frm, x.t.to, true, x.t.rows⟩, x.A, x.c⟩ : Dd))) :: Rest 81 es i :: Kn (RowsP X2) :: L) w := s
                  replace s := s.at_ (j := 8) rfl
                  replace s : St W (Kn (RowsP X2) :: .blk g6 [.int .i64 e.id, .int .i64 e.wall, .int .i64 e.logic, .slice (some ae) e.l.length e.c] 80 :: Own 54 2 A18 ((nextR (leftU (left [] (things (tns ds) (o.take k))) (tds (d.l.take j))) (⟨⟨x.t.op, x.t.key, r.val, x.t.frm, x.t.to, true, x.t.rows⟩, x.A, x.c⟩ : Dd).t).length) c19 (rws (nextR (leftU (left [] (things (tns ds) (o.take k))) (tds (d.l.take j))) (⟨⟨x.t.op, x.t.key, r.val, x.t.frm, x.t.to, true, x.t.rows⟩, x.A, x.c⟩ : Dd).t)) :: Own 54 2 (some ax17) 1 c16 (rws ([r] : List Rw)) :: .blk g7 [.int .i64 x.t.op, .string (str x.t.key), .string (str r.val), .string (str x.t.frm), .string (str x.t.to), .bool true, .slice x.A x.t.rows.length x.c] 81 :: Own 3 1 (some ab) ds.length c3 (nats o) :: Own 80 4 (some a5) ds.length cb (nvs es) :: Own 81 7 (some ae) e.l.length e.c (dvs (mix.set j (⟨⟨x.t.op, x.t.key, r.val, x.t.frm, x.t.to, true, x.t.rows⟩, x.A, x.c⟩ : Dd))) :: Rest 81 es i :: L) w := s
                  replace s := s.at_ (j := 2) rfl
                  replace s : St W (Own 54 2 A18 ((nextR (leftU (left [] (things (tns ds) (o.take k))) (tds (d.l.take j))) (⟨⟨x.t.op, x.t.key, r.val, x.t.frm, x.t.to, true, x.t.rows⟩, x.A, x.c⟩ : Dd).t).length) c19 (rws (nextR (leftU (left [] (things (tns ds) (o.take k))) (tds (d.l.take j))) (⟨⟨x.t.op, x.t.key, r.val, x.t.frm, x.t.to, true, x.t.rows⟩, x.A, x.c⟩ : Dd).t)) :: Kn (RowsP X2) :: .blk g6 [.int .i64 e.id, .int .i64 e.wall, .int .i64 e.logic, .slice (some ae) e.l.length e.c] 80 :: Own 54 2 (some ax17) 1 c16 (rws ([r] : List Rw)) :: .blk g7 [.int .i64 x.t.op, .string (str x.t.key), .string (str r.val), .string (str x.t.frm), .string (str x.t.to), .bool true, .slice x.A x.t.rows.length x.c] 81 :: Own 3 1 (some ab) ds.length c3 (nats o) :: Own 80 4 (some a5) ds.length cb (nvs es) :: Own 81 7 (some ae) e.l.length e.c (dvs (mix.set j (⟨⟨x.t.op, x.t.key, r.val, x.t.frm, x.t.to, true, x.t.rows⟩, x.A, x.c⟩ : Dd))) :: Rest 81 es i :: L) w := s
                  replace s := s.at_ (j := 8) rfl
                  replace s : St W (Rest 81 es i :: Own 54 2 A18 ((nextR (leftU (left [] (things (tns ds) (o.take k))) (tds (d.l.take j))) (⟨⟨x.t.op, x.t.key, r.val, x.t.frm, x.t.to, true, x.t.rows⟩, x.A, x.c⟩ : Dd).t).length) c19 (rws (nextR (leftU (left [] (things (tns ds) (o.take k))) (tds (d.l.take j))) (⟨⟨x.t.op, x.t.key, r.val, x.t.frm, x.t.to, true, x.t.rows⟩, x.A, x.c⟩ : Dd).t)) :: Kn (RowsP X2) :: .blk g6 [.int .i64 e.id, .int .i64 e.wall, .int .i64 e.logic, .slice (some ae) e.l.length e.c] 80 :: Own 54 2 (some ax17) 1 c16 (rws ([r] : List Rw)) :: .blk g7 [.int .i64 x.t.op, .string (str x.t.key), .string (str r.val), .string (str x.t.frm), .string (str x.t.to), .bool true, .slice x.A x.t.rows.length x.c] 81 :: Own 3 1 (some ab) ds.length c3 (nats o) :: Own 80 4 (some a5) ds.length cb (nvs es) :: Own 81 7 (some ae) e.l.length e.c (dvs (mix.set j (⟨⟨x.t.op, x.t.key, r.val, x.t.frm, x.t.to, true, x.t.rows⟩, x.A, x.c⟩ : Dd))) :: L) w := s
                  replace s := s.at_ (j := 8) rfl
                  replace s : St W (Own 81 7 (some ae) e.l.length e.c (dvs (mix.set j (⟨⟨x.t.op, x.t.key, r.val, x.t.frm, x.t.to, true, x.t.rows⟩, x.A, x.c⟩ : Dd))) :: Rest 81 es i :: Own 54 2 A18 ((nextR (leftU (left [] (things (tns ds) (o.take k))) (tds (d.l.take j))) (⟨⟨x.t.op, x.t.key, r.val, x.t.frm, x.t.to, true, x.t.rows⟩, x.A, x.c⟩ : Dd).t).length) c19 (rws (nextR (leftU (left [] (things (tns ds) (o.take k))) (tds (d.l.take j))) (⟨⟨x.t.op, x.t.key, r.val, x.t.frm, x.t.to, true, x.t.rows⟩, x.A, x.c⟩ : Dd).t)) :: Kn (RowsP X2) :: .blk g6 [.int .i64 e.id, .int .i64 e.wall, .int .i64 e.logic, .slice (some ae) e.l.length e.c] 80 :: Own 54 2 (some ax17) 1 c16 (rws ([r] : List Rw)) :: .blk g7 [.int .i64 x.t.op, .string (str x.t.key), .string (str r.val), .string (str x.t.frm), .string (str x.t.to), .bool true, .slice x.A x.t.rows.length x.c] 81 :: Own 3 1 (some ab) ds.length c3 (nats o) :: Own 80 4 (some a5) ds.length cb (nvs es) :: L) w := s
                  replace s := s.at_ (j := 8) rfl
                  replace s : St W (Own 80 4 (some a5) ds.length cb (nvs es) :: Own 81 7 (some ae) e.l.length e.c (dvs (mix.set j (⟨⟨x.t.op, x.t.key, r.val, x.t.frm, x.t.to, true, x.t.rows⟩, x.A, x.c⟩ : Dd))) :: Rest 81 es i :: Own 54 2 A18 ((nextR (leftU (left [] (things (tns ds) (o.take k))) (tds (d.l.take j))) (⟨⟨x.t.op, x.t.key, r.val, x.t.frm, x.t.to, true, x.t.rows⟩, x.A, x.c⟩ : Dd).t).length) c19 (rws (nextR (leftU (left [] (things (tns ds) (o.take k))) (tds (d.l.take j))) (⟨⟨x.t.op, x.t.key, r.val, x.t.frm, x.t.to, true, x.t.rows⟩, x.A, x.c⟩ : Dd).t)) :: Kn (RowsP X2) :: .blk g6 [.int .i64 e.id, .int .i64 e.wall, .int .i64 e.logic, .slice (some ae) e.l.length e.c] 80 :: Own 54 2 (some ax17) 1 c16 (rws ([r] : List Rw)) :: .blk g7 [.int .i64 x.t.op, .string (str x.t.key), .string (str r.val), .string (str x.t.frm), .string (str x.t.to), .bool true, .slice x.A x.t.rows.length x.c] 81 :: Own 3 1 (some ab) ds.length c3 (nats o) :: L) w := s
                  replace s := s.at_ (j := 8) rfl
                  replace s : St W (Own 3 1 (some ab) ds.length c3 (nats o) :: Own 80 4 (some a5) ds.length cb (nvs es) :: Own 81 7 (some ae) e.l.length e.c (dvs (mix.set j (⟨⟨x.t.op, x.t.key, r.val, x.t.frm, x.t.to, true, x.t.rows⟩, x.A, x.c⟩ : Dd))) :: Rest 81 es i :: Own 54 2 A18 ((nextR (leftU (left [] (things (tns ds) (o.take k))) (tds (d.l.take j))) (⟨⟨x.t.op, x.t.key, r.val, x.t.frm, x.t.to, true, x.t.rows⟩, x.A, x.c⟩ : Dd).t).length) c19 (rws (nextR (leftU (left [] (things (tns ds) (o.take k))) (tds (d.l.take j))) (⟨⟨x.t.op, x.t.key, r.val, x.t.frm, x.t.to, true, x.t.rows⟩, x.A, x.c⟩ : Dd).t)) :: Kn (RowsP X2) :: .blk g6 [.int .i64 e.id, .int .i64 e.wall, .int .i64 e.logic, .slice (some ae) e.l.length e.c] 80 :: Own 54 2 (some ax17) 1 c16 (rws ([r] : List Rw)) :: .blk g7 [.int .i64 x.t.op, .string (str x.t.key), .string (str r.val), .string (str x.t.frm), .string (str x.t.to), .bool true, .slice x.A x.t.rows.length x.c] 81 :: L) w := s
                  replace s : St W (Own 3 1 (some ab) ds.length c3 (nats o) :: Own 80 4 (some a5) ds.length cb (nvs es) :: Own 81 7 (some ae) e.l.length e.c (dvs (mix.set j (⟨⟨x.t.op, x.t.key, r.val, x.t.frm, x.t.to, true, x.t.rows⟩, x.A, x.c⟩ : Dd))) :: Rest 81 es i :: Own 54 2 A18 ((nextR (leftU (left [] (things (tns ds) (o.take k))) (tds (d.l.take j))) (⟨⟨x.t.op, x.t.key, r.val, x.t.frm, x.t.to, true, x.t.rows⟩, x.A, x.c⟩ : Dd).t).length) c19 (rws (nextR (leftU (left [] (things (tns ds) (o.take k))) (tds (d.l.take j))) (⟨⟨x.t.op, x.t.key, r.val, x.t.frm, x.t.to, true, x.t.rows⟩, x.A, x.c⟩ : Dd).t)) :: Kn (RowsP X2) :: .blk g6 [.int .i64 e.id, .int .i64 e.wall, .int .i64 e.logic, .slice (some ae) e.l.length e.c] 80 :: L) w := St.mid (A := [Own 3 1 (some ab) ds.length c3 (nats o), Own 80 4 (some a5) ds.length cb (nvs es), Own 81 7 (some ae) e.l.length e.c (dvs (mix.set j (⟨⟨x.t.op, x.t.key, r.val, x.t.frm, x.t.to, true, x.t.rows⟩, x.A, x.c⟩ : Dd))), Rest 81 es i, Own 54 2 A18 ((nextR (leftU (left [] (things (tns ds) (o.take k))) (tds (d.l.take j))) (⟨⟨x.t.op, x.t.key, r.val, x.t.frm, x.t.to, true, x.t.rows⟩, x.A, x.c⟩ : Dd).t).length) c19 (rws (nextR (leftU (left [] (things (tns ds) (o.take k))) (tds (d.l.take j))) (⟨⟨x.t.op, x.t.key, r.val, x.t.frm, x.t.to, true, x.t.rows⟩, x.A, x.c⟩ : Dd).t)), Kn (RowsP X2), .blk g6 [.int .i64 e.id, .int .i64 e.wall, .int .i64 e.logic, .slice (some ae) e.l.length e.c] 80]) (B := [Own 54 2 (some ax17) 1 c16 (rws ([r] : List Rw)), .blk g7 [.int .i64 x.t.op, .string (str x.t.key), .string (str r.val), .string (str x.t.frm), .string (str x.t.to), .bool true, .slice x.A x.t.rows.length x.c] 81]) s
                  have hls : (leftU (left [] (things (tns ds) (o.take k))) (tds (d.l.take (j + 1)))) = nextR (leftU (left [] (things (tns ds) (o.take k))) (tds (d.l.take j))) (⟨⟨x.t.op, x.t.key, r.val, x.t.frm, x.t.to, true, x.t.rows⟩, x.A, x.c⟩ : Dd).t := by rw [tds_take hxd, leftU_snoc, hxr, rightD_next]
                  rw [← hls] at s
                  have hok2 : RowsOk ds (X2) (⟨⟨x.t.op, x.t.key, r.val, x.t.frm, x.t.to, true, x.t.rows⟩, x.A, x.c⟩ : Dd) := hxok.same hxm2 rfl rfl rfl
                  exact ⟨(j + 1, mix.set j (⟨⟨x.t.op, x.t.key, r.val, x.t.frm, x.t.to, true, x.t.rows⟩, x.A, x.c⟩ : Dd), A18, c19, X2), (show e.l.length - (j + 1) < e.l.length - j by omega), (Has.cons ha (by kernel_rfl) (by kernel_rfl) (Has.cons ha (by kernel_rfl) (by kernel_rfl) (Has.cons ha (by kernel_rfl) (Eq.trans (b := .slice A18 (nextR (leftU (left [] (things (tns ds) (o.take k))) (tds (d.l.take j))) (⟨⟨x.t.op, x.t.key, r.val, x.t.frm, x.t.to, true, x.t.rows⟩, x.A, x.c⟩ : Dd).t).length c19) (by kernel_rfl) (by rw [hls])) (Has.cons ha (by kernel_rfl) (by kernel_rfl) (Has.cons ha (by kernel_rfl) (by kernel_rfl) (Has.cons ha (by kernel_rfl) (by kernel_rfl) (Has.nil ha))))))), s, (show j + 1 ≤ e.l.length by omega), by rw [List.length_set]; exact hml, by rw [take_set_succ _ hjm, List.map_append, hp.2.2.1, tds_take hxd, rightL_snoc, ← hxr]; rfl, by rw [drop_set_succ, ← List.drop_drop (i := 1) (j := j) (l := mix), hp.2.2.2.1, List.drop_drop], fun y hy => (List.mem_or_eq_of_mem_set hy).elim (fun hy => hp.2.2.2.2.1 y hy) (fun hy => by rw [hy]; exact hok2), fun x h => hp.2.2.2.2.2 x h⟩
              · rw [hb] at ha; have hb_ := hb; replace hb := ne_of_beq_false hb
                have n1 := hb
                refine wp_skip ?_
                refine then_normal ?_
                refine wp_seq ?_
                refine wp_seq ?_
                refine wp_region_lit ?_
                refine st_val (.pointer (some ⟨g7, 0, none⟩)) ha (by kernel_rfl) (by kernel_rfl) ?_
                clear ha; intro a ha
                refine st_val (.int .i64 x.t.op) ha (by kernel_rfl) (run_load1 (of_ := 0) (s.blkIs 0 rfl) rfl (by kernel_rfl) Try.isAgg3 rfl) ?_
                clear ha; intro a ha
                refine st_val (.bool (x.t.op == (2 : Int))) ha (by kernel_rfl) (by kernel_rfl) ?_
                clear ha; intro a ha
                refine wpList_nil ?_
                refine then_normal ?_
                refine wp_part (x.t.op == (2 : Int)) ha rfl (by kernel_rfl) (fun hb => ?_) (fun hb => ?_)
                · rw [hb] at ha; have hb_ := hb; replace hb := eq_of_beq hb
                  have hop := hb
                  refine wp_region_lit ?_
                  refine st_val (.slice D ((leftU (left [] (things (tns ds) (o.take k))) (tds (d.l.take j))).length) cD) ha (by kernel_rfl) (by kernel_rfl) ?_
                  clear ha; intro a ha
                  refine st_val (.pointer (some ⟨g7, 3, none⟩)) ha (by kernel_rfl) (by kernel_rfl) ?_
                  clear ha; intro a ha
                  refine st_val (.agg #[.string (str x.t.frm), .string (str x.t.to)]) ha (by kernel_rfl) (run_loadN (of_ := 3) [.string (str x.t.frm), .string (str x.t.to)] (s.blkIs 0 rfl) rfl (by kernel_rfl) Try.isAgg49 Try.sizeOf49 rfl (Nat.le_of_ble_eq_true rfl)) ?_
                  clear ha; intro a ha
                  refine st_call ha (by kernel_rfl) (by kernel_rfl) (rwithin_any W _ w D cD (leftU (left [] (things (tns ds) (o.take k))) (tds (d.l.take j))) (Knows.own (j := 5) rfl) hRj x.t.frm x.t.to s) ?_
                  rintro _ w ⟨A20, c21, rfl, s⟩
                  have hwc := (Own.facts s.1).2.1
                  replace s : St W (Own 54 2 A20 ((within (leftU (left [] (things (tns ds) (o.take k))) (tds (d.l.take j))) x.t.frm x.t.to).length) c21 (rws (within (leftU (left [] (things (tns ds) (o.take k))) (tds (d.l.take j))) x.t.frm x.t.to)) :: .blk g7 [.int .i64 x.t.op, .string (str x.t.key), .string (str x.t.val), .string (str x.t.frm), .string (str x.t.to), .bool x.t.is, .slice x.A x.t.rows.length x.c] 81 :: Own 3 1 (some ab) ds.length c3 (nats o) :: Own 80 4 (some a5) ds.length cb (nvs es) :: Own 81 7 (some ae) e.l.length e.c (dvs mix) :: Rest 81 es i :: Own 54 2 D ((leftU (left [] (things (tns ds) (o.take k))) (tds (d.l.take j))).length) cD (rws (leftU (left [] (things (tns ds) (o.take k))) (tds (d.l.take j)))) :: Kn (RowsP X2) :: .blk g6 [.int .i64 e.id, .int .i64 e.wall, .int .i64 e.logic, .slice (some ae) e.l.length e.c] 80 :: L) w := s
                  refine ⟨_, rfl, ?_⟩; clear ha; intro a ha
                  refine st_val (.pointer (some ⟨g7, 6, none⟩)) ha (by kernel_rfl) (by kernel_rfl) ?_
                  clear ha; intro a ha
                  refine st_exd ha (by kernel_rfl) (ex_store (of_ := 6) 1 [.slice A20 ((within (leftU (left [] (things (tns ds) (o.take k))) (tds (d.l.take j))) x.t.frm x.t.to).length) c21] s rfl rfl (by kernel_rfl) (by kernel_rfl) (Try.sizeOf35 _) rfl (by simp [Value.oneCell']) (Nat.le_of_ble_eq_true rfl)) ?_
                  clear ha; rintro w a s ha
                  replace s : St W (Own 54 2 A20 ((within (leftU (left [] (things (tns ds) (o.take k))) (tds (d.l.take j))) x.t.frm x.t.to).length) c21 (rws (within (leftU (left [] (things (tns ds) (o.take k))) (tds (d.l.take j))) x.t.frm x.t.to)) :: .blk g7 [.int .i64 x.t.op, .string (str x.t.key), .string (str x.t.val), .string (str x.t.frm), .string (str x.t.to), .bool x.t.is, .slice A20 ((within (leftU (left [] (things (tns ds) (o.take k))) (tds (d.l.take j))) x.t.frm x.t.to).length) c21] 81 :: Own 3 1 (some ab) ds.length c3 (nats o) :: Own 80 4 (some a5) ds.length cb (nvs es) :: Own 81 7 (some ae) e.l.length e.c (dvs mix) :: Rest 81 es i :: Own 54 2 D ((leftU (left [] (things (tns ds) (o.take k))) (tds (d.l.take j))).length) cD (rws (leftU (left [] (things (tns ds) (o.take k))) (tds (d.l.take j)))) :: Kn (RowsP X2) :: .blk g6 [.int .i64 e.id, .int .i64 e.wall, .int .i64 e.logic, .slice (some ae) e.l.length e.c] 80 :: L) w := s
                  refine wpList_nil ?_
                  refine then_normal ?_
                  refine wp_seq ?_
                  refine wp_region_lit ?_
                  refine st_val (.pointer (some ⟨g6, 3, none⟩)) ha (by kernel_rfl) (by kernel_rfl) ?_
                  clear ha; intro a ha
                  refine st_val (.slice (some ae) e.l.length e.c) ha (by kernel_rfl) (run_load1 (of_ := 3) (s.blkIs 8 rfl) rfl (by kernel_rfl) Try.isAgg78 rfl) ?_
                  clear ha; intro a ha
                  refine st_val (.int .i64 ((j : Nat) : Int)) ha (by kernel_rfl) (by kernel_rfl) ?_
                  clear ha; intro a ha
                  refine st_val (.agg #[.int .i64 x.t.op, .string (str x.t.key), .string (str x.t.val), .string (str x.t.frm), .string (str x.t.to), .bool x.t.is, .slice A20 ((within (leftU (left [] (things (tns ds) (o.take k))) (tds (d.l.take j))) x.t.frm x.t.to).length) c21]) ha (by kernel_rfl) (run_loadN (of_ := 0) [.int .i64 x.t.op, .string (str x.t.key), .string (str x.t.val), .string (str x.t.frm), .string (str x.t.to), .bool x.t.is, .slice A20 ((within (leftU (left [] (things (tns ds) (o.take k))) (tds (d.l.take j))) x.t.frm x.t.to).length) c21] (s.blkIs 1 rfl) rfl (by kernel_rfl) Try.isAgg81 Try.sizeOf81 rfl (Nat.le_of_ble_eq_true rfl)) ?_
                  clear ha; intro a ha
                  refine st_val (.pointer (some (ae.add (j * 7)))) ha (by kernel_rfl) (run_indexAddr' (kd := .i64) (i := ((j : Nat) : Int)) (n := e.l.length) (c := e.c) j rfl Try.underlying78 Try.sizeOf81 (by kernel_rfl) (by kernel_rfl) rfl (by first | assumption | omega) _) ?_
                  clear ha; intro a ha
                  refine st_exd ha (by kernel_rfl) (ex_store_own (i := j * 7) 4 [.int .i64 x.t.op, .string (str x.t.key), .string (str x.t.val), .string (str x.t.frm), .string (str x.t.to), .bool x.t.is, .slice A20 ((within (leftU (left [] (things (tns ds) (o.take k))) (tds (d.l.take j))) x.t.frm x.t.to).length) c21] s (show putAt (dvs mix) (j * 7) [.int .i64 x.t.op, .string (str x.t.key), .string (str x.t.val), .string (str x.t.frm), .string (str x.t.to), .bool x.t.is, .slice A20 ((within (leftU (left [] (things (tns ds) (o.take k))) (tds (d.l.take j))) x.t.frm x.t.to).length) c21] = dvs (mix.set j (⟨⟨x.t.op, x.t.key, x.t.val, x.t.frm, x.t.to, x.t.is, (within (leftU (left [] (things (tns ds) (o.take k))) (tds (d.l.take j))) x.t.frm x.t.to)⟩, A20, c21⟩ : Dd)) from putAt_dvs hjm (⟨⟨x.t.op, x.t.key, x.t.val, x.t.frm, x.t.to, x.t.is, (within (leftU (left [] (things (tns ds) (o.take k))) (tds (d.l.take j))) x.t.frm x.t.to)⟩, A20, c21⟩ : Dd)) rfl rfl (by kernel_rfl) (by kernel_rfl) (Try.sizeOf81 _) rfl (by simp [Value.oneCell']) (by simp) (by rw [dvs_len]; simp only [List.length_cons, List.length_nil]; omega)) ?_
                  clear ha; rintro w a s ha
                  replace s : St W (Own 54 2 A20 ((within (leftU (left [] (things (tns ds) (o.take k))) (tds (d.l.take j))) x.t.frm x.t.to).length) c21 (rws (within (leftU (left [] (things (tns ds) (o.take k))) (tds (d.l.take j))) x.t.frm x.t.to)) :: .blk g7 [.int .i64 x.t.op, .string (str x.t.key), .string (str x.t.val), .string (str x.t.frm), .string (str x.t.to), .bool x.t.is, .slice A20 ((within (leftU (left [] (things (tns ds) (o.take k))) (tds (d.l.take j))) x.t.frm x.t.to).length) c21] 81 :: Own 3 1 (some ab) ds.length c3 (nats o) :: Own 80 4 (some a5) ds.length cb (nvs es) :: Own 81 7 (some ae) e.l.length e.c (dvs (mix.set j (⟨⟨x.t.op, x.t.key, x.t.val, x.t.frm, x.t.to, x.t.is, (within (leftU (left [] (things (tns ds) (o.take k))) (tds (d.l.take j))) x.t.frm x.t.to)⟩, A20, c21⟩ : Dd))) :: Rest 81 es i :: Own 54 2 D ((leftU (left [] (things (tns ds) (o.take k))) (tds (d.l.take j))).length) cD (rws (leftU (left [] (things (tns ds) (o.take k))) (tds (d.l.take j)))) :: Kn (RowsP X2) :: .blk g6 [.int .i64 e.id, .int .i64 e.wall, .int .i64 e.logic, .slice (some ae) e.l.length e.c] 80 :: L) w := s
                  refine wpList_nil ?_
                  refine then_normal ?_
                  refine wp_region_lit ?_
                  refine st_val (.slice D ((leftU (left [] (things (tns ds) (o.take k))) (tds (d.l.take j))).length) cD) ha (by kernel_rfl) (by kernel_rfl) ?_
                  clear ha; intro a ha
                  refine st_val (.agg #[.int .i64 x.t.op, .string (str x.t.key), .string (str x.t.val), .string (str x.t.frm), .string (str x.t.to), .bool x.t.is, .slice A20 ((within (leftU (left [] (things (tns ds) (o.take k))) (tds (d.l.take j))) x.t.frm x.t.to).length) c21]) ha (by kernel_rfl) (run_loadN (of_ := 0) [.int .i64 x.t.op, .string (str x.t.key), .string (str x.t.val), .string (str x.t.frm), .string (str x.t.to), .bool x.t.is, .slice A20 ((within (leftU (left [] (things (tns ds) (o.take k))) (tds (d.l.take j))) x.t.frm x.t.to).length) c21] (s.blkIs 1 rfl) rfl (by kernel_rfl) Try.isAgg81 Try.sizeOf81 rfl (Nat.le_of_ble_eq_true rfl)) ?_
                  clear ha; intro a ha
                  replace s := s.at_ (j := 6) rfl
                  replace s : St W (Own 54 2 D ((leftU (left [] (things (tns ds) (o.take k))) (tds (d.l.take j))).length) cD (rws (leftU (left [] (things (tns ds) (o.take k))) (tds (d.l.take j)))) :: Own 54 2 A20 ((within (leftU (left [] (things (tns ds) (o.take k))) (tds (d.l.take j))) x.t.frm x.t.to).length) c21 (rws (within (leftU (left [] (things (tns ds) (o.take k))) (tds (d.l.take j))) x.t.frm x.t.to)) :: .blk g7 [.int .i64 x.t.op, .string (str x.t.key), .string (str x.t.val), .string (str x.t.frm), .string (str x.t.to), .bool x.t.is, .slice A20 ((within (leftU (left [] (things (tns ds) (o.take k))) (tds (d.l.take j))) x.t.frm x.t.to).length) c21] 81 :: Own 3 1 (some ab) ds.length c3 (nats o) :: Own 80 4 (some a5) ds.length cb (nvs es) :: Own 81 7 (some ae) e.l.length e.c (dvs (mix.set j (⟨⟨x.t.op, x.t.key, x.t.val, x.t.frm, x.t.to, x.t.is, (within (leftU (left [] (things (tns ds) (o.take k))) (tds (d.l.take j))) x.t.frm x.t.to)⟩, A20, c21⟩ : Dd))) :: Rest 81 es i :: Kn (RowsP X2) :: .blk g6 [.int .i64 e.id, .int .i64 e.wall, .int .i64 e.logic, .slice (some ae) e.l.length e.c] 80 :: L) w := s
                  have hxr : (⟨⟨x.t.op, x.t.key, x.t.val, x.t.frm, x.t.to, x.t.is, (within (leftU (left [] (things (tns ds) (o.take k))) (tds (d.l.take j))) x.t.frm x.t.to)⟩, A20, c21⟩ : Dd).t = rightD (leftU (left [] (things (tns ds) (o.take k))) (tds (d.l.take j))) x.t := by unfold rightD; rw [if_neg n1, if_pos hop]
                  refine st_call ha (by kernel_rfl) (by kernel_rfl) (one_any W _ w D cD (leftU (left [] (things (tns ds) (o.take k))) (tds (d.l.take j))) hup hRj (⟨⟨x.t.op, x.t.key, x.t.val, x.t.frm, x.t.to, x.t.is, (within (leftU (left [] (things (tns ds) (o.take k))) (tds (d.l.take j))) x.t.frm x.t.to)⟩, A20, c21⟩ : Dd) (Knows.own (j := 0) rfl) (by show (within (leftU (left [] (things (tns ds) (o.take k))) (tds (d.l.take j))) x.t.frm x.t.to).length ≤ _; have := within_le (leftU (left [] (things (tns ds) (o.take k))) (tds (d.l.take j))) x.t.frm x.t.to; omega) hxb.2 hokx s) ?_
                  rintro _ w ⟨A22, c23, rfl, s⟩
                  replace s : St W (Own 54 2 A22 ((nextR (leftU (left [] (things (tns ds) (o.take k))) (tds (d.l.take j))) (⟨⟨x.t.op, x.t.key, x.t.val, x.t.frm, x.t.to, x.t.is, (within (leftU (left [] (things (tns ds) (o.take k))) (tds (d.l.take j))) x.t.frm x.t.to)⟩, A20, c21⟩ : Dd).t).length) c23 (rws (nextR (leftU (left [] (things (tns ds) (o.take k))) (tds (d.l.take j))) (⟨⟨x.t.op, x.t.key, x.t.val, x.t.frm, x.t.to, x.t.is, (within (leftU (left [] (things (tns ds) (o.take k))) (tds (d.l.take j))) x.t.frm x.t.to)⟩, A20, c21⟩ : Dd).t)) :: Own 54 2 A20 ((within (leftU (left [] (things (tns ds) (o.take k))) (tds (d.l.take j))) x.t.frm x.t.to).length) c21 (rws (within (leftU (left [] (things (tns ds) (o.take k))) (tds (d.l.take j))) x.t.frm x.t.to)) :: .blk g7 [.int .i64 x.t.op, .string (str x.t.key), .string (str x.t.val), .string (str x.t.frm), .string (str x.t.to), .bool x.t.is, .slice A20 ((within (leftU (left [] (things (tns ds) (o.take k))) (tds (d.l.take j))) x.t.frm x.t.to).length) c21] 81 :: Own 3 1 (some ab) ds.length c3 (nats o) :: Own 80 4 (some a5) ds.length cb (nvs es) :: Own 81 7 (some ae) e.l.length e.c (dvs (mix.set j (⟨⟨x.t.op, x.t.key, x.t.val, x.t.frm, x.t.to, x.t.is, (within (leftU (left [] (things (tns ds) (o.take k))) (tds (d.l.take j))) x.t.frm x.t.to)⟩, A20, c21⟩ : Dd))) :: Rest 81 es i :: Kn (RowsP X2) :: .blk g6 [.int .i64 e.id, .int .i64 e.wall, .int .i64 e.logic, .slice (some ae) e.l.length e.c] 80 :: L) w := s
                  refine ⟨_, rfl, ?_⟩; clear ha; intro a ha
                  refine st_val (.tuple #[.slice A22 ((nextR (leftU (left [] (things (tns ds) (o.take k))) (tds (d.l.take j))) (⟨⟨x.t.op, x.t.key, x.t.val, x.t.frm, x.t.to, x.t.is, (within (leftU (left [] (things (tns ds) (o.take k))) (tds (d.l.take j))) x.t.frm x.t.to)⟩, A20, c21⟩ : Dd).t).length) c23, .bool (isWell (leftU (left [] (things (tns ds) (o.take k))) (tds (d.l.take j))) (⟨⟨x.t.op, x.t.key, x.t.val, x.t.frm, x.t.to, x.t.is, (within (leftU (left [] (things (tns ds) (o.take k))) (tds (d.l.take j))) x.t.frm x.t.to)⟩, A20, c21⟩ : Dd).t)]) ha (by kernel_rfl) (by kernel_rfl) ?_
                  clear ha; intro a ha
                  refine st_val (.slice A22 ((nextR (leftU (left [] (things (tns ds) (o.take k))) (tds (d.l.take j))) (⟨⟨x.t.op, x.t.key, x.t.val, x.t.frm, x.t.to, x.t.is, (within (leftU (left [] (things (tns ds) (o.take k))) (tds (d.l.take j))) x.t.frm x.t.to)⟩, A20, c21⟩ : Dd).t).length) c23) ha (by kernel_rfl) (by kernel_rfl) ?_
                  clear ha; intro a ha
                  refine st_val (.bool (isWell (leftU (left [] (things (tns ds) (o.take k))) (tds (d.l.take j))) (⟨⟨x.t.op, x.t.key, x.t.val, x.t.frm, x.t.to, x.t.is, (within (leftU (left [] (things (tns ds) (o.take k))) (tds (d.l.take j))) x.t.frm x.t.to)⟩, A20, c21⟩ : Dd).t)) ha (by kernel_rfl) (by kernel_rfl) ?_
                  clear ha; intro a ha
                  refine st_val (.slice A22 ((nextR (leftU (left [] (things (tns ds) (o.take k))) (tds (d.l.take j))) (⟨⟨x.t.op, x.t.key, x.t.val, x.t.frm, x.t.to, x.t.is, (within (leftU (left [] (things (tns ds) (o.take k))) (tds (d.l.take j))) x.t.frm x.t.to)⟩, A20, c21⟩ : Dd).t).length) c23) ha (by kernel_rfl) (by kernel_rfl) ?_
                  clear ha; intro a ha
                  refine wpList_nil ?_
                  refine block_normal ?_
                  refine then_normal ?_
                  refine wp_region_lit ?_
                  refine st_val (.int .i64 ((j : Nat) : Int)) ha (by kernel_rfl) (by kernel_rfl) ?_
                  clear ha; intro a ha
                  refine st_val (.int .i64 ((j + 1 : Nat) : Int)) ha (by kernel_rfl) (run_arith (((j : Nat) : Int) + (1 : Int)) ((j + 1 : Nat) : Int) rfl (by kernel_rfl) (by kernel_rfl) (.inl ⟨rfl, rfl⟩) (by rw [wrap64_in (by omega)]; try omega) _) ?_
                  clear ha; intro a ha
                  refine st_val (.int .i64 ((j + 1 : Nat) : Int)) ha (by kernel_rfl) (by kernel_rfl) ?_
                  clear ha; intro a ha
                  refine wpList_nil ?_
                  refine then_normal ?_
                  replace s := s.at_ (j := 7) rfl
                  replace s : St W (Kn (RowsP X2) :: Own 54 2 A22 ((nextR (leftU (left [] (things (tns ds) (o.take k))) (tds (d.l.take j))) (⟨⟨x.t.op, x.t.key, x.t.val, x.t.frm, x.t.to, x.t.is, (within (leftU (left [] (things (tns ds) (o.take k))) (tds (d.l.take j))) x.t.frm x.t.to)⟩, A20, c21⟩ : Dd).t).length) c23 (rws (nextR (leftU (left [] (things (tns ds) (o.take k))) (tds (d.l.take j))) (⟨⟨x.t.op, x.t.key, x.t.val, x.t.frm, x.t.to, x.t.is, (within (leftU (left [] (things (tns ds) (o.take k))) (tds (d.l.take j))) x.t.frm x.t.to)⟩, A20, c21⟩ : Dd).t)) :: Own 54 2 A20 ((within (leftU (left [] (things (tns ds) (o.take k))) (tds (d.l.take j))) x.t.frm x.t.to).length) c21 (rws (within (leftU (left [] (things (tns ds) (o.take k))) (tds (d.l.take j))) x.t.frm x.t.to)) :: .blk g7 [.int .i64 x.t.op, .string (str x.t.key), .string (str x.t.val), .string (str x.t.frm), .string (str x.t.to), .bool x.t.is, .slice A20 ((within (leftU (left [] (things (tns ds) (o.take k))) (tds (d.l.take j))) x.t.frm x.t.to).length) c21] 81 :: Own 3 1 (some ab) ds.length c3 (nats o) :: Own 80 4 (some a5) ds.length cb (nvs es) :: Own 81 7 (some ae) e.l.length e.c (dvs (mix.set j (⟨⟨x.t.op, x.t.key, x.t.val, x.t.frm, x.t.to, x.t.is, (within (leftU (left [] (things (tns ds) (o.take k))) (tds (d.l.take j))) x.t.frm x.t.to)⟩, A20, c21⟩ : Dd))) :: Rest 81 es i :: .blk g6 [.int .i64 e.id, .int .i64 e.wall, .int .i64 e.logic, .slice (some ae) e.l.length e.c] 80 :: L) w := s
                  replace s := s.at_ (j := 2) rfl
                  replace s : St W (Own 54 2 A20 ((within (leftU (left [] (things (tns ds) (o.take k))) (tds (d.l.take j))) x.t.frm x.t.to).length) c21 (rws (within (leftU (left [] (things (tns ds) (o.take k))) (tds (d.l.take j))) x.t.frm x.t.to)) :: Kn (RowsP X2) :: Own 54 2 A22 ((nextR (leftU (left [] (things (tns ds) (o.take k))) (tds (d.l.take j))) (⟨⟨x.t.op, x.t.key, x.t.val, x.t.frm, x.t.to, x.t.is, (within (leftU (left [] (things (tns ds) (o.take k))) (tds (d.l.take j))) x.t.frm x.t.to)⟩, A20, c21⟩ : Dd).t).length) c23 (rws (nextR (leftU (left [] (things (tns ds) (o.take k))) (tds (d.l.take j))) (⟨⟨x.t.op, x.t.key, x.t.val, x.t.frm, x.t.to, x.t.is, (within (leftU (left [] (things (tns ds) (o.take k))) (tds (d.l.take j))) x.t.frm x.t.to)⟩, A20, c21⟩ : Dd).t)) :: .blk g7 [.int .i64 x.t.op, .string (str x.t.key), .string (str x.t.val), .string (str x.t.frm), .string (str x.t.to), .bool x.t.is, .slice A20 ((within (leftU (left [] (things (tns ds) (o.take k))) (tds (d.l.take j))) x.t.frm x.t.to).length) c21] 81 :: Own 3 1 (some ab) ds.length c3 (nats o) :: Own 80 4 (some a5) ds.length cb (nvs es) :: Own 81 7 (some ae) e.l.length e.c (dvs (mix.set j (⟨⟨x.t.op, x.t.key, x.t.val, x.t.frm, x.t.to, x.t.is, (within (leftU (left [] (things (tns ds) (o.take k))) (tds (d.l.take j))) x.t.frm x.t.to)⟩, A20, c21⟩ : Dd))) :: Rest 81 es i :: .blk g6 [.int .i64 e.id, .int .i64 e.wall, .int .i64 e.logic, .slice (some ae) e.l.length e.c] 80 :: L) w := s
                  replace s := RowsP.snoc (⟨⟨x.t.op, x.t.key, x.t.val, x.t.frm, x.t.to, x.t.is, (within (leftU (left [] (things (tns ds) (o.take k))) (tds (d.l.take j))) x.t.frm x.t.to)⟩, A20, c21⟩ : Dd) s
                  replace s : St W (Kn (RowsP (X2 ++ [(⟨⟨x.t.op, x.t.key, x.t.val, x.t.frm, x.t.to, x.t.is, (within (leftU (left [] (things (tns ds) (o.take k))) (tds (d.l.take j))) x.t.frm x.t.to)⟩, A20, c21⟩ : Dd)])) :: Own 54 2 A22 ((nextR (leftU (left [] (things (tns ds) (o.take k))) (tds (d.l.take j))) (⟨⟨x.t.op, x.t.key, x.t.val, x.t.frm, x.t.to, x.t.is, (within (leftU (left [] (things (tns ds) (o.take k))) (tds (d.l.take j))) x.t.frm x.t.to)⟩, A20, c21⟩ : Dd).t).length) c23 (rws (nextR (leftU (left [] (things (tns ds) (o.take k))) (tds (d.l.take j))) (⟨⟨x.t.op, x.t.key, x.t.val, x.t.frm, x.t.to, x.t.is, (within (leftU (left [] (things (tns ds) (o.take k))) (tds (d.l.take j))) x.t.frm x.t.to)⟩, A20, c21⟩ : Dd).t)) :: .blk g7 [.int .i64 x.t.op, .string (str x.t.key), .string (str x.t.val), .string (str x.t.frm), .string (str x.t.to), .bool x.t.is, .slice A20 ((within (leftU (left [] (things (tns ds) (o.take k))) (tds (d.l.take j))) x.t.frm x.t.to).length) c21] 81 :: Own 3 1 (some ab) ds.length c3 (nats o) :: Own 80 4 (some a5) ds.length cb (nvs es) :: Own 81 7 (some ae) e.l.length e.c (dvs (mix.set j (⟨⟨x.t.op, x.t.key, x.t.val, x.t.frm, x.t.to, x.t.is, (within (leftU (left [] (things (tns ds) (o.take k))) (tds (d.l.take j))) x.t.frm x.t.to)⟩, A20, c21⟩ : Dd))) :: Rest 81 es i :: .blk g6 [.int .i64 e.id, .int .i64 e.wall, .int .i64 e.logic, .slice (some ae) e.l.length e.c] 80 :: L) w := s
                  replace s := s.at_ (j := 7) rfl
                  replace s : St W (.blk g6 [.int .i64 e.id, .int .i64 e.wall, .int .i64 e.logic, .slice (some ae) e.l.length e.c] 80 :: Kn (RowsP (X2 ++ [(⟨⟨x.t.op, x.t.key, x.t.val, x.t.frm, x.t.to, x.t.is, (within (leftU (left [] (things (tns ds) (o.take k))) (tds (d.l.take j))) x.t.frm x.t.to)⟩, A20, c21⟩ : Dd)])) :: Own 54 2 A22 ((nextR (leftU (left [] (things (tns ds) (o.take k))) (tds (d.l.take j))) (⟨⟨x.t.op, x.t.key, x.t.val, x.t.frm, x.t.to, x.t.is, (within (leftU (left [] (things (tns ds) (o.take k))) (tds (d.l.take j))) x.t.frm x.t.to)⟩, A20, c21⟩ : Dd).t).length) c23 (rws (nextR (leftU (left [] (things (tns ds) (o.take k))) (tds (d.l.take j))) (⟨⟨x.t.op, x.t.key, x.t.val, x.t.frm, x.t.to, x.t.is, (within (leftU (left [] (things (tns ds) (o.take k))) (tds (d.l.take j))) x.t.frm x.t.to)⟩, A20, c21⟩ : Dd).t)) :: .blk g7 [.int .i64 x.t.op, .string (str x.t.key), .string (str x.t.val), .string (str x.t.frm), .string (str x.t.to), .bool x.t.is, .slice A20 ((within (leftU (left [] (things (tns ds) (o.take k))) (tds (d.l.take j))) x.t.frm x.t.to).length) c21] 81 :: Own 3 1 (some ab) ds.length c3 (nats o) :: Own 80 4 (some a5) ds.length cb (nvs es) :: Own 81 7 (some ae) e.l.length e.c (dvs (mix.set j (⟨⟨x.t.op, x.t.key, x.t.val, x.t.frm, x.t.to, x.t.is, (within (leftU (left [] (things (tns ds) (o.take k))) (tds (d.l.take j))) x.t.frm x.t.to)⟩, A20, c21⟩ : Dd))) :: Rest 81 es i :: L) w := s
                  replace s := s.at_ (j := 1) rfl
                  replace s : St W (Kn (RowsP (X2 ++ [(⟨⟨x.t.op, x.t.key, x.t.val, x.t.frm, x.t.to, x.t.is, (within (leftU (left [] (things (tns ds) (o.take k))) (tds (d.l.take j))) x.t.frm x.t.to)⟩, A20, c21⟩ : Dd)])) :: .blk g6 [.int .i64 e.id, .int .i64 e.wall, .int .i64 e.logic, .slice (some ae) e.l.length e.c] 80 :: Own 54 2 A22 ((nextR (leftU (left [] (things (tns ds) (o.take k))) (tds (d.l.take j))) (⟨⟨x.t.op, x.t.key, x.t.val, x.t.frm, x.t.to, x.t.is, (within (leftU (left [] (things (tns ds) (o.take k))) (tds (d.l.take j))) x.t.frm x.t.to)⟩, A20, c21⟩ : Dd).t).length) c23 (rws (nextR (leftU (left [] (things (tns ds) (o.take k))) (tds (d.l.take j))) (⟨⟨x.t.op, x.t.key, x.t.val, x.t.frm, x.t.to, x.t.is, (within (leftU (left [] (things (tns ds) (o.take k))) (tds (d.l.take j))) x.t.frm x.t.to)⟩, A20, c21⟩ : Dd).t)) :: .blk g7 [.int .i64 x.t.op, .string (str x.t.key), .string (str x.t.val), .string (str x.t.frm), .string (str x.t.to), .bool x.t.is, .slice A20 ((within (leftU (left [] (things (tns ds) (o.take k))) (tds (d.l.take j))) x.t.frm x.t.to).length) c21] 81 :: Own 3 1 (some ab) ds.length c3 (nats o) :: Own 80 4 (some a5) ds.length cb (nvs es) :: Own 81 7 (some ae) e.l.length e.c (dvs (mix.set j (⟨⟨x.t.op, x.t.key, x.t.val, x.t.frm, x.t.to, x.t.is, (within (leftU (left [] (things (tns ds) (o.take k))) (tds (d.l.take j))) x.t.frm x.t.to)⟩, A20, c21⟩ : Dd))) :: Rest 81 es i :: L) w := s
                  replace s := s.at_ (j := 2) rfl
                  replace s : St W (Own 54 2 A22 ((nextR (leftU (left [] (things (tns ds) (o.take k))) (tds (d.l.take j))) (⟨⟨x.t.op, x.t.key, x.t.val, x.t.frm, x.t.to, x.t.is, (within (leftU (left [] (things (tns ds) (o.take k))) (tds (d.l.take j))) x.t.frm x.t.to)⟩, A20, c21⟩ : Dd).t).length) c23 (rws (nextR (leftU (left [] (things (tns ds) (o.take k))) (tds (d.l.take j))) (⟨⟨x.t.op, x.t.key, x.t.val, x.t.frm, x.t.to, x.t.is, (within (leftU (left [] (things (tns ds) (o.take k))) (tds (d.l.take j))) x.t.frm x.t.to)⟩, A20, c21⟩ : Dd).t)) :: Kn (RowsP (X2 ++ [(⟨⟨x.t.op, x.t.key, x.t.val, x.t.frm, x.t.to, x.t.is, (within (leftU (left [] (things (tns ds) (o.take k))) (tds (d.l.take j))) x.t.frm x.t.to)⟩, A20, c21⟩ : Dd)])) :: .blk g6 [.int .i64 e.id, .int .i64 e.wall, .int .i64 e.logic, .slice (some ae) e.l.length e.c] 80 :: .blk g7 [.int .i64 x.t.op, .string (str x.t.key), .string (str x.t.val), .string (str x.t.frm), .string (str x.t.to), .bool x.t.is, .slice A20 ((within (leftU (left [] (things (tns ds) (o.take k))) (tds (d.l.take j))) x.t.frm x.t.to).length) c21] 81 :: Own 3 1 (some ab) ds.length c3 (nats o) :: Own 80 4 (some a5) ds.length cb (nvs es) :: Own 81 7 (some ae) e.l.length e.c (dvs (mix.set j (⟨⟨x.t.op, x.t.key, x.t.val, x.t.frm, x.t.to, x.t.is, (within (leftU (left [] (things (tns ds) (o.take k))) (tds (d.l.take j))) x.t.frm x.t.to)⟩, A20, c21⟩ : Dd))) :: Rest 81 es i :: L) w := s
                  replace s := s.at_ (j := 7) rfl
                  replace s : St W (Rest 81 es i :: Own 54 2 A22 ((nextR (leftU (left [] (things (tns ds) (o.take k))) (tds (d.l.take j))) (⟨⟨x.t.op, x.t.key, x.t.val, x.t.frm, x.t.to, x.t.is, (within (leftU (left [] (things (tns ds) (o.take k))) (tds (d.l.take j))) x.t.frm x.t.to)⟩, A20, c21⟩ : Dd).t).length) c23 (rws (nextR (leftU (left [] (things (tns ds) (o.take k))) (tds (d.l.take j))) (⟨⟨x.t.op, x.t.key, x.t.val, x.t.frm, x.t.to, x.t.is, (within (leftU (left [] (things (tns ds) (o.take k))) (tds (d.l.take j))) x.t.frm x.t.to)⟩, A20, c21⟩ : Dd).t)) :: Kn (RowsP (X2 ++ [(⟨⟨x.t.op, x.t.key, x.t.val, x.t.frm, x.t.to, x.t.is, (within (leftU (left [] (things (tns ds) (o.take k))) (tds (d.l.take j))) x.t.frm x.t.to)⟩, A20, c21⟩ : Dd)])) :: .blk g6 [.int .i64 e.id, .int .i64 e.wall, .int .i64 e.logic, .slice (some ae) e.l.length e.c] 80 :: .blk g7 [.int .i64 x.t.op, .string (str x.t.key), .string (str x.t.val), .string (str x.t.frm), .string (str x.t.to), .bool x.t.is, .slice A20 ((within (leftU (left [] (things (tns ds) (o.take k))) (tds (d.l.take j))) x.t.frm x.t.to).length) c21] 81 :: Own 3 1 (some ab) ds.length c3 (nats o) :: Own 80 4 (some a5) ds.length cb (nvs es) :: Own 81 7 (some ae) e.l.length e.c (dvs (mix.set j (⟨⟨x.t.op, x.t.key, x.t.val, x.t.frm, x.t.to, x.t.is, (within (leftU (left [] (things (tns ds) (o.take k))) (tds (d.l.take j))) x.t.frm x.t.to)⟩, A20, c21⟩ : Dd))) :: L) w := s
                  replace s := s.at_ (j := 7) rfl
                  replace s : St W (Own 81 7 (some ae) e.l.length e.c (dvs (mix.set j (⟨⟨x.t.op, x.t.key, x.t.val, x.t.frm, x.t.to, x.t.is, (within (leftU (left [] (things (tns ds) (o.take k))) (tds (d.l.take j))) x.t.frm x.t.to)⟩, A20, c21⟩ : Dd))) :: Rest 81 es i :: Own 54 2 A22 ((nextR (leftU (left [] (things (tns ds) (o.take k))) (tds (d.l.take j))) (⟨⟨x.t.op, x.t.key, x.t.val, x.t.frm, x.t.to, x.t.is, (within (leftU (left [] (things (tns ds) (o.take k))) (tds (d.l.take j))) x.t.frm x.t.to)⟩, A20, c21⟩ : Dd).t).length) c23 (rws (nextR (leftU (left [] (things (tns ds) (o.take k))) (tds (d.l.take j))) (⟨⟨x.t.op, x.t.key, x.t.val, x.t.frm, x.t.to, x.t.is, (within (leftU (left [] (things (tns ds) (o.take k))) (tds (d.l.take j))) x.t.frm x.t.to)⟩, A20, c21⟩ : Dd).t)) :: Kn (RowsP (X2 ++ [(⟨⟨x.t.op, x.t.key, x.t.val, x.t.frm, x.t.to, x.t.is, (within (leftU (left [] (things (tns ds) (o.take k))) (tds (d.l.take j))) x.t.frm x.t.to)⟩, A20, c21⟩ : Dd)])) :: .blk g6 [.int .i64 e.id, .int .i64 e.wall, .int .i64 e.logic, .slice (some ae) e.l.length e.c] 80 :: .blk g7 [.int .i64 x.t.op, .string (str x.t.key), .string (str x.t.val), .string (str x.t.frm), .string (str x.t.to), .bool x.t.is, .slice A20 ((within (leftU (left [] (things (tns ds) (o.take k))) (tds (d.l.take j))) x.t.frm x.t.to).length) c21] 81 :: Own 3 1 (some ab) ds.length c3 (nats o) :: Own 80 4 (some a5) ds.length cb (nvs es) :: L) w := s
                  replace s := s.at_ (j := 7) rfl
                  replace s : St W (Own 80 4 (some a5) ds.length cb (nvs es) :: Own 81 7 (some ae) e.l.length e.c (dvs (mix.set j (⟨⟨x.t.op, x.t.key, x.t.val, x.t.frm, x.t.to, x.t.is, (within (leftU (left [] (things (tns ds) (o.take k))) (tds (d.l.take j))) x.t.frm x.t.to)⟩, A20, c21⟩ : Dd))) :: Rest 81 es i :: Own 54 2 A22 ((nextR (leftU (left [] (things (tns ds) (o.take k))) (tds (d.l.take j))) (⟨⟨x.t.op, x.t.key, x.t.val, x.t.frm, x.t.to, x.t.is, (within (leftU (left [] (things (tns ds) (o.take k))) (tds (d.l.take j))) x.t.frm x.t.to)⟩, A20, c21⟩ : Dd).t).length) c23 (rws (nextR (leftU (left [] (things (tns ds) (o.take k))) (tds (d.l.take j))) (⟨⟨x.t.op, x.t.key, x.t.val, x.t.frm, x.t.to, x.t.is, (within (leftU (left [] (things (tns ds) (o.take k))) (tds (d.l.take j))) x.t.frm x.t.to)⟩, A20, c21⟩ : Dd).t)) :: Kn (RowsP (X2 ++ [(⟨⟨x.t.op, x.t.key, x.t.val, x.t.frm, x.t.to, x.t.is, (within (leftU (left [] (things (tns ds) (o.take k))) (tds (d.l.take j))) x.t.frm x.t.to)⟩, A20, c21⟩ : Dd)])) :: .blk g6 [.int .i64 e.id, .int .i64 e.wall, .int .i64 e.logic, .slice (some ae) e.l.length e.c] 80 :: .blk g7 [.int .i64 x.t.op, .string (str x.t.key), .string (str x.t.val), .string (str x.t.frm), .string (str x.t.to), .bool x.t.is, .slice A20 ((within (leftU (left [] (things (tns ds) (o.take k))) (tds (d.l.take j))) x.t.frm x.t.to).length) c21] 81 :: Own 3 1 (some ab) ds.length c3 (nats o) :: L) w := s
                  replace s := s.at_ (j := 7) rfl
                  replace s : St W (Own 3 1 (some ab) ds.length c3 (nats o) :: Own 80 4 (some a5) ds.length cb (nvs es) :: Own 81 7 (some ae) e.l.length e.c (dvs (mix.set j (⟨⟨x.t.op, x.t.key, x.t.val, x.t.frm, x.t.to, x.t.is, (within (leftU (left [] (things (tns ds) (o.take k))) (tds (d.l.take j))) x.t.frm x.t.to)⟩, A20, c21⟩ : Dd))) :: Rest 81 es i :: Own 54 2 A22 ((nextR (leftU (left [] (things (tns ds) (o.take k))) (tds (d.l.take j))) (⟨⟨x.t.op, x.t.key, x.t.val, x.t.frm, x.t.to, x.t.is, (within (leftU (left [] (things (tns ds) (o.take k))) (tds (d.l.take j))) x.t.frm x.t.to)⟩, A20, c21⟩ : Dd).t).length) c23 (rws (nextR (leftU (left [] (things (tns ds) (o.take k))) (tds (d.l.take j))) (⟨⟨x.t.op, x.t.key, x.t.val, x.t.frm, x.t.to, x.t.is, (within (leftU (left [] (things (tns ds) (o.take k))) (tds (d.l.take j))) x.t.frm x.t.to)⟩, A20, c21⟩ : Dd).t)) :: Kn (RowsP (X2 ++ [(⟨⟨x.t.op, x.t.key, x.t.val, x.t.frm, x.t.to, x.t.is, (within (leftU (left [] (things (tns ds) (o.take k))) (tds (d.l.take j))) x.t.frm x.t.to)⟩, A20, c21⟩ : Dd)])) :: .blk g6 [.int .i64 e.id, .int .i64 e.wall, .int .i64 e.logic, .slice (some ae) e.l.length e.c] 80 :: .blk g7 [.int .i64 x.t.op, .string (str x.t.key), .string (str x.t.val), .string (str x.t.frm), .string (str x.t.to), .bool x.t.is, .slice A20 ((within (leftU (left [] (things (tns ds) (o.take k))) (tds (d.l.take j))) x.t.frm x.t.to).length) c21] 81 :: L) w := s
                  replace s : St W (Own 3 1 (some ab) ds.length c3 (nats o) :: Own 80 4 (some a5) ds.length cb (nvs es) :: Own 81 7 (some ae) e.l.length e.c (dvs (mix.set j (⟨⟨x.t.op, x.t.key, x.t.val, x.t.frm, x.t.to, x.t.is, (within (leftU (left [] (things (tns ds) (o.take k))) (tds (d.l.take j))) x.t.frm x.t.to)⟩, A20, c21⟩ : Dd))) :: Rest 81 es i :: Own 54 2 A22 ((nextR (leftU (left [] (things (tns ds) (o.take k))) (tds (d.l.take j))) (⟨⟨x.t.op, x.t.key, x.t.val, x.t.frm, x.t.to, x.t.is, (within (leftU (left [] (things (tns ds) (o.take k))) (tds (d.l.take j))) x.t.frm x.t.to)⟩, A20, c21⟩ : Dd).t).length) c23 (rws (nextR (leftU (left [] (things (tns ds) (o.take k))) (tds (d.l.take j))) (⟨⟨x.t.op, x.t.key, x.t.val, x.t.frm, x.t.to, x.t.is, (within (leftU (left [] (things (tns ds) (o.take k))) (tds (d.l.take j))) x.t.frm x.t.to)⟩, A20, c21⟩ : Dd).t)) :: Kn (RowsP (X2 ++ [(⟨⟨x.t.op, x.t.key, x.t.val, x.t.frm, x.t.to, x.t.is, (within (leftU (left [] (things (tns ds) (o.take k))) (tds (d.l.take j))) x.t.frm x.t.to)⟩, A20, c21⟩ : Dd)])) :: .blk g6 [.int .i64 e.id, .int .i64 e.wall, .int .i64 e.logic, .slice (some ae) e.l.length e.c] 80 :: L) w := St.mid (A := [Own 3 1 (some ab) ds.length c3 (nats o), Own 80 4 (some a5) ds.length cb (nvs es), Own 81 7 (some ae) e.l.length e.c (dvs (mix.set j (⟨⟨x.t.op, x.t.key, x.t.val, x.t.frm, x.t.to, x.t.is, (within (leftU (left [] (things (tns ds) (o.take k))) (tds (d.l.take j))) x.t.frm x.t.to)⟩, A20, c21⟩ : Dd))), Rest 81 es i, Own 54 2 A22 ((nextR (leftU (left [] (things (tns ds) (o.take k))) (tds (d.l.take j))) (⟨⟨x.t.op, x.t.key, x.t.val, x.t.frm, x.t.to, x.t.is, (within (leftU (left [] (things (tns ds) (o.take k))) (tds (d.l.take j))) x.t.frm x.t.to)⟩, A20, c21⟩ : Dd).t).length) c23 (rws (nextR (leftU (left [] (things (tns ds) (o.take k))) (tds (d.l.take j))) (⟨⟨x.t.op, x.t.key, x.t.val, x.t.frm, x.t.to, x.t.is, (within (leftU (left [] (things (tns ds) (o.take k))) (tds (d.l.take j))) x.t.frm x.t.to)⟩, A20, c21⟩ : Dd).t)), Kn (RowsP (X2 ++ [(⟨⟨x.t.op, x.t.key, x.t.val, x.t.frm, x.t.to, x.t.is, (within (leftU (left [] (things (tns ds) (o.take k))) (tds (d.l.take j))) x.t.frm x.t.to)⟩, A20, c21⟩ : Dd)])), .blk g6 [.int .i64 e.id, .int .i64 e.wall, .int .i64 e.logic, .slice (some ae) e.l.length e.c] 80]) (B := [.blk g7 [.int .i64 x.t.op, .string (str x.t.key), .string (str x.t.val), .string (str x.t.frm), .string (str x.t.to), .bool x.t.is, .slice A20 ((within (leftU (left [] (things (tns ds) (o.take k))) (tds (d.l.take j))) x.t.frm x.t.to).length) c21] 81]) s
                  have hls : (leftU (left [] (things (tns ds) (o.take k))) (tds (d.l.take (j + 1)))) = nextR (leftU (left [] (things (tns ds) (o.take k))) (tds (d.l.take j))) (⟨⟨x.t.op, x.t.key, x.t.val, x.t.frm, x.t.to, x.t.is, (within (leftU (left [] (things (tns ds) (o.take k))) (tds (d.l.take j))) x.t.frm x.t.to)⟩, A20, c21⟩ : Dd).t := by rw [tds_take hxd, leftU_snoc, hxr, rightD_next]
                  rw [← hls] at s
                  have hok2 : RowsOk ds (X2 ++ [(⟨⟨x.t.op, x.t.key, x.t.val, x.t.frm, x.t.to, x.t.is, (within (leftU (left [] (things (tns ds) (o.take k))) (tds (d.l.take j))) x.t.frm x.t.to)⟩, A20, c21⟩ : Dd)]) (⟨⟨x.t.op, x.t.key, x.t.val, x.t.frm, x.t.to, x.t.is, (within (leftU (left [] (things (tns ds) (o.take k))) (tds (d.l.take j))) x.t.frm x.t.to)⟩, A20, c21⟩ : Dd) := .inr ⟨by simp, by show (within (leftU (left [] (things (tns ds) (o.take k))) (tds (d.l.take j))) x.t.frm x.t.to).length ≤ _; have := within_le (leftU (left [] (things (tns ds) (o.take k))) (tds (d.l.take j))) x.t.frm x.t.to; omega, hwc⟩
                  exact ⟨(j + 1, mix.set j (⟨⟨x.t.op, x.t.key, x.t.val, x.t.frm, x.t.to, x.t.is, (within (leftU (left [] (things (tns ds) (o.take k))) (tds (d.l.take j))) x.t.frm x.t.to)⟩, A20, c21⟩ : Dd), A22, c23, X2 ++ [(⟨⟨x.t.op, x.t.key, x.t.val, x.t.frm, x.t.to, x.t.is, (within (leftU (left [] (things (tns ds) (o.take k))) (tds (d.l.take j))) x.t.frm x.t.to)⟩, A20, c21⟩ : Dd)]), (show e.l.length - (j + 1) < e.l.length - j by omega), (Has.cons ha (by kernel_rfl) (by kernel_rfl) (Has.cons ha (by kernel_rfl) (by kernel_rfl) (Has.cons ha (by kernel_rfl) (Eq.trans (b := .slice A22 (nextR (leftU (left [] (things (tns ds) (o.take k))) (tds (d.l.take j))) (⟨⟨x.t.op, x.t.key, x.t.val, x.t.frm, x.t.to, x.t.is, (within (leftU (left [] (things (tns ds) (o.take k))) (tds (d.l.take j))) x.t.frm x.t.to)⟩, A20, c21⟩ : Dd).t).length c23) (by kernel_rfl) (by rw [hls])) (Has.cons ha (by kernel_rfl) (by kernel_rfl) (Has.cons ha (by kernel_rfl) (by kernel_rfl) (Has.cons ha (by kernel_rfl) (by kernel_rfl) (Has.nil ha))))))), s, (show j + 1 ≤ e.l.length by omega), by rw [List.length_set]; exact hml, by rw [take_set_succ _ hjm, List.map_append, hp.2.2.1, tds_take hxd, rightL_snoc, ← hxr]; rfl, by rw [drop_set_succ, ← List.drop_drop (i := 1) (j := j) (l := mix), hp.2.2.2.1, List.drop_drop], fun y hy => (List.mem_or_eq_of_mem_set hy).elim (fun hy => (hp.2.2.2.2.1 y hy).mono (fun z hz => List.mem_append_left _ hz)) (fun hy => by rw [hy]; exact hok2), fun x h => List.mem_append_left _ (hp.2.2.2.2.2 x h)⟩
                · rw [hb] at ha; have hb_ := hb; replace hb := ne_of_beq_false hb
                  have n2 := hb
                  refine wp_skip ?_
                  refine then_normal ?_
                  refine wp_seq ?_
                  refine wp_region_lit ?_
                  refine st_val (.pointer (some ⟨g6, 3, none⟩)) ha (by kernel_rfl) (by kernel_rfl) ?_
                  clear ha; intro a ha
                  refine st_val (.slice (some ae) e.l.length e.c) ha (by kernel_rfl) (run_load1 (of_ := 3) (s.blkIs 7 rfl) rfl (by kernel_rfl) Try.isAgg78 rfl) ?_
                  clear ha; intro a ha
                  refine st_val (.int .i64 ((j : Nat) : Int)) ha (by kernel_rfl) (by kernel_rfl) ?_
                  clear ha; intro a ha
                  refine st_val (.agg #[.int .i64 x.t.op, .string (str x.t.key), .string (str x.t.val), .string (str x.t.frm), .string (str x.t.to), .bool x.t.is, .slice x.A x.t.rows.length x.c]) ha (by kernel_rfl) (run_loadN (of_ := 0) [.int .i64 x.t.op, .string (str x.t.key), .string (str x.t.val), .string (str x.t.frm), .string (str x.t.to), .bool x.t.is, .slice x.A x.t.rows.length x.c] (s.blkIs 0 rfl) rfl (by kernel_rfl) Try.isAgg81 Try.sizeOf81 rfl (Nat.le_of_ble_eq_true rfl)) ?_
                  clear ha; intro a ha
                  refine st_val (.pointer (some (ae.add (j * 7)))) ha (by kernel_rfl) (run_indexAddr' (kd := .i64) (i := ((j : Nat) : Int)) (n := e.l.length) (c := e.c) j rfl Try.underlying78 Try.sizeOf81 (by kernel_rfl) (by kernel_rfl) rfl (by first | assumption | omega) _) ?_
                  clear ha; intro a ha
                  refine st_exd ha (by kernel_rfl) (ex_store_own (i := j * 7) 3 [.int .i64 x.t.op, .string (str x.t.key), .string (str x.t.val), .string (str x.t.frm), .string (str x.t.to), .bool x.t.is, .slice x.A x.t.rows.length x.c] s (show putAt (dvs mix) (j * 7) [.int .i64 x.t.op, .string (str x.t.key), .string (str x.t.val), .string (str x.t.frm), .string (str x.t.to), .bool x.t.is, .slice x.A x.t.rows.length x.c] = dvs (mix.set j x) from putAt_dvs hjm x) rfl rfl (by kernel_rfl) (by kernel_rfl) (Try.sizeOf81 _) rfl (by simp [Value.oneCell']) (by simp) (by rw [dvs_len]; simp only [List.length_cons, List.length_nil]; omega)) ?_
                  clear ha; rintro w a s ha
                  replace s : St W (.blk g7 [.int .i64 x.t.op, .string (str x.t.key), .string (str x.t.val), .string (str x.t.frm), .string (str x.t.to), .bool x.t.is, .slice x.A x.t.rows.length x.c] 81 :: Own 3 1 (some ab) ds.length c3 (nats o) :: Own 80 4 (some a5) ds.length cb (nvs es) :: Own 81 7 (some ae) e.l.length e.c (dvs (mix.set j x)) :: Rest 81 es i :: Own 54 2 D ((leftU (left [] (things (tns ds) (o.take k))) (tds (d.l.take j))).length) cD (rws (leftU (left [] (things (tns ds) (o.take k))) (tds (d.l.take j)))) :: Kn (RowsP X2) :: .blk g6 [.int .i64 e.id, .int .i64 e.wall, .int .i64 e.logic, .slice (some ae) e.l.length e.c] 80 :: L) w := s
                  refine wpList_nil ?_
                  refine then_normal ?_
                  refine wp_region_lit ?_
                  refine st_val (.slice D ((leftU (left [] (things (tns ds) (o.take k))) (tds (d.l.take j))).length) cD) ha (by kernel_rfl) (by kernel_rfl) ?_
                  clear ha; intro a ha
                  refine st_val (.agg #[.int .i64 x.t.op, .string (str x.t.key), .string (str x.t.val), .string (str x.t.frm), .string (str x.t.to), .bool x.t.is, .slice x.A x.t.rows.length x.c]) ha (by kernel_rfl) (run_loadN (of_ := 0) [.int .i64 x.t.op, .string (str x.t.key), .string (str x.t.val), .string (str x.t.frm), .string (str x.t.to), .bool x.t.is, .slice x.A x.t.rows.length x.c] (s.blkIs 0 rfl) rfl (by kernel_rfl) Try.isAgg81 Try.sizeOf81 rfl (Nat.le_of_ble_eq_true rfl)) ?_
                  clear ha; intro a ha
                  replace s := s.at_ (j := 5) rfl
                  replace s : St W (Own 54 2 D ((leftU (left [] (things (tns ds) (o.take k))) (tds (d.l.take j))).length) cD (rws (leftU (left [] (things (tns ds) (o.take k))) (tds (d.l.take j)))) :: .blk g7 [.int .i64 x.t.op, .string (str x.t.key), .string (str x.t.val), .string (str x.t.frm), .string (str x.t.to), .bool x.t.is, .slice x.A x.t.rows.length x.c] 81 :: Own 3 1 (some ab) ds.length c3 (nats o) :: Own 80 4 (some a5) ds.length cb (nvs es) :: Own 81 7 (some ae) e.l.length e.c (dvs (mix.set j x)) :: Rest 81 es i :: Kn (RowsP X2) :: .blk g6 [.int .i64 e.id, .int .i64 e.wall, .int .i64 e.logic, .slice (some ae) e.l.length e.c] 80 :: L) w := s
                  have hxr : x.t = rightD (leftU (left [] (things (tns ds) (o.take k))) (tds (d.l.take j))) x.t := by unfold rightD; rw [if_neg n1, if_neg n2]
                  refine st_call ha (by kernel_rfl) (by kernel_rfl) (one_any W _ w D cD (leftU (left [] (things (tns ds) (o.take k))) (tds (d.l.take j))) hup hRj x (fun w s => hxok.reads (hr _ s.tail.tail.tail.tail.tail.tail.tail) ((Knows.kn (j := 5) rfl) w s)) hxb.1 hxb.2 hokx s) ?_
                  rintro _ w ⟨A24, c25, rfl, s⟩
                  replace s : St W (Own 54 2 A24 ((nextR (leftU (left [] (things (tns ds) (o.take k))) (tds (d.l.take j))) x.t).length) c25 (rws (nextR (leftU (left [] (things (tns ds) (o.take k))) (tds (d.l.take j))) x.t)) :: .blk g7 [.int .i64 x.t.op, .string (str x.t.key), .string (str x.t.val), .string (str x.t.frm), .string (str x.t.to), .bool x.t.is, .slice x.A x.t.rows.length x.c] 81 :: Own 3 1 (some ab) ds.length c3 (nats o) :: Own 80 4 (some a5) ds.length cb (nvs es) :: Own 81 7 (some ae) e.l.length e.c (dvs (mix.set j x)) :: Rest 81 es i :: Kn (RowsP X2) :: .blk g6 [.int .i64 e.id, .int .i64 e.wall, .int .i64 e.logic, .slice (some ae) e.l.length e.c] 80 :: L) w := s
                  refine ⟨_, rfl, ?_⟩; clear ha; intro a ha
                  refine st_val (.tuple #[.slice A24 ((nextR (leftU (left [] (things (tns ds) (o.take k))) (tds (d.l.take j))) x.t).length) c25, .bool (isWell (leftU (left [] (things (tns ds) (o.take k))) (tds (d.l.take j))) x.t)]) ha (by kernel_rfl) (by kernel_rfl) ?_
                  clear ha; intro a ha
                  refine st_val (.slice A24 ((nextR (leftU (left [] (things (tns ds) (o.take k))) (tds (d.l.take j))) x.t).length) c25) ha (by kernel_rfl) (by kernel_rfl) ?_
                  clear ha; intro a ha
                  refine st_val (.bool (isWell (leftU (left [] (things (tns ds) (o.take k))) (tds (d.l.take j))) x.t)) ha (by kernel_rfl) (by kernel_rfl) ?_
                  clear ha; intro a ha
                  refine st_val (.slice A24 ((nextR (leftU (left [] (things (tns ds) (o.take k))) (tds (d.l.take j))) x.t).length) c25) ha (by kernel_rfl) (by kernel_rfl) ?_
                  clear ha; intro a ha
                  refine wpList_nil ?_
                  refine block_normal ?_
                  refine then_normal ?_
                  refine wp_region_lit ?_
                  refine st_val (.int .i64 ((j : Nat) : Int)) ha (by kernel_rfl) (by kernel_rfl) ?_
                  clear ha; intro a ha
                  refine st_val (.int .i64 ((j + 1 : Nat) : Int)) ha (by kernel_rfl) (run_arith (((j : Nat) : Int) + (1 : Int)) ((j + 1 : Nat) : Int) rfl (by kernel_rfl) (by kernel_rfl) (.inl ⟨rfl, rfl⟩) (by rw [wrap64_in (by omega)]; try omega) _) ?_
                  clear ha; intro a ha
                  refine st_val (.int .i64 ((j + 1 : Nat) : Int)) ha (by kernel_rfl) (by kernel_rfl) ?_
                  clear ha; intro a ha
                  refine wpList_nil ?_
                  refine then_normal ?_
                  replace s := s.at_ (j := 7) rfl
                  replace s : St W (.blk g6 [.int .i64 e.id, .int .i64 e.wall, .int .i64 e.logic, .slice (some ae) e.l.length e.c] 80 :: Own 54 2 A24 ((nextR (leftU (left [] (things (tns ds) (o.take k))) (tds (d.l.take j))) x.t).length) c25 (rws (nextR (leftU (left [] (things (tns ds) (o.take k))) (tds (d.l.take j))) x.t)) :: .blk g7 [.int .i64 x.t.op, .string (str x.t.key), .string (str x.t.val), .string (str x.t.frm), .string (str x.t.to), .bool x.t.is, .slice x.A x.t.rows.length x.c] 81 :: Own 3 1 (some ab) ds.length c3 (nats o) :: Own 80 4 (some a5) ds.length cb (nvs es) :: Own 81 7 (some ae) e.l.length e.c (dvs (mix.set j x)) :: Rest 81 es i :: Kn (RowsP X2) :: L) w := s
                  replace s := s.at_ (j := 7) rfl
                  replace s : St W (Kn (RowsP X2) :: .blk g6 [.int .i64 e.id, .int .i64 e.wall, .int .i64 e.logic, .slice (some ae) e.l.length e.c] 80 :: Own 54 2 A24 ((nextR (leftU (left [] (things (tns ds) (o.take k))) (tds (d.l.take j))) x.t).length) c25 (rws (nextR (leftU (left [] (things (tns ds) (o.take k))) (tds (d.l.take j))) x.t)) :: .blk g7 [.int .i64 x.t.op, .string (str x.t.key), .string (str x.t.val), .string (str x.t.frm), .string (str x.t.to), .bool x.t.is, .slice x.A x.t.rows.length x.c] 81 :: Own 3 1 (some ab) ds.length c3 (nats o) :: Own 80 4 (some a5) ds.length cb (nvs es) :: Own 81 7 (some ae) e.l.length e.c (dvs (mix.set j x)) :: Rest 81 es i :: L) w := s
                  replace s := s.at_ (j := 2) rfl
                  replace s : St W (Own 54 2 A24 ((nextR (leftU (left [] (things (tns ds) (o.take k))) (tds (d.l.take j))) x.t).length) c25 (rws (nextR (leftU (left [] (things (tns ds) (o.take k))) (tds (d.l.take j))) x.t)) :: Kn (RowsP X2) :: .blk g6 [.int .i64 e.id, .int .i64 e.wall, .int .i64 e.logic, .slice (some ae) e.l.length e.c] 80 :: .blk g7 [.int .i64 x.t.op, .string (str x.t.key), .string (str x.t.val), .string (str x.t.frm), .string (str x.t.to), .bool x.t.is, .slice x.A x.t.rows.length x.c] 81 :: Own 3 1 (some ab) ds.length c3 (nats o) :: Own 80 4 (some a5) ds.length cb (nvs es) :: Own 81 7 (some ae) e.l.length e.c (dvs (mix.set j x)) :: Rest 81 es i :: L) w := s
                  replace s := s.at_ (j := 7) rfl
                  replace s : St W (Rest 81 es i :: Own 54 2 A24 ((nextR (leftU (left [] (things (tns ds) (o.take k))) (tds (d.l.take j))) x.t).length) c25 (rws (nextR (leftU (left [] (things (tns ds) (o.take k))) (tds (d.l.take j))) x.t)) :: Kn (RowsP X2) :: .blk g6 [.int .i64 e.id, .int .i64 e.wall, .int .i64 e.logic, .slice (some ae) e.l.length e.c] 80 :: .blk g7 [.int .i64 x.t.op, .string (str x.t.key), .string (str x.t.val), .string (str x.t.frm), .string (str x.t.to), .bool x.t.is, .slice x.A x.t.rows.length x.c] 81 :: Own 3 1 (some ab) ds.length c3 (nats o) :: Own 80 4 (some a5) ds.length cb (nvs es) :: Own 81 7 (some ae) e.l.length e.c (dvs (mix.set j x)) :: L) w := s
                  replace s := s.at_ (j := 7) rfl
                  replace s : St W (Own 81 7 (some ae) e.l.length e.c (dvs (mix.set j x)) :: Rest 81 es i :: Own 54 2 A24 ((nextR (leftU (left [] (things (tns ds) (o.take k))) (tds (d.l.take j))) x.t).length) c25 (rws (nextR (leftU (left [] (things (tns ds) (o.take k))) (tds (d.l.take j))) x.t)) :: Kn (RowsP X2) :: .blk g6 [.int .i64 e.id, .int .i64 e.wall, .int .i64 e.logic, .slice (some ae) e.l.length e.c] 80 :: .blk g7 [.int .i64 x.t.op, .string (str x.t.key), .string (str x.t.val), .string (str x.t.frm), .string (str x.t.to), .bool x.t.is, .slice x.A x.t.rows.length x.c] 81 :: Own 3 1 (some ab) ds.length c3 (nats o) :: Own 80 4 (some a5) ds.length cb (nvs es) :: L) w := s
                  replace s := s.at_ (j := 7) rfl
                  replace s : St W (Own 80 4 (some a5) ds.length cb (nvs es) :: Own 81 7 (some ae) e.l.length e.c (dvs (mix.set j x)) :: Rest 81 es i :: Own 54 2 A24 ((nextR (leftU (left [] (things (tns ds) (o.take k))) (tds (d.l.take j))) x.t).length) c25 (rws (nextR (leftU (left [] (things (tns ds) (o.take k))) (tds (d.l.take j))) x.t)) :: Kn (RowsP X2) :: .blk g6 [.int .i64 e.id, .int .i64 e.wall, .int .i64 e.logic, .slice (some ae) e.l.length e.c] 80 :: .blk g7 [.int .i64 x.t.op, .string (str x.t.key), .string (str x.t.val), .string (str x.t.frm), .string (str x.t.to), .bool x.t.is, .slice x.A x.t.rows.length x.c] 81 :: Own 3 1 (some ab) ds.length c3 (nats o) :: L) w := s
                  replace s := s.at_ (j := 7) rfl
                  replace s : St W (Own 3 1 (some ab) ds.length c3 (nats o) :: Own 80 4 (some a5) ds.length cb (nvs es) :: Own 81 7 (some ae) e.l.length e.c (dvs (mix.set j x)) :: Rest 81 es i :: Own 54 2 A24 ((nextR (leftU (left [] (things (tns ds) (o.take k))) (tds (d.l.take j))) x.t).length) c25 (rws (nextR (leftU (left [] (things (tns ds) (o.take k))) (tds (d.l.take j))) x.t)) :: Kn (RowsP X2) :: .blk g6 [.int .i64 e.id, .int .i64 e.wall, .int .i64 e.logic, .slice (some ae) e.l.length e.c] 80 :: .blk g7 [.int .i64 x.t.op, .string (str x.t.key), .string (str x.t.val), .string (str x.t.frm), .string (str x.t.to), .bool x.t.is, .slice x.A x.t.rows.length x.c] 81 :: L) w := s
                  replace s : St W (Own 3 1 (some ab) ds.length c3 (nats o) :: Own 80 4 (some a5) ds.length cb (nvs es) :: Own 81 7 (some ae) e.l.length e.c (dvs (mix.set j x)) :: Rest 81 es i :: Own 54 2 A24 ((nextR (leftU (left [] (things (tns ds) (o.take k))) (tds (d.l.take j))) x.t).length) c25 (rws (nextR (leftU (left [] (things (tns ds) (o.take k))) (tds (d.l.take j))) x.t)) :: Kn (RowsP X2) :: .blk g6 [.int .i64 e.id, .int .i64 e.wall, .int .i64 e.logic, .slice (some ae) e.l.length e.c] 80 :: L) w := St.mid (A := [Own 3 1 (some ab) ds.length c3 (nats o), Own 80 4 (some a5) ds.length cb (nvs es), Own 81 7 (some ae) e.l.length e.c (dvs (mix.set j x)), Rest 81 es i, Own 54 2 A24 ((nextR (leftU (left [] (things (tns ds) (o.take k))) (tds (d.l.take j))) x.t).length) c25 (rws (nextR (leftU (left [] (things (tns ds) (o.take k))) (tds (d.l.take j))) x.t)), Kn (RowsP X2), .blk g6 [.int .i64 e.id, .int .i64 e.wall, .int .i64 e.logic, .slice (some ae) e.l.length e.c] 80]) (B := [.blk g7 [.int .i64 x.t.op, .string (str x.t.key), .string (str x.t.val), .string (str x.t.frm), .string (str x.t.to), .bool x.t.is, .slice x.A x.t.rows.length x.c] 81]) s
                  have hls : (leftU (left [] (things (tns ds) (o.take k))) (tds (d.l.take (j + 1)))) = nextR (leftU (left [] (things (tns ds) (o.take k))) (tds (d.l.take j))) x.t := by rw [tds_take hxd, leftU_snoc, hxr, rightD_next]
                  rw [← hls] at s
                  have hok2 : RowsOk ds (X2) x := hxok.same hxm2 rfl rfl rfl
                  exact ⟨(j + 1, mix.set j x, A24, c25, X2), (show e.l.length - (j + 1) < e.l.length - j by omega), (Has.cons ha (by kernel_rfl) (by kernel_rfl) (Has.cons ha (by kernel_rfl) (by kernel_rfl) (Has.cons ha (by kernel_rfl) (Eq.trans (b := .slice A24 (nextR (leftU (left [] (things (tns ds) (o.take k))) (tds (d.l.take j))) x.t).length c25) (by kernel_rfl) (by rw [hls])) (Has.cons ha (by kernel_rfl) (by kernel_rfl) (Has.cons ha (by kernel_rfl) (by kernel_rfl) (Has.cons ha (by kernel_rfl) (by kernel_rfl) (Has.nil ha))))))), s, (show j + 1 ≤ e.l.length by omega), by rw [List.length_set]; exact hml, by rw [take_set_succ _ hjm, List.map_append, hp.2.2.1, tds_take hxd, rightL_snoc, ← hxr]; rfl, by rw [drop_set_succ, ← List.drop_drop (i := 1) (j := j) (l := mix), hp.2.2.2.1, List.drop_drop], fun y hy => (List.mem_or_eq_of_mem_set hy).elim (fun hy => hp.2.2.2.2.1 y hy) (fun hy => by rw [hy]; exact hok2), fun x h => hp.2.2.2.2.2 x h⟩
            · rw [hb] at ha; replace hb : ¬ (((j : Nat) : Int) < ((e.l.length : Nat) : Int)) := of_decide_eq_false hb
              refine wp_exit ?_
              refine then_exit ?_
              refine then_exit ?_
              refine block_hit ?_
              refine block_normal ?_
              refine then_normal ?_
              refine wp_region_lit ?_
              refine st_val (.int .i64 ((k : Nat) : Int)) ha (by kernel_rfl) (by kernel_rfl) ?_
              clear ha; intro a ha
              refine st_val (.int .i64 ((k + 1 : Nat) : Int)) ha (by kernel_rfl) (run_arith (((k : Nat) : Int) + (1 : Int)) ((k + 1 : Nat) : Int) rfl (by kernel_rfl) (by kernel_rfl) (.inl ⟨rfl, rfl⟩) (by rw [wrap64_in (by omega)]; try omega) _) ?_
              clear ha; intro a ha
              refine st_val (.int .i64 ((k + 1 : Nat) : Int)) ha (by kernel_rfl) (by kernel_rfl) ?_
              clear ha; intro a ha
              refine wpList_nil ?_
              refine then_normal ?_
              rw [hAe] at s
              replace s : St W (Own 3 1 (some ab) ds.length c3 (nats o) :: Own 80 4 (some a5) ds.length cb (nvs es) :: Own 81 7 e.A e.l.length e.c (dvs mix) :: Rest 81 es i :: Own 54 2 D ((leftU (left [] (things (tns ds) (o.take k))) (tds (d.l.take j))).length) cD (rws (leftU (left [] (things (tns ds) (o.take k))) (tds (d.l.take j)))) :: Kn (RowsP X2) :: .blk g6 [.int .i64 e.id, .int .i64 e.wall, .int .i64 e.logic, .slice e.A e.l.length e.c] 80 :: L) w := s
              replace s := s.at_ (j := 5) rfl
              replace s : St W (Kn (RowsP X2) :: Own 3 1 (some ab) ds.length c3 (nats o) :: Own 80 4 (some a5) ds.length cb (nvs es) :: Own 81 7 e.A e.l.length e.c (dvs mix) :: Rest 81 es i :: Own 54 2 D ((leftU (left [] (things (tns ds) (o.take k))) (tds (d.l.take j))).length) cD (rws (leftU (left [] (things (tns ds) (o.take k))) (tds (d.l.take j)))) :: .blk g6 [.int .i64 e.id, .int .i64 e.wall, .int .i64 e.logic, .slice e.A e.l.length e.c] 80 :: L) w := s
              replace s := s.at_ (j := 5) rfl
              replace s : St W (Own 54 2 D ((leftU (left [] (things (tns ds) (o.take k))) (tds (d.l.take j))).length) cD (rws (leftU (left [] (things (tns ds) (o.take k))) (tds (d.l.take j)))) :: Kn (RowsP X2) :: Own 3 1 (some ab) ds.length c3 (nats o) :: Own 80 4 (some a5) ds.length cb (nvs es) :: Own 81 7 e.A e.l.length e.c (dvs mix) :: Rest 81 es i :: .blk g6 [.int .i64 e.id, .int .i64 e.wall, .int .i64 e.logic, .slice e.A e.l.length e.c] 80 :: L) w := s
              replace s := s.at_ (j := 3) rfl
              replace s : St W (Own 80 4 (some a5) ds.length cb (nvs es) :: Own 54 2 D ((leftU (left [] (things (tns ds) (o.take k))) (tds (d.l.take j))).length) cD (rws (leftU (left [] (things (tns ds) (o.take k))) (tds (d.l.take j)))) :: Kn (RowsP X2) :: Own 3 1 (some ab) ds.length c3 (nats o) :: Own 81 7 e.A e.l.length e.c (dvs mix) :: Rest 81 es i :: .blk g6 [.int .i64 e.id, .int .i64 e.wall, .int .i64 e.logic, .slice e.A e.l.length e.c] 80 :: L) w := s
              replace s := s.at_ (j := 3) rfl
              replace s : St W (Own 3 1 (some ab) ds.length c3 (nats o) :: Own 80 4 (some a5) ds.length cb (nvs es) :: Own 54 2 D ((leftU (left [] (things (tns ds) (o.take k))) (tds (d.l.take j))).length) cD (rws (leftU (left [] (things (tns ds) (o.take k))) (tds (d.l.take j)))) :: Kn (RowsP X2) :: Own 81 7 e.A e.l.length e.c (dvs mix) :: Rest 81 es i :: .blk g6 [.int .i64 e.id, .int .i64 e.wall, .int .i64 e.logic, .slice e.A e.l.length e.c] 80 :: L) w := s
              replace s := s.at_ (j := 5) rfl
              replace s : St W (Rest 81 es i :: Own 3 1 (some ab) ds.length c3 (nats o) :: Own 80 4 (some a5) ds.length cb (nvs es) :: Own 54 2 D ((leftU (left [] (things (tns ds) (o.take k))) (tds (d.l.take j))).length) cD (rws (leftU (left [] (things (tns ds) (o.take k))) (tds (d.l.take j)))) :: Kn (RowsP X2) :: Own 81 7 e.A e.l.length e.c (dvs mix) :: .blk g6 [.int .i64 e.id, .int .i64 e.wall, .int .i64 e.logic, .slice e.A e.l.length e.c] 80 :: L) w := s
              replace s := s.at_ (j := 5) rfl
              replace s : St W (Own 81 7 e.A e.l.length e.c (dvs mix) :: Rest 81 es i :: Own 3 1 (some ab) ds.length c3 (nats o) :: Own 80 4 (some a5) ds.length cb (nvs es) :: Own 54 2 D ((leftU (left [] (things (tns ds) (o.take k))) (tds (d.l.take j))).length) cD (rws (leftU (left [] (things (tns ds) (o.take k))) (tds (d.l.take j)))) :: Kn (RowsP X2) :: .blk g6 [.int .i64 e.id, .int .i64 e.wall, .int .i64 e.logic, .slice e.A e.l.length e.c] 80 :: L) w := s
              replace s : St W (Own 81 7 e.A e.l.length e.c (dvs mix) :: Rest 81 es i :: Own 3 1 (some ab) ds.length c3 (nats o) :: Own 80 4 (some a5) ds.length cb (nvs es) :: Own 54 2 D ((leftU (left [] (things (tns ds) (o.take k))) (tds (d.l.take j))).length) cD (rws (leftU (left [] (things (tns ds) (o.take k))) (tds (d.l.take j)))) :: Kn (RowsP X2) :: L) w := St.mid (A := [Own 81 7 e.A e.l.length e.c (dvs mix), Rest 81 es i, Own 3 1 (some ab) ds.length c3 (nats o), Own 80 4 (some a5) ds.length cb (nvs es), Own 54 2 D ((leftU (left [] (things (tns ds) (o.take k))) (tds (d.l.take j))).length) cD (rws (leftU (left [] (things (tns ds) (o.take k))) (tds (d.l.take j)))), Kn (RowsP X2)]) (B := [.blk g6 [.int .i64 e.id, .int .i64 e.wall, .int .i64 e.logic, .slice e.A e.l.length e.c] 80]) s
              have hjl : j = e.l.length := by omega
              have hml := hp.2.1
              have hmt := hp.2.2.1
              rw [hjl, List.take_of_length_le (by omega), hel, List.take_length] at hmt
              rw [hjl, hel, List.take_length, ← left_next hi hd] at s ha
              replace s : St W (Own 81 7 e.A d.l.length e.c (dvs mix) :: Rest 81 es i :: Own 3 1 (some ab) ds.length c3 (nats o) :: Own 80 4 (some a5) ds.length cb (nvs es) :: Own 54 2 D ((left [] (things (tns ds) (o.take (k + 1)))).length) cD (rws (left [] (things (tns ds) (o.take (k + 1))))) :: Kn (RowsP X2) :: L) w := s
              rw [show d.l.length = mix.length by rw [hml, hel]] at s
              replace s := (Inn.close he mix s).at_ (j := 0) rfl
              rw [← nvs_set he hml] at s
              replace s : St W (Inn 81 (es.set i { e with l := mix }) :: Own 3 1 (some ab) ds.length c3 (nats o) :: Own 80 4 (some a5) ds.length cb (nvs (es.set i { e with l := mix })) :: Own 54 2 D ((left [] (things (tns ds) (o.take (k + 1)))).length) cD (rws (left [] (things (tns ds) (o.take (k + 1))))) :: Kn (RowsP X2) :: L) w := s
              replace s := s.at_ (j := 4) rfl
              replace s : St W (Kn (RowsP X2) :: Inn 81 (es.set i { e with l := mix }) :: Own 3 1 (some ab) ds.length c3 (nats o) :: Own 80 4 (some a5) ds.length cb (nvs (es.set i { e with l := mix })) :: Own 54 2 D ((left [] (things (tns ds) (o.take (k + 1)))).length) cD (rws (left [] (things (tns ds) (o.take (k + 1))))) :: L) w := s
              replace s := s.at_ (j := 4) rfl
              replace s : St W (Own 54 2 D ((left [] (things (tns ds) (o.take (k + 1)))).length) cD (rws (left [] (things (tns ds) (o.take (k + 1))))) :: Kn (RowsP X2) :: Inn 81 (es.set i { e with l := mix }) :: Own 3 1 (some ab) ds.length c3 (nats o) :: Own 80 4 (some a5) ds.length cb (nvs (es.set i { e with l := mix })) :: L) w := s
              replace s := s.at_ (j := 2) rfl
              replace s : St W (Inn 81 (es.set i { e with l := mix }) :: Own 54 2 D ((left [] (things (tns ds) (o.take (k + 1)))).length) cD (rws (left [] (things (tns ds) (o.take (k + 1))))) :: Kn (RowsP X2) :: Own 3 1 (some ab) ds.length c3 (nats o) :: Own 80 4 (some a5) ds.length cb (nvs (es.set i { e with l := mix })) :: L) w := s
              replace s := s.at_ (j := 4) rfl
              replace s : St W (Own 80 4 (some a5) ds.length cb (nvs (es.set i { e with l := mix })) :: Inn 81 (es.set i { e with l := mix }) :: Own 54 2 D ((left [] (things (tns ds) (o.take (k + 1)))).length) cD (rws (left [] (things (tns ds) (o.take (k + 1))))) :: Kn (RowsP X2) :: Own 3 1 (some ab) ds.length c3 (nats o) :: L) w := s
              replace s := s.at_ (j := 4) rfl
              replace s : St W (Own 3 1 (some ab) ds.length c3 (nats o) :: Own 80 4 (some a5) ds.length cb (nvs (es.set i { e with l := mix })) :: Inn 81 (es.set i { e with l := mix }) :: Own 54 2 D ((left [] (things (tns ds) (o.take (k + 1)))).length) cD (rws (left [] (things (tns ds) (o.take (k + 1))))) :: Kn (RowsP X2) :: L) w := s
              exact ⟨(k + 1, es.set i { e with l := mix }, D, cD, X2), (show ds.length - (k + 1) < ds.length - k by omega), (Has.cons ha (by kernel_rfl) (by kernel_rfl) (Has.cons ha (by kernel_rfl) (by kernel_rfl) (Has.cons ha (by kernel_rfl) (by kernel_rfl) (Has.cons ha (by kernel_rfl) (by kernel_rfl) (Has.nil ha))))), s, (show k + 1 ≤ ds.length by omega), hP.step ho hi hd he hce hmt, fun e3 h3 x h4 => (List.mem_or_eq_of_mem_set h3).elim (fun h3 => (hR e3 h3 x h4).mono hp.2.2.2.2.2) (fun h3 => by subst h3; exact hp.2.2.2.2.1 x h4)⟩
        · rw [hb] at ha; replace hb : ¬ (((k : Nat) : Int) < ((ds.length : Nat) : Int)) := of_decide_eq_false hb
          have hk : k = ds.length := by omega
          have hP := hp.2.1
          have hR := hp.2.2
          rw [hk, ← hol] at hP
          refine wp_exit ?_
          refine then_exit ?_
          refine then_exit ?_
          refine block_hit ?_
          refine then_normal ?_
          refine wp_seq ?_
          refine wp_region_lit ?_
          refine st_val (.slice B ds.length cb) ha (by kernel_rfl) (by kernel_rfl) ?_
          clear ha; intro a ha
          refine st_val (.slice B ds.length cb) ha (by kernel_rfl) (by kernel_rfl) ?_
          clear ha; intro a ha
          refine wpList_nil ?_
          refine then_normal ?_
          refine wp_ret ?_
          refine ret_with (v := .slice B ds.length cb) ha (results_1 rfl ha (res_tmp (by kernel_rfl) (by kernel_rfl))) ?_
          replace s := s.at_ (j := 4) rfl
          replace s : St W (Kn (RowsP X) :: Own 3 1 B3 ds.length c3 (nats o) :: Own 80 4 B ds.length cb (nvs es) :: Inn 81 es :: Own 54 2 D ((left [] (things (tns ds) (o.take k))).length) cD (rws (left [] (things (tns ds) (o.take k)))) :: L) w := s
          replace s := s.at_ (j := 3) rfl
          replace s : St W (Inn 81 es :: Kn (RowsP X) :: Own 3 1 B3 ds.length c3 (nats o) :: Own 80 4 B ds.length cb (nvs es) :: Own 54 2 D ((left [] (things (tns ds) (o.take k))).length) cD (rws (left [] (things (tns ds) (o.take k)))) :: L) w := s
          replace s := s.at_ (j := 3) rfl
          replace s : St W (Own 80 4 B ds.length cb (nvs es) :: Inn 81 es :: Kn (RowsP X) :: Own 3 1 B3 ds.length c3 (nats o) :: Own 54 2 D ((left [] (things (tns ds) (o.take k))).length) cD (rws (left [] (things (tns ds) (o.take k)))) :: L) w := s
          replace s : St W (Own 80 4 B ds.length cb (nvs es) :: Inn 81 es :: Kn (RowsP X) :: L) w := St.mid (A := [Own 80 4 B ds.length cb (nvs es), Inn 81 es, Kn (RowsP X)]) (B := [Own 3 1 B3 ds.length c3 (nats o), Own 54 2 D ((left [] (things (tns ds) (o.take k))).length) cD (rws (left [] (things (tns ds) (o.take k))))]) s
          exact ⟨_, _, es, X, o, rfl, ho, hP.right, hR, s⟩

end Go.Proofs.Ytidfniglnmfphaa.B
