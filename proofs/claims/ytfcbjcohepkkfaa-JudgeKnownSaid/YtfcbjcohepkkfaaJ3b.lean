import Derived.Test.YtfcbjcohepkkfaaJ3
namespace Go.Proofs.Ytfcbjcohepkkfaa.B
open Go.RowKit Go.Maps Go.Sort Go.Shelf Go.Proofs.Ytfcbjcohepkkfaa.Sep Go.Proofs.Ytfcbjcohepkkfaa.P
set_option linter.unusedVariables false
set_option linter.unusedSimpArgs false

set_option maxHeartbeats 4000000 in
theorem answers_any (W : World) (L : List Chunk) (w : World) (g gd gt : Nat) (k : Look) (Dd : List (Int × Value)) (T : List (Int × Nat × Tx)) (n : Nat) (hk : LkOk k Dd T n) (hn : n ≤ 1000000) (x : Ev) (hmx : mayB k.ti x = true) (s : St W (Chunk.blk g [.int .i64 k.ti, .int .i64 k.most, .map (some gd), .map (some gt)] 48 :: MapT Try.prog 3 encI gd Dd :: MapT Try.prog 3 encI gt (T.map ent) :: Blks T :: L) w) :
    Calls Try.prog 20 #[.pointer (some ⟨g, 0, none⟩), .agg (evv x).toArray] w fun e w' => ∃ T2 : List (Int × Nat × Tx), e = .returned (.bool (answersB (k.tx x.id) x)) ∧ LkOk k Dd T2 (n + 1) ∧ St W (Chunk.blk g [.int .i64 k.ti, .int .i64 k.most, .map (some gd), .map (some gt)] 48 :: MapT Try.prog 3 encI gd Dd :: MapT Try.prog 3 encI gt (T2.map ent) :: Blks T2 :: L) w' := by
  refine enter_args (l := [.pointer (some ⟨g, 0, none⟩), .agg (evv x).toArray]) Try.func20 rfl rfl (Nat.le_of_ble_eq_true rfl) ?_
  intro a ha; replace ha : Has a 68 [(0, .pointer (some ⟨g, 0, none⟩)), (1, .agg (evv x).toArray)] := ha
  refine wp_seq ?_
  refine wp_region_lit ?_
  refine st_ex ha (by kernel_rfl) (ex_box (evv x) s rfl (by kernel_rfl)) ?_
  clear ha; rintro _ w a ⟨g1, rfl, s⟩ ha
  refine st_val (.bool false) ha (by kernel_rfl) (by kernel_rfl) ?_
  clear ha; intro a ha
  refine wpList_nil ?_
  refine then_normal ?_
  refine wp_seq ?_
  refine wp_seq ?_
  refine wp_region_lit ?_
  refine st_val (.pointer (some ⟨g1, 1, none⟩)) ha (by kernel_rfl) (by kernel_rfl) ?_
  clear ha; intro a ha
  refine st_val (.int .i64 x.kind) ha (by kernel_rfl) (run_load1 (of_ := 1) (s.blkIs 0 rfl) rfl (by kernel_rfl) Try.isAgg3 rfl) ?_
  clear ha; intro a ha
  refine st_val (.bool (x.kind != (3 : Int))) ha (by kernel_rfl) (by kernel_rfl) ?_
  clear ha; intro a ha
  refine wpList_nil ?_
  refine then_normal ?_
  refine wp_part (x.kind != (3 : Int)) ha rfl (by kernel_rfl) (fun hb => ?_) (fun hb => ?_)
  · rw [hb] at ha; have hb_ := hb; replace hb := bne_iff_ne.1 hb
    refine wp_seq ?_
    refine wp_region_lit ?_
    refine st_val (.bool true) ha (by kernel_rfl) (by kernel_rfl) ?_
    clear ha; intro a ha
    refine wpList_nil ?_
    refine then_normal ?_
    refine wp_ret ?_
    refine then_ret ?_
    refine ret_with (v := .bool true) ha (results_1 rfl ha (res_tmp (by kernel_rfl) (by kernel_rfl))) ?_
    replace s := (((s.at_ (j := 4) rfl).at_ (j := 4) rfl).at_ (j := 4) rfl).at_ (j := 4) rfl
    replace s : St W (.blk g [.int .i64 k.ti, .int .i64 k.most, .map (some gd), .map (some gt)] 48 :: MapT Try.prog 3 encI gd Dd :: MapT Try.prog 3 encI gt (T.map ent) :: Blks T :: L) w := s.keep 4 1
    refine ⟨T, ?_, hk.up (by omega), s⟩
    congr 2
    clear s ha
    unfold answersB
    first | (simp [*]; done) | (simp_all; done) | (simp [*]; omega)
  · rw [hb] at ha; have hb_ := hb; replace hb := bne_eq_false_iff_eq.1 hb
    have hid := may_has hmx (has_iff.2 (by omega))
    refine wp_skip ?_
    refine then_normal ?_
    refine wp_seq ?_
    refine wp_region_lit ?_
    refine st_val (.pointer (some ⟨g, 0, none⟩)) ha (by kernel_rfl) (by kernel_rfl) ?_
    clear ha; intro a ha
    refine st_val (.pointer (some ⟨g1, 3, none⟩)) ha (by kernel_rfl) (by kernel_rfl) ?_
    clear ha; intro a ha
    refine st_val (.int .i64 x.id) ha (by kernel_rfl) (run_load1 (of_ := 3) (s.blkIs 0 rfl) rfl (by kernel_rfl) Try.isAgg3 rfl) ?_
    clear ha; intro a ha
    replace s := (((s.at_ (j := 4) rfl).at_ (j := 4) rfl).at_ (j := 4) rfl).at_ (j := 4) rfl
    replace s : St W (.blk g [.int .i64 k.ti, .int .i64 k.most, .map (some gd), .map (some gt)] 48 :: MapT Try.prog 3 encI gd Dd :: MapT Try.prog 3 encI gt (T.map ent) :: Blks T :: .blk g1 (evv x) 36 :: L) w := s
    refine st_call ha (by kernel_rfl) (by kernel_rfl) (txn_any W _ w g gd gt k Dd T n hk hn x.id (by omega) s) ?_
    rintro _ w ⟨T2, q, b, rfl, ht2, hk2, s⟩
    obtain ⟨t, ht⟩ : ∃ t, t = k.tx x.id := ⟨_, rfl⟩
    rw [← ht] at ht2
    replace s := s.at_ (j := 3) rfl
    replace s : St W (Blks T2 :: .blk g [.int .i64 k.ti, .int .i64 k.most, .map (some gd), .map (some gt)] 48 :: MapT Try.prog 3 encI gd Dd :: MapT Try.prog 3 encI gt (T2.map ent) :: .blk g1 (evv x) 36 :: L) w := s
    replace s := Blks.open_ ht2 s
    replace s : St W (.blk b (txv t) 67 :: BRest T2 q :: .blk g [.int .i64 k.ti, .int .i64 k.most, .map (some gd), .map (some gt)] 48 :: MapT Try.prog 3 encI gd Dd :: MapT Try.prog 3 encI gt (T2.map ent) :: .blk g1 (evv x) 36 :: L) w := s
    refine ⟨_, rfl, ?_⟩; clear ha; intro a ha
    refine st_val (.pointer (some ⟨b, 0, none⟩)) ha (by kernel_rfl) (by kernel_rfl) ?_
    clear ha; intro a ha
    refine wpList_nil ?_
    refine then_normal ?_
    refine wp_seq ?_
    refine wp_region_head 53 (fun w => BlkIs b (txv t) w ∧ BlkIs g1 (evv x) w ∧ True) (by kernel_rfl) (by decide) ?_
    replace s := s.drew; generalize _root_.Go.World.drew _ = w at s ⊢
    have hS : (fun w => BlkIs b (txv t) w ∧ BlkIs g1 (evv x) w ∧ True) w := ⟨s.blkIs 0 rfl, s.blkIs 5 rfl, trivial⟩
    refine hd_val (i := 0) (.pointer (some ⟨b, 0, none⟩)) ha rfl (by kernel_rfl) (fun _ _ _ h => h) (by kernel_rfl) (fun w hS => (by kernel_rfl)) hS ?_
    clear ha; intro a ha
    refine hd_val (i := 1) (.pointer (some ⟨b, 0, none⟩)) ha rfl (by kernel_rfl) (fun _ _ _ h => h) (by kernel_rfl) (fun w hS => (by kernel_rfl)) hS ?_
    clear ha; intro a ha
    refine hd_val (i := 2) (.pointer (some ⟨b, 1, none⟩)) ha rfl (by kernel_rfl) (fun _ _ _ h => h) (by kernel_rfl) (fun w hS => (by kernel_rfl)) hS ?_
    clear ha; intro a ha
    refine hd_val (i := 3) (.int .i64 t.stand) ha rfl (by kernel_rfl) (fun _ _ _ h => h) (by kernel_rfl) (fun w hS => run_load1 (of_ := 1) hS.1 rfl (by kernel_rfl) Try.isAgg3 rfl) hS ?_
    clear ha; intro a ha
    refine hd_val (i := 4) (.bool (t.stand == (1 : Int))) ha rfl (by kernel_rfl) (fun _ _ _ h => h) (by kernel_rfl) (fun w hS => (by kernel_rfl)) hS ?_
    clear ha; intro a ha
    refine hd_val (i := 5) (.bool (t.stand == (1 : Int))) ha rfl (by kernel_rfl) (fun _ _ _ h => h) (by kernel_rfl) (fun w hS => (by kernel_rfl)) hS ?_
    clear ha; intro a ha
    rcases Bool.eq_false_or_eq_true (t.stand == (1 : Int)) with hb | hb
    · rw [hb] at ha; have hb_ := hb; replace hb := eq_of_beq hb
      refine hd_val (i := 6) (.pointer (some ⟨b, 0, none⟩)) ha rfl (by kernel_rfl) (fun _ _ _ h => h) (by kernel_rfl) (fun w hS => (by kernel_rfl)) hS ?_
      clear ha; intro a ha
      refine hd_val (i := 7) (.pointer (some ⟨b, 0, none⟩)) ha rfl (by kernel_rfl) (fun _ _ _ h => h) (by kernel_rfl) (fun w hS => (by kernel_rfl)) hS ?_
      clear ha; intro a ha
      refine hd_val (i := 8) (.pointer (some ⟨b, 3, none⟩)) ha rfl (by kernel_rfl) (fun _ _ _ h => h) (by kernel_rfl) (fun w hS => (by kernel_rfl)) hS ?_
      clear ha; intro a ha
      refine hd_val (i := 9) (.pointer (some ⟨b, 5, none⟩)) ha rfl (by kernel_rfl) (fun _ _ _ h => h) (by kernel_rfl) (fun w hS => (by kernel_rfl)) hS ?_
      clear ha; intro a ha
      refine hd_val (i := 10) (.int .i64 t.ask.node) ha rfl (by kernel_rfl) (fun _ _ _ h => h) (by kernel_rfl) (fun w hS => run_load1 (of_ := 5) hS.1 rfl (by kernel_rfl) Try.isAgg3 rfl) hS ?_
      clear ha; intro a ha
      refine hd_val (i := 11) (.pointer (some ⟨g1, 2, none⟩)) ha rfl (by kernel_rfl) (fun _ _ _ h => h) (by kernel_rfl) (fun w hS => (by kernel_rfl)) hS ?_
      clear ha; intro a ha
      refine hd_val (i := 12) (.int .i64 x.node) ha rfl (by kernel_rfl) (fun _ _ _ h => h) (by kernel_rfl) (fun w hS => run_load1 (of_ := 2) hS.2.1 rfl (by kernel_rfl) Try.isAgg3 rfl) hS ?_
      clear ha; intro a ha
      refine hd_val (i := 13) (.bool (t.ask.node == x.node)) ha rfl (by kernel_rfl) (fun _ _ _ h => h) (by kernel_rfl) (fun w hS => (by kernel_rfl)) hS ?_
      clear ha; intro a ha
      refine hd_val (i := 14) (.bool (t.ask.node == x.node)) ha rfl (by kernel_rfl) (fun _ _ _ h => h) (by kernel_rfl) (fun w hS => (by kernel_rfl)) hS ?_
      clear ha; intro a ha
      refine hd_val (i := 15) (.bool (t.ask.node == x.node)) ha rfl (by kernel_rfl) (fun _ _ _ h => h) (by kernel_rfl) (fun w hS => (by kernel_rfl)) hS ?_
      clear ha; intro a ha
      rcases Bool.eq_false_or_eq_true (t.ask.node == x.node) with hb | hb
      · rw [hb] at ha; have hb_ := hb; replace hb := eq_of_beq hb
        refine hd_val (i := 16) (.pointer (some ⟨b, 0, none⟩)) ha rfl (by kernel_rfl) (fun _ _ _ h => h) (by kernel_rfl) (fun w hS => (by kernel_rfl)) hS ?_
        clear ha; intro a ha
        refine hd_val (i := 17) (.pointer (some ⟨b, 0, none⟩)) ha rfl (by kernel_rfl) (fun _ _ _ h => h) (by kernel_rfl) (fun w hS => (by kernel_rfl)) hS ?_
        clear ha; intro a ha
        refine hd_val (i := 18) (.pointer (some ⟨b, 3, none⟩)) ha rfl (by kernel_rfl) (fun _ _ _ h => h) (by kernel_rfl) (fun w hS => (by kernel_rfl)) hS ?_
        clear ha; intro a ha
        refine hd_val (i := 19) (.pointer (some ⟨b, 8, none⟩)) ha rfl (by kernel_rfl) (fun _ _ _ h => h) (by kernel_rfl) (fun w hS => (by kernel_rfl)) hS ?_
        clear ha; intro a ha
        refine hd_val (i := 20) (.int .i64 t.ask.op) ha rfl (by kernel_rfl) (fun _ _ _ h => h) (by kernel_rfl) (fun w hS => run_load1 (of_ := 8) hS.1 rfl (by kernel_rfl) Try.isAgg3 rfl) hS ?_
        clear ha; intro a ha
        refine hd_val (i := 21) (.pointer (some ⟨g1, 5, none⟩)) ha rfl (by kernel_rfl) (fun _ _ _ h => h) (by kernel_rfl) (fun w hS => (by kernel_rfl)) hS ?_
        clear ha; intro a ha
        refine hd_val (i := 22) (.int .i64 x.op) ha rfl (by kernel_rfl) (fun _ _ _ h => h) (by kernel_rfl) (fun w hS => run_load1 (of_ := 5) hS.2.1 rfl (by kernel_rfl) Try.isAgg3 rfl) hS ?_
        clear ha; intro a ha
        refine hd_val (i := 23) (.bool (t.ask.op == x.op)) ha rfl (by kernel_rfl) (fun _ _ _ h => h) (by kernel_rfl) (fun w hS => (by kernel_rfl)) hS ?_
        clear ha; intro a ha
        refine hd_val (i := 24) (.bool (t.ask.op == x.op)) ha rfl (by kernel_rfl) (fun _ _ _ h => h) (by kernel_rfl) (fun w hS => (by kernel_rfl)) hS ?_
        clear ha; intro a ha
        refine hd_val (i := 25) (.bool (t.ask.op == x.op)) ha rfl (by kernel_rfl) (fun _ _ _ h => h) (by kernel_rfl) (fun w hS => (by kernel_rfl)) hS ?_
        clear ha; intro a ha
        rcases Bool.eq_false_or_eq_true (t.ask.op == x.op) with hb | hb
        · rw [hb] at ha; have hb_ := hb; replace hb := eq_of_beq hb
          refine hd_val (i := 26) (.pointer (some ⟨b, 0, none⟩)) ha rfl (by kernel_rfl) (fun _ _ _ h => h) (by kernel_rfl) (fun w hS => (by kernel_rfl)) hS ?_
          clear ha; intro a ha
          refine hd_val (i := 27) (.pointer (some ⟨b, 0, none⟩)) ha rfl (by kernel_rfl) (fun _ _ _ h => h) (by kernel_rfl) (fun w hS => (by kernel_rfl)) hS ?_
          clear ha; intro a ha
          refine hd_val (i := 28) (.pointer (some ⟨b, 3, none⟩)) ha rfl (by kernel_rfl) (fun _ _ _ h => h) (by kernel_rfl) (fun w hS => (by kernel_rfl)) hS ?_
          clear ha; intro a ha
          refine hd_val (i := 29) (.pointer (some ⟨b, 9, none⟩)) ha rfl (by kernel_rfl) (fun _ _ _ h => h) (by kernel_rfl) (fun w hS => (by kernel_rfl)) hS ?_
          clear ha; intro a ha
          refine hd_val (i := 30) (.string (str t.ask.key)) ha rfl (by kernel_rfl) (fun _ _ _ h => h) (by kernel_rfl) (fun w hS => run_load1 (of_ := 9) hS.1 rfl (by kernel_rfl) Try.isAgg9 rfl) hS ?_
          clear ha; intro a ha
          refine hd_val (i := 31) (.pointer (some ⟨g1, 6, none⟩)) ha rfl (by kernel_rfl) (fun _ _ _ h => h) (by kernel_rfl) (fun w hS => (by kernel_rfl)) hS ?_
          clear ha; intro a ha
          refine hd_val (i := 32) (.string (str x.key)) ha rfl (by kernel_rfl) (fun _ _ _ h => h) (by kernel_rfl) (fun w hS => run_load1 (of_ := 6) hS.2.1 rfl (by kernel_rfl) Try.isAgg9 rfl) hS ?_
          clear ha; intro a ha
          refine hd_val (i := 33) (.bool (decide (t.ask.key = x.key))) ha rfl (by kernel_rfl) (fun _ _ _ h => h) (by kernel_rfl) (fun w hS => (run_seql (p := t.ask.key) (q := x.key) rfl (by kernel_rfl) (by kernel_rfl) _)) hS ?_
          clear ha; intro a ha
          refine hd_val (i := 34) (.bool (decide (t.ask.key = x.key))) ha rfl (by kernel_rfl) (fun _ _ _ h => h) (by kernel_rfl) (fun w hS => (by kernel_rfl)) hS ?_
          clear ha; intro a ha
          refine hd_val (i := 35) (.bool (decide (t.ask.key = x.key))) ha rfl (by kernel_rfl) (fun _ _ _ h => h) (by kernel_rfl) (fun w hS => (by kernel_rfl)) hS ?_
          clear ha; intro a ha
          rcases Bool.eq_false_or_eq_true (decide (t.ask.key = x.key)) with hb | hb
          · rw [hb] at ha; replace hb : (t.ask.key = x.key) := of_decide_eq_true hb
            refine hd_val (i := 36) (.pointer (some ⟨b, 0, none⟩)) ha rfl (by kernel_rfl) (fun _ _ _ h => h) (by kernel_rfl) (fun w hS => (by kernel_rfl)) hS ?_
            clear ha; intro a ha
            refine hd_val (i := 37) (.pointer (some ⟨b, 0, none⟩)) ha rfl (by kernel_rfl) (fun _ _ _ h => h) (by kernel_rfl) (fun w hS => (by kernel_rfl)) hS ?_
            clear ha; intro a ha
            refine hd_val (i := 38) (.pointer (some ⟨b, 3, none⟩)) ha rfl (by kernel_rfl) (fun _ _ _ h => h) (by kernel_rfl) (fun w hS => (by kernel_rfl)) hS ?_
            clear ha; intro a ha
            refine hd_val (i := 39) (.pointer (some ⟨b, 11, none⟩)) ha rfl (by kernel_rfl) (fun _ _ _ h => h) (by kernel_rfl) (fun w hS => (by kernel_rfl)) hS ?_
            clear ha; intro a ha
            refine hd_val (i := 40) (.agg #[.string (str t.ask.frm), .string (str t.ask.to)]) ha rfl (by kernel_rfl) (fun _ _ _ h => h) (by kernel_rfl) (fun w hS => run_loadN (of_ := 11) [.string (str t.ask.frm), .string (str t.ask.to)] hS.1 rfl (by kernel_rfl) Try.isAgg31 Try.sizeOf31 rfl (Nat.le_of_ble_eq_true rfl)) hS ?_
            clear ha; intro a ha
            refine hd_val (i := 41) (.pointer (some ⟨g1, 8, none⟩)) ha rfl (by kernel_rfl) (fun _ _ _ h => h) (by kernel_rfl) (fun w hS => (by kernel_rfl)) hS ?_
            clear ha; intro a ha
            refine hd_val (i := 42) (.agg #[.string (str x.frm), .string (str x.to)]) ha rfl (by kernel_rfl) (fun _ _ _ h => h) (by kernel_rfl) (fun w hS => run_loadN (of_ := 8) [.string (str x.frm), .string (str x.to)] hS.2.1 rfl (by kernel_rfl) Try.isAgg31 Try.sizeOf31 rfl (Nat.le_of_ble_eq_true rfl)) hS ?_
            clear ha; intro a ha
            refine hd_val (i := 43) (.bool (decide ((t.ask.frm, t.ask.to) = (x.frm, x.to)))) ha rfl (by kernel_rfl) (fun _ _ _ h => h) (by kernel_rfl) (fun w hS => (run_spaneq rfl (by kernel_rfl) (by kernel_rfl) _)) hS ?_
            clear ha; intro a ha
            refine hd_val (i := 44) (.bool (decide ((t.ask.frm, t.ask.to) = (x.frm, x.to)))) ha rfl (by kernel_rfl) (fun _ _ _ h => h) (by kernel_rfl) (fun w hS => (by kernel_rfl)) hS ?_
            clear ha; intro a ha
            refine hd_val (i := 45) (.bool (decide ((t.ask.frm, t.ask.to) = (x.frm, x.to)))) ha rfl (by kernel_rfl) (fun _ _ _ h => h) (by kernel_rfl) (fun w hS => (by kernel_rfl)) hS ?_
            clear ha; intro a ha
            rcases Bool.eq_false_or_eq_true (decide ((t.ask.frm, t.ask.to) = (x.frm, x.to))) with hb | hb
            · rw [hb] at ha; replace hb : ((t.ask.frm, t.ask.to) = (x.frm, x.to)) := of_decide_eq_true hb
              refine hd_val (i := 46) (.pointer (some ⟨g1, 4, none⟩)) ha rfl (by kernel_rfl) (fun _ _ _ h => h) (by kernel_rfl) (fun w hS => (by kernel_rfl)) hS ?_
              clear ha; intro a ha
              refine hd_val (i := 47) (.int .i64 x.epoch) ha rfl (by kernel_rfl) (fun _ _ _ h => h) (by kernel_rfl) (fun w hS => run_load1 (of_ := 4) hS.2.1 rfl (by kernel_rfl) Try.isAgg3 rfl) hS ?_
              clear ha; intro a ha
              refine hd_val (i := 48) (.pointer (some ⟨b, 0, none⟩)) ha rfl (by kernel_rfl) (fun _ _ _ h => h) (by kernel_rfl) (fun w hS => (by kernel_rfl)) hS ?_
              clear ha; intro a ha
              refine hd_val (i := 49) (.pointer (some ⟨b, 0, none⟩)) ha rfl (by kernel_rfl) (fun _ _ _ h => h) (by kernel_rfl) (fun w hS => (by kernel_rfl)) hS ?_
              clear ha; intro a ha
              refine hd_val (i := 50) (.pointer (some ⟨b, 3, none⟩)) ha rfl (by kernel_rfl) (fun _ _ _ h => h) (by kernel_rfl) (fun w hS => (by kernel_rfl)) hS ?_
              clear ha; intro a ha
              refine hd_val (i := 51) (.pointer (some ⟨b, 7, none⟩)) ha rfl (by kernel_rfl) (fun _ _ _ h => h) (by kernel_rfl) (fun w hS => (by kernel_rfl)) hS ?_
              clear ha; intro a ha
              refine hd_val (i := 52) (.int .i64 t.ask.epoch) ha rfl (by kernel_rfl) (fun _ _ _ h => h) (by kernel_rfl) (fun w hS => run_load1 (of_ := 7) hS.1 rfl (by kernel_rfl) Try.isAgg3 rfl) hS ?_
              clear ha; intro a ha
              refine Head.done (by kernel_rfl) ?_
              clear hS; simp only [List.drop_succ_cons, List.drop_zero]
              refine st_val (.bool (decide (x.epoch ≥ t.ask.epoch))) ha (by kernel_rfl) (by kernel_rfl) ?_
              clear ha; intro a ha
              refine st_val (.bool (decide (x.epoch ≥ t.ask.epoch))) ha (by kernel_rfl) (by kernel_rfl) ?_
              clear ha; intro a ha
              refine st_val (.bool (decide (x.epoch ≥ t.ask.epoch))) ha (by kernel_rfl) (by kernel_rfl) ?_
              clear ha; intro a ha
              refine wpList_nil ?_
              refine then_normal ?_
              refine wp_ret ?_
              refine ret_with (v := .bool (decide (x.epoch ≥ t.ask.epoch))) ha (results_1 rfl ha (res_tmp (by kernel_rfl) (by kernel_rfl))) ?_
              replace s : St W (.blk b (txv t) 67 :: BRest T2 q :: .blk g [.int .i64 k.ti, .int .i64 k.most, .map (some gd), .map (some gt)] 48 :: MapT Try.prog 3 encI gd Dd :: MapT Try.prog 3 encI gt (T2.map ent) :: L) w := s.keep 5 1
              replace s := Blks.back ht2 s
              replace s := s.at_ (j := 3) rfl
              replace s := s.at_ (j := 3) rfl
              replace s := s.at_ (j := 3) rfl
              refine ⟨T2, ?_, hk2, s⟩
              rw [← ht]
              congr 2
              clear s ha ht2 hk2 ht
              unfold answersB
              first | (simp [*]; done) | (simp_all; done) | (simp [*]; omega)
            · rw [hb] at ha; replace hb : ¬ ((t.ask.frm, t.ask.to) = (x.frm, x.to)) := of_decide_eq_false hb
              refine hd_pass (i := 46) ha rfl (by kernel_rfl) (fun _ _ _ h => h) (by kernel_rfl) hS ?_
              clear ha; intro a ha
              refine hd_pass (i := 47) ha rfl (by kernel_rfl) (fun _ _ _ h => h) (by kernel_rfl) hS ?_
              clear ha; intro a ha
              refine hd_pass (i := 48) ha rfl (by kernel_rfl) (fun _ _ _ h => h) (by kernel_rfl) hS ?_
              clear ha; intro a ha
              refine hd_pass (i := 49) ha rfl (by kernel_rfl) (fun _ _ _ h => h) (by kernel_rfl) hS ?_
              clear ha; intro a ha
              refine hd_pass (i := 50) ha rfl (by kernel_rfl) (fun _ _ _ h => h) (by kernel_rfl) hS ?_
              clear ha; intro a ha
              refine hd_pass (i := 51) ha rfl (by kernel_rfl) (fun _ _ _ h => h) (by kernel_rfl) hS ?_
              clear ha; intro a ha
              refine hd_pass (i := 52) ha rfl (by kernel_rfl) (fun _ _ _ h => h) (by kernel_rfl) hS ?_
              clear ha; intro a ha
              refine Head.done (by kernel_rfl) ?_
              clear hS; simp only [List.drop_succ_cons, List.drop_zero]
              refine st_pass ha (by kernel_rfl) ?_
              clear ha; intro a ha
              refine st_val (.bool false) ha (by kernel_rfl) (by kernel_rfl) ?_
              clear ha; intro a ha
              refine st_val (.bool false) ha (by kernel_rfl) (by kernel_rfl) ?_
              clear ha; intro a ha
              refine wpList_nil ?_
              refine then_normal ?_
              refine wp_ret ?_
              refine ret_with (v := .bool false) ha (results_1 rfl ha (res_tmp (by kernel_rfl) (by kernel_rfl))) ?_
              replace s : St W (.blk b (txv t) 67 :: BRest T2 q :: .blk g [.int .i64 k.ti, .int .i64 k.most, .map (some gd), .map (some gt)] 48 :: MapT Try.prog 3 encI gd Dd :: MapT Try.prog 3 encI gt (T2.map ent) :: L) w := s.keep 5 1
              replace s := Blks.back ht2 s
              replace s := s.at_ (j := 3) rfl
              replace s := s.at_ (j := 3) rfl
              replace s := s.at_ (j := 3) rfl
              refine ⟨T2, ?_, hk2, s⟩
              rw [← ht]
              congr 2
              clear s ha ht2 hk2 ht
              unfold answersB
              first | (simp [*]; done) | (simp_all; done) | (simp [*]; omega)
          · rw [hb] at ha; replace hb : ¬ (t.ask.key = x.key) := of_decide_eq_false hb
            refine hd_pass (i := 36) ha rfl (by kernel_rfl) (fun _ _ _ h => h) (by kernel_rfl) hS ?_
            clear ha; intro a ha
            refine hd_pass (i := 37) ha rfl (by kernel_rfl) (fun _ _ _ h => h) (by kernel_rfl) hS ?_
            clear ha; intro a ha
            refine hd_pass (i := 38) ha rfl (by kernel_rfl) (fun _ _ _ h => h) (by kernel_rfl) hS ?_
            clear ha; intro a ha
            refine hd_pass (i := 39) ha rfl (by kernel_rfl) (fun _ _ _ h => h) (by kernel_rfl) hS ?_
            clear ha; intro a ha
            refine hd_pass (i := 40) ha rfl (by kernel_rfl) (fun _ _ _ h => h) (by kernel_rfl) hS ?_
            clear ha; intro a ha
            refine hd_pass (i := 41) ha rfl (by kernel_rfl) (fun _ _ _ h => h) (by kernel_rfl) hS ?_
            clear ha; intro a ha
            refine hd_pass (i := 42) ha rfl (by kernel_rfl) (fun _ _ _ h => h) (by kernel_rfl) hS ?_
            clear ha; intro a ha
            refine hd_pass (i := 43) ha rfl (by kernel_rfl) (fun _ _ _ h => h) (by kernel_rfl) hS ?_
            clear ha; intro a ha
            refine hd_val (i := 44) (.bool false) ha rfl (by kernel_rfl) (fun _ _ _ h => h) (by kernel_rfl) (fun w hS => (by kernel_rfl)) hS ?_
            clear ha; intro a ha
            refine hd_val (i := 45) (.bool false) ha rfl (by kernel_rfl) (fun _ _ _ h => h) (by kernel_rfl) (fun w hS => (by kernel_rfl)) hS ?_
            clear ha; intro a ha
            refine hd_pass (i := 46) ha rfl (by kernel_rfl) (fun _ _ _ h => h) (by kernel_rfl) hS ?_
            clear ha; intro a ha
            refine hd_pass (i := 47) ha rfl (by kernel_rfl) (fun _ _ _ h => h) (by kernel_rfl) hS ?_
            clear ha; intro a ha
            refine hd_pass (i := 48) ha rfl (by kernel_rfl) (fun _ _ _ h => h) (by kernel_rfl) hS ?_
            clear ha; intro a ha
            refine hd_pass (i := 49) ha rfl (by kernel_rfl) (fun _ _ _ h => h) (by kernel_rfl) hS ?_
            clear ha; intro a ha
            refine hd_pass (i := 50) ha rfl (by kernel_rfl) (fun _ _ _ h => h) (by kernel_rfl) hS ?_
            clear ha; intro a ha
            refine hd_pass (i := 51) ha rfl (by kernel_rfl) (fun _ _ _ h => h) (by kernel_rfl) hS ?_
            clear ha; intro a ha
            refine hd_pass (i := 52) ha rfl (by kernel_rfl) (fun _ _ _ h => h) (by kernel_rfl) hS ?_
            clear ha; intro a ha
            refine Head.done (by kernel_rfl) ?_
            clear hS; simp only [List.drop_succ_cons, List.drop_zero]
            refine st_pass ha (by kernel_rfl) ?_
            clear ha; intro a ha
            refine st_val (.bool false) ha (by kernel_rfl) (by kernel_rfl) ?_
            clear ha; intro a ha
            refine st_val (.bool false) ha (by kernel_rfl) (by kernel_rfl) ?_
            clear ha; intro a ha
            refine wpList_nil ?_
            refine then_normal ?_
            refine wp_ret ?_
            refine ret_with (v := .bool false) ha (results_1 rfl ha (res_tmp (by kernel_rfl) (by kernel_rfl))) ?_
            replace s : St W (.blk b (txv t) 67 :: BRest T2 q :: .blk g [.int .i64 k.ti, .int .i64 k.most, .map (some gd), .map (some gt)] 48 :: MapT Try.prog 3 encI gd Dd :: MapT Try.prog 3 encI gt (T2.map ent) :: L) w := s.keep 5 1
            replace s := Blks.back ht2 s
            replace s := s.at_ (j := 3) rfl
            replace s := s.at_ (j := 3) rfl
            replace s := s.at_ (j := 3) rfl
            refine ⟨T2, ?_, hk2, s⟩
            rw [← ht]
            congr 2
            clear s ha ht2 hk2 ht
            unfold answersB
            first | (simp [*]; done) | (simp_all; done) | (simp [*]; omega)
        · rw [hb] at ha; have hb_ := hb; replace hb := ne_of_beq_false hb
          refine hd_pass (i := 26) ha rfl (by kernel_rfl) (fun _ _ _ h => h) (by kernel_rfl) hS ?_
          clear ha; intro a ha
          refine hd_pass (i := 27) ha rfl (by kernel_rfl) (fun _ _ _ h => h) (by kernel_rfl) hS ?_
          clear ha; intro a ha
          refine hd_pass (i := 28) ha rfl (by kernel_rfl) (fun _ _ _ h => h) (by kernel_rfl) hS ?_
          clear ha; intro a ha
          refine hd_pass (i := 29) ha rfl (by kernel_rfl) (fun _ _ _ h => h) (by kernel_rfl) hS ?_
          clear ha; intro a ha
          refine hd_pass (i := 30) ha rfl (by kernel_rfl) (fun _ _ _ h => h) (by kernel_rfl) hS ?_
          clear ha; intro a ha
          refine hd_pass (i := 31) ha rfl (by kernel_rfl) (fun _ _ _ h => h) (by kernel_rfl) hS ?_
          clear ha; intro a ha
          refine hd_pass (i := 32) ha rfl (by kernel_rfl) (fun _ _ _ h => h) (by kernel_rfl) hS ?_
          clear ha; intro a ha
          refine hd_pass (i := 33) ha rfl (by kernel_rfl) (fun _ _ _ h => h) (by kernel_rfl) hS ?_
          clear ha; intro a ha
          refine hd_val (i := 34) (.bool false) ha rfl (by kernel_rfl) (fun _ _ _ h => h) (by kernel_rfl) (fun w hS => (by kernel_rfl)) hS ?_
          clear ha; intro a ha
          refine hd_val (i := 35) (.bool false) ha rfl (by kernel_rfl) (fun _ _ _ h => h) (by kernel_rfl) (fun w hS => (by kernel_rfl)) hS ?_
          clear ha; intro a ha
          refine hd_pass (i := 36) ha rfl (by kernel_rfl) (fun _ _ _ h => h) (by kernel_rfl) hS ?_
          clear ha; intro a ha
          refine hd_pass (i := 37) ha rfl (by kernel_rfl) (fun _ _ _ h => h) (by kernel_rfl) hS ?_
          clear ha; intro a ha
          refine hd_pass (i := 38) ha rfl (by kernel_rfl) (fun _ _ _ h => h) (by kernel_rfl) hS ?_
          clear ha; intro a ha
          refine hd_pass (i := 39) ha rfl (by kernel_rfl) (fun _ _ _ h => h) (by kernel_rfl) hS ?_
          clear ha; intro a ha
          refine hd_pass (i := 40) ha rfl (by kernel_rfl) (fun _ _ _ h => h) (by kernel_rfl) hS ?_
          clear ha; intro a ha
          refine hd_pass (i := 41) ha rfl (by kernel_rfl) (fun _ _ _ h => h) (by kernel_rfl) hS ?_
          clear ha; intro a ha
          refine hd_pass (i := 42) ha rfl (by kernel_rfl) (fun _ _ _ h => h) (by kernel_rfl) hS ?_
          clear ha; intro a ha
          refine hd_pass (i := 43) ha rfl (by kernel_rfl) (fun _ _ _ h => h) (by kernel_rfl) hS ?_
          clear ha; intro a ha
          refine hd_val (i := 44) (.bool false) ha rfl (by kernel_rfl) (fun _ _ _ h => h) (by kernel_rfl) (fun w hS => (by kernel_rfl)) hS ?_
          clear ha; intro a ha
          refine hd_val (i := 45) (.bool false) ha rfl (by kernel_rfl) (fun _ _ _ h => h) (by kernel_rfl) (fun w hS => (by kernel_rfl)) hS ?_
          clear ha; intro a ha
          refine hd_pass (i := 46) ha rfl (by kernel_rfl) (fun _ _ _ h => h) (by kernel_rfl) hS ?_
          clear ha; intro a ha
          refine hd_pass (i := 47) ha rfl (by kernel_rfl) (fun _ _ _ h => h) (by kernel_rfl) hS ?_
          clear ha; intro a ha
          refine hd_pass (i := 48) ha rfl (by kernel_rfl) (fun _ _ _ h => h) (by kernel_rfl) hS ?_
          clear ha; intro a ha
          refine hd_pass (i := 49) ha rfl (by kernel_rfl) (fun _ _ _ h => h) (by kernel_rfl) hS ?_
          clear ha; intro a ha
          refine hd_pass (i := 50) ha rfl (by kernel_rfl) (fun _ _ _ h => h) (by kernel_rfl) hS ?_
          clear ha; intro a ha
          refine hd_pass (i := 51) ha rfl (by kernel_rfl) (fun _ _ _ h => h) (by kernel_rfl) hS ?_
          clear ha; intro a ha
          refine hd_pass (i := 52) ha rfl (by kernel_rfl) (fun _ _ _ h => h) (by kernel_rfl) hS ?_
          clear ha; intro a ha
          refine Head.done (by kernel_rfl) ?_
          clear hS; simp only [List.drop_succ_cons, List.drop_zero]
          refine st_pass ha (by kernel_rfl) ?_
          clear ha; intro a ha
          refine st_val (.bool false) ha (by kernel_rfl) (by kernel_rfl) ?_
          clear ha; intro a ha
          refine st_val (.bool false) ha (by kernel_rfl) (by kernel_rfl) ?_
          clear ha; intro a ha
          refine wpList_nil ?_
          refine then_normal ?_
          refine wp_ret ?_
          refine ret_with (v := .bool false) ha (results_1 rfl ha (res_tmp (by kernel_rfl) (by kernel_rfl))) ?_
          replace s : St W (.blk b (txv t) 67 :: BRest T2 q :: .blk g [.int .i64 k.ti, .int .i64 k.most, .map (some gd), .map (some gt)] 48 :: MapT Try.prog 3 encI gd Dd :: MapT Try.prog 3 encI gt (T2.map ent) :: L) w := s.keep 5 1
          replace s := Blks.back ht2 s
          replace s := s.at_ (j := 3) rfl
          replace s := s.at_ (j := 3) rfl
          replace s := s.at_ (j := 3) rfl
          refine ⟨T2, ?_, hk2, s⟩
          rw [← ht]
          congr 2
          clear s ha ht2 hk2 ht
          unfold answersB
          first | (simp [*]; done) | (simp_all; done) | (simp [*]; omega)
      · rw [hb] at ha; have hb_ := hb; replace hb := ne_of_beq_false hb
        refine hd_pass (i := 16) ha rfl (by kernel_rfl) (fun _ _ _ h => h) (by kernel_rfl) hS ?_
        clear ha; intro a ha
        refine hd_pass (i := 17) ha rfl (by kernel_rfl) (fun _ _ _ h => h) (by kernel_rfl) hS ?_
        clear ha; intro a ha
        refine hd_pass (i := 18) ha rfl (by kernel_rfl) (fun _ _ _ h => h) (by kernel_rfl) hS ?_
        clear ha; intro a ha
        refine hd_pass (i := 19) ha rfl (by kernel_rfl) (fun _ _ _ h => h) (by kernel_rfl) hS ?_
        clear ha; intro a ha
        refine hd_pass (i := 20) ha rfl (by kernel_rfl) (fun _ _ _ h => h) (by kernel_rfl) hS ?_
        clear ha; intro a ha
        refine hd_pass (i := 21) ha rfl (by kernel_rfl) (fun _ _ _ h => h) (by kernel_rfl) hS ?_
        clear ha; intro a ha
        refine hd_pass (i := 22) ha rfl (by kernel_rfl) (fun _ _ _ h => h) (by kernel_rfl) hS ?_
        clear ha; intro a ha
        refine hd_pass (i := 23) ha rfl (by kernel_rfl) (fun _ _ _ h => h) (by kernel_rfl) hS ?_
        clear ha; intro a ha
        refine hd_val (i := 24) (.bool false) ha rfl (by kernel_rfl) (fun _ _ _ h => h) (by kernel_rfl) (fun w hS => (by kernel_rfl)) hS ?_
        clear ha; intro a ha
        refine hd_val (i := 25) (.bool false) ha rfl (by kernel_rfl) (fun _ _ _ h => h) (by kernel_rfl) (fun w hS => (by kernel_rfl)) hS ?_
        clear ha; intro a ha
        refine hd_pass (i := 26) ha rfl (by kernel_rfl) (fun _ _ _ h => h) (by kernel_rfl) hS ?_
        clear ha; intro a ha
        refine hd_pass (i := 27) ha rfl (by kernel_rfl) (fun _ _ _ h => h) (by kernel_rfl) hS ?_
        clear ha; intro a ha
        refine hd_pass (i := 28) ha rfl (by kernel_rfl) (fun _ _ _ h => h) (by kernel_rfl) hS ?_
        clear ha; intro a ha
        refine hd_pass (i := 29) ha rfl (by kernel_rfl) (fun _ _ _ h => h) (by kernel_rfl) hS ?_
        clear ha; intro a ha
        refine hd_pass (i := 30) ha rfl (by kernel_rfl) (fun _ _ _ h => h) (by kernel_rfl) hS ?_
        clear ha; intro a ha
        refine hd_pass (i := 31) ha rfl (by kernel_rfl) (fun _ _ _ h => h) (by kernel_rfl) hS ?_
        clear ha; intro a ha
        refine hd_pass (i := 32) ha rfl (by kernel_rfl) (fun _ _ _ h => h) (by kernel_rfl) hS ?_
        clear ha; intro a ha
        refine hd_pass (i := 33) ha rfl (by kernel_rfl) (fun _ _ _ h => h) (by kernel_rfl) hS ?_
        clear ha; intro a ha
        refine hd_val (i := 34) (.bool false) ha rfl (by kernel_rfl) (fun _ _ _ h => h) (by kernel_rfl) (fun w hS => (by kernel_rfl)) hS ?_
        clear ha; intro a ha
        refine hd_val (i := 35) (.bool false) ha rfl (by kernel_rfl) (fun _ _ _ h => h) (by kernel_rfl) (fun w hS => (by kernel_rfl)) hS ?_
        clear ha; intro a ha
        refine hd_pass (i := 36) ha rfl (by kernel_rfl) (fun _ _ _ h => h) (by kernel_rfl) hS ?_
        clear ha; intro a ha
        refine hd_pass (i := 37) ha rfl (by kernel_rfl) (fun _ _ _ h => h) (by kernel_rfl) hS ?_
        clear ha; intro a ha
        refine hd_pass (i := 38) ha rfl (by kernel_rfl) (fun _ _ _ h => h) (by kernel_rfl) hS ?_
        clear ha; intro a ha
        refine hd_pass (i := 39) ha rfl (by kernel_rfl) (fun _ _ _ h => h) (by kernel_rfl) hS ?_
        clear ha; intro a ha
        refine hd_pass (i := 40) ha rfl (by kernel_rfl) (fun _ _ _ h => h) (by kernel_rfl) hS ?_
        clear ha; intro a ha
        refine hd_pass (i := 41) ha rfl (by kernel_rfl) (fun _ _ _ h => h) (by kernel_rfl) hS ?_
        clear ha; intro a ha
        refine hd_pass (i := 42) ha rfl (by kernel_rfl) (fun _ _ _ h => h) (by kernel_rfl) hS ?_
        clear ha; intro a ha
        refine hd_pass (i := 43) ha rfl (by kernel_rfl) (fun _ _ _ h => h) (by kernel_rfl) hS ?_
        clear ha; intro a ha
        refine hd_val (i := 44) (.bool false) ha rfl (by kernel_rfl) (fun _ _ _ h => h) (by kernel_rfl) (fun w hS => (by kernel_rfl)) hS ?_
        clear ha; intro a ha
        refine hd_val (i := 45) (.bool false) ha rfl (by kernel_rfl) (fun _ _ _ h => h) (by kernel_rfl) (fun w hS => (by kernel_rfl)) hS ?_
        clear ha; intro a ha
        refine hd_pass (i := 46) ha rfl (by kernel_rfl) (fun _ _ _ h => h) (by kernel_rfl) hS ?_
        clear ha; intro a ha
        refine hd_pass (i := 47) ha rfl (by kernel_rfl) (fun _ _ _ h => h) (by kernel_rfl) hS ?_
        clear ha; intro a ha
        refine hd_pass (i := 48) ha rfl (by kernel_rfl) (fun _ _ _ h => h) (by kernel_rfl) hS ?_
        clear ha; intro a ha
        refine hd_pass (i := 49) ha rfl (by kernel_rfl) (fun _ _ _ h => h) (by kernel_rfl) hS ?_
        clear ha; intro a ha
        refine hd_pass (i := 50) ha rfl (by kernel_rfl) (fun _ _ _ h => h) (by kernel_rfl) hS ?_
        clear ha; intro a ha
        refine hd_pass (i := 51) ha rfl (by kernel_rfl) (fun _ _ _ h => h) (by kernel_rfl) hS ?_
        clear ha; intro a ha
        refine hd_pass (i := 52) ha rfl (by kernel_rfl) (fun _ _ _ h => h) (by kernel_rfl) hS ?_
        clear ha; intro a ha
        refine Head.done (by kernel_rfl) ?_
        clear hS; simp only [List.drop_succ_cons, List.drop_zero]
        refine st_pass ha (by kernel_rfl) ?_
        clear ha; intro a ha
        refine st_val (.bool false) ha (by kernel_rfl) (by kernel_rfl) ?_
        clear ha; intro a ha
        refine st_val (.bool false) ha (by kernel_rfl) (by kernel_rfl) ?_
        clear ha; intro a ha
        refine wpList_nil ?_
        refine then_normal ?_
        refine wp_ret ?_
        refine ret_with (v := .bool false) ha (results_1 rfl ha (res_tmp (by kernel_rfl) (by kernel_rfl))) ?_
        replace s : St W (.blk b (txv t) 67 :: BRest T2 q :: .blk g [.int .i64 k.ti, .int .i64 k.most, .map (some gd), .map (some gt)] 48 :: MapT Try.prog 3 encI gd Dd :: MapT Try.prog 3 encI gt (T2.map ent) :: L) w := s.keep 5 1
        replace s := Blks.back ht2 s
        replace s := s.at_ (j := 3) rfl
        replace s := s.at_ (j := 3) rfl
        replace s := s.at_ (j := 3) rfl
        refine ⟨T2, ?_, hk2, s⟩
        rw [← ht]
        congr 2
        clear s ha ht2 hk2 ht
        unfold answersB
        first | (simp [*]; done) | (simp_all; done) | (simp [*]; omega)
    · rw [hb] at ha; have hb_ := hb; replace hb := ne_of_beq_false hb
      refine hd_pass (i := 6) ha rfl (by kernel_rfl) (fun _ _ _ h => h) (by kernel_rfl) hS ?_
      clear ha; intro a ha
      refine hd_pass (i := 7) ha rfl (by kernel_rfl) (fun _ _ _ h => h) (by kernel_rfl) hS ?_
      clear ha; intro a ha
      refine hd_pass (i := 8) ha rfl (by kernel_rfl) (fun _ _ _ h => h) (by kernel_rfl) hS ?_
      clear ha; intro a ha
      refine hd_pass (i := 9) ha rfl (by kernel_rfl) (fun _ _ _ h => h) (by kernel_rfl) hS ?_
      clear ha; intro a ha
      refine hd_pass (i := 10) ha rfl (by kernel_rfl) (fun _ _ _ h => h) (by kernel_rfl) hS ?_
      clear ha; intro a ha
      refine hd_pass (i := 11) ha rfl (by kernel_rfl) (fun _ _ _ h => h) (by kernel_rfl) hS ?_
      clear ha; intro a ha
      refine hd_pass (i := 12) ha rfl (by kernel_rfl) (fun _ _ _ h => h) (by kernel_rfl) hS ?_
      clear ha; intro a ha
      refine hd_pass (i := 13) ha rfl (by kernel_rfl) (fun _ _ _ h => h) (by kernel_rfl) hS ?_
      clear ha; intro a ha
      refine hd_val (i := 14) (.bool false) ha rfl (by kernel_rfl) (fun _ _ _ h => h) (by kernel_rfl) (fun w hS => (by kernel_rfl)) hS ?_
      clear ha; intro a ha
      refine hd_val (i := 15) (.bool false) ha rfl (by kernel_rfl) (fun _ _ _ h => h) (by kernel_rfl) (fun w hS => (by kernel_rfl)) hS ?_
      clear ha; intro a ha
      refine hd_pass (i := 16) ha rfl (by kernel_rfl) (fun _ _ _ h => h) (by kernel_rfl) hS ?_
      clear ha; intro a ha
      refine hd_pass (i := 17) ha rfl (by kernel_rfl) (fun _ _ _ h => h) (by kernel_rfl) hS ?_
      clear ha; intro a ha
      refine hd_pass (i := 18) ha rfl (by kernel_rfl) (fun _ _ _ h => h) (by kernel_rfl) hS ?_
      clear ha; intro a ha
      refine hd_pass (i := 19) ha rfl (by kernel_rfl) (fun _ _ _ h => h) (by kernel_rfl) hS ?_
      clear ha; intro a ha
      refine hd_pass (i := 20) ha rfl (by kernel_rfl) (fun _ _ _ h => h) (by kernel_rfl) hS ?_
      clear ha; intro a ha
      refine hd_pass (i := 21) ha rfl (by kernel_rfl) (fun _ _ _ h => h) (by kernel_rfl) hS ?_
      clear ha; intro a ha
      refine hd_pass (i := 22) ha rfl (by kernel_rfl) (fun _ _ _ h => h) (by kernel_rfl) hS ?_
      clear ha; intro a ha
      refine hd_pass (i := 23) ha rfl (by kernel_rfl) (fun _ _ _ h => h) (by kernel_rfl) hS ?_
      clear ha; intro a ha
      refine hd_val (i := 24) (.bool false) ha rfl (by kernel_rfl) (fun _ _ _ h => h) (by kernel_rfl) (fun w hS => (by kernel_rfl)) hS ?_
      clear ha; intro a ha
      refine hd_val (i := 25) (.bool false) ha rfl (by kernel_rfl) (fun _ _ _ h => h) (by kernel_rfl) (fun w hS => (by kernel_rfl)) hS ?_
      clear ha; intro a ha
      refine hd_pass (i := 26) ha rfl (by kernel_rfl) (fun _ _ _ h => h) (by kernel_rfl) hS ?_
      clear ha; intro a ha
      refine hd_pass (i := 27) ha rfl (by kernel_rfl) (fun _ _ _ h => h) (by kernel_rfl) hS ?_
      clear ha; intro a ha
      refine hd_pass (i := 28) ha rfl (by kernel_rfl) (fun _ _ _ h => h) (by kernel_rfl) hS ?_
      clear ha; intro a ha
      refine hd_pass (i := 29) ha rfl (by kernel_rfl) (fun _ _ _ h => h) (by kernel_rfl) hS ?_
      clear ha; intro a ha
      refine hd_pass (i := 30) ha rfl (by kernel_rfl) (fun _ _ _ h => h) (by kernel_rfl) hS ?_
      clear ha; intro a ha
      refine hd_pass (i := 31) ha rfl (by kernel_rfl) (fun _ _ _ h => h) (by kernel_rfl) hS ?_
      clear ha; intro a ha
      refine hd_pass (i := 32) ha rfl (by kernel_rfl) (fun _ _ _ h => h) (by kernel_rfl) hS ?_
      clear ha; intro a ha
      refine hd_pass (i := 33) ha rfl (by kernel_rfl) (fun _ _ _ h => h) (by kernel_rfl) hS ?_
      clear ha; intro a ha
      refine hd_val (i := 34) (.bool false) ha rfl (by kernel_rfl) (fun _ _ _ h => h) (by kernel_rfl) (fun w hS => (by kernel_rfl)) hS ?_
      clear ha; intro a ha
      refine hd_val (i := 35) (.bool false) ha rfl (by kernel_rfl) (fun _ _ _ h => h) (by kernel_rfl) (fun w hS => (by kernel_rfl)) hS ?_
      clear ha; intro a ha
      refine hd_pass (i := 36) ha rfl (by kernel_rfl) (fun _ _ _ h => h) (by kernel_rfl) hS ?_
      clear ha; intro a ha
      refine hd_pass (i := 37) ha rfl (by kernel_rfl) (fun _ _ _ h => h) (by kernel_rfl) hS ?_
      clear ha; intro a ha
      refine hd_pass (i := 38) ha rfl (by kernel_rfl) (fun _ _ _ h => h) (by kernel_rfl) hS ?_
      clear ha; intro a ha
      refine hd_pass (i := 39) ha rfl (by kernel_rfl) (fun _ _ _ h => h) (by kernel_rfl) hS ?_
      clear ha; intro a ha
      refine hd_pass (i := 40) ha rfl (by kernel_rfl) (fun _ _ _ h => h) (by kernel_rfl) hS ?_
      clear ha; intro a ha
      refine hd_pass (i := 41) ha rfl (by kernel_rfl) (fun _ _ _ h => h) (by kernel_rfl) hS ?_
      clear ha; intro a ha
      refine hd_pass (i := 42) ha rfl (by kernel_rfl) (fun _ _ _ h => h) (by kernel_rfl) hS ?_
      clear ha; intro a ha
      refine hd_pass (i := 43) ha rfl (by kernel_rfl) (fun _ _ _ h => h) (by kernel_rfl) hS ?_
      clear ha; intro a ha
      refine hd_val (i := 44) (.bool false) ha rfl (by kernel_rfl) (fun _ _ _ h => h) (by kernel_rfl) (fun w hS => (by kernel_rfl)) hS ?_
      clear ha; intro a ha
      refine hd_val (i := 45) (.bool false) ha rfl (by kernel_rfl) (fun _ _ _ h => h) (by kernel_rfl) (fun w hS => (by kernel_rfl)) hS ?_
      clear ha; intro a ha
      refine hd_pass (i := 46) ha rfl (by kernel_rfl) (fun _ _ _ h => h) (by kernel_rfl) hS ?_
      clear ha; intro a ha
      refine hd_pass (i := 47) ha rfl (by kernel_rfl) (fun _ _ _ h => h) (by kernel_rfl) hS ?_
      clear ha; intro a ha
      refine hd_pass (i := 48) ha rfl (by kernel_rfl) (fun _ _ _ h => h) (by kernel_rfl) hS ?_
      clear ha; intro a ha
      refine hd_pass (i := 49) ha rfl (by kernel_rfl) (fun _ _ _ h => h) (by kernel_rfl) hS ?_
      clear ha; intro a ha
      refine hd_pass (i := 50) ha rfl (by kernel_rfl) (fun _ _ _ h => h) (by kernel_rfl) hS ?_
      clear ha; intro a ha
      refine hd_pass (i := 51) ha rfl (by kernel_rfl) (fun _ _ _ h => h) (by kernel_rfl) hS ?_
      clear ha; intro a ha
      refine hd_pass (i := 52) ha rfl (by kernel_rfl) (fun _ _ _ h => h) (by kernel_rfl) hS ?_
      clear ha; intro a ha
      refine Head.done (by kernel_rfl) ?_
      clear hS; simp only [List.drop_succ_cons, List.drop_zero]
      refine st_pass ha (by kernel_rfl) ?_
      clear ha; intro a ha
      refine st_val (.bool false) ha (by kernel_rfl) (by kernel_rfl) ?_
      clear ha; intro a ha
      refine st_val (.bool false) ha (by kernel_rfl) (by kernel_rfl) ?_
      clear ha; intro a ha
      refine wpList_nil ?_
      refine then_normal ?_
      refine wp_ret ?_
      refine ret_with (v := .bool false) ha (results_1 rfl ha (res_tmp (by kernel_rfl) (by kernel_rfl))) ?_
      replace s : St W (.blk b (txv t) 67 :: BRest T2 q :: .blk g [.int .i64 k.ti, .int .i64 k.most, .map (some gd), .map (some gt)] 48 :: MapT Try.prog 3 encI gd Dd :: MapT Try.prog 3 encI gt (T2.map ent) :: L) w := s.keep 5 1
      replace s := Blks.back ht2 s
      replace s := s.at_ (j := 3) rfl
      replace s := s.at_ (j := 3) rfl
      replace s := s.at_ (j := 3) rfl
      refine ⟨T2, ?_, hk2, s⟩
      rw [← ht]
      congr 2
      clear s ha ht2 hk2 ht
      unfold answersB
      first | (simp [*]; done) | (simp_all; done) | (simp [*]; omega)

set_option maxHeartbeats 4000000 in
theorem agrees_any (W : World) (L : List Chunk) (w : World) (g gd gt : Nat) (k : Look) (Dd : List (Int × Value)) (T : List (Int × Nat × Tx)) (n : Nat) (hk : LkOk k Dd T n) (hn : n ≤ 1000000) (x : Ev) (hmx : mayB k.ti x = true) (s : St W (Chunk.blk g [.int .i64 k.ti, .int .i64 k.most, .map (some gd), .map (some gt)] 48 :: MapT Try.prog 3 encI gd Dd :: MapT Try.prog 3 encI gt (T.map ent) :: Blks T :: L) w) :
    Calls Try.prog 21 #[.pointer (some ⟨g, 0, none⟩), .agg (evv x).toArray] w fun e w' => ∃ T2 : List (Int × Nat × Tx), e = .returned (.bool (agreesB (k.tx x.id) x)) ∧ LkOk k Dd T2 (n + 1) ∧ St W (Chunk.blk g [.int .i64 k.ti, .int .i64 k.most, .map (some gd), .map (some gt)] 48 :: MapT Try.prog 3 encI gd Dd :: MapT Try.prog 3 encI gt (T2.map ent) :: Blks T2 :: L) w' := by
  refine enter_args (l := [.pointer (some ⟨g, 0, none⟩), .agg (evv x).toArray]) Try.func21 rfl rfl (Nat.le_of_ble_eq_true rfl) ?_
  intro a ha; replace ha : Has a 47 [(0, .pointer (some ⟨g, 0, none⟩)), (1, .agg (evv x).toArray)] := ha
  refine wp_seq ?_
  refine wp_region_lit ?_
  refine st_ex ha (by kernel_rfl) (ex_box (evv x) s rfl (by kernel_rfl)) ?_
  clear ha; rintro _ w a ⟨g1, rfl, s⟩ ha
  refine st_val (.bool false) ha (by kernel_rfl) (by kernel_rfl) ?_
  clear ha; intro a ha
  refine wpList_nil ?_
  refine then_normal ?_
  refine wp_seq ?_
  refine wp_seq ?_
  refine wp_region_lit ?_
  refine st_val (.agg (evv x).toArray) ha (by kernel_rfl) (run_loadN (of_ := 0) (evv x) (s.blkIs 0 rfl) rfl (by kernel_rfl) Try.isAgg36 Try.sizeOf36 rfl (Nat.le_of_ble_eq_true rfl)) ?_
  clear ha; intro a ha
  refine st_call ha (by kernel_rfl) (by kernel_rfl) (has_id W _ w x s) ?_
  rintro _ w ⟨rfl, s⟩
  refine ⟨_, rfl, ?_⟩; clear ha; intro a ha
  refine st_val (.bool (!(hasB x))) ha (by kernel_rfl) (by kernel_rfl) ?_
  clear ha; intro a ha
  refine wpList_nil ?_
  refine then_normal ?_
  refine wp_part (!(hasB x)) ha rfl (by kernel_rfl) (fun hb => ?_) (fun hb => ?_)
  · rw [hb] at ha; skip
    refine wp_seq ?_
    refine wp_region_lit ?_
    refine st_val (.bool true) ha (by kernel_rfl) (by kernel_rfl) ?_
    clear ha; intro a ha
    refine wpList_nil ?_
    refine then_normal ?_
    refine wp_ret ?_
    refine then_ret ?_
    refine ret_with (v := .bool true) ha (results_1 rfl ha (res_tmp (by kernel_rfl) (by kernel_rfl))) ?_
    replace s := (((s.at_ (j := 4) rfl).at_ (j := 4) rfl).at_ (j := 4) rfl).at_ (j := 4) rfl
    replace s : St W (.blk g [.int .i64 k.ti, .int .i64 k.most, .map (some gd), .map (some gt)] 48 :: MapT Try.prog 3 encI gd Dd :: MapT Try.prog 3 encI gt (T.map ent) :: Blks T :: L) w := s.keep 4 1
    refine ⟨T, ?_, hk.up (by omega), s⟩
    congr 2
    clear s ha
    unfold agreesB
    first | (simp [*]; done) | (simp_all; done) | (simp [*]; omega)
  · rw [hb] at ha; skip
    have hhx : hasB x = true := by simpa using hb
    have hid := may_has hmx hhx
    refine wp_skip ?_
    refine then_normal ?_
    refine wp_seq ?_
    refine wp_region_lit ?_
    refine st_val (.pointer (some ⟨g, 0, none⟩)) ha (by kernel_rfl) (by kernel_rfl) ?_
    clear ha; intro a ha
    refine st_val (.pointer (some ⟨g1, 3, none⟩)) ha (by kernel_rfl) (by kernel_rfl) ?_
    clear ha; intro a ha
    refine st_val (.int .i64 x.id) ha (by kernel_rfl) (run_load1 (of_ := 3) (s.blkIs 0 rfl) rfl (by kernel_rfl) Try.isAgg3 rfl) ?_
    clear ha; intro a ha
    replace s := (((s.at_ (j := 4) rfl).at_ (j := 4) rfl).at_ (j := 4) rfl).at_ (j := 4) rfl
    replace s : St W (.blk g [.int .i64 k.ti, .int .i64 k.most, .map (some gd), .map (some gt)] 48 :: MapT Try.prog 3 encI gd Dd :: MapT Try.prog 3 encI gt (T.map ent) :: Blks T :: .blk g1 (evv x) 36 :: L) w := s
    refine st_call ha (by kernel_rfl) (by kernel_rfl) (txn_any W _ w g gd gt k Dd T n hk hn x.id (by omega) s) ?_
    rintro _ w ⟨T2, q, b, rfl, ht2, hk2, s⟩
    obtain ⟨t, ht⟩ : ∃ t, t = k.tx x.id := ⟨_, rfl⟩
    rw [← ht] at ht2
    replace s := s.at_ (j := 3) rfl
    replace s : St W (Blks T2 :: .blk g [.int .i64 k.ti, .int .i64 k.most, .map (some gd), .map (some gt)] 48 :: MapT Try.prog 3 encI gd Dd :: MapT Try.prog 3 encI gt (T2.map ent) :: .blk g1 (evv x) 36 :: L) w := s
    replace s := Blks.open_ ht2 s
    replace s : St W (.blk b (txv t) 67 :: BRest T2 q :: .blk g [.int .i64 k.ti, .int .i64 k.most, .map (some gd), .map (some gt)] 48 :: MapT Try.prog 3 encI gd Dd :: MapT Try.prog 3 encI gt (T2.map ent) :: .blk g1 (evv x) 36 :: L) w := s
    refine ⟨_, rfl, ?_⟩; clear ha; intro a ha
    refine st_val (.pointer (some ⟨b, 0, none⟩)) ha (by kernel_rfl) (by kernel_rfl) ?_
    clear ha; intro a ha
    refine st_val (.pointer (some ⟨b, 19, none⟩)) ha (by kernel_rfl) (by kernel_rfl) ?_
    clear ha; intro a ha
    refine st_val (.agg #[.bool t.comm, .bool t.abrt, .int .i64 t.epoch, .int .i64 t.wall, .int .i64 t.logic]) ha (by kernel_rfl) (run_loadN (of_ := 19) [.bool t.comm, .bool t.abrt, .int .i64 t.epoch, .int .i64 t.wall, .int .i64 t.logic] (s.blkIs 0 rfl) rfl (by kernel_rfl) Try.isAgg65 Try.sizeOf65 rfl (Nat.le_of_ble_eq_true rfl)) ?_
    clear ha; intro a ha
    refine st_ex ha (by kernel_rfl) (ex_alloc [.bool false, .bool false, .int .i64 0, .int .i64 0, .int .i64 0] s rfl (Try.zeroValue65 _) (by kernel_rfl)) ?_
    clear ha; rintro _ w a ⟨g2, rfl, s⟩ ha
    refine st_exd ha (by kernel_rfl) (ex_store (of_ := 0) 0 [.bool t.comm, .bool t.abrt, .int .i64 t.epoch, .int .i64 t.wall, .int .i64 t.logic] s rfl rfl (by kernel_rfl) (by kernel_rfl) (Try.sizeOf65 _) rfl (by simp [Value.oneCell']) (Nat.le_of_ble_eq_true rfl)) ?_
    clear ha; rintro w a s ha
    replace s : St W (.blk g2 [.bool t.comm, .bool t.abrt, .int .i64 t.epoch, .int .i64 t.wall, .int .i64 t.logic] 65 :: .blk b (txv t) 67 :: BRest T2 q :: .blk g [.int .i64 k.ti, .int .i64 k.most, .map (some gd), .map (some gt)] 48 :: MapT Try.prog 3 encI gd Dd :: MapT Try.prog 3 encI gt (T2.map ent) :: .blk g1 (evv x) 36 :: L) w := s
    refine wpList_nil ?_
    refine then_normal ?_
    refine wp_seq ?_
    refine wp_block ?_
    refine wp_seq ?_
    refine wp_region_lit ?_
    refine st_val (.agg (evv x).toArray) ha (by kernel_rfl) (run_loadN (of_ := 0) (evv x) (s.blkIs 6 rfl) rfl (by kernel_rfl) Try.isAgg36 Try.sizeOf36 rfl (Nat.le_of_ble_eq_true rfl)) ?_
    clear ha; intro a ha
    refine st_call ha (by kernel_rfl) (by kernel_rfl) (com_any W _ w x s) ?_
    rintro _ w ⟨rfl, s⟩
    refine ⟨_, rfl, ?_⟩; clear ha; intro a ha
    refine st_val (.bool (comB x)) ha (by kernel_rfl) (by kernel_rfl) ?_
    clear ha; intro a ha
    refine wpList_nil ?_
    refine then_normal ?_
    refine wp_part (comB x) ha rfl (by kernel_rfl) (fun hb => ?_) (fun hb => ?_)
    · rw [hb] at ha; skip
      refine wp_seq ?_
      refine wp_region_lit ?_
      refine st_val (.pointer (some ⟨g2, 1, none⟩)) ha (by kernel_rfl) (by kernel_rfl) ?_
      clear ha; intro a ha
      refine st_val (.bool t.abrt) ha (by kernel_rfl) (run_load1 (of_ := 1) (s.blkIs 0 rfl) rfl (by kernel_rfl) Try.isAgg4 rfl) ?_
      clear ha; intro a ha
      refine st_val (.bool (!t.abrt)) ha (by kernel_rfl) (by kernel_rfl) ?_
      clear ha; intro a ha
      refine st_val (.bool (!t.abrt)) ha (by kernel_rfl) (by kernel_rfl) ?_
      clear ha; intro a ha
      rcases Bool.eq_false_or_eq_true (!t.abrt) with hb | hb
      · rw [hb] at ha; skip
        refine st_val (.pointer (some ⟨g2, 0, none⟩)) ha (by kernel_rfl) (by kernel_rfl) ?_
        clear ha; intro a ha
        refine st_val (.bool t.comm) ha (by kernel_rfl) (run_load1 (of_ := 0) (s.blkIs 0 rfl) rfl (by kernel_rfl) Try.isAgg4 rfl) ?_
        clear ha; intro a ha
        refine st_val (.bool (!t.comm)) ha (by kernel_rfl) (by kernel_rfl) ?_
        clear ha; intro a ha
        refine st_val (.bool (!t.comm)) ha (by kernel_rfl) (by kernel_rfl) ?_
        clear ha; intro a ha
        rcases Bool.eq_false_or_eq_true (!t.comm) with hb | hb
        · rw [hb] at ha; skip
          refine st_pass ha (by kernel_rfl) ?_
          clear ha; intro a ha
          refine st_pass ha (by kernel_rfl) ?_
          clear ha; intro a ha
          refine st_pass ha (by kernel_rfl) ?_
          clear ha; intro a ha
          refine st_pass ha (by kernel_rfl) ?_
          clear ha; intro a ha
          refine st_pass ha (by kernel_rfl) ?_
          clear ha; intro a ha
          refine st_pass ha (by kernel_rfl) ?_
          clear ha; intro a ha
          refine st_pass ha (by kernel_rfl) ?_
          clear ha; intro a ha
          refine st_pass ha (by kernel_rfl) ?_
          clear ha; intro a ha
          refine st_pass ha (by kernel_rfl) ?_
          clear ha; intro a ha
          refine st_pass ha (by kernel_rfl) ?_
          clear ha; intro a ha
          refine st_pass ha (by kernel_rfl) ?_
          clear ha; intro a ha
          refine st_pass ha (by kernel_rfl) ?_
          clear ha; intro a ha
          refine st_val (.bool true) ha (by kernel_rfl) (by kernel_rfl) ?_
          clear ha; intro a ha
          refine st_val (.bool true) ha (by kernel_rfl) (by kernel_rfl) ?_
          clear ha; intro a ha
          refine st_val (.bool true) ha (by kernel_rfl) (by kernel_rfl) ?_
          clear ha; intro a ha
          refine wpList_nil ?_
          refine then_normal ?_
          refine wp_ret ?_
          refine block_ret ?_
          refine then_ret ?_
          refine ret_with (v := .bool true) ha (results_1 rfl ha (res_tmp (by kernel_rfl) (by kernel_rfl))) ?_
          replace s := ((((s.at_ (j := 5) rfl).at_ (j := 5) rfl).at_ (j := 5) rfl).at_ (j := 5) rfl).at_ (j := 5) rfl
          replace s : St W (.blk b (txv t) 67 :: BRest T2 q :: .blk g [.int .i64 k.ti, .int .i64 k.most, .map (some gd), .map (some gt)] 48 :: MapT Try.prog 3 encI gd Dd :: MapT Try.prog 3 encI gt (T2.map ent) :: L) w := s.keep 5 2
          replace s := Blks.back ht2 s
          replace s := s.at_ (j := 3) rfl
          replace s := s.at_ (j := 3) rfl
          replace s := s.at_ (j := 3) rfl
          refine ⟨T2, ?_, hk2, s⟩
          rw [← ht]
          congr 2
          clear s ha ht2 hk2 ht
          unfold agreesB
          first | (simp [*]; done) | (simp_all; done) | (simp [*]; omega)
        · rw [hb] at ha; skip
          refine st_val (.pointer (some ⟨g2, 2, none⟩)) ha (by kernel_rfl) (by kernel_rfl) ?_
          clear ha; intro a ha
          refine st_val (.int .i64 t.epoch) ha (by kernel_rfl) (run_load1 (of_ := 2) (s.blkIs 0 rfl) rfl (by kernel_rfl) Try.isAgg3 rfl) ?_
          clear ha; intro a ha
          refine st_val (.pointer (some ⟨g1, 4, none⟩)) ha (by kernel_rfl) (by kernel_rfl) ?_
          clear ha; intro a ha
          refine st_val (.int .i64 x.epoch) ha (by kernel_rfl) (run_load1 (of_ := 4) (s.blkIs 6 rfl) rfl (by kernel_rfl) Try.isAgg3 rfl) ?_
          clear ha; intro a ha
          refine st_val (.bool (t.epoch == x.epoch)) ha (by kernel_rfl) (by kernel_rfl) ?_
          clear ha; intro a ha
          refine st_val (.bool (t.epoch == x.epoch)) ha (by kernel_rfl) (by kernel_rfl) ?_
          clear ha; intro a ha
          rcases Bool.eq_false_or_eq_true (t.epoch == x.epoch) with hb | hb
          · rw [hb] at ha; have hb_ := hb; replace hb := eq_of_beq hb
            refine st_val (.pointer (some ⟨g2, 3, none⟩)) ha (by kernel_rfl) (by kernel_rfl) ?_
            clear ha; intro a ha
            refine st_val (.agg #[.int .i64 t.wall, .int .i64 t.logic]) ha (by kernel_rfl) (run_loadN (of_ := 3) [.int .i64 t.wall, .int .i64 t.logic] (s.blkIs 0 rfl) rfl (by kernel_rfl) Try.isAgg34 Try.sizeOf34 rfl (Nat.le_of_ble_eq_true rfl)) ?_
            clear ha; intro a ha
            refine st_val (.pointer (some ⟨g1, 12, none⟩)) ha (by kernel_rfl) (by kernel_rfl) ?_
            clear ha; intro a ha
            refine st_val (.agg #[.int .i64 x.wall, .int .i64 x.logic]) ha (by kernel_rfl) (run_loadN (of_ := 12) [.int .i64 x.wall, .int .i64 x.logic] (s.blkIs 6 rfl) rfl (by kernel_rfl) Try.isAgg34 Try.sizeOf34 rfl (Nat.le_of_ble_eq_true rfl)) ?_
            clear ha; intro a ha
            refine st_val (.bool (decide ((t.wall, t.logic) = (x.wall, x.logic)))) ha (by kernel_rfl) (run_stampeq rfl (by kernel_rfl) (by kernel_rfl) _) ?_
            clear ha; intro a ha
            refine st_val (.bool (decide ((t.wall, t.logic) = (x.wall, x.logic)))) ha (by kernel_rfl) (by kernel_rfl) ?_
            clear ha; intro a ha
            refine st_val (.bool (decide ((t.wall, t.logic) = (x.wall, x.logic)))) ha (by kernel_rfl) (by kernel_rfl) ?_
            clear ha; intro a ha
            refine st_val (.bool (decide ((t.wall, t.logic) = (x.wall, x.logic)))) ha (by kernel_rfl) (by kernel_rfl) ?_
            clear ha; intro a ha
            refine st_val (.bool (decide ((t.wall, t.logic) = (x.wall, x.logic)))) ha (by kernel_rfl) (by kernel_rfl) ?_
            clear ha; intro a ha
            refine wpList_nil ?_
            refine then_normal ?_
            refine wp_ret ?_
            refine block_ret ?_
            refine then_ret ?_
            refine ret_with (v := .bool (decide ((t.wall, t.logic) = (x.wall, x.logic)))) ha (results_1 rfl ha (res_tmp (by kernel_rfl) (by kernel_rfl))) ?_
            replace s := ((((s.at_ (j := 5) rfl).at_ (j := 5) rfl).at_ (j := 5) rfl).at_ (j := 5) rfl).at_ (j := 5) rfl
            replace s : St W (.blk b (txv t) 67 :: BRest T2 q :: .blk g [.int .i64 k.ti, .int .i64 k.most, .map (some gd), .map (some gt)] 48 :: MapT Try.prog 3 encI gd Dd :: MapT Try.prog 3 encI gt (T2.map ent) :: L) w := s.keep 5 2
            replace s := Blks.back ht2 s
            replace s := s.at_ (j := 3) rfl
            replace s := s.at_ (j := 3) rfl
            replace s := s.at_ (j := 3) rfl
            refine ⟨T2, ?_, hk2, s⟩
            rw [← ht]
            congr 2
            clear s ha ht2 hk2 ht
            unfold agreesB
            first | (simp [*]; done) | (simp_all; done) | (simp [*]; omega)
          · rw [hb] at ha; have hb_ := hb; replace hb := ne_of_beq_false hb
            refine st_pass ha (by kernel_rfl) ?_
            clear ha; intro a ha
            refine st_pass ha (by kernel_rfl) ?_
            clear ha; intro a ha
            refine st_pass ha (by kernel_rfl) ?_
            clear ha; intro a ha
            refine st_pass ha (by kernel_rfl) ?_
            clear ha; intro a ha
            refine st_pass ha (by kernel_rfl) ?_
            clear ha; intro a ha
            refine st_val (.bool false) ha (by kernel_rfl) (by kernel_rfl) ?_
            clear ha; intro a ha
            refine st_val (.bool false) ha (by kernel_rfl) (by kernel_rfl) ?_
            clear ha; intro a ha
            refine st_val (.bool false) ha (by kernel_rfl) (by kernel_rfl) ?_
            clear ha; intro a ha
            refine st_val (.bool false) ha (by kernel_rfl) (by kernel_rfl) ?_
            clear ha; intro a ha
            refine wpList_nil ?_
            refine then_normal ?_
            refine wp_ret ?_
            refine block_ret ?_
            refine then_ret ?_
            refine ret_with (v := .bool false) ha (results_1 rfl ha (res_tmp (by kernel_rfl) (by kernel_rfl))) ?_
            replace s := ((((s.at_ (j := 5) rfl).at_ (j := 5) rfl).at_ (j := 5) rfl).at_ (j := 5) rfl).at_ (j := 5) rfl
            replace s : St W (.blk b (txv t) 67 :: BRest T2 q :: .blk g [.int .i64 k.ti, .int .i64 k.most, .map (some gd), .map (some gt)] 48 :: MapT Try.prog 3 encI gd Dd :: MapT Try.prog 3 encI gt (T2.map ent) :: L) w := s.keep 5 2
            replace s := Blks.back ht2 s
            replace s := s.at_ (j := 3) rfl
            replace s := s.at_ (j := 3) rfl
            replace s := s.at_ (j := 3) rfl
            refine ⟨T2, ?_, hk2, s⟩
            rw [← ht]
            congr 2
            clear s ha ht2 hk2 ht
            unfold agreesB
            first | (simp [*]; done) | (simp_all; done) | (simp [*]; omega)
      · rw [hb] at ha; skip
        refine st_pass ha (by kernel_rfl) ?_
        clear ha; intro a ha
        refine st_pass ha (by kernel_rfl) ?_
        clear ha; intro a ha
        refine st_pass ha (by kernel_rfl) ?_
        clear ha; intro a ha
        refine st_pass ha (by kernel_rfl) ?_
        clear ha; intro a ha
        refine st_pass ha (by kernel_rfl) ?_
        clear ha; intro a ha
        refine st_pass ha (by kernel_rfl) ?_
        clear ha; intro a ha
        refine st_pass ha (by kernel_rfl) ?_
        clear ha; intro a ha
        refine st_pass ha (by kernel_rfl) ?_
        clear ha; intro a ha
        refine st_pass ha (by kernel_rfl) ?_
        clear ha; intro a ha
        refine st_pass ha (by kernel_rfl) ?_
        clear ha; intro a ha
        refine st_pass ha (by kernel_rfl) ?_
        clear ha; intro a ha
        refine st_pass ha (by kernel_rfl) ?_
        clear ha; intro a ha
        refine st_pass ha (by kernel_rfl) ?_
        clear ha; intro a ha
        refine st_pass ha (by kernel_rfl) ?_
        clear ha; intro a ha
        refine st_pass ha (by kernel_rfl) ?_
        clear ha; intro a ha
        refine st_pass ha (by kernel_rfl) ?_
        clear ha; intro a ha
        refine st_pass ha (by kernel_rfl) ?_
        clear ha; intro a ha
        refine st_val (.bool false) ha (by kernel_rfl) (by kernel_rfl) ?_
        clear ha; intro a ha
        refine st_val (.bool false) ha (by kernel_rfl) (by kernel_rfl) ?_
        clear ha; intro a ha
        refine wpList_nil ?_
        refine then_normal ?_
        refine wp_ret ?_
        refine block_ret ?_
        refine then_ret ?_
        refine ret_with (v := .bool false) ha (results_1 rfl ha (res_tmp (by kernel_rfl) (by kernel_rfl))) ?_
        replace s := ((((s.at_ (j := 5) rfl).at_ (j := 5) rfl).at_ (j := 5) rfl).at_ (j := 5) rfl).at_ (j := 5) rfl
        replace s : St W (.blk b (txv t) 67 :: BRest T2 q :: .blk g [.int .i64 k.ti, .int .i64 k.most, .map (some gd), .map (some gt)] 48 :: MapT Try.prog 3 encI gd Dd :: MapT Try.prog 3 encI gt (T2.map ent) :: L) w := s.keep 5 2
        replace s := Blks.back ht2 s
        replace s := s.at_ (j := 3) rfl
        replace s := s.at_ (j := 3) rfl
        replace s := s.at_ (j := 3) rfl
        refine ⟨T2, ?_, hk2, s⟩
        rw [← ht]
        congr 2
        clear s ha ht2 hk2 ht
        unfold agreesB
        first | (simp [*]; done) | (simp_all; done) | (simp [*]; omega)
    · rw [hb] at ha; skip
      refine wp_seq ?_
      refine wp_region_lit ?_
      refine st_val (.agg (evv x).toArray) ha (by kernel_rfl) (run_loadN (of_ := 0) (evv x) (s.blkIs 6 rfl) rfl (by kernel_rfl) Try.isAgg36 Try.sizeOf36 rfl (Nat.le_of_ble_eq_true rfl)) ?_
      clear ha; intro a ha
      refine st_call ha (by kernel_rfl) (by kernel_rfl) (abr_any W _ w x s) ?_
      rintro _ w ⟨rfl, s⟩
      refine ⟨_, rfl, ?_⟩; clear ha; intro a ha
      refine st_val (.bool (abrB x)) ha (by kernel_rfl) (by kernel_rfl) ?_
      clear ha; intro a ha
      refine wpList_nil ?_
      refine then_normal ?_
      refine wp_part (abrB x) ha rfl (by kernel_rfl) (fun hb => ?_) (fun hb => ?_)
      · rw [hb] at ha; skip
        refine wp_seq ?_
        refine wp_region_lit ?_
        refine st_val (.pointer (some ⟨g2, 0, none⟩)) ha (by kernel_rfl) (by kernel_rfl) ?_
        clear ha; intro a ha
        refine st_val (.bool t.comm) ha (by kernel_rfl) (run_load1 (of_ := 0) (s.blkIs 0 rfl) rfl (by kernel_rfl) Try.isAgg4 rfl) ?_
        clear ha; intro a ha
        refine st_val (.bool (!t.comm)) ha (by kernel_rfl) (by kernel_rfl) ?_
        clear ha; intro a ha
        refine st_val (.bool (!t.comm)) ha (by kernel_rfl) (by kernel_rfl) ?_
        clear ha; intro a ha
        refine wpList_nil ?_
        refine then_normal ?_
        refine wp_ret ?_
        refine block_ret ?_
        refine then_ret ?_
        refine ret_with (v := .bool (!t.comm)) ha (results_1 rfl ha (res_tmp (by kernel_rfl) (by kernel_rfl))) ?_
        replace s := ((((s.at_ (j := 5) rfl).at_ (j := 5) rfl).at_ (j := 5) rfl).at_ (j := 5) rfl).at_ (j := 5) rfl
        replace s : St W (.blk b (txv t) 67 :: BRest T2 q :: .blk g [.int .i64 k.ti, .int .i64 k.most, .map (some gd), .map (some gt)] 48 :: MapT Try.prog 3 encI gd Dd :: MapT Try.prog 3 encI gt (T2.map ent) :: L) w := s.keep 5 2
        replace s := Blks.back ht2 s
        replace s := s.at_ (j := 3) rfl
        replace s := s.at_ (j := 3) rfl
        replace s := s.at_ (j := 3) rfl
        refine ⟨T2, ?_, hk2, s⟩
        rw [← ht]
        congr 2
        clear s ha ht2 hk2 ht
        unfold agreesB
        first | (simp [*]; done) | (simp_all; done) | (simp [*]; omega)
      · rw [hb] at ha; skip
        refine wp_skip ?_
        refine block_normal ?_
        refine then_normal ?_
        refine wp_seq ?_
        refine wp_region_lit ?_
        refine st_val (.bool true) ha (by kernel_rfl) (by kernel_rfl) ?_
        clear ha; intro a ha
        refine wpList_nil ?_
        refine then_normal ?_
        refine wp_ret ?_
        refine ret_with (v := .bool true) ha (results_1 rfl ha (res_tmp (by kernel_rfl) (by kernel_rfl))) ?_
        replace s := ((((s.at_ (j := 5) rfl).at_ (j := 5) rfl).at_ (j := 5) rfl).at_ (j := 5) rfl).at_ (j := 5) rfl
        replace s : St W (.blk b (txv t) 67 :: BRest T2 q :: .blk g [.int .i64 k.ti, .int .i64 k.most, .map (some gd), .map (some gt)] 48 :: MapT Try.prog 3 encI gd Dd :: MapT Try.prog 3 encI gt (T2.map ent) :: L) w := s.keep 5 2
        replace s := Blks.back ht2 s
        replace s := s.at_ (j := 3) rfl
        replace s := s.at_ (j := 3) rfl
        replace s := s.at_ (j := 3) rfl
        refine ⟨T2, ?_, hk2, s⟩
        rw [← ht]
        congr 2
        clear s ha ht2 hk2 ht
        unfold agreesB
        first | (simp [*]; done) | (simp_all; done) | (simp [*]; omega)

end Go.Proofs.Ytfcbjcohepkkfaa.B
