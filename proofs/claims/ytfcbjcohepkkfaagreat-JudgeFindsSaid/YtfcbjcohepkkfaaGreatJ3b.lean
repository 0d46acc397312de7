import Derived.Test.YtfcbjcohepkkfaaGreatJ3
import Derived.Test.YtfcbjcohepkkfaaGreatSepY
namespace Go.Proofs.YtfcbjcohepkkfaaGreat.B
open Go.RowKit Go.Maps Go.Sort Go.Shelf Go.Proofs.YtfcbjcohepkkfaaGreat.Sep Go.Proofs.YtfcbjcohepkkfaaGreat.P
set_option linter.unusedVariables false
set_option linter.unusedSimpArgs false

set_option maxHeartbeats 4000000 in
theorem answers_any (W : World) (L : List Chunk) (w : World) (g gd gt : Nat) (k : Look) (Dd : List (Int × Value)) (T : List (Int × Nat × Tx)) (n : Nat) (hk : LkOk k Dd T n) (hn : n ≤ 1000000) (x : Ev) (hmx : mayB k.ti x = true) (s : St W (Chunk.blk g [.int .i64 k.ti, .int .i64 k.most, .map (some gd), .map (some gt)] 43 :: MapT Tryz.prog 3 encI gd Dd :: MapT Tryz.prog 3 encI gt (T.map ent) :: Blks T :: L) w) :
  Calls Tryz.prog 15 #[.pointer (some ⟨g, 0, none⟩), .agg (evv x).toArray] w fun e w' => ∃ T2 : List (Int × Nat × Tx), e = .returned (.bool (answersB (k.tx x.id) x)) ∧ LkOk k Dd T2 (n + 1) ∧ St W (Chunk.blk g [.int .i64 k.ti, .int .i64 k.most, .map (some gd), .map (some gt)] 43 :: MapT Tryz.prog 3 encI gd Dd :: MapT Tryz.prog 3 encI gt (T2.map ent) :: Blks T2 :: L) w' := by
 refine enter_args (l := [.pointer (some ⟨g, 0, none⟩), .agg (evv x).toArray]) Tryz.func15 rfl rfl (Nat.le_of_ble_eq_true rfl) ?_
 intro a ha; replace ha : Has a 68 [(0, .pointer (some ⟨g, 0, none⟩)), (1, .agg (evv x).toArray)] := ha
 refine zn1 ?_
 refine zze ha (ex_box (evv x) s rfl (by kernel_rfl)) ?_
 clear ha; rintro _ w a ⟨g1, rfl, s⟩ ha
 refine zv (.bool false) ha ?_; clear ha; intro a ha
 refine zn2 ?_
 refine wp_seq ?_
 refine zn1 ?_
 refine zv (.pointer (some ⟨g1, 1, none⟩)) ha ?_
 refine zzw (.int .i64 x.kind) (zl1 0 1) ?_
 refine zzv (.bool (x.kind != (3 : Int))) ?_; clear ha; intro a ha
 refine zn2 ?_
 refine zzh (x.kind != (3 : Int)) ha ?_ ?_ <;> intro hb
 ·
  rw [hb] at ha; replace hb := zbn hb
  refine zn1 ?_
  refine zv (.bool true) ha ?_; clear ha; intro a ha
  refine zn2 ?_
  refine zzt ?_
  refine zzr (v := .bool true) ha ?_
  replace s := (((s.at_ (j := 4) rfl).at_ (j := 4) rfl).at_ (j := 4) rfl).at_ (j := 4) rfl
  replace s := s.k4_1
  refine ⟨T, ?_, hk.up (by omega), s⟩
  congr 2
  clear s ha
  unfold answersB
  first | (simp [*]; done) | (simp_all; done) | (simp [*]; omega)
 rw [hb] at ha; replace hb := zbq hb
 have hid := may_has hmx (has_iff.2 (by omega))
 refine wp_skip ?_
 refine then_normal ?_
 refine zn1 ?_
 refine zv (.pointer (some ⟨g, 0, none⟩)) ha ?_
 refine zzv (.pointer (some ⟨g1, 3, none⟩)) ?_
 refine zzw (.int .i64 x.id) (zl1 0 3) ?_; clear ha; intro a ha
 replace s := (((s.at_ (j := 4) rfl).at_ (j := 4) rfl).at_ (j := 4) rfl).at_ (j := 4) rfl
 dsimp only [List.eraseIdx] at s
 refine zzc ha (txn_any W _ w g gd gt k Dd T n hk hn x.id (by omega) s) ?_
 rintro _ w ⟨T2, q, b, rfl, ht2, hk2, s⟩
 obtain ⟨t, ht⟩ : ∃ t, t = k.tx x.id := ⟨_, rfl⟩
 rw [← ht] at ht2
 replace s := s.at_ (j := 3) rfl
 dsimp only [List.eraseIdx] at s
 replace s := Blks.open_ ht2 s
 refine ⟨_, rfl, ?_⟩; clear ha; intro a ha
 refine zv (.pointer (some ⟨b, 0, none⟩)) ha ?_; clear ha; intro a ha
 refine zn2 ?_
 refine wp_seq ?_
 refine wp_region_head 53 (fun w => BlkIs b (txv t) w ∧ BlkIs g1 (evv x) w ∧ True) (by kernel_rfl) (by decide) ?_
 replace s := s.drew; generalize _root_.Go.World.drew _ = w at s ⊢
 have hS : (fun w => BlkIs b (txv t) w ∧ BlkIs g1 (evv x) w ∧ True) w := ⟨s.blkIs 0 rfl, s.blkIs 5 rfl, trivial⟩
 refine yk (i := 0) (.pointer (some ⟨b, 0, none⟩)) ha hS ?_
 refine yyk (i := 1) (.pointer (some ⟨b, 0, none⟩)) hS ?_
 refine yyk (i := 2) (.pointer (some ⟨b, 1, none⟩)) hS ?_
 refine yyv (i := 3) (.int .i64 t.stand) (fun w hS => run_load1 (of_ := 1) hS.1 rfl (by kernel_rfl) Tryz.isAgg3 rfl) hS ?_
 refine yyk (i := 4) (.bool (t.stand == (1 : Int))) hS ?_
 refine yyk (i := 5) (.bool (t.stand == (1 : Int))) hS ?_; clear ha; intro a ha
 rcases Bool.eq_false_or_eq_true (t.stand == (1 : Int)) with hb | hb
 ·
  rw [hb] at ha; replace hb := eq_of_beq hb
  refine yk (i := 6) (.pointer (some ⟨b, 0, none⟩)) ha hS ?_
  refine yyk (i := 7) (.pointer (some ⟨b, 0, none⟩)) hS ?_
  refine yyk (i := 8) (.pointer (some ⟨b, 3, none⟩)) hS ?_
  refine yyk (i := 9) (.pointer (some ⟨b, 5, none⟩)) hS ?_
  refine yyv (i := 10) (.int .i64 t.ask.node) (fun w hS => run_load1 (of_ := 5) hS.1 rfl (by kernel_rfl) Tryz.isAgg3 rfl) hS ?_
  refine yyk (i := 11) (.pointer (some ⟨g1, 2, none⟩)) hS ?_
  refine yyv (i := 12) (.int .i64 x.node) (fun w hS => run_load1 (of_ := 2) hS.2.1 rfl (by kernel_rfl) Tryz.isAgg3 rfl) hS ?_
  refine yyk (i := 13) (.bool (t.ask.node == x.node)) hS ?_
  refine yyk (i := 14) (.bool (t.ask.node == x.node)) hS ?_
  refine yyk (i := 15) (.bool (t.ask.node == x.node)) hS ?_; clear ha; intro a ha
  rcases Bool.eq_false_or_eq_true (t.ask.node == x.node) with hb | hb
  ·
   rw [hb] at ha; replace hb := eq_of_beq hb
   refine yk (i := 16) (.pointer (some ⟨b, 0, none⟩)) ha hS ?_
   refine yyk (i := 17) (.pointer (some ⟨b, 0, none⟩)) hS ?_
   refine yyk (i := 18) (.pointer (some ⟨b, 3, none⟩)) hS ?_
   refine yyk (i := 19) (.pointer (some ⟨b, 8, none⟩)) hS ?_
   refine yyv (i := 20) (.int .i64 t.ask.op) (fun w hS => run_load1 (of_ := 8) hS.1 rfl (by kernel_rfl) Tryz.isAgg3 rfl) hS ?_
   refine yyk (i := 21) (.pointer (some ⟨g1, 5, none⟩)) hS ?_
   refine yyv (i := 22) (.int .i64 x.op) (fun w hS => run_load1 (of_ := 5) hS.2.1 rfl (by kernel_rfl) Tryz.isAgg3 rfl) hS ?_
   refine yyk (i := 23) (.bool (t.ask.op == x.op)) hS ?_
   refine yyk (i := 24) (.bool (t.ask.op == x.op)) hS ?_
   refine yyk (i := 25) (.bool (t.ask.op == x.op)) hS ?_; clear ha; intro a ha
   rcases Bool.eq_false_or_eq_true (t.ask.op == x.op) with hb | hb
   ·
    rw [hb] at ha; replace hb := eq_of_beq hb
    refine yk (i := 26) (.pointer (some ⟨b, 0, none⟩)) ha hS ?_
    refine yyk (i := 27) (.pointer (some ⟨b, 0, none⟩)) hS ?_
    refine yyk (i := 28) (.pointer (some ⟨b, 3, none⟩)) hS ?_
    refine yyk (i := 29) (.pointer (some ⟨b, 9, none⟩)) hS ?_
    refine yyv (i := 30) (.string (str t.ask.key)) (fun w hS => run_load1 (of_ := 9) hS.1 rfl (by kernel_rfl) Tryz.isAgg9 rfl) hS ?_
    refine yyk (i := 31) (.pointer (some ⟨g1, 6, none⟩)) hS ?_
    refine yyv (i := 32) (.string (str x.key)) (fun w hS => run_load1 (of_ := 6) hS.2.1 rfl (by kernel_rfl) Tryz.isAgg9 rfl) hS ?_
    refine yyv (i := 33) (.bool (decide (t.ask.key = x.key))) (fun w hS => (run_seql (p := t.ask.key) (q := x.key) rfl (by kernel_rfl) (by kernel_rfl) _)) hS ?_
    refine yyk (i := 34) (.bool (decide (t.ask.key = x.key))) hS ?_
    refine yyk (i := 35) (.bool (decide (t.ask.key = x.key))) hS ?_; clear ha; intro a ha
    rcases Bool.eq_false_or_eq_true (decide (t.ask.key = x.key)) with hb | hb
    ·
     rw [hb] at ha; replace hb : (t.ask.key = x.key) := of_decide_eq_true hb
     refine yk (i := 36) (.pointer (some ⟨b, 0, none⟩)) ha hS ?_
     refine yyk (i := 37) (.pointer (some ⟨b, 0, none⟩)) hS ?_
     refine yyk (i := 38) (.pointer (some ⟨b, 3, none⟩)) hS ?_
     refine yyk (i := 39) (.pointer (some ⟨b, 11, none⟩)) hS ?_
     refine yyv (i := 40) (.agg #[.string (str t.ask.frm), .string (str t.ask.to)]) (fun w hS => run_loadN (of_ := 11) [.string (str t.ask.frm), .string (str t.ask.to)] hS.1 rfl (by kernel_rfl) Tryz.isAgg32 Tryz.sizeOf32 rfl (Nat.le_of_ble_eq_true rfl)) hS ?_
     refine yyk (i := 41) (.pointer (some ⟨g1, 8, none⟩)) hS ?_
     refine yyv (i := 42) (.agg #[.string (str x.frm), .string (str x.to)]) (fun w hS => run_loadN (of_ := 8) [.string (str x.frm), .string (str x.to)] hS.2.1 rfl (by kernel_rfl) Tryz.isAgg32 Tryz.sizeOf32 rfl (Nat.le_of_ble_eq_true rfl)) hS ?_
     refine yyv (i := 43) (.bool (decide ((t.ask.frm, t.ask.to) = (x.frm, x.to)))) (fun w hS => (run_spaneq rfl (by kernel_rfl) (by kernel_rfl) _)) hS ?_
     refine yyk (i := 44) (.bool (decide ((t.ask.frm, t.ask.to) = (x.frm, x.to)))) hS ?_
     refine yyk (i := 45) (.bool (decide ((t.ask.frm, t.ask.to) = (x.frm, x.to)))) hS ?_; clear ha; intro a ha
     rcases Bool.eq_false_or_eq_true (decide ((t.ask.frm, t.ask.to) = (x.frm, x.to))) with hb | hb
     ·
      rw [hb] at ha; replace hb : ((t.ask.frm, t.ask.to) = (x.frm, x.to)) := of_decide_eq_true hb
      refine yk (i := 46) (.pointer (some ⟨g1, 4, none⟩)) ha hS ?_
      refine yyv (i := 47) (.int .i64 x.epoch) (fun w hS => run_load1 (of_ := 4) hS.2.1 rfl (by kernel_rfl) Tryz.isAgg3 rfl) hS ?_
      refine yyk (i := 48) (.pointer (some ⟨b, 0, none⟩)) hS ?_
      refine yyk (i := 49) (.pointer (some ⟨b, 0, none⟩)) hS ?_
      refine yyk (i := 50) (.pointer (some ⟨b, 3, none⟩)) hS ?_
      refine yyk (i := 51) (.pointer (some ⟨b, 7, none⟩)) hS ?_
      refine yyv (i := 52) (.int .i64 t.ask.epoch) (fun w hS => run_load1 (of_ := 7) hS.1 rfl (by kernel_rfl) Tryz.isAgg3 rfl) hS ?_; clear ha; intro a ha
      refine Head.done (by kernel_rfl) ?_
      clear hS; simp only [List.drop_succ_cons, List.drop_zero]
      refine zv (.bool (decide (x.epoch ≥ t.ask.epoch))) ha ?_
      refine zzv (.bool (decide (x.epoch ≥ t.ask.epoch))) ?_
      refine zzv (.bool (decide (x.epoch ≥ t.ask.epoch))) ?_; clear ha; intro a ha
      refine zn2 ?_
      refine wp_ret ?_
      refine zzr (v := .bool (decide (x.epoch ≥ t.ask.epoch))) ha ?_
      replace s := s.k5_1
      replace s := Blks.back ht2 s
      replace s := s.at_ (j := 3) rfl
      replace s := s.at_ (j := 3) rfl
      replace s := s.at_ (j := 3) rfl
      refine ⟨T2, ?_, hk2, s⟩
      rw [← ht]
      congr 2
      clear s ha ht2 hk2 ht
      unfold answersB
      first | (simp [*]; done) | (simp_all; done) | (simp [*]; omega)
     rw [hb] at ha; replace hb : ¬ ((t.ask.frm, t.ask.to) = (x.frm, x.to)) := of_decide_eq_false hb
     refine yp (i := 46) ha hS ?_
     refine yyp (i := 47) hS ?_
     refine yyp (i := 48) hS ?_
     refine yyp (i := 49) hS ?_
     refine yyp (i := 50) hS ?_
     refine yyp (i := 51) hS ?_
     refine yyp (i := 52) hS ?_; clear ha; intro a ha
     refine Head.done (by kernel_rfl) ?_
     clear hS; simp only [List.drop_succ_cons, List.drop_zero]
     refine zp ha ?_
     refine zzv (.bool false) ?_
     refine zzv (.bool false) ?_; clear ha; intro a ha
     refine zn2 ?_
     refine wp_ret ?_
     refine zzr (v := .bool false) ha ?_
     replace s := s.k5_1
     replace s := Blks.back ht2 s
     replace s := s.at_ (j := 3) rfl
     replace s := s.at_ (j := 3) rfl
     replace s := s.at_ (j := 3) rfl
     refine ⟨T2, ?_, hk2, s⟩
     rw [← ht]
     congr 2
     clear s ha ht2 hk2 ht
     unfold answersB
     first | (simp [*]; done) | (simp_all; done) | (simp [*]; omega)
    rw [hb] at ha; replace hb : ¬ (t.ask.key = x.key) := of_decide_eq_false hb
    refine yp (i := 36) ha hS ?_
    refine yyp (i := 37) hS ?_
    refine yyp (i := 38) hS ?_
    refine yyp (i := 39) hS ?_
    refine yyp (i := 40) hS ?_
    refine yyp (i := 41) hS ?_
    refine yyp (i := 42) hS ?_
    refine yyp (i := 43) hS ?_
    refine yyk (i := 44) (.bool false) hS ?_
    refine yyk (i := 45) (.bool false) hS ?_
    refine yyp (i := 46) hS ?_
    refine yyp (i := 47) hS ?_
    refine yyp (i := 48) hS ?_
    refine yyp (i := 49) hS ?_
    refine yyp (i := 50) hS ?_
    refine yyp (i := 51) hS ?_
    refine yyp (i := 52) hS ?_; clear ha; intro a ha
    refine Head.done (by kernel_rfl) ?_
    clear hS; simp only [List.drop_succ_cons, List.drop_zero]
    refine zp ha ?_
    refine zzv (.bool false) ?_
    refine zzv (.bool false) ?_; clear ha; intro a ha
    refine zn2 ?_
    refine wp_ret ?_
    refine zzr (v := .bool false) ha ?_
    replace s := s.k5_1
    replace s := Blks.back ht2 s
    replace s := s.at_ (j := 3) rfl
    replace s := s.at_ (j := 3) rfl
    replace s := s.at_ (j := 3) rfl
    refine ⟨T2, ?_, hk2, s⟩
    rw [← ht]
    congr 2
    clear s ha ht2 hk2 ht
    unfold answersB
    first | (simp [*]; done) | (simp_all; done) | (simp [*]; omega)
   rw [hb] at ha; replace hb := ne_of_beq_false hb
   refine yp (i := 26) ha hS ?_
   refine yyp (i := 27) hS ?_
   refine yyp (i := 28) hS ?_
   refine yyp (i := 29) hS ?_
   refine yyp (i := 30) hS ?_
   refine yyp (i := 31) hS ?_
   refine yyp (i := 32) hS ?_
   refine yyp (i := 33) hS ?_
   refine yyk (i := 34) (.bool false) hS ?_
   refine yyk (i := 35) (.bool false) hS ?_
   refine yyp (i := 36) hS ?_
   refine yyp (i := 37) hS ?_
   refine yyp (i := 38) hS ?_
   refine yyp (i := 39) hS ?_
   refine yyp (i := 40) hS ?_
   refine yyp (i := 41) hS ?_
   refine yyp (i := 42) hS ?_
   refine yyp (i := 43) hS ?_
   refine yyk (i := 44) (.bool false) hS ?_
   refine yyk (i := 45) (.bool false) hS ?_
   refine yyp (i := 46) hS ?_
   refine yyp (i := 47) hS ?_
   refine yyp (i := 48) hS ?_
   refine yyp (i := 49) hS ?_
   refine yyp (i := 50) hS ?_
   refine yyp (i := 51) hS ?_
   refine yyp (i := 52) hS ?_; clear ha; intro a ha
   refine Head.done (by kernel_rfl) ?_
   clear hS; simp only [List.drop_succ_cons, List.drop_zero]
   refine zp ha ?_
   refine zzv (.bool false) ?_
   refine zzv (.bool false) ?_; clear ha; intro a ha
   refine zn2 ?_
   refine wp_ret ?_
   refine zzr (v := .bool false) ha ?_
   replace s := s.k5_1
   replace s := Blks.back ht2 s
   replace s := s.at_ (j := 3) rfl
   replace s := s.at_ (j := 3) rfl
   replace s := s.at_ (j := 3) rfl
   refine ⟨T2, ?_, hk2, s⟩
   rw [← ht]
   congr 2
   clear s ha ht2 hk2 ht
   unfold answersB
   first | (simp [*]; done) | (simp_all; done) | (simp [*]; omega)
  rw [hb] at ha; replace hb := ne_of_beq_false hb
  refine yp (i := 16) ha hS ?_
  refine yyp (i := 17) hS ?_
  refine yyp (i := 18) hS ?_
  refine yyp (i := 19) hS ?_
  refine yyp (i := 20) hS ?_
  refine yyp (i := 21) hS ?_
  refine yyp (i := 22) hS ?_
  refine yyp (i := 23) hS ?_
  refine yyk (i := 24) (.bool false) hS ?_
  refine yyk (i := 25) (.bool false) hS ?_
  refine yyp (i := 26) hS ?_
  refine yyp (i := 27) hS ?_
  refine yyp (i := 28) hS ?_
  refine yyp (i := 29) hS ?_
  refine yyp (i := 30) hS ?_
  refine yyp (i := 31) hS ?_
  refine yyp (i := 32) hS ?_
  refine yyp (i := 33) hS ?_
  refine yyk (i := 34) (.bool false) hS ?_
  refine yyk (i := 35) (.bool false) hS ?_
  refine yyp (i := 36) hS ?_
  refine yyp (i := 37) hS ?_
  refine yyp (i := 38) hS ?_
  refine yyp (i := 39) hS ?_
  refine yyp (i := 40) hS ?_
  refine yyp (i := 41) hS ?_
  refine yyp (i := 42) hS ?_
  refine yyp (i := 43) hS ?_
  refine yyk (i := 44) (.bool false) hS ?_
  refine yyk (i := 45) (.bool false) hS ?_
  refine yyp (i := 46) hS ?_
  refine yyp (i := 47) hS ?_
  refine yyp (i := 48) hS ?_
  refine yyp (i := 49) hS ?_
  refine yyp (i := 50) hS ?_
  refine yyp (i := 51) hS ?_
  refine yyp (i := 52) hS ?_; clear ha; intro a ha
  refine Head.done (by kernel_rfl) ?_
  clear hS; simp only [List.drop_succ_cons, List.drop_zero]
  refine zp ha ?_
  refine zzv (.bool false) ?_
  refine zzv (.bool false) ?_; clear ha; intro a ha
  refine zn2 ?_
  refine wp_ret ?_
  refine zzr (v := .bool false) ha ?_
  replace s := s.k5_1
  replace s := Blks.back ht2 s
  replace s := s.at_ (j := 3) rfl
  replace s := s.at_ (j := 3) rfl
  replace s := s.at_ (j := 3) rfl
  refine ⟨T2, ?_, hk2, s⟩
  rw [← ht]
  congr 2
  clear s ha ht2 hk2 ht
  unfold answersB
  first | (simp [*]; done) | (simp_all; done) | (simp [*]; omega)
 rw [hb] at ha; replace hb := ne_of_beq_false hb
 refine yp (i := 6) ha hS ?_
 refine yyp (i := 7) hS ?_
 refine yyp (i := 8) hS ?_
 refine yyp (i := 9) hS ?_
 refine yyp (i := 10) hS ?_
 refine yyp (i := 11) hS ?_
 refine yyp (i := 12) hS ?_
 refine yyp (i := 13) hS ?_
 refine yyk (i := 14) (.bool false) hS ?_
 refine yyk (i := 15) (.bool false) hS ?_
 refine yyp (i := 16) hS ?_
 refine yyp (i := 17) hS ?_
 refine yyp (i := 18) hS ?_
 refine yyp (i := 19) hS ?_
 refine yyp (i := 20) hS ?_
 refine yyp (i := 21) hS ?_
 refine yyp (i := 22) hS ?_
 refine yyp (i := 23) hS ?_
 refine yyk (i := 24) (.bool false) hS ?_
 refine yyk (i := 25) (.bool false) hS ?_
 refine yyp (i := 26) hS ?_
 refine yyp (i := 27) hS ?_
 refine yyp (i := 28) hS ?_
 refine yyp (i := 29) hS ?_
 refine yyp (i := 30) hS ?_
 refine yyp (i := 31) hS ?_
 refine yyp (i := 32) hS ?_
 refine yyp (i := 33) hS ?_
 refine yyk (i := 34) (.bool false) hS ?_
 refine yyk (i := 35) (.bool false) hS ?_
 refine yyp (i := 36) hS ?_
 refine yyp (i := 37) hS ?_
 refine yyp (i := 38) hS ?_
 refine yyp (i := 39) hS ?_
 refine yyp (i := 40) hS ?_
 refine yyp (i := 41) hS ?_
 refine yyp (i := 42) hS ?_
 refine yyp (i := 43) hS ?_
 refine yyk (i := 44) (.bool false) hS ?_
 refine yyk (i := 45) (.bool false) hS ?_
 refine yyp (i := 46) hS ?_
 refine yyp (i := 47) hS ?_
 refine yyp (i := 48) hS ?_
 refine yyp (i := 49) hS ?_
 refine yyp (i := 50) hS ?_
 refine yyp (i := 51) hS ?_
 refine yyp (i := 52) hS ?_; clear ha; intro a ha
 refine Head.done (by kernel_rfl) ?_
 clear hS; simp only [List.drop_succ_cons, List.drop_zero]
 refine zp ha ?_
 refine zzv (.bool false) ?_
 refine zzv (.bool false) ?_; clear ha; intro a ha
 refine zn2 ?_
 refine wp_ret ?_
 refine zzr (v := .bool false) ha ?_
 replace s := s.k5_1
 replace s := Blks.back ht2 s
 replace s := s.at_ (j := 3) rfl
 replace s := s.at_ (j := 3) rfl
 replace s := s.at_ (j := 3) rfl
 refine ⟨T2, ?_, hk2, s⟩
 rw [← ht]
 congr 2
 clear s ha ht2 hk2 ht
 unfold answersB
 first | (simp [*]; done) | (simp_all; done) | (simp [*]; omega)

set_option maxHeartbeats 4000000 in
theorem agrees_any (W : World) (L : List Chunk) (w : World) (g gd gt : Nat) (k : Look) (Dd : List (Int × Value)) (T : List (Int × Nat × Tx)) (n : Nat) (hk : LkOk k Dd T n) (hn : n ≤ 1000000) (x : Ev) (hmx : mayB k.ti x = true) (s : St W (Chunk.blk g [.int .i64 k.ti, .int .i64 k.most, .map (some gd), .map (some gt)] 43 :: MapT Tryz.prog 3 encI gd Dd :: MapT Tryz.prog 3 encI gt (T.map ent) :: Blks T :: L) w) :
  Calls Tryz.prog 16 #[.pointer (some ⟨g, 0, none⟩), .agg (evv x).toArray] w fun e w' => ∃ T2 : List (Int × Nat × Tx), e = .returned (.bool (agreesB (k.tx x.id) x)) ∧ LkOk k Dd T2 (n + 1) ∧ St W (Chunk.blk g [.int .i64 k.ti, .int .i64 k.most, .map (some gd), .map (some gt)] 43 :: MapT Tryz.prog 3 encI gd Dd :: MapT Tryz.prog 3 encI gt (T2.map ent) :: Blks T2 :: L) w' := by
 refine enter_args (l := [.pointer (some ⟨g, 0, none⟩), .agg (evv x).toArray]) Tryz.func16 rfl rfl (Nat.le_of_ble_eq_true rfl) ?_
 intro a ha; replace ha : Has a 47 [(0, .pointer (some ⟨g, 0, none⟩)), (1, .agg (evv x).toArray)] := ha
 refine zn1 ?_
 refine zze ha (ex_box (evv x) s rfl (by kernel_rfl)) ?_
 clear ha; rintro _ w a ⟨g1, rfl, s⟩ ha
 refine zv (.bool false) ha ?_; clear ha; intro a ha
 refine zn2 ?_
 refine wp_seq ?_
 refine zn1 ?_
 refine zw (.agg (evv x).toArray) ha (zln 0 0) ?_; clear ha; intro a ha
 refine zzc ha (has_id W _ w x s) ?_
 rintro _ w ⟨rfl, s⟩
 refine ⟨_, rfl, ?_⟩; clear ha; intro a ha
 refine zv (.bool (!(hasB x))) ha ?_; clear ha; intro a ha
 refine zn2 ?_
 refine zzh (!(hasB x)) ha ?_ ?_ <;> intro hb
 ·
  rw [hb] at ha; skip
  refine zn1 ?_
  refine zv (.bool true) ha ?_; clear ha; intro a ha
  refine zn2 ?_
  refine zzt ?_
  refine zzr (v := .bool true) ha ?_
  replace s := (((s.at_ (j := 4) rfl).at_ (j := 4) rfl).at_ (j := 4) rfl).at_ (j := 4) rfl
  replace s := s.k4_1
  refine ⟨T, ?_, hk.up (by omega), s⟩
  congr 2
  clear s ha
  unfold agreesB
  first | (simp [*]; done) | (simp_all; done) | (simp [*]; omega)
 rw [hb] at ha; skip
 have hhx : hasB x = true := by simpa using hb
 have hid := may_has hmx hhx
 refine wp_skip ?_
 refine then_normal ?_
 refine zn1 ?_
 refine zv (.pointer (some ⟨g, 0, none⟩)) ha ?_
 refine zzv (.pointer (some ⟨g1, 3, none⟩)) ?_
 refine zzw (.int .i64 x.id) (zl1 0 3) ?_; clear ha; intro a ha
 replace s := (((s.at_ (j := 4) rfl).at_ (j := 4) rfl).at_ (j := 4) rfl).at_ (j := 4) rfl
 dsimp only [List.eraseIdx] at s
 refine zzc ha (txn_any W _ w g gd gt k Dd T n hk hn x.id (by omega) s) ?_
 rintro _ w ⟨T2, q, b, rfl, ht2, hk2, s⟩
 obtain ⟨t, ht⟩ : ∃ t, t = k.tx x.id := ⟨_, rfl⟩
 rw [← ht] at ht2
 replace s := s.at_ (j := 3) rfl
 dsimp only [List.eraseIdx] at s
 replace s := Blks.open_ ht2 s
 refine ⟨_, rfl, ?_⟩; clear ha; intro a ha
 refine zv (.pointer (some ⟨b, 0, none⟩)) ha ?_
 refine zzv (.pointer (some ⟨b, 19, none⟩)) ?_
 refine zzw (.agg #[.bool t.comm, .bool t.abrt, .int .i64 t.epoch, .int .i64 t.wall, .int .i64 t.logic]) (zln 0 19) ?_; clear ha; intro a ha
 refine zze ha (ex_alloc [.bool false, .bool false, .int .i64 0, .int .i64 0, .int .i64 0] s rfl (Tryz.zeroValue70 _) (by kernel_rfl)) ?_
 clear ha; rintro _ w a ⟨g2, rfl, s⟩ ha
 refine zzd ha (ex_store (of_ := 0) 0 [.bool t.comm, .bool t.abrt, .int .i64 t.epoch, .int .i64 t.wall, .int .i64 t.logic] s rfl rfl (by kernel_rfl) (by kernel_rfl) (Tryz.sizeOf70 _) rfl (by simp [Value.oneCell']) (Nat.le_of_ble_eq_true rfl)) ?_
 clear ha; rintro w a s ha
 dsimp only [List.set, putAt] at s
 refine zn2 ?_
 refine wp_seq ?_
 refine wp_block ?_
 refine zn1 ?_
 refine zw (.agg (evv x).toArray) ha (zln 6 0) ?_; clear ha; intro a ha
 refine zzc ha (com_any W _ w x s) ?_
 rintro _ w ⟨rfl, s⟩
 refine ⟨_, rfl, ?_⟩; clear ha; intro a ha
 refine zv (.bool (comB x)) ha ?_; clear ha; intro a ha
 refine zn2 ?_
 refine zzh (comB x) ha ?_ ?_ <;> intro hb
 ·
  rw [hb] at ha; skip
  refine zn1 ?_
  refine zv (.pointer (some ⟨g2, 1, none⟩)) ha ?_
  refine zzw (.bool t.abrt) (zl1 0 1) ?_
  refine zzv (.bool (!t.abrt)) ?_
  refine zzv (.bool (!t.abrt)) ?_; clear ha; intro a ha
  rcases Bool.eq_false_or_eq_true (!t.abrt) with hb | hb
  ·
   rw [hb] at ha; skip
   refine zv (.pointer (some ⟨g2, 0, none⟩)) ha ?_
   refine zzw (.bool t.comm) (zl1 0 0) ?_
   refine zzv (.bool (!t.comm)) ?_
   refine zzv (.bool (!t.comm)) ?_; clear ha; intro a ha
   rcases Bool.eq_false_or_eq_true (!t.comm) with hb | hb
   ·
    rw [hb] at ha; skip
    refine zp ha ?_
    iterate 11 refine zzp ?_
    refine zzv (.bool true) ?_
    refine zzv (.bool true) ?_
    refine zzv (.bool true) ?_; clear ha; intro a ha
    refine zn2 ?_
    refine wp_ret ?_
    refine block_ret ?_
    refine then_ret ?_
    refine zzr (v := .bool true) ha ?_
    replace s := ((((s.at_ (j := 5) rfl).at_ (j := 5) rfl).at_ (j := 5) rfl).at_ (j := 5) rfl).at_ (j := 5) rfl
    replace s := s.k5_2
    replace s := Blks.back ht2 s
    replace s := s.at_ (j := 3) rfl
    replace s := s.at_ (j := 3) rfl
    replace s := s.at_ (j := 3) rfl
    refine ⟨T2, ?_, hk2, s⟩
    rw [← ht]
    congr 2
    clear s ha ht2 hk2 ht
    unfold agreesB
    first | (simp [*]; done) | (simp_all; done) | (simp [*]; omega)
   rw [hb] at ha; skip
   refine zv (.pointer (some ⟨g2, 2, none⟩)) ha ?_
   refine zzw (.int .i64 t.epoch) (zl1 0 2) ?_
   refine zzv (.pointer (some ⟨g1, 4, none⟩)) ?_
   refine zzw (.int .i64 x.epoch) (zl1 6 4) ?_
   refine zzv (.bool (t.epoch == x.epoch)) ?_
   refine zzv (.bool (t.epoch == x.epoch)) ?_; clear ha; intro a ha
   rcases Bool.eq_false_or_eq_true (t.epoch == x.epoch) with hb | hb
   ·
    rw [hb] at ha; replace hb := eq_of_beq hb
    refine zv (.pointer (some ⟨g2, 3, none⟩)) ha ?_
    refine zzw (.agg #[.int .i64 t.wall, .int .i64 t.logic]) (zln 0 3) ?_
    refine zzv (.pointer (some ⟨g1, 12, none⟩)) ?_
    refine zzw (.agg #[.int .i64 x.wall, .int .i64 x.logic]) (zln 6 12) ?_
    refine zzw (.bool (decide ((t.wall, t.logic) = (x.wall, x.logic)))) (run_stampeq rfl (by kernel_rfl) (by kernel_rfl) _) ?_
    refine zzv (.bool (decide ((t.wall, t.logic) = (x.wall, x.logic)))) ?_
    refine zzv (.bool (decide ((t.wall, t.logic) = (x.wall, x.logic)))) ?_
    refine zzv (.bool (decide ((t.wall, t.logic) = (x.wall, x.logic)))) ?_
    refine zzv (.bool (decide ((t.wall, t.logic) = (x.wall, x.logic)))) ?_; clear ha; intro a ha
    refine zn2 ?_
    refine wp_ret ?_
    refine block_ret ?_
    refine then_ret ?_
    refine zzr (v := .bool (decide ((t.wall, t.logic) = (x.wall, x.logic)))) ha ?_
    replace s := ((((s.at_ (j := 5) rfl).at_ (j := 5) rfl).at_ (j := 5) rfl).at_ (j := 5) rfl).at_ (j := 5) rfl
    replace s := s.k5_2
    replace s := Blks.back ht2 s
    replace s := s.at_ (j := 3) rfl
    replace s := s.at_ (j := 3) rfl
    replace s := s.at_ (j := 3) rfl
    refine ⟨T2, ?_, hk2, s⟩
    rw [← ht]
    congr 2
    clear s ha ht2 hk2 ht
    unfold agreesB
    first | (simp [*]; done) | (simp_all; done) | (simp [*]; omega)
   rw [hb] at ha; replace hb := ne_of_beq_false hb
   refine zp ha ?_
   iterate 4 refine zzp ?_
   refine zzv (.bool false) ?_
   refine zzv (.bool false) ?_
   refine zzv (.bool false) ?_
   refine zzv (.bool false) ?_; clear ha; intro a ha
   refine zn2 ?_
   refine wp_ret ?_
   refine block_ret ?_
   refine then_ret ?_
   refine zzr (v := .bool false) ha ?_
   replace s := ((((s.at_ (j := 5) rfl).at_ (j := 5) rfl).at_ (j := 5) rfl).at_ (j := 5) rfl).at_ (j := 5) rfl
   replace s := s.k5_2
   replace s := Blks.back ht2 s
   replace s := s.at_ (j := 3) rfl
   replace s := s.at_ (j := 3) rfl
   replace s := s.at_ (j := 3) rfl
   refine ⟨T2, ?_, hk2, s⟩
   rw [← ht]
   congr 2
   clear s ha ht2 hk2 ht
   unfold agreesB
   first | (simp [*]; done) | (simp_all; done) | (simp [*]; omega)
  rw [hb] at ha; skip
  refine zp ha ?_
  iterate 16 refine zzp ?_
  refine zzv (.bool false) ?_
  refine zzv (.bool false) ?_; clear ha; intro a ha
  refine zn2 ?_
  refine wp_ret ?_
  refine block_ret ?_
  refine then_ret ?_
  refine zzr (v := .bool false) ha ?_
  replace s := ((((s.at_ (j := 5) rfl).at_ (j := 5) rfl).at_ (j := 5) rfl).at_ (j := 5) rfl).at_ (j := 5) rfl
  replace s := s.k5_2
  replace s := Blks.back ht2 s
  replace s := s.at_ (j := 3) rfl
  replace s := s.at_ (j := 3) rfl
  replace s := s.at_ (j := 3) rfl
  refine ⟨T2, ?_, hk2, s⟩
  rw [← ht]
  congr 2
  clear s ha ht2 hk2 ht
  unfold agreesB
  first | (simp [*]; done) | (simp_all; done) | (simp [*]; omega)
 rw [hb] at ha; skip
 refine zn1 ?_
 refine zw (.agg (evv x).toArray) ha (zln 6 0) ?_; clear ha; intro a ha
 refine zzc ha (abr_any W _ w x s) ?_
 rintro _ w ⟨rfl, s⟩
 refine ⟨_, rfl, ?_⟩; clear ha; intro a ha
 refine zv (.bool (abrB x)) ha ?_; clear ha; intro a ha
 refine zn2 ?_
 refine zzh (abrB x) ha ?_ ?_ <;> intro hb
 ·
  rw [hb] at ha; skip
  refine zn1 ?_
  refine zv (.pointer (some ⟨g2, 0, none⟩)) ha ?_
  refine zzw (.bool t.comm) (zl1 0 0) ?_
  refine zzv (.bool (!t.comm)) ?_
  refine zzv (.bool (!t.comm)) ?_; clear ha; intro a ha
  refine zn2 ?_
  refine wp_ret ?_
  refine block_ret ?_
  refine then_ret ?_
  refine zzr (v := .bool (!t.comm)) ha ?_
  replace s := ((((s.at_ (j := 5) rfl).at_ (j := 5) rfl).at_ (j := 5) rfl).at_ (j := 5) rfl).at_ (j := 5) rfl
  replace s := s.k5_2
  replace s := Blks.back ht2 s
  replace s := s.at_ (j := 3) rfl
  replace s := s.at_ (j := 3) rfl
  replace s := s.at_ (j := 3) rfl
  refine ⟨T2, ?_, hk2, s⟩
  rw [← ht]
  congr 2
  clear s ha ht2 hk2 ht
  unfold agreesB
  first | (simp [*]; done) | (simp_all; done) | (simp [*]; omega)
 rw [hb] at ha; skip
 refine wp_skip ?_
 refine block_normal ?_
 refine then_normal ?_
 refine zn1 ?_
 refine zv (.bool true) ha ?_; clear ha; intro a ha
 refine zn2 ?_
 refine wp_ret ?_
 refine zzr (v := .bool true) ha ?_
 replace s := ((((s.at_ (j := 5) rfl).at_ (j := 5) rfl).at_ (j := 5) rfl).at_ (j := 5) rfl).at_ (j := 5) rfl
 replace s := s.k5_2
 replace s := Blks.back ht2 s
 replace s := s.at_ (j := 3) rfl
 replace s := s.at_ (j := 3) rfl
 replace s := s.at_ (j := 3) rfl
 refine ⟨T2, ?_, hk2, s⟩
 rw [← ht]
 congr 2
 clear s ha ht2 hk2 ht
 unfold agreesB
 first | (simp [*]; done) | (simp_all; done) | (simp [*]; omega)

end Go.Proofs.YtfcbjcohepkkfaaGreat.B
