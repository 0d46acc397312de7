import Derived.Test.YtfcbjcohepkkfaaGreatB9
import Derived.Test.YtfcbjcohepkkfaaGreatSepY
namespace Go.Proofs.YtfcbjcohepkkfaaGreat.B
open Go.RowKit Go.Maps Go.Sort Go.Shelf Go.Proofs.YtfcbjcohepkkfaaGreat.Sep Go.Proofs.YtfcbjcohepkkfaaGreat.P
set_option linter.unusedVariables false
set_option linter.unusedSimpArgs false
theorem rwithin_is (W : World) (L : List Chunk) (w : World) (A : Option Addr) (ca : Nat) (R : List Rw) (hr : Knows L fun w => Reads w 2 A R.length (rws R)) (hRn : R.length ≤ 1000000) (sf stt : K) (X : List Rw) (hX : within R sf stt = X) (s : St W L w) :
  Calls Tryz.prog 70 #[.slice A R.length ca, .agg #[.string (str sf), .string (str stt)]] w fun e w' => ∃ A c, e = .returned (.slice A X.length c) ∧ St W (Own 115 2 A X.length c (rws X) :: L) w' := by
 subst hX; exact rwithin_any W L w A ca R hr hRn sf stt s
theorem next_5 {R : List Rw} {d : Td} (hok : okT d) (h1 : d.op ≠ 1) (h2 : d.op ≠ 2) (h3 : d.op ≠ 3) (h4 : d.op ≠ 4) : nextR R d = without R d.frm d.to := by
 unfold nextR; unfold okT at hok; rw [if_neg h3, if_neg h4, if_pos (by omega)]
theorem some_or {α : Type} {f : Option α} (h : f.isSome = true) (x : α) : f.or (some x) = f := by cases f <;> simp at *
theorem none_or {α : Type} {f : Option α} (h : f.isSome = false) (x : α) : f.or (some x) = some x := by cases f <;> simp at *

set_option maxRecDepth 100000 in
set_option maxHeartbeats 2000000 in
theorem one_any (W : World) (L : List Chunk) (w : World) (A : Option Addr) (ca : Nat) (R : List Rw) (hup : Up R) (hRn : R.length ≤ 1000000) (d : Dd) (hrw : Knows L fun w => Reads w 2 d.A d.t.rows.length (rws d.t.rows)) (hdl : d.t.rows.length ≤ 140737488351232) (hdk : d.t.key.length ≤ 140737488351232) (hok : okT d.t) (s : St W (Own 115 2 A R.length ca (rws R) :: L) w) :
  Calls Tryz.prog 59 #[.slice A R.length ca, .agg (dv d).toArray] w fun e w' => ∃ A' c', e = .returned (.tuple #[.slice A' (nextR R d.t).length c', .bool (isWell R d.t)]) ∧ St W (Own 115 2 A' (nextR R d.t).length c' (rws (nextR R d.t)) :: L) w' := by
 refine enter_args (l := [.slice A R.length ca, .agg (dv d).toArray]) Tryz.func59 rfl rfl (Nat.le_of_ble_eq_true rfl) ?_
 intro a ha; replace ha : Has a 73 [(0, .slice A R.length ca), (1, .agg (dv d).toArray)] := ha
 refine zn1 ?_
 refine zze ha (ex_box (dv d) s rfl (by kernel_rfl)) ?_
 clear ha; rintro _ w a ⟨g1, rfl, s⟩ ha
 refine zv (.slice none 0 0) ha ?_
 refine zzv (.bool false) ?_; clear ha; intro a ha
 refine zn4 ?_
 refine zv (.pointer (some ⟨g1, 1, none⟩)) ha ?_
 refine zzw (.string (str d.t.key)) (zl1 0 1) ?_
 refine zzv (.pointer (some ⟨g1, 1, none⟩)) ?_
 refine zzw (.string (str d.t.key)) (zl1 0 1) ?_
 refine zzw (.string (str (d.t.key ++ [0]))) (run_sadd rfl (by kernel_rfl) (by kernel_rfl) (by first | omega | (simp only [List.length_cons, List.length_nil]; omega)) _) ?_
 refine zzv (.agg #[.string (str d.t.key), .string (str (d.t.key ++ [0]))]) ?_; clear ha; intro a ha
 refine zze ha (ex_alloc [.string (str []), .string (str [])] s rfl (Tryz.zeroValue32 _) (by kernel_rfl)) ?_
 clear ha; rintro _ w a ⟨g2, rfl, s⟩ ha
 refine zzd ha (ex_store (of_ := 0) 0 [.string (str d.t.key), .string (str (d.t.key ++ [0]))] s rfl rfl (by kernel_rfl) (by kernel_rfl) (Tryz.sizeOf32 _) rfl (by simp [Value.oneCell']) (Nat.le_of_ble_eq_true rfl)) ?_
 clear ha; rintro w a s ha
 dsimp only [List.set, putAt] at s
 refine zn2 ?_
 refine wp_seq ?_
 refine zn1 ?_
 refine zv (.pointer (some ⟨g1, 0, none⟩)) ha ?_
 refine zzw (.int .i64 d.t.op) (zl1 1 0) ?_; clear ha; intro a ha
 refine zn2 ?_
 refine wp_block ?_
 refine zn1 ?_
 refine zv (.bool (d.t.op == (1 : Int))) ha ?_
 refine zzv (.bool (d.t.op == (1 : Int))) ?_; clear ha; intro a ha
 refine zn2 ?_
 refine zzh (d.t.op == (1 : Int)) ha ?_ ?_ <;> intro hb
 ·
  rw [hb] at ha; replace hb := eq_of_beq hb
  have hop := hb
  refine zn1 ?_
  refine zv (.slice A R.length ca) ha ?_
  refine zzw (.agg #[.string (str d.t.key), .string (str (d.t.key ++ [0]))]) (zln 0 0) ?_; clear ha; intro a ha
  rcases hfd : R.find? (fun x => decide (x.key = d.t.key)) with _ | r
  ·
   have hX : within R d.t.key (d.t.key ++ [0]) = [] := by rw [within_own R hup, hfd]
   refine zzc ha (rwithin_is W _ w A ca R (Knows.own (j := 2) rfl) hRn d.t.key (d.t.key ++ [0]) ([] : List Rw) hX s) ?_
   rintro _ w ⟨A5, c6, rfl, s⟩
   refine ⟨_, rfl, ?_⟩; clear ha; intro a ha
   refine zv (.slice A5 0 c6) ha ?_; clear ha; intro a ha
   refine zn2 ?_
   refine wp_seq ?_
   refine zn1 ?_
   refine zv (.slice A5 0 c6) ha ?_
   refine zzv (.int .i64 0) ?_
   refine zzv (.bool true) ?_; clear ha; intro a ha
   refine zn2 ?_
   refine wp_true ha rfl (by kernel_rfl) ?_
   refine wp_seq ?_
   refine wp_region_head 10 (fun w => BlkIs g1 (dv d) w ∧ True) (by kernel_rfl) (by decide) ?_
   replace s := s.drew; generalize _root_.Go.World.drew _ = w at s ⊢
   have hS : (fun w => BlkIs g1 (dv d) w ∧ True) w := ⟨s.blkIs 2 rfl, trivial⟩
   refine yk (i := 0) (.slice A R.length ca) ha hS ?_
   refine yyk (i := 1) (.pointer (some ⟨g1, 5, none⟩)) hS ?_
   refine yyv (i := 2) (.bool d.t.is) (fun w hS => run_load1 (of_ := 5) hS.1 rfl (by kernel_rfl) Tryz.isAgg4 rfl) hS ?_
   refine yyk (i := 3) (.bool (!d.t.is)) hS ?_
   refine yyk (i := 4) (.bool (!d.t.is)) hS ?_; clear ha; intro a ha
   rcases Bool.eq_false_or_eq_true (!d.t.is) with hb | hb
   ·
    rw [hb] at ha; skip
    refine yk (i := 5) (.pointer (some ⟨g1, 2, none⟩)) ha hS ?_
    refine yyv (i := 6) (.string (str d.t.val)) (fun w hS => run_load1 (of_ := 2) hS.1 rfl (by kernel_rfl) Tryz.isAgg9 rfl) hS ?_
    refine yyv (i := 7) (.bool (decide (d.t.val = []))) (fun w hS => (run_seql (p := d.t.val) (q := []) rfl (by kernel_rfl) (by kernel_rfl) _)) hS ?_
    refine yyk (i := 8) (.bool (decide (d.t.val = []))) hS ?_
    refine yyk (i := 9) (.slice A R.length ca) hS ?_; clear ha; intro a ha
    refine Head.done (by kernel_rfl) ?_
    clear hS; simp only [List.drop_succ_cons, List.drop_zero]
    refine zv (.bool (decide (d.t.val = []))) ha ?_; clear ha; intro a ha
    refine zn2 ?_
    refine zzt ?_
    refine block_ret ?_
    refine then_ret ?_
    refine ret_with (v := .tuple #[.slice A R.length ca, .bool (decide (d.t.val = []))]) ha (results_2 rfl ha (res_tmp (by kernel_rfl) (by kernel_rfl)) (res_tmp (by kernel_rfl) (by kernel_rfl))) ?_
    replace s := s.at_ (j := 3) rfl
    replace s := s.k1_3
    rw [(next_none (by omega) (by omega) (by omega))]
    exact ⟨_, _, (by rw [well_get_none hop hfd]; revert hb; cases d.t.is <;> simp [eq_comm]), s⟩
   rw [hb] at ha; skip
   refine yp (i := 5) ha hS ?_
   refine yyp (i := 6) hS ?_
   refine yyp (i := 7) hS ?_
   refine yyk (i := 8) (.bool false) hS ?_
   refine yyk (i := 9) (.slice A R.length ca) hS ?_; clear ha; intro a ha
   refine Head.done (by kernel_rfl) ?_
   clear hS; simp only [List.drop_succ_cons, List.drop_zero]
   refine zv (.bool false) ha ?_; clear ha; intro a ha
   refine zn2 ?_
   refine zzt ?_
   refine block_ret ?_
   refine then_ret ?_
   refine ret_with (v := .tuple #[.slice A R.length ca, .bool false]) ha (results_2 rfl ha (res_tmp (by kernel_rfl) (by kernel_rfl)) (res_tmp (by kernel_rfl) (by kernel_rfl))) ?_
   replace s := s.at_ (j := 3) rfl
   replace s := s.k1_3
   rw [(next_none (by omega) (by omega) (by omega))]
   exact ⟨_, _, (by rw [well_get_none hop hfd]; revert hb; cases d.t.is <;> simp [eq_comm]), s⟩
  have hX : within R d.t.key (d.t.key ++ [0]) = [r] := by rw [within_own R hup, hfd]
  refine zzc ha (rwithin_is W _ w A ca R (Knows.own (j := 2) rfl) hRn d.t.key (d.t.key ++ [0]) ([r] : List Rw) hX s) ?_
  rintro _ w ⟨A7, c8, rfl, s⟩
  replace s : St W (Own 115 2 A7 1 c8 (rws ([r] : List Rw)) :: .blk g2 [.string (str d.t.key), .string (str (d.t.key ++ [0]))] 32 :: .blk g1 (dv d) 99 :: Own 115 2 A R.length ca (rws R) :: L) w := s
  refine ⟨_, rfl, ?_⟩; clear ha; intro a ha
  refine zv (.slice A7 1 c8) ha ?_; clear ha; intro a ha
  refine zn2 ?_
  refine wp_seq ?_
  refine zn1 ?_
  refine zv (.slice A7 1 c8) ha ?_
  refine zzv (.int .i64 1) ?_
  refine zzv (.bool false) ?_; clear ha; intro a ha
  refine zn2 ?_
  refine wp_false ha rfl (by kernel_rfl) ?_
  refine wp_skip ?_
  refine then_normal ?_
  refine wp_seq ?_
  obtain ⟨ax9, hAx⟩ := Own.addr (s.at_ (j := 0) rfl) (by omega)
  subst hAx
  refine wp_region_head 13 (fun w => BlkIs g1 (dv d) w ∧ Reads w 2 (some ax9) 1 (rws ([r] : List Rw)) ∧ True) (by kernel_rfl) (by decide) ?_
  replace s := s.drew; generalize _root_.Go.World.drew _ = w at s ⊢
  have hS : (fun w => BlkIs g1 (dv d) w ∧ Reads w 2 (some ax9) 1 (rws ([r] : List Rw)) ∧ True) w := ⟨s.blkIs 2 rfl, (Own.reads (s.at_ (j := 0) rfl).1), trivial⟩
  refine yk (i := 0) (.slice A R.length ca) ha hS ?_
  refine yyk (i := 1) (.pointer (some ⟨g1, 5, none⟩)) hS ?_
  refine yyv (i := 2) (.bool d.t.is) (fun w hS => run_load1 (of_ := 5) hS.1 rfl (by kernel_rfl) Tryz.isAgg4 rfl) hS ?_
  refine yyk (i := 3) (.bool d.t.is) hS ?_; clear ha; intro a ha
  rcases Bool.eq_false_or_eq_true d.t.is with hb | hb
  ·
   rw [hb] at ha; skip
   refine yk (i := 4) (.slice (some ax9) 1 c8) ha hS ?_
   refine yyv (i := 5) (.pointer (some (ax9.add (0 * 2)))) (fun w hS => (run_indexAddr' (kd := .i64) (i := 0) (n := 1) (c := c8) 0 rfl Tryz.underlying33 Tryz.sizeOf115 (by kernel_rfl) (by kernel_rfl) rfl (by first | assumption | omega) _)) hS ?_
   refine yyfa (i := 6) (.pointer (some (ax9.add (0 * 2 + 1)))) 9 hS ?_
   refine yyla (i := 7) (.string (str r.val)) (0 * 2 + 1) (fun _ hS => hS.2.1) rfl hS ?_
   refine yyk (i := 8) (.pointer (some ⟨g1, 2, none⟩)) hS ?_
   refine yyv (i := 9) (.string (str d.t.val)) (fun w hS => run_load1 (of_ := 2) hS.1 rfl (by kernel_rfl) Tryz.isAgg9 rfl) hS ?_
   refine yyv (i := 10) (.bool (decide (r.val = d.t.val))) (fun w hS => (run_seql (p := r.val) (q := d.t.val) rfl (by kernel_rfl) (by kernel_rfl) _)) hS ?_
   refine yyk (i := 11) (.bool (decide (r.val = d.t.val))) hS ?_
   refine yyk (i := 12) (.slice A R.length ca) hS ?_; clear ha; intro a ha
   refine Head.done (by kernel_rfl) ?_
   clear hS; simp only [List.drop_succ_cons, List.drop_zero]
   refine zv (.bool (decide (r.val = d.t.val))) ha ?_; clear ha; intro a ha
   refine zn2 ?_
   refine wp_ret ?_
   refine block_ret ?_
   refine then_ret ?_
   refine ret_with (v := .tuple #[.slice A R.length ca, .bool (decide (r.val = d.t.val))]) ha (results_2 rfl ha (res_tmp (by kernel_rfl) (by kernel_rfl)) (res_tmp (by kernel_rfl) (by kernel_rfl))) ?_
   replace s := s.at_ (j := 3) rfl
   replace s := s.k1_3
   rw [(next_none (by omega) (by omega) (by omega))]
   exact ⟨_, _, (by rw [well_get_some hop hfd]; revert hb; cases d.t.is <;> simp [eq_comm]), s⟩
  rw [hb] at ha; skip
  refine yp (i := 4) ha hS ?_
  refine yyp (i := 5) hS ?_
  refine yyp (i := 6) hS ?_
  refine yyp (i := 7) hS ?_
  refine yyp (i := 8) hS ?_
  refine yyp (i := 9) hS ?_
  refine yyp (i := 10) hS ?_
  refine yyk (i := 11) (.bool false) hS ?_
  refine yyk (i := 12) (.slice A R.length ca) hS ?_; clear ha; intro a ha
  refine Head.done (by kernel_rfl) ?_
  clear hS; simp only [List.drop_succ_cons, List.drop_zero]
  refine zv (.bool false) ha ?_; clear ha; intro a ha
  refine zn2 ?_
  refine wp_ret ?_
  refine block_ret ?_
  refine then_ret ?_
  refine ret_with (v := .tuple #[.slice A R.length ca, .bool false]) ha (results_2 rfl ha (res_tmp (by kernel_rfl) (by kernel_rfl)) (res_tmp (by kernel_rfl) (by kernel_rfl))) ?_
  replace s := s.at_ (j := 3) rfl
  replace s := s.k1_3
  rw [(next_none (by omega) (by omega) (by omega))]
  exact ⟨_, _, (by rw [well_get_some hop hfd]; revert hb; cases d.t.is <;> simp [eq_comm]), s⟩
 rw [hb] at ha; replace hb := ne_of_beq_false hb
 have n1 := hb
 refine zn1 ?_
 refine zv (.bool (d.t.op == (2 : Int))) ha ?_
 refine zzv (.bool (d.t.op == (2 : Int))) ?_; clear ha; intro a ha
 refine zn2 ?_
 refine zzh (d.t.op == (2 : Int)) ha ?_ ?_ <;> intro hb
 ·
  rw [hb] at ha; replace hb := eq_of_beq hb
  have hop := hb
  refine wp_seq ?_
  refine wp_region_head 8 (fun w => BlkIs g1 (dv d) w ∧ True) (by kernel_rfl) (by decide) ?_
  replace s := s.drew; generalize _root_.Go.World.drew _ = w at s ⊢
  have hS : (fun w => BlkIs g1 (dv d) w ∧ True) w := ⟨s.blkIs 1 rfl, trivial⟩
  refine yk (i := 0) (.slice A R.length ca) ha hS ?_
  refine yyk (i := 1) (.slice A R.length ca) hS ?_
  refine yyk (i := 2) (.pointer (some ⟨g1, 3, none⟩)) hS ?_
  refine yyv (i := 3) (.agg #[.string (str d.t.frm), .string (str d.t.to)]) (fun w hS => run_loadN (of_ := 3) [.string (str d.t.frm), .string (str d.t.to)] hS.1 rfl (by kernel_rfl) Tryz.isAgg32 Tryz.sizeOf32 rfl (Nat.le_of_ble_eq_true rfl)) hS ?_
  refine yyk (i := 5) (.pointer (some ⟨g1, 6, none⟩)) hS ?_
  refine yyv (i := 6) (.slice d.A d.t.rows.length d.c) (fun w hS => run_load1 (of_ := 6) hS.1 rfl (by kernel_rfl) Tryz.isAgg33 rfl) hS ?_; clear ha; intro a ha
  refine hd_call (i := 4) ha rfl (by kernel_rfl) (by kernel_rfl) (by kernel_rfl) (rwithin_any W _ w A ca R (Knows.own (j := 2) rfl) hRn d.t.frm d.t.to s) ?_
  clear hS; rintro _ w ⟨A10, c11, rfl, s⟩
  have hS : (fun w => BlkIs g1 (dv d) w ∧ True) w := ⟨s.blkIs 2 rfl, trivial⟩
  refine ⟨_, rfl, hS, ?_⟩; clear ha; intro a ha
  refine hd_call (i := 7) ha rfl (by kernel_rfl) (by kernel_rfl) (by kernel_rfl) (same_any W _ w A10 d.A c11 d.c (within R d.t.frm d.t.to) d.t.rows (Knows.own (j := 0) rfl) (fun w s => hrw w s.tail.tail.tail.tail) hdl s) ?_
  clear hS; rintro _ w ⟨rfl, s⟩
  have hS : (fun w => BlkIs g1 (dv d) w ∧ True) w := ⟨s.blkIs 2 rfl, trivial⟩
  refine ⟨_, rfl, hS, ?_⟩; clear ha; intro a ha
  refine Head.done (by kernel_rfl) ?_
  clear hS; simp only [List.drop_succ_cons, List.drop_zero]
  refine zv (.slice A R.length ca) ha ?_
  refine zzv (.bool (decide (within R d.t.frm d.t.to = d.t.rows))) ?_; clear ha; intro a ha
  refine zn2 ?_
  refine wp_ret ?_
  refine block_ret ?_
  refine then_ret ?_
  refine ret_with (v := .tuple #[.slice A R.length ca, .bool (decide (within R d.t.frm d.t.to = d.t.rows))]) ha (results_2 rfl ha (res_tmp (by kernel_rfl) (by kernel_rfl)) (res_tmp (by kernel_rfl) (by kernel_rfl))) ?_
  replace s := s.at_ (j := 3) rfl
  replace s := s.k1_3
  rw [(next_none (by omega) (by omega) (by omega))]
  exact ⟨_, _, (by unfold isWell; rw [if_neg n1, if_pos hop]), s⟩
 rw [hb] at ha; replace hb := ne_of_beq_false hb
 have n2 := hb
 refine zn1 ?_
 refine zv (.bool (d.t.op == (3 : Int))) ha ?_
 refine zzv (.bool (d.t.op == (3 : Int))) ?_; clear ha; intro a ha
 refine zn2 ?_
 refine zzh (d.t.op == (3 : Int)) ha ?_ ?_ <;> intro hb
 ·
  rw [hb] at ha; replace hb := eq_of_beq hb
  have hop := hb
  refine zn1 ?_
  refine zv (.slice A R.length ca) ha ?_
  refine zzv (.pointer (some ⟨g1, 1, none⟩)) ?_
  refine zzw (.string (str d.t.key)) (zl1 1 1) ?_
  refine zzv (.pointer (some ⟨g1, 2, none⟩)) ?_
  refine zzw (.string (str d.t.val)) (zl1 1 2) ?_
  refine zzv (.agg #[.string (str d.t.key), .string (str d.t.val)]) ?_; clear ha; intro a ha
  have hca : R.length ≤ ca := (Own.facts (s.at_ (j := 2) rfl).1).2.1
  refine zzc ha (rput_any W _ w A ca R (Knows.own (j := 2) rfl) hRn hca ⟨d.t.key, d.t.val⟩ s) ?_
  rintro _ w ⟨A12, c13, rfl, s⟩
  refine ⟨_, rfl, ?_⟩; clear ha; intro a ha
  refine zv (.slice A12 ((put R ⟨d.t.key, d.t.val⟩).length) c13) ha ?_
  refine zzv (.bool true) ?_; clear ha; intro a ha
  refine zn2 ?_
  refine wp_ret ?_
  refine block_ret ?_
  refine then_ret ?_
  refine ret_with (v := .tuple #[.slice A12 ((put R ⟨d.t.key, d.t.val⟩).length) c13, .bool true]) ha (results_2 rfl ha (res_tmp (by kernel_rfl) (by kernel_rfl)) (res_tmp (by kernel_rfl) (by kernel_rfl))) ?_
  replace s := s.k1_3
  rw [(show nextR R d.t = put R ⟨d.t.key, d.t.val⟩ from by unfold nextR; rw [if_pos hop]), well_none (by omega) (by omega)]
  exact ⟨_, _, rfl, s⟩
 rw [hb] at ha; replace hb := ne_of_beq_false hb
 have n3 := hb
 refine zn1 ?_
 refine zv (.bool (d.t.op == (4 : Int))) ha ?_
 refine zzv (.bool (d.t.op == (4 : Int))) ?_; clear ha; intro a ha
 refine zn2 ?_
 refine zzh (d.t.op == (4 : Int)) ha ?_ ?_ <;> intro hb
 ·
  rw [hb] at ha; replace hb := eq_of_beq hb
  have hop := hb
  refine zn1 ?_
  refine zv (.slice A R.length ca) ha ?_
  refine zzw (.agg #[.string (str d.t.key), .string (str (d.t.key ++ [0]))]) (zln 0 0) ?_; clear ha; intro a ha
  refine zzc ha (rwithout_any W _ w A ca R (Knows.own (j := 2) rfl) hRn d.t.key (d.t.key ++ [0]) s) ?_
  rintro _ w ⟨A14, c15, rfl, s⟩
  refine ⟨_, rfl, ?_⟩; clear ha; intro a ha
  refine zv (.slice A14 ((without R d.t.key (d.t.key ++ [0])).length) c15) ha ?_
  refine zzv (.bool true) ?_; clear ha; intro a ha
  refine zn2 ?_
  refine wp_ret ?_
  refine block_ret ?_
  refine then_ret ?_
  refine ret_with (v := .tuple #[.slice A14 ((without R d.t.key (d.t.key ++ [0])).length) c15, .bool true]) ha (results_2 rfl ha (res_tmp (by kernel_rfl) (by kernel_rfl)) (res_tmp (by kernel_rfl) (by kernel_rfl))) ?_
  replace s := s.k1_3
  rw [(show nextR R d.t = without R d.t.key (d.t.key ++ [0]) from by unfold nextR; rw [if_neg n3, if_pos hop, without_own]), well_none (by omega) (by omega)]
  exact ⟨_, _, rfl, s⟩
 rw [hb] at ha; replace hb := ne_of_beq_false hb
 have n4 := hb
 refine wp_skip ?_
 refine block_normal ?_
 refine then_normal ?_
 refine zn1 ?_
 refine zv (.slice A R.length ca) ha ?_
 refine zzv (.pointer (some ⟨g1, 3, none⟩)) ?_
 refine zzw (.agg #[.string (str d.t.frm), .string (str d.t.to)]) (zln 1 3) ?_; clear ha; intro a ha
 refine zzc ha (rwithout_any W _ w A ca R (Knows.own (j := 2) rfl) hRn d.t.frm d.t.to s) ?_
 rintro _ w ⟨A16, c17, rfl, s⟩
 refine ⟨_, rfl, ?_⟩; clear ha; intro a ha
 refine zv (.slice A16 ((without R d.t.frm d.t.to).length) c17) ha ?_
 refine zzv (.bool true) ?_; clear ha; intro a ha
 refine zn2 ?_
 refine wp_ret ?_
 refine ret_with (v := .tuple #[.slice A16 ((without R d.t.frm d.t.to).length) c17, .bool true]) ha (results_2 rfl ha (res_tmp (by kernel_rfl) (by kernel_rfl)) (res_tmp (by kernel_rfl) (by kernel_rfl))) ?_
 replace s := s.k1_3
 rw [(next_5 hok n1 n2 n3 n4), well_none (by omega) (by omega)]
 exact ⟨_, _, rfl, s⟩

set_option maxRecDepth 100000 in
set_option maxHeartbeats 2000000 in
theorem rplay_ok (W : World) (L : List Chunk) (w : World) (A : Option Addr) (ca : Nat) (ds : List Dn) (hr : Knows L (DonesIn A ds)) (hn : Bn ds) (h0 : code (tns ds) = 0) (s : St W L w) :
  Calls Tryz.prog 51 #[.slice A ds.length ca] w fun e w' => ∃ D c o, e = .returned (.tuple #[.int .i64 ((fst (found (tns ds) o) : Nat) : Int), .int .i64 ((snd (found (tns ds) o) : Nat) : Int), .bool (found (tns ds) o).isSome, .slice D (rowsOf (tns ds) o).length c, .int .i64 0]) ∧ IsOrd (tns ds) o ∧ St W (Own 115 2 D (rowsOf (tns ds) o).length c (rws (rowsOf (tns ds) o)) :: L) w' := by
 have hpost := order_post h0
 refine enter_args (l := [.slice A ds.length ca]) Tryz.func51 rfl rfl (Nat.le_of_ble_eq_true rfl) ?_
 intro a ha; replace ha : Has a 72 [(0, .slice A ds.length ca)] := ha
 refine zn1 ?_
 refine zv (.int .i64 0) ha ?_
 refine zzv (.int .i64 0) ?_
 refine zzv (.bool false) ?_
 refine zzv (.slice none 0 0) ?_
 refine zzv (.int .i64 0) ?_; clear ha; intro a ha
 refine zn4 ?_
 refine zv (.slice A ds.length ca) ha ?_; clear ha; intro a ha
 refine zzc ha (rorder_ok W _ w A ca ds (fun w s => hr w s) hn h0 s) ?_
 rintro _ w ⟨B, cB, o, rfl, ho, s⟩
 have hol : o.length = ds.length := by have := ho.length; simpa using this
 refine ⟨_, rfl, ?_⟩; clear ha; intro a ha
 refine zv (.tuple #[.slice B ds.length cB, .int .i64 0]) ha ?_
 refine zzv (.slice B ds.length cB) ?_
 refine zzv (.int .i64 0) ?_
 refine zzv (.slice B ds.length cB) ?_
 refine zzv (.int .i64 0) ?_; clear ha; intro a ha
 refine zn2 ?_
 refine wp_seq ?_
 refine zn1 ?_
 refine zv (.int .i64 0) ha ?_
 refine zzv (.bool false) ?_; clear ha; intro a ha
 refine zn2 ?_
 refine wp_false ha rfl (by kernel_rfl) ?_
 refine wp_skip ?_
 refine then_normal ?_
 refine zn1 ?_
 refine zv (.slice none 0 0) ha ?_; clear ha; intro a ha
 refine zn4 ?_
 refine zv (.int .i64 0) ha ?_
 refine zzv (.int .i64 0) ?_
 refine zzv (.bool false) ?_; clear ha; intro a ha
 refine zn2 ?_
 refine wp_seq ?_
 refine zn1 ?_
 refine zv (.int .i64 0) ha ?_; clear ha; intro a ha
 refine zn2 ?_
 refine wp_block ?_
 replace s := Own.none_ (e := 115) (k := 2) none s
 replace s := s.at_ (j := 1) rfl
 dsimp only [List.eraseIdx] at s
 refine wp_loopG (G := (Nat × Option Addr × Nat)) (fun ⟨k, D, cD⟩ a w => Has a 72 [(0, .slice A ds.length ca), (7, .slice B ds.length cB), (9, .slice D ((left [] (things (tns ds) (o.take k))).length) cD), (10, .int .i64 ((fst (first [] (things (tns ds) (o.take k))) : Nat) : Int)), (11, .int .i64 ((snd (first [] (things (tns ds) (o.take k))) : Nat) : Int)), (12, .bool ((first [] (things (tns ds) (o.take k))).isSome)), (13, .int .i64 ((k : Nat) : Int))] ∧ St W (Own 3 1 B ds.length cB (nats o) :: Own 115 2 D ((left [] (things (tns ds) (o.take k))).length) cD (rws (left [] (things (tns ds) (o.take k)))) :: L) w ∧ k ≤ ds.length) (fun ⟨k, D, cD⟩ => ds.length - k) (0, none, 0) ?_ ?_
 ·
  exact ⟨(Has.cons ha (by kernel_rfl) (by kernel_rfl) (Has.cons ha (by kernel_rfl) (by kernel_rfl) (Has.cons ha (by kernel_rfl) (by kernel_rfl) (Has.cons ha (by kernel_rfl) (by kernel_rfl) (Has.cons ha (by kernel_rfl) (by kernel_rfl) (Has.cons ha (by kernel_rfl) (by kernel_rfl) (Has.cons ha (by kernel_rfl) (by kernel_rfl) (Has.nil ha)))))))), s, Nat.zero_le _⟩
 clear ha s; rintro ⟨k, D, cD⟩ a w ⟨ha, s, hp⟩
 refine wp_seq ?_
 refine zn1 ?_
 refine zv (.int .i64 ((k : Nat) : Int)) ha ?_
 refine zzv (.slice B ds.length cB) ?_
 refine zzv (.int .i64 ((ds.length : Nat) : Int)) ?_
 refine zzv (.bool (decide (((k : Nat) : Int) < ((ds.length : Nat) : Int)))) ?_; clear ha; intro a ha
 refine zn2 ?_
 refine zzh (decide (((k : Nat) : Int) < ((ds.length : Nat) : Int))) ha ?_ ?_ <;> intro hb
 ·
  rw [hb] at ha; replace hb : (((k : Nat) : Int) < ((ds.length : Nat) : Int)) := of_decide_eq_true hb
  obtain ⟨i, hi⟩ : ∃ i, o[k]? = some i := ⟨_, List.getElem?_eq_getElem (by omega)⟩
  have hil : i < ds.length := by have := ho.lt (List.mem_of_getElem? hi); simpa using this
  obtain ⟨d, hd⟩ : ∃ d, ds[i]? = some d := ⟨_, List.getElem?_eq_getElem hil⟩
  have hdl := (hn.row hd).1
  obtain ⟨ab, hB⟩ := Own.addr (s.at_ (j := 0) rfl) (by omega)
  subst hB
  obtain ⟨ad, hA⟩ := Reads.addr (hr _ s.sat.tail.tail).1 (by omega)
  subst hA
  refine wp_skip ?_
  refine then_normal ?_
  refine wp_seq ?_
  refine wp_block ?_
  refine zn1 ?_
  refine zv (.slice (some ad) ds.length ca) ha ?_
  refine zzv (.slice (some ab) ds.length cB) ?_
  refine zzv (.int .i64 ((k : Nat) : Int)) ?_
  refine zzw (.pointer (some (ab.add (k * 1)))) (run_indexAddr' (kd := .i64) (i := ((k : Nat) : Int)) (n := ds.length) (c := cB) k rfl Tryz.underlying54 Tryz.sizeOf3 (by kernel_rfl) (by kernel_rfl) rfl (by first | assumption | omega) _) ?_
  refine zzw (.int .i64 ((i : Nat) : Int)) (run_loadRow1 (m := k) ((Own.reads (s.at_ (j := 0) rfl).1)) rfl (by kernel_rfl) Tryz.isAgg3 (nats_at hi)) ?_
  refine zzw (.pointer (some (ad.add (i * 4)))) (run_indexAddr' (kd := .i64) (i := ((i : Nat) : Int)) (n := ds.length) (c := ca) i rfl Tryz.underlying58 Tryz.sizeOf97 (by kernel_rfl) (by kernel_rfl) rfl (by first | assumption | omega) _) ?_
  refine zzw (.agg (nv d).toArray) (run_loadAtN (i := i * 4) (nv d) ((hr _ s.sat.tail.tail).1) rfl (by kernel_rfl) Tryz.isAgg97 Tryz.sizeOf97 (fun q_ hq_ => nvs_at hd hq_) rfl) ?_; clear ha; intro a ha
  refine zze ha (ex_alloc [.int .i64 0, .int .i64 0, .int .i64 0, .slice none 0 0] s rfl (Tryz.zeroValue97 _) (by kernel_rfl)) ?_
  clear ha; rintro _ w a ⟨g1, rfl, s⟩ ha
  refine zzd ha (ex_store (of_ := 0) 0 (nv d) s rfl rfl (by kernel_rfl) (by kernel_rfl) (Tryz.sizeOf97 _) rfl (by simp [Value.oneCell']) (Nat.le_of_ble_eq_true rfl)) ?_
  clear ha; rintro w a s ha
  dsimp only [List.set, putAt] at s
  refine zn4 ?_
  refine zv (.int .i64 0) ha ?_; clear ha; intro a ha
  refine zn2 ?_
  refine wp_block ?_
  replace s := (s.at_ (j := 2) rfl).at_ (j := 2) rfl
  dsimp only [List.eraseIdx] at s
  rw [← upTo_zero (tns ds) o k i] at s ha
  refine wp_loopG (G := (Nat × Option Addr × Nat)) (fun ⟨j, D, cD⟩ a w => Has a 72 [(0, .slice (some ad) ds.length ca), (7, .slice (some ab) ds.length cB), (9, .slice D ((left [] (upTo (tns ds) o k i j)).length) cD), (10, .int .i64 ((fst (first [] (upTo (tns ds) o k i j)) : Nat) : Int)), (11, .int .i64 ((snd (first [] (upTo (tns ds) o k i j)) : Nat) : Int)), (12, .bool ((first [] (upTo (tns ds) o k i j)).isSome)), (13, .int .i64 ((k : Nat) : Int)), (14, .pointer (some ⟨g1, 0, none⟩)), (15, .int .i64 ((j : Nat) : Int))] ∧ St W (Own 3 1 (some ab) ds.length cB (nats o) :: Own 115 2 D ((left [] (upTo (tns ds) o k i j)).length) cD (rws (left [] (upTo (tns ds) o k i j))) :: .blk g1 (nv d) 97 :: L) w ∧ j ≤ d.l.length) (fun ⟨j, D, cD⟩ => d.l.length - j) (0, D, cD) ?_ ?_
  ·
   exact ⟨(Has.cons ha (by kernel_rfl) (by kernel_rfl) (Has.cons ha (by kernel_rfl) (by kernel_rfl) (Has.cons ha (by kernel_rfl) (by kernel_rfl) (Has.cons ha (by kernel_rfl) (by kernel_rfl) (Has.cons ha (by kernel_rfl) (by kernel_rfl) (Has.cons ha (by kernel_rfl) (by kernel_rfl) (Has.cons ha (by kernel_rfl) (by kernel_rfl) (Has.cons ha (by kernel_rfl) (by kernel_rfl) (Has.cons ha (by kernel_rfl) (by kernel_rfl) (Has.nil ha)))))))))), s, Nat.zero_le _⟩
  clear ha s; rintro ⟨j, D, cD⟩ a w ⟨ha, s, hp⟩
  refine wp_seq ?_
  refine zn1 ?_
  refine zv (.int .i64 ((j : Nat) : Int)) ha ?_
  refine zzv (.pointer (some ⟨g1, 3, none⟩)) ?_
  refine zzw (.slice d.A d.l.length d.c) (zl1 2 3) ?_
  refine zzv (.int .i64 ((d.l.length : Nat) : Int)) ?_
  refine zzv (.bool (decide (((j : Nat) : Int) < ((d.l.length : Nat) : Int)))) ?_; clear ha; intro a ha
  refine zn2 ?_
  refine zzh (decide (((j : Nat) : Int) < ((d.l.length : Nat) : Int))) ha ?_ ?_ <;> intro hb
  ·
   rw [hb] at ha; replace hb : (((j : Nat) : Int) < ((d.l.length : Nat) : Int)) := of_decide_eq_true hb
   obtain ⟨x, hx⟩ : ∃ x, d.l[j]? = some x := ⟨_, List.getElem?_eq_getElem (by omega)⟩
   obtain ⟨al, hAl⟩ : ∃ al, d.A = some al := Reads.addr ((hr _ s.sat.tail.tail.tail).row hd).1 (by omega)
   have hokx : okT x.t := (hpost.2.2.1.1 d.t (List.mem_of_getElem? (tns_at hd))).2.2 x.t (List.mem_map.2 ⟨x, List.mem_of_getElem? hx, rfl⟩)
   refine wp_skip ?_
   refine then_normal ?_
   refine wp_seq ?_
   refine wp_block ?_
   refine zn1 ?_
   refine zv (.slice D ((left [] (upTo (tns ds) o k i j)).length) cD) ha ?_
   refine zzv (.pointer (some ⟨g1, 3, none⟩)) ?_
   refine zzw (.slice d.A d.l.length d.c) (zl1 2 3) ?_
   refine zzv (.int .i64 ((j : Nat) : Int)) ?_
   refine zzw (.pointer (some (al.add (j * 7)))) (run_indexAddr' (kd := .i64) (i := ((j : Nat) : Int)) (n := d.l.length) (c := d.c) j rfl Tryz.underlying95 Tryz.sizeOf99 (by rw [← hAl]; kernel_rfl) (by kernel_rfl) rfl (by first | assumption | omega) _) ?_
   refine zzw (.agg (dv x).toArray) (run_loadAtN (i := j * 7) (dv x) ((hAl ▸ ((hr _ s.sat.tail.tail.tail).row hd).1)) rfl (by kernel_rfl) Tryz.isAgg99 Tryz.sizeOf99 (fun q_ hq_ => dvs_at hx hq_) rfl) ?_; clear ha; intro a ha
   replace s := s.at_ (j := 1) rfl
   dsimp only [List.eraseIdx] at s
   refine zzc ha (one_any W _ w D cD (left [] (upTo (tns ds) o k i j)) (left_up List.Pairwise.nil _) (run_left_le ho hpost.2.2.2 hi) x (fun w s => ((hr _ s.tail.tail).row hd).row hx) (((hn.row hd).row hx).1) (((hn.row hd).row hx).2) hokx s) ?_
   rintro _ w ⟨A2, c3, rfl, s⟩
   refine ⟨_, rfl, ?_⟩; clear ha; intro a ha
   refine zv (.tuple #[.slice A2 ((nextR (left [] (upTo (tns ds) o k i j)) x.t).length) c3, .bool (isWell (left [] (upTo (tns ds) o k i j)) x.t)]) ha ?_
   refine zzv (.slice A2 ((nextR (left [] (upTo (tns ds) o k i j)) x.t).length) c3) ?_
   refine zzv (.bool (isWell (left [] (upTo (tns ds) o k i j)) x.t)) ?_
   refine zzv (.slice A2 ((nextR (left [] (upTo (tns ds) o k i j)) x.t).length) c3) ?_
   refine zzv (.bool (isWell (left [] (upTo (tns ds) o k i j)) x.t)) ?_; clear ha; intro a ha
   refine zn2 ?_
   refine wp_seq ?_
   refine zn1 ?_
   refine zv (.bool (isWell (left [] (upTo (tns ds) o k i j)) x.t)) ha ?_
   refine zzv (.bool (!(isWell (left [] (upTo (tns ds) o k i j)) x.t))) ?_
   refine zzv (.bool (!(isWell (left [] (upTo (tns ds) o k i j)) x.t))) ?_; clear ha; intro a ha
   rcases Bool.eq_false_or_eq_true (!(isWell (left [] (upTo (tns ds) o k i j)) x.t)) with hb | hb
   ·
    rw [hb] at ha; skip
    have hwl : isWell (left [] (upTo (tns ds) o k i j)) x.t = false := by simpa using hb
    refine zv (.bool ((first [] (upTo (tns ds) o k i j)).isSome)) ha ?_
    refine zzv (.bool (!((first [] (upTo (tns ds) o k i j)).isSome))) ?_
    refine zzv (.bool (!((first [] (upTo (tns ds) o k i j)).isSome))) ?_; clear ha; intro a ha
    refine zn2 ?_
    refine zzh (!((first [] (upTo (tns ds) o k i j)).isSome)) ha ?_ ?_ <;> intro hb
    ·
     rw [hb] at ha; skip
     have hso : (first [] (upTo (tns ds) o k i j)).isSome = false := by simpa using hb
     refine zn1 ?_
     refine zv (.slice (some ab) ds.length cB) ha ?_
     refine zzv (.int .i64 ((k : Nat) : Int)) ?_
     refine zzw (.pointer (some (ab.add (k * 1)))) (run_indexAddr' (kd := .i64) (i := ((k : Nat) : Int)) (n := ds.length) (c := cB) k rfl Tryz.underlying54 Tryz.sizeOf3 (by kernel_rfl) (by kernel_rfl) rfl (by first | assumption | omega) _) ?_
     refine zzw (.int .i64 ((i : Nat) : Int)) (run_loadRow1 (m := k) ((Own.reads (s.at_ (j := 1) rfl).1)) rfl (by kernel_rfl) Tryz.isAgg3 (nats_at hi)) ?_
     refine zzv (.int .i64 ((i : Nat) : Int)) ?_; clear ha; intro a ha
     refine zn4 ?_
     refine zv (.int .i64 ((j : Nat) : Int)) ha ?_
     refine zzv (.int .i64 ((j : Nat) : Int)) ?_; clear ha; intro a ha
     refine zn3 ?_
     refine zv (.bool true) ha ?_; clear ha; intro a ha
     refine zn3 ?_
     refine zv (.slice A2 ((nextR (left [] (upTo (tns ds) o k i j)) x.t).length) c3) ha ?_
     refine zzv (.slice A2 ((nextR (left [] (upTo (tns ds) o k i j)) x.t).length) c3) ?_; clear ha; intro a ha
     refine wpList_nil ?_
     refine block_normal ?_
     refine then_normal ?_
     refine wp_region_lit ?_
     refine zv (.int .i64 ((j : Nat) : Int)) ha ?_
     refine zzw (.int .i64 ((j + 1 : Nat) : Int)) zar ?_
     refine zzv (.int .i64 ((j + 1 : Nat) : Int)) ?_; clear ha; intro a ha
     refine zn2 ?_
     replace s := ((s.at_ (j := 2) rfl).at_ (j := 1) rfl).at_ (j := 2) rfl
     dsimp only [List.eraseIdx] at s
     have hsn := upTo_snoc (o := o) (k := k) (tl_at hd hx)
     have hls : left [] (upTo (tns ds) o k i (j + 1)) = nextR (left [] (upTo (tns ds) o k i j)) x.t := by rw [hsn, left_snoc]
     rw [← hls] at s
     have hfs : (first [] (upTo (tns ds) o k i (j + 1))) = (some (i, j) : Option (Nat × Nat)) := by rw [hsn, first_snoc]; simp only [hwl]; exact none_or hso _
     exact ⟨(j + 1, A2, c3), (show d.l.length - (j + 1) < d.l.length - j by omega), (Has.cons ha (by kernel_rfl) (by kernel_rfl) (Has.cons ha (by kernel_rfl) (by kernel_rfl) (Has.cons ha (by kernel_rfl) (Eq.trans (b := .slice A2 (nextR (left [] (upTo (tns ds) o k i j)) x.t).length c3) (by kernel_rfl) (by rw [hls])) (Has.cons ha (by kernel_rfl) (Eq.trans (b := .int .i64 ((i : Nat) : Int)) (by kernel_rfl) (by rw [hfs]; rfl)) (Has.cons ha (by kernel_rfl) (Eq.trans (b := .int .i64 ((j : Nat) : Int)) (by kernel_rfl) (by rw [hfs]; rfl)) (Has.cons ha (by kernel_rfl) (Eq.trans (b := .bool true) (by kernel_rfl) (by rw [hfs]; rfl)) (Has.cons ha (by kernel_rfl) (by kernel_rfl) (Has.cons ha (by kernel_rfl) (by kernel_rfl) (Has.cons ha (by kernel_rfl) (by kernel_rfl) (Has.nil ha)))))))))), s, (show j + 1 ≤ d.l.length by omega)⟩
    rw [hb] at ha; skip
    have hso : (first [] (upTo (tns ds) o k i j)).isSome = true := by simpa using hb
    refine wp_skip ?_
    refine then_normal ?_
    refine wp_region_lit ?_
    refine zv (.slice A2 ((nextR (left [] (upTo (tns ds) o k i j)) x.t).length) c3) ha ?_
    refine zzv (.slice A2 ((nextR (left [] (upTo (tns ds) o k i j)) x.t).length) c3) ?_; clear ha; intro a ha
    refine wpList_nil ?_
    refine block_normal ?_
    refine then_normal ?_
    refine wp_region_lit ?_
    refine zv (.int .i64 ((j : Nat) : Int)) ha ?_
    refine zzw (.int .i64 ((j + 1 : Nat) : Int)) zar ?_
    refine zzv (.int .i64 ((j + 1 : Nat) : Int)) ?_; clear ha; intro a ha
    refine zn2 ?_
    replace s := ((s.at_ (j := 2) rfl).at_ (j := 1) rfl).at_ (j := 2) rfl
    dsimp only [List.eraseIdx] at s
    have hsn := upTo_snoc (o := o) (k := k) (tl_at hd hx)
    have hls : left [] (upTo (tns ds) o k i (j + 1)) = nextR (left [] (upTo (tns ds) o k i j)) x.t := by rw [hsn, left_snoc]
    rw [← hls] at s
    have hfs : (first [] (upTo (tns ds) o k i (j + 1))) = (first [] (upTo (tns ds) o k i j)) := by rw [hsn, first_snoc]; simp only [hwl]; exact some_or hso _
    exact ⟨(j + 1, A2, c3), (show d.l.length - (j + 1) < d.l.length - j by omega), (Has.cons ha (by kernel_rfl) (by kernel_rfl) (Has.cons ha (by kernel_rfl) (by kernel_rfl) (Has.cons ha (by kernel_rfl) (Eq.trans (b := .slice A2 (nextR (left [] (upTo (tns ds) o k i j)) x.t).length c3) (by kernel_rfl) (by rw [hls])) (Has.cons ha (by kernel_rfl) (Eq.trans (b := .int .i64 ((fst (first [] (upTo (tns ds) o k i j)) : Nat) : Int)) (by kernel_rfl) (by rw [hfs])) (Has.cons ha (by kernel_rfl) (Eq.trans (b := .int .i64 ((snd (first [] (upTo (tns ds) o k i j)) : Nat) : Int)) (by kernel_rfl) (by rw [hfs])) (Has.cons ha (by kernel_rfl) (Eq.trans (b := .bool (first [] (upTo (tns ds) o k i j)).isSome) (by kernel_rfl) (by rw [hfs])) (Has.cons ha (by kernel_rfl) (by kernel_rfl) (Has.cons ha (by kernel_rfl) (by kernel_rfl) (Has.cons ha (by kernel_rfl) (by kernel_rfl) (Has.nil ha)))))))))), s, (show j + 1 ≤ d.l.length by omega)⟩
   rw [hb] at ha; skip
   have hwl : isWell (left [] (upTo (tns ds) o k i j)) x.t = true := by simpa using hb
   refine zp ha ?_
   refine zzp ?_
   refine zzv (.bool false) ?_; clear ha; intro a ha
   refine zn2 ?_
   refine wp_false ha rfl (by kernel_rfl) ?_
   refine wp_skip ?_
   refine then_normal ?_
   refine wp_region_lit ?_
   refine zv (.slice A2 ((nextR (left [] (upTo (tns ds) o k i j)) x.t).length) c3) ha ?_
   refine zzv (.slice A2 ((nextR (left [] (upTo (tns ds) o k i j)) x.t).length) c3) ?_; clear ha; intro a ha
   refine wpList_nil ?_
   refine block_normal ?_
   refine then_normal ?_
   refine wp_region_lit ?_
   refine zv (.int .i64 ((j : Nat) : Int)) ha ?_
   refine zzw (.int .i64 ((j + 1 : Nat) : Int)) zar ?_
   refine zzv (.int .i64 ((j + 1 : Nat) : Int)) ?_; clear ha; intro a ha
   refine zn2 ?_
   replace s := ((s.at_ (j := 2) rfl).at_ (j := 1) rfl).at_ (j := 2) rfl
   dsimp only [List.eraseIdx] at s
   have hsn := upTo_snoc (o := o) (k := k) (tl_at hd hx)
   have hls : left [] (upTo (tns ds) o k i (j + 1)) = nextR (left [] (upTo (tns ds) o k i j)) x.t := by rw [hsn, left_snoc]
   rw [← hls] at s
   have hfs : (first [] (upTo (tns ds) o k i (j + 1))) = (first [] (upTo (tns ds) o k i j)) := by rw [hsn, first_snoc]; simp only [hwl, if_true]; simp
   exact ⟨(j + 1, A2, c3), (show d.l.length - (j + 1) < d.l.length - j by omega), (Has.cons ha (by kernel_rfl) (by kernel_rfl) (Has.cons ha (by kernel_rfl) (by kernel_rfl) (Has.cons ha (by kernel_rfl) (Eq.trans (b := .slice A2 (nextR (left [] (upTo (tns ds) o k i j)) x.t).length c3) (by kernel_rfl) (by rw [hls])) (Has.cons ha (by kernel_rfl) (Eq.trans (b := .int .i64 ((fst (first [] (upTo (tns ds) o k i j)) : Nat) : Int)) (by kernel_rfl) (by rw [hfs])) (Has.cons ha (by kernel_rfl) (Eq.trans (b := .int .i64 ((snd (first [] (upTo (tns ds) o k i j)) : Nat) : Int)) (by kernel_rfl) (by rw [hfs])) (Has.cons ha (by kernel_rfl) (Eq.trans (b := .bool (first [] (upTo (tns ds) o k i j)).isSome) (by kernel_rfl) (by rw [hfs])) (Has.cons ha (by kernel_rfl) (by kernel_rfl) (Has.cons ha (by kernel_rfl) (by kernel_rfl) (Has.cons ha (by kernel_rfl) (by kernel_rfl) (Has.nil ha)))))))))), s, (show j + 1 ≤ d.l.length by omega)⟩
  rw [hb] at ha; replace hb : ¬ (((j : Nat) : Int) < ((d.l.length : Nat) : Int)) := of_decide_eq_false hb
  refine wp_exit ?_
  refine then_exit ?_
  refine then_exit ?_
  refine block_hit ?_
  refine block_normal ?_
  refine then_normal ?_
  refine wp_region_lit ?_
  refine zv (.int .i64 ((k : Nat) : Int)) ha ?_
  refine zzw (.int .i64 ((k + 1 : Nat) : Int)) zar ?_
  refine zzv (.int .i64 ((k + 1 : Nat) : Int)) ?_; clear ha; intro a ha
  refine zn2 ?_
  replace s := s.k2_1
  have hjl : j = d.l.length := by omega
  rw [hjl, ← tl_len hd, upTo_all hi] at s ha
  exact ⟨(k + 1, D, cD), (show ds.length - (k + 1) < ds.length - k by omega), (Has.cons ha (by kernel_rfl) (by kernel_rfl) (Has.cons ha (by kernel_rfl) (by kernel_rfl) (Has.cons ha (by kernel_rfl) (by kernel_rfl) (Has.cons ha (by kernel_rfl) (by kernel_rfl) (Has.cons ha (by kernel_rfl) (by kernel_rfl) (Has.cons ha (by kernel_rfl) (by kernel_rfl) (Has.cons ha (by kernel_rfl) (by kernel_rfl) (Has.nil ha)))))))), s, (show k + 1 ≤ ds.length by omega)⟩
 rw [hb] at ha; replace hb : ¬ (((k : Nat) : Int) < ((ds.length : Nat) : Int)) := of_decide_eq_false hb
 have hk : k = ds.length := by omega
 refine wp_exit ?_
 refine then_exit ?_
 refine then_exit ?_
 refine block_hit ?_
 refine then_normal ?_
 refine zn1 ?_
 refine zv (.int .i64 ((fst (first [] (things (tns ds) (o.take k))) : Nat) : Int)) ha ?_
 refine zzv (.int .i64 ((snd (first [] (things (tns ds) (o.take k))) : Nat) : Int)) ?_
 refine zzv (.bool ((first [] (things (tns ds) (o.take k))).isSome)) ?_
 refine zzv (.slice D ((left [] (things (tns ds) (o.take k))).length) cD) ?_
 refine zzv (.int .i64 ((fst (first [] (things (tns ds) (o.take k))) : Nat) : Int)) ?_
 refine zzv (.int .i64 ((snd (first [] (things (tns ds) (o.take k))) : Nat) : Int)) ?_
 refine zzv (.bool ((first [] (things (tns ds) (o.take k))).isSome)) ?_
 refine zzv (.slice D ((left [] (things (tns ds) (o.take k))).length) cD) ?_
 refine zzv (.int .i64 0) ?_; clear ha; intro a ha
 refine zn2 ?_
 refine wp_ret ?_
 refine ret_with (v := .tuple #[.int .i64 ((fst (first [] (things (tns ds) (o.take k))) : Nat) : Int), .int .i64 ((snd (first [] (things (tns ds) (o.take k))) : Nat) : Int), .bool ((first [] (things (tns ds) (o.take k))).isSome), .slice D ((left [] (things (tns ds) (o.take k))).length) cD, .int .i64 0]) ha (results_5 rfl ha (res_tmp (by kernel_rfl) (by kernel_rfl)) (res_tmp (by kernel_rfl) (by kernel_rfl)) (res_tmp (by kernel_rfl) (by kernel_rfl)) (res_tmp (by kernel_rfl) (by kernel_rfl)) (res_tmp (by kernel_rfl) (by kernel_rfl))) ?_
 replace s := s.at_ (j := 1) rfl
 replace s := s.k1_1
 unfold found rowsOf
 rw [hk, ← hol, List.take_length] at s
 rw [hk, ← hol, List.take_length]
 exact ⟨_, _, o, rfl, ho, s⟩

theorem rplay_no (W : World) (L : List Chunk) (w : World) (A : Option Addr) (ca : Nat) (ds : List Dn) (hr : Knows L (DonesIn A ds)) (hn : Bn ds) (h0 : code (tns ds) ≠ 0) (s : St W L w) :
  Calls Tryz.prog 51 #[.slice A ds.length ca] w fun e w' => e = .returned (.tuple #[.int .i64 0, .int .i64 0, .bool false, .slice none 0 0, .int .i64 (code (tns ds))]) ∧ St W L w' := by
 refine enter_args (l := [.slice A ds.length ca]) Tryz.func51 rfl rfl (Nat.le_of_ble_eq_true rfl) ?_
 intro a ha; replace ha : Has a 72 [(0, .slice A ds.length ca)] := ha
 refine zn1 ?_
 refine zv (.int .i64 0) ha ?_
 refine zzv (.int .i64 0) ?_
 refine zzv (.bool false) ?_
 refine zzv (.slice none 0 0) ?_
 refine zzv (.int .i64 0) ?_; clear ha; intro a ha
 refine zn4 ?_
 refine zv (.slice A ds.length ca) ha ?_; clear ha; intro a ha
 refine zzc ha (rorder_no W _ w A ca ds (fun w s => hr w s) hn h0 s) ?_
 rintro _ w ⟨rfl, s⟩
 replace s : St W (L) w := s
 refine ⟨_, rfl, ?_⟩; clear ha; intro a ha
 refine zv (.tuple #[.slice none 0 0, .int .i64 (code (tns ds))]) ha ?_
 refine zzv (.slice none 0 0) ?_
 refine zzv (.int .i64 (code (tns ds))) ?_
 refine zzv (.slice none 0 0) ?_
 refine zzv (.int .i64 (code (tns ds))) ?_; clear ha; intro a ha
 refine zn2 ?_
 refine wp_seq ?_
 refine zn1 ?_
 refine zv (.int .i64 (code (tns ds))) ha ?_
 refine zzw (.bool true) (run_known (show ((code (tns ds)) != (0 : Int)) = true from bne_iff_ne.2 (by omega)) (by kernel_rfl)) ?_; clear ha; intro a ha
 refine zn2 ?_
 refine wp_true ha rfl (by kernel_rfl) ?_
 refine zn1 ?_
 refine zv (.int .i64 (code (tns ds))) ha ?_
 refine zzv (.int .i64 0) ?_
 refine zzv (.int .i64 0) ?_
 refine zzv (.bool false) ?_
 refine zzv (.slice none 0 0) ?_
 refine zzv (.int .i64 (code (tns ds))) ?_; clear ha; intro a ha
 refine zn2 ?_
 refine zzt ?_
 refine ret_with (v := .tuple #[.int .i64 0, .int .i64 0, .bool false, .slice none 0 0, .int .i64 (code (tns ds))]) ha (results_5 rfl ha (res_tmp (by kernel_rfl) (by kernel_rfl)) (res_tmp (by kernel_rfl) (by kernel_rfl)) (res_tmp (by kernel_rfl) (by kernel_rfl)) (res_tmp (by kernel_rfl) (by kernel_rfl)) (res_tmp (by kernel_rfl) (by kernel_rfl))) ?_
 exact ⟨rfl, s⟩

theorem rcheckT_ok (W : World) (L : List Chunk) (w : World) (A : Option Addr) (ca : Nat) (ds : List Dn) (hr : Knows L (DonesIn A ds)) (hn : Bn ds) (h0 : code (tns ds) = 0) (s : St W L w) :
  Calls Tryz.prog 28 #[.slice A ds.length ca] w fun e w' => ∃ o, e = .returned (.tuple #[.int .i64 ((fst (found (tns ds) o) : Nat) : Int), .int .i64 ((snd (found (tns ds) o) : Nat) : Int), .bool (found (tns ds) o).isSome, .int .i64 0]) ∧ IsOrd (tns ds) o ∧ St W L w' := by
 refine enter_args (l := [.slice A ds.length ca]) Tryz.func28 rfl rfl (Nat.le_of_ble_eq_true rfl) ?_
 intro a ha; replace ha : Has a 23 [(0, .slice A ds.length ca)] := ha
 refine zn1 ?_
 refine zv (.int .i64 0) ha ?_
 refine zzv (.int .i64 0) ?_
 refine zzv (.bool false) ?_
 refine zzv (.int .i64 0) ?_; clear ha; intro a ha
 refine zn4 ?_
 refine zv (.slice A ds.length ca) ha ?_; clear ha; intro a ha
 refine zzc ha (rplay_ok W _ w A ca ds (fun w s => hr w s) hn h0 s) ?_
 rintro _ w ⟨D, cD, o, rfl, ho, s⟩
 refine ⟨_, rfl, ?_⟩; clear ha; intro a ha
 refine zv (.tuple #[.int .i64 ((fst (found (tns ds) o) : Nat) : Int), .int .i64 ((snd (found (tns ds) o) : Nat) : Int), .bool ((found (tns ds) o).isSome), .slice D ((rowsOf (tns ds) o).length) cD, .int .i64 0]) ha ?_
 refine zzv (.int .i64 ((fst (found (tns ds) o) : Nat) : Int)) ?_
 refine zzv (.int .i64 ((snd (found (tns ds) o) : Nat) : Int)) ?_
 refine zzv (.bool ((found (tns ds) o).isSome)) ?_
 refine zzv (.slice D ((rowsOf (tns ds) o).length) cD) ?_
 refine zzv (.int .i64 0) ?_
 refine zzv (.int .i64 ((fst (found (tns ds) o) : Nat) : Int)) ?_
 refine zzv (.int .i64 ((snd (found (tns ds) o) : Nat) : Int)) ?_
 refine zzv (.bool ((found (tns ds) o).isSome)) ?_
 refine zzv (.slice D ((rowsOf (tns ds) o).length) cD) ?_
 refine zzv (.int .i64 0) ?_; clear ha; intro a ha
 refine zn4 ?_
 refine zv (.int .i64 ((fst (found (tns ds) o) : Nat) : Int)) ha ?_
 refine zzv (.int .i64 ((snd (found (tns ds) o) : Nat) : Int)) ?_
 refine zzv (.bool ((found (tns ds) o).isSome)) ?_
 refine zzv (.int .i64 0) ?_
 refine zzv (.int .i64 ((fst (found (tns ds) o) : Nat) : Int)) ?_
 refine zzv (.int .i64 ((snd (found (tns ds) o) : Nat) : Int)) ?_
 refine zzv (.bool ((found (tns ds) o).isSome)) ?_
 refine zzv (.int .i64 0) ?_; clear ha; intro a ha
 refine zn2 ?_
 refine wp_ret ?_
 refine ret_with (v := .tuple #[.int .i64 ((fst (found (tns ds) o) : Nat) : Int), .int .i64 ((snd (found (tns ds) o) : Nat) : Int), .bool ((found (tns ds) o).isSome), .int .i64 0]) ha (results_4 rfl ha (res_tmp (by kernel_rfl) (by kernel_rfl)) (res_tmp (by kernel_rfl) (by kernel_rfl)) (res_tmp (by kernel_rfl) (by kernel_rfl)) (res_tmp (by kernel_rfl) (by kernel_rfl))) ?_
 replace s := s.tail
 replace s : St W (L) w := s
 exact ⟨o, rfl, ho, s⟩

theorem rcheckT_no (W : World) (L : List Chunk) (w : World) (A : Option Addr) (ca : Nat) (ds : List Dn) (hr : Knows L (DonesIn A ds)) (hn : Bn ds) (h0 : code (tns ds) ≠ 0) (s : St W L w) :
  Calls Tryz.prog 28 #[.slice A ds.length ca] w fun e w' => e = .returned (.tuple #[.int .i64 0, .int .i64 0, .bool false, .int .i64 (code (tns ds))]) ∧ St W L w' := by
 refine enter_args (l := [.slice A ds.length ca]) Tryz.func28 rfl rfl (Nat.le_of_ble_eq_true rfl) ?_
 intro a ha; replace ha : Has a 23 [(0, .slice A ds.length ca)] := ha
 refine zn1 ?_
 refine zv (.int .i64 0) ha ?_
 refine zzv (.int .i64 0) ?_
 refine zzv (.bool false) ?_
 refine zzv (.int .i64 0) ?_; clear ha; intro a ha
 refine zn4 ?_
 refine zv (.slice A ds.length ca) ha ?_; clear ha; intro a ha
 refine zzc ha (rplay_no W _ w A ca ds (fun w s => hr w s) hn h0 s) ?_
 rintro _ w ⟨rfl, s⟩
 replace s : St W (L) w := s
 refine ⟨_, rfl, ?_⟩; clear ha; intro a ha
 refine zv (.tuple #[.int .i64 0, .int .i64 0, .bool false, .slice none 0 0, .int .i64 (code (tns ds))]) ha ?_
 refine zzv (.int .i64 0) ?_
 refine zzv (.int .i64 0) ?_
 refine zzv (.bool false) ?_
 refine zzv (.slice none 0 0) ?_
 refine zzv (.int .i64 (code (tns ds))) ?_
 refine zzv (.int .i64 0) ?_
 refine zzv (.int .i64 0) ?_
 refine zzv (.bool false) ?_
 refine zzv (.slice none 0 0) ?_
 refine zzv (.int .i64 (code (tns ds))) ?_; clear ha; intro a ha
 refine zn4 ?_
 refine zv (.int .i64 0) ha ?_
 refine zzv (.int .i64 0) ?_
 refine zzv (.bool false) ?_
 refine zzv (.int .i64 (code (tns ds))) ?_
 refine zzv (.int .i64 0) ?_
 refine zzv (.int .i64 0) ?_
 refine zzv (.bool false) ?_
 refine zzv (.int .i64 (code (tns ds))) ?_; clear ha; intro a ha
 refine zn2 ?_
 refine wp_ret ?_
 refine ret_with (v := .tuple #[.int .i64 0, .int .i64 0, .bool false, .int .i64 (code (tns ds))]) ha (results_4 rfl ha (res_tmp (by kernel_rfl) (by kernel_rfl)) (res_tmp (by kernel_rfl) (by kernel_rfl)) (res_tmp (by kernel_rfl) (by kernel_rfl)) (res_tmp (by kernel_rfl) (by kernel_rfl))) ?_
 exact ⟨rfl, s⟩

end Go.Proofs.YtfcbjcohepkkfaaGreat.B
