import Derived.Test.YtfcbjcohepkkfaaGreatJ2
import Derived.Test.YtfcbjcohepkkfaaGreatSepY
namespace Go.Proofs.YtfcbjcohepkkfaaGreat.B
open Go.RowKit Go.Maps Go.Sort Go.Shelf Go.Proofs.YtfcbjcohepkkfaaGreat.Sep Go.Proofs.YtfcbjcohepkkfaaGreat.P
set_option linter.unusedVariables false
set_option linter.unusedSimpArgs false
/-! ### equality of spans and of stamps -/
set_option maxHeartbeats 1000000 in
theorem eqSp (a b c d : K) (w : World) : (Op.equalIn 10000 32 (.agg #[.string (str a), .string (str b)]) (.agg #[.string (str c), .string (str d)])).run Tryz.prog w = .ok (decide ((a, b) = (c, d))) w := by
 have u9 := Tryz.underlying9
 have a9 := Tryz.isAgg9
 have z9 := Tryz.sizeOf9
 have hS : Tryz.prog.underlying 32 = some (.struct (Tryz.prog.fieldsOf 32)) := by kernel_rfl
 have hp : Tryz.prog.stoodInHeld 32 = false := by kernel_rfl
 rw [show (10000 : Nat) = 9999 + 1 from rfl, run_equalIn_struct w 9999 32 _ _ hS hp]
 simp only [Program.fieldsOf, Tryz.underlying32]
 go_simp
 by_cases h1 : a = c <;> by_cases h2 : b = d <;> simp [h1, h2, eqb_str, str_list]
theorem run_spaneq {o : Oper} {E : Env} {u v : Operand} {a b c d : K} {yt : TypeId} (ho : o.op = .binOp .eql 32 u v yt) (hx : evalE E u = .agg #[.string (str a), .string (str b)]) (hy : evalE E v = .agg #[.string (str c), .string (str d)]) :
  ∀ w, (execOp (evalE E) o).run Tryz.prog w = .ok (.value (.bool (decide ((a, b) = (c, d))))) w := by
 intro w
 have hm : Tryz.prog.eqGuardType Tryz.prog.depth 32 = false := by kernel_rfl
 have g : ∀ op a b u v, (eqGuard op 32 a b (.agg u) (.agg v)).run Tryz.prog w = .ok () w := fun op a b u v => run_eqGuard_agg w op 32 a b _ _ hm
 simp [execOp, ho, hx, hy, run_eql_struct, eqSp, g]
set_option maxHeartbeats 1000000 in
theorem eqSt (a b c d : Int) (w : World) : (Op.equalIn 10000 35 (.agg #[.int .i64 a, .int .i64 b]) (.agg #[.int .i64 c, .int .i64 d])).run Tryz.prog w = .ok (decide ((a, b) = (c, d))) w := by
 have u3 := Tryz.underlying3
 have a3 := Tryz.isAgg3
 have z3 := Tryz.sizeOf3
 have hS : Tryz.prog.underlying 35 = some (.struct (Tryz.prog.fieldsOf 35)) := by kernel_rfl
 have hp : Tryz.prog.stoodInHeld 35 = false := by kernel_rfl
 rw [show (10000 : Nat) = 9999 + 1 from rfl, run_equalIn_struct w 9999 35 _ _ hS hp]
 simp only [Program.fieldsOf, Tryz.underlying35]
 go_simp
 by_cases h1 : a = c <;> by_cases h2 : b = d <;> simp [h1, h2]
theorem run_stampeq {o : Oper} {E : Env} {u v : Operand} {a b c d : Int} {yt : TypeId} (ho : o.op = .binOp .eql 35 u v yt) (hx : evalE E u = .agg #[.int .i64 a, .int .i64 b]) (hy : evalE E v = .agg #[.int .i64 c, .int .i64 d]) :
  ∀ w, (execOp (evalE E) o).run Tryz.prog w = .ok (.value (.bool (decide ((a, b) = (c, d))))) w := by
 intro w
 have hm : Tryz.prog.eqGuardType Tryz.prog.depth 35 = false := by kernel_rfl
 have g : ∀ op a b u v, (eqGuard op 35 a b (.agg u) (.agg v)).run Tryz.prog w = .ok () w := fun op a b u v => run_eqGuard_agg w op 35 a b _ _ hm
 simp [execOp, ho, hx, hy, run_eql_struct, eqSt, g]
theorem Blks.back {W w : World} {L : List Chunk} {T : List (Int × Nat × Tx)} {q b : Nat} {i : Int} {t : Tx} (hd : T[q]? = some (i, b, t)) (s : St W (.blk b (txv t) 72 :: BRest T q :: L) w) : St W (Blks T :: L) w := by
 have := Blks.close hd t s
 obtain ⟨hq, e⟩ := List.getElem?_eq_some_iff.1 hd
 rwa [show T.set q (i, b, t) = T by rw [← e, List.set_getElem_self]] at this
theorem may_has {ti : Int} {x : Ev} (h : mayB ti x = true) (hh : hasB x = true) : 1 ≤ x.id ∧ x.id ≤ 9007199254740991 := by
 unfold mayB at h
 split at h
 ·
  cases h
 rw [if_neg (by rw [hh]; decide)] at h
 split at h
 ·
  cases h
 omega
theorem may_node {ti : Int} {x : Ev} (h : mayB ti x = true) : 1 ≤ x.kind ∧ x.kind ≤ 6 ∧ ti ≤ x.ti ∧ 1 ≤ x.node ∧ x.node ≤ 4 := by
 unfold mayB at h
 split at h
 ·
  cases h
 omega
theorem has_iff {x : Ev} : hasB x = true ↔ 1 ≤ x.kind ∧ x.kind ≤ 4 := by simp [hasB]

set_option maxHeartbeats 4000000 in
theorem may_any (W : World) (L : List Chunk) (w : World) (g gd gt : Nat) (k : Look) (Dd : List (Int × Value)) (T : List (Int × Nat × Tx)) (n : Nat) (hk : LkOk k Dd T n) (hn : n ≤ 1000000) (x : Ev) (s : St W (Chunk.blk g [.int .i64 k.ti, .int .i64 k.most, .map (some gd), .map (some gt)] 43 :: MapT Tryz.prog 3 encI gd Dd :: MapT Tryz.prog 3 encI gt (T.map ent) :: Blks T :: L) w) :
  Calls Tryz.prog 11 #[.pointer (some ⟨g, 0, none⟩), .agg (evv x).toArray] w fun e w' => e = .returned (.bool (mayB k.ti x)) ∧ St W (Chunk.blk g [.int .i64 k.ti, .int .i64 k.most, .map (some gd), .map (some gt)] 43 :: MapT Tryz.prog 3 encI gd Dd :: MapT Tryz.prog 3 encI gt (T.map ent) :: Blks T :: L) w' := by
 refine enter_args (l := [.pointer (some ⟨g, 0, none⟩), .agg (evv x).toArray]) Tryz.func11 rfl rfl (Nat.le_of_ble_eq_true rfl) ?_
 intro a ha; replace ha : Has a 82 [(0, .pointer (some ⟨g, 0, none⟩)), (1, .agg (evv x).toArray)] := ha
 refine zn1 ?_
 refine zze ha (ex_box (evv x) s rfl (by kernel_rfl)) ?_
 clear ha; rintro _ w a ⟨g1, rfl, s⟩ ha
 refine zv (.bool false) ha ?_; clear ha; intro a ha
 refine zn2 ?_
 refine wp_seq ?_
 refine wp_seq ?_
 refine wp_region_head 15 (fun w => BlkIs g1 (evv x) w ∧ BlkIs g [.int .i64 k.ti, .int .i64 k.most, .map (some gd), .map (some gt)] w ∧ True) (by kernel_rfl) (by decide) ?_
 replace s := s.drew; generalize _root_.Go.World.drew _ = w at s ⊢
 have hS : (fun w => BlkIs g1 (evv x) w ∧ BlkIs g [.int .i64 k.ti, .int .i64 k.most, .map (some gd), .map (some gt)] w ∧ True) w := ⟨s.blkIs 0 rfl, s.blkIs 1 rfl, trivial⟩
 refine yk (i := 0) (.pointer (some ⟨g1, 1, none⟩)) ha hS ?_
 refine yyv (i := 1) (.int .i64 x.kind) (fun w hS => run_load1 (of_ := 1) hS.1 rfl (by kernel_rfl) Tryz.isAgg3 rfl) hS ?_
 refine yyk (i := 2) (.bool (decide (x.kind < (1 : Int)))) hS ?_
 refine yyk (i := 3) (.bool (decide (x.kind < (1 : Int)))) hS ?_; clear ha; intro a ha
 rcases Bool.eq_false_or_eq_true (decide (x.kind < (1 : Int))) with hb | hb
 ·
  rw [hb] at ha; replace hb : (x.kind < (1 : Int)) := of_decide_eq_true hb
  refine yp (i := 4) ha hS ?_
  refine yyp (i := 5) hS ?_
  refine yyp (i := 6) hS ?_
  refine yyk (i := 7) (.bool true) hS ?_
  refine yyk (i := 8) (.bool true) hS ?_
  refine yyp (i := 9) hS ?_
  refine yyp (i := 10) hS ?_
  refine yyp (i := 11) hS ?_
  refine yyp (i := 12) hS ?_
  refine yyp (i := 13) hS ?_
  refine yyp (i := 14) hS ?_; clear ha; intro a ha
  refine Head.done (by kernel_rfl) ?_
  clear hS; simp only [List.drop_succ_cons, List.drop_zero]
  refine zp ha ?_
  refine zzv (.bool true) ?_
  refine zzv (.bool true) ?_
  iterate 3 refine zzp ?_
  refine zzv (.bool true) ?_
  refine zzv (.bool true) ?_
  iterate 3 refine zzp ?_
  refine zzv (.bool true) ?_; clear ha; intro a ha
  refine zn2 ?_
  refine wp_true ha rfl (by kernel_rfl) ?_
  refine zn1 ?_
  refine zv (.bool false) ha ?_; clear ha; intro a ha
  refine zn2 ?_
  refine zzt ?_
  refine zzr (v := .bool false) ha ?_
  replace s := (((s.at_ (j := 4) rfl).at_ (j := 4) rfl).at_ (j := 4) rfl).at_ (j := 4) rfl
  replace s := s.k4_1
  refine ⟨?_, s⟩
  congr 2
  clear s ha
  unfold mayB
  repeat' split
  all_goals first | rfl | omega | (rw [decide_eq_true (by omega), Bool.true_and]; done) | (rw [decide_eq_false (by omega)]; rfl) | (simp_all; done) | (simp_all; omega)
 rw [hb] at ha; replace hb : ¬ (x.kind < (1 : Int)) := of_decide_eq_false hb
 refine yk (i := 4) (.pointer (some ⟨g1, 1, none⟩)) ha hS ?_
 refine yyv (i := 5) (.int .i64 x.kind) (fun w hS => run_load1 (of_ := 1) hS.1 rfl (by kernel_rfl) Tryz.isAgg3 rfl) hS ?_
 refine yyk (i := 6) (.bool (decide (x.kind > (6 : Int)))) hS ?_
 refine yyk (i := 7) (.bool (decide (x.kind > (6 : Int)))) hS ?_
 refine yyk (i := 8) (.bool (decide (x.kind > (6 : Int)))) hS ?_; clear ha; intro a ha
 rcases Bool.eq_false_or_eq_true (decide (x.kind > (6 : Int))) with hb | hb
 ·
  rw [hb] at ha; replace hb : (x.kind > (6 : Int)) := of_decide_eq_true hb
  refine yp (i := 9) ha hS ?_
  refine yyp (i := 10) hS ?_
  refine yyp (i := 11) hS ?_
  refine yyp (i := 12) hS ?_
  refine yyp (i := 13) hS ?_
  refine yyp (i := 14) hS ?_; clear ha; intro a ha
  refine Head.done (by kernel_rfl) ?_
  clear hS; simp only [List.drop_succ_cons, List.drop_zero]
  refine zp ha ?_
  refine zzv (.bool true) ?_
  refine zzv (.bool true) ?_
  iterate 3 refine zzp ?_
  refine zzv (.bool true) ?_
  refine zzv (.bool true) ?_
  iterate 3 refine zzp ?_
  refine zzv (.bool true) ?_; clear ha; intro a ha
  refine zn2 ?_
  refine wp_true ha rfl (by kernel_rfl) ?_
  refine zn1 ?_
  refine zv (.bool false) ha ?_; clear ha; intro a ha
  refine zn2 ?_
  refine zzt ?_
  refine zzr (v := .bool false) ha ?_
  replace s := (((s.at_ (j := 4) rfl).at_ (j := 4) rfl).at_ (j := 4) rfl).at_ (j := 4) rfl
  replace s := s.k4_1
  refine ⟨?_, s⟩
  congr 2
  clear s ha
  unfold mayB
  repeat' split
  all_goals first | rfl | omega | (rw [decide_eq_true (by omega), Bool.true_and]; done) | (rw [decide_eq_false (by omega)]; rfl) | (simp_all; done) | (simp_all; omega)
 rw [hb] at ha; replace hb : ¬ (x.kind > (6 : Int)) := of_decide_eq_false hb
 refine yk (i := 9) (.pointer (some ⟨g1, 0, none⟩)) ha hS ?_
 refine yyv (i := 10) (.int .i64 x.ti) (fun w hS => run_load1 (of_ := 0) hS.1 rfl (by kernel_rfl) Tryz.isAgg3 rfl) hS ?_
 refine yyk (i := 11) (.pointer (some ⟨g, 0, none⟩)) hS ?_
 refine yyk (i := 12) (.pointer (some ⟨g, 0, none⟩)) hS ?_
 refine yyk (i := 13) (.pointer (some ⟨g, 0, none⟩)) hS ?_
 refine yyv (i := 14) (.int .i64 k.ti) (fun w hS => run_load1 (of_ := 0) hS.2.1 rfl (by kernel_rfl) Tryz.isAgg3 rfl) hS ?_; clear ha; intro a ha
 refine Head.done (by kernel_rfl) ?_
 clear hS; simp only [List.drop_succ_cons, List.drop_zero]
 refine zv (.bool (decide (x.ti < k.ti))) ha ?_
 refine zzv (.bool (decide (x.ti < k.ti))) ?_
 refine zzv (.bool (decide (x.ti < k.ti))) ?_; clear ha; intro a ha
 rcases Bool.eq_false_or_eq_true (decide (x.ti < k.ti)) with hb | hb
 ·
  rw [hb] at ha; replace hb : (x.ti < k.ti) := of_decide_eq_true hb
  refine zp ha ?_
  iterate 2 refine zzp ?_
  refine zzv (.bool true) ?_
  refine zzv (.bool true) ?_
  iterate 3 refine zzp ?_
  refine zzv (.bool true) ?_; clear ha; intro a ha
  refine zn2 ?_
  refine wp_true ha rfl (by kernel_rfl) ?_
  refine zn1 ?_
  refine zv (.bool false) ha ?_; clear ha; intro a ha
  refine zn2 ?_
  refine zzt ?_
  refine zzr (v := .bool false) ha ?_
  replace s := (((s.at_ (j := 4) rfl).at_ (j := 4) rfl).at_ (j := 4) rfl).at_ (j := 4) rfl
  replace s := s.k4_1
  refine ⟨?_, s⟩
  congr 2
  clear s ha
  unfold mayB
  repeat' split
  all_goals first | rfl | omega | (rw [decide_eq_true (by omega), Bool.true_and]; done) | (rw [decide_eq_false (by omega)]; rfl) | (simp_all; done) | (simp_all; omega)
 rw [hb] at ha; replace hb : ¬ (x.ti < k.ti) := of_decide_eq_false hb
 refine zv (.pointer (some ⟨g1, 2, none⟩)) ha ?_
 refine zzw (.int .i64 x.node) (zl1 0 2) ?_
 refine zzv (.bool (decide (x.node < (1 : Int)))) ?_
 refine zzv (.bool (decide (x.node < (1 : Int)))) ?_
 refine zzv (.bool (decide (x.node < (1 : Int)))) ?_; clear ha; intro a ha
 rcases Bool.eq_false_or_eq_true (decide (x.node < (1 : Int))) with hb | hb
 ·
  rw [hb] at ha; replace hb : (x.node < (1 : Int)) := of_decide_eq_true hb
  refine zp ha ?_
  iterate 2 refine zzp ?_
  refine zzv (.bool true) ?_; clear ha; intro a ha
  refine zn2 ?_
  refine wp_true ha rfl (by kernel_rfl) ?_
  refine zn1 ?_
  refine zv (.bool false) ha ?_; clear ha; intro a ha
  refine zn2 ?_
  refine zzt ?_
  refine zzr (v := .bool false) ha ?_
  replace s := (((s.at_ (j := 4) rfl).at_ (j := 4) rfl).at_ (j := 4) rfl).at_ (j := 4) rfl
  replace s := s.k4_1
  refine ⟨?_, s⟩
  congr 2
  clear s ha
  unfold mayB
  repeat' split
  all_goals first | rfl | omega | (rw [decide_eq_true (by omega), Bool.true_and]; done) | (rw [decide_eq_false (by omega)]; rfl) | (simp_all; done) | (simp_all; omega)
 rw [hb] at ha; replace hb : ¬ (x.node < (1 : Int)) := of_decide_eq_false hb
 refine zv (.pointer (some ⟨g1, 2, none⟩)) ha ?_
 refine zzw (.int .i64 x.node) (zl1 0 2) ?_
 refine zzv (.bool (decide (x.node > (4 : Int)))) ?_
 refine zzv (.bool (decide (x.node > (4 : Int)))) ?_; clear ha; intro a ha
 refine zn2 ?_
 refine zzh (decide (x.node > (4 : Int))) ha ?_ ?_ <;> intro hb
 ·
  rw [hb] at ha; replace hb : (x.node > (4 : Int)) := of_decide_eq_true hb
  refine zn1 ?_
  refine zv (.bool false) ha ?_; clear ha; intro a ha
  refine zn2 ?_
  refine zzt ?_
  refine zzr (v := .bool false) ha ?_
  replace s := (((s.at_ (j := 4) rfl).at_ (j := 4) rfl).at_ (j := 4) rfl).at_ (j := 4) rfl
  replace s := s.k4_1
  refine ⟨?_, s⟩
  congr 2
  clear s ha
  unfold mayB
  repeat' split
  all_goals first | rfl | omega | (rw [decide_eq_true (by omega), Bool.true_and]; done) | (rw [decide_eq_false (by omega)]; rfl) | (simp_all; done) | (simp_all; omega)
 rw [hb] at ha; replace hb : ¬ (x.node > (4 : Int)) := of_decide_eq_false hb
 refine wp_skip ?_
 refine then_normal ?_
 refine wp_seq ?_
 refine zn1 ?_
 refine zw (.agg (evv x).toArray) ha (zln 0 0) ?_; clear ha; intro a ha
 refine zzc ha (has_id W _ w x s) ?_
 rintro _ w ⟨rfl, s⟩
 refine ⟨_, rfl, ?_⟩; clear ha; intro a ha
 refine zv (.bool (!(hasB x))) ha ?_; clear ha; intro a ha
 refine zn2 ?_
 refine zzh (!(hasB x)) ha ?_ ?_ <;> intro hb
 ·
  rw [hb] at ha; skip
  refine zn1 ?_
  refine zv (.bool true) ha ?_; clear ha; intro a ha
  refine zn2 ?_
  refine zzt ?_
  refine zzr (v := .bool true) ha ?_
  replace s := (((s.at_ (j := 4) rfl).at_ (j := 4) rfl).at_ (j := 4) rfl).at_ (j := 4) rfl
  replace s := s.k4_1
  refine ⟨?_, s⟩
  congr 2
  clear s ha
  unfold mayB
  repeat' split
  all_goals first | rfl | omega | (rw [decide_eq_true (by omega), Bool.true_and]; done) | (rw [decide_eq_false (by omega)]; rfl) | (simp_all; done) | (simp_all; omega)
 rw [hb] at ha; skip
 refine wp_skip ?_
 refine then_normal ?_
 refine wp_seq ?_
 refine zn1 ?_
 refine zv (.pointer (some ⟨g1, 3, none⟩)) ha ?_
 refine zzw (.int .i64 x.id) (zl1 0 3) ?_
 refine zzv (.bool (decide (x.id < (1 : Int)))) ?_
 refine zzv (.bool (decide (x.id < (1 : Int)))) ?_; clear ha; intro a ha
 rcases Bool.eq_false_or_eq_true (decide (x.id < (1 : Int))) with hb | hb
 ·
  rw [hb] at ha; replace hb : (x.id < (1 : Int)) := of_decide_eq_true hb
  refine zp ha ?_
  iterate 2 refine zzp ?_
  refine zzv (.bool true) ?_
  refine zzv (.bool true) ?_
  iterate 3 refine zzp ?_
  refine zzv (.bool true) ?_
  refine zzv (.bool true) ?_
  iterate 3 refine zzp ?_
  refine zzv (.bool true) ?_
  refine zzv (.bool true) ?_
  iterate 4 refine zzp ?_
  refine zzv (.bool true) ?_; clear ha; intro a ha
  refine zn2 ?_
  refine wp_true ha rfl (by kernel_rfl) ?_
  refine zn1 ?_
  refine zv (.bool false) ha ?_; clear ha; intro a ha
  refine zn2 ?_
  refine zzt ?_
  refine zzr (v := .bool false) ha ?_
  replace s := (((s.at_ (j := 4) rfl).at_ (j := 4) rfl).at_ (j := 4) rfl).at_ (j := 4) rfl
  replace s := s.k4_1
  refine ⟨?_, s⟩
  congr 2
  clear s ha
  unfold mayB
  repeat' split
  all_goals first | rfl | omega | (rw [decide_eq_true (by omega), Bool.true_and]; done) | (rw [decide_eq_false (by omega)]; rfl) | (simp_all; done) | (simp_all; omega)
 rw [hb] at ha; replace hb : ¬ (x.id < (1 : Int)) := of_decide_eq_false hb
 refine zv (.pointer (some ⟨g1, 3, none⟩)) ha ?_
 refine zzw (.int .i64 x.id) (zl1 0 3) ?_
 refine zzv (.bool (decide (x.id > (9007199254740991 : Int)))) ?_
 refine zzv (.bool (decide (x.id > (9007199254740991 : Int)))) ?_
 refine zzv (.bool (decide (x.id > (9007199254740991 : Int)))) ?_; clear ha; intro a ha
 rcases Bool.eq_false_or_eq_true (decide (x.id > (9007199254740991 : Int))) with hb | hb
 ·
  rw [hb] at ha; replace hb : (x.id > (9007199254740991 : Int)) := of_decide_eq_true hb
  refine zp ha ?_
  iterate 2 refine zzp ?_
  refine zzv (.bool true) ?_
  refine zzv (.bool true) ?_
  iterate 3 refine zzp ?_
  refine zzv (.bool true) ?_
  refine zzv (.bool true) ?_
  iterate 4 refine zzp ?_
  refine zzv (.bool true) ?_; clear ha; intro a ha
  refine zn2 ?_
  refine wp_true ha rfl (by kernel_rfl) ?_
  refine zn1 ?_
  refine zv (.bool false) ha ?_; clear ha; intro a ha
  refine zn2 ?_
  refine zzt ?_
  refine zzr (v := .bool false) ha ?_
  replace s := (((s.at_ (j := 4) rfl).at_ (j := 4) rfl).at_ (j := 4) rfl).at_ (j := 4) rfl
  replace s := s.k4_1
  refine ⟨?_, s⟩
  congr 2
  clear s ha
  unfold mayB
  repeat' split
  all_goals first | rfl | omega | (rw [decide_eq_true (by omega), Bool.true_and]; done) | (rw [decide_eq_false (by omega)]; rfl) | (simp_all; done) | (simp_all; omega)
 rw [hb] at ha; replace hb : ¬ (x.id > (9007199254740991 : Int)) := of_decide_eq_false hb
 refine zv (.pointer (some ⟨g1, 4, none⟩)) ha ?_
 refine zzw (.int .i64 x.epoch) (zl1 0 4) ?_
 refine zzv (.bool (decide (x.epoch < (0 : Int)))) ?_
 refine zzv (.bool (decide (x.epoch < (0 : Int)))) ?_
 refine zzv (.bool (decide (x.epoch < (0 : Int)))) ?_; clear ha; intro a ha
 rcases Bool.eq_false_or_eq_true (decide (x.epoch < (0 : Int))) with hb | hb
 ·
  rw [hb] at ha; replace hb : (x.epoch < (0 : Int)) := of_decide_eq_true hb
  refine zp ha ?_
  iterate 2 refine zzp ?_
  refine zzv (.bool true) ?_
  refine zzv (.bool true) ?_
  iterate 4 refine zzp ?_
  refine zzv (.bool true) ?_; clear ha; intro a ha
  refine zn2 ?_
  refine wp_true ha rfl (by kernel_rfl) ?_
  refine zn1 ?_
  refine zv (.bool false) ha ?_; clear ha; intro a ha
  refine zn2 ?_
  refine zzt ?_
  refine zzr (v := .bool false) ha ?_
  replace s := (((s.at_ (j := 4) rfl).at_ (j := 4) rfl).at_ (j := 4) rfl).at_ (j := 4) rfl
  replace s := s.k4_1
  refine ⟨?_, s⟩
  congr 2
  clear s ha
  unfold mayB
  repeat' split
  all_goals first | rfl | omega | (rw [decide_eq_true (by omega), Bool.true_and]; done) | (rw [decide_eq_false (by omega)]; rfl) | (simp_all; done) | (simp_all; omega)
 rw [hb] at ha; replace hb : ¬ (x.epoch < (0 : Int)) := of_decide_eq_false hb
 refine zv (.pointer (some ⟨g1, 4, none⟩)) ha ?_
 refine zzw (.int .i64 x.epoch) (zl1 0 4) ?_
 refine zzv (.bool (decide (x.epoch > (9007199254740991 : Int)))) ?_
 refine zzv (.bool (decide (x.epoch > (9007199254740991 : Int)))) ?_
 refine zzv (.bool (decide (x.epoch > (9007199254740991 : Int)))) ?_; clear ha; intro a ha
 rcases Bool.eq_false_or_eq_true (decide (x.epoch > (9007199254740991 : Int))) with hb | hb
 ·
  rw [hb] at ha; replace hb : (x.epoch > (9007199254740991 : Int)) := of_decide_eq_true hb
  refine zp ha ?_
  iterate 3 refine zzp ?_
  refine zzv (.bool true) ?_; clear ha; intro a ha
  refine zn2 ?_
  refine wp_true ha rfl (by kernel_rfl) ?_
  refine zn1 ?_
  refine zv (.bool false) ha ?_; clear ha; intro a ha
  refine zn2 ?_
  refine zzt ?_
  refine zzr (v := .bool false) ha ?_
  replace s := (((s.at_ (j := 4) rfl).at_ (j := 4) rfl).at_ (j := 4) rfl).at_ (j := 4) rfl
  replace s := s.k4_1
  refine ⟨?_, s⟩
  congr 2
  clear s ha
  unfold mayB
  repeat' split
  all_goals first | rfl | omega | (rw [decide_eq_true (by omega), Bool.true_and]; done) | (rw [decide_eq_false (by omega)]; rfl) | (simp_all; done) | (simp_all; omega)
 rw [hb] at ha; replace hb : ¬ (x.epoch > (9007199254740991 : Int)) := of_decide_eq_false hb
 refine zv (.pointer (some ⟨g1, 12, none⟩)) ha ?_
 refine zzw (.agg #[.int .i64 x.wall, .int .i64 x.logic]) (zln 0 12) ?_; clear ha; intro a ha
 refine zzc ha (schk_any W _ w x.wall x.logic s) ?_
 rintro _ w ⟨rfl, s⟩
 refine ⟨_, rfl, ?_⟩; clear ha; intro a ha
 refine zv (.bool ((codeS x.wall x.logic) != (0 : Int))) ha ?_
 refine zzv (.bool ((codeS x.wall x.logic) != (0 : Int))) ?_; clear ha; intro a ha
 refine zn2 ?_
 refine zzh ((codeS x.wall x.logic) != (0 : Int)) ha ?_ ?_ <;> intro hb
 ·
  rw [hb] at ha; replace hb := zbn hb
  refine zn1 ?_
  refine zv (.bool false) ha ?_; clear ha; intro a ha
  refine zn2 ?_
  refine zzt ?_
  refine zzr (v := .bool false) ha ?_
  replace s := (((s.at_ (j := 4) rfl).at_ (j := 4) rfl).at_ (j := 4) rfl).at_ (j := 4) rfl
  replace s := s.k4_1
  refine ⟨?_, s⟩
  congr 2
  clear s ha
  unfold mayB
  repeat' split
  all_goals first | rfl | omega | (rw [decide_eq_true (by omega), Bool.true_and]; done) | (rw [decide_eq_false (by omega)]; rfl) | (simp_all; done) | (simp_all; omega)
 rw [hb] at ha; replace hb := zbq hb
 refine wp_skip ?_
 refine then_normal ?_
 refine wp_seq ?_
 refine zn1 ?_
 refine zv (.pointer (some ⟨g1, 1, none⟩)) ha ?_
 refine zzw (.int .i64 x.kind) (zl1 0 1) ?_; clear ha; intro a ha
 refine zn2 ?_
 refine wp_block ?_
 refine wp_seq ?_
 refine zn1 ?_
 refine zv (.bool (x.kind == (2 : Int))) ha ?_
 refine zzv (.bool (x.kind == (2 : Int))) ?_; clear ha; intro a ha
 refine zn2 ?_
 refine zzh (x.kind == (2 : Int)) ha ?_ ?_ <;> intro hb
 ·
  rw [hb] at ha; replace hb := eq_of_beq hb
  refine wp_skip ?_
  refine then_normal ?_
  refine wp_true ha rfl (by kernel_rfl) ?_
  refine zn1 ?_
  refine zv (.pointer (some ⟨g1, 5, none⟩)) ha ?_
  refine zzw (.int .i64 x.op) (zl1 0 5) ?_
  refine zzv (.bool (decide (x.op ≥ (1 : Int)))) ?_
  refine zzv (.bool (decide (x.op ≥ (1 : Int)))) ?_; clear ha; intro a ha
  rcases Bool.eq_false_or_eq_true (decide (x.op ≥ (1 : Int))) with hb | hb
  ·
   rw [hb] at ha; replace hb : (x.op ≥ (1 : Int)) := of_decide_eq_true hb
   refine zv (.pointer (some ⟨g1, 5, none⟩)) ha ?_
   refine zzw (.int .i64 x.op) (zl1 0 5) ?_
   refine zzv (.bool (decide (x.op ≤ (7 : Int)))) ?_
   refine zzv (.bool (decide (x.op ≤ (7 : Int)))) ?_
   refine zzv (.bool (decide (x.op ≤ (7 : Int)))) ?_; clear ha; intro a ha
   refine zn2 ?_
   refine wp_ret ?_
   refine block_ret ?_
   refine then_ret ?_
   refine zzr (v := .bool (decide (x.op ≤ (7 : Int)))) ha ?_
   replace s := (((s.at_ (j := 4) rfl).at_ (j := 4) rfl).at_ (j := 4) rfl).at_ (j := 4) rfl
   replace s := s.k4_1
   refine ⟨?_, s⟩
   congr 2
   clear s ha
   unfold mayB
   repeat' split
   all_goals first | rfl | omega | (rw [decide_eq_true (by omega), Bool.true_and]; done) | (rw [decide_eq_false (by omega)]; rfl) | (simp_all; done) | (simp_all; omega)
  rw [hb] at ha; replace hb : ¬ (x.op ≥ (1 : Int)) := of_decide_eq_false hb
  refine zp ha ?_
  iterate 2 refine zzp ?_
  refine zzv (.bool false) ?_
  refine zzv (.bool false) ?_; clear ha; intro a ha
  refine zn2 ?_
  refine wp_ret ?_
  refine block_ret ?_
  refine then_ret ?_
  refine zzr (v := .bool false) ha ?_
  replace s := (((s.at_ (j := 4) rfl).at_ (j := 4) rfl).at_ (j := 4) rfl).at_ (j := 4) rfl
  replace s := s.k4_1
  refine ⟨?_, s⟩
  congr 2
  clear s ha
  unfold mayB
  repeat' split
  all_goals first | rfl | omega | (rw [decide_eq_true (by omega), Bool.true_and]; done) | (rw [decide_eq_false (by omega)]; rfl) | (simp_all; done) | (simp_all; omega)
 rw [hb] at ha; replace hb := ne_of_beq_false hb
 refine wp_region_lit ?_
 refine zv (.bool (x.kind == (3 : Int))) ha ?_
 refine zzv (.bool (x.kind == (3 : Int))) ?_; clear ha; intro a ha
 refine zn2 ?_
 refine zzh (x.kind == (3 : Int)) ha ?_ ?_ <;> intro hb
 ·
  rw [hb] at ha; replace hb := eq_of_beq hb
  refine zn1 ?_
  refine zv (.pointer (some ⟨g1, 5, none⟩)) ha ?_
  refine zzw (.int .i64 x.op) (zl1 0 5) ?_
  refine zzv (.bool (decide (x.op ≥ (1 : Int)))) ?_
  refine zzv (.bool (decide (x.op ≥ (1 : Int)))) ?_; clear ha; intro a ha
  rcases Bool.eq_false_or_eq_true (decide (x.op ≥ (1 : Int))) with hb | hb
  ·
   rw [hb] at ha; replace hb : (x.op ≥ (1 : Int)) := of_decide_eq_true hb
   refine zv (.pointer (some ⟨g1, 5, none⟩)) ha ?_
   refine zzw (.int .i64 x.op) (zl1 0 5) ?_
   refine zzv (.bool (decide (x.op ≤ (7 : Int)))) ?_
   refine zzv (.bool (decide (x.op ≤ (7 : Int)))) ?_
   refine zzv (.bool (decide (x.op ≤ (7 : Int)))) ?_; clear ha; intro a ha
   refine zn2 ?_
   refine wp_ret ?_
   refine block_ret ?_
   refine then_ret ?_
   refine zzr (v := .bool (decide (x.op ≤ (7 : Int)))) ha ?_
   replace s := (((s.at_ (j := 4) rfl).at_ (j := 4) rfl).at_ (j := 4) rfl).at_ (j := 4) rfl
   replace s := s.k4_1
   refine ⟨?_, s⟩
   congr 2
   clear s ha
   unfold mayB
   repeat' split
   all_goals first | rfl | omega | (rw [decide_eq_true (by omega), Bool.true_and]; done) | (rw [decide_eq_false (by omega)]; rfl) | (simp_all; done) | (simp_all; omega)
  rw [hb] at ha; replace hb : ¬ (x.op ≥ (1 : Int)) := of_decide_eq_false hb
  refine zp ha ?_
  iterate 2 refine zzp ?_
  refine zzv (.bool false) ?_
  refine zzv (.bool false) ?_; clear ha; intro a ha
  refine zn2 ?_
  refine wp_ret ?_
  refine block_ret ?_
  refine then_ret ?_
  refine zzr (v := .bool false) ha ?_
  replace s := (((s.at_ (j := 4) rfl).at_ (j := 4) rfl).at_ (j := 4) rfl).at_ (j := 4) rfl
  replace s := s.k4_1
  refine ⟨?_, s⟩
  congr 2
  clear s ha
  unfold mayB
  repeat' split
  all_goals first | rfl | omega | (rw [decide_eq_true (by omega), Bool.true_and]; done) | (rw [decide_eq_false (by omega)]; rfl) | (simp_all; done) | (simp_all; omega)
 rw [hb] at ha; replace hb := ne_of_beq_false hb
 refine zn1 ?_
 refine zv (.bool (x.kind == (4 : Int))) ha ?_
 refine zzv (.bool (x.kind == (4 : Int))) ?_; clear ha; intro a ha
 refine zn2 ?_
 refine zzh (x.kind == (4 : Int)) ha ?_ ?_ <;> intro hb
 ·
  rw [hb] at ha; replace hb := eq_of_beq hb
  refine zn1 ?_
  refine zv (.pointer (some ⟨g1, 15, none⟩)) ha ?_
  refine zzw (.int .i64 x.status) (zl1 0 15) ?_
  refine zzv (.bool (decide (x.status ≥ (0 : Int)))) ?_
  refine zzv (.bool (decide (x.status ≥ (0 : Int)))) ?_; clear ha; intro a ha
  rcases Bool.eq_false_or_eq_true (decide (x.status ≥ (0 : Int))) with hb | hb
  ·
   rw [hb] at ha; replace hb : (x.status ≥ (0 : Int)) := of_decide_eq_true hb
   refine zv (.pointer (some ⟨g1, 15, none⟩)) ha ?_
   refine zzw (.int .i64 x.status) (zl1 0 15) ?_
   refine zzv (.bool (decide (x.status ≤ (4 : Int)))) ?_
   refine zzv (.bool (decide (x.status ≤ (4 : Int)))) ?_
   refine zzv (.bool (decide (x.status ≤ (4 : Int)))) ?_; clear ha; intro a ha
   refine zn2 ?_
   refine wp_ret ?_
   refine block_ret ?_
   refine then_ret ?_
   refine zzr (v := .bool (decide (x.status ≤ (4 : Int)))) ha ?_
   replace s := (((s.at_ (j := 4) rfl).at_ (j := 4) rfl).at_ (j := 4) rfl).at_ (j := 4) rfl
   replace s := s.k4_1
   refine ⟨?_, s⟩
   congr 2
   clear s ha
   unfold mayB
   repeat' split
   all_goals first | rfl | omega | (rw [decide_eq_true (by omega), Bool.true_and]; done) | (rw [decide_eq_false (by omega)]; rfl) | (simp_all; done) | (simp_all; omega)
  rw [hb] at ha; replace hb : ¬ (x.status ≥ (0 : Int)) := of_decide_eq_false hb
  refine zp ha ?_
  iterate 2 refine zzp ?_
  refine zzv (.bool false) ?_
  refine zzv (.bool false) ?_; clear ha; intro a ha
  refine zn2 ?_
  refine wp_ret ?_
  refine block_ret ?_
  refine then_ret ?_
  refine zzr (v := .bool false) ha ?_
  replace s := (((s.at_ (j := 4) rfl).at_ (j := 4) rfl).at_ (j := 4) rfl).at_ (j := 4) rfl
  replace s := s.k4_1
  refine ⟨?_, s⟩
  congr 2
  clear s ha
  unfold mayB
  repeat' split
  all_goals first | rfl | omega | (rw [decide_eq_true (by omega), Bool.true_and]; done) | (rw [decide_eq_false (by omega)]; rfl) | (simp_all; done) | (simp_all; omega)
 rw [hb] at ha; replace hb := ne_of_beq_false hb
 refine wp_skip ?_
 refine block_normal ?_
 refine then_normal ?_
 refine zn1 ?_
 refine zv (.bool true) ha ?_; clear ha; intro a ha
 refine zn2 ?_
 refine wp_ret ?_
 refine zzr (v := .bool true) ha ?_
 replace s := (((s.at_ (j := 4) rfl).at_ (j := 4) rfl).at_ (j := 4) rfl).at_ (j := 4) rfl
 replace s := s.k4_1
 refine ⟨?_, s⟩
 congr 2
 clear s ha
 unfold mayB
 repeat' split
 all_goals first | rfl | omega | (rw [decide_eq_true (by omega), Bool.true_and]; done) | (rw [decide_eq_false (by omega)]; rfl) | (simp_all; done) | (simp_all; omega)

theorem nodes_any (W : World) (L : List Chunk) (w : World) (g gd gt : Nat) (k : Look) (Dd : List (Int × Value)) (T : List (Int × Nat × Tx)) (n : Nat) (hk : LkOk k Dd T n) (hn : n ≤ 1000000) (x : Ev) (hnode : 1 ≤ x.node ∧ x.node ≤ 4) (s : St W (Chunk.blk g [.int .i64 k.ti, .int .i64 k.most, .map (some gd), .map (some gt)] 43 :: MapT Tryz.prog 3 encI gd Dd :: MapT Tryz.prog 3 encI gt (T.map ent) :: Blks T :: L) w) :
  Calls Tryz.prog 12 #[.pointer (some ⟨g, 0, none⟩), .agg (evv x).toArray] w fun e w' => e = .returned (.bool (nodesB k.dn x)) ∧ St W (Chunk.blk g [.int .i64 k.ti, .int .i64 k.most, .map (some gd), .map (some gt)] 43 :: MapT Tryz.prog 3 encI gd Dd :: MapT Tryz.prog 3 encI gt (T.map ent) :: Blks T :: L) w' := by
 refine enter_args (l := [.pointer (some ⟨g, 0, none⟩), .agg (evv x).toArray]) Tryz.func12 rfl rfl (Nat.le_of_ble_eq_true rfl) ?_
 intro a ha; replace ha : Has a 26 [(0, .pointer (some ⟨g, 0, none⟩)), (1, .agg (evv x).toArray)] := ha
 refine zn1 ?_
 refine zze ha (ex_box (evv x) s rfl (by kernel_rfl)) ?_
 clear ha; rintro _ w a ⟨g1, rfl, s⟩ ha
 refine zv (.bool false) ha ?_; clear ha; intro a ha
 refine zn2 ?_
 refine wp_seq ?_
 refine zn1 ?_
 refine zv (.pointer (some ⟨g1, 1, none⟩)) ha ?_
 refine zzw (.int .i64 x.kind) (zl1 0 1) ?_; clear ha; intro a ha
 refine zn2 ?_
 refine wp_block ?_
 refine zn1 ?_
 refine zv (.bool (x.kind == (6 : Int))) ha ?_
 refine zzv (.bool (x.kind == (6 : Int))) ?_; clear ha; intro a ha
 refine zn2 ?_
 refine zzh (x.kind == (6 : Int)) ha ?_ ?_ <;> intro hb
 ·
  rw [hb] at ha; replace hb := eq_of_beq hb
  refine wp_seq ?_
  refine wp_region_head 6 (fun w => BlkIs g [.int .i64 k.ti, .int .i64 k.most, .map (some gd), .map (some gt)] w ∧ BlkIs g1 (evv x) w ∧ True) (by kernel_rfl) (by decide) ?_
  replace s := s.drew; generalize _root_.Go.World.drew _ = w at s ⊢
  have hS : (fun w => BlkIs g [.int .i64 k.ti, .int .i64 k.most, .map (some gd), .map (some gt)] w ∧ BlkIs g1 (evv x) w ∧ True) w := ⟨s.blkIs 1 rfl, s.blkIs 0 rfl, trivial⟩
  refine yk (i := 0) (.pointer (some ⟨g, 0, none⟩)) ha hS ?_
  refine yyk (i := 1) (.pointer (some ⟨g, 0, none⟩)) hS ?_
  refine yyk (i := 2) (.pointer (some ⟨g, 2, none⟩)) hS ?_
  refine yyv (i := 3) (.map (some gd)) (fun w hS => run_load1 (of_ := 2) hS.1 rfl (by kernel_rfl) Tryz.isAgg40 rfl) hS ?_
  refine yyk (i := 4) (.pointer (some ⟨g1, 2, none⟩)) hS ?_
  refine yyv (i := 5) (.int .i64 x.node) (fun w hS => run_load1 (of_ := 2) hS.2.1 rfl (by kernel_rfl) Tryz.isAgg3 rfl) hS ?_; clear ha; intro a ha
  refine Head.done (by kernel_rfl) ?_
  clear hS; simp only [List.drop_succ_cons, List.drop_zero]
  refine zw (.bool (k.dn x.node)) ha (run_lookup (a := x.node) (.bool (k.dn x.node)) (s.mapIs 2 rfl) rfl (by kernel_rfl) (by kernel_rfl) encI_inj keyed3 Tryz.underlying40 Tryz.zeroValue4 (key3 (by omega)) (hk.dn _)) ?_
  refine zzv (.bool (k.dn x.node)) ?_; clear ha; intro a ha
  refine zn2 ?_
  refine wp_ret ?_
  refine block_ret ?_
  refine then_ret ?_
  refine zzr (v := .bool (k.dn x.node)) ha ?_
  replace s := (((s.at_ (j := 4) rfl).at_ (j := 4) rfl).at_ (j := 4) rfl).at_ (j := 4) rfl
  replace s := s.k4_1
  refine ⟨?_, s⟩
  congr 2
  unfold nodesB
  first | (simp [*]; done) | (simp_all; done)
 rw [hb] at ha; replace hb := ne_of_beq_false hb
 refine zn1 ?_
 refine zv (.bool (x.kind == (4 : Int))) ha ?_
 refine zzv (.bool (x.kind == (4 : Int))) ?_; clear ha; intro a ha
 refine zn2 ?_
 refine zzh (x.kind == (4 : Int)) ha ?_ ?_ <;> intro hb
 ·
  rw [hb] at ha; replace hb := eq_of_beq hb
  refine zn1 ?_
  refine zv (.bool true) ha ?_; clear ha; intro a ha
  refine zn2 ?_
  refine wp_ret ?_
  refine block_ret ?_
  refine then_ret ?_
  refine zzr (v := .bool true) ha ?_
  replace s := (((s.at_ (j := 4) rfl).at_ (j := 4) rfl).at_ (j := 4) rfl).at_ (j := 4) rfl
  replace s := s.k4_1
  refine ⟨?_, s⟩
  congr 2
  unfold nodesB
  first | (simp [*]; done) | (simp_all; done)
 rw [hb] at ha; replace hb := ne_of_beq_false hb
 refine wp_skip ?_
 refine block_normal ?_
 refine then_normal ?_
 refine wp_seq ?_
 refine wp_region_head 6 (fun w => BlkIs g [.int .i64 k.ti, .int .i64 k.most, .map (some gd), .map (some gt)] w ∧ BlkIs g1 (evv x) w ∧ True) (by kernel_rfl) (by decide) ?_
 replace s := s.drew; generalize _root_.Go.World.drew _ = w at s ⊢
 have hS : (fun w => BlkIs g [.int .i64 k.ti, .int .i64 k.most, .map (some gd), .map (some gt)] w ∧ BlkIs g1 (evv x) w ∧ True) w := ⟨s.blkIs 1 rfl, s.blkIs 0 rfl, trivial⟩
 refine yk (i := 0) (.pointer (some ⟨g, 0, none⟩)) ha hS ?_
 refine yyk (i := 1) (.pointer (some ⟨g, 0, none⟩)) hS ?_
 refine yyk (i := 2) (.pointer (some ⟨g, 2, none⟩)) hS ?_
 refine yyv (i := 3) (.map (some gd)) (fun w hS => run_load1 (of_ := 2) hS.1 rfl (by kernel_rfl) Tryz.isAgg40 rfl) hS ?_
 refine yyk (i := 4) (.pointer (some ⟨g1, 2, none⟩)) hS ?_
 refine yyv (i := 5) (.int .i64 x.node) (fun w hS => run_load1 (of_ := 2) hS.2.1 rfl (by kernel_rfl) Tryz.isAgg3 rfl) hS ?_; clear ha; intro a ha
 refine Head.done (by kernel_rfl) ?_
 clear hS; simp only [List.drop_succ_cons, List.drop_zero]
 refine zw (.bool (k.dn x.node)) ha (run_lookup (a := x.node) (.bool (k.dn x.node)) (s.mapIs 2 rfl) rfl (by kernel_rfl) (by kernel_rfl) encI_inj keyed3 Tryz.underlying40 Tryz.zeroValue4 (key3 (by omega)) (hk.dn _)) ?_
 refine zzv (.bool (!(k.dn x.node))) ?_
 refine zzv (.bool (!(k.dn x.node))) ?_; clear ha; intro a ha
 refine zn2 ?_
 refine wp_ret ?_
 refine zzr (v := .bool (!(k.dn x.node))) ha ?_
 replace s := (((s.at_ (j := 4) rfl).at_ (j := 4) rfl).at_ (j := 4) rfl).at_ (j := 4) rfl
 replace s := s.k4_1
 refine ⟨?_, s⟩
 congr 2
 unfold nodesB
 first | (simp [*]; done) | (simp_all; done)

theorem begins_any (W : World) (L : List Chunk) (w : World) (g gd gt : Nat) (k : Look) (Dd : List (Int × Value)) (T : List (Int × Nat × Tx)) (n : Nat) (hk : LkOk k Dd T n) (hn : n ≤ 1000000) (x : Ev) (s : St W (Chunk.blk g [.int .i64 k.ti, .int .i64 k.most, .map (some gd), .map (some gt)] 43 :: MapT Tryz.prog 3 encI gd Dd :: MapT Tryz.prog 3 encI gt (T.map ent) :: Blks T :: L) w) :
  Calls Tryz.prog 13 #[.pointer (some ⟨g, 0, none⟩), .agg (evv x).toArray] w fun e w' => e = .returned (.bool (beginsB k.most x)) ∧ St W (Chunk.blk g [.int .i64 k.ti, .int .i64 k.most, .map (some gd), .map (some gt)] 43 :: MapT Tryz.prog 3 encI gd Dd :: MapT Tryz.prog 3 encI gt (T.map ent) :: Blks T :: L) w' := by
 have hmost := hk.most
 refine enter_args (l := [.pointer (some ⟨g, 0, none⟩), .agg (evv x).toArray]) Tryz.func13 rfl rfl (Nat.le_of_ble_eq_true rfl) ?_
 intro a ha; replace ha : Has a 18 [(0, .pointer (some ⟨g, 0, none⟩)), (1, .agg (evv x).toArray)] := ha
 refine zn1 ?_
 refine zze ha (ex_box (evv x) s rfl (by kernel_rfl)) ?_
 clear ha; rintro _ w a ⟨g1, rfl, s⟩ ha
 refine zv (.bool false) ha ?_; clear ha; intro a ha
 refine zn2 ?_
 refine wp_seq ?_
 refine wp_region_head 11 (fun w => BlkIs g1 (evv x) w ∧ BlkIs g [.int .i64 k.ti, .int .i64 k.most, .map (some gd), .map (some gt)] w ∧ True) (by kernel_rfl) (by decide) ?_
 replace s := s.drew; generalize _root_.Go.World.drew _ = w at s ⊢
 have hS : (fun w => BlkIs g1 (evv x) w ∧ BlkIs g [.int .i64 k.ti, .int .i64 k.most, .map (some gd), .map (some gt)] w ∧ True) w := ⟨s.blkIs 0 rfl, s.blkIs 1 rfl, trivial⟩
 refine yk (i := 0) (.pointer (some ⟨g1, 1, none⟩)) ha hS ?_
 refine yyv (i := 1) (.int .i64 x.kind) (fun w hS => run_load1 (of_ := 1) hS.1 rfl (by kernel_rfl) Tryz.isAgg3 rfl) hS ?_
 refine yyk (i := 2) (.bool (x.kind != (1 : Int))) hS ?_
 refine yyk (i := 3) (.bool (x.kind != (1 : Int))) hS ?_; clear ha; intro a ha
 rcases Bool.eq_false_or_eq_true (x.kind != (1 : Int)) with hb | hb
 ·
  rw [hb] at ha; replace hb := zbn hb
  refine yp (i := 4) ha hS ?_
  refine yyp (i := 5) hS ?_
  refine yyp (i := 6) hS ?_
  refine yyp (i := 7) hS ?_
  refine yyp (i := 8) hS ?_
  refine yyp (i := 9) hS ?_
  refine yyp (i := 10) hS ?_; clear ha; intro a ha
  refine Head.done (by kernel_rfl) ?_
  clear hS; simp only [List.drop_succ_cons, List.drop_zero]
  refine zp ha ?_
  refine zzv (.bool true) ?_
  refine zzv (.bool true) ?_; clear ha; intro a ha
  refine zn2 ?_
  refine wp_ret ?_
  refine zzr (v := .bool true) ha ?_
  replace s := (((s.at_ (j := 4) rfl).at_ (j := 4) rfl).at_ (j := 4) rfl).at_ (j := 4) rfl
  replace s := s.k4_1
  refine ⟨?_, s⟩
  congr 2
  unfold beginsB
  first | (simp [*]; done) | (simp_all; done)
 rw [hb] at ha; replace hb := zbq hb
 refine yk (i := 4) (.pointer (some ⟨g1, 3, none⟩)) ha hS ?_
 refine yyv (i := 5) (.int .i64 x.id) (fun w hS => run_load1 (of_ := 3) hS.1 rfl (by kernel_rfl) Tryz.isAgg3 rfl) hS ?_
 refine yyk (i := 6) (.pointer (some ⟨g, 0, none⟩)) hS ?_
 refine yyk (i := 7) (.pointer (some ⟨g, 0, none⟩)) hS ?_
 refine yyk (i := 8) (.pointer (some ⟨g, 1, none⟩)) hS ?_
 refine yyv (i := 9) (.int .i64 k.most) (fun w hS => run_load1 (of_ := 1) hS.2.1 rfl (by kernel_rfl) Tryz.isAgg3 rfl) hS ?_
 refine yyv (i := 10) (.int .i64 (k.most + (1 : Int))) (fun w hS => (run_arith (k.most + (1 : Int)) (k.most + (1 : Int)) rfl (by kernel_rfl) (by kernel_rfl) (.inl ⟨rfl, rfl⟩) (by rw [wrap64_in (by omega)]) _)) hS ?_; clear ha; intro a ha
 refine Head.done (by kernel_rfl) ?_
 clear hS; simp only [List.drop_succ_cons, List.drop_zero]
 refine zv (.bool (x.id == (k.most + (1 : Int)))) ha ?_
 refine zzv (.bool (x.id == (k.most + (1 : Int)))) ?_
 refine zzv (.bool (x.id == (k.most + (1 : Int)))) ?_; clear ha; intro a ha
 refine zn2 ?_
 refine wp_ret ?_
 refine zzr (v := .bool (x.id == (k.most + (1 : Int)))) ha ?_
 replace s := (((s.at_ (j := 4) rfl).at_ (j := 4) rfl).at_ (j := 4) rfl).at_ (j := 4) rfl
 replace s := s.k4_1
 refine ⟨?_, s⟩
 congr 2
 unfold beginsB
 first | (simp [*]; done) | (simp_all; done)

theorem asks_any (W : World) (L : List Chunk) (w : World) (g gd gt : Nat) (k : Look) (Dd : List (Int × Value)) (T : List (Int × Nat × Tx)) (n : Nat) (hk : LkOk k Dd T n) (hn : n ≤ 1000000) (x : Ev) (hmx : mayB k.ti x = true) (s : St W (Chunk.blk g [.int .i64 k.ti, .int .i64 k.most, .map (some gd), .map (some gt)] 43 :: MapT Tryz.prog 3 encI gd Dd :: MapT Tryz.prog 3 encI gt (T.map ent) :: Blks T :: L) w) :
  Calls Tryz.prog 14 #[.pointer (some ⟨g, 0, none⟩), .agg (evv x).toArray] w fun e w' => ∃ T2 : List (Int × Nat × Tx), e = .returned (.bool (asksB (k.tx x.id) x)) ∧ LkOk k Dd T2 (n + 1) ∧ St W (Chunk.blk g [.int .i64 k.ti, .int .i64 k.most, .map (some gd), .map (some gt)] 43 :: MapT Tryz.prog 3 encI gd Dd :: MapT Tryz.prog 3 encI gt (T2.map ent) :: Blks T2 :: L) w' := by
 refine enter_args (l := [.pointer (some ⟨g, 0, none⟩), .agg (evv x).toArray]) Tryz.func14 rfl rfl (Nat.le_of_ble_eq_true rfl) ?_
 intro a ha; replace ha : Has a 33 [(0, .pointer (some ⟨g, 0, none⟩)), (1, .agg (evv x).toArray)] := ha
 refine zn1 ?_
 refine zze ha (ex_box (evv x) s rfl (by kernel_rfl)) ?_
 clear ha; rintro _ w a ⟨g1, rfl, s⟩ ha
 refine zv (.bool false) ha ?_; clear ha; intro a ha
 refine zn2 ?_
 refine wp_seq ?_
 refine zn1 ?_
 refine zv (.pointer (some ⟨g1, 1, none⟩)) ha ?_
 refine zzw (.int .i64 x.kind) (zl1 0 1) ?_
 refine zzv (.bool (x.kind != (2 : Int))) ?_; clear ha; intro a ha
 refine zn2 ?_
 refine zzh (x.kind != (2 : Int)) ha ?_ ?_ <;> intro hb
 ·
  rw [hb] at ha; replace hb := zbn hb
  refine zn1 ?_
  refine zv (.bool true) ha ?_; clear ha; intro a ha
  refine zn2 ?_
  refine zzt ?_
  refine zzr (v := .bool true) ha ?_
  replace s := (((s.at_ (j := 4) rfl).at_ (j := 4) rfl).at_ (j := 4) rfl).at_ (j := 4) rfl
  replace s := s.k4_1
  refine ⟨T, ?_, hk.up (by omega), s⟩
  congr 2
  clear s ha
  unfold asksB
  first | (simp [*]; done) | (simp_all; done) | (simp [*]; omega)
 rw [hb] at ha; replace hb := zbq hb
 have hid := may_has hmx (has_iff.2 (by omega))
 refine wp_skip ?_
 refine then_normal ?_
 refine zn1 ?_
 refine zv (.pointer (some ⟨g, 0, none⟩)) ha ?_
 refine zzv (.pointer (some ⟨g1, 3, none⟩)) ?_
 refine zzw (.int .i64 x.id) (zl1 0 3) ?_; clear ha; intro a ha
 replace s := (((s.at_ (j := 4) rfl).at_ (j := 4) rfl).at_ (j := 4) rfl).at_ (j := 4) rfl
 dsimp only [List.eraseIdx] at s
 refine zzc ha (txn_any W _ w g gd gt k Dd T n hk hn x.id (by omega) s) ?_
 rintro _ w ⟨T2, q, b, rfl, ht2, hk2, s⟩
 obtain ⟨t, ht⟩ : ∃ t, t = k.tx x.id := ⟨_, rfl⟩
 rw [← ht] at ht2
 replace s := s.at_ (j := 3) rfl
 dsimp only [List.eraseIdx] at s
 replace s := Blks.open_ ht2 s
 refine ⟨_, rfl, ?_⟩; clear ha; intro a ha
 refine zv (.pointer (some ⟨b, 0, none⟩)) ha ?_; clear ha; intro a ha
 refine zn2 ?_
 refine wp_seq ?_
 refine wp_region_head 11 (fun w => BlkIs b (txv t) w ∧ BlkIs g1 (evv x) w ∧ True) (by kernel_rfl) (by decide) ?_
 replace s := s.drew; generalize _root_.Go.World.drew _ = w at s ⊢
 have hS : (fun w => BlkIs b (txv t) w ∧ BlkIs g1 (evv x) w ∧ True) w := ⟨s.blkIs 0 rfl, s.blkIs 5 rfl, trivial⟩
 refine yk (i := 0) (.pointer (some ⟨b, 0, none⟩)) ha hS ?_
 refine yyk (i := 1) (.pointer (some ⟨b, 0, none⟩)) hS ?_
 refine yyk (i := 2) (.pointer (some ⟨b, 2, none⟩)) hS ?_
 refine yyv (i := 3) (.bool t.began) (fun w hS => run_load1 (of_ := 2) hS.1 rfl (by kernel_rfl) Tryz.isAgg4 rfl) hS ?_
 refine yyk (i := 4) (.bool t.began) hS ?_; clear ha; intro a ha
 rcases Bool.eq_false_or_eq_true t.began with hb | hb
 ·
  rw [hb] at ha; skip
  refine yk (i := 5) (.pointer (some ⟨b, 0, none⟩)) ha hS ?_
  refine yyk (i := 6) (.pointer (some ⟨b, 0, none⟩)) hS ?_
  refine yyk (i := 7) (.pointer (some ⟨b, 0, none⟩)) hS ?_
  refine yyv (i := 8) (.int .i64 t.node) (fun w hS => run_load1 (of_ := 0) hS.1 rfl (by kernel_rfl) Tryz.isAgg3 rfl) hS ?_
  refine yyk (i := 9) (.pointer (some ⟨g1, 2, none⟩)) hS ?_
  refine yyv (i := 10) (.int .i64 x.node) (fun w hS => run_load1 (of_ := 2) hS.2.1 rfl (by kernel_rfl) Tryz.isAgg3 rfl) hS ?_; clear ha; intro a ha
  refine Head.done (by kernel_rfl) ?_
  clear hS; simp only [List.drop_succ_cons, List.drop_zero]
  refine zv (.bool (t.node == x.node)) ha ?_
  refine zzv (.bool (t.node == x.node)) ?_
  refine zzv (.bool (t.node == x.node)) ?_; clear ha; intro a ha
  rcases Bool.eq_false_or_eq_true (t.node == x.node) with hb | hb
  ·
   rw [hb] at ha; replace hb := eq_of_beq hb
   refine zv (.pointer (some ⟨b, 0, none⟩)) ha ?_
   refine zzv (.pointer (some ⟨b, 0, none⟩)) ?_
   refine zzv (.pointer (some ⟨b, 1, none⟩)) ?_
   refine zzw (.int .i64 t.stand) (zl1 0 1) ?_
   refine zzv (.bool (t.stand == (0 : Int))) ?_
   refine zzv (.bool (t.stand == (0 : Int))) ?_
   refine zzv (.bool (t.stand == (0 : Int))) ?_; clear ha; intro a ha
   refine zn2 ?_
   refine wp_ret ?_
   refine zzr (v := .bool (t.stand == (0 : Int))) ha ?_
   replace s := s.k5_1
   replace s := Blks.back ht2 s
   replace s := s.at_ (j := 3) rfl
   replace s := s.at_ (j := 3) rfl
   replace s := s.at_ (j := 3) rfl
   refine ⟨T2, ?_, hk2, s⟩
   rw [← ht]
   congr 2
   clear s ha ht2 hk2 ht
   unfold asksB
   first | (simp [*]; done) | (simp_all; done) | (simp [*]; omega)
  rw [hb] at ha; replace hb := ne_of_beq_false hb
  refine zp ha ?_
  iterate 4 refine zzp ?_
  refine zzv (.bool false) ?_
  refine zzv (.bool false) ?_; clear ha; intro a ha
  refine zn2 ?_
  refine wp_ret ?_
  refine zzr (v := .bool false) ha ?_
  replace s := s.k5_1
  replace s := Blks.back ht2 s
  replace s := s.at_ (j := 3) rfl
  replace s := s.at_ (j := 3) rfl
  replace s := s.at_ (j := 3) rfl
  refine ⟨T2, ?_, hk2, s⟩
  rw [← ht]
  congr 2
  clear s ha ht2 hk2 ht
  unfold asksB
  first | (simp [*]; done) | (simp_all; done) | (simp [*]; omega)
 rw [hb] at ha; skip
 refine yp (i := 5) ha hS ?_
 refine yyp (i := 6) hS ?_
 refine yyp (i := 7) hS ?_
 refine yyp (i := 8) hS ?_
 refine yyp (i := 9) hS ?_
 refine yyp (i := 10) hS ?_; clear ha; intro a ha
 refine Head.done (by kernel_rfl) ?_
 clear hS; simp only [List.drop_succ_cons, List.drop_zero]
 refine zp ha ?_
 refine zzv (.bool false) ?_
 refine zzv (.bool false) ?_
 iterate 5 refine zzp ?_
 refine zzv (.bool false) ?_
 refine zzv (.bool false) ?_; clear ha; intro a ha
 refine zn2 ?_
 refine wp_ret ?_
 refine zzr (v := .bool false) ha ?_
 replace s := s.k5_1
 replace s := Blks.back ht2 s
 replace s := s.at_ (j := 3) rfl
 replace s := s.at_ (j := 3) rfl
 replace s := s.at_ (j := 3) rfl
 refine ⟨T2, ?_, hk2, s⟩
 rw [← ht]
 congr 2
 clear s ha ht2 hk2 ht
 unfold asksB
 first | (simp [*]; done) | (simp_all; done) | (simp [*]; omega)

end Go.Proofs.YtfcbjcohepkkfaaGreat.B
