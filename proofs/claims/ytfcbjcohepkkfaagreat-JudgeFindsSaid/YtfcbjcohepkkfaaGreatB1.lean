import Derived.Test.YtfcbjcohepkkfaaGreatB0
import Derived.Test.YtfcbjcohepkkfaaGreatSepH
import Derived.Test.YtfcbjcohepkkfaaGreatSepY
namespace Go.Proofs.YtfcbjcohepkkfaaGreat.B
open Go.RowKit Go.Maps Go.Sort Go.Shelf Go.Proofs.YtfcbjcohepkkfaaGreat.Sep Go.Proofs.YtfcbjcohepkkfaaGreat.P
set_option linter.unusedVariables false
set_option linter.unusedSimpArgs false
def cmpI (x y : Int) : Int := if x < y then -1 else if y < x then 1 else 0
def orI (x y : Int) : Int := if x = 0 then y else x
/-- One stamp stands ahead of another one. -/
def ltS (a b c d : Int) : Prop := a < c ∨ (a = c ∧ b < d)
instance (a b c d : Int) : Decidable (ltS a b c d) := by unfold ltS; infer_instance
def okS (a b : Int) : Prop := 0 ≤ a ∧ a ≤ 1099511627776 ∧ 0 ≤ b ∧ b ≤ 1048575
instance (a b : Int) : Decidable (okS a b) := by unfold okS; infer_instance
def codeS (a b : Int) : Int := if okS a b then 0 else 9
theorem less_iff {a b c d : Int} : orI (cmpI a c) (cmpI b d) < 0 ↔ ltS a b c d := by
 unfold orI cmpI ltS
 by_cases h1 : a < c
 ·
  simp [h1]
 by_cases h2 : c < a
 ·
  simp [h1, h2]; omega
 have : a = c := by omega
 subst this
 by_cases h3 : b < d
 ·
  simp [h3]
 by_cases h4 : d < b <;> simp [h3, h4]
def bad (d : Dd) : Bool := decide (¬ okT d.t)
theorem rw_eq (x y : Rw) : decide (x = y) = (decide (x.key = y.key) && decide (x.val = y.val)) := by
 have h : x = y ↔ x.key = y.key ∧ x.val = y.val := by cases x; cases y; simp
 by_cases h1 : x.key = y.key <;> by_cases h2 : x.val = y.val <;> simp [h, h1, h2]
set_option maxHeartbeats 1000000 in
theorem eqR (x y : Rw) (w : World) : (Op.equalIn 10000 115 (.agg (rv x).toArray) (.agg (rv y).toArray)).run Tryz.prog w = .ok (decide (x = y)) w := by
 have u9 := Tryz.underlying9
 have a9 := Tryz.isAgg9
 have z9 := Tryz.sizeOf9
 have hS : Tryz.prog.underlying 115 = some (.struct (Tryz.prog.fieldsOf 115)) := by kernel_rfl
 have hp : Tryz.prog.stoodInHeld 115 = false := by kernel_rfl
 rw [show (10000 : Nat) = 9999 + 1 from rfl, run_equalIn_struct w 9999 115 _ _ hS hp]
 simp only [Program.fieldsOf, Tryz.underlying115, rv]
 go_simp
 rw [rw_eq]
 by_cases h1 : x.key = y.key <;> by_cases h2 : x.val = y.val <;> simp [h1, h2, eqb_str, str_list]
theorem run_rw {o : Oper} {E : Env} {op : BinOp} {a b : Operand} {x y : Rw} {yt : TypeId} (hop : op = .eql ∨ op = .neq) (ho : o.op = .binOp op 115 a b yt) (hx : evalE E a = .agg (rv x).toArray) (hy : evalE E b = .agg (rv y).toArray) :
  ∀ w, (execOp (evalE E) o).run Tryz.prog w = .ok (.value (.bool (if op = .eql then decide (x = y) else decide (x ≠ y)))) w := by
 intro w
 have hm : Tryz.prog.eqGuardType Tryz.prog.depth 115 = false := by kernel_rfl
 have g : ∀ op a b u v, (eqGuard op 115 a b (.agg u) (.agg v)).run Tryz.prog w = .ok () w := fun op a b u v => run_eqGuard_agg w op 115 a b _ _ hm
 rcases hop with rfl | rfl
 ·
  simp [execOp, ho, hx, hy, run_eql_struct, eqR, g]
 simp [execOp, ho, hx, hy, run_neq_struct, eqR, g]

theorem Knows.reads_blk {L : List Chunk} {j g k n : Nat} {cs : List Value} {t : TypeId} (h : L[j]? = some (.blk g cs t)) (hn : cs.length = n * k := by rfl) : Knows L fun w => Reads w k (some ⟨g, 0, none⟩) n cs := fun w s => Sep.reads_blk ((s.perm (perm_at h)).cell) hn

theorem isnan_any (W : World) (L : List Chunk) (w : World) (x : Int) (s : St W L w) :
  Calls Tryz.prog 78 #[.int .i64 x] w fun e w' => e = .returned (.bool false) ∧ St W L w' := by
 refine enter_args (l := [.int .i64 x]) Tryz.func78 rfl rfl (Nat.le_of_ble_eq_true rfl) ?_
 intro a ha; replace ha : Has a 6 [(0, .int .i64 x)] := ha
 refine zn1 ?_
 refine zv (.bool false) ha ?_; clear ha; intro a ha
 refine zn4 ?_
 refine zv (.int .i64 x) ha ?_
 refine zzv (.int .i64 x) ?_
 refine zzw (.bool false) (run_known (bne_self_eq_false _) (show (execOp (evalE _) _).run _ _ = .ok (.value (.bool (x != x))) _ from by kernel_rfl)) ?_
 refine zzv (.bool false) ?_; clear ha; intro a ha
 refine zn2 ?_
 refine wp_ret ?_
 refine zzr (v := .bool false) ha ?_
 exact ⟨rfl, s⟩

theorem cmp_any (W : World) (L : List Chunk) (w : World) (x y : Int) (s : St W L w) :
  Calls Tryz.prog 64 #[.int .i64 x, .int .i64 y] w fun e w' => e = .returned (.int .i64 (cmpI x y)) ∧ St W L w' := by
 refine enter_args (l := [.int .i64 x, .int .i64 y]) Tryz.func64 rfl rfl (Nat.le_of_ble_eq_true rfl) ?_
 intro a ha; replace ha : Has a 20 [(0, .int .i64 x), (1, .int .i64 y)] := ha
 refine zn1 ?_
 refine zv (.int .i64 0) ha ?_; clear ha; intro a ha
 refine zn4 ?_
 refine zv (.int .i64 x) ha ?_; clear ha; intro a ha
 refine zzc ha (isnan_any W _ w x s) ?_
 rintro _ w ⟨rfl, s⟩
 refine ⟨_, rfl, ?_⟩; clear ha; intro a ha
 refine zv (.bool false) ha ?_; clear ha; intro a ha
 refine zn4 ?_
 refine zv (.int .i64 y) ha ?_; clear ha; intro a ha
 refine zzc ha (isnan_any W _ w y s) ?_
 rintro _ w ⟨rfl, s⟩
 refine ⟨_, rfl, ?_⟩; clear ha; intro a ha
 refine zv (.bool false) ha ?_; clear ha; intro a ha
 refine zn2 ?_
 refine wp_seq ?_
 refine zn1 ?_
 refine zv (.bool false) ha ?_; clear ha; intro a ha
 refine zn2 ?_
 refine wp_false ha rfl (by kernel_rfl) ?_
 refine wp_skip ?_
 refine then_normal ?_
 refine wp_seq ?_
 refine zn1 ?_
 refine zv (.bool false) ha ?_; clear ha; intro a ha
 refine zn2 ?_
 refine wp_false ha rfl (by kernel_rfl) ?_
 refine wp_skip ?_
 refine then_normal ?_
 refine wp_seq ?_
 refine zn1 ?_
 refine zv (.int .i64 x) ha ?_
 refine zzv (.int .i64 y) ?_
 refine zzv (.bool (decide (x < y))) ?_; clear ha; intro a ha
 refine zn2 ?_
 refine zzh (decide (x < y)) ha ?_ ?_ <;> intro hb
 ·
  rw [hb] at ha; replace hb : (x < y) := of_decide_eq_true hb
  refine zn1 ?_
  refine zv (.int .i64 (-1)) ha ?_; clear ha; intro a ha
  refine zn2 ?_
  refine zzt ?_
  refine zzr (v := .int .i64 (-1)) ha ?_
  refine ⟨?_, s⟩
  show _ = Ending.returned (.int .i64 (cmpI x y))
  unfold cmpI
  first | rw [if_pos (by omega)] | rw [if_neg (by omega), if_pos (by omega)] | rw [if_neg (by omega), if_neg (by omega)]
 rw [hb] at ha; replace hb : ¬ (x < y) := of_decide_eq_false hb
 refine wp_skip ?_
 refine then_normal ?_
 refine wp_seq ?_
 refine zn1 ?_
 refine zv (.int .i64 x) ha ?_
 refine zzv (.int .i64 y) ?_
 refine zzv (.bool (decide (x > y))) ?_; clear ha; intro a ha
 refine zn2 ?_
 refine zzh (decide (x > y)) ha ?_ ?_ <;> intro hb
 ·
  rw [hb] at ha; replace hb : (x > y) := of_decide_eq_true hb
  refine zn1 ?_
  refine zv (.int .i64 1) ha ?_; clear ha; intro a ha
  refine zn2 ?_
  refine zzt ?_
  refine zzr (v := .int .i64 1) ha ?_
  refine ⟨?_, s⟩
  show _ = Ending.returned (.int .i64 (cmpI x y))
  unfold cmpI
  first | rw [if_pos (by omega)] | rw [if_neg (by omega), if_pos (by omega)] | rw [if_neg (by omega), if_neg (by omega)]
 rw [hb] at ha; replace hb : ¬ (x > y) := of_decide_eq_false hb
 refine wp_skip ?_
 refine then_normal ?_
 refine zn1 ?_
 refine zv (.int .i64 0) ha ?_; clear ha; intro a ha
 refine zn2 ?_
 refine wp_ret ?_
 refine zzr (v := .int .i64 0) ha ?_
 refine ⟨?_, s⟩
 show _ = Ending.returned (.int .i64 (cmpI x y))
 unfold cmpI
 first | rw [if_pos (by omega)] | rw [if_neg (by omega), if_pos (by omega)] | rw [if_neg (by omega), if_neg (by omega)]

theorem or_any (W : World) (L : List Chunk) (w : World) (ad : Addr) (c : Nat) (x y : Int) (hr : Knows L fun w => Reads w 1 (some ad) 2 [.int .i64 x, .int .i64 y]) (s : St W L w) :
  Calls Tryz.prog 67 #[.slice (some ad) 2 c] w fun e w' => e = .returned (.int .i64 (orI x y)) ∧ St W L w' := by
 refine enter_args (l := [.slice (some ad) 2 c]) Tryz.func67 rfl rfl (Nat.le_of_ble_eq_true rfl) ?_
 intro a ha; replace ha : Has a 18 [(0, .slice (some ad) 2 c)] := ha
 refine zn1 ?_
 refine zv (.int .i64 0) ha ?_; clear ha; intro a ha
 refine zn4 ?_
 refine zv (.int .i64 0) ha ?_; clear ha; intro a ha
 refine zn2 ?_
 refine wp_seq ?_
 refine zn1 ?_
 refine zv (.slice (some ad) 2 c) ha ?_
 refine zzv (.int .i64 2) ?_
 refine zzv (.int .i64 0) ?_; clear ha; intro a ha
 refine zn2 ?_
 refine wp_block ?_
 refine wp_loop_rounds 3 ?_
 show Code.rounds _ _ _ 3 _ _
 rw [rounds_succ]
 refine zn1 ?_
 refine zv (.bool true) ha ?_; clear ha; intro a ha
 refine zn2 ?_
 refine wp_seq ?_
 refine wp_true ha rfl (by kernel_rfl) ?_
 refine wp_skip ?_
 refine then_normal ?_
 refine wp_seq ?_
 refine wp_block ?_
 refine zn1 ?_
 refine zw (.pointer (some (ad.add (0 * 1)))) ha (run_indexAddr' (kd := .i64) (i := 0) (n := 2) (c := c) 0 rfl Tryz.underlying54 Tryz.sizeOf3 (by kernel_rfl) (by kernel_rfl) rfl (by first | assumption | omega) _) ?_
 refine zzw (.int .i64 x) (run_loadRow1 (m := 0) ((hr _ s.sat)) rfl (by kernel_rfl) Tryz.isAgg3 rfl) ?_
 refine zzv (.int .i64 x) ?_; clear ha; intro a ha
 refine zn4 ?_
 refine zv (.int .i64 x) ha ?_
 refine zzv (.int .i64 0) ?_
 refine zzv (.bool (x != (0 : Int))) ?_; clear ha; intro a ha
 refine zn2 ?_
 refine zzh (x != (0 : Int)) ha ?_ ?_ <;> intro hb
 ·
  rw [hb] at ha; replace hb := zbn hb
  refine zn1 ?_
  refine zv (.int .i64 x) ha ?_
  refine zzv (.int .i64 x) ?_; clear ha; intro a ha
  refine zn2 ?_
  refine wp_ret ?_
  refine block_ret ?_
  refine then_ret ?_
  refine then_ret ?_
  refine block_ret ?_
  refine then_ret ?_
  refine zzr (v := .int .i64 x) ha ?_
  refine ⟨?_, s⟩
  show _ = Ending.returned (.int .i64 (orI x y))
  unfold orI
  first | rw [if_neg (by omega)] | (rw [if_pos (by omega)]; congr 2; omega) | rw [if_pos (by omega)]
 rw [hb] at ha; replace hb := zbq hb
 refine wp_skip ?_
 refine block_normal ?_
 refine then_normal ?_
 refine wp_region_lit ?_
 refine zv (.int .i64 1) ha ?_
 refine zzv (.int .i64 1) ?_; clear ha; intro a ha
 refine zn2 ?_
 show Code.rounds _ _ _ 2 _ _
 rw [rounds_succ]
 refine zn1 ?_
 refine zv (.bool true) ha ?_; clear ha; intro a ha
 refine zn2 ?_
 refine wp_seq ?_
 refine wp_true ha rfl (by kernel_rfl) ?_
 refine wp_skip ?_
 refine then_normal ?_
 refine wp_seq ?_
 refine wp_block ?_
 refine zn1 ?_
 refine zw (.pointer (some (ad.add (1 * 1)))) ha (run_indexAddr' (kd := .i64) (i := 1) (n := 2) (c := c) 1 rfl Tryz.underlying54 Tryz.sizeOf3 (by kernel_rfl) (by kernel_rfl) rfl (by first | assumption | omega) _) ?_
 refine zzw (.int .i64 y) (run_loadRow1 (m := 1) ((hr _ s.sat)) rfl (by kernel_rfl) Tryz.isAgg3 rfl) ?_
 refine zzv (.int .i64 y) ?_; clear ha; intro a ha
 refine zn4 ?_
 refine zv (.int .i64 y) ha ?_
 refine zzv (.int .i64 0) ?_
 refine zzv (.bool (y != (0 : Int))) ?_; clear ha; intro a ha
 refine zn2 ?_
 refine zzh (y != (0 : Int)) ha ?_ ?_ <;> intro hb
 ·
  rw [hb] at ha; replace hb := zbn hb
  refine zn1 ?_
  refine zv (.int .i64 y) ha ?_
  refine zzv (.int .i64 y) ?_; clear ha; intro a ha
  refine zn2 ?_
  refine wp_ret ?_
  refine block_ret ?_
  refine then_ret ?_
  refine then_ret ?_
  refine block_ret ?_
  refine then_ret ?_
  refine zzr (v := .int .i64 y) ha ?_
  refine ⟨?_, s⟩
  show _ = Ending.returned (.int .i64 (orI x y))
  unfold orI
  first | rw [if_neg (by omega)] | (rw [if_pos (by omega)]; congr 2; omega) | rw [if_pos (by omega)]
 rw [hb] at ha; replace hb := zbq hb
 refine wp_skip ?_
 refine block_normal ?_
 refine then_normal ?_
 refine wp_region_lit ?_
 refine zv (.int .i64 2) ha ?_
 refine zzv (.int .i64 2) ?_; clear ha; intro a ha
 refine zn2 ?_
 show Code.rounds _ _ _ 1 _ _
 rw [rounds_succ]
 refine zn1 ?_
 refine zv (.bool false) ha ?_; clear ha; intro a ha
 refine zn2 ?_
 refine wp_seq ?_
 refine wp_false ha rfl (by kernel_rfl) ?_
 refine wp_exit ?_
 refine then_exit ?_
 refine then_exit ?_
 refine block_hit ?_
 refine then_normal ?_
 refine zn1 ?_
 refine zv (.int .i64 0) ha ?_
 refine zzv (.int .i64 0) ?_; clear ha; intro a ha
 refine zn2 ?_
 refine wp_ret ?_
 refine zzr (v := .int .i64 0) ha ?_
 refine ⟨?_, s⟩
 show _ = Ending.returned (.int .i64 (orI x y))
 unfold orI
 first | rw [if_neg (by omega)] | (rw [if_pos (by omega)]; congr 2; omega) | rw [if_pos (by omega)]

theorem scmp_any (W : World) (L : List Chunk) (w : World) (za zb zc zd : Int) (s : St W L w) :
  Calls Tryz.prog 56 #[.agg #[.int .i64 za, .int .i64 zb], .agg #[.int .i64 zc, .int .i64 zd]] w fun e w' => e = .returned (.int .i64 (orI (cmpI za zc) (cmpI zb zd))) ∧ St W L w' := by
 refine enter_args (l := [.agg #[.int .i64 za, .int .i64 zb], .agg #[.int .i64 zc, .int .i64 zd]]) Tryz.func56 rfl rfl (Nat.le_of_ble_eq_true rfl) ?_
 intro a ha; replace ha : Has a 17 [(0, .agg #[.int .i64 za, .int .i64 zb]), (1, .agg #[.int .i64 zc, .int .i64 zd])] := ha
 refine zn1 ?_
 refine zze ha (ex_box [.int .i64 za, .int .i64 zb] s rfl (by kernel_rfl)) ?_
 clear ha; rintro _ w a ⟨g1, rfl, s⟩ ha
 refine zze ha (ex_box [.int .i64 zc, .int .i64 zd] s rfl (by kernel_rfl)) ?_
 clear ha; rintro _ w a ⟨g2, rfl, s⟩ ha
 refine zv (.int .i64 0) ha ?_; clear ha; intro a ha
 refine zn2 ?_
 refine wp_seq ?_
 refine wp_region_head 9 (fun w => BlkIs g1 [.int .i64 za, .int .i64 zb] w ∧ BlkIs g2 [.int .i64 zc, .int .i64 zd] w ∧ True) (by kernel_rfl) (by decide) ?_
 replace s := s.drew; generalize _root_.Go.World.drew _ = w at s ⊢
 have hS : (fun w => BlkIs g1 [.int .i64 za, .int .i64 zb] w ∧ BlkIs g2 [.int .i64 zc, .int .i64 zd] w ∧ True) w := ⟨s.blkIs 1 rfl, s.blkIs 0 rfl, trivial⟩
 refine yk (i := 0) (.pointer (some ⟨g1, 0, none⟩)) ha hS ?_
 refine yyv (i := 1) (.int .i64 za) (fun w hS => run_load1 (of_ := 0) hS.1 rfl (by kernel_rfl) Tryz.isAgg3 rfl) hS ?_
 refine yyk (i := 2) (.pointer (some ⟨g2, 0, none⟩)) hS ?_
 refine yyv (i := 3) (.int .i64 zc) (fun w hS => run_load1 (of_ := 0) hS.2.1 rfl (by kernel_rfl) Tryz.isAgg3 rfl) hS ?_
 refine yyk (i := 5) (.pointer (some ⟨g1, 1, none⟩)) hS ?_
 refine yyv (i := 6) (.int .i64 zb) (fun w hS => run_load1 (of_ := 1) hS.1 rfl (by kernel_rfl) Tryz.isAgg3 rfl) hS ?_
 refine yyk (i := 7) (.pointer (some ⟨g2, 1, none⟩)) hS ?_
 refine yyv (i := 8) (.int .i64 zd) (fun w hS => run_load1 (of_ := 1) hS.2.1 rfl (by kernel_rfl) Tryz.isAgg3 rfl) hS ?_; clear ha; intro a ha
 refine hd_call (i := 4) ha rfl (by kernel_rfl) (by kernel_rfl) (by kernel_rfl) (cmp_any W _ w za zc s) ?_
 clear hS; rintro _ w ⟨rfl, s⟩
 have hS : (fun w => BlkIs g1 [.int .i64 za, .int .i64 zb] w ∧ BlkIs g2 [.int .i64 zc, .int .i64 zd] w ∧ True) w := ⟨s.blkIs 1 rfl, s.blkIs 0 rfl, trivial⟩
 refine ⟨_, rfl, hS, ?_⟩; clear ha; intro a ha
 refine Head.done (by kernel_rfl) ?_
 clear hS; simp only [List.drop_succ_cons, List.drop_zero]
 refine zzc ha (cmp_any W _ w zb zd s) ?_
 rintro _ w ⟨rfl, s⟩
 refine ⟨_, rfl, ?_⟩; clear ha; intro a ha
 refine zze ha (ex_buildSlice elt54 _ zs54 [.int .i64 (cmpI za zc), .int .i64 (cmpI zb zd)] s rfl (by kernel_rfl) (by decide)) ?_
 clear ha; rintro _ w a ⟨g3, rfl, s⟩ ha
 refine zzc ha (or_any W _ w ⟨g3, 0, none⟩ 2 (cmpI za zc) (cmpI zb zd) (Knows.reads_blk (j := 0) rfl) s) ?_
 rintro _ w ⟨rfl, s⟩
 refine ⟨_, rfl, ?_⟩; clear ha; intro a ha
 refine zv (.int .i64 (orI (cmpI za zc) (cmpI zb zd))) ha ?_; clear ha; intro a ha
 refine zn2 ?_
 refine wp_ret ?_
 refine zzr (v := .int .i64 (orI (cmpI za zc) (cmpI zb zd))) ha ?_
 replace s := s.tail.tail.tail
 replace s : St W (L) w := s
 exact ⟨rfl, s⟩

theorem less_any (W : World) (L : List Chunk) (w : World) (za zb zc zd : Int) (s : St W L w) :
  Calls Tryz.prog 40 #[.agg #[.int .i64 za, .int .i64 zb], .agg #[.int .i64 zc, .int .i64 zd]] w fun e w' => e = .returned (.bool (decide (ltS za zb zc zd))) ∧ St W L w' := by
 refine enter_args (l := [.agg #[.int .i64 za, .int .i64 zb], .agg #[.int .i64 zc, .int .i64 zd]]) Tryz.func40 rfl rfl (Nat.le_of_ble_eq_true rfl) ?_
 intro a ha; replace ha : Has a 9 [(0, .agg #[.int .i64 za, .int .i64 zb]), (1, .agg #[.int .i64 zc, .int .i64 zd])] := ha
 refine zn1 ?_
 refine zze ha (ex_box [.int .i64 za, .int .i64 zb] s rfl (by kernel_rfl)) ?_
 clear ha; rintro _ w a ⟨g1, rfl, s⟩ ha
 refine zze ha (ex_box [.int .i64 zc, .int .i64 zd] s rfl (by kernel_rfl)) ?_
 clear ha; rintro _ w a ⟨g2, rfl, s⟩ ha
 refine zv (.bool false) ha ?_; clear ha; intro a ha
 refine zn4 ?_
 refine zw (.agg #[.int .i64 za, .int .i64 zb]) ha (zln 1 0) ?_
 refine zzw (.agg #[.int .i64 zc, .int .i64 zd]) (zln 0 0) ?_; clear ha; intro a ha
 refine zzc ha (scmp_any W _ w za zb zc zd s) ?_
 rintro _ w ⟨rfl, s⟩
 refine ⟨_, rfl, ?_⟩; clear ha; intro a ha
 refine zv (.bool (decide ((orI (cmpI za zc) (cmpI zb zd)) < (0 : Int)))) ha ?_
 refine zzv (.bool (decide ((orI (cmpI za zc) (cmpI zb zd)) < (0 : Int)))) ?_; clear ha; intro a ha
 refine zn2 ?_
 refine wp_ret ?_
 refine zzr (v := .bool (decide ((orI (cmpI za zc) (cmpI zb zd)) < (0 : Int)))) ha ?_
 replace s := s.tail.tail
 replace s : St W (L) w := s
 exact ⟨by rw [decide_eq_decide.2 (less_iff (a := za) (b := zb) (c := zc) (d := zd))], s⟩

theorem schk_any (W : World) (L : List Chunk) (w : World) (za zb : Int) (s : St W L w) :
  Calls Tryz.prog 34 #[.agg #[.int .i64 za, .int .i64 zb]] w fun e w' => e = .returned (.int .i64 (codeS za zb)) ∧ St W L w' := by
 refine enter_args (l := [.agg #[.int .i64 za, .int .i64 zb]]) Tryz.func34 rfl rfl (Nat.le_of_ble_eq_true rfl) ?_
 intro a ha; replace ha : Has a 21 [(0, .agg #[.int .i64 za, .int .i64 zb])] := ha
 refine zn1 ?_
 refine zze ha (ex_box [.int .i64 za, .int .i64 zb] s rfl (by kernel_rfl)) ?_
 clear ha; rintro _ w a ⟨g1, rfl, s⟩ ha
 refine zv (.int .i64 0) ha ?_; clear ha; intro a ha
 refine zn2 ?_
 refine wp_seq ?_
 refine zn1 ?_
 refine zv (.pointer (some ⟨g1, 0, none⟩)) ha ?_
 refine zzw (.int .i64 za) (zl1 0 0) ?_
 refine zzv (.bool (decide (za < (0 : Int)))) ?_
 refine zzv (.bool (decide (za < (0 : Int)))) ?_; clear ha; intro a ha
 rcases Bool.eq_false_or_eq_true (decide (za < (0 : Int))) with hb | hb
 ·
  rw [hb] at ha; replace hb : (za < (0 : Int)) := of_decide_eq_true hb
  refine zp ha ?_
  iterate 2 refine zzp ?_
  refine zzv (.bool true) ?_
  refine zzv (.bool true) ?_
  iterate 3 refine zzp ?_
  refine zzv (.bool true) ?_
  refine zzv (.bool true) ?_
  iterate 3 refine zzp ?_
  refine zzv (.bool true) ?_; clear ha; intro a ha
  refine zn2 ?_
  refine wp_true ha rfl (by kernel_rfl) ?_
  refine zn1 ?_
  refine zv (.int .i64 9) ha ?_; clear ha; intro a ha
  refine zn2 ?_
  refine zzt ?_
  refine zzr (v := .int .i64 9) ha ?_
  replace s := s.tail
  replace s : St W (L) w := s
  refine ⟨?_, s⟩
  unfold codeS
  first | rw [if_pos (show okS za zb by unfold okS; omega)] | rw [if_neg (show ¬ okS za zb by unfold okS; omega)]
 rw [hb] at ha; replace hb : ¬ (za < (0 : Int)) := of_decide_eq_false hb
 refine zv (.pointer (some ⟨g1, 0, none⟩)) ha ?_
 refine zzw (.int .i64 za) (zl1 0 0) ?_
 refine zzv (.bool (decide (za > (1099511627776 : Int)))) ?_
 refine zzv (.bool (decide (za > (1099511627776 : Int)))) ?_
 refine zzv (.bool (decide (za > (1099511627776 : Int)))) ?_; clear ha; intro a ha
 rcases Bool.eq_false_or_eq_true (decide (za > (1099511627776 : Int))) with hb | hb
 ·
  rw [hb] at ha; replace hb : (za > (1099511627776 : Int)) := of_decide_eq_true hb
  refine zp ha ?_
  iterate 2 refine zzp ?_
  refine zzv (.bool true) ?_
  refine zzv (.bool true) ?_
  iterate 3 refine zzp ?_
  refine zzv (.bool true) ?_; clear ha; intro a ha
  refine zn2 ?_
  refine wp_true ha rfl (by kernel_rfl) ?_
  refine zn1 ?_
  refine zv (.int .i64 9) ha ?_; clear ha; intro a ha
  refine zn2 ?_
  refine zzt ?_
  refine zzr (v := .int .i64 9) ha ?_
  replace s := s.tail
  replace s : St W (L) w := s
  refine ⟨?_, s⟩
  unfold codeS
  first | rw [if_pos (show okS za zb by unfold okS; omega)] | rw [if_neg (show ¬ okS za zb by unfold okS; omega)]
 rw [hb] at ha; replace hb : ¬ (za > (1099511627776 : Int)) := of_decide_eq_false hb
 refine zv (.pointer (some ⟨g1, 1, none⟩)) ha ?_
 refine zzw (.int .i64 zb) (zl1 0 1) ?_
 refine zzv (.bool (decide (zb < (0 : Int)))) ?_
 refine zzv (.bool (decide (zb < (0 : Int)))) ?_
 refine zzv (.bool (decide (zb < (0 : Int)))) ?_; clear ha; intro a ha
 rcases Bool.eq_false_or_eq_true (decide (zb < (0 : Int))) with hb | hb
 ·
  rw [hb] at ha; replace hb : (zb < (0 : Int)) := of_decide_eq_true hb
  refine zp ha ?_
  iterate 2 refine zzp ?_
  refine zzv (.bool true) ?_; clear ha; intro a ha
  refine zn2 ?_
  refine wp_true ha rfl (by kernel_rfl) ?_
  refine zn1 ?_
  refine zv (.int .i64 9) ha ?_; clear ha; intro a ha
  refine zn2 ?_
  refine zzt ?_
  refine zzr (v := .int .i64 9) ha ?_
  replace s := s.tail
  replace s : St W (L) w := s
  refine ⟨?_, s⟩
  unfold codeS
  first | rw [if_pos (show okS za zb by unfold okS; omega)] | rw [if_neg (show ¬ okS za zb by unfold okS; omega)]
 rw [hb] at ha; replace hb : ¬ (zb < (0 : Int)) := of_decide_eq_false hb
 refine zv (.pointer (some ⟨g1, 1, none⟩)) ha ?_
 refine zzw (.int .i64 zb) (zl1 0 1) ?_
 refine zzv (.bool (decide (zb > (1048575 : Int)))) ?_
 refine zzv (.bool (decide (zb > (1048575 : Int)))) ?_; clear ha; intro a ha
 refine zn2 ?_
 refine zzh (decide (zb > (1048575 : Int))) ha ?_ ?_ <;> intro hb
 ·
  rw [hb] at ha; replace hb : (zb > (1048575 : Int)) := of_decide_eq_true hb
  refine zn1 ?_
  refine zv (.int .i64 9) ha ?_; clear ha; intro a ha
  refine zn2 ?_
  refine zzt ?_
  refine zzr (v := .int .i64 9) ha ?_
  replace s := s.tail
  replace s : St W (L) w := s
  refine ⟨?_, s⟩
  unfold codeS
  first | rw [if_pos (show okS za zb by unfold okS; omega)] | rw [if_neg (show ¬ okS za zb by unfold okS; omega)]
 rw [hb] at ha; replace hb : ¬ (zb > (1048575 : Int)) := of_decide_eq_false hb
 refine wp_skip ?_
 refine then_normal ?_
 refine zn1 ?_
 refine zv (.int .i64 0) ha ?_; clear ha; intro a ha
 refine zn2 ?_
 refine wp_ret ?_
 refine zzr (v := .int .i64 0) ha ?_
 replace s := s.tail
 replace s : St W (L) w := s
 refine ⟨?_, s⟩
 unfold codeS
 first | rw [if_pos (show okS za zb by unfold okS; omega)] | rw [if_neg (show ¬ okS za zb by unfold okS; omega)]

theorem rschk_any (W : World) (L : List Chunk) (w : World) (za zb : Int) (s : St W L w) :
  Calls Tryz.prog 43 #[.agg #[.int .i64 za, .int .i64 zb]] w fun e w' => e = .returned (.int .i64 (codeS za zb)) ∧ St W L w' := by
 refine enter_args (l := [.agg #[.int .i64 za, .int .i64 zb]]) Tryz.func43 rfl rfl (Nat.le_of_ble_eq_true rfl) ?_
 intro a ha; replace ha : Has a 21 [(0, .agg #[.int .i64 za, .int .i64 zb])] := ha
 refine zn1 ?_
 refine zze ha (ex_box [.int .i64 za, .int .i64 zb] s rfl (by kernel_rfl)) ?_
 clear ha; rintro _ w a ⟨g1, rfl, s⟩ ha
 refine zv (.int .i64 0) ha ?_; clear ha; intro a ha
 refine zn2 ?_
 refine wp_seq ?_
 refine zn1 ?_
 refine zv (.pointer (some ⟨g1, 0, none⟩)) ha ?_
 refine zzw (.int .i64 za) (zl1 0 0) ?_
 refine zzv (.bool (decide (za < (0 : Int)))) ?_
 refine zzv (.bool (decide (za < (0 : Int)))) ?_; clear ha; intro a ha
 rcases Bool.eq_false_or_eq_true (decide (za < (0 : Int))) with hb | hb
 ·
  rw [hb] at ha; replace hb : (za < (0 : Int)) := of_decide_eq_true hb
  refine zp ha ?_
  iterate 2 refine zzp ?_
  refine zzv (.bool true) ?_
  refine zzv (.bool true) ?_
  iterate 3 refine zzp ?_
  refine zzv (.bool true) ?_
  refine zzv (.bool true) ?_
  iterate 3 refine zzp ?_
  refine zzv (.bool true) ?_; clear ha; intro a ha
  refine zn2 ?_
  refine wp_true ha rfl (by kernel_rfl) ?_
  refine zn1 ?_
  refine zv (.int .i64 9) ha ?_; clear ha; intro a ha
  refine zn2 ?_
  refine zzt ?_
  refine zzr (v := .int .i64 9) ha ?_
  replace s := s.tail
  replace s : St W (L) w := s
  refine ⟨?_, s⟩
  unfold codeS
  first | rw [if_pos (show okS za zb by unfold okS; omega)] | rw [if_neg (show ¬ okS za zb by unfold okS; omega)]
 rw [hb] at ha; replace hb : ¬ (za < (0 : Int)) := of_decide_eq_false hb
 refine zv (.pointer (some ⟨g1, 0, none⟩)) ha ?_
 refine zzw (.int .i64 za) (zl1 0 0) ?_
 refine zzv (.bool (decide (za > (1099511627776 : Int)))) ?_
 refine zzv (.bool (decide (za > (1099511627776 : Int)))) ?_
 refine zzv (.bool (decide (za > (1099511627776 : Int)))) ?_; clear ha; intro a ha
 rcases Bool.eq_false_or_eq_true (decide (za > (1099511627776 : Int))) with hb | hb
 ·
  rw [hb] at ha; replace hb : (za > (1099511627776 : Int)) := of_decide_eq_true hb
  refine zp ha ?_
  iterate 2 refine zzp ?_
  refine zzv (.bool true) ?_
  refine zzv (.bool true) ?_
  iterate 3 refine zzp ?_
  refine zzv (.bool true) ?_; clear ha; intro a ha
  refine zn2 ?_
  refine wp_true ha rfl (by kernel_rfl) ?_
  refine zn1 ?_
  refine zv (.int .i64 9) ha ?_; clear ha; intro a ha
  refine zn2 ?_
  refine zzt ?_
  refine zzr (v := .int .i64 9) ha ?_
  replace s := s.tail
  replace s : St W (L) w := s
  refine ⟨?_, s⟩
  unfold codeS
  first | rw [if_pos (show okS za zb by unfold okS; omega)] | rw [if_neg (show ¬ okS za zb by unfold okS; omega)]
 rw [hb] at ha; replace hb : ¬ (za > (1099511627776 : Int)) := of_decide_eq_false hb
 refine zv (.pointer (some ⟨g1, 1, none⟩)) ha ?_
 refine zzw (.int .i64 zb) (zl1 0 1) ?_
 refine zzv (.bool (decide (zb < (0 : Int)))) ?_
 refine zzv (.bool (decide (zb < (0 : Int)))) ?_
 refine zzv (.bool (decide (zb < (0 : Int)))) ?_; clear ha; intro a ha
 rcases Bool.eq_false_or_eq_true (decide (zb < (0 : Int))) with hb | hb
 ·
  rw [hb] at ha; replace hb : (zb < (0 : Int)) := of_decide_eq_true hb
  refine zp ha ?_
  iterate 2 refine zzp ?_
  refine zzv (.bool true) ?_; clear ha; intro a ha
  refine zn2 ?_
  refine wp_true ha rfl (by kernel_rfl) ?_
  refine zn1 ?_
  refine zv (.int .i64 9) ha ?_; clear ha; intro a ha
  refine zn2 ?_
  refine zzt ?_
  refine zzr (v := .int .i64 9) ha ?_
  replace s := s.tail
  replace s : St W (L) w := s
  refine ⟨?_, s⟩
  unfold codeS
  first | rw [if_pos (show okS za zb by unfold okS; omega)] | rw [if_neg (show ¬ okS za zb by unfold okS; omega)]
 rw [hb] at ha; replace hb : ¬ (zb < (0 : Int)) := of_decide_eq_false hb
 refine zv (.pointer (some ⟨g1, 1, none⟩)) ha ?_
 refine zzw (.int .i64 zb) (zl1 0 1) ?_
 refine zzv (.bool (decide (zb > (1048575 : Int)))) ?_
 refine zzv (.bool (decide (zb > (1048575 : Int)))) ?_; clear ha; intro a ha
 refine zn2 ?_
 refine zzh (decide (zb > (1048575 : Int))) ha ?_ ?_ <;> intro hb
 ·
  rw [hb] at ha; replace hb : (zb > (1048575 : Int)) := of_decide_eq_true hb
  refine zn1 ?_
  refine zv (.int .i64 9) ha ?_; clear ha; intro a ha
  refine zn2 ?_
  refine zzt ?_
  refine zzr (v := .int .i64 9) ha ?_
  replace s := s.tail
  replace s : St W (L) w := s
  refine ⟨?_, s⟩
  unfold codeS
  first | rw [if_pos (show okS za zb by unfold okS; omega)] | rw [if_neg (show ¬ okS za zb by unfold okS; omega)]
 rw [hb] at ha; replace hb : ¬ (zb > (1048575 : Int)) := of_decide_eq_false hb
 refine wp_skip ?_
 refine then_normal ?_
 refine zn1 ?_
 refine zv (.int .i64 0) ha ?_; clear ha; intro a ha
 refine zn2 ?_
 refine wp_ret ?_
 refine zzr (v := .int .i64 0) ha ?_
 replace s := s.tail
 replace s : St W (L) w := s
 refine ⟨?_, s⟩
 unfold codeS
 first | rw [if_pos (show okS za zb by unfold okS; omega)] | rw [if_neg (show ¬ okS za zb by unfold okS; omega)]

theorem rless_any (W : World) (L : List Chunk) (w : World) (za zb zc zd : Int) (s : St W L w) :
  Calls Tryz.prog 60 #[.agg #[.int .i64 za, .int .i64 zb], .agg #[.int .i64 zc, .int .i64 zd]] w fun e w' => e = .returned (.bool (decide (ltS za zb zc zd))) ∧ St W L w' := by
 refine enter_args (l := [.agg #[.int .i64 za, .int .i64 zb], .agg #[.int .i64 zc, .int .i64 zd]]) Tryz.func60 rfl rfl (Nat.le_of_ble_eq_true rfl) ?_
 intro a ha; replace ha : Has a 24 [(0, .agg #[.int .i64 za, .int .i64 zb]), (1, .agg #[.int .i64 zc, .int .i64 zd])] := ha
 refine zn1 ?_
 refine zze ha (ex_box [.int .i64 za, .int .i64 zb] s rfl (by kernel_rfl)) ?_
 clear ha; rintro _ w a ⟨g1, rfl, s⟩ ha
 refine zze ha (ex_box [.int .i64 zc, .int .i64 zd] s rfl (by kernel_rfl)) ?_
 clear ha; rintro _ w a ⟨g2, rfl, s⟩ ha
 refine zv (.bool false) ha ?_; clear ha; intro a ha
 refine zn4 ?_
 refine zv (.pointer (some ⟨g1, 0, none⟩)) ha ?_
 refine zzw (.int .i64 za) (zl1 1 0) ?_
 refine zzv (.pointer (some ⟨g2, 0, none⟩)) ?_
 refine zzw (.int .i64 zc) (zl1 0 0) ?_
 refine zzv (.bool (decide (za < zc))) ?_
 refine zzv (.bool (decide (za < zc))) ?_; clear ha; intro a ha
 rcases Bool.eq_false_or_eq_true (decide (za < zc)) with hb | hb
 ·
  rw [hb] at ha; replace hb : (za < zc) := of_decide_eq_true hb
  refine zp ha ?_
  iterate 11 refine zzp ?_
  refine zzv (.bool true) ?_
  refine zzv (.bool true) ?_; clear ha; intro a ha
  refine zn2 ?_
  refine wp_ret ?_
  refine zzr (v := .bool true) ha ?_
  replace s := s.tail.tail
  replace s : St W (L) w := s
  refine ⟨?_, s⟩
  congr 2
  unfold ltS
  first | exact (decide_eq_true (by omega)).symm | exact (decide_eq_false (by omega)).symm | exact decide_eq_decide.2 (by omega)
 rw [hb] at ha; replace hb : ¬ (za < zc) := of_decide_eq_false hb
 refine zv (.pointer (some ⟨g1, 0, none⟩)) ha ?_
 refine zzw (.int .i64 za) (zl1 1 0) ?_
 refine zzv (.pointer (some ⟨g2, 0, none⟩)) ?_
 refine zzw (.int .i64 zc) (zl1 0 0) ?_
 refine zzv (.bool (za == zc)) ?_
 refine zzv (.bool (za == zc)) ?_; clear ha; intro a ha
 rcases Bool.eq_false_or_eq_true (za == zc) with hb | hb
 ·
  rw [hb] at ha; replace hb := eq_of_beq hb
  refine zv (.pointer (some ⟨g1, 1, none⟩)) ha ?_
  refine zzw (.int .i64 zb) (zl1 1 1) ?_
  refine zzv (.pointer (some ⟨g2, 1, none⟩)) ?_
  refine zzw (.int .i64 zd) (zl1 0 1) ?_
  refine zzv (.bool (decide (zb < zd))) ?_
  refine zzv (.bool (decide (zb < zd))) ?_
  refine zzv (.bool (decide (zb < zd))) ?_
  refine zzv (.bool (decide (zb < zd))) ?_; clear ha; intro a ha
  refine zn2 ?_
  refine wp_ret ?_
  refine zzr (v := .bool (decide (zb < zd))) ha ?_
  replace s := s.tail.tail
  replace s : St W (L) w := s
  refine ⟨?_, s⟩
  congr 2
  unfold ltS
  first | exact (decide_eq_true (by omega)).symm | exact (decide_eq_false (by omega)).symm | exact decide_eq_decide.2 (by omega)
 rw [hb] at ha; replace hb := ne_of_beq_false hb
 refine zp ha ?_
 iterate 4 refine zzp ?_
 refine zzv (.bool false) ?_
 refine zzv (.bool false) ?_
 refine zzv (.bool false) ?_; clear ha; intro a ha
 refine zn2 ?_
 refine wp_ret ?_
 refine zzr (v := .bool false) ha ?_
 replace s := s.tail.tail
 replace s : St W (L) w := s
 refine ⟨?_, s⟩
 congr 2
 unfold ltS
 first | exact (decide_eq_true (by omega)).symm | exact (decide_eq_false (by omega)).symm | exact decide_eq_decide.2 (by omega)

theorem bad_any (W : World) (L : List Chunk) (w : World) (d : Dd) (s : St W L w) :
  Calls Tryz.prog 75 #[.agg (dv d).toArray] w fun e w' => e = .returned (.bool (bad d)) ∧ St W L w' := by
 refine enter_args (l := [.agg (dv d).toArray]) Tryz.func75 rfl rfl (Nat.le_of_ble_eq_true rfl) ?_
 intro a ha; replace ha : Has a 11 [(0, .agg (dv d).toArray)] := ha
 refine zn1 ?_
 refine zze ha (ex_box (dv d) s rfl (by kernel_rfl)) ?_
 clear ha; rintro _ w a ⟨g1, rfl, s⟩ ha
 refine zv (.bool false) ha ?_; clear ha; intro a ha
 refine zn4 ?_
 refine zv (.pointer (some ⟨g1, 0, none⟩)) ha ?_
 refine zzw (.int .i64 d.t.op) (zl1 0 0) ?_
 refine zzv (.bool (decide (d.t.op < (1 : Int)))) ?_
 refine zzv (.bool (decide (d.t.op < (1 : Int)))) ?_; clear ha; intro a ha
 rcases Bool.eq_false_or_eq_true (decide (d.t.op < (1 : Int))) with hb | hb
 ·
  rw [hb] at ha; replace hb : (d.t.op < (1 : Int)) := of_decide_eq_true hb
  refine zp ha ?_
  iterate 2 refine zzp ?_
  refine zzv (.bool true) ?_
  refine zzv (.bool true) ?_; clear ha; intro a ha
  refine zn2 ?_
  refine wp_ret ?_
  refine zzr (v := .bool true) ha ?_
  replace s := s.tail
  replace s : St W (L) w := s
  refine ⟨?_, s⟩
  congr 2
  unfold bad okT
  first | exact (decide_eq_true (by omega)).symm | exact (decide_eq_false (by omega)).symm | exact decide_eq_decide.2 (by omega)
 rw [hb] at ha; replace hb : ¬ (d.t.op < (1 : Int)) := of_decide_eq_false hb
 refine zv (.pointer (some ⟨g1, 0, none⟩)) ha ?_
 refine zzw (.int .i64 d.t.op) (zl1 0 0) ?_
 refine zzv (.bool (decide (d.t.op > (5 : Int)))) ?_
 refine zzv (.bool (decide (d.t.op > (5 : Int)))) ?_
 refine zzv (.bool (decide (d.t.op > (5 : Int)))) ?_; clear ha; intro a ha
 refine zn2 ?_
 refine wp_ret ?_
 refine zzr (v := .bool (decide (d.t.op > (5 : Int)))) ha ?_
 replace s := s.tail
 replace s : St W (L) w := s
 refine ⟨?_, s⟩
 congr 2
 unfold bad okT
 first | exact (decide_eq_true (by omega)).symm | exact (decide_eq_false (by omega)).symm | exact decide_eq_decide.2 (by omega)

theorem index_bad (W : World) (L : List Chunk) (w : World) (A : Option Addr) (ca : Nat) (l : List Dd) (hr : Knows L (DidsIn A l)) (hn : l.length ≤ 140737488351232) (s : St W L w) :
  Calls Tryz.prog 81 #[.slice A l.length ca, .func (.func 75) #[] #[]] w fun e w' => ∃ r, e = .returned (.int .i64 r) ∧ decide (r ≥ (0 : Int)) = l.any bad ∧ St W L w' := by
 refine enter_args (l := [.slice A l.length ca, .func (.func 75) #[] #[]]) Tryz.func81 rfl rfl (Nat.le_of_ble_eq_true rfl) ?_
 intro a ha; replace ha : Has a 19 [(0, .slice A l.length ca), (1, .func (.func 75) #[] #[])] := ha
 refine zn1 ?_
 refine zv (.int .i64 0) ha ?_; clear ha; intro a ha
 refine zn2 ?_
 refine wp_seq ?_
 refine zn1 ?_
 refine zv (.slice A l.length ca) ha ?_
 refine zzv (.int .i64 ((l.length : Nat) : Int)) ?_
 refine zzv (.int .i64 0) ?_; clear ha; intro a ha
 refine zn2 ?_
 refine wp_block ?_
 refine wp_loopG (G := Nat) (fun k a w => Has a 19 [(0, .slice A l.length ca), (1, .func (.func 75) #[] #[]), (7, .int .i64 ((l.length : Nat) : Int)), (8, .int .i64 ((k : Nat) : Int))] ∧ St W (L) w ∧ (k ≤ l.length ∧ (l.take k).any bad = false)) (fun k => l.length - k) 0 ?_ ?_
 ·
  exact ⟨(Has.cons ha (by kernel_rfl) (by kernel_rfl) (Has.cons ha (by kernel_rfl) (by kernel_rfl) (Has.cons ha (by kernel_rfl) (by kernel_rfl) (Has.cons ha (by kernel_rfl) (by kernel_rfl) (Has.nil ha))))), s, ⟨Nat.zero_le _, rfl⟩⟩
 clear ha s; rintro k a w ⟨ha, s, hp⟩
 refine zn1 ?_
 refine zv (.bool (decide (((k : Nat) : Int) < ((l.length : Nat) : Int)))) ha ?_; clear ha; intro a ha
 refine zn2 ?_
 refine wp_seq ?_
 refine zzh (decide (((k : Nat) : Int) < ((l.length : Nat) : Int))) ha ?_ ?_ <;> intro hb
 ·
  rw [hb] at ha; replace hb : (((k : Nat) : Int) < ((l.length : Nat) : Int)) := of_decide_eq_true hb
  obtain ⟨v, hv⟩ : ∃ v, l[k]? = some v := ⟨_, List.getElem?_eq_getElem (by omega)⟩
  obtain ⟨ad, hA⟩ := Reads.addr (hr _ s.sat).1 (by omega)
  subst hA
  refine wp_skip ?_
  refine then_normal ?_
  refine wp_seq ?_
  refine wp_block ?_
  refine zn1 ?_
  refine zv (.int .i64 ((k : Nat) : Int)) ha ?_
  refine zzv (.int .i64 ((k : Nat) : Int)) ?_; clear ha; intro a ha
  refine zn4 ?_
  refine zv (.func (.func 75) #[] #[]) ha ?_
  refine zzv (.slice (some ad) l.length ca) ?_
  refine zzv (.int .i64 ((k : Nat) : Int)) ?_
  refine zzw (.pointer (some (ad.add (k * 7)))) (run_indexAddr' (kd := .i64) (i := ((k : Nat) : Int)) (n := l.length) (c := ca) k rfl Tryz.underlying75 Tryz.sizeOf79 (by kernel_rfl) (by kernel_rfl) rfl (by first | assumption | omega) _) ?_
  refine zzw (.agg (dv v).toArray) (run_loadAtN (i := k * 7) (dv v) ((hr _ s.sat).1) rfl (by kernel_rfl) Tryz.isAgg79 Tryz.sizeOf79 (fun q_ hq_ => dvs_at hv hq_) rfl) ?_; clear ha; intro a ha
  refine zzc ha (bad_any W _ w v s) ?_
  rintro _ w ⟨rfl, s⟩
  refine ⟨_, rfl, ?_⟩; clear ha; intro a ha
  refine zn2 ?_
  refine zzh (bad v) ha ?_ ?_ <;> intro hb
  ·
   rw [hb] at ha; skip
   refine zn1 ?_
   refine zv (.int .i64 ((k : Nat) : Int)) ha ?_
   refine zzv (.int .i64 ((k : Nat) : Int)) ?_; clear ha; intro a ha
   refine zn2 ?_
   refine wp_ret ?_
   refine block_ret ?_
   refine then_ret ?_
   refine then_ret ?_
   refine block_ret ?_
   refine then_ret ?_
   refine zzr (v := .int .i64 ((k : Nat) : Int)) ha ?_
   refine ⟨_, rfl, ?_, s⟩
   rw [decide_eq_true (by omega)]
   exact (List.any_eq_true.2 ⟨v, List.mem_of_getElem? hv, hb⟩).symm
  rw [hb] at ha; skip
  refine wp_skip ?_
  refine block_normal ?_
  refine then_normal ?_
  refine wp_region_lit ?_
  refine zw (.int .i64 ((k + 1 : Nat) : Int)) ha zar ?_
  refine zzv (.int .i64 ((k + 1 : Nat) : Int)) ?_; clear ha; intro a ha
  refine zn2 ?_
  exact ⟨k + 1, by omega, (Has.cons ha (by kernel_rfl) (by kernel_rfl) (Has.cons ha (by kernel_rfl) (by kernel_rfl) (Has.cons ha (by kernel_rfl) (by kernel_rfl) (Has.cons ha (by kernel_rfl) (by kernel_rfl) (Has.nil ha))))), s, by omega, by rw [take_snoc hv, List.any_append, hp.2]; simp [hb]⟩
 rw [hb] at ha; replace hb : ¬ (((k : Nat) : Int) < ((l.length : Nat) : Int)) := of_decide_eq_false hb
 refine wp_exit ?_
 refine then_exit ?_
 refine then_exit ?_
 refine block_hit ?_
 refine then_normal ?_
 refine zn1 ?_
 refine zv (.int .i64 (-1)) ha ?_; clear ha; intro a ha
 refine zn2 ?_
 refine wp_ret ?_
 refine zzr (v := .int .i64 (-1)) ha ?_
 refine ⟨_, rfl, ?_, s⟩
 have h2 := hp.2
 rw [List.take_of_length_le (by omega)] at h2
 rw [h2]; rfl

theorem contains_bad (W : World) (L : List Chunk) (w : World) (A : Option Addr) (ca : Nat) (l : List Dd) (hr : Knows L (DidsIn A l)) (hn : l.length ≤ 140737488351232) (s : St W L w) :
  Calls Tryz.prog 74 #[.slice A l.length ca, .func (.func 75) #[] #[]] w fun e w' => e = .returned (.bool (l.any bad)) ∧ St W L w' := by
 refine enter_args (l := [.slice A l.length ca, .func (.func 75) #[] #[]]) Tryz.func74 rfl rfl (Nat.le_of_ble_eq_true rfl) ?_
 intro a ha; replace ha : Has a 9 [(0, .slice A l.length ca), (1, .func (.func 75) #[] #[])] := ha
 refine zn1 ?_
 refine zv (.bool false) ha ?_; clear ha; intro a ha
 refine zn4 ?_
 refine zv (.slice A l.length ca) ha ?_
 refine zzv (.func (.func 75) #[] #[]) ?_; clear ha; intro a ha
 refine zzc ha (index_bad W _ w A ca l (fun w s => hr w s) hn s) ?_
 rintro _ w ⟨r, rfl, hrb, s⟩
 refine ⟨_, rfl, ?_⟩; clear ha; intro a ha
 refine zv (.bool (decide (r ≥ (0 : Int)))) ha ?_
 refine zzv (.bool (decide (r ≥ (0 : Int)))) ?_; clear ha; intro a ha
 refine zn2 ?_
 refine wp_ret ?_
 refine zzr (v := .bool (decide (r ≥ (0 : Int)))) ha ?_
 exact ⟨by rw [hrb], s⟩

end Go.Proofs.YtfcbjcohepkkfaaGreat.B
