import Derived.Test.YtfcbjcohepkkfaaB0
import Derived.Test.YtfcbjcohepkkfaaSepH
namespace Go.Proofs.Ytfcbjcohepkkfaa.B
open Go.RowKit Go.Maps Go.Sort Go.Shelf Go.Proofs.Ytfcbjcohepkkfaa.Sep Go.Proofs.Ytfcbjcohepkkfaa.P
set_option linter.unusedVariables false
set_option linter.unusedSimpArgs false
def cmpI (x y : Int) : Int := if x < y then -1 else if y < x then 1 else 0
def orI (x y : Int) : Int := if x = 0 then y else x
/-- One stamp stands ahead of another one. -/
def ltS (a b c d : Int) : Prop := a < c ∨ (a = c ∧ b < d)
instance (a b c d : Int) : Decidable (ltS a b c d) := by unfold ltS; infer_instance
def okS (a b : Int) : Prop := 0 ≤ a ∧ a ≤ 1099511627776 ∧ 0 ≤ b ∧ b ≤ 1048575
instance (a b : Int) : Decidable (okS a b) := by unfold okS; infer_instance
def codeS (a b : Int) : Int := if okS a b then 0 else 9
theorem less_iff {a b c d : Int} : orI (cmpI a c) (cmpI b d) < 0 ↔ ltS a b c d := by
  unfold orI cmpI ltS
  by_cases h1 : a < c
  · simp [h1]
  · by_cases h2 : c < a
    · simp [h1, h2]; omega
    · have : a = c := by omega
      subst this
      by_cases h3 : b < d
      · simp [h3]
      · by_cases h4 : d < b <;> simp [h3, h4]
abbrev ints (l : List Int) : List Value := l.map encI
theorem ints_one (l : List Int) : ∀ u ∈ ints l, u.oneCell' = true := by
  intro u hu
  obtain ⟨x, _, rfl⟩ := List.mem_map.1 hu
  rfl
theorem ints_at {l : List Int} {i : Nat} {x : Int} (h : l[i]? = some x) : (ints l)[i]? = some (.int .i64 x) := by simp [ints, h, encI]
def bad (d : Dd) : Bool := decide (¬ okT d.t)
theorem rw_eq (x y : Rw) : decide (x = y) = (decide (x.key = y.key) && decide (x.val = y.val)) := by
  have h : x = y ↔ x.key = y.key ∧ x.val = y.val := by cases x; cases y; simp
  by_cases h1 : x.key = y.key <;> by_cases h2 : x.val = y.val <;> simp [h, h1, h2]
set_option maxHeartbeats 1000000 in
theorem eqR (x y : Rw) (w : World) : (Op.equalIn 10000 92 (.agg (rv x).toArray) (.agg (rv y).toArray)).run Try.prog w = .ok (decide (x = y)) w := by
  have u9 := Try.underlying9
  have a9 := Try.isAgg9
  have z9 := Try.sizeOf9
  have hS : Try.prog.underlying 92 = some (.struct (Try.prog.fieldsOf 92)) := by kernel_rfl
  have hp : Try.prog.stoodInHeld 92 = false := by kernel_rfl
  rw [show (10000 : Nat) = 9999 + 1 from rfl, run_equalIn_struct w 9999 92 _ _ hS hp]
  simp only [Program.fieldsOf, Try.underlying92, rv]
  go_simp
  rw [rw_eq]
  by_cases h1 : x.key = y.key <;> by_cases h2 : x.val = y.val <;> simp [h1, h2, eqb_str, str_list]
theorem run_rw {o : Oper} {E : Env} {op : BinOp} {a b : Operand} {x y : Rw} {yt : TypeId} (hop : op = .eql ∨ op = .neq) (ho : o.op = .binOp op 92 a b yt) (hx : evalE E a = .agg (rv x).toArray) (hy : evalE E b = .agg (rv y).toArray) :
    ∀ w, (execOp (evalE E) o).run Try.prog w = .ok (.value (.bool (if op = .eql then decide (x = y) else decide (x ≠ y)))) w := by
  intro w
  have hm : Try.prog.eqGuardType Try.prog.depth 92 = false := by kernel_rfl
  have g : ∀ op a b u v, (eqGuard op 92 a b (.agg u) (.agg v)).run Try.prog w = .ok () w := fun op a b u v => run_eqGuard_agg w op 92 a b _ _ hm
  rcases hop with rfl | rfl
  · simp [execOp, ho, hx, hy, run_eql_struct, eqR, g]
  · simp [execOp, ho, hx, hy, run_neq_struct, eqR, g]

theorem Knows.reads_blk {L : List Chunk} {j g k n : Nat} {cs : List Value} {t : TypeId} (h : L[j]? = some (.blk g cs t)) (hn : cs.length = n * k := by rfl) : Knows L fun w => Reads w k (some ⟨g, 0, none⟩) n cs := fun w s => Sep.reads_blk ((s.perm (perm_at h)).cell) hn

theorem isnan_any (W : World) (L : List Chunk) (w : World) (x : Int) (s : St W L w) :
    Calls Try.prog 50 #[.int .i64 x] w fun e w' => e = .returned (.bool false) ∧ St W L w' := by
  refine enter_args (l := [.int .i64 x]) Try.func50 rfl rfl (Nat.le_of_ble_eq_true rfl) ?_
  intro a ha; replace ha : Has a 6 [(0, .int .i64 x)] := ha
  refine wp_seq ?_
  refine wp_region_lit ?_
  refine st_val (.bool false) ha (by kernel_rfl) (by kernel_rfl) ?_
  clear ha; intro a ha
  refine wpList_nil ?_
  refine then_normal ?_
  refine wp_seq ?_
  refine wp_region_lit ?_
  refine st_val (.int .i64 x) ha (by kernel_rfl) (by kernel_rfl) ?_
  clear ha; intro a ha
  refine st_val (.int .i64 x) ha (by kernel_rfl) (by kernel_rfl) ?_
  clear ha; intro a ha
  refine st_val (.bool false) ha (by kernel_rfl) (run_known (bne_self_eq_false _) (show (execOp (evalE _) _).run _ _ = .ok (.value (.bool (x != x))) _ from by kernel_rfl)) ?_
  clear ha; intro a ha
  refine st_val (.bool false) ha (by kernel_rfl) (by kernel_rfl) ?_
  clear ha; intro a ha
  refine wpList_nil ?_
  refine then_normal ?_
  refine wp_ret ?_
  refine ret_with (v := .bool false) ha (results_1 rfl ha (res_tmp (by kernel_rfl) (by kernel_rfl))) ?_
  exact ⟨rfl, s⟩

theorem cmp_any (W : World) (L : List Chunk) (w : World) (x y : Int) (s : St W L w) :
    Calls Try.prog 42 #[.int .i64 x, .int .i64 y] w fun e w' => e = .returned (.int .i64 (cmpI x y)) ∧ St W L w' := by
  refine enter_args (l := [.int .i64 x, .int .i64 y]) Try.func42 rfl rfl (Nat.le_of_ble_eq_true rfl) ?_
  intro a ha; replace ha : Has a 20 [(0, .int .i64 x), (1, .int .i64 y)] := ha
  refine wp_seq ?_
  refine wp_region_lit ?_
  refine st_val (.int .i64 0) ha (by kernel_rfl) (by kernel_rfl) ?_
  clear ha; intro a ha
  refine wpList_nil ?_
  refine then_normal ?_
  refine wp_seq ?_
  refine wp_region_lit ?_
  refine st_val (.int .i64 x) ha (by kernel_rfl) (by kernel_rfl) ?_
  clear ha; intro a ha
  refine st_call ha (by kernel_rfl) (by kernel_rfl) (isnan_any W _ w x s) ?_
  rintro _ w ⟨rfl, s⟩
  replace s : St W (L) w := s
  refine ⟨_, rfl, ?_⟩; clear ha; intro a ha
  refine st_val (.bool false) ha (by kernel_rfl) (by kernel_rfl) ?_
  clear ha; intro a ha
  refine wpList_nil ?_
  refine then_normal ?_
  refine wp_seq ?_
  refine wp_region_lit ?_
  refine st_val (.int .i64 y) ha (by kernel_rfl) (by kernel_rfl) ?_
  clear ha; intro a ha
  refine st_call ha (by kernel_rfl) (by kernel_rfl) (isnan_any W _ w y s) ?_
  rintro _ w ⟨rfl, s⟩
  replace s : St W (L) w := s
  refine ⟨_, rfl, ?_⟩; clear ha; intro a ha
  refine st_val (.bool false) ha (by kernel_rfl) (by kernel_rfl) ?_
  clear ha; intro a ha
  refine wpList_nil ?_
  refine then_normal ?_
  refine wp_seq ?_
  refine wp_seq ?_
  refine wp_region_lit ?_
  refine st_val (.bool false) ha (by kernel_rfl) (by kernel_rfl) ?_
  clear ha; intro a ha
  refine wpList_nil ?_
  refine then_normal ?_
  refine wp_false ha rfl (by kernel_rfl) ?_
  refine wp_skip ?_
  refine then_normal ?_
  refine wp_seq ?_
  refine wp_seq ?_
  refine wp_region_lit ?_
  refine st_val (.bool false) ha (by kernel_rfl) (by kernel_rfl) ?_
  clear ha; intro a ha
  refine wpList_nil ?_
  refine then_normal ?_
  refine wp_false ha rfl (by kernel_rfl) ?_
  refine wp_skip ?_
  refine then_normal ?_
  refine wp_seq ?_
  refine wp_seq ?_
  refine wp_region_lit ?_
  refine st_val (.int .i64 x) ha (by kernel_rfl) (by kernel_rfl) ?_
  clear ha; intro a ha
  refine st_val (.int .i64 y) ha (by kernel_rfl) (by kernel_rfl) ?_
  clear ha; intro a ha
  refine st_val (.bool (decide (x < y))) ha (by kernel_rfl) (by kernel_rfl) ?_
  clear ha; intro a ha
  refine wpList_nil ?_
  refine then_normal ?_
  refine wp_part (decide (x < y)) ha rfl (by kernel_rfl) (fun hb => ?_) (fun hb => ?_)
  · rw [hb] at ha; replace hb : (x < y) := of_decide_eq_true hb
    refine wp_seq ?_
    refine wp_region_lit ?_
    refine st_val (.int .i64 (-1)) ha (by kernel_rfl) (by kernel_rfl) ?_
    clear ha; intro a ha
    refine wpList_nil ?_
    refine then_normal ?_
    refine wp_ret ?_
    refine then_ret ?_
    refine ret_with (v := .int .i64 (-1)) ha (results_1 rfl ha (res_tmp (by kernel_rfl) (by kernel_rfl))) ?_
    refine ⟨?_, s⟩
    show _ = Ending.returned (.int .i64 (cmpI x y))
    unfold cmpI
    first | rw [if_pos (by omega)] | rw [if_neg (by omega), if_pos (by omega)] | rw [if_neg (by omega), if_neg (by omega)]
  · rw [hb] at ha; replace hb : ¬ (x < y) := of_decide_eq_false hb
    refine wp_skip ?_
    refine then_normal ?_
    refine wp_seq ?_
    refine wp_seq ?_
    refine wp_region_lit ?_
    refine st_val (.int .i64 x) ha (by kernel_rfl) (by kernel_rfl) ?_
    clear ha; intro a ha
    refine st_val (.int .i64 y) ha (by kernel_rfl) (by kernel_rfl) ?_
    clear ha; intro a ha
    refine st_val (.bool (decide (x > y))) ha (by kernel_rfl) (by kernel_rfl) ?_
    clear ha; intro a ha
    refine wpList_nil ?_
    refine then_normal ?_
    refine wp_part (decide (x > y)) ha rfl (by kernel_rfl) (fun hb => ?_) (fun hb => ?_)
    · rw [hb] at ha; replace hb : (x > y) := of_decide_eq_true hb
      refine wp_seq ?_
      refine wp_region_lit ?_
      refine st_val (.int .i64 1) ha (by kernel_rfl) (by kernel_rfl) ?_
      clear ha; intro a ha
      refine wpList_nil ?_
      refine then_normal ?_
      refine wp_ret ?_
      refine then_ret ?_
      refine ret_with (v := .int .i64 1) ha (results_1 rfl ha (res_tmp (by kernel_rfl) (by kernel_rfl))) ?_
      refine ⟨?_, s⟩
      show _ = Ending.returned (.int .i64 (cmpI x y))
      unfold cmpI
      first | rw [if_pos (by omega)] | rw [if_neg (by omega), if_pos (by omega)] | rw [if_neg (by omega), if_neg (by omega)]
    · rw [hb] at ha; replace hb : ¬ (x > y) := of_decide_eq_false hb
      refine wp_skip ?_
      refine then_normal ?_
      refine wp_seq ?_
      refine wp_region_lit ?_
      refine st_val (.int .i64 0) ha (by kernel_rfl) (by kernel_rfl) ?_
      clear ha; intro a ha
      refine wpList_nil ?_
      refine then_normal ?_
      refine wp_ret ?_
      refine ret_with (v := .int .i64 0) ha (results_1 rfl ha (res_tmp (by kernel_rfl) (by kernel_rfl))) ?_
      refine ⟨?_, s⟩
      show _ = Ending.returned (.int .i64 (cmpI x y))
      unfold cmpI
      first | rw [if_pos (by omega)] | rw [if_neg (by omega), if_pos (by omega)] | rw [if_neg (by omega), if_neg (by omega)]

theorem or_any (W : World) (L : List Chunk) (w : World) (ad : Addr) (c : Nat) (x y : Int) (hr : Knows L fun w => Reads w 1 (some ad) 2 [.int .i64 x, .int .i64 y]) (s : St W L w) :
    Calls Try.prog 45 #[.slice (some ad) 2 c] w fun e w' => e = .returned (.int .i64 (orI x y)) ∧ St W L w' := by
  refine enter_args (l := [.slice (some ad) 2 c]) Try.func45 rfl rfl (Nat.le_of_ble_eq_true rfl) ?_
  intro a ha; replace ha : Has a 18 [(0, .slice (some ad) 2 c)] := ha
  refine wp_seq ?_
  refine wp_region_lit ?_
  refine st_val (.int .i64 0) ha (by kernel_rfl) (by kernel_rfl) ?_
  clear ha; intro a ha
  refine wpList_nil ?_
  refine then_normal ?_
  refine wp_seq ?_
  refine wp_region_lit ?_
  refine st_val (.int .i64 0) ha (by kernel_rfl) (by kernel_rfl) ?_
  clear ha; intro a ha
  refine wpList_nil ?_
  refine then_normal ?_
  refine wp_seq ?_
  refine wp_seq ?_
  refine wp_region_lit ?_
  refine st_val (.slice (some ad) 2 c) ha (by kernel_rfl) (by kernel_rfl) ?_
  clear ha; intro a ha
  refine st_val (.int .i64 2) ha (by kernel_rfl) (by kernel_rfl) ?_
  clear ha; intro a ha
  refine st_val (.int .i64 0) ha (by kernel_rfl) (by kernel_rfl) ?_
  clear ha; intro a ha
  refine wpList_nil ?_
  refine then_normal ?_
  refine wp_block ?_
  refine wp_loop_rounds 3 ?_
  show Code.rounds _ _ _ 3 _ _
  rw [rounds_succ]
  refine wp_seq ?_
  refine wp_region_lit ?_
  refine st_val (.bool true) ha (by kernel_rfl) (by kernel_rfl) ?_
  clear ha; intro a ha
  refine wpList_nil ?_
  refine then_normal ?_
  refine wp_seq ?_
  refine wp_true ha rfl (by kernel_rfl) ?_
  refine wp_skip ?_
  refine then_normal ?_
  refine wp_seq ?_
  refine wp_block ?_
  refine wp_seq ?_
  refine wp_region_lit ?_
  refine st_val (.pointer (some (ad.add (0 * 1)))) ha (by kernel_rfl) (run_indexAddr' (kd := .i64) (i := 0) (n := 2) (c := c) 0 rfl Try.underlying59 Try.sizeOf3 (by kernel_rfl) (by kernel_rfl) rfl (by first | assumption | omega) _) ?_
  clear ha; intro a ha
  refine st_val (.int .i64 x) ha (by kernel_rfl) (run_loadRow1 (m := 0) ((hr _ s.sat)) rfl (by kernel_rfl) Try.isAgg3 rfl) ?_
  clear ha; intro a ha
  refine st_val (.int .i64 x) ha (by kernel_rfl) (by kernel_rfl) ?_
  clear ha; intro a ha
  refine wpList_nil ?_
  refine then_normal ?_
  refine wp_seq ?_
  refine wp_region_lit ?_
  refine st_val (.int .i64 x) ha (by kernel_rfl) (by kernel_rfl) ?_
  clear ha; intro a ha
  refine st_val (.int .i64 0) ha (by kernel_rfl) (by kernel_rfl) ?_
  clear ha; intro a ha
  refine st_val (.bool (x != (0 : Int))) ha (by kernel_rfl) (by kernel_rfl) ?_
  clear ha; intro a ha
  refine wpList_nil ?_
  refine then_normal ?_
  refine wp_part (x != (0 : Int)) ha rfl (by kernel_rfl) (fun hb => ?_) (fun hb => ?_)
  · rw [hb] at ha; have hb_ := hb; replace hb := bne_iff_ne.1 hb
    refine wp_seq ?_
    refine wp_region_lit ?_
    refine st_val (.int .i64 x) ha (by kernel_rfl) (by kernel_rfl) ?_
    clear ha; intro a ha
    refine st_val (.int .i64 x) ha (by kernel_rfl) (by kernel_rfl) ?_
    clear ha; intro a ha
    refine wpList_nil ?_
    refine then_normal ?_
    refine wp_ret ?_
    refine block_ret ?_
    refine then_ret ?_
    refine then_ret ?_
    refine block_ret ?_
    refine then_ret ?_
    refine ret_with (v := .int .i64 x) ha (results_1 rfl ha (res_tmp (by kernel_rfl) (by kernel_rfl))) ?_
    refine ⟨?_, s⟩
    show _ = Ending.returned (.int .i64 (orI x y))
    unfold orI
    first | rw [if_neg (by omega)] | (rw [if_pos (by omega)]; congr 2; omega) | rw [if_pos (by omega)]
  · rw [hb] at ha; have hb_ := hb; replace hb := bne_eq_false_iff_eq.1 hb
    refine wp_skip ?_
    refine block_normal ?_
    refine then_normal ?_
    refine wp_region_lit ?_
    refine st_val (.int .i64 1) ha (by kernel_rfl) (by kernel_rfl) ?_
    clear ha; intro a ha
    refine st_val (.int .i64 1) ha (by kernel_rfl) (by kernel_rfl) ?_
    clear ha; intro a ha
    refine wpList_nil ?_
    refine then_normal ?_
    show Code.rounds _ _ _ 2 _ _
    rw [rounds_succ]
    refine wp_seq ?_
    refine wp_region_lit ?_
    refine st_val (.bool true) ha (by kernel_rfl) (by kernel_rfl) ?_
    clear ha; intro a ha
    refine wpList_nil ?_
    refine then_normal ?_
    refine wp_seq ?_
    refine wp_true ha rfl (by kernel_rfl) ?_
    refine wp_skip ?_
    refine then_normal ?_
    refine wp_seq ?_
    refine wp_block ?_
    refine wp_seq ?_
    refine wp_region_lit ?_
    refine st_val (.pointer (some (ad.add (1 * 1)))) ha (by kernel_rfl) (run_indexAddr' (kd := .i64) (i := 1) (n := 2) (c := c) 1 rfl Try.underlying59 Try.sizeOf3 (by kernel_rfl) (by kernel_rfl) rfl (by first | assumption | omega) _) ?_
    clear ha; intro a ha
    refine st_val (.int .i64 y) ha (by kernel_rfl) (run_loadRow1 (m := 1) ((hr _ s.sat)) rfl (by kernel_rfl) Try.isAgg3 rfl) ?_
    clear ha; intro a ha
    refine st_val (.int .i64 y) ha (by kernel_rfl) (by kernel_rfl) ?_
    clear ha; intro a ha
    refine wpList_nil ?_
    refine then_normal ?_
    refine wp_seq ?_
    refine wp_region_lit ?_
    refine st_val (.int .i64 y) ha (by kernel_rfl) (by kernel_rfl) ?_
    clear ha; intro a ha
    refine st_val (.int .i64 0) ha (by kernel_rfl) (by kernel_rfl) ?_
    clear ha; intro a ha
    refine st_val (.bool (y != (0 : Int))) ha (by kernel_rfl) (by kernel_rfl) ?_
    clear ha; intro a ha
    refine wpList_nil ?_
    refine then_normal ?_
    refine wp_part (y != (0 : Int)) ha rfl (by kernel_rfl) (fun hb => ?_) (fun hb => ?_)
    · rw [hb] at ha; have hb_ := hb; replace hb := bne_iff_ne.1 hb
      refine wp_seq ?_
      refine wp_region_lit ?_
      refine st_val (.int .i64 y) ha (by kernel_rfl) (by kernel_rfl) ?_
      clear ha; intro a ha
      refine st_val (.int .i64 y) ha (by kernel_rfl) (by kernel_rfl) ?_
      clear ha; intro a ha
      refine wpList_nil ?_
      refine then_normal ?_
      refine wp_ret ?_
      refine block_ret ?_
      refine then_ret ?_
      refine then_ret ?_
      refine block_ret ?_
      refine then_ret ?_
      refine ret_with (v := .int .i64 y) ha (results_1 rfl ha (res_tmp (by kernel_rfl) (by kernel_rfl))) ?_
      refine ⟨?_, s⟩
      show _ = Ending.returned (.int .i64 (orI x y))
      unfold orI
      first | rw [if_neg (by omega)] | (rw [if_pos (by omega)]; congr 2; omega) | rw [if_pos (by omega)]
    · rw [hb] at ha; have hb_ := hb; replace hb := bne_eq_false_iff_eq.1 hb
      refine wp_skip ?_
      refine block_normal ?_
      refine then_normal ?_
      refine wp_region_lit ?_
      refine st_val (.int .i64 2) ha (by kernel_rfl) (by kernel_rfl) ?_
      clear ha; intro a ha
      refine st_val (.int .i64 2) ha (by kernel_rfl) (by kernel_rfl) ?_
      clear ha; intro a ha
      refine wpList_nil ?_
      refine then_normal ?_
      show Code.rounds _ _ _ 1 _ _
      rw [rounds_succ]
      refine wp_seq ?_
      refine wp_region_lit ?_
      refine st_val (.bool false) ha (by kernel_rfl) (by kernel_rfl) ?_
      clear ha; intro a ha
      refine wpList_nil ?_
      refine then_normal ?_
      refine wp_seq ?_
      refine wp_false ha rfl (by kernel_rfl) ?_
      refine wp_exit ?_
      refine then_exit ?_
      refine then_exit ?_
      refine block_hit ?_
      refine then_normal ?_
      refine wp_seq ?_
      refine wp_region_lit ?_
      refine st_val (.int .i64 0) ha (by kernel_rfl) (by kernel_rfl) ?_
      clear ha; intro a ha
      refine st_val (.int .i64 0) ha (by kernel_rfl) (by kernel_rfl) ?_
      clear ha; intro a ha
      refine wpList_nil ?_
      refine then_normal ?_
      refine wp_ret ?_
      refine ret_with (v := .int .i64 0) ha (results_1 rfl ha (res_tmp (by kernel_rfl) (by kernel_rfl))) ?_
      refine ⟨?_, s⟩
      show _ = Ending.returned (.int .i64 (orI x y))
      unfold orI
      first | rw [if_neg (by omega)] | (rw [if_pos (by omega)]; congr 2; omega) | rw [if_pos (by omega)]

theorem scmp_any (W : World) (L : List Chunk) (w : World) (za zb zc zd : Int) (s : St W L w) :
    Calls Try.prog 37 #[.agg #[.int .i64 za, .int .i64 zb], .agg #[.int .i64 zc, .int .i64 zd]] w fun e w' => e = .returned (.int .i64 (orI (cmpI za zc) (cmpI zb zd))) ∧ St W L w' := by
  refine enter_args (l := [.agg #[.int .i64 za, .int .i64 zb], .agg #[.int .i64 zc, .int .i64 zd]]) Try.func37 rfl rfl (Nat.le_of_ble_eq_true rfl) ?_
  intro a ha; replace ha : Has a 17 [(0, .agg #[.int .i64 za, .int .i64 zb]), (1, .agg #[.int .i64 zc, .int .i64 zd])] := ha
  refine wp_seq ?_
  refine wp_region_lit ?_
  refine st_ex ha (by kernel_rfl) (ex_box [.int .i64 za, .int .i64 zb] s rfl (by kernel_rfl)) ?_
  clear ha; rintro _ w a ⟨g1, rfl, s⟩ ha
  replace s : St W (.blk g1 [.int .i64 za, .int .i64 zb] 34 :: L) w := s
  refine st_ex ha (by kernel_rfl) (ex_box [.int .i64 zc, .int .i64 zd] s rfl (by kernel_rfl)) ?_
  clear ha; rintro _ w a ⟨g2, rfl, s⟩ ha
  replace s : St W (.blk g2 [.int .i64 zc, .int .i64 zd] 34 :: .blk g1 [.int .i64 za, .int .i64 zb] 34 :: L) w := s
  refine st_val (.int .i64 0) ha (by kernel_rfl) (by kernel_rfl) ?_
  clear ha; intro a ha
  refine wpList_nil ?_
  refine then_normal ?_
  refine wp_seq ?_
  refine wp_region_head 9 (fun w => BlkIs g1 [.int .i64 za, .int .i64 zb] w ∧ BlkIs g2 [.int .i64 zc, .int .i64 zd] w ∧ True) (by kernel_rfl) (by decide) ?_
  replace s := s.drew; generalize _root_.Go.World.drew _ = w at s ⊢
  have hS : (fun w => BlkIs g1 [.int .i64 za, .int .i64 zb] w ∧ BlkIs g2 [.int .i64 zc, .int .i64 zd] w ∧ True) w := ⟨s.blkIs 1 rfl, s.blkIs 0 rfl, trivial⟩
  refine hd_val (i := 0) (.pointer (some ⟨g1, 0, none⟩)) ha rfl (by kernel_rfl) (fun _ _ _ h => h) (by kernel_rfl) (fun w hS => (by kernel_rfl)) hS ?_
  clear ha; intro a ha
  refine hd_val (i := 1) (.int .i64 za) ha rfl (by kernel_rfl) (fun _ _ _ h => h) (by kernel_rfl) (fun w hS => run_load1 (of_ := 0) hS.1 rfl (by kernel_rfl) Try.isAgg3 rfl) hS ?_
  clear ha; intro a ha
  refine hd_val (i := 2) (.pointer (some ⟨g2, 0, none⟩)) ha rfl (by kernel_rfl) (fun _ _ _ h => h) (by kernel_rfl) (fun w hS => (by kernel_rfl)) hS ?_
  clear ha; intro a ha
  refine hd_val (i := 3) (.int .i64 zc) ha rfl (by kernel_rfl) (fun _ _ _ h => h) (by kernel_rfl) (fun w hS => run_load1 (of_ := 0) hS.2.1 rfl (by kernel_rfl) Try.isAgg3 rfl) hS ?_
  clear ha; intro a ha
  refine hd_val (i := 5) (.pointer (some ⟨g1, 1, none⟩)) ha rfl (by kernel_rfl) (fun _ _ _ h => h) (by kernel_rfl) (fun w hS => (by kernel_rfl)) hS ?_
  clear ha; intro a ha
  refine hd_val (i := 6) (.int .i64 zb) ha rfl (by kernel_rfl) (fun _ _ _ h => h) (by kernel_rfl) (fun w hS => run_load1 (of_ := 1) hS.1 rfl (by kernel_rfl) Try.isAgg3 rfl) hS ?_
  clear ha; intro a ha
  refine hd_val (i := 7) (.pointer (some ⟨g2, 1, none⟩)) ha rfl (by kernel_rfl) (fun _ _ _ h => h) (by kernel_rfl) (fun w hS => (by kernel_rfl)) hS ?_
  clear ha; intro a ha
  refine hd_val (i := 8) (.int .i64 zd) ha rfl (by kernel_rfl) (fun _ _ _ h => h) (by kernel_rfl) (fun w hS => run_load1 (of_ := 1) hS.2.1 rfl (by kernel_rfl) Try.isAgg3 rfl) hS ?_
  clear ha; intro a ha
  refine hd_call (i := 4) ha rfl (by kernel_rfl) (by kernel_rfl) (by kernel_rfl) (cmp_any W _ w za zc s) ?_
  clear hS; rintro _ w ⟨rfl, s⟩
  replace s : St W (.blk g2 [.int .i64 zc, .int .i64 zd] 34 :: .blk g1 [.int .i64 za, .int .i64 zb] 34 :: L) w := s
  have hS : (fun w => BlkIs g1 [.int .i64 za, .int .i64 zb] w ∧ BlkIs g2 [.int .i64 zc, .int .i64 zd] w ∧ True) w := ⟨s.blkIs 1 rfl, s.blkIs 0 rfl, trivial⟩
  refine ⟨_, rfl, hS, ?_⟩; clear ha; intro a ha
  refine Head.done (by kernel_rfl) ?_
  clear hS; simp only [List.drop_succ_cons, List.drop_zero]
  refine st_call ha (by kernel_rfl) (by kernel_rfl) (cmp_any W _ w zb zd s) ?_
  rintro _ w ⟨rfl, s⟩
  replace s : St W (.blk g2 [.int .i64 zc, .int .i64 zd] 34 :: .blk g1 [.int .i64 za, .int .i64 zb] 34 :: L) w := s
  refine ⟨_, rfl, ?_⟩; clear ha; intro a ha
  refine st_ex ha (by kernel_rfl) (ex_buildSlice elt59 _ zs59 [.int .i64 (cmpI za zc), .int .i64 (cmpI zb zd)] s rfl (by kernel_rfl) (by decide)) ?_
  clear ha; rintro _ w a ⟨g3, rfl, s⟩ ha
  replace s : St W (.blk g3 [.int .i64 (cmpI za zc), .int .i64 (cmpI zb zd)] 3 :: .blk g2 [.int .i64 zc, .int .i64 zd] 34 :: .blk g1 [.int .i64 za, .int .i64 zb] 34 :: L) w := s
  refine st_call ha (by kernel_rfl) (by kernel_rfl) (or_any W _ w ⟨g3, 0, none⟩ 2 (cmpI za zc) (cmpI zb zd) (Knows.reads_blk (j := 0) rfl) s) ?_
  rintro _ w ⟨rfl, s⟩
  replace s : St W (.blk g3 [.int .i64 (cmpI za zc), .int .i64 (cmpI zb zd)] 3 :: .blk g2 [.int .i64 zc, .int .i64 zd] 34 :: .blk g1 [.int .i64 za, .int .i64 zb] 34 :: L) w := s
  refine ⟨_, rfl, ?_⟩; clear ha; intro a ha
  refine st_val (.int .i64 (orI (cmpI za zc) (cmpI zb zd))) ha (by kernel_rfl) (by kernel_rfl) ?_
  clear ha; intro a ha
  refine wpList_nil ?_
  refine then_normal ?_
  refine wp_ret ?_
  refine ret_with (v := .int .i64 (orI (cmpI za zc) (cmpI zb zd))) ha (results_1 rfl ha (res_tmp (by kernel_rfl) (by kernel_rfl))) ?_
  replace s := s.tail.tail.tail
  replace s : St W (L) w := s
  exact ⟨rfl, s⟩

theorem less_any (W : World) (L : List Chunk) (w : World) (za zb zc zd : Int) (s : St W L w) :
    Calls Try.prog 33 #[.agg #[.int .i64 za, .int .i64 zb], .agg #[.int .i64 zc, .int .i64 zd]] w fun e w' => e = .returned (.bool (decide (ltS za zb zc zd))) ∧ St W L w' := by
  refine enter_args (l := [.agg #[.int .i64 za, .int .i64 zb], .agg #[.int .i64 zc, .int .i64 zd]]) Try.func33 rfl rfl (Nat.le_of_ble_eq_true rfl) ?_
  intro a ha; replace ha : Has a 9 [(0, .agg #[.int .i64 za, .int .i64 zb]), (1, .agg #[.int .i64 zc, .int .i64 zd])] := ha
  refine wp_seq ?_
  refine wp_region_lit ?_
  refine st_ex ha (by kernel_rfl) (ex_box [.int .i64 za, .int .i64 zb] s rfl (by kernel_rfl)) ?_
  clear ha; rintro _ w a ⟨g1, rfl, s⟩ ha
  replace s : St W (.blk g1 [.int .i64 za, .int .i64 zb] 34 :: L) w := s
  refine st_ex ha (by kernel_rfl) (ex_box [.int .i64 zc, .int .i64 zd] s rfl (by kernel_rfl)) ?_
  clear ha; rintro _ w a ⟨g2, rfl, s⟩ ha
  replace s : St W (.blk g2 [.int .i64 zc, .int .i64 zd] 34 :: .blk g1 [.int .i64 za, .int .i64 zb] 34 :: L) w := s
  refine st_val (.bool false) ha (by kernel_rfl) (by kernel_rfl) ?_
  clear ha; intro a ha
  refine wpList_nil ?_
  refine then_normal ?_
  refine wp_seq ?_
  refine wp_region_lit ?_
  refine st_val (.agg #[.int .i64 za, .int .i64 zb]) ha (by kernel_rfl) (run_loadN (of_ := 0) [.int .i64 za, .int .i64 zb] (s.blkIs 1 rfl) rfl (by kernel_rfl) Try.isAgg34 Try.sizeOf34 rfl (Nat.le_of_ble_eq_true rfl)) ?_
  clear ha; intro a ha
  refine st_val (.agg #[.int .i64 zc, .int .i64 zd]) ha (by kernel_rfl) (run_loadN (of_ := 0) [.int .i64 zc, .int .i64 zd] (s.blkIs 0 rfl) rfl (by kernel_rfl) Try.isAgg34 Try.sizeOf34 rfl (Nat.le_of_ble_eq_true rfl)) ?_
  clear ha; intro a ha
  refine st_call ha (by kernel_rfl) (by kernel_rfl) (scmp_any W _ w za zb zc zd s) ?_
  rintro _ w ⟨rfl, s⟩
  replace s : St W (.blk g2 [.int .i64 zc, .int .i64 zd] 34 :: .blk g1 [.int .i64 za, .int .i64 zb] 34 :: L) w := s
  refine ⟨_, rfl, ?_⟩; clear ha; intro a ha
  refine st_val (.bool (decide ((orI (cmpI za zc) (cmpI zb zd)) < (0 : Int)))) ha (by kernel_rfl) (by kernel_rfl) ?_
  clear ha; intro a ha
  refine st_val (.bool (decide ((orI (cmpI za zc) (cmpI zb zd)) < (0 : Int)))) ha (by kernel_rfl) (by kernel_rfl) ?_
  clear ha; intro a ha
  refine wpList_nil ?_
  refine then_normal ?_
  refine wp_ret ?_
  refine ret_with (v := .bool (decide ((orI (cmpI za zc) (cmpI zb zd)) < (0 : Int)))) ha (results_1 rfl ha (res_tmp (by kernel_rfl) (by kernel_rfl))) ?_
  replace s := s.tail.tail
  replace s : St W (L) w := s
  exact ⟨by rw [decide_eq_decide.2 (less_iff (a := za) (b := zb) (c := zc) (d := zd))], s⟩

theorem schk_any (W : World) (L : List Chunk) (w : World) (za zb : Int) (s : St W L w) :
    Calls Try.prog 27 #[.agg #[.int .i64 za, .int .i64 zb]] w fun e w' => e = .returned (.int .i64 (codeS za zb)) ∧ St W L w' := by
  refine enter_args (l := [.agg #[.int .i64 za, .int .i64 zb]]) Try.func27 rfl rfl (Nat.le_of_ble_eq_true rfl) ?_
  intro a ha; replace ha : Has a 21 [(0, .agg #[.int .i64 za, .int .i64 zb])] := ha
  refine wp_seq ?_
  refine wp_region_lit ?_
  refine st_ex ha (by kernel_rfl) (ex_box [.int .i64 za, .int .i64 zb] s rfl (by kernel_rfl)) ?_
  clear ha; rintro _ w a ⟨g1, rfl, s⟩ ha
  replace s : St W (.blk g1 [.int .i64 za, .int .i64 zb] 34 :: L) w := s
  refine st_val (.int .i64 0) ha (by kernel_rfl) (by kernel_rfl) ?_
  clear ha; intro a ha
  refine wpList_nil ?_
  refine then_normal ?_
  refine wp_seq ?_
  refine wp_seq ?_
  refine wp_region_lit ?_
  refine st_val (.pointer (some ⟨g1, 0, none⟩)) ha (by kernel_rfl) (by kernel_rfl) ?_
  clear ha; intro a ha
  refine st_val (.int .i64 za) ha (by kernel_rfl) (run_load1 (of_ := 0) (s.blkIs 0 rfl) rfl (by kernel_rfl) Try.isAgg3 rfl) ?_
  clear ha; intro a ha
  refine st_val (.bool (decide (za < (0 : Int)))) ha (by kernel_rfl) (by kernel_rfl) ?_
  clear ha; intro a ha
  refine st_val (.bool (decide (za < (0 : Int)))) ha (by kernel_rfl) (by kernel_rfl) ?_
  clear ha; intro a ha
  rcases Bool.eq_false_or_eq_true (decide (za < (0 : Int))) with hb | hb
  · rw [hb] at ha; replace hb : (za < (0 : Int)) := of_decide_eq_true hb
    refine st_pass ha (by kernel_rfl) ?_
    clear ha; intro a ha
    refine st_pass ha (by kernel_rfl) ?_
    clear ha; intro a ha
    refine st_pass ha (by kernel_rfl) ?_
    clear ha; intro a ha
    refine st_val (.bool true) ha (by kernel_rfl) (by kernel_rfl) ?_
    clear ha; intro a ha
    refine st_val (.bool true) ha (by kernel_rfl) (by kernel_rfl) ?_
    clear ha; intro a ha
    refine st_pass ha (by kernel_rfl) ?_
    clear ha; intro a ha
    refine st_pass ha (by kernel_rfl) ?_
    clear ha; intro a ha
    refine st_pass ha (by kernel_rfl) ?_
    clear ha; intro a ha
    refine st_val (.bool true) ha (by kernel_rfl) (by kernel_rfl) ?_
    clear ha; intro a ha
    refine st_val (.bool true) ha (by kernel_rfl) (by kernel_rfl) ?_
    clear ha; intro a ha
    refine st_pass ha (by kernel_rfl) ?_
    clear ha; intro a ha
    refine st_pass ha (by kernel_rfl) ?_
    clear ha; intro a ha
    refine st_pass ha (by kernel_rfl) ?_
    clear ha; intro a ha
    refine st_val (.bool true) ha (by kernel_rfl) (by kernel_rfl) ?_
    clear ha; intro a ha
    refine wpList_nil ?_
    refine then_normal ?_
    refine wp_true ha rfl (by kernel_rfl) ?_
    refine wp_seq ?_
    refine wp_region_lit ?_
    refine st_val (.int .i64 9) ha (by kernel_rfl) (by kernel_rfl) ?_
    clear ha; intro a ha
    refine wpList_nil ?_
    refine then_normal ?_
    refine wp_ret ?_
    refine then_ret ?_
    refine ret_with (v := .int .i64 9) ha (results_1 rfl ha (res_tmp (by kernel_rfl) (by kernel_rfl))) ?_
    replace s := s.tail
    replace s : St W (L) w := s
    refine ⟨?_, s⟩
    unfold codeS
    first | rw [if_pos (show okS za zb by unfold okS; omega)] | rw [if_neg (show ¬ okS za zb by unfold okS; omega)]
  · rw [hb] at ha; replace hb : ¬ (za < (0 : Int)) := of_decide_eq_false hb
    refine st_val (.pointer (some ⟨g1, 0, none⟩)) ha (by kernel_rfl) (by kernel_rfl) ?_
    clear ha; intro a ha
    refine st_val (.int .i64 za) ha (by kernel_rfl) (run_load1 (of_ := 0) (s.blkIs 0 rfl) rfl (by kernel_rfl) Try.isAgg3 rfl) ?_
    clear ha; intro a ha
    refine st_val (.bool (decide (za > (1099511627776 : Int)))) ha (by kernel_rfl) (by kernel_rfl) ?_
    clear ha; intro a ha
    refine st_val (.bool (decide (za > (1099511627776 : Int)))) ha (by kernel_rfl) (by kernel_rfl) ?_
    clear ha; intro a ha
    refine st_val (.bool (decide (za > (1099511627776 : Int)))) ha (by kernel_rfl) (by kernel_rfl) ?_
    clear ha; intro a ha
    rcases Bool.eq_false_or_eq_true (decide (za > (1099511627776 : Int))) with hb | hb
    · rw [hb] at ha; replace hb : (za > (1099511627776 : Int)) := of_decide_eq_true hb
      refine st_pass ha (by kernel_rfl) ?_
      clear ha; intro a ha
      refine st_pass ha (by kernel_rfl) ?_
      clear ha; intro a ha
      refine st_pass ha (by kernel_rfl) ?_
      clear ha; intro a ha
      refine st_val (.bool true) ha (by kernel_rfl) (by kernel_rfl) ?_
      clear ha; intro a ha
      refine st_val (.bool true) ha (by kernel_rfl) (by kernel_rfl) ?_
      clear ha; intro a ha
      refine st_pass ha (by kernel_rfl) ?_
      clear ha; intro a ha
      refine st_pass ha (by kernel_rfl) ?_
      clear ha; intro a ha
      refine st_pass ha (by kernel_rfl) ?_
      clear ha; intro a ha
      refine st_val (.bool true) ha (by kernel_rfl) (by kernel_rfl) ?_
      clear ha; intro a ha
      refine wpList_nil ?_
      refine then_normal ?_
      refine wp_true ha rfl (by kernel_rfl) ?_
      refine wp_seq ?_
      refine wp_region_lit ?_
      refine st_val (.int .i64 9) ha (by kernel_rfl) (by kernel_rfl) ?_
      clear ha; intro a ha
      refine wpList_nil ?_
      refine then_normal ?_
      refine wp_ret ?_
      refine then_ret ?_
      refine ret_with (v := .int .i64 9) ha (results_1 rfl ha (res_tmp (by kernel_rfl) (by kernel_rfl))) ?_
      replace s := s.tail
      replace s : St W (L) w := s
      refine ⟨?_, s⟩
      unfold codeS
      first | rw [if_pos (show okS za zb by unfold okS; omega)] | rw [if_neg (show ¬ okS za zb by unfold okS; omega)]
    · rw [hb] at ha; replace hb : ¬ (za > (1099511627776 : Int)) := of_decide_eq_false hb
      refine st_val (.pointer (some ⟨g1, 1, none⟩)) ha (by kernel_rfl) (by kernel_rfl) ?_
      clear ha; intro a ha
      refine st_val (.int .i64 zb) ha (by kernel_rfl) (run_load1 (of_ := 1) (s.blkIs 0 rfl) rfl (by kernel_rfl) Try.isAgg3 rfl) ?_
      clear ha; intro a ha
      refine st_val (.bool (decide (zb < (0 : Int)))) ha (by kernel_rfl) (by kernel_rfl) ?_
      clear ha; intro a ha
      refine st_val (.bool (decide (zb < (0 : Int)))) ha (by kernel_rfl) (by kernel_rfl) ?_
      clear ha; intro a ha
      refine st_val (.bool (decide (zb < (0 : Int)))) ha (by kernel_rfl) (by kernel_rfl) ?_
      clear ha; intro a ha
      rcases Bool.eq_false_or_eq_true (decide (zb < (0 : Int))) with hb | hb
      · rw [hb] at ha; replace hb : (zb < (0 : Int)) := of_decide_eq_true hb
        refine st_pass ha (by kernel_rfl) ?_
        clear ha; intro a ha
        refine st_pass ha (by kernel_rfl) ?_
        clear ha; intro a ha
        refine st_pass ha (by kernel_rfl) ?_
        clear ha; intro a ha
        refine st_val (.bool true) ha (by kernel_rfl) (by kernel_rfl) ?_
        clear ha; intro a ha
        refine wpList_nil ?_
        refine then_normal ?_
        refine wp_true ha rfl (by kernel_rfl) ?_
        refine wp_seq ?_
        refine wp_region_lit ?_
        refine st_val (.int .i64 9) ha (by kernel_rfl) (by kernel_rfl) ?_
        clear ha; intro a ha
        refine wpList_nil ?_
        refine then_normal ?_
        refine wp_ret ?_
        refine then_ret ?_
        refine ret_with (v := .int .i64 9) ha (results_1 rfl ha (res_tmp (by kernel_rfl) (by kernel_rfl))) ?_
        replace s := s.tail
        replace s : St W (L) w := s
        refine ⟨?_, s⟩
        unfold codeS
        first | rw [if_pos (show okS za zb by unfold okS; omega)] | rw [if_neg (show ¬ okS za zb by unfold okS; omega)]
      · rw [hb] at ha; replace hb : ¬ (zb < (0 : Int)) := of_decide_eq_false hb
        refine st_val (.pointer (some ⟨g1, 1, none⟩)) ha (by kernel_rfl) (by kernel_rfl) ?_
        clear ha; intro a ha
        refine st_val (.int .i64 zb) ha (by kernel_rfl) (run_load1 (of_ := 1) (s.blkIs 0 rfl) rfl (by kernel_rfl) Try.isAgg3 rfl) ?_
        clear ha; intro a ha
        refine st_val (.bool (decide (zb > (1048575 : Int)))) ha (by kernel_rfl) (by kernel_rfl) ?_
        clear ha; intro a ha
        refine st_val (.bool (decide (zb > (1048575 : Int)))) ha (by kernel_rfl) (by kernel_rfl) ?_
        clear ha; intro a ha
        refine wpList_nil ?_
        refine then_normal ?_
        refine wp_part (decide (zb > (1048575 : Int))) ha rfl (by kernel_rfl) (fun hb => ?_) (fun hb => ?_)
        · rw [hb] at ha; replace hb : (zb > (1048575 : Int)) := of_decide_eq_true hb
          refine wp_seq ?_
          refine wp_region_lit ?_
          refine st_val (.int .i64 9) ha (by kernel_rfl) (by kernel_rfl) ?_
          clear ha; intro a ha
          refine wpList_nil ?_
          refine then_normal ?_
          refine wp_ret ?_
          refine then_ret ?_
          refine ret_with (v := .int .i64 9) ha (results_1 rfl ha (res_tmp (by kernel_rfl) (by kernel_rfl))) ?_
          replace s := s.tail
          replace s : St W (L) w := s
          refine ⟨?_, s⟩
          unfold codeS
          first | rw [if_pos (show okS za zb by unfold okS; omega)] | rw [if_neg (show ¬ okS za zb by unfold okS; omega)]
        · rw [hb] at ha; replace hb : ¬ (zb > (1048575 : Int)) := of_decide_eq_false hb
          refine wp_skip ?_
          refine then_normal ?_
          refine wp_seq ?_
          refine wp_region_lit ?_
          refine st_val (.int .i64 0) ha (by kernel_rfl) (by kernel_rfl) ?_
          clear ha; intro a ha
          refine wpList_nil ?_
          refine then_normal ?_
          refine wp_ret ?_
          refine ret_with (v := .int .i64 0) ha (results_1 rfl ha (res_tmp (by kernel_rfl) (by kernel_rfl))) ?_
          replace s := s.tail
          replace s : St W (L) w := s
          refine ⟨?_, s⟩
          unfold codeS
          first | rw [if_pos (show okS za zb by unfold okS; omega)] | rw [if_neg (show ¬ okS za zb by unfold okS; omega)]

theorem bring_pos (W : World) (L : List Chunk) (w : World) (i n : Int) (hn : 0 < n) (hb : n ≤ 1000000) (s : St W L w) :
    Calls Try.prog 6 #[.int .i64 i, .int .i64 n] w fun e w' => e = .returned (.int .i64 (i % n)) ∧ St W L w' := by
  have ht1 := Int.tmod_lt_of_pos i hn
  have ht2 := Int.lt_tmod_of_pos i hn
  have ht3 := Int.tmod_def i n
  have ht4 : i % n = if i.tmod n < 0 then i.tmod n + n else i.tmod n := by
    have h1 := Int.tmod_eq_emod (a := i) (b := n)
    have h2 := Int.emod_nonneg i (show n ≠ 0 by omega)
    have h3 := Int.emod_lt_of_pos i hn
    split at h1 <;> split <;> omega
  refine enter_args (l := [.int .i64 i, .int .i64 n]) Try.func6 rfl rfl (Nat.le_of_ble_eq_true rfl) ?_
  intro a ha; replace ha : Has a 16 [(0, .int .i64 i), (1, .int .i64 n)] := ha
  refine wp_seq ?_
  refine wp_region_lit ?_
  refine st_val (.int .i64 0) ha (by kernel_rfl) (by kernel_rfl) ?_
  clear ha; intro a ha
  refine wpList_nil ?_
  refine then_normal ?_
  refine wp_seq ?_
  refine wp_seq ?_
  refine wp_region_lit ?_
  refine st_val (.int .i64 n) ha (by kernel_rfl) (by kernel_rfl) ?_
  clear ha; intro a ha
  refine st_val (.bool false) ha (by kernel_rfl) (run_known (show (decide (n ≤ (0 : Int))) = false from decide_eq_false (by omega)) (by kernel_rfl)) ?_
  clear ha; intro a ha
  refine wpList_nil ?_
  refine then_normal ?_
  refine wp_false ha rfl (by kernel_rfl) ?_
  refine wp_skip ?_
  refine then_normal ?_
  refine wp_seq ?_
  refine wp_region_lit ?_
  refine st_val (.int .i64 i) ha (by kernel_rfl) (by kernel_rfl) ?_
  clear ha; intro a ha
  refine st_val (.int .i64 n) ha (by kernel_rfl) (by kernel_rfl) ?_
  clear ha; intro a ha
  refine st_val (.int .i64 ((i).tmod n)) ha (by kernel_rfl) (run_rem ((i).tmod n) rfl (by kernel_rfl) (by kernel_rfl) (by omega) rfl _) ?_
  clear ha; intro a ha
  refine st_val (.int .i64 ((i).tmod n)) ha (by kernel_rfl) (by kernel_rfl) ?_
  clear ha; intro a ha
  refine wpList_nil ?_
  refine then_normal ?_
  refine wp_seq ?_
  refine wp_seq ?_
  refine wp_region_lit ?_
  refine st_val (.int .i64 ((i).tmod n)) ha (by kernel_rfl) (by kernel_rfl) ?_
  clear ha; intro a ha
  refine st_val (.bool (decide (((i).tmod n) < (0 : Int)))) ha (by kernel_rfl) (by kernel_rfl) ?_
  clear ha; intro a ha
  refine wpList_nil ?_
  refine then_normal ?_
  refine wp_part (decide (((i).tmod n) < (0 : Int))) ha rfl (by kernel_rfl) (fun hb => ?_) (fun hb => ?_)
  · rw [hb] at ha; replace hb : (((i).tmod n) < (0 : Int)) := of_decide_eq_true hb
    refine wp_region_lit ?_
    refine st_val (.int .i64 ((i).tmod n)) ha (by kernel_rfl) (by kernel_rfl) ?_
    clear ha; intro a ha
    refine st_val (.int .i64 n) ha (by kernel_rfl) (by kernel_rfl) ?_
    clear ha; intro a ha
    refine st_val (.int .i64 (((i).tmod n) + n)) ha (by kernel_rfl) (run_arith (((i).tmod n) + n) (((i).tmod n) + n) rfl (by kernel_rfl) (by kernel_rfl) (.inl ⟨rfl, rfl⟩) (by rw [wrap64_in (by omega)]) _) ?_
    clear ha; intro a ha
    refine st_val (.int .i64 (((i).tmod n) + n)) ha (by kernel_rfl) (by kernel_rfl) ?_
    clear ha; intro a ha
    refine wpList_nil ?_
    refine then_normal ?_
    refine wp_seq ?_
    refine wp_region_lit ?_
    refine st_val (.int .i64 (((i).tmod n) + n)) ha (by kernel_rfl) (by kernel_rfl) ?_
    clear ha; intro a ha
    refine st_val (.int .i64 (((i).tmod n) + n)) ha (by kernel_rfl) (by kernel_rfl) ?_
    clear ha; intro a ha
    refine wpList_nil ?_
    refine then_normal ?_
    refine wp_ret ?_
    refine ret_with (v := .int .i64 (((i).tmod n) + n)) ha (results_1 rfl ha (res_tmp (by kernel_rfl) (by kernel_rfl))) ?_
    refine ⟨?_, s⟩
    congr 2
    omega
  · rw [hb] at ha; replace hb : ¬ (((i).tmod n) < (0 : Int)) := of_decide_eq_false hb
    refine wp_skip ?_
    refine then_normal ?_
    refine wp_seq ?_
    refine wp_region_lit ?_
    refine st_val (.int .i64 ((i).tmod n)) ha (by kernel_rfl) (by kernel_rfl) ?_
    clear ha; intro a ha
    refine st_val (.int .i64 ((i).tmod n)) ha (by kernel_rfl) (by kernel_rfl) ?_
    clear ha; intro a ha
    refine wpList_nil ?_
    refine then_normal ?_
    refine wp_ret ?_
    refine ret_with (v := .int .i64 ((i).tmod n)) ha (results_1 rfl ha (res_tmp (by kernel_rfl) (by kernel_rfl))) ?_
    refine ⟨?_, s⟩
    congr 2
    omega

theorem bad_any (W : World) (L : List Chunk) (w : World) (d : Dd) (s : St W L w) :
    Calls Try.prog 47 #[.agg #[.int .i64 d.t.op, .string (str d.t.key), .string (str d.t.val), .string (str d.t.frm), .string (str d.t.to), .bool d.t.is, .slice d.A d.t.rows.length d.c]] w fun e w' => e = .returned (.bool (bad d)) ∧ St W L w' := by
  refine enter_args (l := [.agg #[.int .i64 d.t.op, .string (str d.t.key), .string (str d.t.val), .string (str d.t.frm), .string (str d.t.to), .bool d.t.is, .slice d.A d.t.rows.length d.c]]) Try.func47 rfl rfl (Nat.le_of_ble_eq_true rfl) ?_
  intro a ha; replace ha : Has a 11 [(0, .agg #[.int .i64 d.t.op, .string (str d.t.key), .string (str d.t.val), .string (str d.t.frm), .string (str d.t.to), .bool d.t.is, .slice d.A d.t.rows.length d.c])] := ha
  refine wp_seq ?_
  refine wp_region_lit ?_
  refine st_ex ha (by kernel_rfl) (ex_box [.int .i64 d.t.op, .string (str d.t.key), .string (str d.t.val), .string (str d.t.frm), .string (str d.t.to), .bool d.t.is, .slice d.A d.t.rows.length d.c] s rfl (by kernel_rfl)) ?_
  clear ha; rintro _ w a ⟨g1, rfl, s⟩ ha
  replace s : St W (.blk g1 [.int .i64 d.t.op, .string (str d.t.key), .string (str d.t.val), .string (str d.t.frm), .string (str d.t.to), .bool d.t.is, .slice d.A d.t.rows.length d.c] 74 :: L) w := s
  refine st_val (.bool false) ha (by kernel_rfl) (by kernel_rfl) ?_
  clear ha; intro a ha
  refine wpList_nil ?_
  refine then_normal ?_
  refine wp_seq ?_
  refine wp_region_lit ?_
  refine st_val (.pointer (some ⟨g1, 0, none⟩)) ha (by kernel_rfl) (by kernel_rfl) ?_
  clear ha; intro a ha
  refine st_val (.int .i64 d.t.op) ha (by kernel_rfl) (run_load1 (of_ := 0) (s.blkIs 0 rfl) rfl (by kernel_rfl) Try.isAgg3 rfl) ?_
  clear ha; intro a ha
  refine st_val (.bool (decide (d.t.op < (1 : Int)))) ha (by kernel_rfl) (by kernel_rfl) ?_
  clear ha; intro a ha
  refine st_val (.bool (decide (d.t.op < (1 : Int)))) ha (by kernel_rfl) (by kernel_rfl) ?_
  clear ha; intro a ha
  rcases Bool.eq_false_or_eq_true (decide (d.t.op < (1 : Int))) with hb | hb
  · rw [hb] at ha; replace hb : (d.t.op < (1 : Int)) := of_decide_eq_true hb
    refine st_pass ha (by kernel_rfl) ?_
    clear ha; intro a ha
    refine st_pass ha (by kernel_rfl) ?_
    clear ha; intro a ha
    refine st_pass ha (by kernel_rfl) ?_
    clear ha; intro a ha
    refine st_val (.bool true) ha (by kernel_rfl) (by kernel_rfl) ?_
    clear ha; intro a ha
    refine st_val (.bool true) ha (by kernel_rfl) (by kernel_rfl) ?_
    clear ha; intro a ha
    refine wpList_nil ?_
    refine then_normal ?_
    refine wp_ret ?_
    refine ret_with (v := .bool true) ha (results_1 rfl ha (res_tmp (by kernel_rfl) (by kernel_rfl))) ?_
    replace s := s.tail
    replace s : St W (L) w := s
    refine ⟨?_, s⟩
    congr 2
    unfold bad okT
    first | exact (decide_eq_true (by omega)).symm | exact (decide_eq_false (by omega)).symm | exact decide_eq_decide.2 (by omega)
  · rw [hb] at ha; replace hb : ¬ (d.t.op < (1 : Int)) := of_decide_eq_false hb
    refine st_val (.pointer (some ⟨g1, 0, none⟩)) ha (by kernel_rfl) (by kernel_rfl) ?_
    clear ha; intro a ha
    refine st_val (.int .i64 d.t.op) ha (by kernel_rfl) (run_load1 (of_ := 0) (s.blkIs 0 rfl) rfl (by kernel_rfl) Try.isAgg3 rfl) ?_
    clear ha; intro a ha
    refine st_val (.bool (decide (d.t.op > (5 : Int)))) ha (by kernel_rfl) (by kernel_rfl) ?_
    clear ha; intro a ha
    refine st_val (.bool (decide (d.t.op > (5 : Int)))) ha (by kernel_rfl) (by kernel_rfl) ?_
    clear ha; intro a ha
    refine st_val (.bool (decide (d.t.op > (5 : Int)))) ha (by kernel_rfl) (by kernel_rfl) ?_
    clear ha; intro a ha
    refine wpList_nil ?_
    refine then_normal ?_
    refine wp_ret ?_
    refine ret_with (v := .bool (decide (d.t.op > (5 : Int)))) ha (results_1 rfl ha (res_tmp (by kernel_rfl) (by kernel_rfl))) ?_
    replace s := s.tail
    replace s : St W (L) w := s
    refine ⟨?_, s⟩
    congr 2
    unfold bad okT
    first | exact (decide_eq_true (by omega)).symm | exact (decide_eq_false (by omega)).symm | exact decide_eq_decide.2 (by omega)

theorem index_bad (W : World) (L : List Chunk) (w : World) (A : Option Addr) (ca : Nat) (l : List Dd) (hr : Knows L (DidsIn A l)) (hn : l.length ≤ 140737488351232) (s : St W L w) :
    Calls Try.prog 53 #[.slice A l.length ca, .func (.func 47) #[] #[]] w fun e w' => ∃ r, e = .returned (.int .i64 r) ∧ decide (r ≥ (0 : Int)) = l.any bad ∧ St W L w' := by
  refine enter_args (l := [.slice A l.length ca, .func (.func 47) #[] #[]]) Try.func53 rfl rfl (Nat.le_of_ble_eq_true rfl) ?_
  intro a ha; replace ha : Has a 19 [(0, .slice A l.length ca), (1, .func (.func 47) #[] #[])] := ha
  refine wp_seq ?_
  refine wp_region_lit ?_
  refine st_val (.int .i64 0) ha (by kernel_rfl) (by kernel_rfl) ?_
  clear ha; intro a ha
  refine wpList_nil ?_
  refine then_normal ?_
  refine wp_seq ?_
  refine wp_seq ?_
  refine wp_region_lit ?_
  refine st_val (.slice A l.length ca) ha (by kernel_rfl) (by kernel_rfl) ?_
  clear ha; intro a ha
  refine st_val (.int .i64 ((l.length : Nat) : Int)) ha (by kernel_rfl) (by kernel_rfl) ?_
  clear ha; intro a ha
  refine st_val (.int .i64 0) ha (by kernel_rfl) (by kernel_rfl) ?_
  clear ha; intro a ha
  refine wpList_nil ?_
  refine then_normal ?_
  refine wp_block ?_
  refine wp_loopG (G := Nat) (fun k a w => Has a 19 [(0, .slice A l.length ca), (1, .func (.func 47) #[] #[]), (7, .int .i64 ((l.length : Nat) : Int)), (8, .int .i64 ((k : Nat) : Int))] ∧ St W (L) w ∧ (k ≤ l.length ∧ (l.take k).any bad = false)) (fun k => l.length - k) 0 ?_ ?_
  · exact ⟨(Has.cons ha (by kernel_rfl) (by kernel_rfl) (Has.cons ha (by kernel_rfl) (by kernel_rfl) (Has.cons ha (by kernel_rfl) (by kernel_rfl) (Has.cons ha (by kernel_rfl) (by kernel_rfl) (Has.nil ha))))), s, ⟨Nat.zero_le _, rfl⟩⟩
  · clear ha s; rintro k a w ⟨ha, s, hp⟩
    refine wp_seq ?_
    refine wp_region_lit ?_
    refine st_val (.bool (decide (((k : Nat) : Int) < ((l.length : Nat) : Int)))) ha (by kernel_rfl) (by kernel_rfl) ?_
    clear ha; intro a ha
    refine wpList_nil ?_
    refine then_normal ?_
    refine wp_seq ?_
    refine wp_part (decide (((k : Nat) : Int) < ((l.length : Nat) : Int))) ha rfl (by kernel_rfl) (fun hb => ?_) (fun hb => ?_)
    · rw [hb] at ha; replace hb : (((k : Nat) : Int) < ((l.length : Nat) : Int)) := of_decide_eq_true hb
      obtain ⟨v, hv⟩ : ∃ v, l[k]? = some v := ⟨_, List.getElem?_eq_getElem (by omega)⟩
      obtain ⟨ad, hA⟩ := Reads.addr (hr _ s.sat).1 (by omega)
      subst hA
      refine wp_skip ?_
      refine then_normal ?_
      refine wp_seq ?_
      refine wp_block ?_
      refine wp_seq ?_
      refine wp_region_lit ?_
      refine st_val (.int .i64 ((k : Nat) : Int)) ha (by kernel_rfl) (by kernel_rfl) ?_
      clear ha; intro a ha
      refine st_val (.int .i64 ((k : Nat) : Int)) ha (by kernel_rfl) (by kernel_rfl) ?_
      clear ha; intro a ha
      refine wpList_nil ?_
      refine then_normal ?_
      refine wp_seq ?_
      refine wp_region_lit ?_
      refine st_val (.func (.func 47) #[] #[]) ha (by kernel_rfl) (by kernel_rfl) ?_
      clear ha; intro a ha
      refine st_val (.slice (some ad) l.length ca) ha (by kernel_rfl) (by kernel_rfl) ?_
      clear ha; intro a ha
      refine st_val (.int .i64 ((k : Nat) : Int)) ha (by kernel_rfl) (by kernel_rfl) ?_
      clear ha; intro a ha
      refine st_val (.pointer (some (ad.add (k * 7)))) ha (by kernel_rfl) (run_indexAddr' (kd := .i64) (i := ((k : Nat) : Int)) (n := l.length) (c := ca) k rfl Try.underlying70 Try.sizeOf74 (by kernel_rfl) (by kernel_rfl) rfl (by first | assumption | omega) _) ?_
      clear ha; intro a ha
      refine st_val (.agg #[.int .i64 v.t.op, .string (str v.t.key), .string (str v.t.val), .string (str v.t.frm), .string (str v.t.to), .bool v.t.is, .slice v.A v.t.rows.length v.c]) ha (by kernel_rfl) (run_loadAtN (i := k * 7) [.int .i64 v.t.op, .string (str v.t.key), .string (str v.t.val), .string (str v.t.frm), .string (str v.t.to), .bool v.t.is, .slice v.A v.t.rows.length v.c] ((hr _ s.sat).1) rfl (by kernel_rfl) Try.isAgg74 Try.sizeOf74 (fun q_ hq_ => dvs_at hv hq_) rfl) ?_
      clear ha; intro a ha
      refine st_call ha (by kernel_rfl) (by kernel_rfl) (bad_any W _ w v s) ?_
      rintro _ w ⟨rfl, s⟩
      replace s : St W (L) w := s
      refine ⟨_, rfl, ?_⟩; clear ha; intro a ha
      refine wpList_nil ?_
      refine then_normal ?_
      refine wp_part (bad v) ha rfl (by kernel_rfl) (fun hb => ?_) (fun hb => ?_)
      · rw [hb] at ha; skip
        refine wp_seq ?_
        refine wp_region_lit ?_
        refine st_val (.int .i64 ((k : Nat) : Int)) ha (by kernel_rfl) (by kernel_rfl) ?_
        clear ha; intro a ha
        refine st_val (.int .i64 ((k : Nat) : Int)) ha (by kernel_rfl) (by kernel_rfl) ?_
        clear ha; intro a ha
        refine wpList_nil ?_
        refine then_normal ?_
        refine wp_ret ?_
        refine block_ret ?_
        refine then_ret ?_
        refine then_ret ?_
        refine block_ret ?_
        refine then_ret ?_
        refine ret_with (v := .int .i64 ((k : Nat) : Int)) ha (results_1 rfl ha (res_tmp (by kernel_rfl) (by kernel_rfl))) ?_
        refine ⟨_, rfl, ?_, s⟩
        rw [decide_eq_true (by omega)]
        exact (List.any_eq_true.2 ⟨v, List.mem_of_getElem? hv, hb⟩).symm
      · rw [hb] at ha; skip
        refine wp_skip ?_
        refine block_normal ?_
        refine then_normal ?_
        refine wp_region_lit ?_
        refine st_val (.int .i64 ((k + 1 : Nat) : Int)) ha (by kernel_rfl) (run_arith (((k : Nat) : Int) + (1 : Int)) ((k + 1 : Nat) : Int) rfl (by kernel_rfl) (by kernel_rfl) (.inl ⟨rfl, rfl⟩) (by rw [wrap64_in (by omega)]; try omega) _) ?_
        clear ha; intro a ha
        refine st_val (.int .i64 ((k + 1 : Nat) : Int)) ha (by kernel_rfl) (by kernel_rfl) ?_
        clear ha; intro a ha
        refine wpList_nil ?_
        refine then_normal ?_
        exact ⟨k + 1, by omega, (Has.cons ha (by kernel_rfl) (by kernel_rfl) (Has.cons ha (by kernel_rfl) (by kernel_rfl) (Has.cons ha (by kernel_rfl) (by kernel_rfl) (Has.cons ha (by kernel_rfl) (by kernel_rfl) (Has.nil ha))))), s, by omega, by rw [take_snoc hv, List.any_append, hp.2]; simp [hb]⟩
    · rw [hb] at ha; replace hb : ¬ (((k : Nat) : Int) < ((l.length : Nat) : Int)) := of_decide_eq_false hb
      refine wp_exit ?_
      refine then_exit ?_
      refine then_exit ?_
      refine block_hit ?_
      refine then_normal ?_
      refine wp_seq ?_
      refine wp_region_lit ?_
      refine st_val (.int .i64 (-1)) ha (by kernel_rfl) (by kernel_rfl) ?_
      clear ha; intro a ha
      refine wpList_nil ?_
      refine then_normal ?_
      refine wp_ret ?_
      refine ret_with (v := .int .i64 (-1)) ha (results_1 rfl ha (res_tmp (by kernel_rfl) (by kernel_rfl))) ?_
      refine ⟨_, rfl, ?_, s⟩
      have h2 := hp.2
      rw [List.take_of_length_le (by omega)] at h2
      rw [h2]; rfl

theorem contains_bad (W : World) (L : List Chunk) (w : World) (A : Option Addr) (ca : Nat) (l : List Dd) (hr : Knows L (DidsIn A l)) (hn : l.length ≤ 140737488351232) (s : St W L w) :
    Calls Try.prog 46 #[.slice A l.length ca, .func (.func 47) #[] #[]] w fun e w' => e = .returned (.bool (l.any bad)) ∧ St W L w' := by
  refine enter_args (l := [.slice A l.length ca, .func (.func 47) #[] #[]]) Try.func46 rfl rfl (Nat.le_of_ble_eq_true rfl) ?_
  intro a ha; replace ha : Has a 9 [(0, .slice A l.length ca), (1, .func (.func 47) #[] #[])] := ha
  refine wp_seq ?_
  refine wp_region_lit ?_
  refine st_val (.bool false) ha (by kernel_rfl) (by kernel_rfl) ?_
  clear ha; intro a ha
  refine wpList_nil ?_
  refine then_normal ?_
  refine wp_seq ?_
  refine wp_region_lit ?_
  refine st_val (.slice A l.length ca) ha (by kernel_rfl) (by kernel_rfl) ?_
  clear ha; intro a ha
  refine st_val (.func (.func 47) #[] #[]) ha (by kernel_rfl) (by kernel_rfl) ?_
  clear ha; intro a ha
  refine st_call ha (by kernel_rfl) (by kernel_rfl) (index_bad W _ w A ca l (fun w s => hr w s) hn s) ?_
  rintro _ w ⟨r, rfl, hrb, s⟩
  replace s : St W (L) w := s
  refine ⟨_, rfl, ?_⟩; clear ha; intro a ha
  refine st_val (.bool (decide (r ≥ (0 : Int)))) ha (by kernel_rfl) (by kernel_rfl) ?_
  clear ha; intro a ha
  refine st_val (.bool (decide (r ≥ (0 : Int)))) ha (by kernel_rfl) (by kernel_rfl) ?_
  clear ha; intro a ha
  refine wpList_nil ?_
  refine then_normal ?_
  refine wp_ret ?_
  refine ret_with (v := .bool (decide (r ≥ (0 : Int)))) ha (results_1 rfl ha (res_tmp (by kernel_rfl) (by kernel_rfl))) ?_
  exact ⟨by rw [hrb], s⟩

end Go.Proofs.Ytfcbjcohepkkfaa.B
