import Derived.Test.YtcnlidaacgcdhaaProg
import Derived.Test.YtcnlidaacgcdhaaSepS
import Derived.Test.YtcnlidaacgcdhaaSepK
import Derived.Test.YtcnlidaacgcdhaaP0
namespace Go.Proofs.Ytcnlidaacgcdhaa.B
open Go.RowKit Go.Proofs.Ytcnlidaacgcdhaa.Sep Go.Proofs.Ytcnlidaacgcdhaa.P
set_option linter.unusedVariables false
set_option linter.unusedSimpArgs false

theorem elt22 : Elt Try.prog 22 29 2 32 := ⟨by kernel_rfl, by kernel_rfl⟩
theorem zs22 : (Try.prog.info? 29).bind (fun i => i.zero.map (·.cells)) = some #[.string (str []), .string (str [])] := by kernel_rfl
theorem elt52 : Elt Try.prog 52 5 1 1 := ⟨by kernel_rfl, by kernel_rfl⟩
theorem zs52 : (Try.prog.info? 5).bind (fun i => i.zero.map (·.cells)) = some #[.int .u8 0] := by kernel_rfl
theorem elt62 : Elt Try.prog 62 9 1 16 := ⟨by kernel_rfl, by kernel_rfl⟩
theorem zs62 : (Try.prog.info? 9).bind (fun i => i.zero.map (·.cells)) = some #[.string (str [])] := by kernel_rfl
theorem elt63 : Elt Try.prog 63 66 3 32 := ⟨by kernel_rfl, by kernel_rfl⟩
theorem zs63 : (Try.prog.info? 66).bind (fun i => i.zero.map (·.cells)) = some #[.string (str []), .int .i64 0, .int .i64 0] := by kernel_rfl
/-- A span's cells; a list's. -/
def sp (s : Span) : List Value := [.string (str s.1), .string (str s.2)]
def sps (l : List Span) : List Value := l.flatMap sp
def evc (e : Ev) : List Value := [.string (str e.key), .int .i64 (e.j : Int), .int .i64 e.d]
def evcs (l : List Ev) : List Value := l.flatMap evc
theorem sps_at {l : List Span} {k : Nat} {s : Span} (h : l[k]? = some s) {j : Nat} (hj : j < 2) : (sps l)[k * 2 + j]? = (sp s)[j]? := by
  unfold sps; rw [List.flatMap_def]
  exact flatten_at (k := 2) (fun r hr => by obtain ⟨d, _, rfl⟩ := List.mem_map.1 hr; rfl) (by rw [List.getElem?_map, h]; rfl) hj
theorem evcs_at {l : List Ev} {k : Nat} {s : Ev} (h : l[k]? = some s) {j : Nat} (hj : j < 3) : (evcs l)[k * 3 + j]? = (evc s)[j]? := by
  unfold evcs; rw [List.flatMap_def]
  exact flatten_at (k := 3) (fun r hr => by obtain ⟨d, _, rfl⟩ := List.mem_map.1 hr; rfl) (by rw [List.getElem?_map, h]; rfl) hj
theorem sps_len (l : List Span) : (sps l).length = l.length * 2 := by unfold sps; rw [flat_len (k := 2) fun _ => rfl]
theorem evcs_len (l : List Ev) : (evcs l).length = l.length * 3 := by unfold evcs; rw [flat_len (k := 3) fun _ => rfl]
theorem sps_one (l : List Span) : ∀ u ∈ sps l, u.oneCell' = true := by
  intro u hu
  obtain ⟨s, _, h⟩ := List.mem_flatMap.1 hu
  simp [sp] at h
  rcases h with rfl | rfl <;> rfl
/-- What Check answers. -/
def chk (s : Span) : Int := if 33 < s.1.length ∨ 33 < s.2.length then 5 else if s.2 ≤ s.1 then 2 else 0
theorem chk_ok {s : Span} (h : chk s = 0) : s.1.length ≤ 33 ∧ s.2.length ≤ 33 ∧ s.1 < s.2 := by
  unfold chk at h
  split at h
  · omega
  · split at h
    · omega
    · rename_i h1 h2
      exact ⟨by omega, by omega, by grind⟩
theorem run_sp {o : Oper} {E : Env} {op : BinOp} {x y : Operand} {xt yt : TypeId} {p q : Span} (hop : (op = .eql ∧ xt = 29) ∨ (op = .neq ∧ xt = 29)) (ho : o.op = .binOp op xt x y yt) (hx : evalE E x = .agg (sp p).toArray) (hy : evalE E y = .agg (sp q).toArray) :
    ∀ w, (execOp (evalE E) o).run Try.prog w = .ok (.value (.bool (if op = .eql then decide (p = q) else decide (p ≠ q)))) w := by
  intro w
  have u9 := Try.underlying9
  have a9 := Try.isAgg9
  have z9 := Try.sizeOf9
  have hS : Try.prog.underlying 29 = some (.struct (Try.prog.fieldsOf 29)) := by kernel_rfl
  have hp : Try.prog.stoodInHeld 29 = false := by kernel_rfl
  have e : ∀ w, (Op.equalIn 10000 29 (.agg (sp p).toArray) (.agg (sp q).toArray)).run Try.prog w = .ok (decide (p = q)) w := by
    intro w
    rw [show (10000 : Nat) = 9999 + 1 from rfl, run_equalIn_struct w 9999 29 _ _ hS hp]
    simp only [Program.fieldsOf, Try.underlying29, sp]
    go_simp
    have h : decide (p = q) = (decide (p.1 = q.1) && decide (p.2 = q.2)) := by
      by_cases h1 : p.1 = q.1 <;> by_cases h2 : p.2 = q.2 <;> simp [Prod.ext_iff, h1, h2]
    simp [eqb_str, h]
    by_cases h1 : p.1 = q.1 <;> by_cases h2 : p.2 = q.2 <;> simp [h1, h2, str_list]
  have hm : Try.prog.eqGuardType Try.prog.depth 29 = false := by kernel_rfl
  have g : ∀ op a b, (eqGuard op 29 a b (.agg (sp p).toArray) (.agg (sp q).toArray)).run Try.prog w = .ok () w := fun op a b => run_eqGuard_agg w op 29 a b _ _ hm
  rcases hop with ⟨rfl, rfl⟩ | ⟨rfl, rfl⟩
  · simp [execOp, ho, hx, hy, run_eql_struct, e, g]
  · simp [execOp, ho, hx, hy, run_neq_struct, e, g]

theorem check_any (W : World) (L : List Chunk) (w : World) (x : Span) (s : St W L w) :
    Calls Try.prog 14 #[.agg #[.string (str x.1), .string (str x.2)]] w fun e w' => e = .returned (.int .i64 (chk x)) ∧ St W L w' := by
  refine enter_args (l := [.agg #[.string (str x.1), .string (str x.2)]]) Try.func14 rfl rfl (Nat.le_of_ble_eq_true rfl) ?_
  intro a ha; replace ha : Has a 20 [(0, .agg #[.string (str x.1), .string (str x.2)])] := ha
  refine wp_seq ?_
  refine wp_region_lit ?_
  refine st_ex ha (by kernel_rfl) (ex_box [.string (str x.1), .string (str x.2)] s rfl (by kernel_rfl)) ?_
  clear ha; rintro _ w a ⟨g1, rfl, s⟩ ha
  replace s : St W (.blk g1 [.string (str x.1), .string (str x.2)] 29 :: L) w := s
  refine st_val (.int .i64 0) ha (by kernel_rfl) (by kernel_rfl) ?_
  clear ha; intro a ha
  refine wpList_nil ?_
  refine then_normal ?_
  refine wp_seq ?_
  refine wp_block ?_
  refine wp_seq ?_
  refine wp_region_lit ?_
  refine st_val (.pointer (some ⟨g1, 0, none⟩)) ha (by kernel_rfl) (by kernel_rfl) ?_
  clear ha; intro a ha
  refine st_val (.string (str x.1)) ha (by kernel_rfl) (run_load1 (of_ := 0) (s.blkIs 0 rfl) rfl (by kernel_rfl) Try.isAgg9 rfl) ?_
  clear ha; intro a ha
  refine st_val (.int .i64 ((x.1.length : Nat) : Int)) ha (by kernel_rfl) (run_slen rfl Try.underlying9 (by kernel_rfl) _) ?_
  clear ha; intro a ha
  refine st_val (.bool (decide (((x.1.length : Nat) : Int) > (33 : Int)))) ha (by kernel_rfl) (by kernel_rfl) ?_
  clear ha; intro a ha
  refine st_val (.bool (decide (((x.1.length : Nat) : Int) > (33 : Int)))) ha (by kernel_rfl) (by kernel_rfl) ?_
  clear ha; intro a ha
  rcases Bool.eq_false_or_eq_true (decide (((x.1.length : Nat) : Int) > (33 : Int))) with hb | hb
  · rw [hb] at ha; replace hb : (((x.1.length : Nat) : Int) > (33 : Int)) := of_decide_eq_true hb
    refine st_pass ha (by kernel_rfl) ?_
    clear ha; intro a ha
    refine st_pass ha (by kernel_rfl) ?_
    clear ha; intro a ha
    refine st_pass ha (by kernel_rfl) ?_
    clear ha; intro a ha
    refine st_pass ha (by kernel_rfl) ?_
    clear ha; intro a ha
    refine st_val (.bool true) ha (by kernel_rfl) (by kernel_rfl) ?_
    clear ha; intro a ha
    refine st_val (.bool true) ha (by kernel_rfl) (by kernel_rfl) ?_
    clear ha; intro a ha
    refine wpList_nil ?_
    refine then_normal ?_
    refine wp_true ha rfl (by kernel_rfl) ?_
    refine wp_seq ?_
    refine wp_region_lit ?_
    refine st_val (.int .i64 5) ha (by kernel_rfl) (by kernel_rfl) ?_
    clear ha; intro a ha
    refine wpList_nil ?_
    refine then_normal ?_
    refine wp_ret ?_
    refine block_ret ?_
    refine then_ret ?_
    refine ret_with (v := .int .i64 5) ha (results_1 rfl ha (res_tmp (by kernel_rfl) (by kernel_rfl))) ?_
    replace s := s.tail
    replace s : St W (L) w := s
    refine ⟨?_, s⟩
    congr 2
    first | (unfold chk; rw [if_pos (by omega)]; done) | (unfold chk; rw [if_neg (by omega), if_pos (by assumption)]; done) | (unfold chk; rw [if_neg (by omega), if_neg (by assumption)]; done)
  · rw [hb] at ha; replace hb : ¬ (((x.1.length : Nat) : Int) > (33 : Int)) := of_decide_eq_false hb
    refine st_val (.pointer (some ⟨g1, 1, none⟩)) ha (by kernel_rfl) (by kernel_rfl) ?_
    clear ha; intro a ha
    refine st_val (.string (str x.2)) ha (by kernel_rfl) (run_load1 (of_ := 1) (s.blkIs 0 rfl) rfl (by kernel_rfl) Try.isAgg9 rfl) ?_
    clear ha; intro a ha
    refine st_val (.int .i64 ((x.2.length : Nat) : Int)) ha (by kernel_rfl) (run_slen rfl Try.underlying9 (by kernel_rfl) _) ?_
    clear ha; intro a ha
    refine st_val (.bool (decide (((x.2.length : Nat) : Int) > (33 : Int)))) ha (by kernel_rfl) (by kernel_rfl) ?_
    clear ha; intro a ha
    refine st_val (.bool (decide (((x.2.length : Nat) : Int) > (33 : Int)))) ha (by kernel_rfl) (by kernel_rfl) ?_
    clear ha; intro a ha
    refine st_val (.bool (decide (((x.2.length : Nat) : Int) > (33 : Int)))) ha (by kernel_rfl) (by kernel_rfl) ?_
    clear ha; intro a ha
    refine wpList_nil ?_
    refine then_normal ?_
    refine wp_part (decide (((x.2.length : Nat) : Int) > (33 : Int))) ha rfl (by kernel_rfl) (fun hb => ?_) (fun hb => ?_)
    · rw [hb] at ha; replace hb : (((x.2.length : Nat) : Int) > (33 : Int)) := of_decide_eq_true hb
      refine wp_seq ?_
      refine wp_region_lit ?_
      refine st_val (.int .i64 5) ha (by kernel_rfl) (by kernel_rfl) ?_
      clear ha; intro a ha
      refine wpList_nil ?_
      refine then_normal ?_
      refine wp_ret ?_
      refine block_ret ?_
      refine then_ret ?_
      refine ret_with (v := .int .i64 5) ha (results_1 rfl ha (res_tmp (by kernel_rfl) (by kernel_rfl))) ?_
      replace s := s.tail
      replace s : St W (L) w := s
      refine ⟨?_, s⟩
      congr 2
      first | (unfold chk; rw [if_pos (by omega)]; done) | (unfold chk; rw [if_neg (by omega), if_pos (by assumption)]; done) | (unfold chk; rw [if_neg (by omega), if_neg (by assumption)]; done)
    · rw [hb] at ha; replace hb : ¬ (((x.2.length : Nat) : Int) > (33 : Int)) := of_decide_eq_false hb
      refine wp_seq ?_
      refine wp_region_lit ?_
      refine st_val (.pointer (some ⟨g1, 0, none⟩)) ha (by kernel_rfl) (by kernel_rfl) ?_
      clear ha; intro a ha
      refine st_val (.string (str x.1)) ha (by kernel_rfl) (run_load1 (of_ := 0) (s.blkIs 0 rfl) rfl (by kernel_rfl) Try.isAgg9 rfl) ?_
      clear ha; intro a ha
      refine st_val (.pointer (some ⟨g1, 1, none⟩)) ha (by kernel_rfl) (by kernel_rfl) ?_
      clear ha; intro a ha
      refine st_val (.string (str x.2)) ha (by kernel_rfl) (run_load1 (of_ := 1) (s.blkIs 0 rfl) rfl (by kernel_rfl) Try.isAgg9 rfl) ?_
      clear ha; intro a ha
      refine st_val (.bool (decide (x.2 ≤ x.1))) ha (by kernel_rfl) (run_sgeq (p := x.1) (q := x.2) rfl (by kernel_rfl) (by kernel_rfl) _) ?_
      clear ha; intro a ha
      refine st_val (.bool (decide (x.2 ≤ x.1))) ha (by kernel_rfl) (by kernel_rfl) ?_
      clear ha; intro a ha
      refine wpList_nil ?_
      refine then_normal ?_
      refine wp_part (decide (x.2 ≤ x.1)) ha rfl (by kernel_rfl) (fun hb => ?_) (fun hb => ?_)
      · rw [hb] at ha; replace hb : (x.2 ≤ x.1) := of_decide_eq_true hb
        refine wp_seq ?_
        refine wp_region_lit ?_
        refine st_val (.int .i64 2) ha (by kernel_rfl) (by kernel_rfl) ?_
        clear ha; intro a ha
        refine wpList_nil ?_
        refine then_normal ?_
        refine wp_ret ?_
        refine block_ret ?_
        refine then_ret ?_
        refine ret_with (v := .int .i64 2) ha (results_1 rfl ha (res_tmp (by kernel_rfl) (by kernel_rfl))) ?_
        replace s := s.tail
        replace s : St W (L) w := s
        refine ⟨?_, s⟩
        congr 2
        first | (unfold chk; rw [if_pos (by omega)]; done) | (unfold chk; rw [if_neg (by omega), if_pos (by assumption)]; done) | (unfold chk; rw [if_neg (by omega), if_neg (by assumption)]; done)
      · rw [hb] at ha; replace hb : ¬ (x.2 ≤ x.1) := of_decide_eq_false hb
        refine wp_skip ?_
        refine block_normal ?_
        refine then_normal ?_
        refine wp_seq ?_
        refine wp_region_lit ?_
        refine st_val (.int .i64 0) ha (by kernel_rfl) (by kernel_rfl) ?_
        clear ha; intro a ha
        refine wpList_nil ?_
        refine then_normal ?_
        refine wp_ret ?_
        refine ret_with (v := .int .i64 0) ha (results_1 rfl ha (res_tmp (by kernel_rfl) (by kernel_rfl))) ?_
        replace s := s.tail
        replace s : St W (L) w := s
        refine ⟨?_, s⟩
        congr 2
        first | (unfold chk; rw [if_pos (by omega)]; done) | (unfold chk; rw [if_neg (by omega), if_pos (by assumption)]; done) | (unfold chk; rw [if_neg (by omega), if_neg (by assumption)]; done)

theorem has_any (W : World) (L : List Chunk) (w : World) (x : Span) (k : K) (s : St W L w) :
    Calls Try.prog 17 #[.agg #[.string (str x.1), .string (str x.2)], .string (str k)] w fun e w' => e = .returned (.bool (has x k)) ∧ St W L w' := by
  refine enter_args (l := [.agg #[.string (str x.1), .string (str x.2)], .string (str k)]) Try.func17 rfl rfl (Nat.le_of_ble_eq_true rfl) ?_
  intro a ha; replace ha : Has a 15 [(0, .agg #[.string (str x.1), .string (str x.2)]), (1, .string (str k))] := ha
  refine wp_seq ?_
  refine wp_region_lit ?_
  refine st_ex ha (by kernel_rfl) (ex_box [.string (str x.1), .string (str x.2)] s rfl (by kernel_rfl)) ?_
  clear ha; rintro _ w a ⟨g1, rfl, s⟩ ha
  replace s : St W (.blk g1 [.string (str x.1), .string (str x.2)] 29 :: L) w := s
  refine st_val (.bool false) ha (by kernel_rfl) (by kernel_rfl) ?_
  clear ha; intro a ha
  refine wpList_nil ?_
  refine then_normal ?_
  refine wp_seq ?_
  refine wp_region_lit ?_
  refine st_val (.pointer (some ⟨g1, 0, none⟩)) ha (by kernel_rfl) (by kernel_rfl) ?_
  clear ha; intro a ha
  refine st_val (.string (str x.1)) ha (by kernel_rfl) (run_load1 (of_ := 0) (s.blkIs 0 rfl) rfl (by kernel_rfl) Try.isAgg9 rfl) ?_
  clear ha; intro a ha
  refine st_val (.string (str k)) ha (by kernel_rfl) (by kernel_rfl) ?_
  clear ha; intro a ha
  refine st_val (.bool (decide (x.1 ≤ k))) ha (by kernel_rfl) (run_sleq (p := x.1) (q := k) rfl (by kernel_rfl) (by kernel_rfl) _) ?_
  clear ha; intro a ha
  refine st_val (.bool (decide (x.1 ≤ k))) ha (by kernel_rfl) (by kernel_rfl) ?_
  clear ha; intro a ha
  rcases Bool.eq_false_or_eq_true (decide (x.1 ≤ k)) with hb | hb
  · rw [hb] at ha; replace hb : (x.1 ≤ k) := of_decide_eq_true hb
    refine st_val (.string (str k)) ha (by kernel_rfl) (by kernel_rfl) ?_
    clear ha; intro a ha
    refine st_val (.pointer (some ⟨g1, 1, none⟩)) ha (by kernel_rfl) (by kernel_rfl) ?_
    clear ha; intro a ha
    refine st_val (.string (str x.2)) ha (by kernel_rfl) (run_load1 (of_ := 1) (s.blkIs 0 rfl) rfl (by kernel_rfl) Try.isAgg9 rfl) ?_
    clear ha; intro a ha
    refine st_val (.bool (decide (k < x.2))) ha (by kernel_rfl) (run_slss (p := k) (q := x.2) rfl (by kernel_rfl) (by kernel_rfl) _) ?_
    clear ha; intro a ha
    refine st_val (.bool (decide (k < x.2))) ha (by kernel_rfl) (by kernel_rfl) ?_
    clear ha; intro a ha
    refine st_val (.bool (decide (k < x.2))) ha (by kernel_rfl) (by kernel_rfl) ?_
    clear ha; intro a ha
    refine wpList_nil ?_
    refine then_normal ?_
    refine wp_ret ?_
    refine ret_with (v := .bool (decide (k < x.2))) ha (results_1 rfl ha (res_tmp (by kernel_rfl) (by kernel_rfl))) ?_
    replace s := s.tail
    replace s : St W (L) w := s
    refine ⟨?_, s⟩
    congr 2
    first | (simp [has, *]; done) | (unfold has; simp_all; done)
  · rw [hb] at ha; replace hb : ¬ (x.1 ≤ k) := of_decide_eq_false hb
    refine st_pass ha (by kernel_rfl) ?_
    clear ha; intro a ha
    refine st_pass ha (by kernel_rfl) ?_
    clear ha; intro a ha
    refine st_pass ha (by kernel_rfl) ?_
    clear ha; intro a ha
    refine st_pass ha (by kernel_rfl) ?_
    clear ha; intro a ha
    refine st_val (.bool false) ha (by kernel_rfl) (by kernel_rfl) ?_
    clear ha; intro a ha
    refine st_val (.bool false) ha (by kernel_rfl) (by kernel_rfl) ?_
    clear ha; intro a ha
    refine wpList_nil ?_
    refine then_normal ?_
    refine wp_ret ?_
    refine ret_with (v := .bool false) ha (results_1 rfl ha (res_tmp (by kernel_rfl) (by kernel_rfl))) ?_
    replace s := s.tail
    replace s : St W (L) w := s
    refine ⟨?_, s⟩
    congr 2
    first | (simp [has, *]; done) | (unfold has; simp_all; done)

theorem meets_any (W : World) (L : List Chunk) (w : World) (x y : Span) (s : St W L w) :
    Calls Try.prog 16 #[.agg #[.string (str x.1), .string (str x.2)], .agg #[.string (str y.1), .string (str y.2)]] w fun e w' => e = .returned (.bool (decide ((if y.1 ≤ x.1 then x.1 else y.1) < (if x.2 ≤ y.2 then x.2 else y.2)))) ∧ St W L w' := by
  refine enter_args (l := [.agg #[.string (str x.1), .string (str x.2)], .agg #[.string (str y.1), .string (str y.2)]]) Try.func16 rfl rfl (Nat.le_of_ble_eq_true rfl) ?_
  intro a ha; replace ha : Has a 16 [(0, .agg #[.string (str x.1), .string (str x.2)]), (1, .agg #[.string (str y.1), .string (str y.2)])] := ha
  refine wp_seq ?_
  refine wp_region_lit ?_
  refine st_ex ha (by kernel_rfl) (ex_box [.string (str x.1), .string (str x.2)] s rfl (by kernel_rfl)) ?_
  clear ha; rintro _ w a ⟨g1, rfl, s⟩ ha
  replace s : St W (.blk g1 [.string (str x.1), .string (str x.2)] 29 :: L) w := s
  refine st_ex ha (by kernel_rfl) (ex_box [.string (str y.1), .string (str y.2)] s rfl (by kernel_rfl)) ?_
  clear ha; rintro _ w a ⟨g2, rfl, s⟩ ha
  replace s : St W (.blk g2 [.string (str y.1), .string (str y.2)] 29 :: .blk g1 [.string (str x.1), .string (str x.2)] 29 :: L) w := s
  refine st_val (.bool false) ha (by kernel_rfl) (by kernel_rfl) ?_
  clear ha; intro a ha
  refine wpList_nil ?_
  refine then_normal ?_
  refine wp_seq ?_
  refine wp_region_lit ?_
  refine st_val (.pointer (some ⟨g1, 0, none⟩)) ha (by kernel_rfl) (by kernel_rfl) ?_
  clear ha; intro a ha
  refine st_val (.string (str x.1)) ha (by kernel_rfl) (run_load1 (of_ := 0) (s.blkIs 1 rfl) rfl (by kernel_rfl) Try.isAgg9 rfl) ?_
  clear ha; intro a ha
  refine st_val (.pointer (some ⟨g2, 0, none⟩)) ha (by kernel_rfl) (by kernel_rfl) ?_
  clear ha; intro a ha
  refine st_val (.string (str y.1)) ha (by kernel_rfl) (run_load1 (of_ := 0) (s.blkIs 0 rfl) rfl (by kernel_rfl) Try.isAgg9 rfl) ?_
  clear ha; intro a ha
  refine st_val (.string (str (if y.1 ≤ x.1 then x.1 else y.1))) ha (by kernel_rfl) (run_smax rfl (by kernel_rfl) (by kernel_rfl) _) ?_
  clear ha; intro a ha
  refine st_val (.pointer (some ⟨g1, 1, none⟩)) ha (by kernel_rfl) (by kernel_rfl) ?_
  clear ha; intro a ha
  refine st_val (.string (str x.2)) ha (by kernel_rfl) (run_load1 (of_ := 1) (s.blkIs 1 rfl) rfl (by kernel_rfl) Try.isAgg9 rfl) ?_
  clear ha; intro a ha
  refine st_val (.pointer (some ⟨g2, 1, none⟩)) ha (by kernel_rfl) (by kernel_rfl) ?_
  clear ha; intro a ha
  refine st_val (.string (str y.2)) ha (by kernel_rfl) (run_load1 (of_ := 1) (s.blkIs 0 rfl) rfl (by kernel_rfl) Try.isAgg9 rfl) ?_
  clear ha; intro a ha
  refine st_val (.string (str (if x.2 ≤ y.2 then x.2 else y.2))) ha (by kernel_rfl) (run_smin rfl (by kernel_rfl) (by kernel_rfl) _) ?_
  clear ha; intro a ha
  refine st_val (.bool (decide ((if y.1 ≤ x.1 then x.1 else y.1) < (if x.2 ≤ y.2 then x.2 else y.2)))) ha (by kernel_rfl) (run_slss (p := (if y.1 ≤ x.1 then x.1 else y.1)) (q := (if x.2 ≤ y.2 then x.2 else y.2)) rfl (by kernel_rfl) (by kernel_rfl) _) ?_
  clear ha; intro a ha
  refine st_val (.bool (decide ((if y.1 ≤ x.1 then x.1 else y.1) < (if x.2 ≤ y.2 then x.2 else y.2)))) ha (by kernel_rfl) (by kernel_rfl) ?_
  clear ha; intro a ha
  refine wpList_nil ?_
  refine then_normal ?_
  refine wp_ret ?_
  refine ret_with (v := .bool (decide ((if y.1 ≤ x.1 then x.1 else y.1) < (if x.2 ≤ y.2 then x.2 else y.2)))) ha (results_1 rfl ha (res_tmp (by kernel_rfl) (by kernel_rfl))) ?_
  replace s := s.tail.tail
  replace s : St W (L) w := s
  exact ⟨rfl, s⟩

theorem of_any (W : World) (L : List Chunk) (w : World) (k : K) (hk : k.length ≤ 32) (s : St W L w) :
    Calls Try.prog 15 #[.string (str k)] w fun e w' => e = .returned (.tuple #[.agg #[.string (str k), .string (str (k ++ [0]))], .int .i64 0]) ∧ St W L w' := by
  refine enter_args (l := [.string (str k)]) Try.func15 rfl rfl (Nat.le_of_ble_eq_true rfl) ?_
  intro a ha; replace ha : Has a 12 [(0, .string (str k))] := ha
  refine wp_seq ?_
  refine wp_region_lit ?_
  refine st_ex ha (by kernel_rfl) (ex_alloc [.string (str []), .string (str [])] s rfl (Try.zeroValue29 _) (by kernel_rfl)) ?_
  clear ha; rintro _ w a ⟨g1, rfl, s⟩ ha
  replace s : St W (.blk g1 [.string (str []), .string (str [])] 29 :: L) w := s
  refine st_val (.int .i64 0) ha (by kernel_rfl) (by kernel_rfl) ?_
  clear ha; intro a ha
  refine wpList_nil ?_
  refine then_normal ?_
  refine wp_seq ?_
  refine wp_seq ?_
  refine wp_region_lit ?_
  refine st_val (.string (str k)) ha (by kernel_rfl) (by kernel_rfl) ?_
  clear ha; intro a ha
  refine st_val (.int .i64 ((k.length : Nat) : Int)) ha (by kernel_rfl) (run_slen rfl Try.underlying9 (by kernel_rfl) _) ?_
  clear ha; intro a ha
  refine st_val (.bool false) ha (by kernel_rfl) (run_known (show (decide (((k.length : Nat) : Int) > (32 : Int))) = false from decide_eq_false (by omega)) (by kernel_rfl)) ?_
  clear ha; intro a ha
  refine wpList_nil ?_
  refine then_normal ?_
  refine wp_false ha rfl (by kernel_rfl) ?_
  refine wp_skip ?_
  refine then_normal ?_
  refine wp_seq ?_
  refine wp_region_lit ?_
  refine st_val (.string (str k)) ha (by kernel_rfl) (by kernel_rfl) ?_
  clear ha; intro a ha
  refine st_val (.string (str k)) ha (by kernel_rfl) (by kernel_rfl) ?_
  clear ha; intro a ha
  refine st_val (.string (str (k ++ [0]))) ha (by kernel_rfl) (run_sadd rfl (by kernel_rfl) (by kernel_rfl) (by first | omega | (simp only [List.length_cons, List.length_nil]; omega)) _) ?_
  clear ha; intro a ha
  refine st_val (.agg #[.string (str k), .string (str (k ++ [0]))]) ha (by kernel_rfl) (by kernel_rfl) ?_
  clear ha; intro a ha
  refine st_exd ha (by kernel_rfl) (ex_store (of_ := 0) 0 [.string (str k), .string (str (k ++ [0]))] s rfl rfl (by kernel_rfl) (by kernel_rfl) (Try.sizeOf29 _) rfl (by simp [Value.oneCell']) (Nat.le_of_ble_eq_true rfl)) ?_
  clear ha; rintro w a s ha
  replace s : St W (.blk g1 [.string (str k), .string (str (k ++ [0]))] 29 :: L) w := s
  refine st_val (.int .i64 0) ha (by kernel_rfl) (by kernel_rfl) ?_
  clear ha; intro a ha
  refine wpList_nil ?_
  refine then_normal ?_
  refine wp_ret ?_
  refine ret_with (v := .tuple #[.agg #[.string (str k), .string (str (k ++ [0]))], .int .i64 0]) ha (results_2 rfl ha (res_cellN (s.blkIs 0 rfl) (by kernel_rfl) (by kernel_rfl) Try.isAgg29 Try.sizeOf29 rfl) (res_tmp (by kernel_rfl) (by kernel_rfl))) ?_
  replace s := s.tail
  replace s : St W (L) w := s
  exact ⟨rfl, s⟩

theorem wjoin_any (W : World) (L : List Chunk) (w : World) (x y : Int) (s : St W L w) :
    Calls Try.prog 24 #[.int .i64 x, .int .i64 y] w fun e w' => e = .returned (.bool (decide (0 < x))) ∧ St W L w' := by
  refine enter_args (l := [.int .i64 x, .int .i64 y]) Try.func24 rfl rfl (Nat.le_of_ble_eq_true rfl) ?_
  intro a ha; replace ha : Has a 7 [(0, .int .i64 x), (1, .int .i64 y)] := ha
  refine wp_seq ?_
  refine wp_region_lit ?_
  refine st_val (.bool false) ha (by kernel_rfl) (by kernel_rfl) ?_
  clear ha; intro a ha
  refine wpList_nil ?_
  refine then_normal ?_
  refine wp_seq ?_
  refine wp_region_lit ?_
  refine st_val (.int .i64 x) ha (by kernel_rfl) (by kernel_rfl) ?_
  clear ha; intro a ha
  refine st_val (.bool (decide (x > (0 : Int)))) ha (by kernel_rfl) (by kernel_rfl) ?_
  clear ha; intro a ha
  refine st_val (.bool (decide (x > (0 : Int)))) ha (by kernel_rfl) (by kernel_rfl) ?_
  clear ha; intro a ha
  refine wpList_nil ?_
  refine then_normal ?_
  refine wp_ret ?_
  refine ret_with (v := .bool (decide (x > (0 : Int)))) ha (results_1 rfl ha (res_tmp (by kernel_rfl) (by kernel_rfl))) ?_
  refine ⟨?_, s⟩
  first | rfl | (have h : 0 < x := hb; simp [h]; done) | (have h : ¬ 0 < x := hb; simp [h]; done) | (have h : 0 < x := by assumption; simp [h]; done) | (congr 2; symm; simp_all; done) | (congr 2; symm; simp; omega)

theorem wboth_any (W : World) (L : List Chunk) (w : World) (x y : Int) (s : St W L w) :
    Calls Try.prog 25 #[.int .i64 x, .int .i64 y] w fun e w' => e = .returned (.bool (decide (0 < x) && decide (0 < y))) ∧ St W L w' := by
  refine enter_args (l := [.int .i64 x, .int .i64 y]) Try.func25 rfl rfl (Nat.le_of_ble_eq_true rfl) ?_
  intro a ha; replace ha : Has a 11 [(0, .int .i64 x), (1, .int .i64 y)] := ha
  refine wp_seq ?_
  refine wp_region_lit ?_
  refine st_val (.bool false) ha (by kernel_rfl) (by kernel_rfl) ?_
  clear ha; intro a ha
  refine wpList_nil ?_
  refine then_normal ?_
  refine wp_seq ?_
  refine wp_region_lit ?_
  refine st_val (.int .i64 x) ha (by kernel_rfl) (by kernel_rfl) ?_
  clear ha; intro a ha
  refine st_val (.bool (decide (x > (0 : Int)))) ha (by kernel_rfl) (by kernel_rfl) ?_
  clear ha; intro a ha
  refine st_val (.bool (decide (x > (0 : Int)))) ha (by kernel_rfl) (by kernel_rfl) ?_
  clear ha; intro a ha
  rcases Bool.eq_false_or_eq_true (decide (x > (0 : Int))) with hb | hb
  · rw [hb] at ha; replace hb : (x > (0 : Int)) := of_decide_eq_true hb
    refine st_val (.int .i64 y) ha (by kernel_rfl) (by kernel_rfl) ?_
    clear ha; intro a ha
    refine st_val (.bool (decide (y > (0 : Int)))) ha (by kernel_rfl) (by kernel_rfl) ?_
    clear ha; intro a ha
    refine st_val (.bool (decide (y > (0 : Int)))) ha (by kernel_rfl) (by kernel_rfl) ?_
    clear ha; intro a ha
    refine st_val (.bool (decide (y > (0 : Int)))) ha (by kernel_rfl) (by kernel_rfl) ?_
    clear ha; intro a ha
    refine wpList_nil ?_
    refine then_normal ?_
    refine wp_ret ?_
    refine ret_with (v := .bool (decide (y > (0 : Int)))) ha (results_1 rfl ha (res_tmp (by kernel_rfl) (by kernel_rfl))) ?_
    refine ⟨?_, s⟩
    first | rfl | (have h : 0 < x := hb; simp [h]; done) | (have h : ¬ 0 < x := hb; simp [h]; done) | (have h : 0 < x := by assumption; simp [h]; done) | (congr 2; symm; simp_all; done) | (congr 2; symm; simp; omega)
  · rw [hb] at ha; replace hb : ¬ (x > (0 : Int)) := of_decide_eq_false hb
    refine st_pass ha (by kernel_rfl) ?_
    clear ha; intro a ha
    refine st_pass ha (by kernel_rfl) ?_
    clear ha; intro a ha
    refine st_val (.bool false) ha (by kernel_rfl) (by kernel_rfl) ?_
    clear ha; intro a ha
    refine st_val (.bool false) ha (by kernel_rfl) (by kernel_rfl) ?_
    clear ha; intro a ha
    refine wpList_nil ?_
    refine then_normal ?_
    refine wp_ret ?_
    refine ret_with (v := .bool false) ha (results_1 rfl ha (res_tmp (by kernel_rfl) (by kernel_rfl))) ?_
    refine ⟨?_, s⟩
    first | rfl | (have h : 0 < x := hb; simp [h]; done) | (have h : ¬ 0 < x := hb; simp [h]; done) | (have h : 0 < x := by assumption; simp [h]; done) | (congr 2; symm; simp_all; done) | (congr 2; symm; simp; omega)

theorem wless_any (W : World) (L : List Chunk) (w : World) (x y : Int) (s : St W L w) :
    Calls Try.prog 26 #[.int .i64 x, .int .i64 y] w fun e w' => e = .returned (.bool (decide (0 < x) && (y == (0 : Int)))) ∧ St W L w' := by
  refine enter_args (l := [.int .i64 x, .int .i64 y]) Try.func26 rfl rfl (Nat.le_of_ble_eq_true rfl) ?_
  intro a ha; replace ha : Has a 11 [(0, .int .i64 x), (1, .int .i64 y)] := ha
  refine wp_seq ?_
  refine wp_region_lit ?_
  refine st_val (.bool false) ha (by kernel_rfl) (by kernel_rfl) ?_
  clear ha; intro a ha
  refine wpList_nil ?_
  refine then_normal ?_
  refine wp_seq ?_
  refine wp_region_lit ?_
  refine st_val (.int .i64 x) ha (by kernel_rfl) (by kernel_rfl) ?_
  clear ha; intro a ha
  refine st_val (.bool (decide (x > (0 : Int)))) ha (by kernel_rfl) (by kernel_rfl) ?_
  clear ha; intro a ha
  refine st_val (.bool (decide (x > (0 : Int)))) ha (by kernel_rfl) (by kernel_rfl) ?_
  clear ha; intro a ha
  rcases Bool.eq_false_or_eq_true (decide (x > (0 : Int))) with hb | hb
  · rw [hb] at ha; replace hb : (x > (0 : Int)) := of_decide_eq_true hb
    refine st_val (.int .i64 y) ha (by kernel_rfl) (by kernel_rfl) ?_
    clear ha; intro a ha
    refine st_val (.bool (y == (0 : Int))) ha (by kernel_rfl) (by kernel_rfl) ?_
    clear ha; intro a ha
    refine st_val (.bool (y == (0 : Int))) ha (by kernel_rfl) (by kernel_rfl) ?_
    clear ha; intro a ha
    refine st_val (.bool (y == (0 : Int))) ha (by kernel_rfl) (by kernel_rfl) ?_
    clear ha; intro a ha
    refine wpList_nil ?_
    refine then_normal ?_
    refine wp_ret ?_
    refine ret_with (v := .bool (y == (0 : Int))) ha (results_1 rfl ha (res_tmp (by kernel_rfl) (by kernel_rfl))) ?_
    refine ⟨?_, s⟩
    first | rfl | (have h : 0 < x := hb; simp [h]; done) | (have h : ¬ 0 < x := hb; simp [h]; done) | (have h : 0 < x := by assumption; simp [h]; done) | (congr 2; symm; simp_all; done) | (congr 2; symm; simp; omega)
  · rw [hb] at ha; replace hb : ¬ (x > (0 : Int)) := of_decide_eq_false hb
    refine st_pass ha (by kernel_rfl) ?_
    clear ha; intro a ha
    refine st_pass ha (by kernel_rfl) ?_
    clear ha; intro a ha
    refine st_val (.bool false) ha (by kernel_rfl) (by kernel_rfl) ?_
    clear ha; intro a ha
    refine st_val (.bool false) ha (by kernel_rfl) (by kernel_rfl) ?_
    clear ha; intro a ha
    refine wpList_nil ?_
    refine then_normal ?_
    refine wp_ret ?_
    refine ret_with (v := .bool false) ha (results_1 rfl ha (res_tmp (by kernel_rfl) (by kernel_rfl))) ?_
    refine ⟨?_, s⟩
    first | rfl | (have h : 0 < x := hb; simp [h]; done) | (have h : ¬ 0 < x := hb; simp [h]; done) | (have h : 0 < x := by assumption; simp [h]; done) | (congr 2; symm; simp_all; done) | (congr 2; symm; simp; omega)

theorem isNaN_any (W : World) (L : List Chunk) (w : World) (x : K) (s : St W L w) :
    Calls Try.prog 46 #[.string (str x)] w fun e w' => e = .returned (.bool false) ∧ St W L w' := by
  refine enter_args (l := [.string (str x)]) Try.func46 rfl rfl (Nat.le_of_ble_eq_true rfl) ?_
  intro a ha; replace ha : Has a 6 [(0, .string (str x))] := ha
  refine wp_seq ?_
  refine wp_region_lit ?_
  refine st_val (.bool false) ha (by kernel_rfl) (by kernel_rfl) ?_
  clear ha; intro a ha
  refine wpList_nil ?_
  refine then_normal ?_
  refine wp_seq ?_
  refine wp_region_lit ?_
  refine st_val (.string (str x)) ha (by kernel_rfl) (by kernel_rfl) ?_
  clear ha; intro a ha
  refine st_val (.string (str x)) ha (by kernel_rfl) (by kernel_rfl) ?_
  clear ha; intro a ha
  refine st_val (.bool (decide (x ≠ x))) ha (by kernel_rfl) (run_sneq (p := x) (q := x) rfl (by kernel_rfl) (by kernel_rfl) _) ?_
  clear ha; intro a ha
  refine st_val (.bool (decide (x ≠ x))) ha (by kernel_rfl) (by kernel_rfl) ?_
  clear ha; intro a ha
  refine wpList_nil ?_
  refine then_normal ?_
  refine wp_ret ?_
  refine ret_with (v := .bool (decide (x ≠ x))) ha (results_1 rfl ha (res_tmp (by kernel_rfl) (by kernel_rfl))) ?_
  exact ⟨by simp, s⟩

/-- What the comparison of strings answers. -/
def cmpK (x y : K) : Int := if x < y then -1 else if y < x then 1 else 0
theorem cmp_any (W : World) (L : List Chunk) (w : World) (x y : K) (s : St W L w) :
    Calls Try.prog 37 #[.string (str x), .string (str y)] w fun e w' => e = .returned (.int .i64 (cmpK x y)) ∧ St W L w' := by
  refine enter_args (l := [.string (str x), .string (str y)]) Try.func37 rfl rfl (Nat.le_of_ble_eq_true rfl) ?_
  intro a ha; replace ha : Has a 20 [(0, .string (str x)), (1, .string (str y))] := ha
  refine wp_seq ?_
  refine wp_region_lit ?_
  refine st_val (.int .i64 0) ha (by kernel_rfl) (by kernel_rfl) ?_
  clear ha; intro a ha
  refine wpList_nil ?_
  refine then_normal ?_
  refine wp_seq ?_
  refine wp_region_lit ?_
  refine st_val (.string (str x)) ha (by kernel_rfl) (by kernel_rfl) ?_
  clear ha; intro a ha
  refine st_call ha (by kernel_rfl) (by kernel_rfl) (isNaN_any W _ w x s) ?_
  rintro _ w ⟨rfl, s⟩
  replace s : St W (L) w := s
  refine ⟨_, rfl, ?_⟩; clear ha; intro a ha
  refine st_val (.bool false) ha (by kernel_rfl) (by kernel_rfl) ?_
  clear ha; intro a ha
  refine wpList_nil ?_
  refine then_normal ?_
  refine wp_seq ?_
  refine wp_region_lit ?_
  refine st_val (.string (str y)) ha (by kernel_rfl) (by kernel_rfl) ?_
  clear ha; intro a ha
  refine st_call ha (by kernel_rfl) (by kernel_rfl) (isNaN_any W _ w y s) ?_
  rintro _ w ⟨rfl, s⟩
  replace s : St W (L) w := s
  refine ⟨_, rfl, ?_⟩; clear ha; intro a ha
  refine st_val (.bool false) ha (by kernel_rfl) (by kernel_rfl) ?_
  clear ha; intro a ha
  refine wpList_nil ?_
  refine then_normal ?_
  refine wp_seq ?_
  refine wp_seq ?_
  refine wp_region_lit ?_
  refine st_val (.bool false) ha (by kernel_rfl) (by kernel_rfl) ?_
  clear ha; intro a ha
  refine wpList_nil ?_
  refine then_normal ?_
  refine wp_false ha rfl (by kernel_rfl) ?_
  refine wp_skip ?_
  refine then_normal ?_
  refine wp_seq ?_
  refine wp_seq ?_
  refine wp_region_lit ?_
  refine st_val (.bool false) ha (by kernel_rfl) (by kernel_rfl) ?_
  clear ha; intro a ha
  refine wpList_nil ?_
  refine then_normal ?_
  refine wp_false ha rfl (by kernel_rfl) ?_
  refine wp_skip ?_
  refine then_normal ?_
  refine wp_seq ?_
  refine wp_seq ?_
  refine wp_region_lit ?_
  refine st_val (.string (str x)) ha (by kernel_rfl) (by kernel_rfl) ?_
  clear ha; intro a ha
  refine st_val (.string (str y)) ha (by kernel_rfl) (by kernel_rfl) ?_
  clear ha; intro a ha
  refine st_val (.bool (decide (x < y))) ha (by kernel_rfl) (run_slss (p := x) (q := y) rfl (by kernel_rfl) (by kernel_rfl) _) ?_
  clear ha; intro a ha
  refine wpList_nil ?_
  refine then_normal ?_
  refine wp_part (decide (x < y)) ha rfl (by kernel_rfl) (fun hb => ?_) (fun hb => ?_)
  · rw [hb] at ha; replace hb : (x < y) := of_decide_eq_true hb
    refine wp_seq ?_
    refine wp_region_lit ?_
    refine st_val (.int .i64 (-1)) ha (by kernel_rfl) (by kernel_rfl) ?_
    clear ha; intro a ha
    refine wpList_nil ?_
    refine then_normal ?_
    refine wp_ret ?_
    refine then_ret ?_
    refine ret_with (v := .int .i64 (-1)) ha (results_1 rfl ha (res_tmp (by kernel_rfl) (by kernel_rfl))) ?_
    refine ⟨?_, s⟩
    congr 2
    unfold cmpK
    first | (rw [if_pos (by assumption)]; done) | (rw [if_neg (by assumption), if_pos (by assumption)]; done) | (rw [if_neg (by assumption), if_neg (by assumption)]; done)
  · rw [hb] at ha; replace hb : ¬ (x < y) := of_decide_eq_false hb
    refine wp_skip ?_
    refine then_normal ?_
    refine wp_seq ?_
    refine wp_seq ?_
    refine wp_region_lit ?_
    refine st_val (.string (str x)) ha (by kernel_rfl) (by kernel_rfl) ?_
    clear ha; intro a ha
    refine st_val (.string (str y)) ha (by kernel_rfl) (by kernel_rfl) ?_
    clear ha; intro a ha
    refine st_val (.bool (decide (y < x))) ha (by kernel_rfl) (run_sgtr (p := x) (q := y) rfl (by kernel_rfl) (by kernel_rfl) _) ?_
    clear ha; intro a ha
    refine wpList_nil ?_
    refine then_normal ?_
    refine wp_part (decide (y < x)) ha rfl (by kernel_rfl) (fun hb => ?_) (fun hb => ?_)
    · rw [hb] at ha; replace hb : (y < x) := of_decide_eq_true hb
      refine wp_seq ?_
      refine wp_region_lit ?_
      refine st_val (.int .i64 1) ha (by kernel_rfl) (by kernel_rfl) ?_
      clear ha; intro a ha
      refine wpList_nil ?_
      refine then_normal ?_
      refine wp_ret ?_
      refine then_ret ?_
      refine ret_with (v := .int .i64 1) ha (results_1 rfl ha (res_tmp (by kernel_rfl) (by kernel_rfl))) ?_
      refine ⟨?_, s⟩
      congr 2
      unfold cmpK
      first | (rw [if_pos (by assumption)]; done) | (rw [if_neg (by assumption), if_pos (by assumption)]; done) | (rw [if_neg (by assumption), if_neg (by assumption)]; done)
    · rw [hb] at ha; replace hb : ¬ (y < x) := of_decide_eq_false hb
      refine wp_skip ?_
      refine then_normal ?_
      refine wp_seq ?_
      refine wp_region_lit ?_
      refine st_val (.int .i64 0) ha (by kernel_rfl) (by kernel_rfl) ?_
      clear ha; intro a ha
      refine wpList_nil ?_
      refine then_normal ?_
      refine wp_ret ?_
      refine ret_with (v := .int .i64 0) ha (results_1 rfl ha (res_tmp (by kernel_rfl) (by kernel_rfl))) ?_
      refine ⟨?_, s⟩
      congr 2
      unfold cmpK
      first | (rw [if_pos (by assumption)]; done) | (rw [if_neg (by assumption), if_pos (by assumption)]; done) | (rw [if_neg (by assumption), if_neg (by assumption)]; done)

theorem cmpEv_any (W : World) (L : List Chunk) (w : World) (x y : Ev) (s : St W L w) :
    Calls Try.prog 36 #[.agg #[.string (str x.key), .int .i64 (x.j : Int), .int .i64 x.d], .agg #[.string (str y.key), .int .i64 (y.j : Int), .int .i64 y.d]] w fun e w' => e = .returned (.int .i64 (cmpK x.key y.key)) ∧ St W L w' := by
  refine enter_args (l := [.agg #[.string (str x.key), .int .i64 (x.j : Int), .int .i64 x.d], .agg #[.string (str y.key), .int .i64 (y.j : Int), .int .i64 y.d]]) Try.func36 rfl rfl (Nat.le_of_ble_eq_true rfl) ?_
  intro a ha; replace ha : Has a 10 [(0, .agg #[.string (str x.key), .int .i64 (x.j : Int), .int .i64 x.d]), (1, .agg #[.string (str y.key), .int .i64 (y.j : Int), .int .i64 y.d])] := ha
  refine wp_seq ?_
  refine wp_region_lit ?_
  refine st_ex ha (by kernel_rfl) (ex_box [.string (str x.key), .int .i64 (x.j : Int), .int .i64 x.d] s rfl (by kernel_rfl)) ?_
  clear ha; rintro _ w a ⟨g1, rfl, s⟩ ha
  replace s : St W (.blk g1 [.string (str x.key), .int .i64 (x.j : Int), .int .i64 x.d] 66 :: L) w := s
  refine st_ex ha (by kernel_rfl) (ex_box [.string (str y.key), .int .i64 (y.j : Int), .int .i64 y.d] s rfl (by kernel_rfl)) ?_
  clear ha; rintro _ w a ⟨g2, rfl, s⟩ ha
  replace s : St W (.blk g2 [.string (str y.key), .int .i64 (y.j : Int), .int .i64 y.d] 66 :: .blk g1 [.string (str x.key), .int .i64 (x.j : Int), .int .i64 x.d] 66 :: L) w := s
  refine st_val (.int .i64 0) ha (by kernel_rfl) (by kernel_rfl) ?_
  clear ha; intro a ha
  refine wpList_nil ?_
  refine then_normal ?_
  refine wp_seq ?_
  refine wp_region_lit ?_
  refine st_val (.pointer (some ⟨g1, 0, none⟩)) ha (by kernel_rfl) (by kernel_rfl) ?_
  clear ha; intro a ha
  refine st_val (.string (str x.key)) ha (by kernel_rfl) (run_load1 (of_ := 0) (s.blkIs 1 rfl) rfl (by kernel_rfl) Try.isAgg9 rfl) ?_
  clear ha; intro a ha
  refine st_val (.pointer (some ⟨g2, 0, none⟩)) ha (by kernel_rfl) (by kernel_rfl) ?_
  clear ha; intro a ha
  refine st_val (.string (str y.key)) ha (by kernel_rfl) (run_load1 (of_ := 0) (s.blkIs 0 rfl) rfl (by kernel_rfl) Try.isAgg9 rfl) ?_
  clear ha; intro a ha
  refine st_call ha (by kernel_rfl) (by kernel_rfl) (cmp_any W _ w x.key y.key s) ?_
  rintro _ w ⟨rfl, s⟩
  replace s : St W (.blk g2 [.string (str y.key), .int .i64 (y.j : Int), .int .i64 y.d] 66 :: .blk g1 [.string (str x.key), .int .i64 (x.j : Int), .int .i64 x.d] 66 :: L) w := s
  refine ⟨_, rfl, ?_⟩; clear ha; intro a ha
  refine st_val (.int .i64 (cmpK x.key y.key)) ha (by kernel_rfl) (by kernel_rfl) ?_
  clear ha; intro a ha
  refine wpList_nil ?_
  refine then_normal ?_
  refine wp_ret ?_
  refine ret_with (v := .int .i64 (cmpK x.key y.key)) ha (results_1 rfl ha (res_tmp (by kernel_rfl) (by kernel_rfl))) ?_
  replace s := s.tail.tail
  replace s : St W (L) w := s
  exact ⟨rfl, s⟩

end Go.Proofs.Ytcnlidaacgcdhaa.B
