import Derived.Test.YtfcbjcohepkkfaaJ0
import Derived.Test.YtfcbjcohepkkfaaSepN
namespace Go.Proofs.Ytfcbjcohepkkfaa.B
open Go.RowKit Go.Maps Go.Sort Go.Shelf Go.Proofs.Ytfcbjcohepkkfaa.Sep Go.Proofs.Ytfcbjcohepkkfaa.P
set_option linter.unusedVariables false
set_option linter.unusedSimpArgs false
/-! ### how events and transactions lie in memory -/
def evv (x : Ev) : List Value := [.int .i64 x.ti, .int .i64 x.kind, .int .i64 x.node, .int .i64 x.id, .int .i64 x.epoch, .int .i64 x.op, .string (str x.key), .string (str x.val), .string (str x.frm), .string (str x.to), .bool x.is, .slice x.A x.rows.length x.c, .int .i64 x.wall, .int .i64 x.logic, .int .i64 x.err, .int .i64 x.status]
def evs (l : List Ev) : List Value := l.flatMap evv
theorem evs_at {l : List Ev} {k : Nat} {x : Ev} (h : l[k]? = some x) {j : Nat} (hj : j < 16) : (evs l)[k * 16 + j]? = (evv x)[j]? := by
  unfold evs; rw [List.flatMap_def]
  exact flatten_at (k := 16) (fun r hr => by obtain ⟨d, _, rfl⟩ := List.mem_map.1 hr; rfl) (by rw [List.getElem?_map, h]; rfl) hj
theorem evs_len (l : List Ev) : (evs l).length = l.length * 16 := by
  unfold evs; rw [List.flatMap_def, flatten_len (k := 16) (fun r hr => by obtain ⟨d, _, rfl⟩ := List.mem_map.1 hr; rfl), List.length_map]
theorem evs_append (l m : List Ev) : evs (l ++ m) = evs l ++ evs m := by simp [evs]
theorem evs_one (l : List Ev) : ∀ u ∈ evs l, u.oneCell' = true := by
  intro u hu
  obtain ⟨x, _, hx⟩ := List.mem_flatMap.1 hu
  simp only [evv, List.mem_cons, List.not_mem_nil, or_false] at hx
  rcases hx with rfl | rfl | rfl | rfl | rfl | rfl | rfl | rfl | rfl | rfl | rfl | rfl | rfl | rfl | rfl | rfl <;> rfl
def EvsIn (A : Option Addr) (l : List Ev) (w : World) : Prop := Reads w 16 A l.length (evs l) ∧ ∀ x ∈ l, Reads w 2 x.A x.rows.length (rws x.rows)
def txv (t : Tx) : List Value := [.int .i64 t.node, .int .i64 t.stand, .bool t.began] ++ evv t.ask ++ [.bool t.comm, .bool t.abrt, .int .i64 t.epoch, .int .i64 t.wall, .int .i64 t.logic]

theorem has_id (W : World) (L : List Chunk) (w : World) (x : Ev) (s : St W L w) :
    Calls Try.prog 26 #[.agg (evv x).toArray] w fun e w' => e = .returned (.bool (hasB x)) ∧ St W L w' := by
  refine enter_args (l := [.agg (evv x).toArray]) Try.func26 rfl rfl (Nat.le_of_ble_eq_true rfl) ?_
  intro a ha; replace ha : Has a 11 [(0, .agg (evv x).toArray)] := ha
  refine wp_seq ?_
  refine wp_region_lit ?_
  refine st_ex ha (by kernel_rfl) (ex_box (evv x) s rfl (by kernel_rfl)) ?_
  clear ha; rintro _ w a ⟨g1, rfl, s⟩ ha
  refine st_val (.bool false) ha (by kernel_rfl) (by kernel_rfl) ?_
  clear ha; intro a ha
  refine wpList_nil ?_
  refine then_normal ?_
  refine wp_seq ?_
  refine wp_region_lit ?_
  refine st_val (.pointer (some ⟨g1, 1, none⟩)) ha (by kernel_rfl) (by kernel_rfl) ?_
  clear ha; intro a ha
  refine st_val (.int .i64 x.kind) ha (by kernel_rfl) (run_load1 (of_ := 1) (s.blkIs 0 rfl) rfl (by kernel_rfl) Try.isAgg3 rfl) ?_
  clear ha; intro a ha
  refine st_val (.bool (decide (x.kind ≥ (1 : Int)))) ha (by kernel_rfl) (by kernel_rfl) ?_
  clear ha; intro a ha
  refine st_val (.bool (decide (x.kind ≥ (1 : Int)))) ha (by kernel_rfl) (by kernel_rfl) ?_
  clear ha; intro a ha
  rcases Bool.eq_false_or_eq_true (decide (x.kind ≥ (1 : Int))) with hb | hb
  · rw [hb] at ha; replace hb : (x.kind ≥ (1 : Int)) := of_decide_eq_true hb
    refine st_val (.pointer (some ⟨g1, 1, none⟩)) ha (by kernel_rfl) (by kernel_rfl) ?_
    clear ha; intro a ha
    refine st_val (.int .i64 x.kind) ha (by kernel_rfl) (run_load1 (of_ := 1) (s.blkIs 0 rfl) rfl (by kernel_rfl) Try.isAgg3 rfl) ?_
    clear ha; intro a ha
    refine st_val (.bool (decide (x.kind ≤ (4 : Int)))) ha (by kernel_rfl) (by kernel_rfl) ?_
    clear ha; intro a ha
    refine st_val (.bool (decide (x.kind ≤ (4 : Int)))) ha (by kernel_rfl) (by kernel_rfl) ?_
    clear ha; intro a ha
    refine st_val (.bool (decide (x.kind ≤ (4 : Int)))) ha (by kernel_rfl) (by kernel_rfl) ?_
    clear ha; intro a ha
    refine wpList_nil ?_
    refine then_normal ?_
    refine wp_ret ?_
    refine ret_with (v := .bool (decide (x.kind ≤ (4 : Int)))) ha (results_1 rfl ha (res_tmp (by kernel_rfl) (by kernel_rfl))) ?_
    replace s := s.tail
    replace s : St W (L) w := s
    refine ⟨?_, s⟩
    congr 2
    unfold hasB
    first | (simp [*]; done) | (simp [*]; omega)
  · rw [hb] at ha; replace hb : ¬ (x.kind ≥ (1 : Int)) := of_decide_eq_false hb
    refine st_pass ha (by kernel_rfl) ?_
    clear ha; intro a ha
    refine st_pass ha (by kernel_rfl) ?_
    clear ha; intro a ha
    refine st_pass ha (by kernel_rfl) ?_
    clear ha; intro a ha
    refine st_val (.bool false) ha (by kernel_rfl) (by kernel_rfl) ?_
    clear ha; intro a ha
    refine st_val (.bool false) ha (by kernel_rfl) (by kernel_rfl) ?_
    clear ha; intro a ha
    refine wpList_nil ?_
    refine then_normal ?_
    refine wp_ret ?_
    refine ret_with (v := .bool false) ha (results_1 rfl ha (res_tmp (by kernel_rfl) (by kernel_rfl))) ?_
    replace s := s.tail
    replace s : St W (L) w := s
    refine ⟨?_, s⟩
    congr 2
    unfold hasB
    first | (simp [*]; done) | (simp [*]; omega)

theorem com_any (W : World) (L : List Chunk) (w : World) (x : Ev) (s : St W L w) :
    Calls Try.prog 29 #[.agg (evv x).toArray] w fun e w' => e = .returned (.bool (comB x)) ∧ St W L w' := by
  refine enter_args (l := [.agg (evv x).toArray]) Try.func29 rfl rfl (Nat.le_of_ble_eq_true rfl) ?_
  intro a ha; replace ha : Has a 26 [(0, .agg (evv x).toArray)] := ha
  refine wp_seq ?_
  refine wp_region_lit ?_
  refine st_ex ha (by kernel_rfl) (ex_box (evv x) s rfl (by kernel_rfl)) ?_
  clear ha; rintro _ w a ⟨g1, rfl, s⟩ ha
  refine st_val (.bool false) ha (by kernel_rfl) (by kernel_rfl) ?_
  clear ha; intro a ha
  refine wpList_nil ?_
  refine then_normal ?_
  refine wp_seq ?_
  refine wp_region_lit ?_
  refine st_val (.pointer (some ⟨g1, 1, none⟩)) ha (by kernel_rfl) (by kernel_rfl) ?_
  clear ha; intro a ha
  refine st_val (.int .i64 x.kind) ha (by kernel_rfl) (run_load1 (of_ := 1) (s.blkIs 0 rfl) rfl (by kernel_rfl) Try.isAgg3 rfl) ?_
  clear ha; intro a ha
  refine st_val (.bool (x.kind == (3 : Int))) ha (by kernel_rfl) (by kernel_rfl) ?_
  clear ha; intro a ha
  refine st_val (.bool (x.kind == (3 : Int))) ha (by kernel_rfl) (by kernel_rfl) ?_
  clear ha; intro a ha
  rcases Bool.eq_false_or_eq_true (x.kind == (3 : Int)) with hb | hb
  · rw [hb] at ha; have hb_ := hb; replace hb := eq_of_beq hb
    refine st_val (.pointer (some ⟨g1, 5, none⟩)) ha (by kernel_rfl) (by kernel_rfl) ?_
    clear ha; intro a ha
    refine st_val (.int .i64 x.op) ha (by kernel_rfl) (run_load1 (of_ := 5) (s.blkIs 0 rfl) rfl (by kernel_rfl) Try.isAgg3 rfl) ?_
    clear ha; intro a ha
    refine st_val (.bool (x.op == (6 : Int))) ha (by kernel_rfl) (by kernel_rfl) ?_
    clear ha; intro a ha
    refine st_val (.bool (x.op == (6 : Int))) ha (by kernel_rfl) (by kernel_rfl) ?_
    clear ha; intro a ha
    refine st_val (.bool (x.op == (6 : Int))) ha (by kernel_rfl) (by kernel_rfl) ?_
    clear ha; intro a ha
    rcases Bool.eq_false_or_eq_true (x.op == (6 : Int)) with hb | hb
    · rw [hb] at ha; have hb_ := hb; replace hb := eq_of_beq hb
      refine st_val (.pointer (some ⟨g1, 14, none⟩)) ha (by kernel_rfl) (by kernel_rfl) ?_
      clear ha; intro a ha
      refine st_val (.int .i64 x.err) ha (by kernel_rfl) (run_load1 (of_ := 14) (s.blkIs 0 rfl) rfl (by kernel_rfl) Try.isAgg25 rfl) ?_
      clear ha; intro a ha
      refine st_val (.bool (x.err == (0 : Int))) ha (by kernel_rfl) (by kernel_rfl) ?_
      clear ha; intro a ha
      refine st_val (.bool (x.err == (0 : Int))) ha (by kernel_rfl) (by kernel_rfl) ?_
      clear ha; intro a ha
      refine st_val (.bool (x.err == (0 : Int))) ha (by kernel_rfl) (by kernel_rfl) ?_
      clear ha; intro a ha
      rcases Bool.eq_false_or_eq_true (x.err == (0 : Int)) with hb | hb
      · rw [hb] at ha; have hb_ := hb; replace hb := eq_of_beq hb
        refine st_pass ha (by kernel_rfl) ?_
        clear ha; intro a ha
        refine st_pass ha (by kernel_rfl) ?_
        clear ha; intro a ha
        refine st_pass ha (by kernel_rfl) ?_
        clear ha; intro a ha
        refine st_pass ha (by kernel_rfl) ?_
        clear ha; intro a ha
        refine st_pass ha (by kernel_rfl) ?_
        clear ha; intro a ha
        refine st_pass ha (by kernel_rfl) ?_
        clear ha; intro a ha
        refine st_pass ha (by kernel_rfl) ?_
        clear ha; intro a ha
        refine st_pass ha (by kernel_rfl) ?_
        clear ha; intro a ha
        refine st_val (.bool true) ha (by kernel_rfl) (by kernel_rfl) ?_
        clear ha; intro a ha
        refine st_val (.bool true) ha (by kernel_rfl) (by kernel_rfl) ?_
        clear ha; intro a ha
        refine wpList_nil ?_
        refine then_normal ?_
        refine wp_ret ?_
        refine ret_with (v := .bool true) ha (results_1 rfl ha (res_tmp (by kernel_rfl) (by kernel_rfl))) ?_
        replace s := s.tail
        replace s : St W (L) w := s
        refine ⟨?_, s⟩
        congr 2
        unfold comB
        first | (simp [*]; done) | (simp_all; done) | (simp [*]; omega)
      · rw [hb] at ha; have hb_ := hb; replace hb := ne_of_beq_false hb
        refine st_val (.pointer (some ⟨g1, 1, none⟩)) ha (by kernel_rfl) (by kernel_rfl) ?_
        clear ha; intro a ha
        refine st_val (.int .i64 x.kind) ha (by kernel_rfl) (run_load1 (of_ := 1) (s.blkIs 0 rfl) rfl (by kernel_rfl) Try.isAgg3 rfl) ?_
        clear ha; intro a ha
        refine st_val (.bool (x.kind == (4 : Int))) ha (by kernel_rfl) (by kernel_rfl) ?_
        clear ha; intro a ha
        refine st_val (.bool (x.kind == (4 : Int))) ha (by kernel_rfl) (by kernel_rfl) ?_
        clear ha; intro a ha
        rcases Bool.eq_false_or_eq_true (x.kind == (4 : Int)) with hb | hb
        · rw [hb] at ha; have hb_ := hb; replace hb := eq_of_beq hb
          refine st_val (.pointer (some ⟨g1, 15, none⟩)) ha (by kernel_rfl) (by kernel_rfl) ?_
          clear ha; intro a ha
          refine st_val (.int .i64 x.status) ha (by kernel_rfl) (run_load1 (of_ := 15) (s.blkIs 0 rfl) rfl (by kernel_rfl) Try.isAgg3 rfl) ?_
          clear ha; intro a ha
          refine st_val (.bool (x.status == (3 : Int))) ha (by kernel_rfl) (by kernel_rfl) ?_
          clear ha; intro a ha
          refine st_val (.bool (x.status == (3 : Int))) ha (by kernel_rfl) (by kernel_rfl) ?_
          clear ha; intro a ha
          refine st_val (.bool (x.status == (3 : Int))) ha (by kernel_rfl) (by kernel_rfl) ?_
          clear ha; intro a ha
          refine st_val (.bool (x.status == (3 : Int))) ha (by kernel_rfl) (by kernel_rfl) ?_
          clear ha; intro a ha
          refine wpList_nil ?_
          refine then_normal ?_
          refine wp_ret ?_
          refine ret_with (v := .bool (x.status == (3 : Int))) ha (results_1 rfl ha (res_tmp (by kernel_rfl) (by kernel_rfl))) ?_
          replace s := s.tail
          replace s : St W (L) w := s
          refine ⟨?_, s⟩
          congr 2
          unfold comB
          first | (simp [*]; done) | (simp_all; done) | (simp [*]; omega)
        · rw [hb] at ha; have hb_ := hb; replace hb := ne_of_beq_false hb
          refine st_pass ha (by kernel_rfl) ?_
          clear ha; intro a ha
          refine st_pass ha (by kernel_rfl) ?_
          clear ha; intro a ha
          refine st_pass ha (by kernel_rfl) ?_
          clear ha; intro a ha
          refine st_val (.bool false) ha (by kernel_rfl) (by kernel_rfl) ?_
          clear ha; intro a ha
          refine st_val (.bool false) ha (by kernel_rfl) (by kernel_rfl) ?_
          clear ha; intro a ha
          refine st_val (.bool false) ha (by kernel_rfl) (by kernel_rfl) ?_
          clear ha; intro a ha
          refine wpList_nil ?_
          refine then_normal ?_
          refine wp_ret ?_
          refine ret_with (v := .bool false) ha (results_1 rfl ha (res_tmp (by kernel_rfl) (by kernel_rfl))) ?_
          replace s := s.tail
          replace s : St W (L) w := s
          refine ⟨?_, s⟩
          congr 2
          unfold comB
          first | (simp [*]; done) | (simp_all; done) | (simp [*]; omega)
    · rw [hb] at ha; have hb_ := hb; replace hb := ne_of_beq_false hb
      refine st_pass ha (by kernel_rfl) ?_
      clear ha; intro a ha
      refine st_pass ha (by kernel_rfl) ?_
      clear ha; intro a ha
      refine st_pass ha (by kernel_rfl) ?_
      clear ha; intro a ha
      refine st_val (.bool false) ha (by kernel_rfl) (by kernel_rfl) ?_
      clear ha; intro a ha
      refine st_val (.bool false) ha (by kernel_rfl) (by kernel_rfl) ?_
      clear ha; intro a ha
      refine st_val (.pointer (some ⟨g1, 1, none⟩)) ha (by kernel_rfl) (by kernel_rfl) ?_
      clear ha; intro a ha
      refine st_val (.int .i64 x.kind) ha (by kernel_rfl) (run_load1 (of_ := 1) (s.blkIs 0 rfl) rfl (by kernel_rfl) Try.isAgg3 rfl) ?_
      clear ha; intro a ha
      refine st_val (.bool (x.kind == (4 : Int))) ha (by kernel_rfl) (by kernel_rfl) ?_
      clear ha; intro a ha
      refine st_val (.bool (x.kind == (4 : Int))) ha (by kernel_rfl) (by kernel_rfl) ?_
      clear ha; intro a ha
      rcases Bool.eq_false_or_eq_true (x.kind == (4 : Int)) with hb | hb
      · rw [hb] at ha; have hb_ := hb; replace hb := eq_of_beq hb
        refine st_val (.pointer (some ⟨g1, 15, none⟩)) ha (by kernel_rfl) (by kernel_rfl) ?_
        clear ha; intro a ha
        refine st_val (.int .i64 x.status) ha (by kernel_rfl) (run_load1 (of_ := 15) (s.blkIs 0 rfl) rfl (by kernel_rfl) Try.isAgg3 rfl) ?_
        clear ha; intro a ha
        refine st_val (.bool (x.status == (3 : Int))) ha (by kernel_rfl) (by kernel_rfl) ?_
        clear ha; intro a ha
        refine st_val (.bool (x.status == (3 : Int))) ha (by kernel_rfl) (by kernel_rfl) ?_
        clear ha; intro a ha
        refine st_val (.bool (x.status == (3 : Int))) ha (by kernel_rfl) (by kernel_rfl) ?_
        clear ha; intro a ha
        refine st_val (.bool (x.status == (3 : Int))) ha (by kernel_rfl) (by kernel_rfl) ?_
        clear ha; intro a ha
        refine wpList_nil ?_
        refine then_normal ?_
        refine wp_ret ?_
        refine ret_with (v := .bool (x.status == (3 : Int))) ha (results_1 rfl ha (res_tmp (by kernel_rfl) (by kernel_rfl))) ?_
        replace s := s.tail
        replace s : St W (L) w := s
        refine ⟨?_, s⟩
        congr 2
        unfold comB
        first | (simp [*]; done) | (simp_all; done) | (simp [*]; omega)
      · rw [hb] at ha; have hb_ := hb; replace hb := ne_of_beq_false hb
        refine st_pass ha (by kernel_rfl) ?_
        clear ha; intro a ha
        refine st_pass ha (by kernel_rfl) ?_
        clear ha; intro a ha
        refine st_pass ha (by kernel_rfl) ?_
        clear ha; intro a ha
        refine st_val (.bool false) ha (by kernel_rfl) (by kernel_rfl) ?_
        clear ha; intro a ha
        refine st_val (.bool false) ha (by kernel_rfl) (by kernel_rfl) ?_
        clear ha; intro a ha
        refine st_val (.bool false) ha (by kernel_rfl) (by kernel_rfl) ?_
        clear ha; intro a ha
        refine wpList_nil ?_
        refine then_normal ?_
        refine wp_ret ?_
        refine ret_with (v := .bool false) ha (results_1 rfl ha (res_tmp (by kernel_rfl) (by kernel_rfl))) ?_
        replace s := s.tail
        replace s : St W (L) w := s
        refine ⟨?_, s⟩
        congr 2
        unfold comB
        first | (simp [*]; done) | (simp_all; done) | (simp [*]; omega)
  · rw [hb] at ha; have hb_ := hb; replace hb := ne_of_beq_false hb
    refine st_pass ha (by kernel_rfl) ?_
    clear ha; intro a ha
    refine st_pass ha (by kernel_rfl) ?_
    clear ha; intro a ha
    refine st_pass ha (by kernel_rfl) ?_
    clear ha; intro a ha
    refine st_val (.bool false) ha (by kernel_rfl) (by kernel_rfl) ?_
    clear ha; intro a ha
    refine st_val (.bool false) ha (by kernel_rfl) (by kernel_rfl) ?_
    clear ha; intro a ha
    refine st_pass ha (by kernel_rfl) ?_
    clear ha; intro a ha
    refine st_pass ha (by kernel_rfl) ?_
    clear ha; intro a ha
    refine st_pass ha (by kernel_rfl) ?_
    clear ha; intro a ha
    refine st_val (.bool false) ha (by kernel_rfl) (by kernel_rfl) ?_
    clear ha; intro a ha
    refine st_val (.bool false) ha (by kernel_rfl) (by kernel_rfl) ?_
    clear ha; intro a ha
    refine st_val (.pointer (some ⟨g1, 1, none⟩)) ha (by kernel_rfl) (by kernel_rfl) ?_
    clear ha; intro a ha
    refine st_val (.int .i64 x.kind) ha (by kernel_rfl) (run_load1 (of_ := 1) (s.blkIs 0 rfl) rfl (by kernel_rfl) Try.isAgg3 rfl) ?_
    clear ha; intro a ha
    refine st_val (.bool (x.kind == (4 : Int))) ha (by kernel_rfl) (by kernel_rfl) ?_
    clear ha; intro a ha
    refine st_val (.bool (x.kind == (4 : Int))) ha (by kernel_rfl) (by kernel_rfl) ?_
    clear ha; intro a ha
    rcases Bool.eq_false_or_eq_true (x.kind == (4 : Int)) with hb | hb
    · rw [hb] at ha; have hb_ := hb; replace hb := eq_of_beq hb
      refine st_val (.pointer (some ⟨g1, 15, none⟩)) ha (by kernel_rfl) (by kernel_rfl) ?_
      clear ha; intro a ha
      refine st_val (.int .i64 x.status) ha (by kernel_rfl) (run_load1 (of_ := 15) (s.blkIs 0 rfl) rfl (by kernel_rfl) Try.isAgg3 rfl) ?_
      clear ha; intro a ha
      refine st_val (.bool (x.status == (3 : Int))) ha (by kernel_rfl) (by kernel_rfl) ?_
      clear ha; intro a ha
      refine st_val (.bool (x.status == (3 : Int))) ha (by kernel_rfl) (by kernel_rfl) ?_
      clear ha; intro a ha
      refine st_val (.bool (x.status == (3 : Int))) ha (by kernel_rfl) (by kernel_rfl) ?_
      clear ha; intro a ha
      refine st_val (.bool (x.status == (3 : Int))) ha (by kernel_rfl) (by kernel_rfl) ?_
      clear ha; intro a ha
      refine wpList_nil ?_
      refine then_normal ?_
      refine wp_ret ?_
      refine ret_with (v := .bool (x.status == (3 : Int))) ha (results_1 rfl ha (res_tmp (by kernel_rfl) (by kernel_rfl))) ?_
      replace s := s.tail
      replace s : St W (L) w := s
      refine ⟨?_, s⟩
      congr 2
      unfold comB
      first | (simp [*]; done) | (simp_all; done) | (simp [*]; omega)
    · rw [hb] at ha; have hb_ := hb; replace hb := ne_of_beq_false hb
      refine st_pass ha (by kernel_rfl) ?_
      clear ha; intro a ha
      refine st_pass ha (by kernel_rfl) ?_
      clear ha; intro a ha
      refine st_pass ha (by kernel_rfl) ?_
      clear ha; intro a ha
      refine st_val (.bool false) ha (by kernel_rfl) (by kernel_rfl) ?_
      clear ha; intro a ha
      refine st_val (.bool false) ha (by kernel_rfl) (by kernel_rfl) ?_
      clear ha; intro a ha
      refine st_val (.bool false) ha (by kernel_rfl) (by kernel_rfl) ?_
      clear ha; intro a ha
      refine wpList_nil ?_
      refine then_normal ?_
      refine wp_ret ?_
      refine ret_with (v := .bool false) ha (results_1 rfl ha (res_tmp (by kernel_rfl) (by kernel_rfl))) ?_
      replace s := s.tail
      replace s : St W (L) w := s
      refine ⟨?_, s⟩
      congr 2
      unfold comB
      first | (simp [*]; done) | (simp_all; done) | (simp [*]; omega)

theorem abr_any (W : World) (L : List Chunk) (w : World) (x : Ev) (s : St W L w) :
    Calls Try.prog 30 #[.agg (evv x).toArray] w fun e w' => e = .returned (.bool (abrB x)) ∧ St W L w' := by
  refine enter_args (l := [.agg (evv x).toArray]) Try.func30 rfl rfl (Nat.le_of_ble_eq_true rfl) ?_
  intro a ha; replace ha : Has a 31 [(0, .agg (evv x).toArray)] := ha
  refine wp_seq ?_
  refine wp_region_lit ?_
  refine st_ex ha (by kernel_rfl) (ex_box (evv x) s rfl (by kernel_rfl)) ?_
  clear ha; rintro _ w a ⟨g1, rfl, s⟩ ha
  refine st_val (.bool false) ha (by kernel_rfl) (by kernel_rfl) ?_
  clear ha; intro a ha
  refine wpList_nil ?_
  refine then_normal ?_
  refine wp_seq ?_
  refine wp_region_lit ?_
  refine st_val (.pointer (some ⟨g1, 1, none⟩)) ha (by kernel_rfl) (by kernel_rfl) ?_
  clear ha; intro a ha
  refine st_val (.int .i64 x.kind) ha (by kernel_rfl) (run_load1 (of_ := 1) (s.blkIs 0 rfl) rfl (by kernel_rfl) Try.isAgg3 rfl) ?_
  clear ha; intro a ha
  refine st_val (.bool (x.kind == (3 : Int))) ha (by kernel_rfl) (by kernel_rfl) ?_
  clear ha; intro a ha
  refine st_val (.bool (x.kind == (3 : Int))) ha (by kernel_rfl) (by kernel_rfl) ?_
  clear ha; intro a ha
  rcases Bool.eq_false_or_eq_true (x.kind == (3 : Int)) with hb | hb
  · rw [hb] at ha; have hb_ := hb; replace hb := eq_of_beq hb
    refine st_val (.pointer (some ⟨g1, 5, none⟩)) ha (by kernel_rfl) (by kernel_rfl) ?_
    clear ha; intro a ha
    refine st_val (.int .i64 x.op) ha (by kernel_rfl) (run_load1 (of_ := 5) (s.blkIs 0 rfl) rfl (by kernel_rfl) Try.isAgg3 rfl) ?_
    clear ha; intro a ha
    refine st_val (.bool (x.op == (7 : Int))) ha (by kernel_rfl) (by kernel_rfl) ?_
    clear ha; intro a ha
    refine st_val (.bool (x.op == (7 : Int))) ha (by kernel_rfl) (by kernel_rfl) ?_
    clear ha; intro a ha
    rcases Bool.eq_false_or_eq_true (x.op == (7 : Int)) with hb | hb
    · rw [hb] at ha; have hb_ := hb; replace hb := eq_of_beq hb
      refine st_val (.pointer (some ⟨g1, 14, none⟩)) ha (by kernel_rfl) (by kernel_rfl) ?_
      clear ha; intro a ha
      refine st_val (.int .i64 x.err) ha (by kernel_rfl) (run_load1 (of_ := 14) (s.blkIs 0 rfl) rfl (by kernel_rfl) Try.isAgg25 rfl) ?_
      clear ha; intro a ha
      refine st_val (.bool (x.err == (0 : Int))) ha (by kernel_rfl) (by kernel_rfl) ?_
      clear ha; intro a ha
      refine st_val (.bool (x.err == (0 : Int))) ha (by kernel_rfl) (by kernel_rfl) ?_
      clear ha; intro a ha
      refine st_val (.bool (x.err == (0 : Int))) ha (by kernel_rfl) (by kernel_rfl) ?_
      clear ha; intro a ha
      rcases Bool.eq_false_or_eq_true (x.err == (0 : Int)) with hb | hb
      · rw [hb] at ha; have hb_ := hb; replace hb := eq_of_beq hb
        refine st_pass ha (by kernel_rfl) ?_
        clear ha; intro a ha
        refine st_pass ha (by kernel_rfl) ?_
        clear ha; intro a ha
        refine st_pass ha (by kernel_rfl) ?_
        clear ha; intro a ha
        refine st_val (.bool true) ha (by kernel_rfl) (by kernel_rfl) ?_
        clear ha; intro a ha
        refine st_val (.bool true) ha (by kernel_rfl) (by kernel_rfl) ?_
        clear ha; intro a ha
        refine st_val (.bool true) ha (by kernel_rfl) (by kernel_rfl) ?_
        clear ha; intro a ha
        refine st_pass ha (by kernel_rfl) ?_
        clear ha; intro a ha
        refine st_pass ha (by kernel_rfl) ?_
        clear ha; intro a ha
        refine st_pass ha (by kernel_rfl) ?_
        clear ha; intro a ha
        refine st_pass ha (by kernel_rfl) ?_
        clear ha; intro a ha
        refine st_pass ha (by kernel_rfl) ?_
        clear ha; intro a ha
        refine st_pass ha (by kernel_rfl) ?_
        clear ha; intro a ha
        refine st_pass ha (by kernel_rfl) ?_
        clear ha; intro a ha
        refine st_pass ha (by kernel_rfl) ?_
        clear ha; intro a ha
        refine st_val (.bool true) ha (by kernel_rfl) (by kernel_rfl) ?_
        clear ha; intro a ha
        refine st_val (.bool true) ha (by kernel_rfl) (by kernel_rfl) ?_
        clear ha; intro a ha
        refine wpList_nil ?_
        refine then_normal ?_
        refine wp_ret ?_
        refine ret_with (v := .bool true) ha (results_1 rfl ha (res_tmp (by kernel_rfl) (by kernel_rfl))) ?_
        replace s := s.tail
        replace s : St W (L) w := s
        refine ⟨?_, s⟩
        congr 2
        unfold abrB
        first | (simp [*]; done) | (simp_all; done) | (simp [*]; omega)
      · rw [hb] at ha; have hb_ := hb; replace hb := ne_of_beq_false hb
        refine st_val (.pointer (some ⟨g1, 14, none⟩)) ha (by kernel_rfl) (by kernel_rfl) ?_
        clear ha; intro a ha
        refine st_val (.int .i64 x.err) ha (by kernel_rfl) (run_load1 (of_ := 14) (s.blkIs 0 rfl) rfl (by kernel_rfl) Try.isAgg25 rfl) ?_
        clear ha; intro a ha
        refine st_val (.bool (x.err == (200 : Int))) ha (by kernel_rfl) (by kernel_rfl) ?_
        clear ha; intro a ha
        refine st_val (.bool (x.err == (200 : Int))) ha (by kernel_rfl) (by kernel_rfl) ?_
        clear ha; intro a ha
        refine st_val (.bool (x.err == (200 : Int))) ha (by kernel_rfl) (by kernel_rfl) ?_
        clear ha; intro a ha
        refine st_val (.bool (x.err == (200 : Int))) ha (by kernel_rfl) (by kernel_rfl) ?_
        clear ha; intro a ha
        rcases Bool.eq_false_or_eq_true (x.err == (200 : Int)) with hb | hb
        · rw [hb] at ha; have hb_ := hb; replace hb := eq_of_beq hb
          refine st_pass ha (by kernel_rfl) ?_
          clear ha; intro a ha
          refine st_pass ha (by kernel_rfl) ?_
          clear ha; intro a ha
          refine st_pass ha (by kernel_rfl) ?_
          clear ha; intro a ha
          refine st_pass ha (by kernel_rfl) ?_
          clear ha; intro a ha
          refine st_pass ha (by kernel_rfl) ?_
          clear ha; intro a ha
          refine st_pass ha (by kernel_rfl) ?_
          clear ha; intro a ha
          refine st_pass ha (by kernel_rfl) ?_
          clear ha; intro a ha
          refine st_pass ha (by kernel_rfl) ?_
          clear ha; intro a ha
          refine st_val (.bool true) ha (by kernel_rfl) (by kernel_rfl) ?_
          clear ha; intro a ha
          refine st_val (.bool true) ha (by kernel_rfl) (by kernel_rfl) ?_
          clear ha; intro a ha
          refine wpList_nil ?_
          refine then_normal ?_
          refine wp_ret ?_
          refine ret_with (v := .bool true) ha (results_1 rfl ha (res_tmp (by kernel_rfl) (by kernel_rfl))) ?_
          replace s := s.tail
          replace s : St W (L) w := s
          refine ⟨?_, s⟩
          congr 2
          unfold abrB
          first | (simp [*]; done) | (simp_all; done) | (simp [*]; omega)
        · rw [hb] at ha; have hb_ := hb; replace hb := ne_of_beq_false hb
          refine st_val (.pointer (some ⟨g1, 1, none⟩)) ha (by kernel_rfl) (by kernel_rfl) ?_
          clear ha; intro a ha
          refine st_val (.int .i64 x.kind) ha (by kernel_rfl) (run_load1 (of_ := 1) (s.blkIs 0 rfl) rfl (by kernel_rfl) Try.isAgg3 rfl) ?_
          clear ha; intro a ha
          refine st_val (.bool (x.kind == (4 : Int))) ha (by kernel_rfl) (by kernel_rfl) ?_
          clear ha; intro a ha
          refine st_val (.bool (x.kind == (4 : Int))) ha (by kernel_rfl) (by kernel_rfl) ?_
          clear ha; intro a ha
          rcases Bool.eq_false_or_eq_true (x.kind == (4 : Int)) with hb | hb
          · rw [hb] at ha; have hb_ := hb; replace hb := eq_of_beq hb
            refine st_val (.pointer (some ⟨g1, 15, none⟩)) ha (by kernel_rfl) (by kernel_rfl) ?_
            clear ha; intro a ha
            refine st_val (.int .i64 x.status) ha (by kernel_rfl) (run_load1 (of_ := 15) (s.blkIs 0 rfl) rfl (by kernel_rfl) Try.isAgg3 rfl) ?_
            clear ha; intro a ha
            refine st_val (.bool (x.status == (4 : Int))) ha (by kernel_rfl) (by kernel_rfl) ?_
            clear ha; intro a ha
            refine st_val (.bool (x.status == (4 : Int))) ha (by kernel_rfl) (by kernel_rfl) ?_
            clear ha; intro a ha
            refine st_val (.bool (x.status == (4 : Int))) ha (by kernel_rfl) (by kernel_rfl) ?_
            clear ha; intro a ha
            refine st_val (.bool (x.status == (4 : Int))) ha (by kernel_rfl) (by kernel_rfl) ?_
            clear ha; intro a ha
            refine wpList_nil ?_
            refine then_normal ?_
            refine wp_ret ?_
            refine ret_with (v := .bool (x.status == (4 : Int))) ha (results_1 rfl ha (res_tmp (by kernel_rfl) (by kernel_rfl))) ?_
            replace s := s.tail
            replace s : St W (L) w := s
            refine ⟨?_, s⟩
            congr 2
            unfold abrB
            first | (simp [*]; done) | (simp_all; done) | (simp [*]; omega)
          · rw [hb] at ha; have hb_ := hb; replace hb := ne_of_beq_false hb
            refine st_pass ha (by kernel_rfl) ?_
            clear ha; intro a ha
            refine st_pass ha (by kernel_rfl) ?_
            clear ha; intro a ha
            refine st_pass ha (by kernel_rfl) ?_
            clear ha; intro a ha
            refine st_val (.bool false) ha (by kernel_rfl) (by kernel_rfl) ?_
            clear ha; intro a ha
            refine st_val (.bool false) ha (by kernel_rfl) (by kernel_rfl) ?_
            clear ha; intro a ha
            refine st_val (.bool false) ha (by kernel_rfl) (by kernel_rfl) ?_
            clear ha; intro a ha
            refine wpList_nil ?_
            refine then_normal ?_
            refine wp_ret ?_
            refine ret_with (v := .bool false) ha (results_1 rfl ha (res_tmp (by kernel_rfl) (by kernel_rfl))) ?_
            replace s := s.tail
            replace s : St W (L) w := s
            refine ⟨?_, s⟩
            congr 2
            unfold abrB
            first | (simp [*]; done) | (simp_all; done) | (simp [*]; omega)
    · rw [hb] at ha; have hb_ := hb; replace hb := ne_of_beq_false hb
      refine st_pass ha (by kernel_rfl) ?_
      clear ha; intro a ha
      refine st_pass ha (by kernel_rfl) ?_
      clear ha; intro a ha
      refine st_pass ha (by kernel_rfl) ?_
      clear ha; intro a ha
      refine st_val (.bool false) ha (by kernel_rfl) (by kernel_rfl) ?_
      clear ha; intro a ha
      refine st_val (.bool false) ha (by kernel_rfl) (by kernel_rfl) ?_
      clear ha; intro a ha
      refine st_val (.pointer (some ⟨g1, 14, none⟩)) ha (by kernel_rfl) (by kernel_rfl) ?_
      clear ha; intro a ha
      refine st_val (.int .i64 x.err) ha (by kernel_rfl) (run_load1 (of_ := 14) (s.blkIs 0 rfl) rfl (by kernel_rfl) Try.isAgg25 rfl) ?_
      clear ha; intro a ha
      refine st_val (.bool (x.err == (200 : Int))) ha (by kernel_rfl) (by kernel_rfl) ?_
      clear ha; intro a ha
      refine st_val (.bool (x.err == (200 : Int))) ha (by kernel_rfl) (by kernel_rfl) ?_
      clear ha; intro a ha
      refine st_val (.bool (x.err == (200 : Int))) ha (by kernel_rfl) (by kernel_rfl) ?_
      clear ha; intro a ha
      refine st_val (.bool (x.err == (200 : Int))) ha (by kernel_rfl) (by kernel_rfl) ?_
      clear ha; intro a ha
      rcases Bool.eq_false_or_eq_true (x.err == (200 : Int)) with hb | hb
      · rw [hb] at ha; have hb_ := hb; replace hb := eq_of_beq hb
        refine st_pass ha (by kernel_rfl) ?_
        clear ha; intro a ha
        refine st_pass ha (by kernel_rfl) ?_
        clear ha; intro a ha
        refine st_pass ha (by kernel_rfl) ?_
        clear ha; intro a ha
        refine st_pass ha (by kernel_rfl) ?_
        clear ha; intro a ha
        refine st_pass ha (by kernel_rfl) ?_
        clear ha; intro a ha
        refine st_pass ha (by kernel_rfl) ?_
        clear ha; intro a ha
        refine st_pass ha (by kernel_rfl) ?_
        clear ha; intro a ha
        refine st_pass ha (by kernel_rfl) ?_
        clear ha; intro a ha
        refine st_val (.bool true) ha (by kernel_rfl) (by kernel_rfl) ?_
        clear ha; intro a ha
        refine st_val (.bool true) ha (by kernel_rfl) (by kernel_rfl) ?_
        clear ha; intro a ha
        refine wpList_nil ?_
        refine then_normal ?_
        refine wp_ret ?_
        refine ret_with (v := .bool true) ha (results_1 rfl ha (res_tmp (by kernel_rfl) (by kernel_rfl))) ?_
        replace s := s.tail
        replace s : St W (L) w := s
        refine ⟨?_, s⟩
        congr 2
        unfold abrB
        first | (simp [*]; done) | (simp_all; done) | (simp [*]; omega)
      · rw [hb] at ha; have hb_ := hb; replace hb := ne_of_beq_false hb
        refine st_val (.pointer (some ⟨g1, 1, none⟩)) ha (by kernel_rfl) (by kernel_rfl) ?_
        clear ha; intro a ha
        refine st_val (.int .i64 x.kind) ha (by kernel_rfl) (run_load1 (of_ := 1) (s.blkIs 0 rfl) rfl (by kernel_rfl) Try.isAgg3 rfl) ?_
        clear ha; intro a ha
        refine st_val (.bool (x.kind == (4 : Int))) ha (by kernel_rfl) (by kernel_rfl) ?_
        clear ha; intro a ha
        refine st_val (.bool (x.kind == (4 : Int))) ha (by kernel_rfl) (by kernel_rfl) ?_
        clear ha; intro a ha
        rcases Bool.eq_false_or_eq_true (x.kind == (4 : Int)) with hb | hb
        · rw [hb] at ha; have hb_ := hb; replace hb := eq_of_beq hb
          refine st_val (.pointer (some ⟨g1, 15, none⟩)) ha (by kernel_rfl) (by kernel_rfl) ?_
          clear ha; intro a ha
          refine st_val (.int .i64 x.status) ha (by kernel_rfl) (run_load1 (of_ := 15) (s.blkIs 0 rfl) rfl (by kernel_rfl) Try.isAgg3 rfl) ?_
          clear ha; intro a ha
          refine st_val (.bool (x.status == (4 : Int))) ha (by kernel_rfl) (by kernel_rfl) ?_
          clear ha; intro a ha
          refine st_val (.bool (x.status == (4 : Int))) ha (by kernel_rfl) (by kernel_rfl) ?_
          clear ha; intro a ha
          refine st_val (.bool (x.status == (4 : Int))) ha (by kernel_rfl) (by kernel_rfl) ?_
          clear ha; intro a ha
          refine st_val (.bool (x.status == (4 : Int))) ha (by kernel_rfl) (by kernel_rfl) ?_
          clear ha; intro a ha
          refine wpList_nil ?_
          refine then_normal ?_
          refine wp_ret ?_
          refine ret_with (v := .bool (x.status == (4 : Int))) ha (results_1 rfl ha (res_tmp (by kernel_rfl) (by kernel_rfl))) ?_
          replace s := s.tail
          replace s : St W (L) w := s
          refine ⟨?_, s⟩
          congr 2
          unfold abrB
          first | (simp [*]; done) | (simp_all; done) | (simp [*]; omega)
        · rw [hb] at ha; have hb_ := hb; replace hb := ne_of_beq_false hb
          refine st_pass ha (by kernel_rfl) ?_
          clear ha; intro a ha
          refine st_pass ha (by kernel_rfl) ?_
          clear ha; intro a ha
          refine st_pass ha (by kernel_rfl) ?_
          clear ha; intro a ha
          refine st_val (.bool false) ha (by kernel_rfl) (by kernel_rfl) ?_
          clear ha; intro a ha
          refine st_val (.bool false) ha (by kernel_rfl) (by kernel_rfl) ?_
          clear ha; intro a ha
          refine st_val (.bool false) ha (by kernel_rfl) (by kernel_rfl) ?_
          clear ha; intro a ha
          refine wpList_nil ?_
          refine then_normal ?_
          refine wp_ret ?_
          refine ret_with (v := .bool false) ha (results_1 rfl ha (res_tmp (by kernel_rfl) (by kernel_rfl))) ?_
          replace s := s.tail
          replace s : St W (L) w := s
          refine ⟨?_, s⟩
          congr 2
          unfold abrB
          first | (simp [*]; done) | (simp_all; done) | (simp [*]; omega)
  · rw [hb] at ha; have hb_ := hb; replace hb := ne_of_beq_false hb
    refine st_pass ha (by kernel_rfl) ?_
    clear ha; intro a ha
    refine st_pass ha (by kernel_rfl) ?_
    clear ha; intro a ha
    refine st_pass ha (by kernel_rfl) ?_
    clear ha; intro a ha
    refine st_pass ha (by kernel_rfl) ?_
    clear ha; intro a ha
    refine st_pass ha (by kernel_rfl) ?_
    clear ha; intro a ha
    refine st_pass ha (by kernel_rfl) ?_
    clear ha; intro a ha
    refine st_pass ha (by kernel_rfl) ?_
    clear ha; intro a ha
    refine st_pass ha (by kernel_rfl) ?_
    clear ha; intro a ha
    refine st_pass ha (by kernel_rfl) ?_
    clear ha; intro a ha
    refine st_pass ha (by kernel_rfl) ?_
    clear ha; intro a ha
    refine st_pass ha (by kernel_rfl) ?_
    clear ha; intro a ha
    refine st_pass ha (by kernel_rfl) ?_
    clear ha; intro a ha
    refine st_pass ha (by kernel_rfl) ?_
    clear ha; intro a ha
    refine st_val (.bool false) ha (by kernel_rfl) (by kernel_rfl) ?_
    clear ha; intro a ha
    refine st_val (.bool false) ha (by kernel_rfl) (by kernel_rfl) ?_
    clear ha; intro a ha
    refine st_val (.pointer (some ⟨g1, 1, none⟩)) ha (by kernel_rfl) (by kernel_rfl) ?_
    clear ha; intro a ha
    refine st_val (.int .i64 x.kind) ha (by kernel_rfl) (run_load1 (of_ := 1) (s.blkIs 0 rfl) rfl (by kernel_rfl) Try.isAgg3 rfl) ?_
    clear ha; intro a ha
    refine st_val (.bool (x.kind == (4 : Int))) ha (by kernel_rfl) (by kernel_rfl) ?_
    clear ha; intro a ha
    refine st_val (.bool (x.kind == (4 : Int))) ha (by kernel_rfl) (by kernel_rfl) ?_
    clear ha; intro a ha
    rcases Bool.eq_false_or_eq_true (x.kind == (4 : Int)) with hb | hb
    · rw [hb] at ha; have hb_ := hb; replace hb := eq_of_beq hb
      refine st_val (.pointer (some ⟨g1, 15, none⟩)) ha (by kernel_rfl) (by kernel_rfl) ?_
      clear ha; intro a ha
      refine st_val (.int .i64 x.status) ha (by kernel_rfl) (run_load1 (of_ := 15) (s.blkIs 0 rfl) rfl (by kernel_rfl) Try.isAgg3 rfl) ?_
      clear ha; intro a ha
      refine st_val (.bool (x.status == (4 : Int))) ha (by kernel_rfl) (by kernel_rfl) ?_
      clear ha; intro a ha
      refine st_val (.bool (x.status == (4 : Int))) ha (by kernel_rfl) (by kernel_rfl) ?_
      clear ha; intro a ha
      refine st_val (.bool (x.status == (4 : Int))) ha (by kernel_rfl) (by kernel_rfl) ?_
      clear ha; intro a ha
      refine st_val (.bool (x.status == (4 : Int))) ha (by kernel_rfl) (by kernel_rfl) ?_
      clear ha; intro a ha
      refine wpList_nil ?_
      refine then_normal ?_
      refine wp_ret ?_
      refine ret_with (v := .bool (x.status == (4 : Int))) ha (results_1 rfl ha (res_tmp (by kernel_rfl) (by kernel_rfl))) ?_
      replace s := s.tail
      replace s : St W (L) w := s
      refine ⟨?_, s⟩
      congr 2
      unfold abrB
      first | (simp [*]; done) | (simp_all; done) | (simp [*]; omega)
    · rw [hb] at ha; have hb_ := hb; replace hb := ne_of_beq_false hb
      refine st_pass ha (by kernel_rfl) ?_
      clear ha; intro a ha
      refine st_pass ha (by kernel_rfl) ?_
      clear ha; intro a ha
      refine st_pass ha (by kernel_rfl) ?_
      clear ha; intro a ha
      refine st_val (.bool false) ha (by kernel_rfl) (by kernel_rfl) ?_
      clear ha; intro a ha
      refine st_val (.bool false) ha (by kernel_rfl) (by kernel_rfl) ?_
      clear ha; intro a ha
      refine st_val (.bool false) ha (by kernel_rfl) (by kernel_rfl) ?_
      clear ha; intro a ha
      refine wpList_nil ?_
      refine then_normal ?_
      refine wp_ret ?_
      refine ret_with (v := .bool false) ha (results_1 rfl ha (res_tmp (by kernel_rfl) (by kernel_rfl))) ?_
      replace s := s.tail
      replace s : St W (L) w := s
      refine ⟨?_, s⟩
      congr 2
      unfold abrB
      first | (simp [*]; done) | (simp_all; done) | (simp [*]; omega)

end Go.Proofs.Ytfcbjcohepkkfaa.B
