import Derived.Test.YtfcbjcohepkkfaaGreatF0
import Derived.Test.YtfcbjcohepkkfaaGreatSepY
namespace Go.Proofs.YtfcbjcohepkkfaaGreat.B
open Go.RowKit Go.Maps Go.Sort Go.Shelf Go.Proofs.YtfcbjcohepkkfaaGreat.Sep Go.Proofs.YtfcbjcohepkkfaaGreat.P
set_option linter.unusedVariables false
set_option linter.unusedSimpArgs false
/-! ### the reference's functions -/
/-- The time ahead of an event. -/
def tiR (l : List Ev) (i : Nat) : Int := if i = 0 then (startL l).ti else (l[i - 1]?.map (·.ti)).getD 0
theorem has_two (x : Ev) : (hasB x = true ∧ 1 ≤ x.kind ∧ x.kind ≤ 4) ∨ (hasB x = false ∧ ¬ (1 ≤ x.kind ∧ x.kind ≤ 4)) := by
 cases e : hasB x with
 | true => exact .inl ⟨rfl, has_kind.1 e⟩
 | false => exact .inr ⟨rfl, fun h => by rw [has_kind.2 h] at e; cases e⟩
theorem tiR_zero {l : List Ev} {x : Ev} (h : l[0]? = some x) : tiR l 0 = x.ti := by
 unfold tiR startL; rw [if_pos rfl, List.head?_eq_getElem?, h]; rfl
theorem tiR_at {l : List Ev} {i : Nat} {x : Ev} (h0 : i ≠ 0) (h : l[i - 1]? = some x) : tiR l i = x.ti := by
 unfold tiR; rw [if_neg h0, h]; rfl

theorem rhas_any (W : World) (L : List Chunk) (w : World) (x : Ev) (s : St W L w) :
  Calls Tryz.prog 42 #[.agg (evv x).toArray] w fun e w' => e = .returned (.bool (hasB x)) ∧ St W L w' := by
 refine enter_args (l := [.agg (evv x).toArray]) Tryz.func42 rfl rfl (Nat.le_of_ble_eq_true rfl) ?_
 intro a ha; replace ha : Has a 11 [(0, .agg (evv x).toArray)] := ha
 refine zn1 ?_
 refine zze ha (ex_box (evv x) s rfl (by kernel_rfl)) ?_
 clear ha; rintro _ w a ⟨g1, rfl, s⟩ ha
 refine zv (.bool false) ha ?_; clear ha; intro a ha
 refine zn4 ?_
 refine zv (.pointer (some ⟨g1, 1, none⟩)) ha ?_
 refine zzw (.int .i64 x.kind) (zl1 0 1) ?_
 refine zzv (.bool (decide (x.kind ≥ (1 : Int)))) ?_
 refine zzv (.bool (decide (x.kind ≥ (1 : Int)))) ?_; clear ha; intro a ha
 rcases Bool.eq_false_or_eq_true (decide (x.kind ≥ (1 : Int))) with hb | hb
 ·
  rw [hb] at ha; replace hb : (x.kind ≥ (1 : Int)) := of_decide_eq_true hb
  refine zv (.pointer (some ⟨g1, 1, none⟩)) ha ?_
  refine zzw (.int .i64 x.kind) (zl1 0 1) ?_
  refine zzv (.bool (decide (x.kind ≤ (4 : Int)))) ?_
  refine zzv (.bool (decide (x.kind ≤ (4 : Int)))) ?_
  refine zzv (.bool (decide (x.kind ≤ (4 : Int)))) ?_; clear ha; intro a ha
  refine zn2 ?_
  refine wp_ret ?_
  refine zzr (v := .bool (decide (x.kind ≤ (4 : Int)))) ha ?_
  replace s := s.tail
  replace s : St W (L) w := s
  refine ⟨?_, s⟩
  congr 2
  clear s ha
  unfold hasB
  first | (simp [*]; done) | (simp_all; done) | (simp [*]; omega)
 rw [hb] at ha; replace hb : ¬ (x.kind ≥ (1 : Int)) := of_decide_eq_false hb
 refine zp ha ?_
 iterate 2 refine zzp ?_
 refine zzv (.bool false) ?_
 refine zzv (.bool false) ?_; clear ha; intro a ha
 refine zn2 ?_
 refine wp_ret ?_
 refine zzr (v := .bool false) ha ?_
 replace s := s.tail
 replace s : St W (L) w := s
 refine ⟨?_, s⟩
 congr 2
 clear s ha
 unfold hasB
 first | (simp [*]; done) | (simp_all; done) | (simp [*]; omega)

theorem rcom_any (W : World) (L : List Chunk) (w : World) (x : Ev) (s : St W L w) :
  Calls Tryz.prog 46 #[.agg (evv x).toArray] w fun e w' => e = .returned (.bool (comB x)) ∧ St W L w' := by
 refine enter_args (l := [.agg (evv x).toArray]) Tryz.func46 rfl rfl (Nat.le_of_ble_eq_true rfl) ?_
 intro a ha; replace ha : Has a 26 [(0, .agg (evv x).toArray)] := ha
 refine zn1 ?_
 refine zze ha (ex_box (evv x) s rfl (by kernel_rfl)) ?_
 clear ha; rintro _ w a ⟨g1, rfl, s⟩ ha
 refine zv (.bool false) ha ?_; clear ha; intro a ha
 refine zn4 ?_
 refine zv (.pointer (some ⟨g1, 1, none⟩)) ha ?_
 refine zzw (.int .i64 x.kind) (zl1 0 1) ?_
 refine zzv (.bool (x.kind == (3 : Int))) ?_
 refine zzv (.bool (x.kind == (3 : Int))) ?_; clear ha; intro a ha
 rcases Bool.eq_false_or_eq_true (x.kind == (3 : Int)) with hb | hb
 ·
  rw [hb] at ha; replace hb := eq_of_beq hb
  refine zv (.pointer (some ⟨g1, 5, none⟩)) ha ?_
  refine zzw (.int .i64 x.op) (zl1 0 5) ?_
  refine zzv (.bool (x.op == (6 : Int))) ?_
  refine zzv (.bool (x.op == (6 : Int))) ?_
  refine zzv (.bool (x.op == (6 : Int))) ?_; clear ha; intro a ha
  rcases Bool.eq_false_or_eq_true (x.op == (6 : Int)) with hb | hb
  ·
   rw [hb] at ha; replace hb := eq_of_beq hb
   refine zv (.pointer (some ⟨g1, 14, none⟩)) ha ?_
   refine zzw (.int .i64 x.err) (zl1 0 14) ?_
   refine zzv (.bool (x.err == (0 : Int))) ?_
   refine zzv (.bool (x.err == (0 : Int))) ?_
   refine zzv (.bool (x.err == (0 : Int))) ?_; clear ha; intro a ha
   rcases Bool.eq_false_or_eq_true (x.err == (0 : Int)) with hb | hb
   ·
    rw [hb] at ha; replace hb := eq_of_beq hb
    refine zp ha ?_
    iterate 7 refine zzp ?_
    refine zzv (.bool true) ?_
    refine zzv (.bool true) ?_; clear ha; intro a ha
    refine zn2 ?_
    refine wp_ret ?_
    refine zzr (v := .bool true) ha ?_
    replace s := s.tail
    replace s : St W (L) w := s
    refine ⟨?_, s⟩
    congr 2
    clear s ha
    unfold comB
    first | (simp [*]; done) | (simp_all; done) | (simp [*]; omega)
   rw [hb] at ha; replace hb := ne_of_beq_false hb
   refine zv (.pointer (some ⟨g1, 1, none⟩)) ha ?_
   refine zzw (.int .i64 x.kind) (zl1 0 1) ?_
   refine zzv (.bool (x.kind == (4 : Int))) ?_
   refine zzv (.bool (x.kind == (4 : Int))) ?_; clear ha; intro a ha
   rcases Bool.eq_false_or_eq_true (x.kind == (4 : Int)) with hb | hb
   ·
    rw [hb] at ha; replace hb := eq_of_beq hb
    refine zv (.pointer (some ⟨g1, 15, none⟩)) ha ?_
    refine zzw (.int .i64 x.status) (zl1 0 15) ?_
    refine zzv (.bool (x.status == (3 : Int))) ?_
    refine zzv (.bool (x.status == (3 : Int))) ?_
    refine zzv (.bool (x.status == (3 : Int))) ?_
    refine zzv (.bool (x.status == (3 : Int))) ?_; clear ha; intro a ha
    refine zn2 ?_
    refine wp_ret ?_
    refine zzr (v := .bool (x.status == (3 : Int))) ha ?_
    replace s := s.tail
    replace s : St W (L) w := s
    refine ⟨?_, s⟩
    congr 2
    clear s ha
    unfold comB
    first | (simp [*]; done) | (simp_all; done) | (simp [*]; omega)
   rw [hb] at ha; replace hb := ne_of_beq_false hb
   refine zp ha ?_
   iterate 2 refine zzp ?_
   refine zzv (.bool false) ?_
   refine zzv (.bool false) ?_
   refine zzv (.bool false) ?_; clear ha; intro a ha
   refine zn2 ?_
   refine wp_ret ?_
   refine zzr (v := .bool false) ha ?_
   replace s := s.tail
   replace s : St W (L) w := s
   refine ⟨?_, s⟩
   congr 2
   clear s ha
   unfold comB
   first | (simp [*]; done) | (simp_all; done) | (simp [*]; omega)
  rw [hb] at ha; replace hb := ne_of_beq_false hb
  refine zp ha ?_
  iterate 2 refine zzp ?_
  refine zzv (.bool false) ?_
  refine zzv (.bool false) ?_
  refine zzv (.pointer (some ⟨g1, 1, none⟩)) ?_
  refine zzw (.int .i64 x.kind) (zl1 0 1) ?_
  refine zzv (.bool (x.kind == (4 : Int))) ?_
  refine zzv (.bool (x.kind == (4 : Int))) ?_; clear ha; intro a ha
  rcases Bool.eq_false_or_eq_true (x.kind == (4 : Int)) with hb | hb
  ·
   rw [hb] at ha; replace hb := eq_of_beq hb
   refine zv (.pointer (some ⟨g1, 15, none⟩)) ha ?_
   refine zzw (.int .i64 x.status) (zl1 0 15) ?_
   refine zzv (.bool (x.status == (3 : Int))) ?_
   refine zzv (.bool (x.status == (3 : Int))) ?_
   refine zzv (.bool (x.status == (3 : Int))) ?_
   refine zzv (.bool (x.status == (3 : Int))) ?_; clear ha; intro a ha
   refine zn2 ?_
   refine wp_ret ?_
   refine zzr (v := .bool (x.status == (3 : Int))) ha ?_
   replace s := s.tail
   replace s : St W (L) w := s
   refine ⟨?_, s⟩
   congr 2
   clear s ha
   unfold comB
   first | (simp [*]; done) | (simp_all; done) | (simp [*]; omega)
  rw [hb] at ha; replace hb := ne_of_beq_false hb
  refine zp ha ?_
  iterate 2 refine zzp ?_
  refine zzv (.bool false) ?_
  refine zzv (.bool false) ?_
  refine zzv (.bool false) ?_; clear ha; intro a ha
  refine zn2 ?_
  refine wp_ret ?_
  refine zzr (v := .bool false) ha ?_
  replace s := s.tail
  replace s : St W (L) w := s
  refine ⟨?_, s⟩
  congr 2
  clear s ha
  unfold comB
  first | (simp [*]; done) | (simp_all; done) | (simp [*]; omega)
 rw [hb] at ha; replace hb := ne_of_beq_false hb
 refine zp ha ?_
 iterate 2 refine zzp ?_
 refine zzv (.bool false) ?_
 refine zzv (.bool false) ?_
 iterate 3 refine zzp ?_
 refine zzv (.bool false) ?_
 refine zzv (.bool false) ?_
 refine zzv (.pointer (some ⟨g1, 1, none⟩)) ?_
 refine zzw (.int .i64 x.kind) (zl1 0 1) ?_
 refine zzv (.bool (x.kind == (4 : Int))) ?_
 refine zzv (.bool (x.kind == (4 : Int))) ?_; clear ha; intro a ha
 rcases Bool.eq_false_or_eq_true (x.kind == (4 : Int)) with hb | hb
 ·
  rw [hb] at ha; replace hb := eq_of_beq hb
  refine zv (.pointer (some ⟨g1, 15, none⟩)) ha ?_
  refine zzw (.int .i64 x.status) (zl1 0 15) ?_
  refine zzv (.bool (x.status == (3 : Int))) ?_
  refine zzv (.bool (x.status == (3 : Int))) ?_
  refine zzv (.bool (x.status == (3 : Int))) ?_
  refine zzv (.bool (x.status == (3 : Int))) ?_; clear ha; intro a ha
  refine zn2 ?_
  refine wp_ret ?_
  refine zzr (v := .bool (x.status == (3 : Int))) ha ?_
  replace s := s.tail
  replace s : St W (L) w := s
  refine ⟨?_, s⟩
  congr 2
  clear s ha
  unfold comB
  first | (simp [*]; done) | (simp_all; done) | (simp [*]; omega)
 rw [hb] at ha; replace hb := ne_of_beq_false hb
 refine zp ha ?_
 iterate 2 refine zzp ?_
 refine zzv (.bool false) ?_
 refine zzv (.bool false) ?_
 refine zzv (.bool false) ?_; clear ha; intro a ha
 refine zn2 ?_
 refine wp_ret ?_
 refine zzr (v := .bool false) ha ?_
 replace s := s.tail
 replace s : St W (L) w := s
 refine ⟨?_, s⟩
 congr 2
 clear s ha
 unfold comB
 first | (simp [*]; done) | (simp_all; done) | (simp [*]; omega)

theorem rabr_any (W : World) (L : List Chunk) (w : World) (x : Ev) (s : St W L w) :
  Calls Tryz.prog 47 #[.agg (evv x).toArray] w fun e w' => e = .returned (.bool (abrB x)) ∧ St W L w' := by
 refine enter_args (l := [.agg (evv x).toArray]) Tryz.func47 rfl rfl (Nat.le_of_ble_eq_true rfl) ?_
 intro a ha; replace ha : Has a 31 [(0, .agg (evv x).toArray)] := ha
 refine zn1 ?_
 refine zze ha (ex_box (evv x) s rfl (by kernel_rfl)) ?_
 clear ha; rintro _ w a ⟨g1, rfl, s⟩ ha
 refine zv (.bool false) ha ?_; clear ha; intro a ha
 refine zn4 ?_
 refine zv (.pointer (some ⟨g1, 1, none⟩)) ha ?_
 refine zzw (.int .i64 x.kind) (zl1 0 1) ?_
 refine zzv (.bool (x.kind == (3 : Int))) ?_
 refine zzv (.bool (x.kind == (3 : Int))) ?_; clear ha; intro a ha
 rcases Bool.eq_false_or_eq_true (x.kind == (3 : Int)) with hb | hb
 ·
  rw [hb] at ha; replace hb := eq_of_beq hb
  refine zv (.pointer (some ⟨g1, 5, none⟩)) ha ?_
  refine zzw (.int .i64 x.op) (zl1 0 5) ?_
  refine zzv (.bool (x.op == (7 : Int))) ?_
  refine zzv (.bool (x.op == (7 : Int))) ?_; clear ha; intro a ha
  rcases Bool.eq_false_or_eq_true (x.op == (7 : Int)) with hb | hb
  ·
   rw [hb] at ha; replace hb := eq_of_beq hb
   refine zv (.pointer (some ⟨g1, 14, none⟩)) ha ?_
   refine zzw (.int .i64 x.err) (zl1 0 14) ?_
   refine zzv (.bool (x.err == (0 : Int))) ?_
   refine zzv (.bool (x.err == (0 : Int))) ?_
   refine zzv (.bool (x.err == (0 : Int))) ?_; clear ha; intro a ha
   rcases Bool.eq_false_or_eq_true (x.err == (0 : Int)) with hb | hb
   ·
    rw [hb] at ha; replace hb := eq_of_beq hb
    refine zp ha ?_
    iterate 2 refine zzp ?_
    refine zzv (.bool true) ?_
    refine zzv (.bool true) ?_
    refine zzv (.bool true) ?_
    iterate 8 refine zzp ?_
    refine zzv (.bool true) ?_
    refine zzv (.bool true) ?_; clear ha; intro a ha
    refine zn2 ?_
    refine wp_ret ?_
    refine zzr (v := .bool true) ha ?_
    replace s := s.tail
    replace s : St W (L) w := s
    refine ⟨?_, s⟩
    congr 2
    clear s ha
    unfold abrB
    first | (simp [*]; done) | (simp_all; done) | (simp [*]; omega)
   rw [hb] at ha; replace hb := ne_of_beq_false hb
   refine zv (.pointer (some ⟨g1, 14, none⟩)) ha ?_
   refine zzw (.int .i64 x.err) (zl1 0 14) ?_
   refine zzv (.bool (x.err == (200 : Int))) ?_
   refine zzv (.bool (x.err == (200 : Int))) ?_
   refine zzv (.bool (x.err == (200 : Int))) ?_
   refine zzv (.bool (x.err == (200 : Int))) ?_; clear ha; intro a ha
   rcases Bool.eq_false_or_eq_true (x.err == (200 : Int)) with hb | hb
   ·
    rw [hb] at ha; replace hb := eq_of_beq hb
    refine zp ha ?_
    iterate 7 refine zzp ?_
    refine zzv (.bool true) ?_
    refine zzv (.bool true) ?_; clear ha; intro a ha
    refine zn2 ?_
    refine wp_ret ?_
    refine zzr (v := .bool true) ha ?_
    replace s := s.tail
    replace s : St W (L) w := s
    refine ⟨?_, s⟩
    congr 2
    clear s ha
    unfold abrB
    first | (simp [*]; done) | (simp_all; done) | (simp [*]; omega)
   rw [hb] at ha; replace hb := ne_of_beq_false hb
   refine zv (.pointer (some ⟨g1, 1, none⟩)) ha ?_
   refine zzw (.int .i64 x.kind) (zl1 0 1) ?_
   refine zzv (.bool (x.kind == (4 : Int))) ?_
   refine zzv (.bool (x.kind == (4 : Int))) ?_; clear ha; intro a ha
   rcases Bool.eq_false_or_eq_true (x.kind == (4 : Int)) with hb | hb
   ·
    rw [hb] at ha; replace hb := eq_of_beq hb
    refine zv (.pointer (some ⟨g1, 15, none⟩)) ha ?_
    refine zzw (.int .i64 x.status) (zl1 0 15) ?_
    refine zzv (.bool (x.status == (4 : Int))) ?_
    refine zzv (.bool (x.status == (4 : Int))) ?_
    refine zzv (.bool (x.status == (4 : Int))) ?_
    refine zzv (.bool (x.status == (4 : Int))) ?_; clear ha; intro a ha
    refine zn2 ?_
    refine wp_ret ?_
    refine zzr (v := .bool (x.status == (4 : Int))) ha ?_
    replace s := s.tail
    replace s : St W (L) w := s
    refine ⟨?_, s⟩
    congr 2
    clear s ha
    unfold abrB
    first | (simp [*]; done) | (simp_all; done) | (simp [*]; omega)
   rw [hb] at ha; replace hb := ne_of_beq_false hb
   refine zp ha ?_
   iterate 2 refine zzp ?_
   refine zzv (.bool false) ?_
   refine zzv (.bool false) ?_
   refine zzv (.bool false) ?_; clear ha; intro a ha
   refine zn2 ?_
   refine wp_ret ?_
   refine zzr (v := .bool false) ha ?_
   replace s := s.tail
   replace s : St W (L) w := s
   refine ⟨?_, s⟩
   congr 2
   clear s ha
   unfold abrB
   first | (simp [*]; done) | (simp_all; done) | (simp [*]; omega)
  rw [hb] at ha; replace hb := ne_of_beq_false hb
  refine zp ha ?_
  iterate 2 refine zzp ?_
  refine zzv (.bool false) ?_
  refine zzv (.bool false) ?_
  refine zzv (.pointer (some ⟨g1, 14, none⟩)) ?_
  refine zzw (.int .i64 x.err) (zl1 0 14) ?_
  refine zzv (.bool (x.err == (200 : Int))) ?_
  refine zzv (.bool (x.err == (200 : Int))) ?_
  refine zzv (.bool (x.err == (200 : Int))) ?_
  refine zzv (.bool (x.err == (200 : Int))) ?_; clear ha; intro a ha
  rcases Bool.eq_false_or_eq_true (x.err == (200 : Int)) with hb | hb
  ·
   rw [hb] at ha; replace hb := eq_of_beq hb
   refine zp ha ?_
   iterate 7 refine zzp ?_
   refine zzv (.bool true) ?_
   refine zzv (.bool true) ?_; clear ha; intro a ha
   refine zn2 ?_
   refine wp_ret ?_
   refine zzr (v := .bool true) ha ?_
   replace s := s.tail
   replace s : St W (L) w := s
   refine ⟨?_, s⟩
   congr 2
   clear s ha
   unfold abrB
   first | (simp [*]; done) | (simp_all; done) | (simp [*]; omega)
  rw [hb] at ha; replace hb := ne_of_beq_false hb
  refine zv (.pointer (some ⟨g1, 1, none⟩)) ha ?_
  refine zzw (.int .i64 x.kind) (zl1 0 1) ?_
  refine zzv (.bool (x.kind == (4 : Int))) ?_
  refine zzv (.bool (x.kind == (4 : Int))) ?_; clear ha; intro a ha
  rcases Bool.eq_false_or_eq_true (x.kind == (4 : Int)) with hb | hb
  ·
   rw [hb] at ha; replace hb := eq_of_beq hb
   refine zv (.pointer (some ⟨g1, 15, none⟩)) ha ?_
   refine zzw (.int .i64 x.status) (zl1 0 15) ?_
   refine zzv (.bool (x.status == (4 : Int))) ?_
   refine zzv (.bool (x.status == (4 : Int))) ?_
   refine zzv (.bool (x.status == (4 : Int))) ?_
   refine zzv (.bool (x.status == (4 : Int))) ?_; clear ha; intro a ha
   refine zn2 ?_
   refine wp_ret ?_
   refine zzr (v := .bool (x.status == (4 : Int))) ha ?_
   replace s := s.tail
   replace s : St W (L) w := s
   refine ⟨?_, s⟩
   congr 2
   clear s ha
   unfold abrB
   first | (simp [*]; done) | (simp_all; done) | (simp [*]; omega)
  rw [hb] at ha; replace hb := ne_of_beq_false hb
  refine zp ha ?_
  iterate 2 refine zzp ?_
  refine zzv (.bool false) ?_
  refine zzv (.bool false) ?_
  refine zzv (.bool false) ?_; clear ha; intro a ha
  refine zn2 ?_
  refine wp_ret ?_
  refine zzr (v := .bool false) ha ?_
  replace s := s.tail
  replace s : St W (L) w := s
  refine ⟨?_, s⟩
  congr 2
  clear s ha
  unfold abrB
  first | (simp [*]; done) | (simp_all; done) | (simp [*]; omega)
 rw [hb] at ha; replace hb := ne_of_beq_false hb
 refine zp ha ?_
 iterate 12 refine zzp ?_
 refine zzv (.bool false) ?_
 refine zzv (.bool false) ?_
 refine zzv (.pointer (some ⟨g1, 1, none⟩)) ?_
 refine zzw (.int .i64 x.kind) (zl1 0 1) ?_
 refine zzv (.bool (x.kind == (4 : Int))) ?_
 refine zzv (.bool (x.kind == (4 : Int))) ?_; clear ha; intro a ha
 rcases Bool.eq_false_or_eq_true (x.kind == (4 : Int)) with hb | hb
 ·
  rw [hb] at ha; replace hb := eq_of_beq hb
  refine zv (.pointer (some ⟨g1, 15, none⟩)) ha ?_
  refine zzw (.int .i64 x.status) (zl1 0 15) ?_
  refine zzv (.bool (x.status == (4 : Int))) ?_
  refine zzv (.bool (x.status == (4 : Int))) ?_
  refine zzv (.bool (x.status == (4 : Int))) ?_
  refine zzv (.bool (x.status == (4 : Int))) ?_; clear ha; intro a ha
  refine zn2 ?_
  refine wp_ret ?_
  refine zzr (v := .bool (x.status == (4 : Int))) ha ?_
  replace s := s.tail
  replace s : St W (L) w := s
  refine ⟨?_, s⟩
  congr 2
  clear s ha
  unfold abrB
  first | (simp [*]; done) | (simp_all; done) | (simp [*]; omega)
 rw [hb] at ha; replace hb := ne_of_beq_false hb
 refine zp ha ?_
 iterate 2 refine zzp ?_
 refine zzv (.bool false) ?_
 refine zzv (.bool false) ?_
 refine zzv (.bool false) ?_; clear ha; intro a ha
 refine zn2 ?_
 refine wp_ret ?_
 refine zzr (v := .bool false) ha ?_
 replace s := s.tail
 replace s : St W (L) w := s
 refine ⟨?_, s⟩
 congr 2
 clear s ha
 unfold abrB
 first | (simp [*]; done) | (simp_all; done) | (simp [*]; omega)

set_option maxHeartbeats 8000000 in
theorem rmay_any (W : World) (L : List Chunk) (w : World) (ad : Addr) (ca : Nat) (l : List Ev) (hr : Knows L (EvsIn (some ad) l)) (hn : l.length ≤ 5000) (i : Nat) (x : Ev) (hx : l[i]? = some x) (s : St W L w) :
  Calls Tryz.prog 21 #[.slice (some ad) l.length ca, .int .i64 ((i : Nat) : Int)] w fun e w' => e = .returned (.bool (mayB (tiR l i) x)) ∧ St W L w' := by
 have hil := (List.getElem?_eq_some_iff.1 hx).1
 refine enter_args (l := [.slice (some ad) l.length ca, .int .i64 ((i : Nat) : Int)]) Tryz.func21 rfl rfl (Nat.le_of_ble_eq_true rfl) ?_
 intro a ha; replace ha : Has a 102 [(0, .slice (some ad) l.length ca), (1, .int .i64 ((i : Nat) : Int))] := ha
 refine zn1 ?_
 refine zv (.bool false) ha ?_; clear ha; intro a ha
 refine zn4 ?_
 refine zv (.slice (some ad) l.length ca) ha ?_
 refine zzv (.int .i64 ((i : Nat) : Int)) ?_
 refine zzw (.pointer (some (ad.add (i * 16)))) (run_indexAddr' (kd := .i64) (i := ((i : Nat) : Int)) (n := l.length) (c := ca) i rfl Tryz.underlying22 Tryz.sizeOf37 (by kernel_rfl) (by kernel_rfl) rfl (by first | assumption | omega) _) ?_
 refine zzw (.agg (evv x).toArray) (run_loadAtN (i := i * 16) (evv x) ((hr _ s.sat).1) rfl (by kernel_rfl) Tryz.isAgg37 Tryz.sizeOf37 (fun q_ hq_ => evs_at hx hq_) rfl) ?_; clear ha; intro a ha
 refine zze ha (ex_alloc (evv ⟨0, 0, 0, 0, 0, 0, [], [], [], [], false, [], none, 0, 0, 0, 0, 0⟩) s rfl (Tryz.zeroValue37 _) (by kernel_rfl)) ?_
 clear ha; rintro _ w a ⟨g1, rfl, s⟩ ha
 refine zzd ha (ex_store (of_ := 0) 0 (evv x) s rfl rfl (by kernel_rfl) (by kernel_rfl) (Tryz.sizeOf37 _) rfl (by simp [evv, txv, Value.oneCell']) (Nat.le_of_ble_eq_true rfl)) ?_
 clear ha; rintro w a s ha
 dsimp only [List.set, putAt] at s
 refine zn2 ?_
 refine wp_seq ?_
 refine wp_between (fun a w => Has a 102 [(0, .slice (some ad) l.length ca), (1, .int .i64 ((i : Nat) : Int)), (5, .pointer (some ⟨g1, 0, none⟩)), (42, .bool (decide (x.kind < (1 : Int) ∨ (6 : Int) < x.kind ∨ x.ti < tiR l i ∨ x.node < (1 : Int) ∨ (4 : Int) < x.node)))] ∧ St W (.blk g1 (evv x) 37 :: L) w) ?_ ?_
 ·
  skip
  refine wp_region_head 20 (fun w => BlkIs g1 (evv x) w ∧ Reads w 16 (some ad) l.length (evs l) ∧ True) (by kernel_rfl) (by decide) ?_
  replace s := s.drew; generalize _root_.Go.World.drew _ = w at s ⊢
  have hS : (fun w => BlkIs g1 (evv x) w ∧ Reads w 16 (some ad) l.length (evs l) ∧ True) w := ⟨s.blkIs 0 rfl, (hr _ s.sat.tail).1, trivial⟩
  refine yk (i := 0) (.pointer (some ⟨g1, 1, none⟩)) ha hS ?_
  refine yyv (i := 1) (.int .i64 x.kind) (fun w hS => run_load1 (of_ := 1) hS.1 rfl (by kernel_rfl) Tryz.isAgg3 rfl) hS ?_
  refine yyk (i := 2) (.bool (decide (x.kind < (1 : Int)))) hS ?_
  refine yyk (i := 3) (.bool (decide (x.kind < (1 : Int)))) hS ?_; clear ha; intro a ha
  rcases Bool.eq_false_or_eq_true (decide (x.kind < (1 : Int))) with hb | hb
  ·
   rw [hb] at ha; replace hb : (x.kind < (1 : Int)) := of_decide_eq_true hb
   have ht0 := hb
   refine yp (i := 4) ha hS ?_
   refine yyp (i := 5) hS ?_
   refine yyp (i := 6) hS ?_
   refine yyk (i := 7) (.bool true) hS ?_
   refine yyk (i := 8) (.bool true) hS ?_
   refine yyp (i := 9) hS ?_
   refine yyp (i := 10) hS ?_
   refine yyp (i := 11) hS ?_
   refine yyp (i := 12) hS ?_
   refine yyp (i := 13) hS ?_
   refine yyp (i := 14) hS ?_
   refine yyp (i := 15) hS ?_
   refine yyp (i := 16) hS ?_
   refine yyp (i := 17) hS ?_
   refine yyp (i := 18) hS ?_
   refine yyp (i := 19) hS ?_; clear ha; intro a ha
   refine Head.done (by kernel_rfl) ?_
   clear hS; simp only [List.drop_succ_cons, List.drop_zero]
   refine zp ha ?_
   refine zzp ?_
   refine zzv (.bool true) ?_
   refine zzv (.bool true) ?_
   iterate 3 refine zzp ?_
   refine zzv (.bool true) ?_
   refine zzv (.bool true) ?_
   iterate 3 refine zzp ?_
   refine zzv (.bool true) ?_; clear ha; intro a ha
   refine zn2 ?_
   have hv : (decide (x.kind < (1 : Int) ∨ (6 : Int) < x.kind ∨ x.ti < tiR l i ∨ x.node < (1 : Int) ∨ (4 : Int) < x.node)) = (true) := by exact decide_eq_true (by omega)
   exact ⟨by rw [hv]; exact (Has.cons ha (by kernel_rfl) (by kernel_rfl) (Has.cons ha (by kernel_rfl) (by kernel_rfl) (Has.cons ha (by kernel_rfl) (by kernel_rfl) (Has.cons ha (by kernel_rfl) (by kernel_rfl) (Has.nil ha))))), s⟩
  rw [hb] at ha; replace hb : ¬ (x.kind < (1 : Int)) := of_decide_eq_false hb
  have ht0 := hb
  refine yk (i := 4) (.pointer (some ⟨g1, 1, none⟩)) ha hS ?_
  refine yyv (i := 5) (.int .i64 x.kind) (fun w hS => run_load1 (of_ := 1) hS.1 rfl (by kernel_rfl) Tryz.isAgg3 rfl) hS ?_
  refine yyk (i := 6) (.bool (decide (x.kind > (6 : Int)))) hS ?_
  refine yyk (i := 7) (.bool (decide (x.kind > (6 : Int)))) hS ?_
  refine yyk (i := 8) (.bool (decide (x.kind > (6 : Int)))) hS ?_; clear ha; intro a ha
  rcases Bool.eq_false_or_eq_true (decide (x.kind > (6 : Int))) with hb | hb
  ·
   rw [hb] at ha; replace hb : (x.kind > (6 : Int)) := of_decide_eq_true hb
   have ht1 := hb
   refine yp (i := 9) ha hS ?_
   refine yyp (i := 10) hS ?_
   refine yyp (i := 11) hS ?_
   refine yyp (i := 12) hS ?_
   refine yyp (i := 13) hS ?_
   refine yyp (i := 14) hS ?_
   refine yyp (i := 15) hS ?_
   refine yyp (i := 16) hS ?_
   refine yyp (i := 17) hS ?_
   refine yyp (i := 18) hS ?_
   refine yyp (i := 19) hS ?_; clear ha; intro a ha
   refine Head.done (by kernel_rfl) ?_
   clear hS; simp only [List.drop_succ_cons, List.drop_zero]
   refine zp ha ?_
   refine zzp ?_
   refine zzv (.bool true) ?_
   refine zzv (.bool true) ?_
   iterate 3 refine zzp ?_
   refine zzv (.bool true) ?_
   refine zzv (.bool true) ?_
   iterate 3 refine zzp ?_
   refine zzv (.bool true) ?_; clear ha; intro a ha
   refine zn2 ?_
   have hv : (decide (x.kind < (1 : Int) ∨ (6 : Int) < x.kind ∨ x.ti < tiR l i ∨ x.node < (1 : Int) ∨ (4 : Int) < x.node)) = (true) := by exact decide_eq_true (by omega)
   exact ⟨by rw [hv]; exact (Has.cons ha (by kernel_rfl) (by kernel_rfl) (Has.cons ha (by kernel_rfl) (by kernel_rfl) (Has.cons ha (by kernel_rfl) (by kernel_rfl) (Has.cons ha (by kernel_rfl) (by kernel_rfl) (Has.nil ha))))), s⟩
  rw [hb] at ha; replace hb : ¬ (x.kind > (6 : Int)) := of_decide_eq_false hb
  have ht1 := hb
  refine yk (i := 9) (.int .i64 ((i : Nat) : Int)) ha hS ?_
  refine yyk (i := 10) (.bool (decide (((i : Nat) : Int) > (0 : Int)))) hS ?_
  refine yyk (i := 11) (.bool (decide (((i : Nat) : Int) > (0 : Int)))) hS ?_; clear ha; intro a ha
  rcases Bool.eq_false_or_eq_true (decide (((i : Nat) : Int) > (0 : Int))) with hb | hb
  ·
   rw [hb] at ha; replace hb : (((i : Nat) : Int) > (0 : Int)) := of_decide_eq_true hb
   have ht2 := hb
   obtain ⟨x0, hx0⟩ : ∃ x0, l[i - 1]? = some x0 := ⟨_, List.getElem?_eq_getElem (by omega)⟩
   have hti := tiR_at (by omega : i ≠ 0) hx0
   refine yk (i := 12) (.pointer (some ⟨g1, 0, none⟩)) ha hS ?_
   refine yyv (i := 13) (.int .i64 x.ti) (fun w hS => run_load1 (of_ := 0) hS.1 rfl (by kernel_rfl) Tryz.isAgg3 rfl) hS ?_
   refine yyk (i := 14) (.slice (some ad) l.length ca) hS ?_
   refine yyk (i := 15) (.int .i64 ((i : Nat) : Int)) hS ?_
   refine yyv (i := 16) (.int .i64 ((i - 1 : Nat) : Int)) (fun w hS => (run_arith (((i : Nat) : Int) - (1 : Int)) ((i - 1 : Nat) : Int) rfl (by kernel_rfl) (by kernel_rfl) (.inr (.inl ⟨rfl, rfl⟩)) (by rw [wrap64_in (by omega)]; try omega) _)) hS ?_
   refine yyv (i := 17) (.pointer (some (ad.add ((i - 1) * 16)))) (fun w hS => (run_indexAddr' (kd := .i64) (i := ((i - 1 : Nat) : Int)) (n := l.length) (c := ca) (i - 1) rfl Tryz.underlying22 Tryz.sizeOf37 (by kernel_rfl) (by kernel_rfl) rfl (by first | assumption | omega) _)) hS ?_
   refine yyfa (i := 18) (.pointer (some (ad.add ((i - 1) * 16 + 0)))) 3 hS ?_
   refine yyla (i := 19) (.int .i64 x0.ti) ((i - 1) * 16 + 0) (fun _ hS => hS.2.1) (by rw [evs_at hx0 (by omega)]; rfl) hS ?_; clear ha; intro a ha
   refine Head.done (by kernel_rfl) ?_
   clear hS; simp only [List.drop_succ_cons, List.drop_zero]
   refine zv (.bool (decide (x.ti < x0.ti))) ha ?_
   refine zzv (.bool (decide (x.ti < x0.ti))) ?_
   refine zzv (.bool (decide (x.ti < x0.ti))) ?_
   refine zzv (.bool (decide (x.ti < x0.ti))) ?_; clear ha; intro a ha
   rcases Bool.eq_false_or_eq_true (decide (x.ti < x0.ti)) with hb | hb
   ·
    rw [hb] at ha; replace hb : (x.ti < x0.ti) := of_decide_eq_true hb
    have ht3 := hb
    refine zp ha ?_
    iterate 2 refine zzp ?_
    refine zzv (.bool true) ?_
    refine zzv (.bool true) ?_
    iterate 3 refine zzp ?_
    refine zzv (.bool true) ?_; clear ha; intro a ha
    refine zn2 ?_
    have hv : (decide (x.kind < (1 : Int) ∨ (6 : Int) < x.kind ∨ x.ti < tiR l i ∨ x.node < (1 : Int) ∨ (4 : Int) < x.node)) = (true) := by exact decide_eq_true (by omega)
    exact ⟨by rw [hv]; exact (Has.cons ha (by kernel_rfl) (by kernel_rfl) (Has.cons ha (by kernel_rfl) (by kernel_rfl) (Has.cons ha (by kernel_rfl) (by kernel_rfl) (Has.cons ha (by kernel_rfl) (by kernel_rfl) (Has.nil ha))))), s⟩
   rw [hb] at ha; replace hb : ¬ (x.ti < x0.ti) := of_decide_eq_false hb
   have ht3 := hb
   refine zv (.pointer (some ⟨g1, 2, none⟩)) ha ?_
   refine zzw (.int .i64 x.node) (zl1 0 2) ?_
   refine zzv (.bool (decide (x.node < (1 : Int)))) ?_
   refine zzv (.bool (decide (x.node < (1 : Int)))) ?_
   refine zzv (.bool (decide (x.node < (1 : Int)))) ?_; clear ha; intro a ha
   rcases Bool.eq_false_or_eq_true (decide (x.node < (1 : Int))) with hb | hb
   ·
    rw [hb] at ha; replace hb : (x.node < (1 : Int)) := of_decide_eq_true hb
    have ht4 := hb
    refine zp ha ?_
    iterate 2 refine zzp ?_
    refine zzv (.bool true) ?_; clear ha; intro a ha
    refine zn2 ?_
    have hv : (decide (x.kind < (1 : Int) ∨ (6 : Int) < x.kind ∨ x.ti < tiR l i ∨ x.node < (1 : Int) ∨ (4 : Int) < x.node)) = (true) := by exact decide_eq_true (by omega)
    exact ⟨by rw [hv]; exact (Has.cons ha (by kernel_rfl) (by kernel_rfl) (Has.cons ha (by kernel_rfl) (by kernel_rfl) (Has.cons ha (by kernel_rfl) (by kernel_rfl) (Has.cons ha (by kernel_rfl) (by kernel_rfl) (Has.nil ha))))), s⟩
   rw [hb] at ha; replace hb : ¬ (x.node < (1 : Int)) := of_decide_eq_false hb
   have ht4 := hb
   refine zv (.pointer (some ⟨g1, 2, none⟩)) ha ?_
   refine zzw (.int .i64 x.node) (zl1 0 2) ?_
   refine zzv (.bool (decide (x.node > (4 : Int)))) ?_
   refine zzv (.bool (decide (x.node > (4 : Int)))) ?_; clear ha; intro a ha
   refine zn2 ?_
   have hv : (decide (x.kind < (1 : Int) ∨ (6 : Int) < x.kind ∨ x.ti < tiR l i ∨ x.node < (1 : Int) ∨ (4 : Int) < x.node)) = (decide (x.node > (4 : Int))) := by rw [Bool.eq_iff_iff]; simp only [decide_eq_true_eq, bne_iff_ne, ne_eq]; omega
   exact ⟨by rw [hv]; exact (Has.cons ha (by kernel_rfl) (by kernel_rfl) (Has.cons ha (by kernel_rfl) (by kernel_rfl) (Has.cons ha (by kernel_rfl) (by kernel_rfl) (Has.cons ha (by kernel_rfl) (by kernel_rfl) (Has.nil ha))))), s⟩
  rw [hb] at ha; replace hb : ¬ (((i : Nat) : Int) > (0 : Int)) := of_decide_eq_false hb
  have ht2 := hb
  have hi0 : i = 0 := by omega
  have hti : tiR l i = x.ti := by rw [hi0] at hx ⊢; exact tiR_zero hx
  refine yp (i := 12) ha hS ?_
  refine yyp (i := 13) hS ?_
  refine yyp (i := 14) hS ?_
  refine yyp (i := 15) hS ?_
  refine yyp (i := 16) hS ?_
  refine yyp (i := 17) hS ?_
  refine yyp (i := 18) hS ?_
  refine yyp (i := 19) hS ?_; clear ha; intro a ha
  refine Head.done (by kernel_rfl) ?_
  clear hS; simp only [List.drop_succ_cons, List.drop_zero]
  refine zp ha ?_
  refine zzv (.bool false) ?_
  refine zzv (.bool false) ?_
  refine zzv (.bool false) ?_
  refine zzv (.pointer (some ⟨g1, 2, none⟩)) ?_
  refine zzw (.int .i64 x.node) (zl1 0 2) ?_
  refine zzv (.bool (decide (x.node < (1 : Int)))) ?_
  refine zzv (.bool (decide (x.node < (1 : Int)))) ?_
  refine zzv (.bool (decide (x.node < (1 : Int)))) ?_; clear ha; intro a ha
  rcases Bool.eq_false_or_eq_true (decide (x.node < (1 : Int))) with hb | hb
  ·
   rw [hb] at ha; replace hb : (x.node < (1 : Int)) := of_decide_eq_true hb
   have ht3 := hb
   refine zp ha ?_
   iterate 2 refine zzp ?_
   refine zzv (.bool true) ?_; clear ha; intro a ha
   refine zn2 ?_
   have hv : (decide (x.kind < (1 : Int) ∨ (6 : Int) < x.kind ∨ x.ti < tiR l i ∨ x.node < (1 : Int) ∨ (4 : Int) < x.node)) = (true) := by exact decide_eq_true (by omega)
   exact ⟨by rw [hv]; exact (Has.cons ha (by kernel_rfl) (by kernel_rfl) (Has.cons ha (by kernel_rfl) (by kernel_rfl) (Has.cons ha (by kernel_rfl) (by kernel_rfl) (Has.cons ha (by kernel_rfl) (by kernel_rfl) (Has.nil ha))))), s⟩
  rw [hb] at ha; replace hb : ¬ (x.node < (1 : Int)) := of_decide_eq_false hb
  have ht3 := hb
  refine zv (.pointer (some ⟨g1, 2, none⟩)) ha ?_
  refine zzw (.int .i64 x.node) (zl1 0 2) ?_
  refine zzv (.bool (decide (x.node > (4 : Int)))) ?_
  refine zzv (.bool (decide (x.node > (4 : Int)))) ?_; clear ha; intro a ha
  refine zn2 ?_
  have hv : (decide (x.kind < (1 : Int) ∨ (6 : Int) < x.kind ∨ x.ti < tiR l i ∨ x.node < (1 : Int) ∨ (4 : Int) < x.node)) = (decide (x.node > (4 : Int))) := by rw [Bool.eq_iff_iff]; simp only [decide_eq_true_eq, bne_iff_ne, ne_eq]; omega
  exact ⟨by rw [hv]; exact (Has.cons ha (by kernel_rfl) (by kernel_rfl) (Has.cons ha (by kernel_rfl) (by kernel_rfl) (Has.cons ha (by kernel_rfl) (by kernel_rfl) (Has.cons ha (by kernel_rfl) (by kernel_rfl) (Has.nil ha))))), s⟩
 clear ha s; rintro a w ⟨ha, s⟩
 refine zzh (decide (x.kind < (1 : Int) ∨ (6 : Int) < x.kind ∨ x.ti < tiR l i ∨ x.node < (1 : Int) ∨ (4 : Int) < x.node)) ha ?_ ?_ <;> intro hb
 ·
  rw [hb] at ha; replace hb : (x.kind < (1 : Int) ∨ (6 : Int) < x.kind ∨ x.ti < tiR l i ∨ x.node < (1 : Int) ∨ (4 : Int) < x.node) := of_decide_eq_true hb
  have ht0 := hb
  refine zn1 ?_
  refine zv (.bool false) ha ?_; clear ha; intro a ha
  refine zn2 ?_
  refine zzt ?_
  refine zzr (v := .bool false) ha ?_
  replace s := s.tail
  replace s : St W (L) w := s
  refine ⟨?_, s⟩
  congr 2
  clear s ha
  rcases has_two x with ⟨hh, hk⟩ | ⟨hh, hk⟩
  ·
   skip
   unfold mayB
   simp only [hh, Bool.true_eq_false, if_false, if_true]
   repeat' split
   all_goals first | rfl | (exfalso; omega) | (symm; simp only [Bool.and_eq_false_iff, Bool.and_eq_true, decide_eq_false_iff_not, decide_eq_true_eq]; omega) | (simp_all; done) | (simp; omega) | (simp_all; omega)
  skip
  unfold mayB
  simp only [hh, Bool.true_eq_false, if_false, if_true]
  repeat' split
  all_goals first | rfl | (exfalso; omega) | (symm; simp only [Bool.and_eq_false_iff, Bool.and_eq_true, decide_eq_false_iff_not, decide_eq_true_eq]; omega) | (simp_all; done) | (simp; omega) | (simp_all; omega)
 rw [hb] at ha; replace hb : ¬ (x.kind < (1 : Int) ∨ (6 : Int) < x.kind ∨ x.ti < tiR l i ∨ x.node < (1 : Int) ∨ (4 : Int) < x.node) := of_decide_eq_false hb
 have ht0 := hb
 refine wp_skip ?_
 refine then_normal ?_
 refine wp_seq ?_
 refine wp_between (fun a w => Has a 102 [(0, .slice (some ad) l.length ca), (1, .int .i64 ((i : Nat) : Int)), (5, .pointer (some ⟨g1, 0, none⟩)), (70, .bool (hasB x && decide (x.id < (1 : Int) ∨ (9007199254740991 : Int) < x.id ∨ x.epoch < (0 : Int) ∨ (9007199254740991 : Int) < x.epoch ∨ codeS x.wall x.logic ≠ (0 : Int))))] ∧ St W (.blk g1 (evv x) 37 :: L) w) ?_ ?_
 ·
  skip
  refine wp_region_lit ?_
  refine zw (.agg (evv x).toArray) ha (zln 0 0) ?_; clear ha; intro a ha
  refine zzc ha (rhas_any W _ w x s) ?_
  rintro _ w ⟨rfl, s⟩
  refine ⟨_, rfl, ?_⟩; clear ha; intro a ha
  refine zv (.bool (hasB x)) ha ?_; clear ha; intro a ha
  rcases Bool.eq_false_or_eq_true (hasB x) with hb | hb
  ·
   rw [hb] at ha; skip
   have ht1 := hb
   refine zv (.pointer (some ⟨g1, 3, none⟩)) ha ?_
   refine zzw (.int .i64 x.id) (zl1 0 3) ?_
   refine zzv (.bool (decide (x.id < (1 : Int)))) ?_
   refine zzv (.bool (decide (x.id < (1 : Int)))) ?_; clear ha; intro a ha
   rcases Bool.eq_false_or_eq_true (decide (x.id < (1 : Int))) with hb | hb
   ·
    rw [hb] at ha; replace hb : (x.id < (1 : Int)) := of_decide_eq_true hb
    have ht2 := hb
    refine zp ha ?_
    iterate 2 refine zzp ?_
    refine zzv (.bool true) ?_
    refine zzv (.bool true) ?_
    iterate 3 refine zzp ?_
    refine zzv (.bool true) ?_
    refine zzv (.bool true) ?_
    iterate 3 refine zzp ?_
    refine zzv (.bool true) ?_
    refine zzv (.bool true) ?_
    iterate 4 refine zzp ?_
    refine zzv (.bool true) ?_
    refine zzv (.bool true) ?_; clear ha; intro a ha
    refine zn2 ?_
    have hv : (hasB x && decide (x.id < (1 : Int) ∨ (9007199254740991 : Int) < x.id ∨ x.epoch < (0 : Int) ∨ (9007199254740991 : Int) < x.epoch ∨ codeS x.wall x.logic ≠ (0 : Int))) = (true) := by rw [ht1, Bool.true_and]; exact decide_eq_true (by omega)
    exact ⟨by rw [hv]; exact (Has.cons ha (by kernel_rfl) (by kernel_rfl) (Has.cons ha (by kernel_rfl) (by kernel_rfl) (Has.cons ha (by kernel_rfl) (by kernel_rfl) (Has.cons ha (by kernel_rfl) (by kernel_rfl) (Has.nil ha))))), s⟩
   rw [hb] at ha; replace hb : ¬ (x.id < (1 : Int)) := of_decide_eq_false hb
   have ht2 := hb
   refine zv (.pointer (some ⟨g1, 3, none⟩)) ha ?_
   refine zzw (.int .i64 x.id) (zl1 0 3) ?_
   refine zzv (.bool (decide (x.id > (9007199254740991 : Int)))) ?_
   refine zzv (.bool (decide (x.id > (9007199254740991 : Int)))) ?_
   refine zzv (.bool (decide (x.id > (9007199254740991 : Int)))) ?_; clear ha; intro a ha
   rcases Bool.eq_false_or_eq_true (decide (x.id > (9007199254740991 : Int))) with hb | hb
   ·
    rw [hb] at ha; replace hb : (x.id > (9007199254740991 : Int)) := of_decide_eq_true hb
    have ht3 := hb
    refine zp ha ?_
    iterate 2 refine zzp ?_
    refine zzv (.bool true) ?_
    refine zzv (.bool true) ?_
    iterate 3 refine zzp ?_
    refine zzv (.bool true) ?_
    refine zzv (.bool true) ?_
    iterate 4 refine zzp ?_
    refine zzv (.bool true) ?_
    refine zzv (.bool true) ?_; clear ha; intro a ha
    refine zn2 ?_
    have hv : (hasB x && decide (x.id < (1 : Int) ∨ (9007199254740991 : Int) < x.id ∨ x.epoch < (0 : Int) ∨ (9007199254740991 : Int) < x.epoch ∨ codeS x.wall x.logic ≠ (0 : Int))) = (true) := by rw [ht1, Bool.true_and]; exact decide_eq_true (by omega)
    exact ⟨by rw [hv]; exact (Has.cons ha (by kernel_rfl) (by kernel_rfl) (Has.cons ha (by kernel_rfl) (by kernel_rfl) (Has.cons ha (by kernel_rfl) (by kernel_rfl) (Has.cons ha (by kernel_rfl) (by kernel_rfl) (Has.nil ha))))), s⟩
   rw [hb] at ha; replace hb : ¬ (x.id > (9007199254740991 : Int)) := of_decide_eq_false hb
   have ht3 := hb
   refine zv (.pointer (some ⟨g1, 4, none⟩)) ha ?_
   refine zzw (.int .i64 x.epoch) (zl1 0 4) ?_
   refine zzv (.bool (decide (x.epoch < (0 : Int)))) ?_
   refine zzv (.bool (decide (x.epoch < (0 : Int)))) ?_
   refine zzv (.bool (decide (x.epoch < (0 : Int)))) ?_; clear ha; intro a ha
   rcases Bool.eq_false_or_eq_true (decide (x.epoch < (0 : Int))) with hb | hb
   ·
    rw [hb] at ha; replace hb : (x.epoch < (0 : Int)) := of_decide_eq_true hb
    have ht4 := hb
    refine zp ha ?_
    iterate 2 refine zzp ?_
    refine zzv (.bool true) ?_
    refine zzv (.bool true) ?_
    iterate 4 refine zzp ?_
    refine zzv (.bool true) ?_
    refine zzv (.bool true) ?_; clear ha; intro a ha
    refine zn2 ?_
    have hv : (hasB x && decide (x.id < (1 : Int) ∨ (9007199254740991 : Int) < x.id ∨ x.epoch < (0 : Int) ∨ (9007199254740991 : Int) < x.epoch ∨ codeS x.wall x.logic ≠ (0 : Int))) = (true) := by rw [ht1, Bool.true_and]; exact decide_eq_true (by omega)
    exact ⟨by rw [hv]; exact (Has.cons ha (by kernel_rfl) (by kernel_rfl) (Has.cons ha (by kernel_rfl) (by kernel_rfl) (Has.cons ha (by kernel_rfl) (by kernel_rfl) (Has.cons ha (by kernel_rfl) (by kernel_rfl) (Has.nil ha))))), s⟩
   rw [hb] at ha; replace hb : ¬ (x.epoch < (0 : Int)) := of_decide_eq_false hb
   have ht4 := hb
   refine zv (.pointer (some ⟨g1, 4, none⟩)) ha ?_
   refine zzw (.int .i64 x.epoch) (zl1 0 4) ?_
   refine zzv (.bool (decide (x.epoch > (9007199254740991 : Int)))) ?_
   refine zzv (.bool (decide (x.epoch > (9007199254740991 : Int)))) ?_
   refine zzv (.bool (decide (x.epoch > (9007199254740991 : Int)))) ?_; clear ha; intro a ha
   rcases Bool.eq_false_or_eq_true (decide (x.epoch > (9007199254740991 : Int))) with hb | hb
   ·
    rw [hb] at ha; replace hb : (x.epoch > (9007199254740991 : Int)) := of_decide_eq_true hb
    have ht5 := hb
    refine zp ha ?_
    iterate 3 refine zzp ?_
    refine zzv (.bool true) ?_
    refine zzv (.bool true) ?_; clear ha; intro a ha
    refine zn2 ?_
    have hv : (hasB x && decide (x.id < (1 : Int) ∨ (9007199254740991 : Int) < x.id ∨ x.epoch < (0 : Int) ∨ (9007199254740991 : Int) < x.epoch ∨ codeS x.wall x.logic ≠ (0 : Int))) = (true) := by rw [ht1, Bool.true_and]; exact decide_eq_true (by omega)
    exact ⟨by rw [hv]; exact (Has.cons ha (by kernel_rfl) (by kernel_rfl) (Has.cons ha (by kernel_rfl) (by kernel_rfl) (Has.cons ha (by kernel_rfl) (by kernel_rfl) (Has.cons ha (by kernel_rfl) (by kernel_rfl) (Has.nil ha))))), s⟩
   rw [hb] at ha; replace hb : ¬ (x.epoch > (9007199254740991 : Int)) := of_decide_eq_false hb
   have ht5 := hb
   refine zv (.pointer (some ⟨g1, 12, none⟩)) ha ?_
   refine zzw (.agg #[.int .i64 x.wall, .int .i64 x.logic]) (zln 0 12) ?_; clear ha; intro a ha
   refine zzc ha (rschk_any W _ w x.wall x.logic s) ?_
   rintro _ w ⟨rfl, s⟩
   refine ⟨_, rfl, ?_⟩; clear ha; intro a ha
   refine zv (.bool ((codeS x.wall x.logic) != (0 : Int))) ha ?_
   refine zzv (.bool ((codeS x.wall x.logic) != (0 : Int))) ?_
   refine zzv (.bool ((codeS x.wall x.logic) != (0 : Int))) ?_; clear ha; intro a ha
   refine zn2 ?_
   have hv : (hasB x && decide (x.id < (1 : Int) ∨ (9007199254740991 : Int) < x.id ∨ x.epoch < (0 : Int) ∨ (9007199254740991 : Int) < x.epoch ∨ codeS x.wall x.logic ≠ (0 : Int))) = ((codeS x.wall x.logic) != (0 : Int)) := by rw [ht1, Bool.true_and]; rw [Bool.eq_iff_iff]; simp only [decide_eq_true_eq, bne_iff_ne, ne_eq]; omega
   exact ⟨by rw [hv]; exact (Has.cons ha (by kernel_rfl) (by kernel_rfl) (Has.cons ha (by kernel_rfl) (by kernel_rfl) (Has.cons ha (by kernel_rfl) (by kernel_rfl) (Has.cons ha (by kernel_rfl) (by kernel_rfl) (Has.nil ha))))), s⟩
  rw [hb] at ha; skip
  have ht1 := hb
  refine zp ha ?_
  iterate 23 refine zzp ?_
  refine zzv (.bool false) ?_; clear ha; intro a ha
  refine zn2 ?_
  have hv : (hasB x && decide (x.id < (1 : Int) ∨ (9007199254740991 : Int) < x.id ∨ x.epoch < (0 : Int) ∨ (9007199254740991 : Int) < x.epoch ∨ codeS x.wall x.logic ≠ (0 : Int))) = (false) := by rw [ht1]; rfl
  exact ⟨by rw [hv]; exact (Has.cons ha (by kernel_rfl) (by kernel_rfl) (Has.cons ha (by kernel_rfl) (by kernel_rfl) (Has.cons ha (by kernel_rfl) (by kernel_rfl) (Has.cons ha (by kernel_rfl) (by kernel_rfl) (Has.nil ha))))), s⟩
 clear ha s; rintro a w ⟨ha, s⟩
 refine zzh (hasB x && decide (x.id < (1 : Int) ∨ (9007199254740991 : Int) < x.id ∨ x.epoch < (0 : Int) ∨ (9007199254740991 : Int) < x.epoch ∨ codeS x.wall x.logic ≠ (0 : Int))) ha ?_ ?_ <;> intro hb
 ·
  rw [hb] at ha; skip
  have ht1 := hb
  refine zn1 ?_
  refine zv (.bool false) ha ?_; clear ha; intro a ha
  refine zn2 ?_
  refine zzt ?_
  refine zzr (v := .bool false) ha ?_
  replace s := s.tail
  replace s : St W (L) w := s
  refine ⟨?_, s⟩
  congr 2
  clear s ha
  rcases has_two x with ⟨hh, hk⟩ | ⟨hh, hk⟩
  ·
   skip
   simp only [hh, Bool.true_and, decide_eq_true_eq] at ht1
   unfold mayB
   simp only [hh, Bool.true_eq_false, if_false, if_true]
   repeat' split
   all_goals first | rfl | (exfalso; omega) | (symm; simp only [Bool.and_eq_false_iff, Bool.and_eq_true, decide_eq_false_iff_not, decide_eq_true_eq]; omega) | (simp_all; done) | (simp; omega) | (simp_all; omega)
  skip
  rw [hh] at ht1
  cases ht1
 rw [hb] at ha; skip
 have ht1 := hb
 refine wp_skip ?_
 refine then_normal ?_
 refine wp_seq ?_
 refine wp_between (fun a w => Has a 102 [(0, .slice (some ad) l.length ca), (1, .int .i64 ((i : Nat) : Int)), (5, .pointer (some ⟨g1, 0, none⟩)), (88, .bool (decide ((x.kind = (2 : Int) ∨ x.kind = (3 : Int)) ∧ (x.op < (1 : Int) ∨ (7 : Int) < x.op))))] ∧ St W (.blk g1 (evv x) 37 :: L) w) ?_ ?_
 ·
  skip
  refine wp_region_lit ?_
  refine zv (.pointer (some ⟨g1, 1, none⟩)) ha ?_
  refine zzw (.int .i64 x.kind) (zl1 0 1) ?_
  refine zzv (.bool (x.kind == (2 : Int))) ?_
  refine zzv (.bool (x.kind == (2 : Int))) ?_; clear ha; intro a ha
  rcases Bool.eq_false_or_eq_true (x.kind == (2 : Int)) with hb | hb
  ·
   rw [hb] at ha; replace hb := eq_of_beq hb
   have ht2 := hb
   refine zp ha ?_
   iterate 2 refine zzp ?_
   refine zzv (.bool true) ?_
   refine zzv (.bool true) ?_
   refine zzv (.pointer (some ⟨g1, 5, none⟩)) ?_
   refine zzw (.int .i64 x.op) (zl1 0 5) ?_
   refine zzv (.bool (decide (x.op < (1 : Int)))) ?_
   refine zzv (.bool (decide (x.op < (1 : Int)))) ?_; clear ha; intro a ha
   rcases Bool.eq_false_or_eq_true (decide (x.op < (1 : Int))) with hb | hb
   ·
    rw [hb] at ha; replace hb : (x.op < (1 : Int)) := of_decide_eq_true hb
    have ht3 := hb
    refine zp ha ?_
    iterate 2 refine zzp ?_
    refine zzv (.bool true) ?_
    refine zzv (.bool true) ?_; clear ha; intro a ha
    refine zn2 ?_
    have hv : (decide ((x.kind = (2 : Int) ∨ x.kind = (3 : Int)) ∧ (x.op < (1 : Int) ∨ (7 : Int) < x.op))) = (true) := by exact decide_eq_true (by omega)
    exact ⟨by rw [hv]; exact (Has.cons ha (by kernel_rfl) (by kernel_rfl) (Has.cons ha (by kernel_rfl) (by kernel_rfl) (Has.cons ha (by kernel_rfl) (by kernel_rfl) (Has.cons ha (by kernel_rfl) (by kernel_rfl) (Has.nil ha))))), s⟩
   rw [hb] at ha; replace hb : ¬ (x.op < (1 : Int)) := of_decide_eq_false hb
   have ht3 := hb
   refine zv (.pointer (some ⟨g1, 5, none⟩)) ha ?_
   refine zzw (.int .i64 x.op) (zl1 0 5) ?_
   refine zzv (.bool (decide (x.op > (7 : Int)))) ?_
   refine zzv (.bool (decide (x.op > (7 : Int)))) ?_
   refine zzv (.bool (decide (x.op > (7 : Int)))) ?_; clear ha; intro a ha
   refine zn2 ?_
   have hv : (decide ((x.kind = (2 : Int) ∨ x.kind = (3 : Int)) ∧ (x.op < (1 : Int) ∨ (7 : Int) < x.op))) = (decide (x.op > (7 : Int))) := by rw [Bool.eq_iff_iff]; simp only [decide_eq_true_eq, bne_iff_ne, ne_eq]; omega
   exact ⟨by rw [hv]; exact (Has.cons ha (by kernel_rfl) (by kernel_rfl) (Has.cons ha (by kernel_rfl) (by kernel_rfl) (Has.cons ha (by kernel_rfl) (by kernel_rfl) (Has.cons ha (by kernel_rfl) (by kernel_rfl) (Has.nil ha))))), s⟩
  rw [hb] at ha; replace hb := ne_of_beq_false hb
  have ht2 := hb
  refine zv (.pointer (some ⟨g1, 1, none⟩)) ha ?_
  refine zzw (.int .i64 x.kind) (zl1 0 1) ?_
  refine zzv (.bool (x.kind == (3 : Int))) ?_
  refine zzv (.bool (x.kind == (3 : Int))) ?_
  refine zzv (.bool (x.kind == (3 : Int))) ?_; clear ha; intro a ha
  rcases Bool.eq_false_or_eq_true (x.kind == (3 : Int)) with hb | hb
  ·
   rw [hb] at ha; replace hb := eq_of_beq hb
   have ht3 := hb
   refine zv (.pointer (some ⟨g1, 5, none⟩)) ha ?_
   refine zzw (.int .i64 x.op) (zl1 0 5) ?_
   refine zzv (.bool (decide (x.op < (1 : Int)))) ?_
   refine zzv (.bool (decide (x.op < (1 : Int)))) ?_; clear ha; intro a ha
   rcases Bool.eq_false_or_eq_true (decide (x.op < (1 : Int))) with hb | hb
   ·
    rw [hb] at ha; replace hb : (x.op < (1 : Int)) := of_decide_eq_true hb
    have ht4 := hb
    refine zp ha ?_
    iterate 2 refine zzp ?_
    refine zzv (.bool true) ?_
    refine zzv (.bool true) ?_; clear ha; intro a ha
    refine zn2 ?_
    have hv : (decide ((x.kind = (2 : Int) ∨ x.kind = (3 : Int)) ∧ (x.op < (1 : Int) ∨ (7 : Int) < x.op))) = (true) := by exact decide_eq_true (by omega)
    exact ⟨by rw [hv]; exact (Has.cons ha (by kernel_rfl) (by kernel_rfl) (Has.cons ha (by kernel_rfl) (by kernel_rfl) (Has.cons ha (by kernel_rfl) (by kernel_rfl) (Has.cons ha (by kernel_rfl) (by kernel_rfl) (Has.nil ha))))), s⟩
   rw [hb] at ha; replace hb : ¬ (x.op < (1 : Int)) := of_decide_eq_false hb
   have ht4 := hb
   refine zv (.pointer (some ⟨g1, 5, none⟩)) ha ?_
   refine zzw (.int .i64 x.op) (zl1 0 5) ?_
   refine zzv (.bool (decide (x.op > (7 : Int)))) ?_
   refine zzv (.bool (decide (x.op > (7 : Int)))) ?_
   refine zzv (.bool (decide (x.op > (7 : Int)))) ?_; clear ha; intro a ha
   refine zn2 ?_
   have hv : (decide ((x.kind = (2 : Int) ∨ x.kind = (3 : Int)) ∧ (x.op < (1 : Int) ∨ (7 : Int) < x.op))) = (decide (x.op > (7 : Int))) := by rw [Bool.eq_iff_iff]; simp only [decide_eq_true_eq, bne_iff_ne, ne_eq]; omega
   exact ⟨by rw [hv]; exact (Has.cons ha (by kernel_rfl) (by kernel_rfl) (Has.cons ha (by kernel_rfl) (by kernel_rfl) (Has.cons ha (by kernel_rfl) (by kernel_rfl) (Has.cons ha (by kernel_rfl) (by kernel_rfl) (Has.nil ha))))), s⟩
  rw [hb] at ha; replace hb := ne_of_beq_false hb
  have ht3 := hb
  refine zp ha ?_
  iterate 7 refine zzp ?_
  refine zzv (.bool false) ?_; clear ha; intro a ha
  refine zn2 ?_
  have hv : (decide ((x.kind = (2 : Int) ∨ x.kind = (3 : Int)) ∧ (x.op < (1 : Int) ∨ (7 : Int) < x.op))) = (false) := by exact decide_eq_false (by omega)
  exact ⟨by rw [hv]; exact (Has.cons ha (by kernel_rfl) (by kernel_rfl) (Has.cons ha (by kernel_rfl) (by kernel_rfl) (Has.cons ha (by kernel_rfl) (by kernel_rfl) (Has.cons ha (by kernel_rfl) (by kernel_rfl) (Has.nil ha))))), s⟩
 clear ha s; rintro a w ⟨ha, s⟩
 refine zzh (decide ((x.kind = (2 : Int) ∨ x.kind = (3 : Int)) ∧ (x.op < (1 : Int) ∨ (7 : Int) < x.op))) ha ?_ ?_ <;> intro hb
 ·
  rw [hb] at ha; replace hb : ((x.kind = (2 : Int) ∨ x.kind = (3 : Int)) ∧ (x.op < (1 : Int) ∨ (7 : Int) < x.op)) := of_decide_eq_true hb
  have ht2 := hb
  refine zn1 ?_
  refine zv (.bool false) ha ?_; clear ha; intro a ha
  refine zn2 ?_
  refine zzt ?_
  refine zzr (v := .bool false) ha ?_
  replace s := s.tail
  replace s : St W (L) w := s
  refine ⟨?_, s⟩
  congr 2
  clear s ha
  rcases has_two x with ⟨hh, hk⟩ | ⟨hh, hk⟩
  ·
   skip
   simp only [hh, Bool.true_and, Bool.false_and, decide_eq_false_iff_not] at ht1
   unfold mayB
   simp only [hh, Bool.true_eq_false, if_false, if_true]
   repeat' split
   all_goals first | rfl | (exfalso; omega) | (symm; simp only [Bool.and_eq_false_iff, Bool.and_eq_true, decide_eq_false_iff_not, decide_eq_true_eq]; omega) | (simp_all; done) | (simp; omega) | (simp_all; omega)
  skip
  unfold mayB
  simp only [hh, Bool.true_eq_false, if_false, if_true]
  repeat' split
  all_goals first | rfl | (exfalso; omega) | (symm; simp only [Bool.and_eq_false_iff, Bool.and_eq_true, decide_eq_false_iff_not, decide_eq_true_eq]; omega) | (simp_all; done) | (simp; omega) | (simp_all; omega)
 rw [hb] at ha; replace hb : ¬ ((x.kind = (2 : Int) ∨ x.kind = (3 : Int)) ∧ (x.op < (1 : Int) ∨ (7 : Int) < x.op)) := of_decide_eq_false hb
 have ht2 := hb
 refine wp_skip ?_
 refine then_normal ?_
 refine zn1 ?_
 refine zv (.pointer (some ⟨g1, 1, none⟩)) ha ?_
 refine zzw (.int .i64 x.kind) (zl1 0 1) ?_
 refine zzv (.bool (x.kind != (4 : Int))) ?_
 refine zzv (.bool (x.kind != (4 : Int))) ?_; clear ha; intro a ha
 rcases Bool.eq_false_or_eq_true (x.kind != (4 : Int)) with hb | hb
 ·
  rw [hb] at ha; replace hb := zbn hb
  have ht3 := hb
  refine zp ha ?_
  iterate 7 refine zzp ?_
  refine zzv (.bool true) ?_
  refine zzv (.bool true) ?_; clear ha; intro a ha
  refine zn2 ?_
  refine wp_ret ?_
  refine zzr (v := .bool true) ha ?_
  replace s := s.tail
  replace s : St W (L) w := s
  refine ⟨?_, s⟩
  congr 2
  clear s ha
  rcases has_two x with ⟨hh, hk⟩ | ⟨hh, hk⟩
  ·
   skip
   simp only [hh, Bool.true_and, Bool.false_and, decide_eq_false_iff_not] at ht1
   unfold mayB
   simp only [hh, Bool.true_eq_false, if_false, if_true]
   repeat' split
   all_goals first | rfl | (exfalso; omega) | (symm; simp only [Bool.and_eq_false_iff, Bool.and_eq_true, decide_eq_false_iff_not, decide_eq_true_eq]; omega) | (simp_all; done) | (simp; omega) | (simp_all; omega)
  skip
  unfold mayB
  simp only [hh, Bool.true_eq_false, if_false, if_true]
  repeat' split
  all_goals first | rfl | (exfalso; omega) | (symm; simp only [Bool.and_eq_false_iff, Bool.and_eq_true, decide_eq_false_iff_not, decide_eq_true_eq]; omega) | (simp_all; done) | (simp; omega) | (simp_all; omega)
 rw [hb] at ha; replace hb := zbq hb
 have ht3 := hb
 refine zv (.pointer (some ⟨g1, 15, none⟩)) ha ?_
 refine zzw (.int .i64 x.status) (zl1 0 15) ?_
 refine zzv (.bool (decide (x.status ≥ (0 : Int)))) ?_
 refine zzv (.bool (decide (x.status ≥ (0 : Int)))) ?_; clear ha; intro a ha
 rcases Bool.eq_false_or_eq_true (decide (x.status ≥ (0 : Int))) with hb | hb
 ·
  rw [hb] at ha; replace hb : (x.status ≥ (0 : Int)) := of_decide_eq_true hb
  have ht4 := hb
  refine zv (.pointer (some ⟨g1, 15, none⟩)) ha ?_
  refine zzw (.int .i64 x.status) (zl1 0 15) ?_
  refine zzv (.bool (decide (x.status ≤ (4 : Int)))) ?_
  refine zzv (.bool (decide (x.status ≤ (4 : Int)))) ?_
  refine zzv (.bool (decide (x.status ≤ (4 : Int)))) ?_
  refine zzv (.bool (decide (x.status ≤ (4 : Int)))) ?_; clear ha; intro a ha
  refine zn2 ?_
  refine wp_ret ?_
  refine zzr (v := .bool (decide (x.status ≤ (4 : Int)))) ha ?_
  replace s := s.tail
  replace s : St W (L) w := s
  refine ⟨?_, s⟩
  congr 2
  clear s ha
  rcases has_two x with ⟨hh, hk⟩ | ⟨hh, hk⟩
  ·
   skip
   simp only [hh, Bool.true_and, Bool.false_and, decide_eq_false_iff_not] at ht1
   unfold mayB
   simp only [hh, Bool.true_eq_false, if_false, if_true]
   repeat' split
   all_goals first | rfl | (exfalso; omega) | (symm; simp only [Bool.and_eq_false_iff, Bool.and_eq_true, decide_eq_false_iff_not, decide_eq_true_eq]; omega) | (simp_all; done) | (simp; omega) | (simp_all; omega)
  skip
  unfold mayB
  simp only [hh, Bool.true_eq_false, if_false, if_true]
  repeat' split
  all_goals first | rfl | (exfalso; omega) | (symm; simp only [Bool.and_eq_false_iff, Bool.and_eq_true, decide_eq_false_iff_not, decide_eq_true_eq]; omega) | (simp_all; done) | (simp; omega) | (simp_all; omega)
 rw [hb] at ha; replace hb : ¬ (x.status ≥ (0 : Int)) := of_decide_eq_false hb
 have ht4 := hb
 refine zp ha ?_
 iterate 2 refine zzp ?_
 refine zzv (.bool false) ?_
 refine zzv (.bool false) ?_
 refine zzv (.bool false) ?_; clear ha; intro a ha
 refine zn2 ?_
 refine wp_ret ?_
 refine zzr (v := .bool false) ha ?_
 replace s := s.tail
 replace s : St W (L) w := s
 refine ⟨?_, s⟩
 congr 2
 clear s ha
 rcases has_two x with ⟨hh, hk⟩ | ⟨hh, hk⟩
 ·
  skip
  simp only [hh, Bool.true_and, Bool.false_and, decide_eq_false_iff_not] at ht1
  unfold mayB
  simp only [hh, Bool.true_eq_false, if_false, if_true]
  repeat' split
  all_goals first | rfl | (exfalso; omega) | (symm; simp only [Bool.and_eq_false_iff, Bool.and_eq_true, decide_eq_false_iff_not, decide_eq_true_eq]; omega) | (simp_all; done) | (simp; omega) | (simp_all; omega)
 skip
 unfold mayB
 simp only [hh, Bool.true_eq_false, if_false, if_true]
 repeat' split
 all_goals first | rfl | (exfalso; omega) | (symm; simp only [Bool.and_eq_false_iff, Bool.and_eq_true, decide_eq_false_iff_not, decide_eq_true_eq]; omega) | (simp_all; done) | (simp; omega) | (simp_all; omega)

end Go.Proofs.YtfcbjcohepkkfaaGreat.B
