import Derived.Test.YtfcbjcohepkkfaaGreatJ0
import Derived.Test.YtfcbjcohepkkfaaGreatSepN
import Derived.Test.YtfcbjcohepkkfaaGreatSepY
namespace Go.Proofs.YtfcbjcohepkkfaaGreat.B
open Go.RowKit Go.Maps Go.Sort Go.Shelf Go.Proofs.YtfcbjcohepkkfaaGreat.Sep Go.Proofs.YtfcbjcohepkkfaaGreat.P
set_option linter.unusedVariables false
set_option linter.unusedSimpArgs false
/-! ### how events and transactions lie in memory -/
def evv (x : Ev) : List Value := [.int .i64 x.ti, .int .i64 x.kind, .int .i64 x.node, .int .i64 x.id, .int .i64 x.epoch, .int .i64 x.op, .string (str x.key), .string (str x.val), .string (str x.frm), .string (str x.to), .bool x.is, .slice x.A x.rows.length x.c, .int .i64 x.wall, .int .i64 x.logic, .int .i64 x.err, .int .i64 x.status]
def evs (l : List Ev) : List Value := l.flatMap evv
theorem evs_at {l : List Ev} {k : Nat} {x : Ev} (h : l[k]? = some x) {j : Nat} (hj : j < 16) : (evs l)[k * 16 + j]? = (evv x)[j]? := by
 unfold evs; rw [List.flatMap_def]
 exact flatten_at (k := 16) (fun r hr => by obtain ⟨d, _, rfl⟩ := List.mem_map.1 hr; rfl) (by rw [List.getElem?_map, h]; rfl) hj
theorem evs_len (l : List Ev) : (evs l).length = l.length * 16 := by
 unfold evs; rw [List.flatMap_def, flatten_len (k := 16) (fun r hr => by obtain ⟨d, _, rfl⟩ := List.mem_map.1 hr; rfl), List.length_map]
theorem evs_append (l m : List Ev) : evs (l ++ m) = evs l ++ evs m := by simp [evs]
theorem evs_one (l : List Ev) : ∀ u ∈ evs l, u.oneCell' = true := by
 intro u hu
 obtain ⟨x, _, hx⟩ := List.mem_flatMap.1 hu
 simp only [evv, List.mem_cons, List.not_mem_nil, or_false] at hx
 rcases hx with rfl | rfl | rfl | rfl | rfl | rfl | rfl | rfl | rfl | rfl | rfl | rfl | rfl | rfl | rfl | rfl <;> rfl
def EvsIn (A : Option Addr) (l : List Ev) (w : World) : Prop := Reads w 16 A l.length (evs l) ∧ ∀ x ∈ l, Reads w 2 x.A x.rows.length (rws x.rows)
def txv (t : Tx) : List Value := [.int .i64 t.node, .int .i64 t.stand, .bool t.began] ++ evv t.ask ++ [.bool t.comm, .bool t.abrt, .int .i64 t.epoch, .int .i64 t.wall, .int .i64 t.logic]

theorem has_id (W : World) (L : List Chunk) (w : World) (x : Ev) (s : St W L w) :
  Calls Tryz.prog 33 #[.agg (evv x).toArray] w fun e w' => e = .returned (.bool (hasB x)) ∧ St W L w' := by
 refine enter_args (l := [.agg (evv x).toArray]) Tryz.func33 rfl rfl (Nat.le_of_ble_eq_true rfl) ?_
 intro a ha; replace ha : Has a 11 [(0, .agg (evv x).toArray)] := ha
 refine zn1 ?_
 refine zze ha (ex_box (evv x) s rfl (by kernel_rfl)) ?_
 clear ha; rintro _ w a ⟨g1, rfl, s⟩ ha
 refine zv (.bool false) ha ?_; clear ha; intro a ha
 refine zn4 ?_
 refine zv (.pointer (some ⟨g1, 1, none⟩)) ha ?_
 refine zzw (.int .i64 x.kind) (zl1 0 1) ?_
 refine zzv (.bool (decide (x.kind ≥ (1 : Int)))) ?_
 refine zzv (.bool (decide (x.kind ≥ (1 : Int)))) ?_; clear ha; intro a ha
 rcases Bool.eq_false_or_eq_true (decide (x.kind ≥ (1 : Int))) with hb | hb
 ·
  rw [hb] at ha; replace hb : (x.kind ≥ (1 : Int)) := of_decide_eq_true hb
  refine zv (.pointer (some ⟨g1, 1, none⟩)) ha ?_
  refine zzw (.int .i64 x.kind) (zl1 0 1) ?_
  refine zzv (.bool (decide (x.kind ≤ (4 : Int)))) ?_
  refine zzv (.bool (decide (x.kind ≤ (4 : Int)))) ?_
  refine zzv (.bool (decide (x.kind ≤ (4 : Int)))) ?_; clear ha; intro a ha
  refine zn2 ?_
  refine wp_ret ?_
  refine zzr (v := .bool (decide (x.kind ≤ (4 : Int)))) ha ?_
  replace s := s.tail
  replace s : St W (L) w := s
  refine ⟨?_, s⟩
  congr 2
  unfold hasB
  first | (simp [*]; done) | (simp [*]; omega)
 rw [hb] at ha; replace hb : ¬ (x.kind ≥ (1 : Int)) := of_decide_eq_false hb
 refine zp ha ?_
 iterate 2 refine zzp ?_
 refine zzv (.bool false) ?_
 refine zzv (.bool false) ?_; clear ha; intro a ha
 refine zn2 ?_
 refine wp_ret ?_
 refine zzr (v := .bool false) ha ?_
 replace s := s.tail
 replace s : St W (L) w := s
 refine ⟨?_, s⟩
 congr 2
 unfold hasB
 first | (simp [*]; done) | (simp [*]; omega)

theorem com_any (W : World) (L : List Chunk) (w : World) (x : Ev) (s : St W L w) :
  Calls Tryz.prog 36 #[.agg (evv x).toArray] w fun e w' => e = .returned (.bool (comB x)) ∧ St W L w' := by
 refine enter_args (l := [.agg (evv x).toArray]) Tryz.func36 rfl rfl (Nat.le_of_ble_eq_true rfl) ?_
 intro a ha; replace ha : Has a 26 [(0, .agg (evv x).toArray)] := ha
 refine zn1 ?_
 refine zze ha (ex_box (evv x) s rfl (by kernel_rfl)) ?_
 clear ha; rintro _ w a ⟨g1, rfl, s⟩ ha
 refine zv (.bool false) ha ?_; clear ha; intro a ha
 refine zn4 ?_
 refine zv (.pointer (some ⟨g1, 1, none⟩)) ha ?_
 refine zzw (.int .i64 x.kind) (zl1 0 1) ?_
 refine zzv (.bool (x.kind == (3 : Int))) ?_
 refine zzv (.bool (x.kind == (3 : Int))) ?_; clear ha; intro a ha
 rcases Bool.eq_false_or_eq_true (x.kind == (3 : Int)) with hb | hb
 ·
  rw [hb] at ha; replace hb := eq_of_beq hb
  refine zv (.pointer (some ⟨g1, 5, none⟩)) ha ?_
  refine zzw (.int .i64 x.op) (zl1 0 5) ?_
  refine zzv (.bool (x.op == (6 : Int))) ?_
  refine zzv (.bool (x.op == (6 : Int))) ?_
  refine zzv (.bool (x.op == (6 : Int))) ?_; clear ha; intro a ha
  rcases Bool.eq_false_or_eq_true (x.op == (6 : Int)) with hb | hb
  ·
   rw [hb] at ha; replace hb := eq_of_beq hb
   refine zv (.pointer (some ⟨g1, 14, none⟩)) ha ?_
   refine zzw (.int .i64 x.err) (zl1 0 14) ?_
   refine zzv (.bool (x.err == (0 : Int))) ?_
   refine zzv (.bool (x.err == (0 : Int))) ?_
   refine zzv (.bool (x.err == (0 : Int))) ?_; clear ha; intro a ha
   rcases Bool.eq_false_or_eq_true (x.err == (0 : Int)) with hb | hb
   ·
    rw [hb] at ha; replace hb := eq_of_beq hb
    refine zp ha ?_
    iterate 7 refine zzp ?_
    refine zzv (.bool true) ?_
    refine zzv (.bool true) ?_; clear ha; intro a ha
    refine zn2 ?_
    refine wp_ret ?_
    refine zzr (v := .bool true) ha ?_
    replace s := s.tail
    replace s : St W (L) w := s
    refine ⟨?_, s⟩
    congr 2
    unfold comB
    first | (simp [*]; done) | (simp_all; done) | (simp [*]; omega)
   rw [hb] at ha; replace hb := ne_of_beq_false hb
   refine zv (.pointer (some ⟨g1, 1, none⟩)) ha ?_
   refine zzw (.int .i64 x.kind) (zl1 0 1) ?_
   refine zzv (.bool (x.kind == (4 : Int))) ?_
   refine zzv (.bool (x.kind == (4 : Int))) ?_; clear ha; intro a ha
   rcases Bool.eq_false_or_eq_true (x.kind == (4 : Int)) with hb | hb
   ·
    rw [hb] at ha; replace hb := eq_of_beq hb
    refine zv (.pointer (some ⟨g1, 15, none⟩)) ha ?_
    refine zzw (.int .i64 x.status) (zl1 0 15) ?_
    refine zzv (.bool (x.status == (3 : Int))) ?_
    refine zzv (.bool (x.status == (3 : Int))) ?_
    refine zzv (.bool (x.status == (3 : Int))) ?_
    refine zzv (.bool (x.status == (3 : Int))) ?_; clear ha; intro a ha
    refine zn2 ?_
    refine wp_ret ?_
    refine zzr (v := .bool (x.status == (3 : Int))) ha ?_
    replace s := s.tail
    replace s : St W (L) w := s
    refine ⟨?_, s⟩
    congr 2
    unfold comB
    first | (simp [*]; done) | (simp_all; done) | (simp [*]; omega)
   rw [hb] at ha; replace hb := ne_of_beq_false hb
   refine zp ha ?_
   iterate 2 refine zzp ?_
   refine zzv (.bool false) ?_
   refine zzv (.bool false) ?_
   refine zzv (.bool false) ?_; clear ha; intro a ha
   refine zn2 ?_
   refine wp_ret ?_
   refine zzr (v := .bool false) ha ?_
   replace s := s.tail
   replace s : St W (L) w := s
   refine ⟨?_, s⟩
   congr 2
   unfold comB
   first | (simp [*]; done) | (simp_all; done) | (simp [*]; omega)
  rw [hb] at ha; replace hb := ne_of_beq_false hb
  refine zp ha ?_
  iterate 2 refine zzp ?_
  refine zzv (.bool false) ?_
  refine zzv (.bool false) ?_
  refine zzv (.pointer (some ⟨g1, 1, none⟩)) ?_
  refine zzw (.int .i64 x.kind) (zl1 0 1) ?_
  refine zzv (.bool (x.kind == (4 : Int))) ?_
  refine zzv (.bool (x.kind == (4 : Int))) ?_; clear ha; intro a ha
  rcases Bool.eq_false_or_eq_true (x.kind == (4 : Int)) with hb | hb
  ·
   rw [hb] at ha; replace hb := eq_of_beq hb
   refine zv (.pointer (some ⟨g1, 15, none⟩)) ha ?_
   refine zzw (.int .i64 x.status) (zl1 0 15) ?_
   refine zzv (.bool (x.status == (3 : Int))) ?_
   refine zzv (.bool (x.status == (3 : Int))) ?_
   refine zzv (.bool (x.status == (3 : Int))) ?_
   refine zzv (.bool (x.status == (3 : Int))) ?_; clear ha; intro a ha
   refine zn2 ?_
   refine wp_ret ?_
   refine zzr (v := .bool (x.status == (3 : Int))) ha ?_
   replace s := s.tail
   replace s : St W (L) w := s
   refine ⟨?_, s⟩
   congr 2
   unfold comB
   first | (simp [*]; done) | (simp_all; done) | (simp [*]; omega)
  rw [hb] at ha; replace hb := ne_of_beq_false hb
  refine zp ha ?_
  iterate 2 refine zzp ?_
  refine zzv (.bool false) ?_
  refine zzv (.bool false) ?_
  refine zzv (.bool false) ?_; clear ha; intro a ha
  refine zn2 ?_
  refine wp_ret ?_
  refine zzr (v := .bool false) ha ?_
  replace s := s.tail
  replace s : St W (L) w := s
  refine ⟨?_, s⟩
  congr 2
  unfold comB
  first | (simp [*]; done) | (simp_all; done) | (simp [*]; omega)
 rw [hb] at ha; replace hb := ne_of_beq_false hb
 refine zp ha ?_
 iterate 2 refine zzp ?_
 refine zzv (.bool false) ?_
 refine zzv (.bool false) ?_
 iterate 3 refine zzp ?_
 refine zzv (.bool false) ?_
 refine zzv (.bool false) ?_
 refine zzv (.pointer (some ⟨g1, 1, none⟩)) ?_
 refine zzw (.int .i64 x.kind) (zl1 0 1) ?_
 refine zzv (.bool (x.kind == (4 : Int))) ?_
 refine zzv (.bool (x.kind == (4 : Int))) ?_; clear ha; intro a ha
 rcases Bool.eq_false_or_eq_true (x.kind == (4 : Int)) with hb | hb
 ·
  rw [hb] at ha; replace hb := eq_of_beq hb
  refine zv (.pointer (some ⟨g1, 15, none⟩)) ha ?_
  refine zzw (.int .i64 x.status) (zl1 0 15) ?_
  refine zzv (.bool (x.status == (3 : Int))) ?_
  refine zzv (.bool (x.status == (3 : Int))) ?_
  refine zzv (.bool (x.status == (3 : Int))) ?_
  refine zzv (.bool (x.status == (3 : Int))) ?_; clear ha; intro a ha
  refine zn2 ?_
  refine wp_ret ?_
  refine zzr (v := .bool (x.status == (3 : Int))) ha ?_
  replace s := s.tail
  replace s : St W (L) w := s
  refine ⟨?_, s⟩
  congr 2
  unfold comB
  first | (simp [*]; done) | (simp_all; done) | (simp [*]; omega)
 rw [hb] at ha; replace hb := ne_of_beq_false hb
 refine zp ha ?_
 iterate 2 refine zzp ?_
 refine zzv (.bool false) ?_
 refine zzv (.bool false) ?_
 refine zzv (.bool false) ?_; clear ha; intro a ha
 refine zn2 ?_
 refine wp_ret ?_
 refine zzr (v := .bool false) ha ?_
 replace s := s.tail
 replace s : St W (L) w := s
 refine ⟨?_, s⟩
 congr 2
 unfold comB
 first | (simp [*]; done) | (simp_all; done) | (simp [*]; omega)

theorem abr_any (W : World) (L : List Chunk) (w : World) (x : Ev) (s : St W L w) :
  Calls Tryz.prog 37 #[.agg (evv x).toArray] w fun e w' => e = .returned (.bool (abrB x)) ∧ St W L w' := by
 refine enter_args (l := [.agg (evv x).toArray]) Tryz.func37 rfl rfl (Nat.le_of_ble_eq_true rfl) ?_
 intro a ha; replace ha : Has a 31 [(0, .agg (evv x).toArray)] := ha
 refine zn1 ?_
 refine zze ha (ex_box (evv x) s rfl (by kernel_rfl)) ?_
 clear ha; rintro _ w a ⟨g1, rfl, s⟩ ha
 refine zv (.bool false) ha ?_; clear ha; intro a ha
 refine zn4 ?_
 refine zv (.pointer (some ⟨g1, 1, none⟩)) ha ?_
 refine zzw (.int .i64 x.kind) (zl1 0 1) ?_
 refine zzv (.bool (x.kind == (3 : Int))) ?_
 refine zzv (.bool (x.kind == (3 : Int))) ?_; clear ha; intro a ha
 rcases Bool.eq_false_or_eq_true (x.kind == (3 : Int)) with hb | hb
 ·
  rw [hb] at ha; replace hb := eq_of_beq hb
  refine zv (.pointer (some ⟨g1, 5, none⟩)) ha ?_
  refine zzw (.int .i64 x.op) (zl1 0 5) ?_
  refine zzv (.bool (x.op == (7 : Int))) ?_
  refine zzv (.bool (x.op == (7 : Int))) ?_; clear ha; intro a ha
  rcases Bool.eq_false_or_eq_true (x.op == (7 : Int)) with hb | hb
  ·
   rw [hb] at ha; replace hb := eq_of_beq hb
   refine zv (.pointer (some ⟨g1, 14, none⟩)) ha ?_
   refine zzw (.int .i64 x.err) (zl1 0 14) ?_
   refine zzv (.bool (x.err == (0 : Int))) ?_
   refine zzv (.bool (x.err == (0 : Int))) ?_
   refine zzv (.bool (x.err == (0 : Int))) ?_; clear ha; intro a ha
   rcases Bool.eq_false_or_eq_true (x.err == (0 : Int)) with hb | hb
   ·
    rw [hb] at ha; replace hb := eq_of_beq hb
    refine zp ha ?_
    iterate 2 refine zzp ?_
    refine zzv (.bool true) ?_
    refine zzv (.bool true) ?_
    refine zzv (.bool true) ?_
    iterate 8 refine zzp ?_
    refine zzv (.bool true) ?_
    refine zzv (.bool true) ?_; clear ha; intro a ha
    refine zn2 ?_
    refine wp_ret ?_
    refine zzr (v := .bool true) ha ?_
    replace s := s.tail
    replace s : St W (L) w := s
    refine ⟨?_, s⟩
    congr 2
    unfold abrB
    first | (simp [*]; done) | (simp_all; done) | (simp [*]; omega)
   rw [hb] at ha; replace hb := ne_of_beq_false hb
   refine zv (.pointer (some ⟨g1, 14, none⟩)) ha ?_
   refine zzw (.int .i64 x.err) (zl1 0 14) ?_
   refine zzv (.bool (x.err == (200 : Int))) ?_
   refine zzv (.bool (x.err == (200 : Int))) ?_
   refine zzv (.bool (x.err == (200 : Int))) ?_
   refine zzv (.bool (x.err == (200 : Int))) ?_; clear ha; intro a ha
   rcases Bool.eq_false_or_eq_true (x.err == (200 : Int)) with hb | hb
   ·
    rw [hb] at ha; replace hb := eq_of_beq hb
    refine zp ha ?_
    iterate 7 refine zzp ?_
    refine zzv (.bool true) ?_
    refine zzv (.bool true) ?_; clear ha; intro a ha
    refine zn2 ?_
    refine wp_ret ?_
    refine zzr (v := .bool true) ha ?_
    replace s := s.tail
    replace s : St W (L) w := s
    refine ⟨?_, s⟩
    congr 2
    unfold abrB
    first | (simp [*]; done) | (simp_all; done) | (simp [*]; omega)
   rw [hb] at ha; replace hb := ne_of_beq_false hb
   refine zv (.pointer (some ⟨g1, 1, none⟩)) ha ?_
   refine zzw (.int .i64 x.kind) (zl1 0 1) ?_
   refine zzv (.bool (x.kind == (4 : Int))) ?_
   refine zzv (.bool (x.kind == (4 : Int))) ?_; clear ha; intro a ha
   rcases Bool.eq_false_or_eq_true (x.kind == (4 : Int)) with hb | hb
   ·
    rw [hb] at ha; replace hb := eq_of_beq hb
    refine zv (.pointer (some ⟨g1, 15, none⟩)) ha ?_
    refine zzw (.int .i64 x.status) (zl1 0 15) ?_
    refine zzv (.bool (x.status == (4 : Int))) ?_
    refine zzv (.bool (x.status == (4 : Int))) ?_
    refine zzv (.bool (x.status == (4 : Int))) ?_
    refine zzv (.bool (x.status == (4 : Int))) ?_; clear ha; intro a ha
    refine zn2 ?_
    refine wp_ret ?_
    refine zzr (v := .bool (x.status == (4 : Int))) ha ?_
    replace s := s.tail
    replace s : St W (L) w := s
    refine ⟨?_, s⟩
    congr 2
    unfold abrB
    first | (simp [*]; done) | (simp_all; done) | (simp [*]; omega)
   rw [hb] at ha; replace hb := ne_of_beq_false hb
   refine zp ha ?_
   iterate 2 refine zzp ?_
   refine zzv (.bool false) ?_
   refine zzv (.bool false) ?_
   refine zzv (.bool false) ?_; clear ha; intro a ha
   refine zn2 ?_
   refine wp_ret ?_
   refine zzr (v := .bool false) ha ?_
   replace s := s.tail
   replace s : St W (L) w := s
   refine ⟨?_, s⟩
   congr 2
   unfold abrB
   first | (simp [*]; done) | (simp_all; done) | (simp [*]; omega)
  rw [hb] at ha; replace hb := ne_of_beq_false hb
  refine zp ha ?_
  iterate 2 refine zzp ?_
  refine zzv (.bool false) ?_
  refine zzv (.bool false) ?_
  refine zzv (.pointer (some ⟨g1, 14, none⟩)) ?_
  refine zzw (.int .i64 x.err) (zl1 0 14) ?_
  refine zzv (.bool (x.err == (200 : Int))) ?_
  refine zzv (.bool (x.err == (200 : Int))) ?_
  refine zzv (.bool (x.err == (200 : Int))) ?_
  refine zzv (.bool (x.err == (200 : Int))) ?_; clear ha; intro a ha
  rcases Bool.eq_false_or_eq_true (x.err == (200 : Int)) with hb | hb
  ·
   rw [hb] at ha; replace hb := eq_of_beq hb
   refine zp ha ?_
   iterate 7 refine zzp ?_
   refine zzv (.bool true) ?_
   refine zzv (.bool true) ?_; clear ha; intro a ha
   refine zn2 ?_
   refine wp_ret ?_
   refine zzr (v := .bool true) ha ?_
   replace s := s.tail
   replace s : St W (L) w := s
   refine ⟨?_, s⟩
   congr 2
   unfold abrB
   first | (simp [*]; done) | (simp_all; done) | (simp [*]; omega)
  rw [hb] at ha; replace hb := ne_of_beq_false hb
  refine zv (.pointer (some ⟨g1, 1, none⟩)) ha ?_
  refine zzw (.int .i64 x.kind) (zl1 0 1) ?_
  refine zzv (.bool (x.kind == (4 : Int))) ?_
  refine zzv (.bool (x.kind == (4 : Int))) ?_; clear ha; intro a ha
  rcases Bool.eq_false_or_eq_true (x.kind == (4 : Int)) with hb | hb
  ·
   rw [hb] at ha; replace hb := eq_of_beq hb
   refine zv (.pointer (some ⟨g1, 15, none⟩)) ha ?_
   refine zzw (.int .i64 x.status) (zl1 0 15) ?_
   refine zzv (.bool (x.status == (4 : Int))) ?_
   refine zzv (.bool (x.status == (4 : Int))) ?_
   refine zzv (.bool (x.status == (4 : Int))) ?_
   refine zzv (.bool (x.status == (4 : Int))) ?_; clear ha; intro a ha
   refine zn2 ?_
   refine wp_ret ?_
   refine zzr (v := .bool (x.status == (4 : Int))) ha ?_
   replace s := s.tail
   replace s : St W (L) w := s
   refine ⟨?_, s⟩
   congr 2
   unfold abrB
   first | (simp [*]; done) | (simp_all; done) | (simp [*]; omega)
  rw [hb] at ha; replace hb := ne_of_beq_false hb
  refine zp ha ?_
  iterate 2 refine zzp ?_
  refine zzv (.bool false) ?_
  refine zzv (.bool false) ?_
  refine zzv (.bool false) ?_; clear ha; intro a ha
  refine zn2 ?_
  refine wp_ret ?_
  refine zzr (v := .bool false) ha ?_
  replace s := s.tail
  replace s : St W (L) w := s
  refine ⟨?_, s⟩
  congr 2
  unfold abrB
  first | (simp [*]; done) | (simp_all; done) | (simp [*]; omega)
 rw [hb] at ha; replace hb := ne_of_beq_false hb
 refine zp ha ?_
 iterate 12 refine zzp ?_
 refine zzv (.bool false) ?_
 refine zzv (.bool false) ?_
 refine zzv (.pointer (some ⟨g1, 1, none⟩)) ?_
 refine zzw (.int .i64 x.kind) (zl1 0 1) ?_
 refine zzv (.bool (x.kind == (4 : Int))) ?_
 refine zzv (.bool (x.kind == (4 : Int))) ?_; clear ha; intro a ha
 rcases Bool.eq_false_or_eq_true (x.kind == (4 : Int)) with hb | hb
 ·
  rw [hb] at ha; replace hb := eq_of_beq hb
  refine zv (.pointer (some ⟨g1, 15, none⟩)) ha ?_
  refine zzw (.int .i64 x.status) (zl1 0 15) ?_
  refine zzv (.bool (x.status == (4 : Int))) ?_
  refine zzv (.bool (x.status == (4 : Int))) ?_
  refine zzv (.bool (x.status == (4 : Int))) ?_
  refine zzv (.bool (x.status == (4 : Int))) ?_; clear ha; intro a ha
  refine zn2 ?_
  refine wp_ret ?_
  refine zzr (v := .bool (x.status == (4 : Int))) ha ?_
  replace s := s.tail
  replace s : St W (L) w := s
  refine ⟨?_, s⟩
  congr 2
  unfold abrB
  first | (simp [*]; done) | (simp_all; done) | (simp [*]; omega)
 rw [hb] at ha; replace hb := ne_of_beq_false hb
 refine zp ha ?_
 iterate 2 refine zzp ?_
 refine zzv (.bool false) ?_
 refine zzv (.bool false) ?_
 refine zzv (.bool false) ?_; clear ha; intro a ha
 refine zn2 ?_
 refine wp_ret ?_
 refine zzr (v := .bool false) ha ?_
 replace s := s.tail
 replace s : St W (L) w := s
 refine ⟨?_, s⟩
 congr 2
 unfold abrB
 first | (simp [*]; done) | (simp_all; done) | (simp [*]; omega)

end Go.Proofs.YtfcbjcohepkkfaaGreat.B
