import Derived.Test.YtfcbjcohepkkfaaGreatG6
import Derived.Test.YtfcbjcohepkkfaaGreatSepY
namespace Go.Proofs.YtfcbjcohepkkfaaGreat.B
open Go.RowKit Go.Maps Go.Sort Go.Shelf Go.Proofs.YtfcbjcohepkkfaaGreat.Sep Go.Proofs.YtfcbjcohepkkfaaGreat.P
set_option linter.unusedVariables false
set_option linter.unusedSimpArgs false
/-! ### the rule 8 -/
def p3 (x : Ev) (n : Dn) (y : Ev) (m : Dn) : Bool := m.id == y.id && m.id != x.id && behR m n && touchL (n.l.map (·.t)) (m.l.map (·.t))
def p2 (x : Ev) (all : List Dn) (n : Dn) (y : Ev) : Bool := y.kind == 3 && comB y && all.any (p3 x n y)
def p1 (x : Ev) (all : List Dn) (p : List Ev) (n : Dn) : Bool := x.kind == 1 && n.id == x.id && p.any (p2 x all n)
theorem lateB_is (p : List Ev) (x : Ev) (all : List Dn) : lateB p x all = all.any (p1 x all p) := rfl
theorem any_next {α : Type} {f : α → Bool} {l : List α} {k : Nat} {x : α} (h0 : (l.take k).any f = false) (hx : l[k]? = some x) (h : f x = false) : (l.take (k + 1)).any f = false := by
 rw [take_snoc hx, List.any_append, h0]; simp [h]
theorem any_all {α : Type} {f : α → Bool} {l : List α} {k : Nat} (h0 : (l.take k).any f = false) (hk : l.length ≤ k) : l.any f = false := by
 rwa [List.take_of_length_le hk] at h0
theorem any_hit {α : Type} {f : α → Bool} {l : List α} {k : Nat} {x : α} (hx : l[k]? = some x) (h : f x = true) : l.any f = true := List.any_eq_true.2 ⟨x, List.mem_of_getElem? hx, h⟩

theorem rbeh_any (W : World) (L : List Chunk) (w : World) (pa b : Dn) (s : St W L w) :
  Calls Tryz.prog 52 #[.agg #[.int .i64 pa.id, .int .i64 pa.wall, .int .i64 pa.logic, .slice pa.A pa.l.length pa.c], .agg #[.int .i64 b.id, .int .i64 b.wall, .int .i64 b.logic, .slice b.A b.l.length b.c]] w fun e w' => e = .returned (.bool (behR pa b)) ∧ St W L w' := by
 refine enter_args (l := [.agg #[.int .i64 pa.id, .int .i64 pa.wall, .int .i64 pa.logic, .slice pa.A pa.l.length pa.c], .agg #[.int .i64 b.id, .int .i64 b.wall, .int .i64 b.logic, .slice b.A b.l.length b.c]]) Tryz.func52 rfl rfl (Nat.le_of_ble_eq_true rfl) ?_
 intro a ha; replace ha : Has a 24 [(0, .agg #[.int .i64 pa.id, .int .i64 pa.wall, .int .i64 pa.logic, .slice pa.A pa.l.length pa.c]), (1, .agg #[.int .i64 b.id, .int .i64 b.wall, .int .i64 b.logic, .slice b.A b.l.length b.c])] := ha
 refine zn1 ?_
 refine zze ha (ex_box [.int .i64 pa.id, .int .i64 pa.wall, .int .i64 pa.logic, .slice pa.A pa.l.length pa.c] s rfl (by kernel_rfl)) ?_
 clear ha; rintro _ w a ⟨g1, rfl, s⟩ ha
 refine zze ha (ex_box [.int .i64 b.id, .int .i64 b.wall, .int .i64 b.logic, .slice b.A b.l.length b.c] s rfl (by kernel_rfl)) ?_
 clear ha; rintro _ w a ⟨g2, rfl, s⟩ ha
 refine zv (.bool false) ha ?_; clear ha; intro a ha
 refine zn4 ?_
 refine zv (.pointer (some ⟨g2, 1, none⟩)) ha ?_
 refine zzw (.agg #[.int .i64 b.wall, .int .i64 b.logic]) (zln 0 1) ?_
 refine zzv (.pointer (some ⟨g1, 1, none⟩)) ?_
 refine zzw (.agg #[.int .i64 pa.wall, .int .i64 pa.logic]) (zln 1 1) ?_; clear ha; intro a ha
 refine zzc ha (rless_any W _ w b.wall b.logic pa.wall pa.logic s) ?_
 rintro _ w ⟨rfl, s⟩
 refine ⟨_, rfl, ?_⟩; clear ha; intro a ha
 refine zv (.bool (decide (ltS b.wall b.logic pa.wall pa.logic))) ha ?_; clear ha; intro a ha
 rcases Bool.eq_false_or_eq_true (decide (ltS b.wall b.logic pa.wall pa.logic)) with hb | hb
 ·
  rw [hb] at ha; replace hb : (ltS b.wall b.logic pa.wall pa.logic) := of_decide_eq_true hb
  have ht0 := hb
  refine zp ha ?_
  iterate 11 refine zzp ?_
  refine zzv (.bool true) ?_
  refine zzv (.bool true) ?_; clear ha; intro a ha
  refine zn2 ?_
  refine wp_ret ?_
  refine zzr (v := .bool true) ha ?_
  replace s := s.tail.tail
  replace s : St W (L) w := s
  refine ⟨?_, s⟩
  congr 2
  unfold behR
  rw [decide_eq_true ht0]
  simp
 rw [hb] at ha; replace hb : ¬ (ltS b.wall b.logic pa.wall pa.logic) := of_decide_eq_false hb
 have ht0 := hb
 refine zv (.pointer (some ⟨g1, 1, none⟩)) ha ?_
 refine zzw (.agg #[.int .i64 pa.wall, .int .i64 pa.logic]) (zln 1 1) ?_
 refine zzv (.pointer (some ⟨g2, 1, none⟩)) ?_
 refine zzw (.agg #[.int .i64 b.wall, .int .i64 b.logic]) (zln 0 1) ?_
 refine zzw (.bool (decide ((pa.wall, pa.logic) = (b.wall, b.logic)))) (run_stampeq rfl (by kernel_rfl) (by kernel_rfl) _) ?_
 refine zzv (.bool (decide ((pa.wall, pa.logic) = (b.wall, b.logic)))) ?_; clear ha; intro a ha
 rcases Bool.eq_false_or_eq_true (decide ((pa.wall, pa.logic) = (b.wall, b.logic))) with hb | hb
 ·
  rw [hb] at ha; replace hb : ((pa.wall, pa.logic) = (b.wall, b.logic)) := of_decide_eq_true hb
  have ht1 := hb
  refine zv (.pointer (some ⟨g1, 0, none⟩)) ha ?_
  refine zzw (.int .i64 pa.id) (zl1 1 0) ?_
  refine zzv (.pointer (some ⟨g2, 0, none⟩)) ?_
  refine zzw (.int .i64 b.id) (zl1 0 0) ?_
  refine zzv (.bool (decide (pa.id > b.id))) ?_
  refine zzv (.bool (decide (pa.id > b.id))) ?_
  refine zzv (.bool (decide (pa.id > b.id))) ?_
  refine zzv (.bool (decide (pa.id > b.id))) ?_; clear ha; intro a ha
  refine zn2 ?_
  refine wp_ret ?_
  refine zzr (v := .bool (decide (pa.id > b.id))) ha ?_
  replace s := s.tail.tail
  replace s : St W (L) w := s
  refine ⟨?_, s⟩
  congr 2
  unfold behR
  rw [decide_eq_false ht0, decide_eq_true ht1]
  rfl
 rw [hb] at ha; replace hb : ¬ ((pa.wall, pa.logic) = (b.wall, b.logic)) := of_decide_eq_false hb
 have ht1 := hb
 refine zp ha ?_
 iterate 4 refine zzp ?_
 refine zzv (.bool false) ?_
 refine zzv (.bool false) ?_
 refine zzv (.bool false) ?_; clear ha; intro a ha
 refine zn2 ?_
 refine wp_ret ?_
 refine zzr (v := .bool false) ha ?_
 replace s := s.tail.tail
 replace s : St W (L) w := s
 refine ⟨?_, s⟩
 congr 2
 unfold behR
 rw [decide_eq_false ht0, decide_eq_false ht1]
 simp

set_option maxHeartbeats 4000000 in
theorem rtouch_any (W : World) (L : List Chunk) (w : World) (a0 b : Dn) (hra : Knows L (DidsIn a0.A a0.l)) (hrb : Knows L (DidsIn b.A b.l)) (hna : Bl a0.l) (hnb : Bl b.l) (s : St W L w) :
  Calls Tryz.prog 53 #[.agg #[.int .i64 a0.id, .int .i64 a0.wall, .int .i64 a0.logic, .slice a0.A a0.l.length a0.c], .agg #[.int .i64 b.id, .int .i64 b.wall, .int .i64 b.logic, .slice b.A b.l.length b.c]] w fun e w' => e = .returned (.bool (touchL (a0.l.map (·.t)) (b.l.map (·.t)))) ∧ St W L w' := by
 have hla := hna.1
 have hlb := hnb.1
 refine enter_args (l := [.agg #[.int .i64 a0.id, .int .i64 a0.wall, .int .i64 a0.logic, .slice a0.A a0.l.length a0.c], .agg #[.int .i64 b.id, .int .i64 b.wall, .int .i64 b.logic, .slice b.A b.l.length b.c]]) Tryz.func53 rfl rfl (Nat.le_of_ble_eq_true rfl) ?_
 intro a ha; replace ha : Has a 84 [(0, .agg #[.int .i64 a0.id, .int .i64 a0.wall, .int .i64 a0.logic, .slice a0.A a0.l.length a0.c]), (1, .agg #[.int .i64 b.id, .int .i64 b.wall, .int .i64 b.logic, .slice b.A b.l.length b.c])] := ha
 refine zn1 ?_
 refine zze ha (ex_box [.int .i64 a0.id, .int .i64 a0.wall, .int .i64 a0.logic, .slice a0.A a0.l.length a0.c] s rfl (by kernel_rfl)) ?_
 clear ha; rintro _ w a ⟨g1, rfl, s⟩ ha
 refine zze ha (ex_box [.int .i64 b.id, .int .i64 b.wall, .int .i64 b.logic, .slice b.A b.l.length b.c] s rfl (by kernel_rfl)) ?_
 clear ha; rintro _ w a ⟨g2, rfl, s⟩ ha
 refine zv (.bool false) ha ?_; clear ha; intro a ha
 refine zn2 ?_
 refine wp_seq ?_
 refine zn1 ?_
 refine zv (.int .i64 0) ha ?_; clear ha; intro a ha
 refine zn2 ?_
 refine wp_block ?_
 replace s := s.at_ (j := 1) rfl
 dsimp only [List.eraseIdx] at s
 refine wp_loopG (G := Nat) (fun k a w => Has a 84 [(2, .pointer (some ⟨g1, 0, none⟩)), (3, .pointer (some ⟨g2, 0, none⟩)), (5, .int .i64 ((k : Nat) : Int))] ∧ St W (.blk g1 [.int .i64 a0.id, .int .i64 a0.wall, .int .i64 a0.logic, .slice a0.A a0.l.length a0.c] 97 :: .blk g2 [.int .i64 b.id, .int .i64 b.wall, .int .i64 b.logic, .slice b.A b.l.length b.c] 97 :: L) w ∧ (k ≤ b.l.length ∧ touchL (a0.l.map (·.t)) ((b.l.take k).map (·.t)) = false)) (fun k => b.l.length - k) 0 ?_ ?_
 ·
  exact ⟨(Has.cons ha (by kernel_rfl) (by kernel_rfl) (Has.cons ha (by kernel_rfl) (by kernel_rfl) (Has.cons ha (by kernel_rfl) (by kernel_rfl) (Has.nil ha)))), s, ⟨Nat.zero_le _, rfl⟩⟩
 clear ha s; rintro k a w ⟨ha, s, hp⟩
 refine wp_seq ?_
 refine zn1 ?_
 refine zv (.int .i64 ((k : Nat) : Int)) ha ?_
 refine zzv (.pointer (some ⟨g2, 3, none⟩)) ?_
 refine zzw (.slice b.A b.l.length b.c) (zl1 1 3) ?_
 refine zzv (.int .i64 ((b.l.length : Nat) : Int)) ?_
 refine zzv (.bool (decide (((k : Nat) : Int) < ((b.l.length : Nat) : Int)))) ?_; clear ha; intro a ha
 refine zn2 ?_
 refine zzh (decide (((k : Nat) : Int) < ((b.l.length : Nat) : Int))) ha ?_ ?_ <;> intro hb
 ·
  rw [hb] at ha; replace hb : (((k : Nat) : Int) < ((b.l.length : Nat) : Int)) := of_decide_eq_true hb
  have ht0 := hb
  obtain ⟨w0, hw0⟩ : ∃ w0, b.l[k]? = some w0 := ⟨_, List.getElem?_eq_getElem (by omega)⟩
  obtain ⟨bd, hbd⟩ : ∃ bd, b.A = some bd := Reads.addr (hrb _ s.sat.tail.tail).1 (by omega)
  refine wp_skip ?_
  refine then_normal ?_
  refine wp_seq ?_
  refine wp_block ?_
  refine wp_seq ?_
  refine zn1 ?_
  refine zv (.pointer (some ⟨g2, 3, none⟩)) ha ?_
  refine zzw (.slice b.A b.l.length b.c) (zl1 1 3) ?_
  refine zzv (.int .i64 ((k : Nat) : Int)) ?_
  refine zzw (.pointer (some (bd.add (k * 7)))) (run_indexAddr' (kd := .i64) (i := ((k : Nat) : Int)) (n := b.l.length) (c := b.c) k rfl Tryz.underlying95 Tryz.sizeOf99 (by rw [← hbd]; kernel_rfl) (by kernel_rfl) rfl (by first | assumption | omega) _) ?_
  refine zzw (.pointer (some (bd.add (k * 7 + 0)))) (zfa 3) ?_
  refine zzw (.int .i64 w0.t.op) (zla (k * 7 + 0) ((hbd ▸ (hrb _ s.sat.tail.tail).1)) (by rw [dvs_at hw0 (by omega)]; rfl)) ?_
  refine zzv (.bool (w0.t.op != (3 : Int))) ?_
  refine zzv (.bool (w0.t.op != (3 : Int))) ?_; clear ha; intro a ha
  rcases Bool.eq_false_or_eq_true (w0.t.op != (3 : Int)) with hb | hb
  ·
   rw [hb] at ha; replace hb := zbn hb
   have ht1 := hb
   refine zv (.pointer (some ⟨g2, 3, none⟩)) ha ?_
   refine zzw (.slice b.A b.l.length b.c) (zl1 1 3) ?_
   refine zzv (.int .i64 ((k : Nat) : Int)) ?_
   refine zzw (.pointer (some (bd.add (k * 7)))) (run_indexAddr' (kd := .i64) (i := ((k : Nat) : Int)) (n := b.l.length) (c := b.c) k rfl Tryz.underlying95 Tryz.sizeOf99 (by rw [← hbd]; kernel_rfl) (by kernel_rfl) rfl (by first | assumption | omega) _) ?_
   refine zzw (.pointer (some (bd.add (k * 7 + 0)))) (zfa 3) ?_
   refine zzw (.int .i64 w0.t.op) (zla (k * 7 + 0) ((hbd ▸ (hrb _ s.sat.tail.tail).1)) (by rw [dvs_at hw0 (by omega)]; rfl)) ?_
   refine zzv (.bool (w0.t.op != (4 : Int))) ?_
   refine zzv (.bool (w0.t.op != (4 : Int))) ?_; clear ha; intro a ha
   refine zn2 ?_
   refine zzh (w0.t.op != (4 : Int)) ha ?_ ?_ <;> intro hb
   ·
    rw [hb] at ha; replace hb := zbn hb
    have ht2 := hb
    have hnw : ((decide (w0.t.op = 3) || decide (w0.t.op = 4)) && (a0.l.map (·.t)).any fun d => hits d w0.t) = false := by rw [decide_eq_false (by omega), decide_eq_false (by omega)]; rfl
    refine wp_exit ?_
    refine then_exit ?_
    refine block_hit ?_
    refine then_normal ?_
    refine wp_region_lit ?_
    refine zv (.int .i64 ((k : Nat) : Int)) ha ?_
    refine zzw (.int .i64 ((k + 1 : Nat) : Int)) zar ?_
    refine zzv (.int .i64 ((k + 1 : Nat) : Int)) ?_; clear ha; intro a ha
    refine zn2 ?_
    exact ⟨k + 1, (show b.l.length - (k + 1) < b.l.length - k by omega), (Has.cons ha (by kernel_rfl) (by kernel_rfl) (Has.cons ha (by kernel_rfl) (by kernel_rfl) (Has.cons ha (by kernel_rfl) (by kernel_rfl) (Has.nil ha)))), s, (show k + 1 ≤ b.l.length by omega), by rw [map_take1 hw0, touch_snoc, hp.2, Bool.false_or]; exact hnw⟩
   rw [hb] at ha; replace hb := zbq hb
   have ht2 := hb
   have hw34 : w0.t.op = 3 ∨ w0.t.op = 4 := .inr hb
   refine wp_skip ?_
   refine then_normal ?_
   refine zn1 ?_
   refine zv (.pointer (some ⟨g2, 3, none⟩)) ha ?_
   refine zzw (.slice b.A b.l.length b.c) (zl1 1 3) ?_
   refine zzv (.int .i64 ((k : Nat) : Int)) ?_
   refine zzw (.pointer (some (bd.add (k * 7)))) (run_indexAddr' (kd := .i64) (i := ((k : Nat) : Int)) (n := b.l.length) (c := b.c) k rfl Tryz.underlying95 Tryz.sizeOf99 (by rw [← hbd]; kernel_rfl) (by kernel_rfl) rfl (by first | assumption | omega) _) ?_
   refine zzw (.pointer (some (bd.add (k * 7 + 1)))) (zfa 9) ?_
   refine zzw (.string (str w0.t.key)) (zla (k * 7 + 1) ((hbd ▸ (hrb _ s.sat.tail.tail).1)) (by rw [dvs_at hw0 (by omega)]; rfl)) ?_
   refine zzv (.string (str w0.t.key)) ?_; clear ha; intro a ha
   refine zn4 ?_
   refine zv (.int .i64 0) ha ?_; clear ha; intro a ha
   refine zn2 ?_
   refine wp_block ?_
   have hp1 := hp
   refine wp_loopG (G := Nat) (fun j a w => Has a 84 [(2, .pointer (some ⟨g1, 0, none⟩)), (3, .pointer (some ⟨g2, 0, none⟩)), (5, .int .i64 ((k : Nat) : Int)), (6, .string (str w0.t.key)), (7, .int .i64 ((j : Nat) : Int))] ∧ St W (.blk g1 [.int .i64 a0.id, .int .i64 a0.wall, .int .i64 a0.logic, .slice a0.A a0.l.length a0.c] 97 :: .blk g2 [.int .i64 b.id, .int .i64 b.wall, .int .i64 b.logic, .slice b.A b.l.length b.c] 97 :: L) w ∧ (j ≤ a0.l.length ∧ (((a0.l.take j).map (·.t)).any fun d => hits d w0.t) = false)) (fun j => a0.l.length - j) 0 ?_ ?_
   ·
    exact ⟨(Has.cons ha (by kernel_rfl) (by kernel_rfl) (Has.cons ha (by kernel_rfl) (by kernel_rfl) (Has.cons ha (by kernel_rfl) (by kernel_rfl) (Has.cons ha (by kernel_rfl) (by kernel_rfl) (Has.cons ha (by kernel_rfl) (by kernel_rfl) (Has.nil ha)))))), s, ⟨Nat.zero_le _, rfl⟩⟩
   clear ha s; rintro j a w ⟨ha, s, hp⟩
   refine wp_seq ?_
   refine zn1 ?_
   refine zv (.int .i64 ((j : Nat) : Int)) ha ?_
   refine zzv (.pointer (some ⟨g1, 3, none⟩)) ?_
   refine zzw (.slice a0.A a0.l.length a0.c) (zl1 0 3) ?_
   refine zzv (.int .i64 ((a0.l.length : Nat) : Int)) ?_
   refine zzv (.bool (decide (((j : Nat) : Int) < ((a0.l.length : Nat) : Int)))) ?_; clear ha; intro a ha
   refine zn2 ?_
   refine zzh (decide (((j : Nat) : Int) < ((a0.l.length : Nat) : Int))) ha ?_ ?_ <;> intro hb
   ·
    rw [hb] at ha; replace hb : (((j : Nat) : Int) < ((a0.l.length : Nat) : Int)) := of_decide_eq_true hb
    have ht3 := hb
    obtain ⟨d, hd⟩ : ∃ d, a0.l[j]? = some d := ⟨_, List.getElem?_eq_getElem (by omega)⟩
    obtain ⟨aa, haa⟩ : ∃ aa, a0.A = some aa := Reads.addr (hra _ s.sat.tail.tail).1 (by omega)
    refine wp_skip ?_
    refine then_normal ?_
    refine wp_seq ?_
    refine wp_block ?_
    refine zn1 ?_
    refine zv (.pointer (some ⟨g1, 3, none⟩)) ha ?_
    refine zzw (.slice a0.A a0.l.length a0.c) (zl1 0 3) ?_
    refine zzv (.int .i64 ((j : Nat) : Int)) ?_
    refine zzw (.pointer (some (aa.add (j * 7)))) (run_indexAddr' (kd := .i64) (i := ((j : Nat) : Int)) (n := a0.l.length) (c := a0.c) j rfl Tryz.underlying95 Tryz.sizeOf99 (by rw [← haa]; kernel_rfl) (by kernel_rfl) rfl (by first | assumption | omega) _) ?_
    refine zzw (.agg #[.int .i64 d.t.op, .string (str d.t.key), .string (str d.t.val), .string (str d.t.frm), .string (str d.t.to), .bool d.t.is, .slice d.A d.t.rows.length d.c]) (run_loadAtN (i := j * 7) [.int .i64 d.t.op, .string (str d.t.key), .string (str d.t.val), .string (str d.t.frm), .string (str d.t.to), .bool d.t.is, .slice d.A d.t.rows.length d.c] ((haa ▸ (hra _ s.sat.tail.tail).1)) rfl (by kernel_rfl) Tryz.isAgg99 Tryz.sizeOf99 (fun q_ hq_ => dvs_at hd hq_) rfl) ?_; clear ha; intro a ha
    refine zze ha (ex_alloc [.int .i64 0, .string (str []), .string (str []), .string (str []), .string (str []), .bool false, .slice none 0 0] s rfl (Tryz.zeroValue99 _) (by kernel_rfl)) ?_
    clear ha; rintro _ w a ⟨g3, rfl, s⟩ ha
    refine zzd ha (ex_store (of_ := 0) 0 [.int .i64 d.t.op, .string (str d.t.key), .string (str d.t.val), .string (str d.t.frm), .string (str d.t.to), .bool d.t.is, .slice d.A d.t.rows.length d.c] s rfl rfl (by kernel_rfl) (by kernel_rfl) (Tryz.sizeOf99 _) rfl (by simp [Value.oneCell']) (Nat.le_of_ble_eq_true rfl)) ?_
    clear ha; rintro w a s ha
    dsimp only [List.set, putAt] at s
    refine zn4 ?_
    refine zv (.pointer (some ⟨g3, 0, none⟩)) ha ?_
    refine zzw (.int .i64 d.t.op) (zl1 0 0) ?_
    refine zzv (.bool (d.t.op == (2 : Int))) ?_
    refine zzv (.bool (d.t.op == (2 : Int))) ?_; clear ha; intro a ha
    rcases Bool.eq_false_or_eq_true (d.t.op == (2 : Int)) with hb | hb
    ·
     rw [hb] at ha; replace hb := eq_of_beq hb
     have ht4 := hb
     refine zp ha ?_
     iterate 2 refine zzp ?_
     refine zzv (.bool true) ?_
     refine zzv (.bool true) ?_; clear ha; intro a ha
     refine zn4 ?_
     refine zv (.bool true) ha ?_
     refine zzv (.bool false) ?_
     refine zzv (.bool false) ?_
     iterate 4 refine zzp ?_
     refine zzv (.bool false) ?_
     refine zzv (.bool false) ?_
     refine zzv (.bool true) ?_
     refine zzv (.bool true) ?_
     refine zzv (.string (str w0.t.key)) ?_
     refine zzv (.pointer (some ⟨g3, 3, none⟩)) ?_
     refine zzv (.pointer (some ⟨g3, 3, none⟩)) ?_
     refine zzw (.string (str d.t.frm)) (zl1 0 3) ?_
     refine zzw (.bool (decide (d.t.frm ≤ w0.t.key))) (run_sgeq (p := w0.t.key) (q := d.t.frm) rfl (by kernel_rfl) (by kernel_rfl) _) ?_
     refine zzv (.bool (decide (d.t.frm ≤ w0.t.key))) ?_
     refine zzv (.bool (decide (d.t.frm ≤ w0.t.key))) ?_; clear ha; intro a ha
     rcases Bool.eq_false_or_eq_true (decide (d.t.frm ≤ w0.t.key)) with hb | hb
     ·
      rw [hb] at ha; replace hb : (d.t.frm ≤ w0.t.key) := of_decide_eq_true hb
      have ht5 := hb
      refine zv (.string (str w0.t.key)) ha ?_
      refine zzv (.pointer (some ⟨g3, 3, none⟩)) ?_
      refine zzv (.pointer (some ⟨g3, 4, none⟩)) ?_
      refine zzw (.string (str d.t.to)) (zl1 0 4) ?_
      refine zzw (.bool (decide (w0.t.key < d.t.to))) (run_slss (p := w0.t.key) (q := d.t.to) rfl (by kernel_rfl) (by kernel_rfl) _) ?_
      refine zzv (.bool (decide (w0.t.key < d.t.to))) ?_
      refine zzv (.bool (decide (w0.t.key < d.t.to))) ?_; clear ha; intro a ha
      refine zn2 ?_
      refine zzh (decide (w0.t.key < d.t.to)) ha ?_ ?_ <;> intro hb
      ·
       rw [hb] at ha; replace hb : (w0.t.key < d.t.to) := of_decide_eq_true hb
       have ht6 := hb
       have hh : hits d.t w0.t = true := by unfold hits; rw [if_pos (by omega)]; unfold hasS; rw [decide_eq_true ht5, decide_eq_true ht6]; rfl
       have hyes : touchL (a0.l.map (·.t)) (b.l.map (·.t)) = true := List.any_eq_true.2 ⟨w0.t, List.mem_map.2 ⟨w0, List.mem_of_getElem? hw0, rfl⟩, by rw [Bool.and_eq_true]; exact ⟨by simp only [Bool.or_eq_true, decide_eq_true_eq]; omega, List.any_eq_true.2 ⟨d.t, List.mem_map.2 ⟨d, List.mem_of_getElem? hd, rfl⟩, hh⟩⟩⟩
       refine zn1 ?_
       refine zv (.bool true) ha ?_; clear ha; intro a ha
       refine zn2 ?_
       refine wp_ret ?_
       refine block_ret ?_
       refine then_ret ?_
       refine then_ret ?_
       refine block_ret ?_
       refine block_ret ?_
       refine then_ret ?_
       refine then_ret ?_
       refine block_ret ?_
       refine then_ret ?_
       refine zzr (v := .bool true) ha ?_
       replace s := s.tail.tail.tail
       replace s : St W (L) w := s
       exact ⟨by rw [hyes], s⟩
      rw [hb] at ha; replace hb : ¬ (w0.t.key < d.t.to) := of_decide_eq_false hb
      have ht6 := hb
      have hnd : hits d.t w0.t = false := by unfold hits; rw [if_pos (by omega)]; unfold hasS; rw [decide_eq_false ht6, Bool.and_false]
      refine wp_skip ?_
      refine block_normal ?_
      refine then_normal ?_
      refine wp_region_lit ?_
      refine zv (.int .i64 ((j : Nat) : Int)) ha ?_
      refine zzw (.int .i64 ((j + 1 : Nat) : Int)) zar ?_
      refine zzv (.int .i64 ((j + 1 : Nat) : Int)) ?_; clear ha; intro a ha
      refine zn2 ?_
      replace s := (s.at_ (j := 2) rfl).at_ (j := 2) rfl
      replace s := s.k2_1
      exact ⟨j + 1, (show a0.l.length - (j + 1) < a0.l.length - j by omega), (Has.cons ha (by kernel_rfl) (by kernel_rfl) (Has.cons ha (by kernel_rfl) (by kernel_rfl) (Has.cons ha (by kernel_rfl) (by kernel_rfl) (Has.cons ha (by kernel_rfl) (by kernel_rfl) (Has.cons ha (by kernel_rfl) (by kernel_rfl) (Has.nil ha)))))), s, (show j + 1 ≤ a0.l.length by omega), by rw [map_take1 hd, List.any_append, hp.2, Bool.false_or]; simp only [List.any_cons, List.any_nil, Bool.or_false]; exact hnd⟩
     rw [hb] at ha; replace hb : ¬ (d.t.frm ≤ w0.t.key) := of_decide_eq_false hb
     have ht5 := hb
     have hnd : hits d.t w0.t = false := by unfold hits; rw [if_pos (by omega)]; unfold hasS; rw [decide_eq_false ht5, Bool.false_and]
     refine zp ha ?_
     iterate 4 refine zzp ?_
     refine zzv (.bool false) ?_
     refine zzv (.bool false) ?_; clear ha; intro a ha
     refine zn2 ?_
     refine wp_false ha rfl (by kernel_rfl) ?_
     refine wp_skip ?_
     refine block_normal ?_
     refine then_normal ?_
     refine wp_region_lit ?_
     refine zv (.int .i64 ((j : Nat) : Int)) ha ?_
     refine zzw (.int .i64 ((j + 1 : Nat) : Int)) zar ?_
     refine zzv (.int .i64 ((j + 1 : Nat) : Int)) ?_; clear ha; intro a ha
     refine zn2 ?_
     replace s := (s.at_ (j := 2) rfl).at_ (j := 2) rfl
     replace s := s.k2_1
     exact ⟨j + 1, (show a0.l.length - (j + 1) < a0.l.length - j by omega), (Has.cons ha (by kernel_rfl) (by kernel_rfl) (Has.cons ha (by kernel_rfl) (by kernel_rfl) (Has.cons ha (by kernel_rfl) (by kernel_rfl) (Has.cons ha (by kernel_rfl) (by kernel_rfl) (Has.cons ha (by kernel_rfl) (by kernel_rfl) (Has.nil ha)))))), s, (show j + 1 ≤ a0.l.length by omega), by rw [map_take1 hd, List.any_append, hp.2, Bool.false_or]; simp only [List.any_cons, List.any_nil, Bool.or_false]; exact hnd⟩
    rw [hb] at ha; replace hb := ne_of_beq_false hb
    have ht4 := hb
    refine zv (.pointer (some ⟨g3, 0, none⟩)) ha ?_
    refine zzw (.int .i64 d.t.op) (zl1 0 0) ?_
    refine zzv (.bool (d.t.op == (5 : Int))) ?_
    refine zzv (.bool (d.t.op == (5 : Int))) ?_
    refine zzv (.bool (d.t.op == (5 : Int))) ?_; clear ha; intro a ha
    refine zn4 ?_
    refine zv (.bool (d.t.op == (5 : Int))) ha ?_
    refine zzv (.bool (!(d.t.op == (5 : Int)))) ?_
    refine zzv (.bool (!(d.t.op == (5 : Int)))) ?_; clear ha; intro a ha
    rcases Bool.eq_false_or_eq_true (!(d.t.op == (5 : Int))) with hb | hb
    ·
     rw [hb] at ha; skip
     have ht5 : d.t.op ≠ (5 : Int) := by simpa using hb
     refine zv (.pointer (some ⟨g3, 1, none⟩)) ha ?_
     refine zzw (.string (str d.t.key)) (zl1 0 1) ?_
     refine zzv (.string (str w0.t.key)) ?_
     refine zzw (.bool (decide (d.t.key = w0.t.key))) (run_seql (p := d.t.key) (q := w0.t.key) rfl (by kernel_rfl) (by kernel_rfl) _) ?_
     refine zzv (.bool (decide (d.t.key = w0.t.key))) ?_
     refine zzv (.bool (decide (d.t.key = w0.t.key))) ?_; clear ha; intro a ha
     rcases Bool.eq_false_or_eq_true (decide (d.t.key = w0.t.key)) with hb | hb
     ·
      rw [hb] at ha; replace hb : (d.t.key = w0.t.key) := of_decide_eq_true hb
      have ht6 := hb
      have hh : hits d.t w0.t = true := by unfold hits; rw [if_neg (by omega)]; exact decide_eq_true ht6
      have hyes : touchL (a0.l.map (·.t)) (b.l.map (·.t)) = true := List.any_eq_true.2 ⟨w0.t, List.mem_map.2 ⟨w0, List.mem_of_getElem? hw0, rfl⟩, by rw [Bool.and_eq_true]; exact ⟨by simp only [Bool.or_eq_true, decide_eq_true_eq]; omega, List.any_eq_true.2 ⟨d.t, List.mem_map.2 ⟨d, List.mem_of_getElem? hd, rfl⟩, hh⟩⟩⟩
      refine zp ha ?_
      iterate 14 refine zzp ?_
      refine zzv (.bool true) ?_; clear ha; intro a ha
      refine zn2 ?_
      refine wp_true ha rfl (by kernel_rfl) ?_
      refine zn1 ?_
      refine zv (.bool true) ha ?_; clear ha; intro a ha
      refine zn2 ?_
      refine wp_ret ?_
      refine block_ret ?_
      refine then_ret ?_
      refine then_ret ?_
      refine block_ret ?_
      refine block_ret ?_
      refine then_ret ?_
      refine then_ret ?_
      refine block_ret ?_
      refine then_ret ?_
      refine zzr (v := .bool true) ha ?_
      replace s := s.tail.tail.tail
      replace s : St W (L) w := s
      exact ⟨by rw [hyes], s⟩
     rw [hb] at ha; replace hb : ¬ (d.t.key = w0.t.key) := of_decide_eq_false hb
     have ht6 := hb
     have hnd : hits d.t w0.t = false := by unfold hits; rw [if_neg (by omega)]; exact decide_eq_false ht6
     refine zw (.bool false) ha (run_known (show (d.t.op == (5 : Int)) = false from beq_eq_false_iff_ne.2 (by omega)) (by kernel_rfl)) ?_
     refine zzv (.bool false) ?_
     iterate 5 refine zzp ?_
     refine zzv (.bool false) ?_
     refine zzv (.bool false) ?_
     iterate 5 refine zzp ?_
     refine zzv (.bool false) ?_
     refine zzv (.bool false) ?_; clear ha; intro a ha
     refine zn2 ?_
     refine wp_false ha rfl (by kernel_rfl) ?_
     refine wp_skip ?_
     refine block_normal ?_
     refine then_normal ?_
     refine wp_region_lit ?_
     refine zv (.int .i64 ((j : Nat) : Int)) ha ?_
     refine zzw (.int .i64 ((j + 1 : Nat) : Int)) zar ?_
     refine zzv (.int .i64 ((j + 1 : Nat) : Int)) ?_; clear ha; intro a ha
     refine zn2 ?_
     replace s := (s.at_ (j := 2) rfl).at_ (j := 2) rfl
     replace s := s.k2_1
     exact ⟨j + 1, (show a0.l.length - (j + 1) < a0.l.length - j by omega), (Has.cons ha (by kernel_rfl) (by kernel_rfl) (Has.cons ha (by kernel_rfl) (by kernel_rfl) (Has.cons ha (by kernel_rfl) (by kernel_rfl) (Has.cons ha (by kernel_rfl) (by kernel_rfl) (Has.cons ha (by kernel_rfl) (by kernel_rfl) (Has.nil ha)))))), s, (show j + 1 ≤ a0.l.length by omega), by rw [map_take1 hd, List.any_append, hp.2, Bool.false_or]; simp only [List.any_cons, List.any_nil, Bool.or_false]; exact hnd⟩
    rw [hb] at ha; skip
    have ht5 : d.t.op = (5 : Int) := by simpa using hb
    refine zp ha ?_
    iterate 3 refine zzp ?_
    refine zzv (.bool false) ?_
    refine zzv (.bool false) ?_
    refine zzw (.bool true) (run_known (show (d.t.op == (5 : Int)) = true from beq_iff_eq.2 (by omega)) (by kernel_rfl)) ?_
    refine zzv (.bool true) ?_
    refine zzv (.string (str w0.t.key)) ?_
    refine zzv (.pointer (some ⟨g3, 3, none⟩)) ?_
    refine zzv (.pointer (some ⟨g3, 3, none⟩)) ?_
    refine zzw (.string (str d.t.frm)) (zl1 0 3) ?_
    refine zzw (.bool (decide (d.t.frm ≤ w0.t.key))) (run_sgeq (p := w0.t.key) (q := d.t.frm) rfl (by kernel_rfl) (by kernel_rfl) _) ?_
    refine zzv (.bool (decide (d.t.frm ≤ w0.t.key))) ?_
    refine zzv (.bool (decide (d.t.frm ≤ w0.t.key))) ?_; clear ha; intro a ha
    rcases Bool.eq_false_or_eq_true (decide (d.t.frm ≤ w0.t.key)) with hb | hb
    ·
     rw [hb] at ha; replace hb : (d.t.frm ≤ w0.t.key) := of_decide_eq_true hb
     have ht6 := hb
     refine zv (.string (str w0.t.key)) ha ?_
     refine zzv (.pointer (some ⟨g3, 3, none⟩)) ?_
     refine zzv (.pointer (some ⟨g3, 4, none⟩)) ?_
     refine zzw (.string (str d.t.to)) (zl1 0 4) ?_
     refine zzw (.bool (decide (w0.t.key < d.t.to))) (run_slss (p := w0.t.key) (q := d.t.to) rfl (by kernel_rfl) (by kernel_rfl) _) ?_
     refine zzv (.bool (decide (w0.t.key < d.t.to))) ?_
     refine zzv (.bool (decide (w0.t.key < d.t.to))) ?_; clear ha; intro a ha
     refine zn2 ?_
     refine zzh (decide (w0.t.key < d.t.to)) ha ?_ ?_ <;> intro hb
     ·
      rw [hb] at ha; replace hb : (w0.t.key < d.t.to) := of_decide_eq_true hb
      have ht7 := hb
      have hh : hits d.t w0.t = true := by unfold hits; rw [if_pos (by omega)]; unfold hasS; rw [decide_eq_true ht6, decide_eq_true ht7]; rfl
      have hyes : touchL (a0.l.map (·.t)) (b.l.map (·.t)) = true := List.any_eq_true.2 ⟨w0.t, List.mem_map.2 ⟨w0, List.mem_of_getElem? hw0, rfl⟩, by rw [Bool.and_eq_true]; exact ⟨by simp only [Bool.or_eq_true, decide_eq_true_eq]; omega, List.any_eq_true.2 ⟨d.t, List.mem_map.2 ⟨d, List.mem_of_getElem? hd, rfl⟩, hh⟩⟩⟩
      refine zn1 ?_
      refine zv (.bool true) ha ?_; clear ha; intro a ha
      refine zn2 ?_
      refine wp_ret ?_
      refine block_ret ?_
      refine then_ret ?_
      refine then_ret ?_
      refine block_ret ?_
      refine block_ret ?_
      refine then_ret ?_
      refine then_ret ?_
      refine block_ret ?_
      refine then_ret ?_
      refine zzr (v := .bool true) ha ?_
      replace s := s.tail.tail.tail
      replace s : St W (L) w := s
      exact ⟨by rw [hyes], s⟩
     rw [hb] at ha; replace hb : ¬ (w0.t.key < d.t.to) := of_decide_eq_false hb
     have ht7 := hb
     have hnd : hits d.t w0.t = false := by unfold hits; rw [if_pos (by omega)]; unfold hasS; rw [decide_eq_false ht7, Bool.and_false]
     refine wp_skip ?_
     refine block_normal ?_
     refine then_normal ?_
     refine wp_region_lit ?_
     refine zv (.int .i64 ((j : Nat) : Int)) ha ?_
     refine zzw (.int .i64 ((j + 1 : Nat) : Int)) zar ?_
     refine zzv (.int .i64 ((j + 1 : Nat) : Int)) ?_; clear ha; intro a ha
     refine zn2 ?_
     replace s := (s.at_ (j := 2) rfl).at_ (j := 2) rfl
     replace s := s.k2_1
     exact ⟨j + 1, (show a0.l.length - (j + 1) < a0.l.length - j by omega), (Has.cons ha (by kernel_rfl) (by kernel_rfl) (Has.cons ha (by kernel_rfl) (by kernel_rfl) (Has.cons ha (by kernel_rfl) (by kernel_rfl) (Has.cons ha (by kernel_rfl) (by kernel_rfl) (Has.cons ha (by kernel_rfl) (by kernel_rfl) (Has.nil ha)))))), s, (show j + 1 ≤ a0.l.length by omega), by rw [map_take1 hd, List.any_append, hp.2, Bool.false_or]; simp only [List.any_cons, List.any_nil, Bool.or_false]; exact hnd⟩
    rw [hb] at ha; replace hb : ¬ (d.t.frm ≤ w0.t.key) := of_decide_eq_false hb
    have ht6 := hb
    have hnd : hits d.t w0.t = false := by unfold hits; rw [if_pos (by omega)]; unfold hasS; rw [decide_eq_false ht6, Bool.false_and]
    refine zp ha ?_
    iterate 4 refine zzp ?_
    refine zzv (.bool false) ?_
    refine zzv (.bool false) ?_; clear ha; intro a ha
    refine zn2 ?_
    refine wp_false ha rfl (by kernel_rfl) ?_
    refine wp_skip ?_
    refine block_normal ?_
    refine then_normal ?_
    refine wp_region_lit ?_
    refine zv (.int .i64 ((j : Nat) : Int)) ha ?_
    refine zzw (.int .i64 ((j + 1 : Nat) : Int)) zar ?_
    refine zzv (.int .i64 ((j + 1 : Nat) : Int)) ?_; clear ha; intro a ha
    refine zn2 ?_
    replace s := (s.at_ (j := 2) rfl).at_ (j := 2) rfl
    replace s := s.k2_1
    exact ⟨j + 1, (show a0.l.length - (j + 1) < a0.l.length - j by omega), (Has.cons ha (by kernel_rfl) (by kernel_rfl) (Has.cons ha (by kernel_rfl) (by kernel_rfl) (Has.cons ha (by kernel_rfl) (by kernel_rfl) (Has.cons ha (by kernel_rfl) (by kernel_rfl) (Has.cons ha (by kernel_rfl) (by kernel_rfl) (Has.nil ha)))))), s, (show j + 1 ≤ a0.l.length by omega), by rw [map_take1 hd, List.any_append, hp.2, Bool.false_or]; simp only [List.any_cons, List.any_nil, Bool.or_false]; exact hnd⟩
   rw [hb] at ha; replace hb : ¬ (((j : Nat) : Int) < ((a0.l.length : Nat) : Int)) := of_decide_eq_false hb
   have ht3 := hb
   have hnw : ((decide (w0.t.op = 3) || decide (w0.t.op = 4)) && (a0.l.map (·.t)).any fun d => hits d w0.t) = false := by have h2 := hp.2; rw [List.take_of_length_le (by omega)] at h2; rw [h2, Bool.and_false]
   replace hp := hp1
   refine wp_exit ?_
   refine then_exit ?_
   refine then_exit ?_
   refine block_hit ?_
   refine block_normal ?_
   refine then_normal ?_
   refine wp_region_lit ?_
   refine zv (.int .i64 ((k : Nat) : Int)) ha ?_
   refine zzw (.int .i64 ((k + 1 : Nat) : Int)) zar ?_
   refine zzv (.int .i64 ((k + 1 : Nat) : Int)) ?_; clear ha; intro a ha
   refine zn2 ?_
   exact ⟨k + 1, (show b.l.length - (k + 1) < b.l.length - k by omega), (Has.cons ha (by kernel_rfl) (by kernel_rfl) (Has.cons ha (by kernel_rfl) (by kernel_rfl) (Has.cons ha (by kernel_rfl) (by kernel_rfl) (Has.nil ha)))), s, (show k + 1 ≤ b.l.length by omega), by rw [map_take1 hw0, touch_snoc, hp.2, Bool.false_or]; exact hnw⟩
  rw [hb] at ha; replace hb := zbq hb
  have ht1 := hb
  have hw34 : w0.t.op = 3 ∨ w0.t.op = 4 := .inl hb
  refine zp ha ?_
  iterate 6 refine zzp ?_
  refine zzv (.bool false) ?_; clear ha; intro a ha
  refine zn2 ?_
  refine wp_false ha rfl (by kernel_rfl) ?_
  refine wp_skip ?_
  refine then_normal ?_
  refine zn1 ?_
  refine zv (.pointer (some ⟨g2, 3, none⟩)) ha ?_
  refine zzw (.slice b.A b.l.length b.c) (zl1 1 3) ?_
  refine zzv (.int .i64 ((k : Nat) : Int)) ?_
  refine zzw (.pointer (some (bd.add (k * 7)))) (run_indexAddr' (kd := .i64) (i := ((k : Nat) : Int)) (n := b.l.length) (c := b.c) k rfl Tryz.underlying95 Tryz.sizeOf99 (by rw [← hbd]; kernel_rfl) (by kernel_rfl) rfl (by first | assumption | omega) _) ?_
  refine zzw (.pointer (some (bd.add (k * 7 + 1)))) (zfa 9) ?_
  refine zzw (.string (str w0.t.key)) (zla (k * 7 + 1) ((hbd ▸ (hrb _ s.sat.tail.tail).1)) (by rw [dvs_at hw0 (by omega)]; rfl)) ?_
  refine zzv (.string (str w0.t.key)) ?_; clear ha; intro a ha
  refine zn4 ?_
  refine zv (.int .i64 0) ha ?_; clear ha; intro a ha
  refine zn2 ?_
  refine wp_block ?_
  have hp1 := hp
  refine wp_loopG (G := Nat) (fun j a w => Has a 84 [(2, .pointer (some ⟨g1, 0, none⟩)), (3, .pointer (some ⟨g2, 0, none⟩)), (5, .int .i64 ((k : Nat) : Int)), (6, .string (str w0.t.key)), (7, .int .i64 ((j : Nat) : Int))] ∧ St W (.blk g1 [.int .i64 a0.id, .int .i64 a0.wall, .int .i64 a0.logic, .slice a0.A a0.l.length a0.c] 97 :: .blk g2 [.int .i64 b.id, .int .i64 b.wall, .int .i64 b.logic, .slice b.A b.l.length b.c] 97 :: L) w ∧ (j ≤ a0.l.length ∧ (((a0.l.take j).map (·.t)).any fun d => hits d w0.t) = false)) (fun j => a0.l.length - j) 0 ?_ ?_
  ·
   exact ⟨(Has.cons ha (by kernel_rfl) (by kernel_rfl) (Has.cons ha (by kernel_rfl) (by kernel_rfl) (Has.cons ha (by kernel_rfl) (by kernel_rfl) (Has.cons ha (by kernel_rfl) (by kernel_rfl) (Has.cons ha (by kernel_rfl) (by kernel_rfl) (Has.nil ha)))))), s, ⟨Nat.zero_le _, rfl⟩⟩
  clear ha s; rintro j a w ⟨ha, s, hp⟩
  refine wp_seq ?_
  refine zn1 ?_
  refine zv (.int .i64 ((j : Nat) : Int)) ha ?_
  refine zzv (.pointer (some ⟨g1, 3, none⟩)) ?_
  refine zzw (.slice a0.A a0.l.length a0.c) (zl1 0 3) ?_
  refine zzv (.int .i64 ((a0.l.length : Nat) : Int)) ?_
  refine zzv (.bool (decide (((j : Nat) : Int) < ((a0.l.length : Nat) : Int)))) ?_; clear ha; intro a ha
  refine zn2 ?_
  refine zzh (decide (((j : Nat) : Int) < ((a0.l.length : Nat) : Int))) ha ?_ ?_ <;> intro hb
  ·
   rw [hb] at ha; replace hb : (((j : Nat) : Int) < ((a0.l.length : Nat) : Int)) := of_decide_eq_true hb
   have ht2 := hb
   obtain ⟨d, hd⟩ : ∃ d, a0.l[j]? = some d := ⟨_, List.getElem?_eq_getElem (by omega)⟩
   obtain ⟨aa, haa⟩ : ∃ aa, a0.A = some aa := Reads.addr (hra _ s.sat.tail.tail).1 (by omega)
   refine wp_skip ?_
   refine then_normal ?_
   refine wp_seq ?_
   refine wp_block ?_
   refine zn1 ?_
   refine zv (.pointer (some ⟨g1, 3, none⟩)) ha ?_
   refine zzw (.slice a0.A a0.l.length a0.c) (zl1 0 3) ?_
   refine zzv (.int .i64 ((j : Nat) : Int)) ?_
   refine zzw (.pointer (some (aa.add (j * 7)))) (run_indexAddr' (kd := .i64) (i := ((j : Nat) : Int)) (n := a0.l.length) (c := a0.c) j rfl Tryz.underlying95 Tryz.sizeOf99 (by rw [← haa]; kernel_rfl) (by kernel_rfl) rfl (by first | assumption | omega) _) ?_
   refine zzw (.agg #[.int .i64 d.t.op, .string (str d.t.key), .string (str d.t.val), .string (str d.t.frm), .string (str d.t.to), .bool d.t.is, .slice d.A d.t.rows.length d.c]) (run_loadAtN (i := j * 7) [.int .i64 d.t.op, .string (str d.t.key), .string (str d.t.val), .string (str d.t.frm), .string (str d.t.to), .bool d.t.is, .slice d.A d.t.rows.length d.c] ((haa ▸ (hra _ s.sat.tail.tail).1)) rfl (by kernel_rfl) Tryz.isAgg99 Tryz.sizeOf99 (fun q_ hq_ => dvs_at hd hq_) rfl) ?_; clear ha; intro a ha
   refine zze ha (ex_alloc [.int .i64 0, .string (str []), .string (str []), .string (str []), .string (str []), .bool false, .slice none 0 0] s rfl (Tryz.zeroValue99 _) (by kernel_rfl)) ?_
   clear ha; rintro _ w a ⟨g4, rfl, s⟩ ha
   refine zzd ha (ex_store (of_ := 0) 0 [.int .i64 d.t.op, .string (str d.t.key), .string (str d.t.val), .string (str d.t.frm), .string (str d.t.to), .bool d.t.is, .slice d.A d.t.rows.length d.c] s rfl rfl (by kernel_rfl) (by kernel_rfl) (Tryz.sizeOf99 _) rfl (by simp [Value.oneCell']) (Nat.le_of_ble_eq_true rfl)) ?_
   clear ha; rintro w a s ha
   dsimp only [List.set, putAt] at s
   refine zn4 ?_
   refine zv (.pointer (some ⟨g4, 0, none⟩)) ha ?_
   refine zzw (.int .i64 d.t.op) (zl1 0 0) ?_
   refine zzv (.bool (d.t.op == (2 : Int))) ?_
   refine zzv (.bool (d.t.op == (2 : Int))) ?_; clear ha; intro a ha
   rcases Bool.eq_false_or_eq_true (d.t.op == (2 : Int)) with hb | hb
   ·
    rw [hb] at ha; replace hb := eq_of_beq hb
    have ht3 := hb
    refine zp ha ?_
    iterate 2 refine zzp ?_
    refine zzv (.bool true) ?_
    refine zzv (.bool true) ?_; clear ha; intro a ha
    refine zn4 ?_
    refine zv (.bool true) ha ?_
    refine zzv (.bool false) ?_
    refine zzv (.bool false) ?_
    iterate 4 refine zzp ?_
    refine zzv (.bool false) ?_
    refine zzv (.bool false) ?_
    refine zzv (.bool true) ?_
    refine zzv (.bool true) ?_
    refine zzv (.string (str w0.t.key)) ?_
    refine zzv (.pointer (some ⟨g4, 3, none⟩)) ?_
    refine zzv (.pointer (some ⟨g4, 3, none⟩)) ?_
    refine zzw (.string (str d.t.frm)) (zl1 0 3) ?_
    refine zzw (.bool (decide (d.t.frm ≤ w0.t.key))) (run_sgeq (p := w0.t.key) (q := d.t.frm) rfl (by kernel_rfl) (by kernel_rfl) _) ?_
    refine zzv (.bool (decide (d.t.frm ≤ w0.t.key))) ?_
    refine zzv (.bool (decide (d.t.frm ≤ w0.t.key))) ?_; clear ha; intro a ha
    rcases Bool.eq_false_or_eq_true (decide (d.t.frm ≤ w0.t.key)) with hb | hb
    ·
     rw [hb] at ha; replace hb : (d.t.frm ≤ w0.t.key) := of_decide_eq_true hb
     have ht4 := hb
     refine zv (.string (str w0.t.key)) ha ?_
     refine zzv (.pointer (some ⟨g4, 3, none⟩)) ?_
     refine zzv (.pointer (some ⟨g4, 4, none⟩)) ?_
     refine zzw (.string (str d.t.to)) (zl1 0 4) ?_
     refine zzw (.bool (decide (w0.t.key < d.t.to))) (run_slss (p := w0.t.key) (q := d.t.to) rfl (by kernel_rfl) (by kernel_rfl) _) ?_
     refine zzv (.bool (decide (w0.t.key < d.t.to))) ?_
     refine zzv (.bool (decide (w0.t.key < d.t.to))) ?_; clear ha; intro a ha
     refine zn2 ?_
     refine zzh (decide (w0.t.key < d.t.to)) ha ?_ ?_ <;> intro hb
     ·
      rw [hb] at ha; replace hb : (w0.t.key < d.t.to) := of_decide_eq_true hb
      have ht5 := hb
      have hh : hits d.t w0.t = true := by unfold hits; rw [if_pos (by omega)]; unfold hasS; rw [decide_eq_true ht4, decide_eq_true ht5]; rfl
      have hyes : touchL (a0.l.map (·.t)) (b.l.map (·.t)) = true := List.any_eq_true.2 ⟨w0.t, List.mem_map.2 ⟨w0, List.mem_of_getElem? hw0, rfl⟩, by rw [Bool.and_eq_true]; exact ⟨by simp only [Bool.or_eq_true, decide_eq_true_eq]; omega, List.any_eq_true.2 ⟨d.t, List.mem_map.2 ⟨d, List.mem_of_getElem? hd, rfl⟩, hh⟩⟩⟩
      refine zn1 ?_
      refine zv (.bool true) ha ?_; clear ha; intro a ha
      refine zn2 ?_
      refine wp_ret ?_
      refine block_ret ?_
      refine then_ret ?_
      refine then_ret ?_
      refine block_ret ?_
      refine block_ret ?_
      refine then_ret ?_
      refine then_ret ?_
      refine block_ret ?_
      refine then_ret ?_
      refine zzr (v := .bool true) ha ?_
      replace s := s.tail.tail.tail
      replace s : St W (L) w := s
      exact ⟨by rw [hyes], s⟩
     rw [hb] at ha; replace hb : ¬ (w0.t.key < d.t.to) := of_decide_eq_false hb
     have ht5 := hb
     have hnd : hits d.t w0.t = false := by unfold hits; rw [if_pos (by omega)]; unfold hasS; rw [decide_eq_false ht5, Bool.and_false]
     refine wp_skip ?_
     refine block_normal ?_
     refine then_normal ?_
     refine wp_region_lit ?_
     refine zv (.int .i64 ((j : Nat) : Int)) ha ?_
     refine zzw (.int .i64 ((j + 1 : Nat) : Int)) zar ?_
     refine zzv (.int .i64 ((j + 1 : Nat) : Int)) ?_; clear ha; intro a ha
     refine zn2 ?_
     replace s := (s.at_ (j := 2) rfl).at_ (j := 2) rfl
     replace s := s.k2_1
     exact ⟨j + 1, (show a0.l.length - (j + 1) < a0.l.length - j by omega), (Has.cons ha (by kernel_rfl) (by kernel_rfl) (Has.cons ha (by kernel_rfl) (by kernel_rfl) (Has.cons ha (by kernel_rfl) (by kernel_rfl) (Has.cons ha (by kernel_rfl) (by kernel_rfl) (Has.cons ha (by kernel_rfl) (by kernel_rfl) (Has.nil ha)))))), s, (show j + 1 ≤ a0.l.length by omega), by rw [map_take1 hd, List.any_append, hp.2, Bool.false_or]; simp only [List.any_cons, List.any_nil, Bool.or_false]; exact hnd⟩
    rw [hb] at ha; replace hb : ¬ (d.t.frm ≤ w0.t.key) := of_decide_eq_false hb
    have ht4 := hb
    have hnd : hits d.t w0.t = false := by unfold hits; rw [if_pos (by omega)]; unfold hasS; rw [decide_eq_false ht4, Bool.false_and]
    refine zp ha ?_
    iterate 4 refine zzp ?_
    refine zzv (.bool false) ?_
    refine zzv (.bool false) ?_; clear ha; intro a ha
    refine zn2 ?_
    refine wp_false ha rfl (by kernel_rfl) ?_
    refine wp_skip ?_
    refine block_normal ?_
    refine then_normal ?_
    refine wp_region_lit ?_
    refine zv (.int .i64 ((j : Nat) : Int)) ha ?_
    refine zzw (.int .i64 ((j + 1 : Nat) : Int)) zar ?_
    refine zzv (.int .i64 ((j + 1 : Nat) : Int)) ?_; clear ha; intro a ha
    refine zn2 ?_
    replace s := (s.at_ (j := 2) rfl).at_ (j := 2) rfl
    replace s := s.k2_1
    exact ⟨j + 1, (show a0.l.length - (j + 1) < a0.l.length - j by omega), (Has.cons ha (by kernel_rfl) (by kernel_rfl) (Has.cons ha (by kernel_rfl) (by kernel_rfl) (Has.cons ha (by kernel_rfl) (by kernel_rfl) (Has.cons ha (by kernel_rfl) (by kernel_rfl) (Has.cons ha (by kernel_rfl) (by kernel_rfl) (Has.nil ha)))))), s, (show j + 1 ≤ a0.l.length by omega), by rw [map_take1 hd, List.any_append, hp.2, Bool.false_or]; simp only [List.any_cons, List.any_nil, Bool.or_false]; exact hnd⟩
   rw [hb] at ha; replace hb := ne_of_beq_false hb
   have ht3 := hb
   refine zv (.pointer (some ⟨g4, 0, none⟩)) ha ?_
   refine zzw (.int .i64 d.t.op) (zl1 0 0) ?_
   refine zzv (.bool (d.t.op == (5 : Int))) ?_
   refine zzv (.bool (d.t.op == (5 : Int))) ?_
   refine zzv (.bool (d.t.op == (5 : Int))) ?_; clear ha; intro a ha
   refine zn4 ?_
   refine zv (.bool (d.t.op == (5 : Int))) ha ?_
   refine zzv (.bool (!(d.t.op == (5 : Int)))) ?_
   refine zzv (.bool (!(d.t.op == (5 : Int)))) ?_; clear ha; intro a ha
   rcases Bool.eq_false_or_eq_true (!(d.t.op == (5 : Int))) with hb | hb
   ·
    rw [hb] at ha; skip
    have ht4 : d.t.op ≠ (5 : Int) := by simpa using hb
    refine zv (.pointer (some ⟨g4, 1, none⟩)) ha ?_
    refine zzw (.string (str d.t.key)) (zl1 0 1) ?_
    refine zzv (.string (str w0.t.key)) ?_
    refine zzw (.bool (decide (d.t.key = w0.t.key))) (run_seql (p := d.t.key) (q := w0.t.key) rfl (by kernel_rfl) (by kernel_rfl) _) ?_
    refine zzv (.bool (decide (d.t.key = w0.t.key))) ?_
    refine zzv (.bool (decide (d.t.key = w0.t.key))) ?_; clear ha; intro a ha
    rcases Bool.eq_false_or_eq_true (decide (d.t.key = w0.t.key)) with hb | hb
    ·
     rw [hb] at ha; replace hb : (d.t.key = w0.t.key) := of_decide_eq_true hb
     have ht5 := hb
     have hh : hits d.t w0.t = true := by unfold hits; rw [if_neg (by omega)]; exact decide_eq_true ht5
     have hyes : touchL (a0.l.map (·.t)) (b.l.map (·.t)) = true := List.any_eq_true.2 ⟨w0.t, List.mem_map.2 ⟨w0, List.mem_of_getElem? hw0, rfl⟩, by rw [Bool.and_eq_true]; exact ⟨by simp only [Bool.or_eq_true, decide_eq_true_eq]; omega, List.any_eq_true.2 ⟨d.t, List.mem_map.2 ⟨d, List.mem_of_getElem? hd, rfl⟩, hh⟩⟩⟩
     refine zp ha ?_
     iterate 14 refine zzp ?_
     refine zzv (.bool true) ?_; clear ha; intro a ha
     refine zn2 ?_
     refine wp_true ha rfl (by kernel_rfl) ?_
     refine zn1 ?_
     refine zv (.bool true) ha ?_; clear ha; intro a ha
     refine zn2 ?_
     refine wp_ret ?_
     refine block_ret ?_
     refine then_ret ?_
     refine then_ret ?_
     refine block_ret ?_
     refine block_ret ?_
     refine then_ret ?_
     refine then_ret ?_
     refine block_ret ?_
     refine then_ret ?_
     refine zzr (v := .bool true) ha ?_
     replace s := s.tail.tail.tail
     replace s : St W (L) w := s
     exact ⟨by rw [hyes], s⟩
    rw [hb] at ha; replace hb : ¬ (d.t.key = w0.t.key) := of_decide_eq_false hb
    have ht5 := hb
    have hnd : hits d.t w0.t = false := by unfold hits; rw [if_neg (by omega)]; exact decide_eq_false ht5
    refine zw (.bool false) ha (run_known (show (d.t.op == (5 : Int)) = false from beq_eq_false_iff_ne.2 (by omega)) (by kernel_rfl)) ?_
    refine zzv (.bool false) ?_
    iterate 5 refine zzp ?_
    refine zzv (.bool false) ?_
    refine zzv (.bool false) ?_
    iterate 5 refine zzp ?_
    refine zzv (.bool false) ?_
    refine zzv (.bool false) ?_; clear ha; intro a ha
    refine zn2 ?_
    refine wp_false ha rfl (by kernel_rfl) ?_
    refine wp_skip ?_
    refine block_normal ?_
    refine then_normal ?_
    refine wp_region_lit ?_
    refine zv (.int .i64 ((j : Nat) : Int)) ha ?_
    refine zzw (.int .i64 ((j + 1 : Nat) : Int)) zar ?_
    refine zzv (.int .i64 ((j + 1 : Nat) : Int)) ?_; clear ha; intro a ha
    refine zn2 ?_
    replace s := (s.at_ (j := 2) rfl).at_ (j := 2) rfl
    replace s := s.k2_1
    exact ⟨j + 1, (show a0.l.length - (j + 1) < a0.l.length - j by omega), (Has.cons ha (by kernel_rfl) (by kernel_rfl) (Has.cons ha (by kernel_rfl) (by kernel_rfl) (Has.cons ha (by kernel_rfl) (by kernel_rfl) (Has.cons ha (by kernel_rfl) (by kernel_rfl) (Has.cons ha (by kernel_rfl) (by kernel_rfl) (Has.nil ha)))))), s, (show j + 1 ≤ a0.l.length by omega), by rw [map_take1 hd, List.any_append, hp.2, Bool.false_or]; simp only [List.any_cons, List.any_nil, Bool.or_false]; exact hnd⟩
   rw [hb] at ha; skip
   have ht4 : d.t.op = (5 : Int) := by simpa using hb
   refine zp ha ?_
   iterate 3 refine zzp ?_
   refine zzv (.bool false) ?_
   refine zzv (.bool false) ?_
   refine zzw (.bool true) (run_known (show (d.t.op == (5 : Int)) = true from beq_iff_eq.2 (by omega)) (by kernel_rfl)) ?_
   refine zzv (.bool true) ?_
   refine zzv (.string (str w0.t.key)) ?_
   refine zzv (.pointer (some ⟨g4, 3, none⟩)) ?_
   refine zzv (.pointer (some ⟨g4, 3, none⟩)) ?_
   refine zzw (.string (str d.t.frm)) (zl1 0 3) ?_
   refine zzw (.bool (decide (d.t.frm ≤ w0.t.key))) (run_sgeq (p := w0.t.key) (q := d.t.frm) rfl (by kernel_rfl) (by kernel_rfl) _) ?_
   refine zzv (.bool (decide (d.t.frm ≤ w0.t.key))) ?_
   refine zzv (.bool (decide (d.t.frm ≤ w0.t.key))) ?_; clear ha; intro a ha
   rcases Bool.eq_false_or_eq_true (decide (d.t.frm ≤ w0.t.key)) with hb | hb
   ·
    rw [hb] at ha; replace hb : (d.t.frm ≤ w0.t.key) := of_decide_eq_true hb
    have ht5 := hb
    refine zv (.string (str w0.t.key)) ha ?_
    refine zzv (.pointer (some ⟨g4, 3, none⟩)) ?_
    refine zzv (.pointer (some ⟨g4, 4, none⟩)) ?_
    refine zzw (.string (str d.t.to)) (zl1 0 4) ?_
    refine zzw (.bool (decide (w0.t.key < d.t.to))) (run_slss (p := w0.t.key) (q := d.t.to) rfl (by kernel_rfl) (by kernel_rfl) _) ?_
    refine zzv (.bool (decide (w0.t.key < d.t.to))) ?_
    refine zzv (.bool (decide (w0.t.key < d.t.to))) ?_; clear ha; intro a ha
    refine zn2 ?_
    refine zzh (decide (w0.t.key < d.t.to)) ha ?_ ?_ <;> intro hb
    ·
     rw [hb] at ha; replace hb : (w0.t.key < d.t.to) := of_decide_eq_true hb
     have ht6 := hb
     have hh : hits d.t w0.t = true := by unfold hits; rw [if_pos (by omega)]; unfold hasS; rw [decide_eq_true ht5, decide_eq_true ht6]; rfl
     have hyes : touchL (a0.l.map (·.t)) (b.l.map (·.t)) = true := List.any_eq_true.2 ⟨w0.t, List.mem_map.2 ⟨w0, List.mem_of_getElem? hw0, rfl⟩, by rw [Bool.and_eq_true]; exact ⟨by simp only [Bool.or_eq_true, decide_eq_true_eq]; omega, List.any_eq_true.2 ⟨d.t, List.mem_map.2 ⟨d, List.mem_of_getElem? hd, rfl⟩, hh⟩⟩⟩
     refine zn1 ?_
     refine zv (.bool true) ha ?_; clear ha; intro a ha
     refine zn2 ?_
     refine wp_ret ?_
     refine block_ret ?_
     refine then_ret ?_
     refine then_ret ?_
     refine block_ret ?_
     refine block_ret ?_
     refine then_ret ?_
     refine then_ret ?_
     refine block_ret ?_
     refine then_ret ?_
     refine zzr (v := .bool true) ha ?_
     replace s := s.tail.tail.tail
     replace s : St W (L) w := s
     exact ⟨by rw [hyes], s⟩
    rw [hb] at ha; replace hb : ¬ (w0.t.key < d.t.to) := of_decide_eq_false hb
    have ht6 := hb
    have hnd : hits d.t w0.t = false := by unfold hits; rw [if_pos (by omega)]; unfold hasS; rw [decide_eq_false ht6, Bool.and_false]
    refine wp_skip ?_
    refine block_normal ?_
    refine then_normal ?_
    refine wp_region_lit ?_
    refine zv (.int .i64 ((j : Nat) : Int)) ha ?_
    refine zzw (.int .i64 ((j + 1 : Nat) : Int)) zar ?_
    refine zzv (.int .i64 ((j + 1 : Nat) : Int)) ?_; clear ha; intro a ha
    refine zn2 ?_
    replace s := (s.at_ (j := 2) rfl).at_ (j := 2) rfl
    replace s := s.k2_1
    exact ⟨j + 1, (show a0.l.length - (j + 1) < a0.l.length - j by omega), (Has.cons ha (by kernel_rfl) (by kernel_rfl) (Has.cons ha (by kernel_rfl) (by kernel_rfl) (Has.cons ha (by kernel_rfl) (by kernel_rfl) (Has.cons ha (by kernel_rfl) (by kernel_rfl) (Has.cons ha (by kernel_rfl) (by kernel_rfl) (Has.nil ha)))))), s, (show j + 1 ≤ a0.l.length by omega), by rw [map_take1 hd, List.any_append, hp.2, Bool.false_or]; simp only [List.any_cons, List.any_nil, Bool.or_false]; exact hnd⟩
   rw [hb] at ha; replace hb : ¬ (d.t.frm ≤ w0.t.key) := of_decide_eq_false hb
   have ht5 := hb
   have hnd : hits d.t w0.t = false := by unfold hits; rw [if_pos (by omega)]; unfold hasS; rw [decide_eq_false ht5, Bool.false_and]
   refine zp ha ?_
   iterate 4 refine zzp ?_
   refine zzv (.bool false) ?_
   refine zzv (.bool false) ?_; clear ha; intro a ha
   refine zn2 ?_
   refine wp_false ha rfl (by kernel_rfl) ?_
   refine wp_skip ?_
   refine block_normal ?_
   refine then_normal ?_
   refine wp_region_lit ?_
   refine zv (.int .i64 ((j : Nat) : Int)) ha ?_
   refine zzw (.int .i64 ((j + 1 : Nat) : Int)) zar ?_
   refine zzv (.int .i64 ((j + 1 : Nat) : Int)) ?_; clear ha; intro a ha
   refine zn2 ?_
   replace s := (s.at_ (j := 2) rfl).at_ (j := 2) rfl
   replace s := s.k2_1
   exact ⟨j + 1, (show a0.l.length - (j + 1) < a0.l.length - j by omega), (Has.cons ha (by kernel_rfl) (by kernel_rfl) (Has.cons ha (by kernel_rfl) (by kernel_rfl) (Has.cons ha (by kernel_rfl) (by kernel_rfl) (Has.cons ha (by kernel_rfl) (by kernel_rfl) (Has.cons ha (by kernel_rfl) (by kernel_rfl) (Has.nil ha)))))), s, (show j + 1 ≤ a0.l.length by omega), by rw [map_take1 hd, List.any_append, hp.2, Bool.false_or]; simp only [List.any_cons, List.any_nil, Bool.or_false]; exact hnd⟩
  rw [hb] at ha; replace hb : ¬ (((j : Nat) : Int) < ((a0.l.length : Nat) : Int)) := of_decide_eq_false hb
  have ht2 := hb
  have hnw : ((decide (w0.t.op = 3) || decide (w0.t.op = 4)) && (a0.l.map (·.t)).any fun d => hits d w0.t) = false := by have h2 := hp.2; rw [List.take_of_length_le (by omega)] at h2; rw [h2, Bool.and_false]
  replace hp := hp1
  refine wp_exit ?_
  refine then_exit ?_
  refine then_exit ?_
  refine block_hit ?_
  refine block_normal ?_
  refine then_normal ?_
  refine wp_region_lit ?_
  refine zv (.int .i64 ((k : Nat) : Int)) ha ?_
  refine zzw (.int .i64 ((k + 1 : Nat) : Int)) zar ?_
  refine zzv (.int .i64 ((k + 1 : Nat) : Int)) ?_; clear ha; intro a ha
  refine zn2 ?_
  exact ⟨k + 1, (show b.l.length - (k + 1) < b.l.length - k by omega), (Has.cons ha (by kernel_rfl) (by kernel_rfl) (Has.cons ha (by kernel_rfl) (by kernel_rfl) (Has.cons ha (by kernel_rfl) (by kernel_rfl) (Has.nil ha)))), s, (show k + 1 ≤ b.l.length by omega), by rw [map_take1 hw0, touch_snoc, hp.2, Bool.false_or]; exact hnw⟩
 rw [hb] at ha; replace hb : ¬ (((k : Nat) : Int) < ((b.l.length : Nat) : Int)) := of_decide_eq_false hb
 have ht0 := hb
 refine wp_exit ?_
 refine then_exit ?_
 refine then_exit ?_
 refine block_hit ?_
 refine then_normal ?_
 refine zn1 ?_
 refine zv (.bool false) ha ?_; clear ha; intro a ha
 refine zn2 ?_
 refine wp_ret ?_
 refine zzr (v := .bool false) ha ?_
 replace s := s.tail.tail
 replace s : St W (L) w := s
 refine ⟨?_, s⟩
 have h2 := hp.2
 rw [List.take_of_length_le (by omega)] at h2
 rw [h2]

end Go.Proofs.YtfcbjcohepkkfaaGreat.B
