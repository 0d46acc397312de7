import Derived.Test.YtfcbjcohepkkfaaGreatJ5
import Derived.Test.YtfcbjcohepkkfaaGreatSepY
namespace Go.Proofs.YtfcbjcohepkkfaaGreat.B
open Go.RowKit Go.Maps Go.Sort Go.Shelf Go.Proofs.YtfcbjcohepkkfaaGreat.Sep Go.Proofs.YtfcbjcohepkkfaaGreat.P
set_option linter.unusedVariables false
set_option linter.unusedSimpArgs false
/-! ### touches -/
def hasS (f t k : K) : Bool := decide (f ≤ k) && decide (k < t)
def hits (d w : Td) : Bool := if d.op = 2 ∨ d.op = 5 then hasS d.frm d.to w.key else decide (d.key = w.key)
def touchL (a : List Td) (b : List Td) : Bool := b.any fun w => (decide (w.op = 3) || decide (w.op = 4)) && a.any fun d => hits d w
theorem touch_snoc (a b : List Td) (w : Td) : touchL a (b ++ [w]) = (touchL a b || ((decide (w.op = 3) || decide (w.op = 4)) && a.any fun d => hits d w)) := by simp [touchL]
theorem map_take1 {l : List Dd} {j : Nat} {x : Dd} (h : l[j]? = some x) : (l.take (j + 1)).map (·.t) = (l.take j).map (·.t) ++ [x.t] := by rw [take_snoc h]; simp

theorem hasS_any (W : World) (L : List Chunk) (w : World) (p q k : K) (s : St W L w) :
  Calls Tryz.prog 57 #[.agg #[.string (str p), .string (str q)], .string (str k)] w fun e w' => e = .returned (.bool (hasS p q k)) ∧ St W L w' := by
 refine enter_args (l := [.agg #[.string (str p), .string (str q)], .string (str k)]) Tryz.func57 rfl rfl (Nat.le_of_ble_eq_true rfl) ?_
 intro a ha; replace ha : Has a 15 [(0, .agg #[.string (str p), .string (str q)]), (1, .string (str k))] := ha
 refine zn1 ?_
 refine zze ha (ex_box [.string (str p), .string (str q)] s rfl (by kernel_rfl)) ?_
 clear ha; rintro _ w a ⟨g1, rfl, s⟩ ha
 refine zv (.bool false) ha ?_; clear ha; intro a ha
 refine zn4 ?_
 refine zv (.pointer (some ⟨g1, 0, none⟩)) ha ?_
 refine zzw (.string (str p)) (zl1 0 0) ?_
 refine zzv (.string (str k)) ?_
 refine zzw (.bool (decide (p ≤ k))) (run_sleq (p := p) (q := k) rfl (by kernel_rfl) (by kernel_rfl) _) ?_
 refine zzv (.bool (decide (p ≤ k))) ?_; clear ha; intro a ha
 rcases Bool.eq_false_or_eq_true (decide (p ≤ k)) with hb | hb
 ·
  rw [hb] at ha; replace hb : (p ≤ k) := of_decide_eq_true hb
  refine zv (.string (str k)) ha ?_
  refine zzv (.pointer (some ⟨g1, 1, none⟩)) ?_
  refine zzw (.string (str q)) (zl1 0 1) ?_
  refine zzw (.bool (decide (k < q))) (run_slss (p := k) (q := q) rfl (by kernel_rfl) (by kernel_rfl) _) ?_
  refine zzv (.bool (decide (k < q))) ?_
  refine zzv (.bool (decide (k < q))) ?_; clear ha; intro a ha
  refine zn2 ?_
  refine wp_ret ?_
  refine zzr (v := .bool (decide (k < q))) ha ?_
  replace s := s.tail
  replace s : St W (L) w := s
  refine ⟨?_, s⟩
  congr 2
  unfold hasS
  first | (simp [*]; done) | (simp_all; done)
 rw [hb] at ha; replace hb : ¬ (p ≤ k) := of_decide_eq_false hb
 refine zp ha ?_
 iterate 3 refine zzp ?_
 refine zzv (.bool false) ?_
 refine zzv (.bool false) ?_; clear ha; intro a ha
 refine zn2 ?_
 refine wp_ret ?_
 refine zzr (v := .bool false) ha ?_
 replace s := s.tail
 replace s : St W (L) w := s
 refine ⟨?_, s⟩
 congr 2
 unfold hasS
 first | (simp [*]; done) | (simp_all; done)

set_option maxHeartbeats 2000000 in
theorem touches_any (W : World) (L : List Chunk) (w : World) (a0 b : Dn) (hra : Knows L (DidsIn a0.A a0.l)) (hrb : Knows L (DidsIn b.A b.l)) (hna : Bl a0.l) (hnb : Bl b.l) (s : St W L w) :
  Calls Tryz.prog 41 #[.agg #[.int .i64 a0.id, .int .i64 a0.wall, .int .i64 a0.logic, .slice a0.A a0.l.length a0.c], .agg #[.int .i64 b.id, .int .i64 b.wall, .int .i64 b.logic, .slice b.A b.l.length b.c]] w fun e w' => e = .returned (.bool (touchL (a0.l.map (·.t)) (b.l.map (·.t)))) ∧ St W L w' := by
 have hla := hna.1
 have hlb := hnb.1
 refine enter_args (l := [.agg #[.int .i64 a0.id, .int .i64 a0.wall, .int .i64 a0.logic, .slice a0.A a0.l.length a0.c], .agg #[.int .i64 b.id, .int .i64 b.wall, .int .i64 b.logic, .slice b.A b.l.length b.c]]) Tryz.func41 rfl rfl (Nat.le_of_ble_eq_true rfl) ?_
 intro a ha; replace ha : Has a 48 [(0, .agg #[.int .i64 a0.id, .int .i64 a0.wall, .int .i64 a0.logic, .slice a0.A a0.l.length a0.c]), (1, .agg #[.int .i64 b.id, .int .i64 b.wall, .int .i64 b.logic, .slice b.A b.l.length b.c])] := ha
 refine zn1 ?_
 refine zze ha (ex_box [.int .i64 a0.id, .int .i64 a0.wall, .int .i64 a0.logic, .slice a0.A a0.l.length a0.c] s rfl (by kernel_rfl)) ?_
 clear ha; rintro _ w a ⟨g1, rfl, s⟩ ha
 refine zze ha (ex_box [.int .i64 b.id, .int .i64 b.wall, .int .i64 b.logic, .slice b.A b.l.length b.c] s rfl (by kernel_rfl)) ?_
 clear ha; rintro _ w a ⟨g2, rfl, s⟩ ha
 refine zv (.bool false) ha ?_; clear ha; intro a ha
 refine zn2 ?_
 refine wp_seq ?_
 refine zn1 ?_
 refine zv (.pointer (some ⟨g2, 3, none⟩)) ha ?_
 refine zzw (.slice b.A b.l.length b.c) (zl1 0 3) ?_
 refine zzv (.int .i64 ((b.l.length : Nat) : Int)) ?_
 refine zzv (.int .i64 0) ?_; clear ha; intro a ha
 refine zn2 ?_
 refine wp_block ?_
 replace s := s.at_ (j := 1) rfl
 dsimp only [List.eraseIdx] at s
 refine wp_loopG (G := Nat) (fun k a w => Has a 48 [(2, .pointer (some ⟨g1, 0, none⟩)), (3, .pointer (some ⟨g2, 0, none⟩)), (10, .slice b.A b.l.length b.c), (11, .int .i64 ((b.l.length : Nat) : Int)), (12, .int .i64 ((k : Nat) : Int))] ∧ St W (.blk g1 [.int .i64 a0.id, .int .i64 a0.wall, .int .i64 a0.logic, .slice a0.A a0.l.length a0.c] 77 :: .blk g2 [.int .i64 b.id, .int .i64 b.wall, .int .i64 b.logic, .slice b.A b.l.length b.c] 77 :: L) w ∧ (k ≤ b.l.length ∧ touchL (a0.l.map (·.t)) ((b.l.take k).map (·.t)) = false)) (fun k => b.l.length - k) 0 ?_ ?_
 ·
  exact ⟨(Has.cons ha (by kernel_rfl) (by kernel_rfl) (Has.cons ha (by kernel_rfl) (by kernel_rfl) (Has.cons ha (by kernel_rfl) (by kernel_rfl) (Has.cons ha (by kernel_rfl) (by kernel_rfl) (Has.cons ha (by kernel_rfl) (by kernel_rfl) (Has.nil ha)))))), s, ⟨Nat.zero_le _, rfl⟩⟩
 clear ha s; rintro k a w ⟨ha, s, hp⟩
 refine zn1 ?_
 refine zv (.bool (decide (((k : Nat) : Int) < ((b.l.length : Nat) : Int)))) ha ?_; clear ha; intro a ha
 refine zn2 ?_
 refine wp_seq ?_
 refine zzh (decide (((k : Nat) : Int) < ((b.l.length : Nat) : Int))) ha ?_ ?_ <;> intro hb
 ·
  rw [hb] at ha; replace hb : (((k : Nat) : Int) < ((b.l.length : Nat) : Int)) := of_decide_eq_true hb
  obtain ⟨w0, hw0⟩ : ∃ w0, b.l[k]? = some w0 := ⟨_, List.getElem?_eq_getElem (by omega)⟩
  obtain ⟨bd, hbd⟩ : ∃ bd, b.A = some bd := Reads.addr (hrb _ s.sat.tail.tail).1 (by omega)
  refine wp_skip ?_
  refine then_normal ?_
  refine wp_seq ?_
  refine wp_block ?_
  refine zn1 ?_
  refine zw (.pointer (some (bd.add (k * 7)))) ha (run_indexAddr' (kd := .i64) (i := ((k : Nat) : Int)) (n := b.l.length) (c := b.c) k rfl Tryz.underlying75 Tryz.sizeOf79 (by rw [← hbd]; kernel_rfl) (by kernel_rfl) rfl (by first | assumption | omega) _) ?_
  refine zzw (.agg #[.int .i64 w0.t.op, .string (str w0.t.key), .string (str w0.t.val), .string (str w0.t.frm), .string (str w0.t.to), .bool w0.t.is, .slice w0.A w0.t.rows.length w0.c]) (run_loadAtN (i := k * 7) [.int .i64 w0.t.op, .string (str w0.t.key), .string (str w0.t.val), .string (str w0.t.frm), .string (str w0.t.to), .bool w0.t.is, .slice w0.A w0.t.rows.length w0.c] ((hbd ▸ (hrb _ s.sat.tail.tail).1)) rfl (by kernel_rfl) Tryz.isAgg79 Tryz.sizeOf79 (fun q_ hq_ => dvs_at hw0 hq_) rfl) ?_; clear ha; intro a ha
  refine zze ha (ex_alloc [.int .i64 0, .string (str []), .string (str []), .string (str []), .string (str []), .bool false, .slice none 0 0] s rfl (Tryz.zeroValue79 _) (by kernel_rfl)) ?_
  clear ha; rintro _ w a ⟨g3, rfl, s⟩ ha
  refine zzd ha (ex_store (of_ := 0) 0 [.int .i64 w0.t.op, .string (str w0.t.key), .string (str w0.t.val), .string (str w0.t.frm), .string (str w0.t.to), .bool w0.t.is, .slice w0.A w0.t.rows.length w0.c] s rfl rfl (by kernel_rfl) (by kernel_rfl) (Tryz.sizeOf79 _) rfl (by simp [Value.oneCell']) (Nat.le_of_ble_eq_true rfl)) ?_
  clear ha; rintro w a s ha
  dsimp only [List.set, putAt] at s
  refine zn2 ?_
  refine wp_seq ?_
  refine zn1 ?_
  refine zv (.pointer (some ⟨g3, 0, none⟩)) ha ?_
  refine zzw (.int .i64 w0.t.op) (zl1 0 0) ?_
  refine zzv (.bool (w0.t.op != (3 : Int))) ?_
  refine zzv (.bool (w0.t.op != (3 : Int))) ?_; clear ha; intro a ha
  rcases Bool.eq_false_or_eq_true (w0.t.op != (3 : Int)) with hb | hb
  ·
   rw [hb] at ha; replace hb := zbn hb
   refine zv (.pointer (some ⟨g3, 0, none⟩)) ha ?_
   refine zzw (.int .i64 w0.t.op) (zl1 0 0) ?_
   refine zzv (.bool (w0.t.op != (4 : Int))) ?_
   refine zzv (.bool (w0.t.op != (4 : Int))) ?_; clear ha; intro a ha
   refine zn2 ?_
   refine zzh (w0.t.op != (4 : Int)) ha ?_ ?_ <;> intro hb
   ·
    rw [hb] at ha; replace hb := zbn hb
    have hnw : ((decide (w0.t.op = 3) || decide (w0.t.op = 4)) && (a0.l.map (·.t)).any fun d => hits d w0.t) = false := by rw [decide_eq_false (by omega), decide_eq_false (by omega)]; rfl
    refine wp_exit ?_
    refine then_exit ?_
    refine block_hit ?_
    refine then_normal ?_
    refine wp_region_lit ?_
    refine zw (.int .i64 ((k + 1 : Nat) : Int)) ha zar ?_
    refine zzv (.int .i64 ((k + 1 : Nat) : Int)) ?_; clear ha; intro a ha
    refine zn2 ?_
    replace s := (s.at_ (j := 2) rfl).at_ (j := 2) rfl
    replace s := s.k2_1
    exact ⟨k + 1, (show b.l.length - (k + 1) < b.l.length - k by omega), (Has.cons ha (by kernel_rfl) (by kernel_rfl) (Has.cons ha (by kernel_rfl) (by kernel_rfl) (Has.cons ha (by kernel_rfl) (by kernel_rfl) (Has.cons ha (by kernel_rfl) (by kernel_rfl) (Has.cons ha (by kernel_rfl) (by kernel_rfl) (Has.nil ha)))))), s, (show k + 1 ≤ b.l.length by omega), by rw [map_take1 hw0, touch_snoc, hp.2, Bool.false_or]; exact hnw⟩
   rw [hb] at ha; replace hb := zbq hb
   have hp1 := hp
   have hw34 : w0.t.op = 3 ∨ w0.t.op = 4 := .inr hb
   refine wp_skip ?_
   refine then_normal ?_
   refine zn1 ?_
   refine zv (.pointer (some ⟨g1, 3, none⟩)) ha ?_
   refine zzw (.slice a0.A a0.l.length a0.c) (zl1 1 3) ?_
   refine zzv (.int .i64 ((a0.l.length : Nat) : Int)) ?_
   refine zzv (.int .i64 0) ?_; clear ha; intro a ha
   refine zn2 ?_
   refine wp_block ?_
   refine wp_loopG (G := Nat) (fun j a w => Has a 48 [(2, .pointer (some ⟨g1, 0, none⟩)), (3, .pointer (some ⟨g2, 0, none⟩)), (6, .pointer (some ⟨g3, 0, none⟩)), (10, .slice b.A b.l.length b.c), (11, .int .i64 ((b.l.length : Nat) : Int)), (12, .int .i64 ((k : Nat) : Int)), (25, .slice a0.A a0.l.length a0.c), (26, .int .i64 ((a0.l.length : Nat) : Int)), (27, .int .i64 ((j : Nat) : Int))] ∧ St W (.blk g3 [.int .i64 w0.t.op, .string (str w0.t.key), .string (str w0.t.val), .string (str w0.t.frm), .string (str w0.t.to), .bool w0.t.is, .slice w0.A w0.t.rows.length w0.c] 79 :: .blk g1 [.int .i64 a0.id, .int .i64 a0.wall, .int .i64 a0.logic, .slice a0.A a0.l.length a0.c] 77 :: .blk g2 [.int .i64 b.id, .int .i64 b.wall, .int .i64 b.logic, .slice b.A b.l.length b.c] 77 :: L) w ∧ (j ≤ a0.l.length ∧ (((a0.l.take j).map (·.t)).any fun d => hits d w0.t) = false)) (fun j => a0.l.length - j) 0 ?_ ?_
   ·
    exact ⟨(Has.cons ha (by kernel_rfl) (by kernel_rfl) (Has.cons ha (by kernel_rfl) (by kernel_rfl) (Has.cons ha (by kernel_rfl) (by kernel_rfl) (Has.cons ha (by kernel_rfl) (by kernel_rfl) (Has.cons ha (by kernel_rfl) (by kernel_rfl) (Has.cons ha (by kernel_rfl) (by kernel_rfl) (Has.cons ha (by kernel_rfl) (by kernel_rfl) (Has.cons ha (by kernel_rfl) (by kernel_rfl) (Has.cons ha (by kernel_rfl) (by kernel_rfl) (Has.nil ha)))))))))), s, ⟨Nat.zero_le _, rfl⟩⟩
   clear ha s; rintro j a w ⟨ha, s, hp⟩
   refine zn1 ?_
   refine zv (.bool (decide (((j : Nat) : Int) < ((a0.l.length : Nat) : Int)))) ha ?_; clear ha; intro a ha
   refine zn2 ?_
   refine wp_seq ?_
   refine zzh (decide (((j : Nat) : Int) < ((a0.l.length : Nat) : Int))) ha ?_ ?_ <;> intro hb
   ·
    rw [hb] at ha; replace hb : (((j : Nat) : Int) < ((a0.l.length : Nat) : Int)) := of_decide_eq_true hb
    obtain ⟨d, hd⟩ : ∃ d, a0.l[j]? = some d := ⟨_, List.getElem?_eq_getElem (by omega)⟩
    obtain ⟨aa, haa⟩ : ∃ aa, a0.A = some aa := Reads.addr (hra _ s.sat.tail.tail.tail).1 (by omega)
    refine wp_skip ?_
    refine then_normal ?_
    refine wp_seq ?_
    refine wp_block ?_
    refine zn1 ?_
    refine zw (.pointer (some (aa.add (j * 7)))) ha (run_indexAddr' (kd := .i64) (i := ((j : Nat) : Int)) (n := a0.l.length) (c := a0.c) j rfl Tryz.underlying75 Tryz.sizeOf79 (by rw [← haa]; kernel_rfl) (by kernel_rfl) rfl (by first | assumption | omega) _) ?_
    refine zzw (.agg #[.int .i64 d.t.op, .string (str d.t.key), .string (str d.t.val), .string (str d.t.frm), .string (str d.t.to), .bool d.t.is, .slice d.A d.t.rows.length d.c]) (run_loadAtN (i := j * 7) [.int .i64 d.t.op, .string (str d.t.key), .string (str d.t.val), .string (str d.t.frm), .string (str d.t.to), .bool d.t.is, .slice d.A d.t.rows.length d.c] ((haa ▸ (hra _ s.sat.tail.tail.tail).1)) rfl (by kernel_rfl) Tryz.isAgg79 Tryz.sizeOf79 (fun q_ hq_ => dvs_at hd hq_) rfl) ?_; clear ha; intro a ha
    refine zze ha (ex_alloc [.int .i64 0, .string (str []), .string (str []), .string (str []), .string (str []), .bool false, .slice none 0 0] s rfl (Tryz.zeroValue79 _) (by kernel_rfl)) ?_
    clear ha; rintro _ w a ⟨g4, rfl, s⟩ ha
    refine zzd ha (ex_store (of_ := 0) 0 [.int .i64 d.t.op, .string (str d.t.key), .string (str d.t.val), .string (str d.t.frm), .string (str d.t.to), .bool d.t.is, .slice d.A d.t.rows.length d.c] s rfl rfl (by kernel_rfl) (by kernel_rfl) (Tryz.sizeOf79 _) rfl (by simp [Value.oneCell']) (Nat.le_of_ble_eq_true rfl)) ?_
    clear ha; rintro w a s ha
    dsimp only [List.set, putAt] at s
    refine zn4 ?_
    refine zv (.pointer (some ⟨g4, 0, none⟩)) ha ?_
    refine zzw (.int .i64 d.t.op) (zl1 0 0) ?_; clear ha; intro a ha
    refine zn2 ?_
    refine wp_block ?_
    refine wp_seq ?_
    refine zn1 ?_
    refine zv (.bool (d.t.op == (2 : Int))) ha ?_
    refine zzv (.bool (d.t.op == (2 : Int))) ?_; clear ha; intro a ha
    refine zn2 ?_
    refine zzh (d.t.op == (2 : Int)) ha ?_ ?_ <;> intro hb
    ·
     rw [hb] at ha; replace hb := eq_of_beq hb
     refine wp_skip ?_
     refine then_normal ?_
     refine wp_true ha rfl (by kernel_rfl) ?_
     refine zn1 ?_
     refine zv (.pointer (some ⟨g4, 3, none⟩)) ha ?_
     refine zzw (.agg #[.string (str d.t.frm), .string (str d.t.to)]) (zln 0 3) ?_
     refine zzv (.pointer (some ⟨g3, 1, none⟩)) ?_
     refine zzw (.string (str w0.t.key)) (zl1 1 1) ?_; clear ha; intro a ha
     refine zzc ha (hasS_any W _ w d.t.frm d.t.to w0.t.key s) ?_
     rintro _ w ⟨rfl, s⟩
     refine ⟨_, rfl, ?_⟩; clear ha; intro a ha
     refine zn2 ?_
     refine zzh (hasS d.t.frm d.t.to w0.t.key) ha ?_ ?_ <;> intro hb
     ·
      rw [hb] at ha; skip
      have hh : hits d.t w0.t = true := by unfold hits; rw [if_pos (by omega)]; exact hb
      have hyes : touchL (a0.l.map (·.t)) (b.l.map (·.t)) = true := List.any_eq_true.2 ⟨w0.t, List.mem_map.2 ⟨w0, List.mem_of_getElem? hw0, rfl⟩, by rw [Bool.and_eq_true]; exact ⟨by simp only [Bool.or_eq_true, decide_eq_true_eq]; omega, List.any_eq_true.2 ⟨d.t, List.mem_map.2 ⟨d, List.mem_of_getElem? hd, rfl⟩, hh⟩⟩⟩
      refine zn1 ?_
      refine zv (.bool true) ha ?_; clear ha; intro a ha
      refine zn2 ?_
      refine wp_ret ?_
      refine block_ret ?_
      refine block_ret ?_
      refine then_ret ?_
      refine then_ret ?_
      refine block_ret ?_
      refine block_ret ?_
      refine then_ret ?_
      refine then_ret ?_
      refine block_ret ?_
      refine then_ret ?_
      refine zzr (v := .bool true) ha ?_
      replace s := s.tail.tail.tail.tail
      replace s : St W (L) w := s
      exact ⟨by rw [hyes], s⟩
     rw [hb] at ha; skip
     have hnd : hits d.t w0.t = false := by unfold hits; rw [if_pos (by omega)]; exact hb
     refine wp_skip ?_
     refine block_normal ?_
     refine block_normal ?_
     refine then_normal ?_
     refine wp_region_lit ?_
     refine zw (.int .i64 ((j + 1 : Nat) : Int)) ha zar ?_
     refine zzv (.int .i64 ((j + 1 : Nat) : Int)) ?_; clear ha; intro a ha
     refine zn2 ?_
     replace s := ((s.at_ (j := 3) rfl).at_ (j := 3) rfl).at_ (j := 3) rfl
     replace s := s.k3_1
     exact ⟨j + 1, (show a0.l.length - (j + 1) < a0.l.length - j by omega), (Has.cons ha (by kernel_rfl) (by kernel_rfl) (Has.cons ha (by kernel_rfl) (by kernel_rfl) (Has.cons ha (by kernel_rfl) (by kernel_rfl) (Has.cons ha (by kernel_rfl) (by kernel_rfl) (Has.cons ha (by kernel_rfl) (by kernel_rfl) (Has.cons ha (by kernel_rfl) (by kernel_rfl) (Has.cons ha (by kernel_rfl) (by kernel_rfl) (Has.cons ha (by kernel_rfl) (by kernel_rfl) (Has.cons ha (by kernel_rfl) (by kernel_rfl) (Has.nil ha)))))))))), s, (show j + 1 ≤ a0.l.length by omega), by rw [map_take1 hd, List.any_append, hp.2, Bool.false_or]; simp only [List.any_cons, List.any_nil, Bool.or_false]; exact hnd⟩
    rw [hb] at ha; replace hb := ne_of_beq_false hb
    refine wp_region_lit ?_
    refine zv (.bool (d.t.op == (5 : Int))) ha ?_
    refine zzv (.bool (d.t.op == (5 : Int))) ?_; clear ha; intro a ha
    refine zn2 ?_
    refine zzh (d.t.op == (5 : Int)) ha ?_ ?_ <;> intro hb
    ·
     rw [hb] at ha; replace hb := eq_of_beq hb
     refine zn1 ?_
     refine zv (.pointer (some ⟨g4, 3, none⟩)) ha ?_
     refine zzw (.agg #[.string (str d.t.frm), .string (str d.t.to)]) (zln 0 3) ?_
     refine zzv (.pointer (some ⟨g3, 1, none⟩)) ?_
     refine zzw (.string (str w0.t.key)) (zl1 1 1) ?_; clear ha; intro a ha
     refine zzc ha (hasS_any W _ w d.t.frm d.t.to w0.t.key s) ?_
     rintro _ w ⟨rfl, s⟩
     refine ⟨_, rfl, ?_⟩; clear ha; intro a ha
     refine zn2 ?_
     refine zzh (hasS d.t.frm d.t.to w0.t.key) ha ?_ ?_ <;> intro hb
     ·
      rw [hb] at ha; skip
      have hh : hits d.t w0.t = true := by unfold hits; rw [if_pos (by omega)]; exact hb
      have hyes : touchL (a0.l.map (·.t)) (b.l.map (·.t)) = true := List.any_eq_true.2 ⟨w0.t, List.mem_map.2 ⟨w0, List.mem_of_getElem? hw0, rfl⟩, by rw [Bool.and_eq_true]; exact ⟨by simp only [Bool.or_eq_true, decide_eq_true_eq]; omega, List.any_eq_true.2 ⟨d.t, List.mem_map.2 ⟨d, List.mem_of_getElem? hd, rfl⟩, hh⟩⟩⟩
      refine zn1 ?_
      refine zv (.bool true) ha ?_; clear ha; intro a ha
      refine zn2 ?_
      refine wp_ret ?_
      refine block_ret ?_
      refine block_ret ?_
      refine then_ret ?_
      refine then_ret ?_
      refine block_ret ?_
      refine block_ret ?_
      refine then_ret ?_
      refine then_ret ?_
      refine block_ret ?_
      refine then_ret ?_
      refine zzr (v := .bool true) ha ?_
      replace s := s.tail.tail.tail.tail
      replace s : St W (L) w := s
      exact ⟨by rw [hyes], s⟩
     rw [hb] at ha; skip
     have hnd : hits d.t w0.t = false := by unfold hits; rw [if_pos (by omega)]; exact hb
     refine wp_skip ?_
     refine block_normal ?_
     refine block_normal ?_
     refine then_normal ?_
     refine wp_region_lit ?_
     refine zw (.int .i64 ((j + 1 : Nat) : Int)) ha zar ?_
     refine zzv (.int .i64 ((j + 1 : Nat) : Int)) ?_; clear ha; intro a ha
     refine zn2 ?_
     replace s := ((s.at_ (j := 3) rfl).at_ (j := 3) rfl).at_ (j := 3) rfl
     replace s := s.k3_1
     exact ⟨j + 1, (show a0.l.length - (j + 1) < a0.l.length - j by omega), (Has.cons ha (by kernel_rfl) (by kernel_rfl) (Has.cons ha (by kernel_rfl) (by kernel_rfl) (Has.cons ha (by kernel_rfl) (by kernel_rfl) (Has.cons ha (by kernel_rfl) (by kernel_rfl) (Has.cons ha (by kernel_rfl) (by kernel_rfl) (Has.cons ha (by kernel_rfl) (by kernel_rfl) (Has.cons ha (by kernel_rfl) (by kernel_rfl) (Has.cons ha (by kernel_rfl) (by kernel_rfl) (Has.cons ha (by kernel_rfl) (by kernel_rfl) (Has.nil ha)))))))))), s, (show j + 1 ≤ a0.l.length by omega), by rw [map_take1 hd, List.any_append, hp.2, Bool.false_or]; simp only [List.any_cons, List.any_nil, Bool.or_false]; exact hnd⟩
    rw [hb] at ha; replace hb := ne_of_beq_false hb
    refine zn1 ?_
    refine zv (.pointer (some ⟨g4, 1, none⟩)) ha ?_
    refine zzw (.string (str d.t.key)) (zl1 0 1) ?_
    refine zzv (.pointer (some ⟨g3, 1, none⟩)) ?_
    refine zzw (.string (str w0.t.key)) (zl1 1 1) ?_
    refine zzw (.bool (decide (d.t.key = w0.t.key))) (run_seql (p := d.t.key) (q := w0.t.key) rfl (by kernel_rfl) (by kernel_rfl) _) ?_; clear ha; intro a ha
    refine zn2 ?_
    refine zzh (decide (d.t.key = w0.t.key)) ha ?_ ?_ <;> intro hb
    ·
     rw [hb] at ha; replace hb : (d.t.key = w0.t.key) := of_decide_eq_true hb
     have hh : hits d.t w0.t = true := by unfold hits; rw [if_neg (by omega)]; exact decide_eq_true hb
     have hyes : touchL (a0.l.map (·.t)) (b.l.map (·.t)) = true := List.any_eq_true.2 ⟨w0.t, List.mem_map.2 ⟨w0, List.mem_of_getElem? hw0, rfl⟩, by rw [Bool.and_eq_true]; exact ⟨by simp only [Bool.or_eq_true, decide_eq_true_eq]; omega, List.any_eq_true.2 ⟨d.t, List.mem_map.2 ⟨d, List.mem_of_getElem? hd, rfl⟩, hh⟩⟩⟩
     refine zn1 ?_
     refine zv (.bool true) ha ?_; clear ha; intro a ha
     refine zn2 ?_
     refine wp_ret ?_
     refine block_ret ?_
     refine block_ret ?_
     refine then_ret ?_
     refine then_ret ?_
     refine block_ret ?_
     refine block_ret ?_
     refine then_ret ?_
     refine then_ret ?_
     refine block_ret ?_
     refine then_ret ?_
     refine zzr (v := .bool true) ha ?_
     replace s := s.tail.tail.tail.tail
     replace s : St W (L) w := s
     exact ⟨by rw [hyes], s⟩
    rw [hb] at ha; replace hb : ¬ (d.t.key = w0.t.key) := of_decide_eq_false hb
    have hnd : hits d.t w0.t = false := by unfold hits; rw [if_neg (by omega)]; exact decide_eq_false hb
    refine wp_skip ?_
    refine block_normal ?_
    refine block_normal ?_
    refine then_normal ?_
    refine wp_region_lit ?_
    refine zw (.int .i64 ((j + 1 : Nat) : Int)) ha zar ?_
    refine zzv (.int .i64 ((j + 1 : Nat) : Int)) ?_; clear ha; intro a ha
    refine zn2 ?_
    replace s := ((s.at_ (j := 3) rfl).at_ (j := 3) rfl).at_ (j := 3) rfl
    replace s := s.k3_1
    exact ⟨j + 1, (show a0.l.length - (j + 1) < a0.l.length - j by omega), (Has.cons ha (by kernel_rfl) (by kernel_rfl) (Has.cons ha (by kernel_rfl) (by kernel_rfl) (Has.cons ha (by kernel_rfl) (by kernel_rfl) (Has.cons ha (by kernel_rfl) (by kernel_rfl) (Has.cons ha (by kernel_rfl) (by kernel_rfl) (Has.cons ha (by kernel_rfl) (by kernel_rfl) (Has.cons ha (by kernel_rfl) (by kernel_rfl) (Has.cons ha (by kernel_rfl) (by kernel_rfl) (Has.cons ha (by kernel_rfl) (by kernel_rfl) (Has.nil ha)))))))))), s, (show j + 1 ≤ a0.l.length by omega), by rw [map_take1 hd, List.any_append, hp.2, Bool.false_or]; simp only [List.any_cons, List.any_nil, Bool.or_false]; exact hnd⟩
   rw [hb] at ha; replace hb : ¬ (((j : Nat) : Int) < ((a0.l.length : Nat) : Int)) := of_decide_eq_false hb
   have hnw : ((decide (w0.t.op = 3) || decide (w0.t.op = 4)) && (a0.l.map (·.t)).any fun d => hits d w0.t) = false := by have h2 := hp.2; rw [List.take_of_length_le (by omega)] at h2; rw [h2, Bool.and_false]
   replace hp := hp1
   refine wp_exit ?_
   refine then_exit ?_
   refine then_exit ?_
   refine block_hit ?_
   refine block_normal ?_
   refine then_normal ?_
   refine wp_region_lit ?_
   refine zw (.int .i64 ((k + 1 : Nat) : Int)) ha zar ?_
   refine zzv (.int .i64 ((k + 1 : Nat) : Int)) ?_; clear ha; intro a ha
   refine zn2 ?_
   replace s := (s.at_ (j := 2) rfl).at_ (j := 2) rfl
   replace s := s.k2_1
   exact ⟨k + 1, (show b.l.length - (k + 1) < b.l.length - k by omega), (Has.cons ha (by kernel_rfl) (by kernel_rfl) (Has.cons ha (by kernel_rfl) (by kernel_rfl) (Has.cons ha (by kernel_rfl) (by kernel_rfl) (Has.cons ha (by kernel_rfl) (by kernel_rfl) (Has.cons ha (by kernel_rfl) (by kernel_rfl) (Has.nil ha)))))), s, (show k + 1 ≤ b.l.length by omega), by rw [map_take1 hw0, touch_snoc, hp.2, Bool.false_or]; exact hnw⟩
  rw [hb] at ha; replace hb := zbq hb
  have hp1 := hp
  have hw34 : w0.t.op = 3 ∨ w0.t.op = 4 := .inl hb
  refine zp ha ?_
  iterate 2 refine zzp ?_
  refine zzv (.bool false) ?_; clear ha; intro a ha
  refine zn2 ?_
  refine wp_false ha rfl (by kernel_rfl) ?_
  refine wp_skip ?_
  refine then_normal ?_
  refine zn1 ?_
  refine zv (.pointer (some ⟨g1, 3, none⟩)) ha ?_
  refine zzw (.slice a0.A a0.l.length a0.c) (zl1 1 3) ?_
  refine zzv (.int .i64 ((a0.l.length : Nat) : Int)) ?_
  refine zzv (.int .i64 0) ?_; clear ha; intro a ha
  refine zn2 ?_
  refine wp_block ?_
  refine wp_loopG (G := Nat) (fun j a w => Has a 48 [(2, .pointer (some ⟨g1, 0, none⟩)), (3, .pointer (some ⟨g2, 0, none⟩)), (6, .pointer (some ⟨g3, 0, none⟩)), (10, .slice b.A b.l.length b.c), (11, .int .i64 ((b.l.length : Nat) : Int)), (12, .int .i64 ((k : Nat) : Int)), (25, .slice a0.A a0.l.length a0.c), (26, .int .i64 ((a0.l.length : Nat) : Int)), (27, .int .i64 ((j : Nat) : Int))] ∧ St W (.blk g3 [.int .i64 w0.t.op, .string (str w0.t.key), .string (str w0.t.val), .string (str w0.t.frm), .string (str w0.t.to), .bool w0.t.is, .slice w0.A w0.t.rows.length w0.c] 79 :: .blk g1 [.int .i64 a0.id, .int .i64 a0.wall, .int .i64 a0.logic, .slice a0.A a0.l.length a0.c] 77 :: .blk g2 [.int .i64 b.id, .int .i64 b.wall, .int .i64 b.logic, .slice b.A b.l.length b.c] 77 :: L) w ∧ (j ≤ a0.l.length ∧ (((a0.l.take j).map (·.t)).any fun d => hits d w0.t) = false)) (fun j => a0.l.length - j) 0 ?_ ?_
  ·
   exact ⟨(Has.cons ha (by kernel_rfl) (by kernel_rfl) (Has.cons ha (by kernel_rfl) (by kernel_rfl) (Has.cons ha (by kernel_rfl) (by kernel_rfl) (Has.cons ha (by kernel_rfl) (by kernel_rfl) (Has.cons ha (by kernel_rfl) (by kernel_rfl) (Has.cons ha (by kernel_rfl) (by kernel_rfl) (Has.cons ha (by kernel_rfl) (by kernel_rfl) (Has.cons ha (by kernel_rfl) (by kernel_rfl) (Has.cons ha (by kernel_rfl) (by kernel_rfl) (Has.nil ha)))))))))), s, ⟨Nat.zero_le _, rfl⟩⟩
  clear ha s; rintro j a w ⟨ha, s, hp⟩
  refine zn1 ?_
  refine zv (.bool (decide (((j : Nat) : Int) < ((a0.l.length : Nat) : Int)))) ha ?_; clear ha; intro a ha
  refine zn2 ?_
  refine wp_seq ?_
  refine zzh (decide (((j : Nat) : Int) < ((a0.l.length : Nat) : Int))) ha ?_ ?_ <;> intro hb
  ·
   rw [hb] at ha; replace hb : (((j : Nat) : Int) < ((a0.l.length : Nat) : Int)) := of_decide_eq_true hb
   obtain ⟨d, hd⟩ : ∃ d, a0.l[j]? = some d := ⟨_, List.getElem?_eq_getElem (by omega)⟩
   obtain ⟨aa, haa⟩ : ∃ aa, a0.A = some aa := Reads.addr (hra _ s.sat.tail.tail.tail).1 (by omega)
   refine wp_skip ?_
   refine then_normal ?_
   refine wp_seq ?_
   refine wp_block ?_
   refine zn1 ?_
   refine zw (.pointer (some (aa.add (j * 7)))) ha (run_indexAddr' (kd := .i64) (i := ((j : Nat) : Int)) (n := a0.l.length) (c := a0.c) j rfl Tryz.underlying75 Tryz.sizeOf79 (by rw [← haa]; kernel_rfl) (by kernel_rfl) rfl (by first | assumption | omega) _) ?_
   refine zzw (.agg #[.int .i64 d.t.op, .string (str d.t.key), .string (str d.t.val), .string (str d.t.frm), .string (str d.t.to), .bool d.t.is, .slice d.A d.t.rows.length d.c]) (run_loadAtN (i := j * 7) [.int .i64 d.t.op, .string (str d.t.key), .string (str d.t.val), .string (str d.t.frm), .string (str d.t.to), .bool d.t.is, .slice d.A d.t.rows.length d.c] ((haa ▸ (hra _ s.sat.tail.tail.tail).1)) rfl (by kernel_rfl) Tryz.isAgg79 Tryz.sizeOf79 (fun q_ hq_ => dvs_at hd hq_) rfl) ?_; clear ha; intro a ha
   refine zze ha (ex_alloc [.int .i64 0, .string (str []), .string (str []), .string (str []), .string (str []), .bool false, .slice none 0 0] s rfl (Tryz.zeroValue79 _) (by kernel_rfl)) ?_
   clear ha; rintro _ w a ⟨g5, rfl, s⟩ ha
   refine zzd ha (ex_store (of_ := 0) 0 [.int .i64 d.t.op, .string (str d.t.key), .string (str d.t.val), .string (str d.t.frm), .string (str d.t.to), .bool d.t.is, .slice d.A d.t.rows.length d.c] s rfl rfl (by kernel_rfl) (by kernel_rfl) (Tryz.sizeOf79 _) rfl (by simp [Value.oneCell']) (Nat.le_of_ble_eq_true rfl)) ?_
   clear ha; rintro w a s ha
   dsimp only [List.set, putAt] at s
   refine zn4 ?_
   refine zv (.pointer (some ⟨g5, 0, none⟩)) ha ?_
   refine zzw (.int .i64 d.t.op) (zl1 0 0) ?_; clear ha; intro a ha
   refine zn2 ?_
   refine wp_block ?_
   refine wp_seq ?_
   refine zn1 ?_
   refine zv (.bool (d.t.op == (2 : Int))) ha ?_
   refine zzv (.bool (d.t.op == (2 : Int))) ?_; clear ha; intro a ha
   refine zn2 ?_
   refine zzh (d.t.op == (2 : Int)) ha ?_ ?_ <;> intro hb
   ·
    rw [hb] at ha; replace hb := eq_of_beq hb
    refine wp_skip ?_
    refine then_normal ?_
    refine wp_true ha rfl (by kernel_rfl) ?_
    refine zn1 ?_
    refine zv (.pointer (some ⟨g5, 3, none⟩)) ha ?_
    refine zzw (.agg #[.string (str d.t.frm), .string (str d.t.to)]) (zln 0 3) ?_
    refine zzv (.pointer (some ⟨g3, 1, none⟩)) ?_
    refine zzw (.string (str w0.t.key)) (zl1 1 1) ?_; clear ha; intro a ha
    refine zzc ha (hasS_any W _ w d.t.frm d.t.to w0.t.key s) ?_
    rintro _ w ⟨rfl, s⟩
    refine ⟨_, rfl, ?_⟩; clear ha; intro a ha
    refine zn2 ?_
    refine zzh (hasS d.t.frm d.t.to w0.t.key) ha ?_ ?_ <;> intro hb
    ·
     rw [hb] at ha; skip
     have hh : hits d.t w0.t = true := by unfold hits; rw [if_pos (by omega)]; exact hb
     have hyes : touchL (a0.l.map (·.t)) (b.l.map (·.t)) = true := List.any_eq_true.2 ⟨w0.t, List.mem_map.2 ⟨w0, List.mem_of_getElem? hw0, rfl⟩, by rw [Bool.and_eq_true]; exact ⟨by simp only [Bool.or_eq_true, decide_eq_true_eq]; omega, List.any_eq_true.2 ⟨d.t, List.mem_map.2 ⟨d, List.mem_of_getElem? hd, rfl⟩, hh⟩⟩⟩
     refine zn1 ?_
     refine zv (.bool true) ha ?_; clear ha; intro a ha
     refine zn2 ?_
     refine wp_ret ?_
     refine block_ret ?_
     refine block_ret ?_
     refine then_ret ?_
     refine then_ret ?_
     refine block_ret ?_
     refine block_ret ?_
     refine then_ret ?_
     refine then_ret ?_
     refine block_ret ?_
     refine then_ret ?_
     refine zzr (v := .bool true) ha ?_
     replace s := s.tail.tail.tail.tail
     replace s : St W (L) w := s
     exact ⟨by rw [hyes], s⟩
    rw [hb] at ha; skip
    have hnd : hits d.t w0.t = false := by unfold hits; rw [if_pos (by omega)]; exact hb
    refine wp_skip ?_
    refine block_normal ?_
    refine block_normal ?_
    refine then_normal ?_
    refine wp_region_lit ?_
    refine zw (.int .i64 ((j + 1 : Nat) : Int)) ha zar ?_
    refine zzv (.int .i64 ((j + 1 : Nat) : Int)) ?_; clear ha; intro a ha
    refine zn2 ?_
    replace s := ((s.at_ (j := 3) rfl).at_ (j := 3) rfl).at_ (j := 3) rfl
    replace s := s.k3_1
    exact ⟨j + 1, (show a0.l.length - (j + 1) < a0.l.length - j by omega), (Has.cons ha (by kernel_rfl) (by kernel_rfl) (Has.cons ha (by kernel_rfl) (by kernel_rfl) (Has.cons ha (by kernel_rfl) (by kernel_rfl) (Has.cons ha (by kernel_rfl) (by kernel_rfl) (Has.cons ha (by kernel_rfl) (by kernel_rfl) (Has.cons ha (by kernel_rfl) (by kernel_rfl) (Has.cons ha (by kernel_rfl) (by kernel_rfl) (Has.cons ha (by kernel_rfl) (by kernel_rfl) (Has.cons ha (by kernel_rfl) (by kernel_rfl) (Has.nil ha)))))))))), s, (show j + 1 ≤ a0.l.length by omega), by rw [map_take1 hd, List.any_append, hp.2, Bool.false_or]; simp only [List.any_cons, List.any_nil, Bool.or_false]; exact hnd⟩
   rw [hb] at ha; replace hb := ne_of_beq_false hb
   refine wp_region_lit ?_
   refine zv (.bool (d.t.op == (5 : Int))) ha ?_
   refine zzv (.bool (d.t.op == (5 : Int))) ?_; clear ha; intro a ha
   refine zn2 ?_
   refine zzh (d.t.op == (5 : Int)) ha ?_ ?_ <;> intro hb
   ·
    rw [hb] at ha; replace hb := eq_of_beq hb
    refine zn1 ?_
    refine zv (.pointer (some ⟨g5, 3, none⟩)) ha ?_
    refine zzw (.agg #[.string (str d.t.frm), .string (str d.t.to)]) (zln 0 3) ?_
    refine zzv (.pointer (some ⟨g3, 1, none⟩)) ?_
    refine zzw (.string (str w0.t.key)) (zl1 1 1) ?_; clear ha; intro a ha
    refine zzc ha (hasS_any W _ w d.t.frm d.t.to w0.t.key s) ?_
    rintro _ w ⟨rfl, s⟩
    refine ⟨_, rfl, ?_⟩; clear ha; intro a ha
    refine zn2 ?_
    refine zzh (hasS d.t.frm d.t.to w0.t.key) ha ?_ ?_ <;> intro hb
    ·
     rw [hb] at ha; skip
     have hh : hits d.t w0.t = true := by unfold hits; rw [if_pos (by omega)]; exact hb
     have hyes : touchL (a0.l.map (·.t)) (b.l.map (·.t)) = true := List.any_eq_true.2 ⟨w0.t, List.mem_map.2 ⟨w0, List.mem_of_getElem? hw0, rfl⟩, by rw [Bool.and_eq_true]; exact ⟨by simp only [Bool.or_eq_true, decide_eq_true_eq]; omega, List.any_eq_true.2 ⟨d.t, List.mem_map.2 ⟨d, List.mem_of_getElem? hd, rfl⟩, hh⟩⟩⟩
     refine zn1 ?_
     refine zv (.bool true) ha ?_; clear ha; intro a ha
     refine zn2 ?_
     refine wp_ret ?_
     refine block_ret ?_
     refine block_ret ?_
     refine then_ret ?_
     refine then_ret ?_
     refine block_ret ?_
     refine block_ret ?_
     refine then_ret ?_
     refine then_ret ?_
     refine block_ret ?_
     refine then_ret ?_
     refine zzr (v := .bool true) ha ?_
     replace s := s.tail.tail.tail.tail
     replace s : St W (L) w := s
     exact ⟨by rw [hyes], s⟩
    rw [hb] at ha; skip
    have hnd : hits d.t w0.t = false := by unfold hits; rw [if_pos (by omega)]; exact hb
    refine wp_skip ?_
    refine block_normal ?_
    refine block_normal ?_
    refine then_normal ?_
    refine wp_region_lit ?_
    refine zw (.int .i64 ((j + 1 : Nat) : Int)) ha zar ?_
    refine zzv (.int .i64 ((j + 1 : Nat) : Int)) ?_; clear ha; intro a ha
    refine zn2 ?_
    replace s := ((s.at_ (j := 3) rfl).at_ (j := 3) rfl).at_ (j := 3) rfl
    replace s := s.k3_1
    exact ⟨j + 1, (show a0.l.length - (j + 1) < a0.l.length - j by omega), (Has.cons ha (by kernel_rfl) (by kernel_rfl) (Has.cons ha (by kernel_rfl) (by kernel_rfl) (Has.cons ha (by kernel_rfl) (by kernel_rfl) (Has.cons ha (by kernel_rfl) (by kernel_rfl) (Has.cons ha (by kernel_rfl) (by kernel_rfl) (Has.cons ha (by kernel_rfl) (by kernel_rfl) (Has.cons ha (by kernel_rfl) (by kernel_rfl) (Has.cons ha (by kernel_rfl) (by kernel_rfl) (Has.cons ha (by kernel_rfl) (by kernel_rfl) (Has.nil ha)))))))))), s, (show j + 1 ≤ a0.l.length by omega), by rw [map_take1 hd, List.any_append, hp.2, Bool.false_or]; simp only [List.any_cons, List.any_nil, Bool.or_false]; exact hnd⟩
   rw [hb] at ha; replace hb := ne_of_beq_false hb
   refine zn1 ?_
   refine zv (.pointer (some ⟨g5, 1, none⟩)) ha ?_
   refine zzw (.string (str d.t.key)) (zl1 0 1) ?_
   refine zzv (.pointer (some ⟨g3, 1, none⟩)) ?_
   refine zzw (.string (str w0.t.key)) (zl1 1 1) ?_
   refine zzw (.bool (decide (d.t.key = w0.t.key))) (run_seql (p := d.t.key) (q := w0.t.key) rfl (by kernel_rfl) (by kernel_rfl) _) ?_; clear ha; intro a ha
   refine zn2 ?_
   refine zzh (decide (d.t.key = w0.t.key)) ha ?_ ?_ <;> intro hb
   ·
    rw [hb] at ha; replace hb : (d.t.key = w0.t.key) := of_decide_eq_true hb
    have hh : hits d.t w0.t = true := by unfold hits; rw [if_neg (by omega)]; exact decide_eq_true hb
    have hyes : touchL (a0.l.map (·.t)) (b.l.map (·.t)) = true := List.any_eq_true.2 ⟨w0.t, List.mem_map.2 ⟨w0, List.mem_of_getElem? hw0, rfl⟩, by rw [Bool.and_eq_true]; exact ⟨by simp only [Bool.or_eq_true, decide_eq_true_eq]; omega, List.any_eq_true.2 ⟨d.t, List.mem_map.2 ⟨d, List.mem_of_getElem? hd, rfl⟩, hh⟩⟩⟩
    refine zn1 ?_
    refine zv (.bool true) ha ?_; clear ha; intro a ha
    refine zn2 ?_
    refine wp_ret ?_
    refine block_ret ?_
    refine block_ret ?_
    refine then_ret ?_
    refine then_ret ?_
    refine block_ret ?_
    refine block_ret ?_
    refine then_ret ?_
    refine then_ret ?_
    refine block_ret ?_
    refine then_ret ?_
    refine zzr (v := .bool true) ha ?_
    replace s := s.tail.tail.tail.tail
    replace s : St W (L) w := s
    exact ⟨by rw [hyes], s⟩
   rw [hb] at ha; replace hb : ¬ (d.t.key = w0.t.key) := of_decide_eq_false hb
   have hnd : hits d.t w0.t = false := by unfold hits; rw [if_neg (by omega)]; exact decide_eq_false hb
   refine wp_skip ?_
   refine block_normal ?_
   refine block_normal ?_
   refine then_normal ?_
   refine wp_region_lit ?_
   refine zw (.int .i64 ((j + 1 : Nat) : Int)) ha zar ?_
   refine zzv (.int .i64 ((j + 1 : Nat) : Int)) ?_; clear ha; intro a ha
   refine zn2 ?_
   replace s := ((s.at_ (j := 3) rfl).at_ (j := 3) rfl).at_ (j := 3) rfl
   replace s := s.k3_1
   exact ⟨j + 1, (show a0.l.length - (j + 1) < a0.l.length - j by omega), (Has.cons ha (by kernel_rfl) (by kernel_rfl) (Has.cons ha (by kernel_rfl) (by kernel_rfl) (Has.cons ha (by kernel_rfl) (by kernel_rfl) (Has.cons ha (by kernel_rfl) (by kernel_rfl) (Has.cons ha (by kernel_rfl) (by kernel_rfl) (Has.cons ha (by kernel_rfl) (by kernel_rfl) (Has.cons ha (by kernel_rfl) (by kernel_rfl) (Has.cons ha (by kernel_rfl) (by kernel_rfl) (Has.cons ha (by kernel_rfl) (by kernel_rfl) (Has.nil ha)))))))))), s, (show j + 1 ≤ a0.l.length by omega), by rw [map_take1 hd, List.any_append, hp.2, Bool.false_or]; simp only [List.any_cons, List.any_nil, Bool.or_false]; exact hnd⟩
  rw [hb] at ha; replace hb : ¬ (((j : Nat) : Int) < ((a0.l.length : Nat) : Int)) := of_decide_eq_false hb
  have hnw : ((decide (w0.t.op = 3) || decide (w0.t.op = 4)) && (a0.l.map (·.t)).any fun d => hits d w0.t) = false := by have h2 := hp.2; rw [List.take_of_length_le (by omega)] at h2; rw [h2, Bool.and_false]
  replace hp := hp1
  refine wp_exit ?_
  refine then_exit ?_
  refine then_exit ?_
  refine block_hit ?_
  refine block_normal ?_
  refine then_normal ?_
  refine wp_region_lit ?_
  refine zw (.int .i64 ((k + 1 : Nat) : Int)) ha zar ?_
  refine zzv (.int .i64 ((k + 1 : Nat) : Int)) ?_; clear ha; intro a ha
  refine zn2 ?_
  replace s := (s.at_ (j := 2) rfl).at_ (j := 2) rfl
  replace s := s.k2_1
  exact ⟨k + 1, (show b.l.length - (k + 1) < b.l.length - k by omega), (Has.cons ha (by kernel_rfl) (by kernel_rfl) (Has.cons ha (by kernel_rfl) (by kernel_rfl) (Has.cons ha (by kernel_rfl) (by kernel_rfl) (Has.cons ha (by kernel_rfl) (by kernel_rfl) (Has.cons ha (by kernel_rfl) (by kernel_rfl) (Has.nil ha)))))), s, (show k + 1 ≤ b.l.length by omega), by rw [map_take1 hw0, touch_snoc, hp.2, Bool.false_or]; exact hnw⟩
 rw [hb] at ha; replace hb : ¬ (((k : Nat) : Int) < ((b.l.length : Nat) : Int)) := of_decide_eq_false hb
 refine wp_exit ?_
 refine then_exit ?_
 refine then_exit ?_
 refine block_hit ?_
 refine then_normal ?_
 refine zn1 ?_
 refine zv (.bool false) ha ?_; clear ha; intro a ha
 refine zn2 ?_
 refine wp_ret ?_
 refine zzr (v := .bool false) ha ?_
 replace s := s.tail.tail
 replace s : St W (L) w := s
 refine ⟨?_, s⟩
 have h2 := hp.2
 rw [List.take_of_length_le (by omega)] at h2
 rw [h2]

end Go.Proofs.YtfcbjcohepkkfaaGreat.B
