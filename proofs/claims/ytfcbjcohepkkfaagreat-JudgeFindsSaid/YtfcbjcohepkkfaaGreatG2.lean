import Derived.Test.YtfcbjcohepkkfaaGreatG1
import Derived.Test.YtfcbjcohepkkfaaGreatSepY
namespace Go.Proofs.YtfcbjcohepkkfaaGreat.B
open Go.RowKit Go.Maps Go.Sort Go.Shelf Go.Proofs.YtfcbjcohepkkfaaGreat.Sep Go.Proofs.YtfcbjcohepkkfaaGreat.P
set_option linter.unusedVariables false
set_option linter.unusedSimpArgs false

theorem rup_any (W : World) (L : List Chunk) (w : World) (ad : Addr) (ca : Nat) (l : List Ev) (hr : Knows L (EvsIn (some ad) l)) (hn : l.length ≤ 5000) (i : Nat) (hil : i < l.length) (n : Int) (s : St W L w) :
  Calls Tryz.prog 44 #[.slice (some ad) l.length ca, .int .i64 ((i : Nat) : Int), .int .i64 n] w fun e w' => e = .returned (.bool (upR (l.take i) n)) ∧ St W L w' := by
 refine enter_args (l := [.slice (some ad) l.length ca, .int .i64 ((i : Nat) : Int), .int .i64 n]) Tryz.func44 rfl rfl (Nat.le_of_ble_eq_true rfl) ?_
 intro a ha; replace ha : Has a 45 [(0, .slice (some ad) l.length ca), (1, .int .i64 ((i : Nat) : Int)), (2, .int .i64 n)] := ha
 refine zn1 ?_
 refine zv (.bool false) ha ?_; clear ha; intro a ha
 refine zn4 ?_
 refine zv (.bool true) ha ?_; clear ha; intro a ha
 refine zn2 ?_
 refine wp_seq ?_
 refine zn1 ?_
 refine zv (.int .i64 0) ha ?_; clear ha; intro a ha
 refine zn2 ?_
 refine wp_block ?_
 refine wp_loopG (G := Nat) (fun k a w => Has a 45 [(0, .slice (some ad) l.length ca), (1, .int .i64 ((i : Nat) : Int)), (2, .int .i64 n), (7, .bool (upR (l.take k) n)), (8, .int .i64 ((k : Nat) : Int))] ∧ St W (L) w ∧ (k ≤ i)) (fun k => i - k) 0 ?_ ?_
 ·
  exact ⟨(Has.cons ha (by kernel_rfl) (by kernel_rfl) (Has.cons ha (by kernel_rfl) (by kernel_rfl) (Has.cons ha (by kernel_rfl) (by kernel_rfl) (Has.cons ha (by kernel_rfl) (by kernel_rfl) (Has.cons ha (by kernel_rfl) (by kernel_rfl) (Has.nil ha)))))), s, Nat.zero_le _⟩
 clear ha s; rintro k a w ⟨ha, s, hp⟩
 refine wp_seq ?_
 refine zn1 ?_
 refine zv (.int .i64 ((k : Nat) : Int)) ha ?_
 refine zzv (.int .i64 ((i : Nat) : Int)) ?_
 refine zzv (.bool (decide (((k : Nat) : Int) < ((i : Nat) : Int)))) ?_; clear ha; intro a ha
 refine zn2 ?_
 refine zzh (decide (((k : Nat) : Int) < ((i : Nat) : Int))) ha ?_ ?_ <;> intro hb
 ·
  rw [hb] at ha; replace hb : (((k : Nat) : Int) < ((i : Nat) : Int)) := of_decide_eq_true hb
  have ht0 := hb
  obtain ⟨y, hy⟩ : ∃ y, l[k]? = some y := ⟨_, List.getElem?_eq_getElem (by omega)⟩
  refine wp_skip ?_
  refine then_normal ?_
  refine wp_seq ?_
  refine wp_block ?_
  refine wp_seq ?_
  refine zn1 ?_
  refine zv (.slice (some ad) l.length ca) ha ?_
  refine zzv (.int .i64 ((k : Nat) : Int)) ?_
  refine zzw (.pointer (some (ad.add (k * 16)))) (run_indexAddr' (kd := .i64) (i := ((k : Nat) : Int)) (n := l.length) (c := ca) k rfl Tryz.underlying22 Tryz.sizeOf37 (by kernel_rfl) (by kernel_rfl) rfl (by first | assumption | omega) _) ?_
  refine zzw (.pointer (some (ad.add (k * 16 + 2)))) (zfa 3) ?_
  refine zzw (.int .i64 y.node) (zla (k * 16 + 2) ((hr _ s.sat).1) (by rw [evs_at hy (by omega)]; rfl)) ?_
  refine zzv (.int .i64 n) ?_
  refine zzv (.bool (y.node == n)) ?_
  refine zzv (.bool (y.node == n)) ?_; clear ha; intro a ha
  rcases Bool.eq_false_or_eq_true (y.node == n) with hb | hb
  ·
   rw [hb] at ha; replace hb := eq_of_beq hb
   have ht1 := hb
   refine zv (.slice (some ad) l.length ca) ha ?_
   refine zzv (.int .i64 ((k : Nat) : Int)) ?_
   refine zzw (.pointer (some (ad.add (k * 16)))) (run_indexAddr' (kd := .i64) (i := ((k : Nat) : Int)) (n := l.length) (c := ca) k rfl Tryz.underlying22 Tryz.sizeOf37 (by kernel_rfl) (by kernel_rfl) rfl (by first | assumption | omega) _) ?_
   refine zzw (.pointer (some (ad.add (k * 16 + 1)))) (zfa 3) ?_
   refine zzw (.int .i64 y.kind) (zla (k * 16 + 1) ((hr _ s.sat).1) (by rw [evs_at hy (by omega)]; rfl)) ?_
   refine zzv (.bool (y.kind == (5 : Int))) ?_
   refine zzv (.bool (y.kind == (5 : Int))) ?_; clear ha; intro a ha
   refine zn2 ?_
   refine zzh (y.kind == (5 : Int)) ha ?_ ?_ <;> intro hb
   ·
    rw [hb] at ha; replace hb := eq_of_beq hb
    have ht2 := hb
    refine wp_region_lit ?_
    refine zv (.bool false) ha ?_; clear ha; intro a ha
    refine zn4 ?_
    refine zv (.slice (some ad) l.length ca) ha ?_
    refine zzv (.int .i64 ((k : Nat) : Int)) ?_
    refine zzw (.pointer (some (ad.add (k * 16)))) (run_indexAddr' (kd := .i64) (i := ((k : Nat) : Int)) (n := l.length) (c := ca) k rfl Tryz.underlying22 Tryz.sizeOf37 (by kernel_rfl) (by kernel_rfl) rfl (by first | assumption | omega) _) ?_
    refine zzw (.pointer (some (ad.add (k * 16 + 2)))) (zfa 3) ?_
    refine zzw (.int .i64 y.node) (zla (k * 16 + 2) ((hr _ s.sat).1) (by rw [evs_at hy (by omega)]; rfl)) ?_
    refine zzv (.int .i64 n) ?_
    refine zzw (.bool true) (run_known (show (y.node == n) = true from beq_iff_eq.2 (by omega)) (by kernel_rfl)) ?_
    refine zzv (.bool true) ?_
    refine zzv (.slice (some ad) l.length ca) ?_
    refine zzv (.int .i64 ((k : Nat) : Int)) ?_
    refine zzw (.pointer (some (ad.add (k * 16)))) (run_indexAddr' (kd := .i64) (i := ((k : Nat) : Int)) (n := l.length) (c := ca) k rfl Tryz.underlying22 Tryz.sizeOf37 (by kernel_rfl) (by kernel_rfl) rfl (by first | assumption | omega) _) ?_
    refine zzw (.pointer (some (ad.add (k * 16 + 1)))) (zfa 3) ?_
    refine zzw (.int .i64 y.kind) (zla (k * 16 + 1) ((hr _ s.sat).1) (by rw [evs_at hy (by omega)]; rfl)) ?_
    refine zzw (.bool false) (run_known (show (y.kind == (6 : Int)) = false from beq_eq_false_iff_ne.2 (by omega)) (by kernel_rfl)) ?_
    refine zzv (.bool false) ?_; clear ha; intro a ha
    refine zn2 ?_
    refine wp_false ha rfl (by kernel_rfl) ?_
    refine wp_skip ?_
    refine block_normal ?_
    refine then_normal ?_
    refine wp_region_lit ?_
    refine zv (.int .i64 ((k : Nat) : Int)) ha ?_
    refine zzw (.int .i64 ((k + 1 : Nat) : Int)) zar ?_
    refine zzv (.int .i64 ((k + 1 : Nat) : Int)) ?_; clear ha; intro a ha
    refine zn2 ?_
    have hu : upR (l.take (k + 1)) n = false := by rw [take_snoc hy, upR_snoc]; unfold upStep; clear s ha; simp [*]
    exact ⟨k + 1, (show i - (k + 1) < i - k by omega), by rw [hu]; exact (Has.cons ha (by kernel_rfl) (by kernel_rfl) (Has.cons ha (by kernel_rfl) (by kernel_rfl) (Has.cons ha (by kernel_rfl) (by kernel_rfl) (Has.cons ha (by kernel_rfl) (by kernel_rfl) (Has.cons ha (by kernel_rfl) (by kernel_rfl) (Has.nil ha)))))), s, (show k + 1 ≤ i by omega)⟩
   rw [hb] at ha; replace hb := ne_of_beq_false hb
   have ht2 := hb
   refine wp_skip ?_
   refine then_normal ?_
   refine zn1 ?_
   refine zv (.slice (some ad) l.length ca) ha ?_
   refine zzv (.int .i64 ((k : Nat) : Int)) ?_
   refine zzw (.pointer (some (ad.add (k * 16)))) (run_indexAddr' (kd := .i64) (i := ((k : Nat) : Int)) (n := l.length) (c := ca) k rfl Tryz.underlying22 Tryz.sizeOf37 (by kernel_rfl) (by kernel_rfl) rfl (by first | assumption | omega) _) ?_
   refine zzw (.pointer (some (ad.add (k * 16 + 2)))) (zfa 3) ?_
   refine zzw (.int .i64 y.node) (zla (k * 16 + 2) ((hr _ s.sat).1) (by rw [evs_at hy (by omega)]; rfl)) ?_
   refine zzv (.int .i64 n) ?_
   refine zzw (.bool true) (run_known (show (y.node == n) = true from beq_iff_eq.2 (by omega)) (by kernel_rfl)) ?_
   refine zzv (.bool true) ?_
   refine zzv (.slice (some ad) l.length ca) ?_
   refine zzv (.int .i64 ((k : Nat) : Int)) ?_
   refine zzw (.pointer (some (ad.add (k * 16)))) (run_indexAddr' (kd := .i64) (i := ((k : Nat) : Int)) (n := l.length) (c := ca) k rfl Tryz.underlying22 Tryz.sizeOf37 (by kernel_rfl) (by kernel_rfl) rfl (by first | assumption | omega) _) ?_
   refine zzw (.pointer (some (ad.add (k * 16 + 1)))) (zfa 3) ?_
   refine zzw (.int .i64 y.kind) (zla (k * 16 + 1) ((hr _ s.sat).1) (by rw [evs_at hy (by omega)]; rfl)) ?_
   refine zzv (.bool (y.kind == (6 : Int))) ?_
   refine zzv (.bool (y.kind == (6 : Int))) ?_; clear ha; intro a ha
   refine zn2 ?_
   refine zzh (y.kind == (6 : Int)) ha ?_ ?_ <;> intro hb
   ·
    rw [hb] at ha; replace hb := eq_of_beq hb
    have ht3 := hb
    refine wp_region_lit ?_
    refine zv (.bool true) ha ?_; clear ha; intro a ha
    refine wpList_nil ?_
    refine block_normal ?_
    refine then_normal ?_
    refine wp_region_lit ?_
    refine zv (.int .i64 ((k : Nat) : Int)) ha ?_
    refine zzw (.int .i64 ((k + 1 : Nat) : Int)) zar ?_
    refine zzv (.int .i64 ((k + 1 : Nat) : Int)) ?_; clear ha; intro a ha
    refine zn2 ?_
    have hu : upR (l.take (k + 1)) n = true := by rw [take_snoc hy, upR_snoc]; unfold upStep; clear s ha; simp [*]
    exact ⟨k + 1, (show i - (k + 1) < i - k by omega), by rw [hu]; exact (Has.cons ha (by kernel_rfl) (by kernel_rfl) (Has.cons ha (by kernel_rfl) (by kernel_rfl) (Has.cons ha (by kernel_rfl) (by kernel_rfl) (Has.cons ha (by kernel_rfl) (by kernel_rfl) (Has.cons ha (by kernel_rfl) (by kernel_rfl) (Has.nil ha)))))), s, (show k + 1 ≤ i by omega)⟩
   rw [hb] at ha; replace hb := ne_of_beq_false hb
   have ht3 := hb
   refine wp_skip ?_
   refine block_normal ?_
   refine then_normal ?_
   refine wp_region_lit ?_
   refine zv (.int .i64 ((k : Nat) : Int)) ha ?_
   refine zzw (.int .i64 ((k + 1 : Nat) : Int)) zar ?_
   refine zzv (.int .i64 ((k + 1 : Nat) : Int)) ?_; clear ha; intro a ha
   refine zn2 ?_
   have hu : upR (l.take (k + 1)) n = upR (l.take k) n := by rw [take_snoc hy, upR_snoc]; unfold upStep; clear s ha; simp [*]
   exact ⟨k + 1, (show i - (k + 1) < i - k by omega), by rw [hu]; exact (Has.cons ha (by kernel_rfl) (by kernel_rfl) (Has.cons ha (by kernel_rfl) (by kernel_rfl) (Has.cons ha (by kernel_rfl) (by kernel_rfl) (Has.cons ha (by kernel_rfl) (by kernel_rfl) (Has.cons ha (by kernel_rfl) (by kernel_rfl) (Has.nil ha)))))), s, (show k + 1 ≤ i by omega)⟩
  rw [hb] at ha; replace hb := ne_of_beq_false hb
  have ht1 := hb
  refine zp ha ?_
  iterate 5 refine zzp ?_
  refine zzv (.bool false) ?_; clear ha; intro a ha
  refine zn2 ?_
  refine wp_false ha rfl (by kernel_rfl) ?_
  refine wp_skip ?_
  refine then_normal ?_
  refine zn1 ?_
  refine zv (.slice (some ad) l.length ca) ha ?_
  refine zzv (.int .i64 ((k : Nat) : Int)) ?_
  refine zzw (.pointer (some (ad.add (k * 16)))) (run_indexAddr' (kd := .i64) (i := ((k : Nat) : Int)) (n := l.length) (c := ca) k rfl Tryz.underlying22 Tryz.sizeOf37 (by kernel_rfl) (by kernel_rfl) rfl (by first | assumption | omega) _) ?_
  refine zzw (.pointer (some (ad.add (k * 16 + 2)))) (zfa 3) ?_
  refine zzw (.int .i64 y.node) (zla (k * 16 + 2) ((hr _ s.sat).1) (by rw [evs_at hy (by omega)]; rfl)) ?_
  refine zzv (.int .i64 n) ?_
  refine zzw (.bool false) (run_known (show (y.node == n) = false from beq_eq_false_iff_ne.2 (by omega)) (by kernel_rfl)) ?_
  refine zzv (.bool false) ?_
  iterate 6 refine zzp ?_
  refine zzv (.bool false) ?_; clear ha; intro a ha
  refine zn2 ?_
  refine wp_false ha rfl (by kernel_rfl) ?_
  refine wp_skip ?_
  refine block_normal ?_
  refine then_normal ?_
  refine wp_region_lit ?_
  refine zv (.int .i64 ((k : Nat) : Int)) ha ?_
  refine zzw (.int .i64 ((k + 1 : Nat) : Int)) zar ?_
  refine zzv (.int .i64 ((k + 1 : Nat) : Int)) ?_; clear ha; intro a ha
  refine zn2 ?_
  have hu : upR (l.take (k + 1)) n = upR (l.take k) n := by rw [take_snoc hy, upR_snoc]; unfold upStep; clear s ha; simp [*]
  exact ⟨k + 1, (show i - (k + 1) < i - k by omega), by rw [hu]; exact (Has.cons ha (by kernel_rfl) (by kernel_rfl) (Has.cons ha (by kernel_rfl) (by kernel_rfl) (Has.cons ha (by kernel_rfl) (by kernel_rfl) (Has.cons ha (by kernel_rfl) (by kernel_rfl) (Has.cons ha (by kernel_rfl) (by kernel_rfl) (Has.nil ha)))))), s, (show k + 1 ≤ i by omega)⟩
 rw [hb] at ha; replace hb : ¬ (((k : Nat) : Int) < ((i : Nat) : Int)) := of_decide_eq_false hb
 have ht0 := hb
 refine wp_exit ?_
 refine then_exit ?_
 refine then_exit ?_
 refine block_hit ?_
 refine then_normal ?_
 refine zn1 ?_
 refine zv (.bool (upR (l.take k) n)) ha ?_
 refine zzv (.bool (upR (l.take k) n)) ?_; clear ha; intro a ha
 refine zn2 ?_
 refine wp_ret ?_
 refine zzr (v := .bool (upR (l.take k) n)) ha ?_
 obtain rfl : i = k := by omega
 exact ⟨rfl, s⟩

theorem rnodes_any (W : World) (L : List Chunk) (w : World) (ad : Addr) (ca : Nat) (l : List Ev) (hr : Knows L (EvsIn (some ad) l)) (hn : l.length ≤ 5000) (i : Nat) (x : Ev) (hx : l[i]? = some x) (s : St W L w) :
  Calls Tryz.prog 22 #[.slice (some ad) l.length ca, .int .i64 ((i : Nat) : Int)] w fun e w' => e = .returned (.bool (nodesR (l.take i) x)) ∧ St W L w' := by
 have hil := (List.getElem?_eq_some_iff.1 hx).1
 refine enter_args (l := [.slice (some ad) l.length ca, .int .i64 ((i : Nat) : Int)]) Tryz.func22 rfl rfl (Nat.le_of_ble_eq_true rfl) ?_
 intro a ha; replace ha : Has a 29 [(0, .slice (some ad) l.length ca), (1, .int .i64 ((i : Nat) : Int))] := ha
 refine zn1 ?_
 refine zv (.bool false) ha ?_; clear ha; intro a ha
 refine zn4 ?_
 refine zv (.slice (some ad) l.length ca) ha ?_
 refine zzv (.int .i64 ((i : Nat) : Int)) ?_
 refine zzw (.pointer (some (ad.add (i * 16)))) (run_indexAddr' (kd := .i64) (i := ((i : Nat) : Int)) (n := l.length) (c := ca) i rfl Tryz.underlying22 Tryz.sizeOf37 (by kernel_rfl) (by kernel_rfl) rfl (by first | assumption | omega) _) ?_
 refine zzw (.agg (evv x).toArray) (run_loadAtN (i := i * 16) (evv x) ((hr _ s.sat).1) rfl (by kernel_rfl) Tryz.isAgg37 Tryz.sizeOf37 (fun q_ hq_ => evs_at hx hq_) rfl) ?_; clear ha; intro a ha
 refine zze ha (ex_alloc (evv ⟨0, 0, 0, 0, 0, 0, [], [], [], [], false, [], none, 0, 0, 0, 0, 0⟩) s rfl (Tryz.zeroValue37 _) (by kernel_rfl)) ?_
 clear ha; rintro _ w a ⟨g1, rfl, s⟩ ha
 refine zzd ha (ex_store (of_ := 0) 0 (evv x) s rfl rfl (by kernel_rfl) (by kernel_rfl) (Tryz.sizeOf37 _) rfl (by simp [evv, txv, Value.oneCell']) (Nat.le_of_ble_eq_true rfl)) ?_
 clear ha; rintro w a s ha
 replace s : St W (.blk g1 (evv x) 37 :: L) w := s
 refine zn2 ?_
 refine wp_seq ?_
 refine zn1 ?_
 refine zv (.pointer (some ⟨g1, 1, none⟩)) ha ?_
 refine zzw (.int .i64 x.kind) (zl1 0 1) ?_
 refine zzv (.bool (x.kind == (6 : Int))) ?_; clear ha; intro a ha
 refine zn2 ?_
 refine zzh (x.kind == (6 : Int)) ha ?_ ?_ <;> intro hb
 ·
  rw [hb] at ha; replace hb := eq_of_beq hb
  have ht0 := hb
  refine zn1 ?_
  refine zv (.slice (some ad) l.length ca) ha ?_
  refine zzv (.int .i64 ((i : Nat) : Int)) ?_
  refine zzv (.pointer (some ⟨g1, 2, none⟩)) ?_
  refine zzw (.int .i64 x.node) (zl1 0 2) ?_; clear ha; intro a ha
  refine zzc ha (rup_any W _ w ad ca l (fun w s => hr w s.tail) hn i hil x.node s) ?_
  rintro _ w ⟨rfl, s⟩
  refine ⟨_, rfl, ?_⟩; clear ha; intro a ha
  refine zv (.bool (!(upR (l.take i) x.node))) ha ?_
  refine zzv (.bool (!(upR (l.take i) x.node))) ?_; clear ha; intro a ha
  refine zn2 ?_
  refine zzt ?_
  refine zzr (v := .bool (!(upR (l.take i) x.node))) ha ?_
  replace s := s.tail
  replace s : St W (L) w := s
  refine ⟨?_, s⟩
  congr 2
  clear s ha
  unfold nodesR
  first | (simp [*]; done) | (simp_all; done) | (simp [*]; omega)
 rw [hb] at ha; replace hb := ne_of_beq_false hb
 have ht0 := hb
 refine wp_skip ?_
 refine then_normal ?_
 refine zn1 ?_
 refine zv (.pointer (some ⟨g1, 1, none⟩)) ha ?_
 refine zzw (.int .i64 x.kind) (zl1 0 1) ?_
 refine zzv (.bool (x.kind == (4 : Int))) ?_
 refine zzv (.bool (x.kind == (4 : Int))) ?_; clear ha; intro a ha
 rcases Bool.eq_false_or_eq_true (x.kind == (4 : Int)) with hb | hb
 ·
  rw [hb] at ha; replace hb := eq_of_beq hb
  have ht1 := hb
  refine zp ha ?_
  iterate 4 refine zzp ?_
  refine zzv (.bool true) ?_
  refine zzv (.bool true) ?_; clear ha; intro a ha
  refine zn2 ?_
  refine wp_ret ?_
  refine zzr (v := .bool true) ha ?_
  replace s := s.tail
  replace s : St W (L) w := s
  refine ⟨?_, s⟩
  congr 2
  clear s ha
  unfold nodesR
  first | (simp [*]; done) | (simp_all; done) | (simp [*]; omega)
 rw [hb] at ha; replace hb := ne_of_beq_false hb
 have ht1 := hb
 refine zv (.slice (some ad) l.length ca) ha ?_
 refine zzv (.int .i64 ((i : Nat) : Int)) ?_
 refine zzv (.pointer (some ⟨g1, 2, none⟩)) ?_
 refine zzw (.int .i64 x.node) (zl1 0 2) ?_; clear ha; intro a ha
 refine zzc ha (rup_any W _ w ad ca l (fun w s => hr w s.tail) hn i hil x.node s) ?_
 rintro _ w ⟨rfl, s⟩
 refine ⟨_, rfl, ?_⟩; clear ha; intro a ha
 refine zv (.bool (upR (l.take i) x.node)) ha ?_
 refine zzv (.bool (upR (l.take i) x.node)) ?_; clear ha; intro a ha
 refine zn2 ?_
 refine wp_ret ?_
 refine zzr (v := .bool (upR (l.take i) x.node)) ha ?_
 replace s := s.tail
 replace s : St W (L) w := s
 refine ⟨?_, s⟩
 congr 2
 clear s ha
 unfold nodesR
 first | (simp [*]; done) | (simp_all; done) | (simp [*]; omega)

theorem rbegins_any (W : World) (L : List Chunk) (w : World) (ad : Addr) (ca : Nat) (l : List Ev) (hr : Knows L (EvsIn (some ad) l)) (hn : l.length ≤ 5000) (i : Nat) (x : Ev) (hx : l[i]? = some x) (hmo : mostR (l.take i) ≤ 9007199254740991 ∧ 0 ≤ mostR (l.take i)) (s : St W L w) :
  Calls Tryz.prog 23 #[.slice (some ad) l.length ca, .int .i64 ((i : Nat) : Int)] w fun e w' => e = .returned (.bool (beginsR (l.take i) x)) ∧ St W L w' := by
 have hil := (List.getElem?_eq_some_iff.1 hx).1
 refine enter_args (l := [.slice (some ad) l.length ca, .int .i64 ((i : Nat) : Int)]) Tryz.func23 rfl rfl (Nat.le_of_ble_eq_true rfl) ?_
 intro a ha; replace ha : Has a 39 [(0, .slice (some ad) l.length ca), (1, .int .i64 ((i : Nat) : Int))] := ha
 refine zn1 ?_
 refine zv (.bool false) ha ?_; clear ha; intro a ha
 refine zn2 ?_
 refine wp_seq ?_
 refine zn1 ?_
 refine zv (.slice (some ad) l.length ca) ha ?_
 refine zzv (.int .i64 ((i : Nat) : Int)) ?_
 refine zzw (.pointer (some (ad.add (i * 16)))) (run_indexAddr' (kd := .i64) (i := ((i : Nat) : Int)) (n := l.length) (c := ca) i rfl Tryz.underlying22 Tryz.sizeOf37 (by kernel_rfl) (by kernel_rfl) rfl (by first | assumption | omega) _) ?_
 refine zzw (.pointer (some (ad.add (i * 16 + 1)))) (zfa 3) ?_
 refine zzw (.int .i64 x.kind) (zla (i * 16 + 1) ((hr _ s.sat).1) (by rw [evs_at hx (by omega)]; rfl)) ?_
 refine zzv (.bool (x.kind != (1 : Int))) ?_; clear ha; intro a ha
 refine zn2 ?_
 refine zzh (x.kind != (1 : Int)) ha ?_ ?_ <;> intro hb
 ·
  rw [hb] at ha; replace hb := zbn hb
  have ht0 := hb
  refine zn1 ?_
  refine zv (.bool true) ha ?_; clear ha; intro a ha
  refine zn2 ?_
  refine zzt ?_
  refine zzr (v := .bool true) ha ?_
  refine ⟨?_, s⟩
  congr 2
  clear s ha
  unfold beginsR
  first | (simp [*]; done) | (simp_all; done) | (simp [*]; omega)
 rw [hb] at ha; replace hb := zbq hb
 have ht0 := hb
 refine wp_skip ?_
 refine then_normal ?_
 refine zn1 ?_
 refine zv (.int .i64 0) ha ?_; clear ha; intro a ha
 refine zn2 ?_
 refine wp_seq ?_
 refine zn1 ?_
 refine zv (.int .i64 0) ha ?_; clear ha; intro a ha
 refine zn2 ?_
 refine wp_block ?_
 refine wp_loopG (G := Nat) (fun k a w => Has a 39 [(0, .slice (some ad) l.length ca), (1, .int .i64 ((i : Nat) : Int)), (5, .int .i64 (mostR (l.take k))), (6, .int .i64 ((k : Nat) : Int))] ∧ St W (L) w ∧ (k ≤ i)) (fun k => i - k) 0 ?_ ?_
 ·
  exact ⟨(Has.cons ha (by kernel_rfl) (by kernel_rfl) (Has.cons ha (by kernel_rfl) (by kernel_rfl) (Has.cons ha (by kernel_rfl) (by kernel_rfl) (Has.cons ha (by kernel_rfl) (by kernel_rfl) (Has.nil ha))))), s, Nat.zero_le _⟩
 clear ha s; rintro k a w ⟨ha, s, hp⟩
 refine wp_seq ?_
 refine zn1 ?_
 refine zv (.int .i64 ((k : Nat) : Int)) ha ?_
 refine zzv (.int .i64 ((i : Nat) : Int)) ?_
 refine zzv (.bool (decide (((k : Nat) : Int) < ((i : Nat) : Int)))) ?_; clear ha; intro a ha
 refine zn2 ?_
 refine zzh (decide (((k : Nat) : Int) < ((i : Nat) : Int))) ha ?_ ?_ <;> intro hb
 ·
  rw [hb] at ha; replace hb : (((k : Nat) : Int) < ((i : Nat) : Int)) := of_decide_eq_true hb
  have ht1 := hb
  obtain ⟨y, hy⟩ : ∃ y, l[k]? = some y := ⟨_, List.getElem?_eq_getElem (by omega)⟩
  refine wp_skip ?_
  refine then_normal ?_
  refine wp_seq ?_
  refine wp_block ?_
  refine zn1 ?_
  refine zv (.slice (some ad) l.length ca) ha ?_
  refine zzv (.int .i64 ((k : Nat) : Int)) ?_
  refine zzw (.pointer (some (ad.add (k * 16)))) (run_indexAddr' (kd := .i64) (i := ((k : Nat) : Int)) (n := l.length) (c := ca) k rfl Tryz.underlying22 Tryz.sizeOf37 (by kernel_rfl) (by kernel_rfl) rfl (by first | assumption | omega) _) ?_
  refine zzw (.pointer (some (ad.add (k * 16 + 1)))) (zfa 3) ?_
  refine zzw (.int .i64 y.kind) (zla (k * 16 + 1) ((hr _ s.sat).1) (by rw [evs_at hy (by omega)]; rfl)) ?_
  refine zzv (.bool (y.kind == (1 : Int))) ?_; clear ha; intro a ha
  refine zn2 ?_
  refine zzh (y.kind == (1 : Int)) ha ?_ ?_ <;> intro hb
  ·
   rw [hb] at ha; replace hb := eq_of_beq hb
   have ht2 := hb
   refine wp_region_lit ?_
   refine zv (.int .i64 (mostR (l.take k))) ha ?_
   refine zzv (.slice (some ad) l.length ca) ?_
   refine zzv (.int .i64 ((k : Nat) : Int)) ?_
   refine zzw (.pointer (some (ad.add (k * 16)))) (run_indexAddr' (kd := .i64) (i := ((k : Nat) : Int)) (n := l.length) (c := ca) k rfl Tryz.underlying22 Tryz.sizeOf37 (by kernel_rfl) (by kernel_rfl) rfl (by first | assumption | omega) _) ?_
   refine zzw (.pointer (some (ad.add (k * 16 + 3)))) (zfa 3) ?_
   refine zzw (.int .i64 y.id) (zla (k * 16 + 3) ((hr _ s.sat).1) (by rw [evs_at hy (by omega)]; rfl)) ?_
   refine zzw (.int .i64 (max (mostR (l.take k)) y.id)) (run_max2 (p := (mostR (l.take k))) (q := y.id) (max (mostR (l.take k)) y.id) rfl (by kernel_rfl) (by kernel_rfl) (by split <;> omega) _) ?_
   refine zzv (.int .i64 (max (mostR (l.take k)) y.id)) ?_; clear ha; intro a ha
   refine wpList_nil ?_
   refine block_normal ?_
   refine then_normal ?_
   refine wp_region_lit ?_
   refine zv (.int .i64 ((k : Nat) : Int)) ha ?_
   refine zzw (.int .i64 ((k + 1 : Nat) : Int)) zar ?_
   refine zzv (.int .i64 ((k + 1 : Nat) : Int)) ?_; clear ha; intro a ha
   refine zn2 ?_
   have hu : mostR (l.take (k + 1)) = (max (mostR (l.take k)) y.id) := by rw [take_snoc hy, mostR_snoc]; unfold mostStep; clear s ha; simp [*]
   exact ⟨k + 1, (show i - (k + 1) < i - k by omega), by rw [hu]; exact (Has.cons ha (by kernel_rfl) (by kernel_rfl) (Has.cons ha (by kernel_rfl) (by kernel_rfl) (Has.cons ha (by kernel_rfl) (by kernel_rfl) (Has.cons ha (by kernel_rfl) (by kernel_rfl) (Has.nil ha))))), s, (show k + 1 ≤ i by omega)⟩
  rw [hb] at ha; replace hb := ne_of_beq_false hb
  have ht2 := hb
  refine wp_skip ?_
  refine block_normal ?_
  refine then_normal ?_
  refine wp_region_lit ?_
  refine zv (.int .i64 ((k : Nat) : Int)) ha ?_
  refine zzw (.int .i64 ((k + 1 : Nat) : Int)) zar ?_
  refine zzv (.int .i64 ((k + 1 : Nat) : Int)) ?_; clear ha; intro a ha
  refine zn2 ?_
  have hu : mostR (l.take (k + 1)) = (mostR (l.take k)) := by rw [take_snoc hy, mostR_snoc]; unfold mostStep; clear s ha; simp [*]
  exact ⟨k + 1, (show i - (k + 1) < i - k by omega), by rw [hu]; exact (Has.cons ha (by kernel_rfl) (by kernel_rfl) (Has.cons ha (by kernel_rfl) (by kernel_rfl) (Has.cons ha (by kernel_rfl) (by kernel_rfl) (Has.cons ha (by kernel_rfl) (by kernel_rfl) (Has.nil ha))))), s, (show k + 1 ≤ i by omega)⟩
 rw [hb] at ha; replace hb : ¬ (((k : Nat) : Int) < ((i : Nat) : Int)) := of_decide_eq_false hb
 have ht1 := hb
 obtain rfl : i = k := by omega
 refine wp_exit ?_
 refine then_exit ?_
 refine then_exit ?_
 refine block_hit ?_
 refine then_normal ?_
 refine zn1 ?_
 refine zv (.slice (some ad) l.length ca) ha ?_
 refine zzv (.int .i64 ((i : Nat) : Int)) ?_
 refine zzw (.pointer (some (ad.add (i * 16)))) (run_indexAddr' (kd := .i64) (i := ((i : Nat) : Int)) (n := l.length) (c := ca) i rfl Tryz.underlying22 Tryz.sizeOf37 (by kernel_rfl) (by kernel_rfl) rfl (by first | assumption | omega) _) ?_
 refine zzw (.pointer (some (ad.add (i * 16 + 3)))) (zfa 3) ?_
 refine zzw (.int .i64 x.id) (zla (i * 16 + 3) ((hr _ s.sat).1) (by rw [evs_at hx (by omega)]; rfl)) ?_
 refine zzv (.int .i64 (mostR (l.take i))) ?_
 refine zzw (.int .i64 ((mostR (l.take i)) + (1 : Int))) (run_arith ((mostR (l.take i)) + (1 : Int)) ((mostR (l.take i)) + (1 : Int)) rfl (by kernel_rfl) (by kernel_rfl) (.inl ⟨rfl, rfl⟩) (by rw [wrap64_in (by omega)]) _) ?_
 refine zzv (.bool (x.id == ((mostR (l.take i)) + (1 : Int)))) ?_
 refine zzv (.bool (x.id == ((mostR (l.take i)) + (1 : Int)))) ?_; clear ha; intro a ha
 refine zn2 ?_
 refine wp_ret ?_
 refine zzr (v := .bool (x.id == ((mostR (l.take i)) + (1 : Int)))) ha ?_
 refine ⟨?_, s⟩
 congr 2
 clear s ha
 unfold beginsR
 first | (simp [*]; done) | (simp_all; done) | (simp [*]; omega)

end Go.Proofs.YtfcbjcohepkkfaaGreat.B
