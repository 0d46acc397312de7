import Derived.Test.YtfcbjcohepkkfaaGreatG5
import Derived.Test.YtfcbjcohepkkfaaGreatSepY
namespace Go.Proofs.YtfcbjcohepkkfaaGreat.B
open Go.RowKit Go.Maps Go.Sort Go.Shelf Go.Proofs.YtfcbjcohepkkfaaGreat.Sep Go.Proofs.YtfcbjcohepkkfaaGreat.P
set_option linter.unusedVariables false
set_option linter.unusedSimpArgs false

set_option maxRecDepth 100000 in
set_option maxHeartbeats 4000000 in
theorem rorder_any (W : World) (L : List Chunk) (w : World) (A : Option Addr) (ca : Nat) (l : List Ev) (hr : Knows L (EvsIn A l)) (hn : l.length ≤ 5000) (s : St W L w) :
  Calls Tryz.prog 27 #[.slice A l.length ca] w fun e w' => ∃ A1 c1 ds B1 c2 rs, e = .returned (.tuple #[.slice A1 ds.length c1, .slice B1 rs.length c2]) ∧ OrdS (orderR l) ds rs ∧ St W (Own 97 4 A1 ds.length c1 (nvs ds) :: Inn 99 ds :: Own 54 1 B1 rs.length c2 (ats rs) :: InnA rs :: L) w' := by
 refine enter_args (l := [.slice A l.length ca]) Tryz.func27 rfl rfl (Nat.le_of_ble_eq_true rfl) ?_
 intro a ha; replace ha : Has a 137 [(0, .slice A l.length ca)] := ha
 refine zn1 ?_
 refine zv (.slice none 0 0) ha ?_
 refine zzv (.slice none 0 0) ?_; clear ha; intro a ha
 refine zn4 ?_
 refine zv (.slice none 0 0) ha ?_; clear ha; intro a ha
 refine zn4 ?_
 refine zv (.slice none 0 0) ha ?_; clear ha; intro a ha
 refine zn4 ?_
 refine zv (.int .i64 0) ha ?_; clear ha; intro a ha
 refine zn2 ?_
 refine wp_seq ?_
 refine zn1 ?_
 refine zv (.int .i64 0) ha ?_; clear ha; intro a ha
 refine zn2 ?_
 refine wp_block ?_
 refine wp_loopG (G := (Nat × Int)) (fun ⟨i, m⟩ a w => Has a 137 [(0, .slice A l.length ca), (4, .slice none 0 0), (5, .slice none 0 0), (6, .int .i64 m), (7, .int .i64 ((i : Nat) : Int))] ∧ St W (L) w ∧ (i ≤ l.length)) (fun ⟨i, m⟩ => l.length - i) (0, 0) ?_ ?_
 ·
  exact ⟨(Has.cons ha (by kernel_rfl) (by kernel_rfl) (Has.cons ha (by kernel_rfl) (by kernel_rfl) (Has.cons ha (by kernel_rfl) (by kernel_rfl) (Has.cons ha (by kernel_rfl) (by kernel_rfl) (Has.cons ha (by kernel_rfl) (by kernel_rfl) (Has.nil ha)))))), s, Nat.zero_le _⟩
 clear ha s; rintro ⟨i, m⟩ a w ⟨ha, s, hp⟩
 refine wp_seq ?_
 refine zn1 ?_
 refine zv (.int .i64 ((i : Nat) : Int)) ha ?_
 refine zzv (.slice A l.length ca) ?_
 refine zzv (.int .i64 ((l.length : Nat) : Int)) ?_
 refine zzv (.bool (decide (((i : Nat) : Int) < ((l.length : Nat) : Int)))) ?_; clear ha; intro a ha
 refine zn2 ?_
 refine zzh (decide (((i : Nat) : Int) < ((l.length : Nat) : Int))) ha ?_ ?_ <;> intro hb
 ·
  rw [hb] at ha; replace hb : (((i : Nat) : Int) < ((l.length : Nat) : Int)) := of_decide_eq_true hb
  have ht0 := hb
  obtain ⟨ad, hA⟩ := Reads.addr (hr _ s.sat).1 (by omega)
  subst hA
  obtain ⟨x, hx⟩ : ∃ x, l[i]? = some x := ⟨_, List.getElem?_eq_getElem (by omega)⟩
  refine wp_skip ?_
  refine then_normal ?_
  refine wp_seq ?_
  refine wp_block ?_
  refine zn1 ?_
  refine zv (.slice (some ad) l.length ca) ha ?_
  refine zzv (.int .i64 ((i : Nat) : Int)) ?_
  refine zzw (.pointer (some (ad.add (i * 16)))) (run_indexAddr' (kd := .i64) (i := ((i : Nat) : Int)) (n := l.length) (c := ca) i rfl Tryz.underlying22 Tryz.sizeOf37 (by kernel_rfl) (by kernel_rfl) rfl (by first | assumption | omega) _) ?_
  refine zzw (.agg (evv x).toArray) (run_loadAtN (i := i * 16) (evv x) ((hr _ s.sat).1) rfl (by kernel_rfl) Tryz.isAgg37 Tryz.sizeOf37 (fun q_ hq_ => evs_at hx hq_) rfl) ?_; clear ha; intro a ha
  refine zzc ha (rhas_any W _ w x s) ?_
  rintro _ w ⟨rfl, s⟩
  refine ⟨_, rfl, ?_⟩; clear ha; intro a ha
  refine zn2 ?_
  refine zzh (hasB x) ha ?_ ?_ <;> intro hb
  ·
   rw [hb] at ha; skip
   have ht1 := hb
   refine wp_region_lit ?_
   refine zv (.int .i64 m) ha ?_
   refine zzv (.slice (some ad) l.length ca) ?_
   refine zzv (.int .i64 ((i : Nat) : Int)) ?_
   refine zzw (.pointer (some (ad.add (i * 16)))) (run_indexAddr' (kd := .i64) (i := ((i : Nat) : Int)) (n := l.length) (c := ca) i rfl Tryz.underlying22 Tryz.sizeOf37 (by kernel_rfl) (by kernel_rfl) rfl (by first | assumption | omega) _) ?_
   refine zzw (.pointer (some (ad.add (i * 16 + 3)))) (zfa 3) ?_
   refine zzw (.int .i64 x.id) (zla (i * 16 + 3) ((hr _ s.sat).1) (by rw [evs_at hx (by omega)]; rfl)) ?_
   refine zzw (.int .i64 (max m x.id)) (run_max2 (p := m) (q := x.id) (max m x.id) rfl (by kernel_rfl) (by kernel_rfl) (by split <;> omega) _) ?_
   refine zzv (.int .i64 (max m x.id)) ?_; clear ha; intro a ha
   refine wpList_nil ?_
   refine block_normal ?_
   refine then_normal ?_
   refine wp_region_lit ?_
   refine zv (.int .i64 ((i : Nat) : Int)) ha ?_
   refine zzw (.int .i64 ((i + 1 : Nat) : Int)) zar ?_
   refine zzv (.int .i64 ((i + 1 : Nat) : Int)) ?_; clear ha; intro a ha
   refine zn2 ?_
   exact ⟨(i + 1, (max m x.id)), (show l.length - (i + 1) < l.length - i by omega), (Has.cons ha (by kernel_rfl) (by kernel_rfl) (Has.cons ha (by kernel_rfl) (by kernel_rfl) (Has.cons ha (by kernel_rfl) (by kernel_rfl) (Has.cons ha (by kernel_rfl) (by kernel_rfl) (Has.cons ha (by kernel_rfl) (by kernel_rfl) (Has.nil ha)))))), s, (show i + 1 ≤ l.length by omega)⟩
  rw [hb] at ha; skip
  have ht1 := hb
  refine wp_skip ?_
  refine block_normal ?_
  refine then_normal ?_
  refine wp_region_lit ?_
  refine zv (.int .i64 ((i : Nat) : Int)) ha ?_
  refine zzw (.int .i64 ((i + 1 : Nat) : Int)) zar ?_
  refine zzv (.int .i64 ((i + 1 : Nat) : Int)) ?_; clear ha; intro a ha
  refine zn2 ?_
  exact ⟨(i + 1, m), (show l.length - (i + 1) < l.length - i by omega), (Has.cons ha (by kernel_rfl) (by kernel_rfl) (Has.cons ha (by kernel_rfl) (by kernel_rfl) (Has.cons ha (by kernel_rfl) (by kernel_rfl) (Has.cons ha (by kernel_rfl) (by kernel_rfl) (Has.cons ha (by kernel_rfl) (by kernel_rfl) (Has.nil ha)))))), s, (show i + 1 ≤ l.length by omega)⟩
 rw [hb] at ha; replace hb : ¬ (((i : Nat) : Int) < ((l.length : Nat) : Int)) := of_decide_eq_false hb
 have ht0 := hb
 refine wp_exit ?_
 refine then_exit ?_
 refine then_exit ?_
 refine block_hit ?_
 refine then_normal ?_
 refine wp_seq ?_
 refine zn1 ?_
 refine zv (.int .i64 0) ha ?_; clear ha; intro a ha
 refine zn2 ?_
 refine wp_block ?_
 replace s := star_nil (F := fun d : Dn => Own 99 7 d.A d.l.length d.c (dvs d.l)) (star_nil (F := fun a : At => Own 3 1 a.A a.l.length a.c (nats a.l)) (Own.none_ (e := 97) (k := 4) none (Own.none_ (e := 54) (k := 1) none s)))
 replace s := (((s.at_ (j := 1) rfl).at_ (j := 3) rfl).at_ (j := 2) rfl).at_ (j := 3) rfl
 dsimp only [List.eraseIdx] at s
 refine wp_loopG (G := (Nat × Option Addr × Nat × List Dn × Option Addr × Nat × List At)) (fun ⟨i, A1, c1, ds, B1, c2, rs⟩ a w => Has a 137 [(0, .slice A l.length ca), (4, .slice A1 ds.length c1), (5, .slice B1 rs.length c2), (8, .int .i64 ((i : Nat) : Int))] ∧ St W (Own 97 4 A1 ds.length c1 (nvs ds) :: star (ds.map fun d : Dn => Own 99 7 d.A d.l.length d.c (dvs d.l)) :: Own 54 1 B1 rs.length c2 (ats rs) :: star (rs.map fun a : At => Own 3 1 a.A a.l.length a.c (nats a.l)) :: L) w ∧ (i ≤ l.length ∧ OrdS ((l.take i).foldl (orderStepR l) []) ds rs)) (fun ⟨i, A1, c1, ds, B1, c2, rs⟩ => l.length - i) (0, none, 0, [], none, 0, []) ?_ ?_
 ·
  exact ⟨(Has.cons ha (by kernel_rfl) (by kernel_rfl) (Has.cons ha (by kernel_rfl) (by kernel_rfl) (Has.cons ha (by kernel_rfl) (by kernel_rfl) (Has.cons ha (by kernel_rfl) (by kernel_rfl) (Has.nil ha))))), s, ⟨Nat.zero_le _, OrdS.start⟩⟩
 clear ha s; rintro ⟨i, A1, c1, ds, B1, c2, rs⟩ a w ⟨ha, s, hp⟩
 refine wp_seq ?_
 refine zn1 ?_
 refine zv (.int .i64 ((i : Nat) : Int)) ha ?_
 refine zzv (.slice A l.length ca) ?_
 refine zzv (.int .i64 ((l.length : Nat) : Int)) ?_
 refine zzv (.bool (decide (((i : Nat) : Int) < ((l.length : Nat) : Int)))) ?_; clear ha; intro a ha
 refine zn2 ?_
 refine zzh (decide (((i : Nat) : Int) < ((l.length : Nat) : Int))) ha ?_ ?_ <;> intro hb
 ·
  rw [hb] at ha; replace hb : (((i : Nat) : Int) < ((l.length : Nat) : Int)) := of_decide_eq_true hb
  have ht1 := hb
  obtain ⟨ad, hA⟩ := Reads.addr (hr _ s.sat.tail.tail.tail.tail).1 (by omega)
  subst hA
  have ho := hp.2
  have hol := ho.len
  have hal := acc_len l i hp.1
  obtain ⟨x, hx⟩ : ∃ x, l[i]? = some x := ⟨_, List.getElem?_eq_getElem (by omega)⟩
  refine wp_skip ?_
  refine then_normal ?_
  refine wp_seq ?_
  refine wp_block ?_
  refine wp_seq ?_
  refine zn1 ?_
  refine zv (.slice (some ad) l.length ca) ha ?_
  refine zzv (.int .i64 ((i : Nat) : Int)) ?_
  refine zzw (.pointer (some (ad.add (i * 16)))) (run_indexAddr' (kd := .i64) (i := ((i : Nat) : Int)) (n := l.length) (c := ca) i rfl Tryz.underlying22 Tryz.sizeOf37 (by kernel_rfl) (by kernel_rfl) rfl (by first | assumption | omega) _) ?_
  refine zzw (.agg (evv x).toArray) (run_loadAtN (i := i * 16) (evv x) ((hr _ s.sat.tail.tail.tail.tail).1) rfl (by kernel_rfl) Tryz.isAgg37 Tryz.sizeOf37 (fun q_ hq_ => evs_at hx hq_) rfl) ?_; clear ha; intro a ha
  refine zzc ha (rhas_any W _ w x s) ?_
  rintro _ w ⟨rfl, s⟩
  refine ⟨_, rfl, ?_⟩; clear ha; intro a ha
  refine zv (.bool (!(hasB x))) ha ?_
  refine zzv (.bool (!(hasB x))) ?_; clear ha; intro a ha
  rcases Bool.eq_false_or_eq_true (!(hasB x)) with hb | hb
  ·
   rw [hb] at ha; skip
   have ht2 : hasB x = false := by simpa using hb
   refine zp ha ?_
   iterate 5 refine zzp ?_
   refine zzv (.bool true) ?_
   refine zzv (.bool true) ?_
   iterate 7 refine zzp ?_
   refine zzv (.bool true) ?_; clear ha; intro a ha
   refine zn2 ?_
   refine wp_true ha rfl (by kernel_rfl) ?_
   refine wp_exit ?_
   refine then_exit ?_
   refine block_hit ?_
   refine then_normal ?_
   refine wp_region_lit ?_
   refine zv (.int .i64 ((i : Nat) : Int)) ha ?_
   refine zzw (.int .i64 ((i + 1 : Nat) : Int)) zar ?_
   refine zzv (.int .i64 ((i + 1 : Nat) : Int)) ?_; clear ha; intro a ha
   refine zn2 ?_
   have hsame : OrdS (orderStepR l ((l.take i).foldl (orderStepR l) []) x) ds rs := by rw [show orderStepR l ((l.take i).foldl (orderStepR l) []) x = ((l.take i).foldl (orderStepR l) []) from if_neg (by simp [ht2])]; exact ho
   exact ⟨(i + 1, A1, c1, ds, B1, c2, rs), (show l.length - (i + 1) < l.length - i by omega), (Has.cons ha (by kernel_rfl) (by kernel_rfl) (Has.cons ha (by kernel_rfl) (by kernel_rfl) (Has.cons ha (by kernel_rfl) (by kernel_rfl) (Has.cons ha (by kernel_rfl) (by kernel_rfl) (Has.nil ha))))), s, (show i + 1 ≤ l.length by omega), by rw [orderR_snoc hx]; exact hsame⟩
  rw [hb] at ha; skip
  have ht2 : hasB x = true := by simpa using hb
  refine zv (.slice (some ad) l.length ca) ha ?_
  refine zzv (.int .i64 ((i : Nat) : Int)) ?_
  refine zzw (.pointer (some (ad.add (i * 16)))) (run_indexAddr' (kd := .i64) (i := ((i : Nat) : Int)) (n := l.length) (c := ca) i rfl Tryz.underlying22 Tryz.sizeOf37 (by kernel_rfl) (by kernel_rfl) rfl (by first | assumption | omega) _) ?_
  refine zzw (.agg (evv x).toArray) (run_loadAtN (i := i * 16) (evv x) ((hr _ s.sat.tail.tail.tail.tail).1) rfl (by kernel_rfl) Tryz.isAgg37 Tryz.sizeOf37 (fun q_ hq_ => evs_at hx hq_) rfl) ?_; clear ha; intro a ha
  refine zzc ha (rcom_any W _ w x s) ?_
  rintro _ w ⟨rfl, s⟩
  refine ⟨_, rfl, ?_⟩; clear ha; intro a ha
  refine zv (.bool (!(comB x))) ha ?_
  refine zzv (.bool (!(comB x))) ?_
  refine zzv (.bool (!(comB x))) ?_; clear ha; intro a ha
  rcases Bool.eq_false_or_eq_true (!(comB x)) with hb | hb
  ·
   rw [hb] at ha; skip
   have ht3 : comB x = false := by simpa using hb
   refine zp ha ?_
   iterate 6 refine zzp ?_
   refine zzv (.bool true) ?_; clear ha; intro a ha
   refine zn2 ?_
   refine wp_true ha rfl (by kernel_rfl) ?_
   refine wp_exit ?_
   refine then_exit ?_
   refine block_hit ?_
   refine then_normal ?_
   refine wp_region_lit ?_
   refine zv (.int .i64 ((i : Nat) : Int)) ha ?_
   refine zzw (.int .i64 ((i + 1 : Nat) : Int)) zar ?_
   refine zzv (.int .i64 ((i + 1 : Nat) : Int)) ?_; clear ha; intro a ha
   refine zn2 ?_
   have hsame : OrdS (orderStepR l ((l.take i).foldl (orderStepR l) []) x) ds rs := by rw [show orderStepR l ((l.take i).foldl (orderStepR l) []) x = ((l.take i).foldl (orderStepR l) []) from if_neg (by simp [ht2, ht3])]; exact ho
   exact ⟨(i + 1, A1, c1, ds, B1, c2, rs), (show l.length - (i + 1) < l.length - i by omega), (Has.cons ha (by kernel_rfl) (by kernel_rfl) (Has.cons ha (by kernel_rfl) (by kernel_rfl) (Has.cons ha (by kernel_rfl) (by kernel_rfl) (Has.cons ha (by kernel_rfl) (by kernel_rfl) (Has.nil ha))))), s, (show i + 1 ≤ l.length by omega), by rw [orderR_snoc hx]; exact hsame⟩
  rw [hb] at ha; skip
  have ht3 : comB x = true := by simpa using hb
  refine zv (.slice A1 ds.length c1) ha ?_
  refine zzv (.slice (some ad) l.length ca) ?_
  refine zzv (.int .i64 ((i : Nat) : Int)) ?_
  refine zzw (.pointer (some (ad.add (i * 16)))) (run_indexAddr' (kd := .i64) (i := ((i : Nat) : Int)) (n := l.length) (c := ca) i rfl Tryz.underlying22 Tryz.sizeOf37 (by kernel_rfl) (by kernel_rfl) rfl (by first | assumption | omega) _) ?_
  refine zzw (.pointer (some (ad.add (i * 16 + 3)))) (zfa 3) ?_
  refine zzw (.int .i64 x.id) (zla (i * 16 + 3) ((hr _ s.sat.tail.tail.tail.tail).1) (by rw [evs_at hx (by omega)]; rfl)) ?_; clear ha; intro a ha
  refine zzc ha ((by have := rseen_any W _ w A1 c1 ds (fun w s => Own.reads (Sat.perm s (perm_at (j := 0) rfl))) (by omega) x.id s; rwa [ho.ids] at this)) ?_
  rintro _ w ⟨rfl, s⟩
  refine ⟨_, rfl, ?_⟩; clear ha; intro a ha
  refine zv (.bool (((l.take i).foldl (orderStepR l) []).any fun q => decide (q.id = x.id))) ha ?_; clear ha; intro a ha
  refine zn2 ?_
  refine zzh (((l.take i).foldl (orderStepR l) []).any fun q => decide (q.id = x.id)) ha ?_ ?_ <;> intro hb
  ·
   rw [hb] at ha; skip
   have ht4 := hb
   refine wp_exit ?_
   refine then_exit ?_
   refine block_hit ?_
   refine then_normal ?_
   refine wp_region_lit ?_
   refine zv (.int .i64 ((i : Nat) : Int)) ha ?_
   refine zzw (.int .i64 ((i + 1 : Nat) : Int)) zar ?_
   refine zzv (.int .i64 ((i + 1 : Nat) : Int)) ?_; clear ha; intro a ha
   refine zn2 ?_
   have hsame : OrdS (orderStepR l ((l.take i).foldl (orderStepR l) []) x) ds rs := by rw [show orderStepR l ((l.take i).foldl (orderStepR l) []) x = ((l.take i).foldl (orderStepR l) []) from if_neg (by simp [ht2, ht3, ht4])]; exact ho
   exact ⟨(i + 1, A1, c1, ds, B1, c2, rs), (show l.length - (i + 1) < l.length - i by omega), (Has.cons ha (by kernel_rfl) (by kernel_rfl) (Has.cons ha (by kernel_rfl) (by kernel_rfl) (Has.cons ha (by kernel_rfl) (by kernel_rfl) (Has.cons ha (by kernel_rfl) (by kernel_rfl) (Has.nil ha))))), s, (show i + 1 ≤ l.length by omega), by rw [orderR_snoc hx]; exact hsame⟩
  rw [hb] at ha; skip
  have ht4 := hb
  refine wp_skip ?_
  refine then_normal ?_
  refine zn1 ?_
  refine zv (.slice (some ad) l.length ca) ha ?_
  refine zzv (.int .i64 ((i : Nat) : Int)) ?_
  refine zzw (.pointer (some (ad.add (i * 16)))) (run_indexAddr' (kd := .i64) (i := ((i : Nat) : Int)) (n := l.length) (c := ca) i rfl Tryz.underlying22 Tryz.sizeOf37 (by kernel_rfl) (by kernel_rfl) rfl (by first | assumption | omega) _) ?_
  refine zzw (.pointer (some (ad.add (i * 16 + 3)))) (zfa 3) ?_
  refine zzw (.int .i64 x.id) (zla (i * 16 + 3) ((hr _ s.sat.tail.tail.tail.tail).1) (by rw [evs_at hx (by omega)]; rfl)) ?_
  refine zzv (.int .i64 x.id) ?_; clear ha; intro a ha
  refine zn4 ?_
  refine zv (.slice (some ad) l.length ca) ha ?_
  refine zzv (.int .i64 x.id) ?_; clear ha; intro a ha
  obtain ⟨e0, he0⟩ : ∃ e, e = endE l x.id := ⟨_, rfl⟩
  refine zzc ha ((by have := rend_any W _ w ad ca l (fun w s => hr w s.tail.tail.tail.tail) hn x.id s; rwa [← he0] at this)) ?_
  rintro _ w ⟨rfl, s⟩
  refine ⟨_, rfl, ?_⟩; clear ha; intro a ha
  refine zze ha (ex_alloc [.bool false, .int .i64 0, .int .i64 0, .int .i64 0] s rfl (Tryz.zeroValue93 _) (by kernel_rfl)) ?_
  clear ha; rintro _ w a ⟨g1, rfl, s⟩ ha
  refine zzd ha (ex_store (of_ := 0) 0 [.bool ((endR l x.id).isSome), .int .i64 e0.epoch, .int .i64 e0.wall, .int .i64 e0.logic] s rfl rfl (by kernel_rfl) (by kernel_rfl) (Tryz.sizeOf93 _) rfl (by simp [Value.oneCell']) (Nat.le_of_ble_eq_true rfl)) ?_
  clear ha; rintro w a s ha
  dsimp only [List.set, putAt] at s
  refine zn4 ?_
  refine zv (.int .i64 x.id) ha ?_
  refine zzv (.pointer (some ⟨g1, 2, none⟩)) ?_
  refine zzw (.agg #[.int .i64 e0.wall, .int .i64 e0.logic]) (zln 0 2) ?_
  refine zzv (.agg #[.int .i64 x.id, .int .i64 e0.wall, .int .i64 e0.logic, .slice none 0 0]) ?_; clear ha; intro a ha
  refine zze ha (ex_alloc [.int .i64 0, .int .i64 0, .int .i64 0, .slice none 0 0] s rfl (Tryz.zeroValue97 _) (by kernel_rfl)) ?_
  clear ha; rintro _ w a ⟨g2, rfl, s⟩ ha
  refine zzd ha (ex_store (of_ := 0) 0 [.int .i64 x.id, .int .i64 e0.wall, .int .i64 e0.logic, .slice none 0 0] s rfl rfl (by kernel_rfl) (by kernel_rfl) (Tryz.sizeOf97 _) rfl (by simp [Value.oneCell']) (Nat.le_of_ble_eq_true rfl)) ?_
  clear ha; rintro w a s ha
  dsimp only [List.set, putAt] at s
  refine zn4 ?_
  refine zv (.slice none 0 0) ha ?_; clear ha; intro a ha
  refine zn2 ?_
  refine wp_seq ?_
  refine zn1 ?_
  refine zv (.int .i64 0) ha ?_; clear ha; intro a ha
  refine zn2 ?_
  refine wp_block ?_
  replace s := Own.none_ (e := 99) (k := 7) none (Own.none_ (e := 3) (k := 1) none s)
  replace s := (((((((s.at_ (j := 7) rfl).at_ (j := 7) rfl).at_ (j := 7) rfl).at_ (j := 7) rfl).at_ (j := 5) rfl).at_ (j := 5) rfl).at_ (j := 6) rfl).at_ (j := 7) rfl
  dsimp only [List.eraseIdx] at s
  refine wp_loopG (G := (Nat × Option Addr × Nat × Option Addr × Nat)) (fun ⟨k, A3, c3, B3, c4⟩ a w => Has a 137 [(0, .slice (some ad) l.length ca), (4, .slice A1 ds.length c1), (5, .slice B1 rs.length c2), (8, .int .i64 ((i : Nat) : Int)), (9, .int .i64 x.id), (10, .pointer (some ⟨g1, 0, none⟩)), (11, .pointer (some ⟨g2, 0, none⟩)), (12, .slice B3 (((thP l x.id e0.epoch k).map (·.1)).length) c4), (13, .int .i64 ((k : Nat) : Int))] ∧ St W (.blk g1 [.bool ((endR l x.id).isSome), .int .i64 e0.epoch, .int .i64 e0.wall, .int .i64 e0.logic] 93 :: .blk g2 [.int .i64 x.id, .int .i64 e0.wall, .int .i64 e0.logic, .slice A3 (((thP l x.id e0.epoch k).map fun p => didOf p.2).length) c3] 97 :: Own 99 7 A3 (((thP l x.id e0.epoch k).map fun p => didOf p.2).length) c3 (dvs ((thP l x.id e0.epoch k).map fun p => didOf p.2)) :: Own 3 1 B3 (((thP l x.id e0.epoch k).map (·.1)).length) c4 (nats ((thP l x.id e0.epoch k).map (·.1))) :: Own 97 4 A1 ds.length c1 (nvs ds) :: star (ds.map fun d : Dn => Own 99 7 d.A d.l.length d.c (dvs d.l)) :: Own 54 1 B1 rs.length c2 (ats rs) :: star (rs.map fun a : At => Own 3 1 a.A a.l.length a.c (nats a.l)) :: L) w ∧ (k ≤ l.length)) (fun ⟨k, A3, c3, B3, c4⟩ => l.length - k) (0, none, 0, none, 0) ?_ ?_
  ·
   exact ⟨(Has.cons ha (by kernel_rfl) (by kernel_rfl) (Has.cons ha (by kernel_rfl) (by kernel_rfl) (Has.cons ha (by kernel_rfl) (by kernel_rfl) (Has.cons ha (by kernel_rfl) (by kernel_rfl) (Has.cons ha (by kernel_rfl) (by kernel_rfl) (Has.cons ha (by kernel_rfl) (by kernel_rfl) (Has.cons ha (by kernel_rfl) (by kernel_rfl) (Has.cons ha (by kernel_rfl) (by kernel_rfl) (Has.cons ha (by kernel_rfl) (by kernel_rfl) (Has.nil ha)))))))))), s, Nat.zero_le _⟩
  clear ha s; rintro ⟨k, A3, c3, B3, c4⟩ a w ⟨ha, s, hp⟩
  refine wp_seq ?_
  refine zn1 ?_
  refine zv (.int .i64 ((k : Nat) : Int)) ha ?_
  refine zzv (.slice (some ad) l.length ca) ?_
  refine zzv (.int .i64 ((l.length : Nat) : Int)) ?_
  refine zzv (.bool (decide (((k : Nat) : Int) < ((l.length : Nat) : Int)))) ?_; clear ha; intro a ha
  refine zn2 ?_
  refine zzh (decide (((k : Nat) : Int) < ((l.length : Nat) : Int))) ha ?_ ?_ <;> intro hb
  ·
   rw [hb] at ha; replace hb : (((k : Nat) : Int) < ((l.length : Nat) : Int)) := of_decide_eq_true hb
   have ht5 := hb
   obtain ⟨y, hy⟩ : ∃ y, l[k]? = some y := ⟨_, List.getElem?_eq_getElem (by omega)⟩
   have htl := thP_len l x.id e0.epoch k
   have htm : ((thP l x.id e0.epoch k).map fun p => didOf p.2).length ≤ k := by rw [List.length_map]; exact htl
   have htm3 : ((thP l x.id e0.epoch k).map (·.1)).length ≤ k := by rw [List.length_map]; exact htl
   have hlt4 := hb
   refine wp_skip ?_
   refine then_normal ?_
   refine wp_seq ?_
   refine wp_block ?_
   refine wp_seq ?_
   refine wp_region_head 7 (fun w => Reads w 16 (some ad) l.length (evs l) ∧ BlkIs g1 [.bool ((endR l x.id).isSome), .int .i64 e0.epoch, .int .i64 e0.wall, .int .i64 e0.logic] w ∧ True) (by kernel_rfl) (by decide) ?_
   replace s := s.drew; generalize _root_.Go.World.drew _ = w at s ⊢
   have hS : (fun w => Reads w 16 (some ad) l.length (evs l) ∧ BlkIs g1 [.bool ((endR l x.id).isSome), .int .i64 e0.epoch, .int .i64 e0.wall, .int .i64 e0.logic] w ∧ True) w := ⟨(hr _ s.sat.tail.tail.tail.tail.tail.tail.tail.tail).1, s.blkIs 0 rfl, trivial⟩
   refine yk (i := 0) (.slice (some ad) l.length ca) ha hS ?_
   refine yyk (i := 1) (.int .i64 ((k : Nat) : Int)) hS ?_
   refine yyv (i := 2) (.pointer (some (ad.add (k * 16)))) (fun w hS => (run_indexAddr' (kd := .i64) (i := ((k : Nat) : Int)) (n := l.length) (c := ca) k rfl Tryz.underlying22 Tryz.sizeOf37 (by kernel_rfl) (by kernel_rfl) rfl (by first | assumption | omega) _)) hS ?_
   refine yyv (i := 3) (.agg (evv y).toArray) (fun w hS => run_loadAtN (i := k * 16) (evv y) hS.1 rfl (by kernel_rfl) Tryz.isAgg37 Tryz.sizeOf37 (fun q_ hq_ => evs_at hy hq_) rfl) hS ?_
   refine yyk (i := 4) (.int .i64 x.id) hS ?_
   refine yyk (i := 5) (.pointer (some ⟨g1, 1, none⟩)) hS ?_
   refine yyv (i := 6) (.int .i64 e0.epoch) (fun w hS => run_load1 (of_ := 1) hS.2.1 rfl (by kernel_rfl) Tryz.isAgg3 rfl) hS ?_; clear ha; intro a ha
   refine Head.done (by kernel_rfl) ?_
   clear hS; simp only [List.drop_succ_cons, List.drop_zero]
   refine zzc ha (rdid_any W _ w y x.id e0.epoch s) ?_
   rintro _ w ⟨rfl, s⟩
   refine ⟨_, rfl, ?_⟩; clear ha; intro a ha
   refine zn2 ?_
   refine zzh (didR x.id e0.epoch y) ha ?_ ?_ <;> intro hb
   ·
    rw [hb] at ha; skip
    have ht6 := hb
    refine wp_seq ?_
    refine wp_region_head 34 (fun w => BlkIs g2 [.int .i64 x.id, .int .i64 e0.wall, .int .i64 e0.logic, .slice A3 (((thP l x.id e0.epoch k).map fun p => didOf p.2).length) c3] w ∧ Reads w 16 (some ad) l.length (evs l) ∧ True) (by kernel_rfl) (by decide) ?_
    replace s := s.drew; generalize _root_.Go.World.drew _ = w at s ⊢
    have hS : (fun w => BlkIs g2 [.int .i64 x.id, .int .i64 e0.wall, .int .i64 e0.logic, .slice A3 (((thP l x.id e0.epoch k).map fun p => didOf p.2).length) c3] w ∧ Reads w 16 (some ad) l.length (evs l) ∧ True) w := ⟨s.blkIs 1 rfl, (hr _ s.sat.tail.tail.tail.tail.tail.tail.tail.tail).1, trivial⟩
    refine yk (i := 0) (.pointer (some ⟨g2, 3, none⟩)) ha hS ?_
    refine yyv (i := 1) (.slice A3 (((thP l x.id e0.epoch k).map fun p => didOf p.2).length) c3) (fun w hS => run_load1 (of_ := 3) hS.1 rfl (by kernel_rfl) Tryz.isAgg95 rfl) hS ?_
    refine yyk (i := 2) (.slice (some ad) l.length ca) hS ?_
    refine yyk (i := 3) (.int .i64 ((k : Nat) : Int)) hS ?_
    refine yyv (i := 4) (.pointer (some (ad.add (k * 16)))) (fun w hS => (run_indexAddr' (kd := .i64) (i := ((k : Nat) : Int)) (n := l.length) (c := ca) k rfl Tryz.underlying22 Tryz.sizeOf37 (by kernel_rfl) (by kernel_rfl) rfl (by first | assumption | omega) _)) hS ?_
    refine yyfa (i := 5) (.pointer (some (ad.add (k * 16 + 5)))) 3 hS ?_
    refine yyla (i := 6) (.int .i64 y.op) (k * 16 + 5) (fun _ hS => hS.2.1) (by rw [evs_at hy (by omega)]; rfl) hS ?_
    refine yyk (i := 7) (.slice (some ad) l.length ca) hS ?_
    refine yyk (i := 8) (.int .i64 ((k : Nat) : Int)) hS ?_
    refine yyv (i := 9) (.pointer (some (ad.add (k * 16)))) (fun w hS => (run_indexAddr' (kd := .i64) (i := ((k : Nat) : Int)) (n := l.length) (c := ca) k rfl Tryz.underlying22 Tryz.sizeOf37 (by kernel_rfl) (by kernel_rfl) rfl (by first | assumption | omega) _)) hS ?_
    refine yyfa (i := 10) (.pointer (some (ad.add (k * 16 + 6)))) 9 hS ?_
    refine yyla (i := 11) (.string (str y.key)) (k * 16 + 6) (fun _ hS => hS.2.1) (by rw [evs_at hy (by omega)]; rfl) hS ?_
    refine yyk (i := 12) (.slice (some ad) l.length ca) hS ?_
    refine yyk (i := 13) (.int .i64 ((k : Nat) : Int)) hS ?_
    refine yyv (i := 14) (.pointer (some (ad.add (k * 16)))) (fun w hS => (run_indexAddr' (kd := .i64) (i := ((k : Nat) : Int)) (n := l.length) (c := ca) k rfl Tryz.underlying22 Tryz.sizeOf37 (by kernel_rfl) (by kernel_rfl) rfl (by first | assumption | omega) _)) hS ?_
    refine yyfa (i := 15) (.pointer (some (ad.add (k * 16 + 7)))) 9 hS ?_
    refine yyla (i := 16) (.string (str y.val)) (k * 16 + 7) (fun _ hS => hS.2.1) (by rw [evs_at hy (by omega)]; rfl) hS ?_
    refine yyk (i := 17) (.slice (some ad) l.length ca) hS ?_
    refine yyk (i := 18) (.int .i64 ((k : Nat) : Int)) hS ?_
    refine yyv (i := 19) (.pointer (some (ad.add (k * 16)))) (fun w hS => (run_indexAddr' (kd := .i64) (i := ((k : Nat) : Int)) (n := l.length) (c := ca) k rfl Tryz.underlying22 Tryz.sizeOf37 (by kernel_rfl) (by kernel_rfl) rfl (by first | assumption | omega) _)) hS ?_
    refine yyfa (i := 20) (.pointer (some (ad.add (k * 16 + 8)))) 32 hS ?_
    refine yyv (i := 21) (.agg #[.string (str y.frm), .string (str y.to)]) (fun w hS => run_loadAtN (i := k * 16 + 8) [.string (str y.frm), .string (str y.to)] hS.2.1 rfl (by kernel_rfl) Tryz.isAgg32 Tryz.sizeOf32 (fun q_ hq_ => by rw [Nat.add_assoc, evs_at hy (by omega)]; match q_, hq_ with | 0, _ => rfl | 1, _ => rfl) rfl) hS ?_
    refine yyk (i := 22) (.slice (some ad) l.length ca) hS ?_
    refine yyk (i := 23) (.int .i64 ((k : Nat) : Int)) hS ?_
    refine yyv (i := 24) (.pointer (some (ad.add (k * 16)))) (fun w hS => (run_indexAddr' (kd := .i64) (i := ((k : Nat) : Int)) (n := l.length) (c := ca) k rfl Tryz.underlying22 Tryz.sizeOf37 (by kernel_rfl) (by kernel_rfl) rfl (by first | assumption | omega) _)) hS ?_
    refine yyfa (i := 25) (.pointer (some (ad.add (k * 16 + 10)))) 4 hS ?_
    refine yyla (i := 26) (.bool y.is) (k * 16 + 10) (fun _ hS => hS.2.1) (by rw [evs_at hy (by omega)]; rfl) hS ?_
    refine yyk (i := 27) (.slice (some ad) l.length ca) hS ?_
    refine yyk (i := 28) (.int .i64 ((k : Nat) : Int)) hS ?_
    refine yyv (i := 29) (.pointer (some (ad.add (k * 16)))) (fun w hS => (run_indexAddr' (kd := .i64) (i := ((k : Nat) : Int)) (n := l.length) (c := ca) k rfl Tryz.underlying22 Tryz.sizeOf37 (by kernel_rfl) (by kernel_rfl) rfl (by first | assumption | omega) _)) hS ?_
    refine yyfa (i := 30) (.pointer (some (ad.add (k * 16 + 11)))) 33 hS ?_
    refine yyla (i := 31) (.slice y.A y.rows.length y.c) (k * 16 + 11) (fun _ hS => hS.2.1) (by rw [evs_at hy (by omega)]; rfl) hS ?_
    refine yyk (i := 32) (.agg #[.int .i64 y.op, .string (str y.key), .string (str y.val), .string (str y.frm), .string (str y.to), .bool y.is, .slice y.A y.rows.length y.c]) hS ?_; clear ha; intro a ha
    refine hd_ex (i := 33) ha rfl (by kernel_rfl) (by kernel_rfl) (ex_buildSlice elt95 _ zs95 [.int .i64 y.op, .string (str y.key), .string (str y.val), .string (str y.frm), .string (str y.to), .bool y.is, .slice y.A y.rows.length y.c] s rfl (by kernel_rfl) (by decide)) ?_
    clear hS; rintro _ w ⟨g3, rfl, s⟩
    have hS : (fun w => BlkIs g2 [.int .i64 x.id, .int .i64 e0.wall, .int .i64 e0.logic, .slice A3 (((thP l x.id e0.epoch k).map fun p => didOf p.2).length) c3] w ∧ Reads w 16 (some ad) l.length (evs l) ∧ True) w := ⟨s.blkIs 2 rfl, (hr _ s.sat.tail.tail.tail.tail.tail.tail.tail.tail.tail).1, trivial⟩
    refine ⟨hS, ?_⟩; clear ha; intro a ha
    refine Head.done (by kernel_rfl) ?_
    clear hS; simp only [List.drop_succ_cons, List.drop_zero]
    refine zze ha (ex_append (m := 1) (d' := 1) elt95 (by decide) 3 [.int .i64 y.op, .string (str y.key), .string (str y.val), .string (str y.frm), .string (str y.to), .bool y.is, .slice y.A y.rows.length y.c] s rfl (by kernel_rfl) (by kernel_rfl) rfl (reads_blk (s.blkIs 0 rfl) rfl) (by simp [Value.oneCell']) (by simp only [maxLen]; omega) (by omega)) ?_
    clear ha; rintro _ w a ⟨A4, c5, rfl, hA_, s⟩ ha
    rw [show [.int .i64 y.op, .string (str y.key), .string (str y.val), .string (str y.frm), .string (str y.to), .bool y.is, .slice y.A y.rows.length y.c] = dv (didOf y) from rfl] at s
    refine zv (.pointer (some ⟨g2, 3, none⟩)) ha ?_; clear ha; intro a ha
    refine zzd ha (ex_store (of_ := 3) 2 [.slice A4 (((thP l x.id e0.epoch k).map fun p => didOf p.2).length + 1) c5] s rfl rfl (by kernel_rfl) (by kernel_rfl) (Tryz.sizeOf95 _) rfl (by simp [Value.oneCell']) (Nat.le_of_ble_eq_true rfl)) ?_
    clear ha; rintro w a s ha
    dsimp only [List.set, putAt] at s
    refine zn3 ?_
    refine zv (.slice B3 (((thP l x.id e0.epoch k).map (·.1)).length) c4) ha ?_
    refine zzv (.int .i64 ((k : Nat) : Int)) ?_; clear ha; intro a ha
    refine zze ha (ex_buildSlice elt54 _ zs54 [.int .i64 ((k : Nat) : Int)] s rfl (by kernel_rfl) (by decide)) ?_
    clear ha; rintro _ w a ⟨g6, rfl, s⟩ ha
    refine zze ha (ex_append (m := 1) (d' := 1) elt54 (by decide) 5 [.int .i64 ((k : Nat) : Int)] s rfl (by kernel_rfl) (by kernel_rfl) rfl (reads_blk (s.blkIs 0 rfl) rfl) (by simp [Value.oneCell']) (by simp only [maxLen]; omega) (by omega)) ?_
    clear ha; rintro _ w a ⟨A7, c8, rfl, hA_, s⟩ ha
    refine zv (.slice A7 (((thP l x.id e0.epoch k).map (·.1)).length + 1) c8) ha ?_; clear ha; intro a ha
    refine wpList_nil ?_
    refine block_normal ?_
    refine then_normal ?_
    refine wp_region_lit ?_
    refine zv (.int .i64 ((k : Nat) : Int)) ha ?_
    refine zzw (.int .i64 ((k + 1 : Nat) : Int)) zar ?_
    refine zzv (.int .i64 ((k + 1 : Nat) : Int)) ?_; clear ha; intro a ha
    refine zn2 ?_
    have hth := thP_next hy x.id e0.epoch
    rw [if_pos ht6] at hth
    rw [show ((thP l x.id e0.epoch k).map fun p => didOf p.2).length + 1 = ((thP l x.id e0.epoch (k + 1)).map fun p => didOf p.2).length from by rw [hth]; simp, show ((thP l x.id e0.epoch k).map (·.1)).length + 1 = ((thP l x.id e0.epoch (k + 1)).map (·.1)).length from by rw [hth]; simp] at s
    rw [show ((thP l x.id e0.epoch k).map (·.1)).length + 1 = ((thP l x.id e0.epoch (k + 1)).map (·.1)).length from by rw [hth]; simp] at ha
    rw [show dvs ((thP l x.id e0.epoch k).map fun p => didOf p.2) ++ dv (didOf y) = dvs ((thP l x.id e0.epoch (k + 1)).map fun p => didOf p.2) from by rw [hth]; simp [dvs], show nats ((thP l x.id e0.epoch k).map (·.1)) ++ [.int .i64 ((k : Nat) : Int)] = nats ((thP l x.id e0.epoch (k + 1)).map (·.1)) from by rw [hth]; simp [nats]] at s
    replace s := (((((((s.at_ (j := 9) rfl).at_ (j := 9) rfl).at_ (j := 9) rfl).at_ (j := 9) rfl).at_ (j := 9) rfl).at_ (j := 9) rfl).at_ (j := 9) rfl).at_ (j := 9) rfl
    replace s := s.k8_2
    exact ⟨(k + 1, A4, c5, A7, c8), (show l.length - (k + 1) < l.length - k by omega), (Has.cons ha (by kernel_rfl) (by kernel_rfl) (Has.cons ha (by kernel_rfl) (by kernel_rfl) (Has.cons ha (by kernel_rfl) (by kernel_rfl) (Has.cons ha (by kernel_rfl) (by kernel_rfl) (Has.cons ha (by kernel_rfl) (by kernel_rfl) (Has.cons ha (by kernel_rfl) (by kernel_rfl) (Has.cons ha (by kernel_rfl) (by kernel_rfl) (Has.cons ha (by kernel_rfl) (by kernel_rfl) (Has.cons ha (by kernel_rfl) (by kernel_rfl) (Has.nil ha)))))))))), s, (show k + 1 ≤ l.length by omega)⟩
   rw [hb] at ha; skip
   have ht6 := hb
   refine wp_skip ?_
   refine block_normal ?_
   refine then_normal ?_
   refine wp_region_lit ?_
   refine zv (.int .i64 ((k : Nat) : Int)) ha ?_
   refine zzw (.int .i64 ((k + 1 : Nat) : Int)) zar ?_
   refine zzv (.int .i64 ((k + 1 : Nat) : Int)) ?_; clear ha; intro a ha
   refine zn2 ?_
   have hth := thP_next hy x.id e0.epoch
   rw [if_neg (by rw [ht6]; decide)] at hth
   rw [← hth] at s ha
   exact ⟨(k + 1, A3, c3, B3, c4), (show l.length - (k + 1) < l.length - k by omega), (Has.cons ha (by kernel_rfl) (by kernel_rfl) (Has.cons ha (by kernel_rfl) (by kernel_rfl) (Has.cons ha (by kernel_rfl) (by kernel_rfl) (Has.cons ha (by kernel_rfl) (by kernel_rfl) (Has.cons ha (by kernel_rfl) (by kernel_rfl) (Has.cons ha (by kernel_rfl) (by kernel_rfl) (Has.cons ha (by kernel_rfl) (by kernel_rfl) (Has.cons ha (by kernel_rfl) (by kernel_rfl) (Has.cons ha (by kernel_rfl) (by kernel_rfl) (Has.nil ha)))))))))), s, (show k + 1 ≤ l.length by omega)⟩
  rw [hb] at ha; replace hb : ¬ (((k : Nat) : Int) < ((l.length : Nat) : Int)) := of_decide_eq_false hb
  have ht5 := hb
  have hkl : k = l.length := by omega
  have htl := thP_len l x.id e0.epoch k
  refine wp_exit ?_
  refine then_exit ?_
  refine then_exit ?_
  refine block_hit ?_
  refine then_normal ?_
  refine zn1 ?_
  refine zv (.slice A1 ds.length c1) ha ?_
  refine zzw (.agg #[.int .i64 x.id, .int .i64 e0.wall, .int .i64 e0.logic, .slice A3 (((thP l x.id e0.epoch k).map fun p => didOf p.2).length) c3]) (zln 1 0) ?_; clear ha; intro a ha
  refine zze ha (ex_buildSlice elt58 _ zs58 [.int .i64 x.id, .int .i64 e0.wall, .int .i64 e0.logic, .slice A3 (((thP l x.id e0.epoch k).map fun p => didOf p.2).length) c3] s rfl (by kernel_rfl) (by decide)) ?_
  clear ha; rintro _ w a ⟨g9, rfl, s⟩ ha
  refine zze ha (ex_append (m := 1) (d' := 1) elt58 (by decide) 5 [.int .i64 x.id, .int .i64 e0.wall, .int .i64 e0.logic, .slice A3 (((thP l x.id e0.epoch k).map fun p => didOf p.2).length) c3] s rfl (by kernel_rfl) (by kernel_rfl) rfl (reads_blk (s.blkIs 0 rfl) rfl) (by simp [Value.oneCell']) (by simp only [maxLen]; omega) (by omega)) ?_
  clear ha; rintro _ w a ⟨A10, c11, rfl, hA_, s⟩ ha
  rw [show [.int .i64 x.id, .int .i64 e0.wall, .int .i64 e0.logic, .slice A3 (((thP l x.id e0.epoch k).map fun p => didOf p.2).length) c3] = nv (⟨x.id, e0.wall, e0.logic, A3, c3, ((thP l x.id e0.epoch k).map fun p => didOf p.2)⟩ : Dn) from rfl, nvs_snoc] at s
  replace s := (s.at_ (j := 6) rfl).at_ (j := 4) rfl
  dsimp only [List.eraseIdx] at s
  replace s := star_snoc (F := fun d : Dn => Own 99 7 d.A d.l.length d.c (dvs d.l)) (⟨x.id, e0.wall, e0.logic, A3, c3, ((thP l x.id e0.epoch k).map fun p => didOf p.2)⟩ : Dn) s
  refine zv (.slice A10 (ds.length + 1) c11) ha ?_; clear ha; intro a ha
  refine zn3 ?_
  refine zv (.slice B1 rs.length c2) ha ?_
  refine zzv (.slice B3 (((thP l x.id e0.epoch k).map (·.1)).length) c4) ?_; clear ha; intro a ha
  refine zze ha (ex_buildSlice elt49 _ zs49 [.slice B3 (((thP l x.id e0.epoch k).map (·.1)).length) c4] s rfl (by kernel_rfl) (by decide)) ?_
  clear ha; rintro _ w a ⟨g12, rfl, s⟩ ha
  refine zze ha (ex_append (m := 1) (d' := 1) elt49 (by decide) 7 [.slice B3 (((thP l x.id e0.epoch k).map (·.1)).length) c4] s rfl (by kernel_rfl) (by kernel_rfl) rfl (reads_blk (s.blkIs 0 rfl) rfl) (by simp [Value.oneCell']) (by simp only [maxLen]; omega) (by omega)) ?_
  clear ha; rintro _ w a ⟨A13, c14, rfl, hA_, s⟩ ha
  rw [show [.slice B3 (((thP l x.id e0.epoch k).map (·.1)).length) c4] = atv (⟨((thP l x.id e0.epoch k).map (·.1)), B3, c4⟩ : At) from rfl, ats_snoc] at s
  replace s := (s.at_ (j := 8) rfl).at_ (j := 6) rfl
  dsimp only [List.eraseIdx] at s
  replace s := star_snoc (F := fun a : At => Own 3 1 a.A a.l.length a.c (nats a.l)) (⟨((thP l x.id e0.epoch k).map (·.1)), B3, c4⟩ : At) s
  obtain ⟨ds2, hds2⟩ : ∃ z, z = ds ++ [(⟨x.id, e0.wall, e0.logic, A3, c3, ((thP l x.id e0.epoch k).map fun p => didOf p.2)⟩ : Dn)] := ⟨_, rfl⟩
  obtain ⟨rs2, hrs2⟩ : ∃ z, z = rs ++ [(⟨((thP l x.id e0.epoch k).map (·.1)), B3, c4⟩ : At)] := ⟨_, rfl⟩
  have hl2 : ds.length + 1 = ds2.length := by rw [hds2]; simp
  have hr2 : rs.length + 1 = rs2.length := by rw [hrs2]; simp
  have hq : ((thP l x.id e0.epoch k)).length = ((thP l x.id e0.epoch k)).length := rfl
  have ho2 : OrdS (orderStepR l ((l.take i).foldl (orderStepR l) []) x) (ds ++ [(⟨x.id, e0.wall, e0.logic, A3, c3, ((thP l x.id e0.epoch k).map fun p => didOf p.2)⟩ : Dn)]) (rs ++ [(⟨((thP l x.id e0.epoch k).map (·.1)), B3, c4⟩ : At)]) := by
   rw [show orderStepR l ((l.take i).foldl (orderStepR l) []) x = ((l.take i).foldl (orderStepR l) []) ++ [gPl l x.id] from if_pos (by simp [ht2, ht3, ht4])]
   have hg : gPl l x.id = ⟨x.id, e0.wall, e0.logic, thP l x.id e0.epoch k⟩ := by unfold gPl thP; rw [← he0, hkl, List.take_length]
   rw [hg]; exact ho.snoc _ _ _ _ _
  rw [hl2, ← hds2, hr2, ← hrs2] at s
  refine zv (.slice A13 (rs.length + 1) c14) ha ?_; clear ha; intro a ha
  refine wpList_nil ?_
  refine block_normal ?_
  refine then_normal ?_
  rw [hl2, hr2] at ha
  refine wp_region_lit ?_
  refine zv (.int .i64 ((i : Nat) : Int)) ha ?_
  refine zzw (.int .i64 ((i + 1 : Nat) : Int)) zar ?_
  refine zzv (.int .i64 ((i + 1 : Nat) : Int)) ?_; clear ha; intro a ha
  refine zn2 ?_
  rw [← hds2, ← hrs2] at ho2
  replace s := ((s.at_ (j := 7) rfl).at_ (j := 3) rfl).at_ (j := 7) rfl
  replace s := s.k4_4
  exact ⟨(i + 1, A10, c11, ds2, A13, c14, rs2), (show l.length - (i + 1) < l.length - i by omega), (Has.cons ha (by kernel_rfl) (by kernel_rfl) (Has.cons ha (by kernel_rfl) (by kernel_rfl) (Has.cons ha (by kernel_rfl) (by kernel_rfl) (Has.cons ha (by kernel_rfl) (by kernel_rfl) (Has.nil ha))))), s, (show i + 1 ≤ l.length by omega), by rw [orderR_snoc hx]; exact ho2⟩
 rw [hb] at ha; replace hb : ¬ (((i : Nat) : Int) < ((l.length : Nat) : Int)) := of_decide_eq_false hb
 have ht1 := hb
 refine wp_exit ?_
 refine then_exit ?_
 refine then_exit ?_
 refine block_hit ?_
 refine then_normal ?_
 refine zn1 ?_
 refine zv (.slice A1 ds.length c1) ha ?_
 refine zzv (.slice B1 rs.length c2) ?_
 refine zzv (.slice A1 ds.length c1) ?_
 refine zzv (.slice B1 rs.length c2) ?_; clear ha; intro a ha
 refine zn2 ?_
 refine wp_ret ?_
 refine ret_with (v := .tuple #[.slice A1 ds.length c1, .slice B1 rs.length c2]) ha (results_2 rfl ha (res_tmp (by kernel_rfl) (by kernel_rfl)) (res_tmp (by kernel_rfl) (by kernel_rfl))) ?_
 have h := hp.2
 rw [List.take_of_length_le (by omega)] at h
 exact ⟨A1, c1, ds, B1, c2, rs, rfl, h, s⟩

end Go.Proofs.YtfcbjcohepkkfaaGreat.B
