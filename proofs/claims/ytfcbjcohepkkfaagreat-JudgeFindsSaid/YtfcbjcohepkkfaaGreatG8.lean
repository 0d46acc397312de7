import Derived.Test.YtfcbjcohepkkfaaGreatG7
import Derived.Test.YtfcbjcohepkkfaaGreatSepY
namespace Go.Proofs.YtfcbjcohepkkfaaGreat.B
open Go.RowKit Go.Maps Go.Sort Go.Shelf Go.Proofs.YtfcbjcohepkkfaaGreat.Sep Go.Proofs.YtfcbjcohepkkfaaGreat.P
set_option linter.unusedVariables false
set_option linter.unusedSimpArgs false

set_option maxRecDepth 100000 in
set_option maxHeartbeats 4000000 in
theorem rlate_any (W : World) (L : List Chunk) (w : World) (ad : Addr) (ca : Nat) (l : List Ev) (hr : Knows L (EvsIn (some ad) l)) (hn : l.length ≤ 5000) (i : Nat) (x : Ev) (hx : l[i]? = some x) (A : Option Addr) (cd : Nat) (ds : List Dn) (hd : Knows L (DonesIn A ds)) (hB : Bn ds) (hdl : ds.length ≤ 5000) (s : St W L w) :
  Calls Tryz.prog 29 #[.slice (some ad) l.length ca, .int .i64 ((i : Nat) : Int), .slice A ds.length cd] w fun e w' => e = .returned (.bool (lateB (l.take i) x ds)) ∧ St W L w' := by
 have hil := (List.getElem?_eq_some_iff.1 hx).1
 refine enter_args (l := [.slice (some ad) l.length ca, .int .i64 ((i : Nat) : Int), .slice A ds.length cd]) Tryz.func29 rfl rfl (Nat.le_of_ble_eq_true rfl) ?_
 intro a ha; replace ha : Has a 106 [(0, .slice (some ad) l.length ca), (1, .int .i64 ((i : Nat) : Int)), (2, .slice A ds.length cd)] := ha
 refine zn1 ?_
 refine zv (.bool false) ha ?_; clear ha; intro a ha
 refine zn2 ?_
 refine wp_seq ?_
 refine zn1 ?_
 refine zv (.int .i64 0) ha ?_; clear ha; intro a ha
 refine zn2 ?_
 refine wp_block ?_
 refine wp_loopG (G := Nat) (fun q a w => Has a 106 [(0, .slice (some ad) l.length ca), (1, .int .i64 ((i : Nat) : Int)), (2, .slice A ds.length cd), (7, .int .i64 ((q : Nat) : Int))] ∧ St W (L) w ∧ (q ≤ ds.length ∧ (ds.take q).any (p1 x ds (l.take i)) = false)) (fun q => ds.length - q) 0 ?_ ?_
 ·
  exact ⟨(Has.cons ha (by kernel_rfl) (by kernel_rfl) (Has.cons ha (by kernel_rfl) (by kernel_rfl) (Has.cons ha (by kernel_rfl) (by kernel_rfl) (Has.cons ha (by kernel_rfl) (by kernel_rfl) (Has.nil ha))))), s, ⟨Nat.zero_le _, rfl⟩⟩
 clear ha s; rintro q a w ⟨ha, s, hp⟩
 refine wp_seq ?_
 refine zn1 ?_
 refine zv (.int .i64 ((q : Nat) : Int)) ha ?_
 refine zzv (.slice A ds.length cd) ?_
 refine zzv (.int .i64 ((ds.length : Nat) : Int)) ?_
 refine zzv (.bool (decide (((q : Nat) : Int) < ((ds.length : Nat) : Int)))) ?_; clear ha; intro a ha
 refine zn2 ?_
 refine zzh (decide (((q : Nat) : Int) < ((ds.length : Nat) : Int))) ha ?_ ?_ <;> intro hb
 ·
  rw [hb] at ha; replace hb : (((q : Nat) : Int) < ((ds.length : Nat) : Int)) := of_decide_eq_true hb
  have ht0 := hb
  obtain ⟨n, hn0⟩ : ∃ n, ds[q]? = some n := ⟨_, List.getElem?_eq_getElem (by omega)⟩
  obtain ⟨dd, hA⟩ := Reads.addr (hd _ s.sat).1 (by omega)
  subst hA
  refine wp_skip ?_
  refine then_normal ?_
  refine wp_seq ?_
  refine wp_block ?_
  refine wp_seq ?_
  refine wp_seq ?_
  refine wp_region_head 17 (fun w => Reads w 16 (some ad) l.length (evs l) ∧ Reads w 4 (some dd) ds.length (nvs ds) ∧ True) (by kernel_rfl) (by decide) ?_
  replace s := s.drew; generalize _root_.Go.World.drew _ = w at s ⊢
  have hS : (fun w => Reads w 16 (some ad) l.length (evs l) ∧ Reads w 4 (some dd) ds.length (nvs ds) ∧ True) w := ⟨(hr _ s.sat).1, (hd _ s.sat).1, trivial⟩
  refine yk (i := 0) (.slice (some ad) l.length ca) ha hS ?_
  refine yyk (i := 1) (.int .i64 ((i : Nat) : Int)) hS ?_
  refine yyv (i := 2) (.pointer (some (ad.add (i * 16)))) (fun w hS => (run_indexAddr' (kd := .i64) (i := ((i : Nat) : Int)) (n := l.length) (c := ca) i rfl Tryz.underlying22 Tryz.sizeOf37 (by kernel_rfl) (by kernel_rfl) rfl (by first | assumption | omega) _)) hS ?_
  refine yyfa (i := 3) (.pointer (some (ad.add (i * 16 + 1)))) 3 hS ?_
  refine yyla (i := 4) (.int .i64 x.kind) (i * 16 + 1) (fun _ hS => hS.1) (by rw [evs_at hx (by omega)]; rfl) hS ?_
  refine yyk (i := 5) (.bool (x.kind != (1 : Int))) hS ?_
  refine yyk (i := 6) (.bool (x.kind != (1 : Int))) hS ?_; clear ha; intro a ha
  rcases Bool.eq_false_or_eq_true (x.kind != (1 : Int)) with hb | hb
  ·
   rw [hb] at ha; replace hb := zbn hb
   have ht1 := hb
   have h1 : p1 x ds (l.take i) n = false := by unfold p1; simp [ht1]
   refine yp (i := 7) ha hS ?_
   refine yyp (i := 8) hS ?_
   refine yyp (i := 9) hS ?_
   refine yyp (i := 10) hS ?_
   refine yyp (i := 11) hS ?_
   refine yyp (i := 12) hS ?_
   refine yyp (i := 13) hS ?_
   refine yyp (i := 14) hS ?_
   refine yyp (i := 15) hS ?_
   refine yyp (i := 16) hS ?_; clear ha; intro a ha
   refine Head.done (by kernel_rfl) ?_
   clear hS; simp only [List.drop_succ_cons, List.drop_zero]
   refine zp ha ?_
   refine zzv (.bool true) ?_; clear ha; intro a ha
   refine zn2 ?_
   refine wp_true ha rfl (by kernel_rfl) ?_
   refine wp_exit ?_
   refine then_exit ?_
   refine block_hit ?_
   refine then_normal ?_
   refine wp_region_lit ?_
   refine zv (.int .i64 ((q : Nat) : Int)) ha ?_
   refine zzw (.int .i64 ((q + 1 : Nat) : Int)) zar ?_
   refine zzv (.int .i64 ((q + 1 : Nat) : Int)) ?_; clear ha; intro a ha
   refine zn2 ?_
   exact ⟨q + 1, (show ds.length - (q + 1) < ds.length - q by omega), (Has.cons ha (by kernel_rfl) (by kernel_rfl) (Has.cons ha (by kernel_rfl) (by kernel_rfl) (Has.cons ha (by kernel_rfl) (by kernel_rfl) (Has.cons ha (by kernel_rfl) (by kernel_rfl) (Has.nil ha))))), s, (show q + 1 ≤ ds.length by omega), any_next hp.2 hn0 h1⟩
  rw [hb] at ha; replace hb := zbq hb
  have ht1 := hb
  refine yk (i := 7) (.slice (some dd) ds.length cd) ha hS ?_
  refine yyk (i := 8) (.int .i64 ((q : Nat) : Int)) hS ?_
  refine yyv (i := 9) (.pointer (some (dd.add (q * 4)))) (fun w hS => (run_indexAddr' (kd := .i64) (i := ((q : Nat) : Int)) (n := ds.length) (c := cd) q rfl Tryz.underlying58 Tryz.sizeOf97 (by kernel_rfl) (by kernel_rfl) rfl (by first | assumption | omega) _)) hS ?_
  refine yyfa (i := 10) (.pointer (some (dd.add (q * 4 + 0)))) 3 hS ?_
  refine yyla (i := 11) (.int .i64 n.id) (q * 4 + 0) (fun _ hS => hS.2.1) (by rw [nvs_at hn0 (by omega)]; rfl) hS ?_
  refine yyk (i := 12) (.slice (some ad) l.length ca) hS ?_
  refine yyk (i := 13) (.int .i64 ((i : Nat) : Int)) hS ?_
  refine yyv (i := 14) (.pointer (some (ad.add (i * 16)))) (fun w hS => (run_indexAddr' (kd := .i64) (i := ((i : Nat) : Int)) (n := l.length) (c := ca) i rfl Tryz.underlying22 Tryz.sizeOf37 (by kernel_rfl) (by kernel_rfl) rfl (by first | assumption | omega) _)) hS ?_
  refine yyfa (i := 15) (.pointer (some (ad.add (i * 16 + 3)))) 3 hS ?_
  refine yyla (i := 16) (.int .i64 x.id) (i * 16 + 3) (fun _ hS => hS.1) (by rw [evs_at hx (by omega)]; rfl) hS ?_; clear ha; intro a ha
  refine Head.done (by kernel_rfl) ?_
  clear hS; simp only [List.drop_succ_cons, List.drop_zero]
  refine zv (.bool (n.id != x.id)) ha ?_
  refine zzv (.bool (n.id != x.id)) ?_; clear ha; intro a ha
  refine zn2 ?_
  refine zzh (n.id != x.id) ha ?_ ?_ <;> intro hb
  ·
   rw [hb] at ha; replace hb := zbn hb
   have ht2 := hb
   have h1 : p1 x ds (l.take i) n = false := by unfold p1; simp [ht1, ht2]
   refine wp_exit ?_
   refine then_exit ?_
   refine block_hit ?_
   refine then_normal ?_
   refine wp_region_lit ?_
   refine zv (.int .i64 ((q : Nat) : Int)) ha ?_
   refine zzw (.int .i64 ((q + 1 : Nat) : Int)) zar ?_
   refine zzv (.int .i64 ((q + 1 : Nat) : Int)) ?_; clear ha; intro a ha
   refine zn2 ?_
   exact ⟨q + 1, (show ds.length - (q + 1) < ds.length - q by omega), (Has.cons ha (by kernel_rfl) (by kernel_rfl) (Has.cons ha (by kernel_rfl) (by kernel_rfl) (Has.cons ha (by kernel_rfl) (by kernel_rfl) (Has.cons ha (by kernel_rfl) (by kernel_rfl) (Has.nil ha))))), s, (show q + 1 ≤ ds.length by omega), any_next hp.2 hn0 h1⟩
  rw [hb] at ha; replace hb := zbq hb
  have ht2 := hb
  refine wp_skip ?_
  refine then_normal ?_
  refine zn1 ?_
  refine zv (.int .i64 0) ha ?_; clear ha; intro a ha
  refine zn2 ?_
  refine wp_block ?_
  have hpq := hp
  refine wp_loopG (G := Nat) (fun k a w => Has a 106 [(0, .slice (some ad) l.length ca), (1, .int .i64 ((i : Nat) : Int)), (2, .slice (some dd) ds.length cd), (7, .int .i64 ((q : Nat) : Int)), (8, .int .i64 ((k : Nat) : Int))] ∧ St W (L) w ∧ (k ≤ i ∧ (l.take k).any (p2 x ds n) = false)) (fun k => i - k) 0 ?_ ?_
  ·
   exact ⟨(Has.cons ha (by kernel_rfl) (by kernel_rfl) (Has.cons ha (by kernel_rfl) (by kernel_rfl) (Has.cons ha (by kernel_rfl) (by kernel_rfl) (Has.cons ha (by kernel_rfl) (by kernel_rfl) (Has.cons ha (by kernel_rfl) (by kernel_rfl) (Has.nil ha)))))), s, ⟨Nat.zero_le _, rfl⟩⟩
  clear ha s; rintro k a w ⟨ha, s, hp⟩
  refine wp_seq ?_
  refine zn1 ?_
  refine zv (.int .i64 ((k : Nat) : Int)) ha ?_
  refine zzv (.int .i64 ((i : Nat) : Int)) ?_
  refine zzv (.bool (decide (((k : Nat) : Int) < ((i : Nat) : Int)))) ?_; clear ha; intro a ha
  refine zn2 ?_
  refine zzh (decide (((k : Nat) : Int) < ((i : Nat) : Int))) ha ?_ ?_ <;> intro hb
  ·
   rw [hb] at ha; replace hb : (((k : Nat) : Int) < ((i : Nat) : Int)) := of_decide_eq_true hb
   have ht3 := hb
   obtain ⟨y, hy⟩ : ∃ y, l[k]? = some y := ⟨_, List.getElem?_eq_getElem (by omega)⟩
   refine wp_skip ?_
   refine then_normal ?_
   refine wp_seq ?_
   refine wp_block ?_
   refine wp_seq ?_
   refine zn1 ?_
   refine zv (.slice (some ad) l.length ca) ha ?_
   refine zzv (.int .i64 ((k : Nat) : Int)) ?_
   refine zzw (.pointer (some (ad.add (k * 16)))) (run_indexAddr' (kd := .i64) (i := ((k : Nat) : Int)) (n := l.length) (c := ca) k rfl Tryz.underlying22 Tryz.sizeOf37 (by kernel_rfl) (by kernel_rfl) rfl (by first | assumption | omega) _) ?_
   refine zzw (.pointer (some (ad.add (k * 16 + 1)))) (zfa 3) ?_
   refine zzw (.int .i64 y.kind) (zla (k * 16 + 1) ((hr _ s.sat).1) (by rw [evs_at hy (by omega)]; rfl)) ?_
   refine zzv (.bool (y.kind != (3 : Int))) ?_
   refine zzv (.bool (y.kind != (3 : Int))) ?_; clear ha; intro a ha
   rcases Bool.eq_false_or_eq_true (y.kind != (3 : Int)) with hb | hb
   ·
    rw [hb] at ha; replace hb := zbn hb
    have ht4 := hb
    have h2 : p2 x ds n y = false := by unfold p2; simp [ht4]
    refine zp ha ?_
    iterate 5 refine zzp ?_
    refine zzv (.bool true) ?_; clear ha; intro a ha
    refine zn2 ?_
    refine wp_true ha rfl (by kernel_rfl) ?_
    refine wp_exit ?_
    refine then_exit ?_
    refine block_hit ?_
    refine then_normal ?_
    refine wp_region_lit ?_
    refine zv (.int .i64 ((k : Nat) : Int)) ha ?_
    refine zzw (.int .i64 ((k + 1 : Nat) : Int)) zar ?_
    refine zzv (.int .i64 ((k + 1 : Nat) : Int)) ?_; clear ha; intro a ha
    refine zn2 ?_
    exact ⟨k + 1, (show i - (k + 1) < i - k by omega), (Has.cons ha (by kernel_rfl) (by kernel_rfl) (Has.cons ha (by kernel_rfl) (by kernel_rfl) (Has.cons ha (by kernel_rfl) (by kernel_rfl) (Has.cons ha (by kernel_rfl) (by kernel_rfl) (Has.cons ha (by kernel_rfl) (by kernel_rfl) (Has.nil ha)))))), s, (show k + 1 ≤ i by omega), any_next hp.2 hy h2⟩
   rw [hb] at ha; replace hb := zbq hb
   have ht4 := hb
   refine zv (.slice (some ad) l.length ca) ha ?_
   refine zzv (.int .i64 ((k : Nat) : Int)) ?_
   refine zzw (.pointer (some (ad.add (k * 16)))) (run_indexAddr' (kd := .i64) (i := ((k : Nat) : Int)) (n := l.length) (c := ca) k rfl Tryz.underlying22 Tryz.sizeOf37 (by kernel_rfl) (by kernel_rfl) rfl (by first | assumption | omega) _) ?_
   refine zzw (.agg (evv y).toArray) (run_loadAtN (i := k * 16) (evv y) ((hr _ s.sat).1) rfl (by kernel_rfl) Tryz.isAgg37 Tryz.sizeOf37 (fun q_ hq_ => evs_at hy hq_) rfl) ?_; clear ha; intro a ha
   refine zzc ha (rcom_any W _ w y s) ?_
   rintro _ w ⟨rfl, s⟩
   refine ⟨_, rfl, ?_⟩; clear ha; intro a ha
   refine zv (.bool (!(comB y))) ha ?_
   refine zzv (.bool (!(comB y))) ?_; clear ha; intro a ha
   refine zn2 ?_
   refine zzh (!(comB y)) ha ?_ ?_ <;> intro hb
   ·
    rw [hb] at ha; skip
    have ht5 : comB y = false := by simpa using hb
    have h2 : p2 x ds n y = false := by unfold p2; simp [ht4, ht5]
    refine wp_exit ?_
    refine then_exit ?_
    refine block_hit ?_
    refine then_normal ?_
    refine wp_region_lit ?_
    refine zv (.int .i64 ((k : Nat) : Int)) ha ?_
    refine zzw (.int .i64 ((k + 1 : Nat) : Int)) zar ?_
    refine zzv (.int .i64 ((k + 1 : Nat) : Int)) ?_; clear ha; intro a ha
    refine zn2 ?_
    exact ⟨k + 1, (show i - (k + 1) < i - k by omega), (Has.cons ha (by kernel_rfl) (by kernel_rfl) (Has.cons ha (by kernel_rfl) (by kernel_rfl) (Has.cons ha (by kernel_rfl) (by kernel_rfl) (Has.cons ha (by kernel_rfl) (by kernel_rfl) (Has.cons ha (by kernel_rfl) (by kernel_rfl) (Has.nil ha)))))), s, (show k + 1 ≤ i by omega), any_next hp.2 hy h2⟩
   rw [hb] at ha; skip
   have ht5 : comB y = true := by simpa using hb
   refine wp_skip ?_
   refine then_normal ?_
   refine zn1 ?_
   refine zv (.int .i64 0) ha ?_; clear ha; intro a ha
   refine zn2 ?_
   refine wp_block ?_
   have hpk := hp
   refine wp_loopG (G := Nat) (fun r a w => Has a 106 [(0, .slice (some ad) l.length ca), (1, .int .i64 ((i : Nat) : Int)), (2, .slice (some dd) ds.length cd), (7, .int .i64 ((q : Nat) : Int)), (8, .int .i64 ((k : Nat) : Int)), (9, .int .i64 ((r : Nat) : Int))] ∧ St W (L) w ∧ (r ≤ ds.length ∧ (ds.take r).any (p3 x n y) = false)) (fun r => ds.length - r) 0 ?_ ?_
   ·
    exact ⟨(Has.cons ha (by kernel_rfl) (by kernel_rfl) (Has.cons ha (by kernel_rfl) (by kernel_rfl) (Has.cons ha (by kernel_rfl) (by kernel_rfl) (Has.cons ha (by kernel_rfl) (by kernel_rfl) (Has.cons ha (by kernel_rfl) (by kernel_rfl) (Has.cons ha (by kernel_rfl) (by kernel_rfl) (Has.nil ha))))))), s, ⟨Nat.zero_le _, rfl⟩⟩
   clear ha s; rintro r a w ⟨ha, s, hp⟩
   refine wp_seq ?_
   refine zn1 ?_
   refine zv (.int .i64 ((r : Nat) : Int)) ha ?_
   refine zzv (.slice (some dd) ds.length cd) ?_
   refine zzv (.int .i64 ((ds.length : Nat) : Int)) ?_
   refine zzv (.bool (decide (((r : Nat) : Int) < ((ds.length : Nat) : Int)))) ?_; clear ha; intro a ha
   refine zn2 ?_
   refine zzh (decide (((r : Nat) : Int) < ((ds.length : Nat) : Int))) ha ?_ ?_ <;> intro hb
   ·
    rw [hb] at ha; replace hb : (((r : Nat) : Int) < ((ds.length : Nat) : Int)) := of_decide_eq_true hb
    have ht6 := hb
    obtain ⟨m, hm0⟩ : ∃ m, ds[r]? = some m := ⟨_, List.getElem?_eq_getElem (by omega)⟩
    refine wp_skip ?_
    refine then_normal ?_
    refine wp_seq ?_
    refine wp_block ?_
    refine wp_seq ?_
    refine wp_region_head 44 (fun w => Reads w 4 (some dd) ds.length (nvs ds) ∧ Reads w 16 (some ad) l.length (evs l) ∧ True) (by kernel_rfl) (by decide) ?_
    replace s := s.drew; generalize _root_.Go.World.drew _ = w at s ⊢
    have hS : (fun w => Reads w 4 (some dd) ds.length (nvs ds) ∧ Reads w 16 (some ad) l.length (evs l) ∧ True) w := ⟨(hd _ s.sat).1, (hr _ s.sat).1, trivial⟩
    refine yk (i := 0) (.slice (some dd) ds.length cd) ha hS ?_
    refine yyk (i := 1) (.int .i64 ((r : Nat) : Int)) hS ?_
    refine yyv (i := 2) (.pointer (some (dd.add (r * 4)))) (fun w hS => (run_indexAddr' (kd := .i64) (i := ((r : Nat) : Int)) (n := ds.length) (c := cd) r rfl Tryz.underlying58 Tryz.sizeOf97 (by kernel_rfl) (by kernel_rfl) rfl (by first | assumption | omega) _)) hS ?_
    refine yyfa (i := 3) (.pointer (some (dd.add (r * 4 + 0)))) 3 hS ?_
    refine yyla (i := 4) (.int .i64 m.id) (r * 4 + 0) (fun _ hS => hS.1) (by rw [nvs_at hm0 (by omega)]; rfl) hS ?_
    refine yyk (i := 5) (.slice (some ad) l.length ca) hS ?_
    refine yyk (i := 6) (.int .i64 ((k : Nat) : Int)) hS ?_
    refine yyv (i := 7) (.pointer (some (ad.add (k * 16)))) (fun w hS => (run_indexAddr' (kd := .i64) (i := ((k : Nat) : Int)) (n := l.length) (c := ca) k rfl Tryz.underlying22 Tryz.sizeOf37 (by kernel_rfl) (by kernel_rfl) rfl (by first | assumption | omega) _)) hS ?_
    refine yyfa (i := 8) (.pointer (some (ad.add (k * 16 + 3)))) 3 hS ?_
    refine yyla (i := 9) (.int .i64 y.id) (k * 16 + 3) (fun _ hS => hS.2.1) (by rw [evs_at hy (by omega)]; rfl) hS ?_
    refine yyk (i := 10) (.bool (m.id == y.id)) hS ?_
    refine yyk (i := 11) (.bool (m.id == y.id)) hS ?_; clear ha; intro a ha
    rcases Bool.eq_false_or_eq_true (m.id == y.id) with hb | hb
    ·
     rw [hb] at ha; replace hb := eq_of_beq hb
     have ht7 := hb
     refine yk (i := 12) (.slice (some dd) ds.length cd) ha hS ?_
     refine yyk (i := 13) (.int .i64 ((r : Nat) : Int)) hS ?_
     refine yyv (i := 14) (.pointer (some (dd.add (r * 4)))) (fun w hS => (run_indexAddr' (kd := .i64) (i := ((r : Nat) : Int)) (n := ds.length) (c := cd) r rfl Tryz.underlying58 Tryz.sizeOf97 (by kernel_rfl) (by kernel_rfl) rfl (by first | assumption | omega) _)) hS ?_
     refine yyfa (i := 15) (.pointer (some (dd.add (r * 4 + 0)))) 3 hS ?_
     refine yyla (i := 16) (.int .i64 m.id) (r * 4 + 0) (fun _ hS => hS.1) (by rw [nvs_at hm0 (by omega)]; rfl) hS ?_
     refine yyk (i := 17) (.slice (some ad) l.length ca) hS ?_
     refine yyk (i := 18) (.int .i64 ((i : Nat) : Int)) hS ?_
     refine yyv (i := 19) (.pointer (some (ad.add (i * 16)))) (fun w hS => (run_indexAddr' (kd := .i64) (i := ((i : Nat) : Int)) (n := l.length) (c := ca) i rfl Tryz.underlying22 Tryz.sizeOf37 (by kernel_rfl) (by kernel_rfl) rfl (by first | assumption | omega) _)) hS ?_
     refine yyfa (i := 20) (.pointer (some (ad.add (i * 16 + 3)))) 3 hS ?_
     refine yyla (i := 21) (.int .i64 x.id) (i * 16 + 3) (fun _ hS => hS.2.1) (by rw [evs_at hx (by omega)]; rfl) hS ?_
     refine yyk (i := 22) (.bool (m.id != x.id)) hS ?_
     refine yyk (i := 23) (.bool (m.id != x.id)) hS ?_
     refine yyk (i := 24) (.bool (m.id != x.id)) hS ?_; clear ha; intro a ha
     rcases Bool.eq_false_or_eq_true (m.id != x.id) with hb | hb
     ·
      rw [hb] at ha; replace hb := zbn hb
      have ht8 := hb
      refine yk (i := 25) (.slice (some dd) ds.length cd) ha hS ?_
      refine yyk (i := 26) (.int .i64 ((r : Nat) : Int)) hS ?_
      refine yyv (i := 27) (.pointer (some (dd.add (r * 4)))) (fun w hS => (run_indexAddr' (kd := .i64) (i := ((r : Nat) : Int)) (n := ds.length) (c := cd) r rfl Tryz.underlying58 Tryz.sizeOf97 (by kernel_rfl) (by kernel_rfl) rfl (by first | assumption | omega) _)) hS ?_
      refine yyv (i := 28) (.agg #[.int .i64 m.id, .int .i64 m.wall, .int .i64 m.logic, .slice m.A m.l.length m.c]) (fun w hS => run_loadAtN (i := r * 4) [.int .i64 m.id, .int .i64 m.wall, .int .i64 m.logic, .slice m.A m.l.length m.c] hS.1 rfl (by kernel_rfl) Tryz.isAgg97 Tryz.sizeOf97 (fun q_ hq_ => nvs_at hm0 hq_) rfl) hS ?_
      refine yyk (i := 29) (.slice (some dd) ds.length cd) hS ?_
      refine yyk (i := 30) (.int .i64 ((q : Nat) : Int)) hS ?_
      refine yyv (i := 31) (.pointer (some (dd.add (q * 4)))) (fun w hS => (run_indexAddr' (kd := .i64) (i := ((q : Nat) : Int)) (n := ds.length) (c := cd) q rfl Tryz.underlying58 Tryz.sizeOf97 (by kernel_rfl) (by kernel_rfl) rfl (by first | assumption | omega) _)) hS ?_
      refine yyv (i := 32) (.agg #[.int .i64 n.id, .int .i64 n.wall, .int .i64 n.logic, .slice n.A n.l.length n.c]) (fun w hS => run_loadAtN (i := q * 4) [.int .i64 n.id, .int .i64 n.wall, .int .i64 n.logic, .slice n.A n.l.length n.c] hS.1 rfl (by kernel_rfl) Tryz.isAgg97 Tryz.sizeOf97 (fun q_ hq_ => nvs_at hn0 hq_) rfl) hS ?_; clear ha; intro a ha
      refine hd_call (i := 33) ha rfl (by kernel_rfl) (by kernel_rfl) (by kernel_rfl) (rbeh_any W _ w m n s) ?_
      clear hS; rintro _ w ⟨rfl, s⟩
      have hS : (fun w => Reads w 4 (some dd) ds.length (nvs ds) ∧ Reads w 16 (some ad) l.length (evs l) ∧ True) w := ⟨(hd _ s.sat).1, (hr _ s.sat).1, trivial⟩
      refine ⟨_, rfl, hS, ?_⟩; clear ha; intro a ha
      refine yk (i := 34) (.bool (behR m n)) ha hS ?_
      refine yyk (i := 35) (.bool (behR m n)) hS ?_; clear ha; intro a ha
      rcases Bool.eq_false_or_eq_true (behR m n) with hb | hb
      ·
       rw [hb] at ha; skip
       have ht9 := hb
       refine yk (i := 36) (.slice (some dd) ds.length cd) ha hS ?_
       refine yyk (i := 37) (.int .i64 ((q : Nat) : Int)) hS ?_
       refine yyv (i := 38) (.pointer (some (dd.add (q * 4)))) (fun w hS => (run_indexAddr' (kd := .i64) (i := ((q : Nat) : Int)) (n := ds.length) (c := cd) q rfl Tryz.underlying58 Tryz.sizeOf97 (by kernel_rfl) (by kernel_rfl) rfl (by first | assumption | omega) _)) hS ?_
       refine yyv (i := 39) (.agg #[.int .i64 n.id, .int .i64 n.wall, .int .i64 n.logic, .slice n.A n.l.length n.c]) (fun w hS => run_loadAtN (i := q * 4) [.int .i64 n.id, .int .i64 n.wall, .int .i64 n.logic, .slice n.A n.l.length n.c] hS.1 rfl (by kernel_rfl) Tryz.isAgg97 Tryz.sizeOf97 (fun q_ hq_ => nvs_at hn0 hq_) rfl) hS ?_
       refine yyk (i := 40) (.slice (some dd) ds.length cd) hS ?_
       refine yyk (i := 41) (.int .i64 ((r : Nat) : Int)) hS ?_
       refine yyv (i := 42) (.pointer (some (dd.add (r * 4)))) (fun w hS => (run_indexAddr' (kd := .i64) (i := ((r : Nat) : Int)) (n := ds.length) (c := cd) r rfl Tryz.underlying58 Tryz.sizeOf97 (by kernel_rfl) (by kernel_rfl) rfl (by first | assumption | omega) _)) hS ?_
       refine yyv (i := 43) (.agg #[.int .i64 m.id, .int .i64 m.wall, .int .i64 m.logic, .slice m.A m.l.length m.c]) (fun w hS => run_loadAtN (i := r * 4) [.int .i64 m.id, .int .i64 m.wall, .int .i64 m.logic, .slice m.A m.l.length m.c] hS.1 rfl (by kernel_rfl) Tryz.isAgg97 Tryz.sizeOf97 (fun q_ hq_ => nvs_at hm0 hq_) rfl) hS ?_; clear ha; intro a ha
       refine Head.done (by kernel_rfl) ?_
       clear hS; simp only [List.drop_succ_cons, List.drop_zero]
       refine zzc ha (rtouch_any W _ w n m (fun w s => (hd w s).2 n (List.mem_of_getElem? hn0)) (fun w s => (hd w s).2 m (List.mem_of_getElem? hm0)) (hB.2 n (List.mem_of_getElem? hn0)) (hB.2 m (List.mem_of_getElem? hm0)) s) ?_
       rintro _ w ⟨rfl, s⟩
       refine ⟨_, rfl, ?_⟩; clear ha; intro a ha
       refine zv (.bool (touchL (n.l.map (·.t)) (m.l.map (·.t)))) ha ?_; clear ha; intro a ha
       refine zn2 ?_
       refine zzh (touchL (n.l.map (·.t)) (m.l.map (·.t))) ha ?_ ?_ <;> intro hb
       ·
        rw [hb] at ha; skip
        have ht10 := hb
        have h3 : p3 x n y m = true := by unfold p3; rw [beq_iff_eq.2 ht7, bne_iff_ne.2 ht8, ht9, ht10]; rfl
        have h2 : p2 x ds n y = true := by unfold p2; rw [any_hit hm0 h3]; simp [ht4, ht5]
        have h1 : p1 x ds (l.take i) n = true := by unfold p1; rw [any_hit (k := k) (by rw [List.getElem?_take, if_pos (by omega)]; exact hy) h2]; simp [ht1, ht2]
        refine zn1 ?_
        refine zv (.bool true) ha ?_; clear ha; intro a ha
        refine zn2 ?_
        refine wp_ret ?_
        refine block_ret ?_
        refine then_ret ?_
        refine then_ret ?_
        refine block_ret ?_
        refine block_ret ?_
        refine then_ret ?_
        refine then_ret ?_
        refine block_ret ?_
        refine block_ret ?_
        refine then_ret ?_
        refine then_ret ?_
        refine block_ret ?_
        refine then_ret ?_
        refine zzr (v := .bool true) ha ?_
        exact ⟨by rw [lateB_is, any_hit hn0 h1], s⟩
       rw [hb] at ha; skip
       have ht10 := hb
       have h3 : p3 x n y m = false := by unfold p3; rw [beq_iff_eq.2 ht7, bne_iff_ne.2 ht8, ht9, ht10]; simp
       refine wp_skip ?_
       refine block_normal ?_
       refine then_normal ?_
       refine wp_region_lit ?_
       refine zv (.int .i64 ((r : Nat) : Int)) ha ?_
       refine zzw (.int .i64 ((r + 1 : Nat) : Int)) zar ?_
       refine zzv (.int .i64 ((r + 1 : Nat) : Int)) ?_; clear ha; intro a ha
       refine zn2 ?_
       exact ⟨r + 1, (show ds.length - (r + 1) < ds.length - r by omega), (Has.cons ha (by kernel_rfl) (by kernel_rfl) (Has.cons ha (by kernel_rfl) (by kernel_rfl) (Has.cons ha (by kernel_rfl) (by kernel_rfl) (Has.cons ha (by kernel_rfl) (by kernel_rfl) (Has.cons ha (by kernel_rfl) (by kernel_rfl) (Has.cons ha (by kernel_rfl) (by kernel_rfl) (Has.nil ha))))))), s, (show r + 1 ≤ ds.length by omega), any_next hp.2 hm0 h3⟩
      rw [hb] at ha; skip
      have ht9 := hb
      have h3 : p3 x n y m = false := by unfold p3; rw [beq_iff_eq.2 ht7, bne_iff_ne.2 ht8, ht9]; simp
      refine yp (i := 36) ha hS ?_
      refine yyp (i := 37) hS ?_
      refine yyp (i := 38) hS ?_
      refine yyp (i := 39) hS ?_
      refine yyp (i := 40) hS ?_
      refine yyp (i := 41) hS ?_
      refine yyp (i := 42) hS ?_
      refine yyp (i := 43) hS ?_; clear ha; intro a ha
      refine Head.done (by kernel_rfl) ?_
      clear hS; simp only [List.drop_succ_cons, List.drop_zero]
      refine zp ha ?_
      refine zzv (.bool false) ?_; clear ha; intro a ha
      refine zn2 ?_
      refine wp_false ha rfl (by kernel_rfl) ?_
      refine wp_skip ?_
      refine block_normal ?_
      refine then_normal ?_
      refine wp_region_lit ?_
      refine zv (.int .i64 ((r : Nat) : Int)) ha ?_
      refine zzw (.int .i64 ((r + 1 : Nat) : Int)) zar ?_
      refine zzv (.int .i64 ((r + 1 : Nat) : Int)) ?_; clear ha; intro a ha
      refine zn2 ?_
      exact ⟨r + 1, (show ds.length - (r + 1) < ds.length - r by omega), (Has.cons ha (by kernel_rfl) (by kernel_rfl) (Has.cons ha (by kernel_rfl) (by kernel_rfl) (Has.cons ha (by kernel_rfl) (by kernel_rfl) (Has.cons ha (by kernel_rfl) (by kernel_rfl) (Has.cons ha (by kernel_rfl) (by kernel_rfl) (Has.cons ha (by kernel_rfl) (by kernel_rfl) (Has.nil ha))))))), s, (show r + 1 ≤ ds.length by omega), any_next hp.2 hm0 h3⟩
     rw [hb] at ha; replace hb := zbq hb
     have ht8 := hb
     have h3 : p3 x n y m = false := by unfold p3; rw [beq_iff_eq.2 ht7, bne_eq_false_iff_eq.2 ht8]; simp
     refine yp (i := 25) ha hS ?_
     refine yyp (i := 26) hS ?_
     refine yyp (i := 27) hS ?_
     refine yyp (i := 28) hS ?_
     refine yyp (i := 29) hS ?_
     refine yyp (i := 30) hS ?_
     refine yyp (i := 31) hS ?_
     refine yyp (i := 32) hS ?_
     refine yyp (i := 33) hS ?_
     refine yyk (i := 34) (.bool false) hS ?_
     refine yyk (i := 35) (.bool false) hS ?_
     refine yyp (i := 36) hS ?_
     refine yyp (i := 37) hS ?_
     refine yyp (i := 38) hS ?_
     refine yyp (i := 39) hS ?_
     refine yyp (i := 40) hS ?_
     refine yyp (i := 41) hS ?_
     refine yyp (i := 42) hS ?_
     refine yyp (i := 43) hS ?_; clear ha; intro a ha
     refine Head.done (by kernel_rfl) ?_
     clear hS; simp only [List.drop_succ_cons, List.drop_zero]
     refine zp ha ?_
     refine zzv (.bool false) ?_; clear ha; intro a ha
     refine zn2 ?_
     refine wp_false ha rfl (by kernel_rfl) ?_
     refine wp_skip ?_
     refine block_normal ?_
     refine then_normal ?_
     refine wp_region_lit ?_
     refine zv (.int .i64 ((r : Nat) : Int)) ha ?_
     refine zzw (.int .i64 ((r + 1 : Nat) : Int)) zar ?_
     refine zzv (.int .i64 ((r + 1 : Nat) : Int)) ?_; clear ha; intro a ha
     refine zn2 ?_
     exact ⟨r + 1, (show ds.length - (r + 1) < ds.length - r by omega), (Has.cons ha (by kernel_rfl) (by kernel_rfl) (Has.cons ha (by kernel_rfl) (by kernel_rfl) (Has.cons ha (by kernel_rfl) (by kernel_rfl) (Has.cons ha (by kernel_rfl) (by kernel_rfl) (Has.cons ha (by kernel_rfl) (by kernel_rfl) (Has.cons ha (by kernel_rfl) (by kernel_rfl) (Has.nil ha))))))), s, (show r + 1 ≤ ds.length by omega), any_next hp.2 hm0 h3⟩
    rw [hb] at ha; replace hb := ne_of_beq_false hb
    have ht7 := hb
    have h3 : p3 x n y m = false := by unfold p3; rw [beq_eq_false_iff_ne.2 ht7]; simp
    refine yp (i := 12) ha hS ?_
    refine yyp (i := 13) hS ?_
    refine yyp (i := 14) hS ?_
    refine yyp (i := 15) hS ?_
    refine yyp (i := 16) hS ?_
    refine yyp (i := 17) hS ?_
    refine yyp (i := 18) hS ?_
    refine yyp (i := 19) hS ?_
    refine yyp (i := 20) hS ?_
    refine yyp (i := 21) hS ?_
    refine yyp (i := 22) hS ?_
    refine yyk (i := 23) (.bool false) hS ?_
    refine yyk (i := 24) (.bool false) hS ?_
    refine yyp (i := 25) hS ?_
    refine yyp (i := 26) hS ?_
    refine yyp (i := 27) hS ?_
    refine yyp (i := 28) hS ?_
    refine yyp (i := 29) hS ?_
    refine yyp (i := 30) hS ?_
    refine yyp (i := 31) hS ?_
    refine yyp (i := 32) hS ?_
    refine yyp (i := 33) hS ?_
    refine yyk (i := 34) (.bool false) hS ?_
    refine yyk (i := 35) (.bool false) hS ?_
    refine yyp (i := 36) hS ?_
    refine yyp (i := 37) hS ?_
    refine yyp (i := 38) hS ?_
    refine yyp (i := 39) hS ?_
    refine yyp (i := 40) hS ?_
    refine yyp (i := 41) hS ?_
    refine yyp (i := 42) hS ?_
    refine yyp (i := 43) hS ?_; clear ha; intro a ha
    refine Head.done (by kernel_rfl) ?_
    clear hS; simp only [List.drop_succ_cons, List.drop_zero]
    refine zp ha ?_
    refine zzv (.bool false) ?_; clear ha; intro a ha
    refine zn2 ?_
    refine wp_false ha rfl (by kernel_rfl) ?_
    refine wp_skip ?_
    refine block_normal ?_
    refine then_normal ?_
    refine wp_region_lit ?_
    refine zv (.int .i64 ((r : Nat) : Int)) ha ?_
    refine zzw (.int .i64 ((r + 1 : Nat) : Int)) zar ?_
    refine zzv (.int .i64 ((r + 1 : Nat) : Int)) ?_; clear ha; intro a ha
    refine zn2 ?_
    exact ⟨r + 1, (show ds.length - (r + 1) < ds.length - r by omega), (Has.cons ha (by kernel_rfl) (by kernel_rfl) (Has.cons ha (by kernel_rfl) (by kernel_rfl) (Has.cons ha (by kernel_rfl) (by kernel_rfl) (Has.cons ha (by kernel_rfl) (by kernel_rfl) (Has.cons ha (by kernel_rfl) (by kernel_rfl) (Has.cons ha (by kernel_rfl) (by kernel_rfl) (Has.nil ha))))))), s, (show r + 1 ≤ ds.length by omega), any_next hp.2 hm0 h3⟩
   rw [hb] at ha; replace hb : ¬ (((r : Nat) : Int) < ((ds.length : Nat) : Int)) := of_decide_eq_false hb
   have ht6 := hb
   have h2 : p2 x ds n y = false := by unfold p2; rw [any_all hp.2 (by omega), Bool.and_false]
   replace hp := hpk
   refine wp_exit ?_
   refine then_exit ?_
   refine then_exit ?_
   refine block_hit ?_
   refine block_normal ?_
   refine then_normal ?_
   refine wp_region_lit ?_
   refine zv (.int .i64 ((k : Nat) : Int)) ha ?_
   refine zzw (.int .i64 ((k + 1 : Nat) : Int)) zar ?_
   refine zzv (.int .i64 ((k + 1 : Nat) : Int)) ?_; clear ha; intro a ha
   refine zn2 ?_
   exact ⟨k + 1, (show i - (k + 1) < i - k by omega), (Has.cons ha (by kernel_rfl) (by kernel_rfl) (Has.cons ha (by kernel_rfl) (by kernel_rfl) (Has.cons ha (by kernel_rfl) (by kernel_rfl) (Has.cons ha (by kernel_rfl) (by kernel_rfl) (Has.cons ha (by kernel_rfl) (by kernel_rfl) (Has.nil ha)))))), s, (show k + 1 ≤ i by omega), any_next hp.2 hy h2⟩
  rw [hb] at ha; replace hb : ¬ (((k : Nat) : Int) < ((i : Nat) : Int)) := of_decide_eq_false hb
  have ht3 := hb
  have h1 : p1 x ds (l.take i) n = false := by have h := hp.2; rw [show k = i by omega] at h; unfold p1; rw [h, Bool.and_false]
  replace hp := hpq
  refine wp_exit ?_
  refine then_exit ?_
  refine then_exit ?_
  refine block_hit ?_
  refine block_normal ?_
  refine then_normal ?_
  refine wp_region_lit ?_
  refine zv (.int .i64 ((q : Nat) : Int)) ha ?_
  refine zzw (.int .i64 ((q + 1 : Nat) : Int)) zar ?_
  refine zzv (.int .i64 ((q + 1 : Nat) : Int)) ?_; clear ha; intro a ha
  refine zn2 ?_
  exact ⟨q + 1, (show ds.length - (q + 1) < ds.length - q by omega), (Has.cons ha (by kernel_rfl) (by kernel_rfl) (Has.cons ha (by kernel_rfl) (by kernel_rfl) (Has.cons ha (by kernel_rfl) (by kernel_rfl) (Has.cons ha (by kernel_rfl) (by kernel_rfl) (Has.nil ha))))), s, (show q + 1 ≤ ds.length by omega), any_next hp.2 hn0 h1⟩
 rw [hb] at ha; replace hb : ¬ (((q : Nat) : Int) < ((ds.length : Nat) : Int)) := of_decide_eq_false hb
 have ht0 := hb
 refine wp_exit ?_
 refine then_exit ?_
 refine then_exit ?_
 refine block_hit ?_
 refine then_normal ?_
 refine zn1 ?_
 refine zv (.bool false) ha ?_; clear ha; intro a ha
 refine zn2 ?_
 refine wp_ret ?_
 refine zzr (v := .bool false) ha ?_
 exact ⟨by rw [lateB_is, any_all hp.2 (by omega)], s⟩

end Go.Proofs.YtfcbjcohepkkfaaGreat.B
