import Derived.Test.YtfcbjcohepkkfaaGreatB5
import Derived.Test.YtfcbjcohepkkfaaGreatSepY
namespace Go.Proofs.YtfcbjcohepkkfaaGreat.B
open Go.RowKit Go.Maps Go.Sort Go.Shelf Go.Proofs.YtfcbjcohepkkfaaGreat.Sep Go.Proofs.YtfcbjcohepkkfaaGreat.P
set_option linter.unusedVariables false
set_option linter.unusedSimpArgs false
theorem tl_at {ds : List Dn} {i j : Nat} {d : Dn} {x : Dd} (hd : ds[i]? = some d) (hx : d.l[j]? = some x) : (tAt (tns ds) i).l[j]? = some x.t := by rw [tAt_of hd]; simp [Dn.t, hx]
theorem tl_len {ds : List Dn} {i : Nat} {d : Dn} (hd : ds[i]? = some d) : (tAt (tns ds) i).l.length = d.l.length := by rw [tAt_of hd]; simp [Dn.t]
theorem run_left_le {ds : List Dn} {o : List Nat} {k i j : Nat} (ho : IsOrd (tns ds) o) (hm : many (tns ds) ≤ 10000) (h : o[k]? = some i) : (left [] (upTo (tns ds) o k i j)).length ≤ 1000000 := by
 have h1 := left_length [] (upTo (tns ds) o k i j)
 have h2 := upTo_le (ds := tns ds) (j := j) h
 rw [things_len ho] at h2
 simp only [List.length_nil] at h1
 omega
theorem look_any (W : World) (L : List Chunk) (w : World) (gf gt gd : Nat) (f_ : Option (Nat × Nat)) (i k : Nat) (s : St W (.blk gf [.bool f_.isSome] 4 :: .blk gt [.int .i64 ((fst f_ : Nat) : Int)] 3 :: .blk gd [.int .i64 ((snd f_ : Nat) : Int)] 3 :: L) w) :
  Calls Tryz.prog 39 #[.int .i64 ((i : Nat) : Int), .int .i64 ((k : Nat) : Int), .pointer (some ⟨gf, 0, none⟩), .pointer (some ⟨gt, 0, none⟩), .pointer (some ⟨gd, 0, none⟩)] w fun e w' => e = .returned (.tuple #[]) ∧ St W (.blk gf [.bool ((f_.or (some (i, k))).isSome)] 4 :: .blk gt [.int .i64 ((fst (f_.or (some (i, k))) : Nat) : Int)] 3 :: .blk gd [.int .i64 ((snd (f_.or (some (i, k))) : Nat) : Int)] 3 :: L) w' := by
 refine enter_args (l := [.int .i64 ((i : Nat) : Int), .int .i64 ((k : Nat) : Int), .pointer (some ⟨gf, 0, none⟩), .pointer (some ⟨gt, 0, none⟩), .pointer (some ⟨gd, 0, none⟩)]) Tryz.func39 rfl rfl (Nat.le_of_ble_eq_true rfl) ?_
 intro a ha; replace ha : Has a 11 [(0, .int .i64 ((i : Nat) : Int)), (1, .int .i64 ((k : Nat) : Int)), (2, .pointer (some ⟨gf, 0, none⟩)), (3, .pointer (some ⟨gt, 0, none⟩)), (4, .pointer (some ⟨gd, 0, none⟩))] := ha
 refine zn1 ?_
 refine zw (.bool f_.isSome) ha (zl1 0 0) ?_
 refine zzv (.bool (!f_.isSome)) ?_; clear ha; intro a ha
 refine zn2 ?_
 refine zzh (!f_.isSome) ha ?_ ?_ <;> intro hb
 ·
  rw [hb] at ha; skip
  have hs : f_.isSome = false := by simpa using hb
  refine wp_region_lit ?_
  refine zv (.int .i64 ((i : Nat) : Int)) ha ?_
  refine zzv (.int .i64 ((k : Nat) : Int)) ?_; clear ha; intro a ha
  refine zzd ha (ex_store (of_ := 0) 1 [.int .i64 ((i : Nat) : Int)] s rfl rfl (by kernel_rfl) (by kernel_rfl) (Tryz.sizeOf3 _) rfl (by simp [Value.oneCell']) (Nat.le_of_ble_eq_true rfl)) ?_
  clear ha; rintro w a s ha
  dsimp only [List.set, putAt] at s
  refine zzd ha (ex_store (of_ := 0) 2 [.int .i64 ((k : Nat) : Int)] s rfl rfl (by kernel_rfl) (by kernel_rfl) (Tryz.sizeOf3 _) rfl (by simp [Value.oneCell']) (Nat.le_of_ble_eq_true rfl)) ?_
  clear ha; rintro w a s ha
  dsimp only [List.set, putAt] at s
  refine zzd ha (ex_store (of_ := 0) 0 [.bool true] s rfl rfl (by kernel_rfl) (by kernel_rfl) (Tryz.sizeOf4 _) rfl (by simp [Value.oneCell']) (Nat.le_of_ble_eq_true rfl)) ?_
  clear ha; rintro w a s ha
  dsimp only [List.set, putAt] at s
  refine wpList_nil ?_
  refine end_with (v := .tuple #[]) ha (results_0 rfl _) ?_
  rw [or_none hs]
  exact ⟨rfl, s⟩
 rw [hb] at ha; skip
 have hs : f_.isSome = true := by simpa using hb
 refine wp_skip ?_
 refine end_with (v := .tuple #[]) ha (results_0 rfl _) ?_
 rw [or_some hs]
 exact ⟨rfl, s⟩

set_option maxRecDepth 100000 in
set_option maxHeartbeats 2000000 in
theorem play_chk_ok (W : World) (hW : W.drawn = 0) (L : List Chunk) (w : World) (A : Option Addr) (ca : Nat) (ds : List Dn) (hr : Knows L (DonesIn A ds)) (hn : Bn ds) (gf gt gd : Nat) (h0 : code (tns ds) = 0) (s : St W (.blk gf [.bool ((none : Option (Nat × Nat)).isSome)] 4 :: .blk gt [.int .i64 ((fst (none : Option (Nat × Nat)) : Nat) : Int)] 3 :: .blk gd [.int .i64 ((snd (none : Option (Nat × Nat)) : Nat) : Int)] 3 :: L) w) :
  Calls Tryz.prog 38 #[.slice A ds.length ca, .func (.func 39) #[] #[.pointer (some ⟨gf, 0, none⟩), .pointer (some ⟨gt, 0, none⟩), .pointer (some ⟨gd, 0, none⟩)]] w fun e w' => ∃ g D o, e = .returned (.tuple #[.map (some g), .int .i64 0]) ∧ IsOrd (tns ds) o ∧ Of D (left [] (things (tns ds) o)) ∧ St W (MapT Tryz.prog 9 encS g D :: .blk gf [.bool ((first [] (things (tns ds) o)).isSome)] 4 :: .blk gt [.int .i64 ((fst (first [] (things (tns ds) o)) : Nat) : Int)] 3 :: .blk gd [.int .i64 ((snd (first [] (things (tns ds) o)) : Nat) : Int)] 3 :: L) w' := by
 have hpost := order_post h0
 refine enter_args (l := [.slice A ds.length ca, .func (.func 39) #[] #[.pointer (some ⟨gf, 0, none⟩), .pointer (some ⟨gt, 0, none⟩), .pointer (some ⟨gd, 0, none⟩)]]) Tryz.func38 rfl rfl (Nat.le_of_ble_eq_true rfl) ?_
 intro a ha; replace ha : Has a 50 [(0, .slice A ds.length ca), (1, .func (.func 39) #[] #[.pointer (some ⟨gf, 0, none⟩), .pointer (some ⟨gt, 0, none⟩), .pointer (some ⟨gd, 0, none⟩)])] := ha
 refine zn1 ?_
 refine zv (.map none) ha ?_
 refine zzv (.int .i64 0) ?_; clear ha; intro a ha
 refine zn4 ?_
 refine zv (.slice A ds.length ca) ha ?_; clear ha; intro a ha
 refine zzc ha (order_ok W _ w A ca ds (fun w s => hr w s.tail.tail.tail) hn h0 s) ?_
 rintro _ w ⟨B, cB, o, rfl, ho, s⟩
 have hol : o.length = ds.length := by have := ho.length; simpa using this
 refine ⟨_, rfl, ?_⟩; clear ha; intro a ha
 refine zv (.tuple #[.slice B ds.length cB, .int .i64 0]) ha ?_
 refine zzv (.slice B ds.length cB) ?_
 refine zzv (.int .i64 0) ?_
 refine zzv (.slice B ds.length cB) ?_
 refine zzv (.int .i64 0) ?_; clear ha; intro a ha
 refine zn2 ?_
 refine wp_seq ?_
 refine zn1 ?_
 refine zv (.int .i64 0) ha ?_
 refine zzv (.bool false) ?_; clear ha; intro a ha
 refine zn2 ?_
 refine wp_false ha rfl (by kernel_rfl) ?_
 refine wp_skip ?_
 refine then_normal ?_
 refine zn1 ?_
 refine zze ha (ex_makeMap Tryz.prog 9 encS s rfl) ?_
 clear ha; rintro _ w a ⟨g1, rfl, s⟩ ha
 refine zv (.map (some g1)) ha ?_; clear ha; intro a ha
 refine zn2 ?_
 refine wp_seq ?_
 refine zn1 ?_
 refine zv (.slice B ds.length cB) ha ?_
 refine zzv (.int .i64 ((ds.length : Nat) : Int)) ?_
 refine zzv (.int .i64 0) ?_; clear ha; intro a ha
 refine zn2 ?_
 refine wp_block ?_
 replace s := ((((s.at_ (j := 4) rfl).at_ (j := 4) rfl).at_ (j := 4) rfl).at_ (j := 3) rfl).at_ (j := 4) rfl
 dsimp only [List.eraseIdx] at s
 refine wp_loopG (G := (Nat × List (List UInt8 × Value))) (fun ⟨k, D⟩ a w => Has a 50 [(0, .slice A ds.length ca), (1, .func (.func 39) #[] #[.pointer (some ⟨gf, 0, none⟩), .pointer (some ⟨gt, 0, none⟩), .pointer (some ⟨gd, 0, none⟩)]), (8, .map (some g1)), (22, .slice B ds.length cB), (23, .int .i64 ((ds.length : Nat) : Int)), (24, .int .i64 ((k : Nat) : Int))] ∧ St W (Own 3 1 B ds.length cB (nats o) :: MapT Tryz.prog 9 encS g1 D :: .blk gf [.bool ((first [] (things (tns ds) (o.take k))).isSome)] 4 :: .blk gt [.int .i64 ((fst (first [] (things (tns ds) (o.take k))) : Nat) : Int)] 3 :: .blk gd [.int .i64 ((snd (first [] (things (tns ds) (o.take k))) : Nat) : Int)] 3 :: L) w ∧ (k ≤ ds.length ∧ Of D (left [] (things (tns ds) (o.take k))))) (fun ⟨k, D⟩ => ds.length - k) (0, []) ?_ ?_
 ·
  exact ⟨(Has.cons ha (by kernel_rfl) (by kernel_rfl) (Has.cons ha (by kernel_rfl) (by kernel_rfl) (Has.cons ha (by kernel_rfl) (by kernel_rfl) (Has.cons ha (by kernel_rfl) (by kernel_rfl) (Has.cons ha (by kernel_rfl) (by kernel_rfl) (Has.cons ha (by kernel_rfl) (by kernel_rfl) (Has.nil ha))))))), s, ⟨Nat.zero_le _, Of.nil⟩⟩
 clear ha s; rintro ⟨k, D⟩ a w ⟨ha, s, hp⟩
 refine zn1 ?_
 refine zv (.bool (decide (((k : Nat) : Int) < ((ds.length : Nat) : Int)))) ha ?_; clear ha; intro a ha
 refine zn2 ?_
 refine wp_seq ?_
 refine zzh (decide (((k : Nat) : Int) < ((ds.length : Nat) : Int))) ha ?_ ?_ <;> intro hb
 ·
  rw [hb] at ha; replace hb : (((k : Nat) : Int) < ((ds.length : Nat) : Int)) := of_decide_eq_true hb
  have hD := hp.2
  obtain ⟨i, hi⟩ : ∃ i, o[k]? = some i := ⟨_, List.getElem?_eq_getElem (by omega)⟩
  have hil : i < ds.length := by have := ho.lt (List.mem_of_getElem? hi); simpa using this
  obtain ⟨d, hd⟩ : ∃ d, ds[i]? = some d := ⟨_, List.getElem?_eq_getElem hil⟩
  have hdl := (hn.row hd).1
  obtain ⟨ab, hB⟩ := Own.addr (s.at_ (j := 0) rfl) (by omega)
  subst hB
  obtain ⟨ad, hA⟩ := Reads.addr (hr _ s.sat.tail.tail.tail.tail.tail).1 (by omega)
  subst hA
  refine wp_skip ?_
  refine then_normal ?_
  refine wp_seq ?_
  refine wp_block ?_
  refine zn1 ?_
  refine zw (.pointer (some (ab.add (k * 1)))) ha (run_indexAddr' (kd := .i64) (i := ((k : Nat) : Int)) (n := ds.length) (c := cB) k rfl Tryz.underlying54 Tryz.sizeOf3 (by kernel_rfl) (by kernel_rfl) rfl (by first | assumption | omega) _) ?_
  refine zzw (.int .i64 ((i : Nat) : Int)) (run_loadRow1 (m := k) ((Own.reads (s.at_ (j := 0) rfl).1)) rfl (by kernel_rfl) Tryz.isAgg3 (nats_at hi)) ?_
  refine zzv (.int .i64 ((i : Nat) : Int)) ?_; clear ha; intro a ha
  refine zn4 ?_
  refine zv (.slice (some ad) ds.length ca) ha ?_
  refine zzv (.int .i64 ((i : Nat) : Int)) ?_
  refine zzw (.pointer (some (ad.add (i * 4)))) (run_indexAddr' (kd := .i64) (i := ((i : Nat) : Int)) (n := ds.length) (c := ca) i rfl Tryz.underlying48 Tryz.sizeOf77 (by kernel_rfl) (by kernel_rfl) rfl (by first | assumption | omega) _) ?_
  refine zzw (.pointer (some (ad.add (i * 4 + 3)))) (zfa 75) ?_
  refine zzw (.slice d.A d.l.length d.c) (zla (i * 4 + 3) ((hr _ s.sat.tail.tail.tail.tail.tail).1) (by rw [nvs_at hd (by omega)]; rfl)) ?_
  refine zzv (.int .i64 ((d.l.length : Nat) : Int)) ?_
  refine zzv (.int .i64 0) ?_; clear ha; intro a ha
  refine zn2 ?_
  refine wp_block ?_
  rw [← upTo_zero (tns ds) o k i] at hD s
  refine wp_loopG (G := (Nat × List (List UInt8 × Value))) (fun ⟨j, D2⟩ a w => Has a 50 [(0, .slice (some ad) ds.length ca), (1, .func (.func 39) #[] #[.pointer (some ⟨gf, 0, none⟩), .pointer (some ⟨gt, 0, none⟩), .pointer (some ⟨gd, 0, none⟩)]), (8, .map (some g1)), (10, .int .i64 ((i : Nat) : Int)), (22, .slice (some ab) ds.length cB), (23, .int .i64 ((ds.length : Nat) : Int)), (24, .int .i64 ((k : Nat) : Int)), (32, .slice d.A d.l.length d.c), (33, .int .i64 ((d.l.length : Nat) : Int)), (34, .int .i64 ((j : Nat) : Int))] ∧ St W (Own 3 1 (some ab) ds.length cB (nats o) :: MapT Tryz.prog 9 encS g1 D2 :: .blk gf [.bool ((first [] (upTo (tns ds) o k i j)).isSome)] 4 :: .blk gt [.int .i64 ((fst (first [] (upTo (tns ds) o k i j)) : Nat) : Int)] 3 :: .blk gd [.int .i64 ((snd (first [] (upTo (tns ds) o k i j)) : Nat) : Int)] 3 :: L) w ∧ (j ≤ d.l.length ∧ Of D2 (left [] (upTo (tns ds) o k i j)))) (fun ⟨j, D2⟩ => d.l.length - j) (0, D) ?_ ?_
  ·
   exact ⟨(Has.cons ha (by kernel_rfl) (by kernel_rfl) (Has.cons ha (by kernel_rfl) (by kernel_rfl) (Has.cons ha (by kernel_rfl) (by kernel_rfl) (Has.cons ha (by kernel_rfl) (by kernel_rfl) (Has.cons ha (by kernel_rfl) (by kernel_rfl) (Has.cons ha (by kernel_rfl) (by kernel_rfl) (Has.cons ha (by kernel_rfl) (by kernel_rfl) (Has.cons ha (by kernel_rfl) (by kernel_rfl) (Has.cons ha (by kernel_rfl) (by kernel_rfl) (Has.cons ha (by kernel_rfl) (by kernel_rfl) (Has.nil ha))))))))))), s, ⟨Nat.zero_le _, hD⟩⟩
  clear ha s; rintro ⟨j, D2⟩ a w ⟨ha, s, hp⟩
  refine zn1 ?_
  refine zv (.bool (decide (((j : Nat) : Int) < ((d.l.length : Nat) : Int)))) ha ?_; clear ha; intro a ha
  refine zn2 ?_
  refine wp_seq ?_
  refine zzh (decide (((j : Nat) : Int) < ((d.l.length : Nat) : Int))) ha ?_ ?_ <;> intro hb
  ·
   rw [hb] at ha; replace hb : (((j : Nat) : Int) < ((d.l.length : Nat) : Int)) := of_decide_eq_true hb
   have hD2 := hp.2
   obtain ⟨x, hx⟩ : ∃ x, d.l[j]? = some x := ⟨_, List.getElem?_eq_getElem (by omega)⟩
   obtain ⟨al, hAl⟩ : ∃ al, d.A = some al := Reads.addr ((hr _ s.sat.tail.tail.tail.tail.tail).row hd).1 (by omega)
   rw [hAl] at ha
   refine wp_skip ?_
   refine then_normal ?_
   refine wp_seq ?_
   refine wp_block ?_
   refine zn1 ?_
   refine zv (.int .i64 ((j : Nat) : Int)) ha ?_
   refine zzw (.pointer (some (al.add (j * 7)))) (run_indexAddr' (kd := .i64) (i := ((j : Nat) : Int)) (n := d.l.length) (c := d.c) j rfl Tryz.underlying75 Tryz.sizeOf79 (by kernel_rfl) (by kernel_rfl) rfl (by first | assumption | omega) _) ?_
   refine zzw (.agg (dv x).toArray) (run_loadAtN (i := j * 7) (dv x) ((hAl ▸ ((hr _ s.sat.tail.tail.tail.tail.tail).row hd).1)) rfl (by kernel_rfl) Tryz.isAgg79 Tryz.sizeOf79 (fun q_ hq_ => dvs_at hx hq_) rfl) ?_; clear ha; intro a ha
   refine zze ha (ex_alloc [.int .i64 0, .string (str []), .string (str []), .string (str []), .string (str []), .bool false, .slice none 0 0] s rfl (Tryz.zeroValue79 _) (by kernel_rfl)) ?_
   clear ha; rintro _ w a ⟨g2, rfl, s⟩ ha
   refine zv (.int .i64 ((j : Nat) : Int)) ha ?_; clear ha; intro a ha
   refine zzd ha (ex_store (of_ := 0) 0 (dv x) s rfl rfl (by kernel_rfl) (by kernel_rfl) (Tryz.sizeOf79 _) rfl (by simp [Value.oneCell']) (Nat.le_of_ble_eq_true rfl)) ?_
   clear ha; rintro w a s ha
   dsimp only [List.set, putAt] at s
   refine zn4 ?_
   refine zv (.map (some g1)) ha ?_
   refine zzw (.agg (dv x).toArray) (zln 0 0) ?_; clear ha; intro a ha
   replace s := s.at_ (j := 2) rfl
   dsimp only [List.eraseIdx] at s
   refine zzc ha (do_any W hW _ w g1 D2 (left [] (upTo (tns ds) o k i j)) hD2 (run_left_le ho hpost.2.2.2 hi) x (fun w s => ((hr _ s.tail.tail.tail.tail.tail).row hd).row hx) (((hn.row hd).row hx).1) (((hn.row hd).row hx).2) s) ?_
   rintro _ w ⟨D3, rfl, hD3, s⟩
   refine ⟨_, rfl, ?_⟩; clear ha; intro a ha
   refine zv (.bool (!(isWell (left [] (upTo (tns ds) o k i j)) x.t))) ha ?_; clear ha; intro a ha
   refine zn2 ?_
   refine zzh (!(isWell (left [] (upTo (tns ds) o k i j)) x.t)) ha ?_ ?_ <;> intro hb
   ·
    rw [hb] at ha; skip
    have hwl : isWell (left [] (upTo (tns ds) o k i j)) x.t = false := by simpa using hb
    refine wp_region_lit ?_
    refine zv (.func (.func 39) #[] #[.pointer (some ⟨gf, 0, none⟩), .pointer (some ⟨gt, 0, none⟩), .pointer (some ⟨gd, 0, none⟩)]) ha ?_
    refine zzv (.int .i64 ((i : Nat) : Int)) ?_
    refine zzv (.int .i64 ((j : Nat) : Int)) ?_; clear ha; intro a ha
    replace s := ((s.at_ (j := 5) rfl).at_ (j := 5) rfl).at_ (j := 5) rfl
    dsimp only [List.eraseIdx] at s
    refine zzc ha (look_any W _ w gf gt gd (first [] (upTo (tns ds) o k i j)) i j s) ?_
    rintro _ w ⟨rfl, s⟩
    refine ⟨_, rfl, ?_⟩; clear ha; intro a ha
    refine wpList_nil ?_
    refine block_normal ?_
    refine then_normal ?_
    refine wp_region_lit ?_
    refine zw (.int .i64 ((j + 1 : Nat) : Int)) ha zar ?_
    refine zzv (.int .i64 ((j + 1 : Nat) : Int)) ?_; clear ha; intro a ha
    refine zn2 ?_
    replace s := ((((s.at_ (j := 2) rfl).at_ (j := 2) rfl).at_ (j := 2) rfl).at_ (j := 3) rfl).at_ (j := 5) rfl
    replace s := s.k5_1
    have hsn := upTo_snoc (o := o) (k := k) (tl_at hd hx)
    have hfs : first [] (upTo (tns ds) o k i (j + 1)) = (first [] (upTo (tns ds) o k i j)).or (some (i, j)) := by rw [hsn, first_snoc]; simp only [hwl]; rfl
    rw [← hfs] at s
    exact ⟨(j + 1, D3), (show d.l.length - (j + 1) < d.l.length - j by omega), (Has.cons ha (by kernel_rfl) (by kernel_rfl) (Has.cons ha (by kernel_rfl) (by kernel_rfl) (Has.cons ha (by kernel_rfl) (by kernel_rfl) (Has.cons ha (by kernel_rfl) (by kernel_rfl) (Has.cons ha (by kernel_rfl) (by kernel_rfl) (Has.cons ha (by kernel_rfl) (by kernel_rfl) (Has.cons ha (by kernel_rfl) (by kernel_rfl) (Has.cons ha (by kernel_rfl) (by rw [hAl]; kernel_rfl) (Has.cons ha (by kernel_rfl) (by kernel_rfl) (Has.cons ha (by kernel_rfl) (by kernel_rfl) (Has.nil ha))))))))))), s, (show j + 1 ≤ d.l.length by omega), by rw [hsn, left_snoc]; exact hD3⟩
   rw [hb] at ha; skip
   have hwl : isWell (left [] (upTo (tns ds) o k i j)) x.t = true := by simpa using hb
   refine wp_skip ?_
   refine block_normal ?_
   refine then_normal ?_
   refine wp_region_lit ?_
   refine zw (.int .i64 ((j + 1 : Nat) : Int)) ha zar ?_
   refine zzv (.int .i64 ((j + 1 : Nat) : Int)) ?_; clear ha; intro a ha
   refine zn2 ?_
   replace s := ((((s.at_ (j := 5) rfl).at_ (j := 5) rfl).at_ (j := 5) rfl).at_ (j := 3) rfl).at_ (j := 5) rfl
   replace s := s.k5_1
   have hsn := upTo_snoc (o := o) (k := k) (tl_at hd hx)
   have hfs : first [] (upTo (tns ds) o k i (j + 1)) = first [] (upTo (tns ds) o k i j) := by rw [hsn, first_snoc]; simp only [hwl]; simp
   rw [← hfs] at s
   exact ⟨(j + 1, D3), (show d.l.length - (j + 1) < d.l.length - j by omega), (Has.cons ha (by kernel_rfl) (by kernel_rfl) (Has.cons ha (by kernel_rfl) (by kernel_rfl) (Has.cons ha (by kernel_rfl) (by kernel_rfl) (Has.cons ha (by kernel_rfl) (by kernel_rfl) (Has.cons ha (by kernel_rfl) (by kernel_rfl) (Has.cons ha (by kernel_rfl) (by kernel_rfl) (Has.cons ha (by kernel_rfl) (by kernel_rfl) (Has.cons ha (by kernel_rfl) (by rw [hAl]; kernel_rfl) (Has.cons ha (by kernel_rfl) (by kernel_rfl) (Has.cons ha (by kernel_rfl) (by kernel_rfl) (Has.nil ha))))))))))), s, (show j + 1 ≤ d.l.length by omega), by rw [hsn, left_snoc]; exact hD3⟩
  rw [hb] at ha; replace hb : ¬ (((j : Nat) : Int) < ((d.l.length : Nat) : Int)) := of_decide_eq_false hb
  have hD2 := hp.2
  refine wp_exit ?_
  refine then_exit ?_
  refine then_exit ?_
  refine block_hit ?_
  refine block_normal ?_
  refine then_normal ?_
  refine wp_region_lit ?_
  refine zw (.int .i64 ((k + 1 : Nat) : Int)) ha zar ?_
  refine zzv (.int .i64 ((k + 1 : Nat) : Int)) ?_; clear ha; intro a ha
  refine zn2 ?_
  have hjl : j = d.l.length := by omega
  rw [hjl, ← tl_len hd, upTo_all hi] at hD2 s
  exact ⟨(k + 1, D2), (show ds.length - (k + 1) < ds.length - k by omega), (Has.cons ha (by kernel_rfl) (by kernel_rfl) (Has.cons ha (by kernel_rfl) (by kernel_rfl) (Has.cons ha (by kernel_rfl) (by kernel_rfl) (Has.cons ha (by kernel_rfl) (by kernel_rfl) (Has.cons ha (by kernel_rfl) (by kernel_rfl) (Has.cons ha (by kernel_rfl) (by kernel_rfl) (Has.nil ha))))))), s, (show k + 1 ≤ ds.length by omega), hD2⟩
 rw [hb] at ha; replace hb : ¬ (((k : Nat) : Int) < ((ds.length : Nat) : Int)) := of_decide_eq_false hb
 have hk : k = ds.length := by omega
 have hD := hp.2
 refine wp_exit ?_
 refine then_exit ?_
 refine then_exit ?_
 refine block_hit ?_
 refine then_normal ?_
 refine zn1 ?_
 refine zv (.map (some g1)) ha ?_
 refine zzv (.map (some g1)) ?_
 refine zzv (.int .i64 0) ?_; clear ha; intro a ha
 refine zn2 ?_
 refine wp_ret ?_
 refine ret_with (v := .tuple #[.map (some g1), .int .i64 0]) ha (results_2 rfl ha (res_tmp (by kernel_rfl) (by kernel_rfl)) (res_tmp (by kernel_rfl) (by kernel_rfl))) ?_
 replace s := (((s.at_ (j := 4) rfl).at_ (j := 4) rfl).at_ (j := 4) rfl).at_ (j := 4) rfl
 replace s := s.k4_1
 rw [hk, ← hol, List.take_length] at hD s
 exact ⟨_, _, o, rfl, ho, hD, s⟩

set_option maxRecDepth 100000 in
set_option maxHeartbeats 2000000 in
theorem play_chk_no (W : World) (hW : W.drawn = 0) (L : List Chunk) (w : World) (A : Option Addr) (ca : Nat) (ds : List Dn) (hr : Knows L (DonesIn A ds)) (hn : Bn ds) (gf gt gd : Nat) (h0 : code (tns ds) ≠ 0) (s : St W (.blk gf [.bool ((none : Option (Nat × Nat)).isSome)] 4 :: .blk gt [.int .i64 ((fst (none : Option (Nat × Nat)) : Nat) : Int)] 3 :: .blk gd [.int .i64 ((snd (none : Option (Nat × Nat)) : Nat) : Int)] 3 :: L) w) :
  Calls Tryz.prog 38 #[.slice A ds.length ca, .func (.func 39) #[] #[.pointer (some ⟨gf, 0, none⟩), .pointer (some ⟨gt, 0, none⟩), .pointer (some ⟨gd, 0, none⟩)]] w fun e w' => e = .returned (.tuple #[.map none, .int .i64 (code (tns ds))]) ∧ St W (.blk gf [.bool ((none : Option (Nat × Nat)).isSome)] 4 :: .blk gt [.int .i64 ((fst (none : Option (Nat × Nat)) : Nat) : Int)] 3 :: .blk gd [.int .i64 ((snd (none : Option (Nat × Nat)) : Nat) : Int)] 3 :: L) w' := by
 refine enter_args (l := [.slice A ds.length ca, .func (.func 39) #[] #[.pointer (some ⟨gf, 0, none⟩), .pointer (some ⟨gt, 0, none⟩), .pointer (some ⟨gd, 0, none⟩)]]) Tryz.func38 rfl rfl (Nat.le_of_ble_eq_true rfl) ?_
 intro a ha; replace ha : Has a 50 [(0, .slice A ds.length ca), (1, .func (.func 39) #[] #[.pointer (some ⟨gf, 0, none⟩), .pointer (some ⟨gt, 0, none⟩), .pointer (some ⟨gd, 0, none⟩)])] := ha
 refine zn1 ?_
 refine zv (.map none) ha ?_
 refine zzv (.int .i64 0) ?_; clear ha; intro a ha
 refine zn4 ?_
 refine zv (.slice A ds.length ca) ha ?_; clear ha; intro a ha
 refine zzc ha (order_no W _ w A ca ds (fun w s => hr w s.tail.tail.tail) hn h0 s) ?_
 rintro _ w ⟨rfl, s⟩
 refine ⟨_, rfl, ?_⟩; clear ha; intro a ha
 refine zv (.tuple #[.slice none 0 0, .int .i64 (code (tns ds))]) ha ?_
 refine zzv (.slice none 0 0) ?_
 refine zzv (.int .i64 (code (tns ds))) ?_
 refine zzv (.slice none 0 0) ?_
 refine zzv (.int .i64 (code (tns ds))) ?_; clear ha; intro a ha
 refine zn2 ?_
 refine wp_seq ?_
 refine zn1 ?_
 refine zv (.int .i64 (code (tns ds))) ha ?_
 refine zzw (.bool true) (run_known (show ((code (tns ds)) != (0 : Int)) = true from bne_iff_ne.2 (by omega)) (by kernel_rfl)) ?_; clear ha; intro a ha
 refine zn2 ?_
 refine wp_true ha rfl (by kernel_rfl) ?_
 refine zn1 ?_
 refine zv (.int .i64 (code (tns ds))) ha ?_
 refine zzv (.map none) ?_
 refine zzv (.int .i64 (code (tns ds))) ?_; clear ha; intro a ha
 refine zn2 ?_
 refine zzt ?_
 refine ret_with (v := .tuple #[.map none, .int .i64 (code (tns ds))]) ha (results_2 rfl ha (res_tmp (by kernel_rfl) (by kernel_rfl)) (res_tmp (by kernel_rfl) (by kernel_rfl))) ?_
 exact ⟨rfl, s⟩

end Go.Proofs.YtfcbjcohepkkfaaGreat.B
