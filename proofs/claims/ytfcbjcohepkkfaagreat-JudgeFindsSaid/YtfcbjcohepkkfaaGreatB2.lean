import Derived.Test.YtfcbjcohepkkfaaGreatB1
import Derived.Test.YtfcbjcohepkkfaaGreatSepV
import Derived.Test.YtfcbjcohepkkfaaGreatSepY
namespace Go.Proofs.YtfcbjcohepkkfaaGreat.B
open Go.RowKit Go.Maps Go.Sort Go.Shelf Go.Proofs.YtfcbjcohepkkfaaGreat.Sep Go.Proofs.YtfcbjcohepkkfaaGreat.P
set_option linter.unusedVariables false
set_option linter.unusedSimpArgs false
theorem keyed3 : Keyed Tryz.prog 3 := int_keyed Tryz.underlying3
theorem key3 {a : Int} (h : -9223372036854775808 ≤ a ∧ a ≤ 9223372036854775807) : keyOf Tryz.prog 3 (encI a) = some (.int .i64 a) := keyOf_int_mk Tryz.underlying3 (WalkArith.wf_i64 (by omega))
/-- The map of the ids that were seen. -/
def idm (l : List Tn) : List (Int × Value) := l.map fun t => (t.id, .int .i64 1)
def seen (l : List Tn) (x : Int) : Int := if x ∈ ids l then 1 else 0
theorem seen_pos {l : List Tn} {x : Int} : seen l x > 0 ↔ x ∈ ids l := by unfold seen; split <;> simp [*]
theorem idm_len (l : List Tn) : (idm l).length = l.length := by simp [idm]
theorem idm_new {l : List Tn} {x : Tn} (h : x.id ∉ ids l) : mput (idm l) x.id (.int .i64 1) = idm (l ++ [x]) := by
 rw [mput_new (fun p hp e => h (by
  obtain ⟨t, ht, rfl⟩ := List.mem_map.1 hp
  exact List.mem_map.2 ⟨t, ht, e⟩))]
 simp [idm]
theorem idm_get (l : List Tn) (x : Int) : (mget (idm l) x).getD (.int .i64 0) = .int .i64 (seen l x) := by
 unfold seen
 by_cases h : x ∈ ids l
 ·
  rw [if_pos h]
  have h1 : (mget (idm l) x).isSome = true := mget_isSome.2 (by simpa [idm, ids] using h)
  obtain ⟨v, hv⟩ := Option.isSome_iff_exists.1 h1
  obtain ⟨j, hj⟩ := mget_mem hv
  rw [hv]
  have := List.mem_of_getElem? hj
  obtain ⟨t, _, e⟩ := List.mem_map.1 this
  cases e; rfl
 rw [if_neg h]
 have h1 : mget (idm l) x = none := by
  cases e : mget (idm l) x with
  | none => rfl
  | some v =>
   have : (mget (idm l) x).isSome = true := by rw [e]; rfl
   exact absurd (by simpa [idm, ids] using mget_isSome.1 this) h
 rw [h1]; rfl
theorem many_take {ds : List Dn} {k : Nat} {d : Dn} (h : ds[k]? = some d) : many (tns (ds.take (k + 1))) = many (tns (ds.take k)) + d.l.length := by
 rw [take_snoc h]; simp [many, Dn.t]
theorem many_le (ds : List Dn) (k : Nat) : many (tns (ds.take k)) ≤ many (tns ds) := by
 have : ds = ds.take k ++ ds.drop k := (List.take_append_drop k ds).symm
 rw [show many (tns ds) = many (tns (ds.take k ++ ds.drop k)) by rw [← this]]
 simp only [many, tns, List.map_append, List.sum_append]
 omega
theorem okL_snoc {l : List Tn} {x : Tn} : okL (l ++ [x]) ↔ okL l ∧ okN x ∧ x.id ∉ ids l := by
 unfold okL ids
 rw [List.map_append, List.nodup_append]
 simp only [List.map_cons, List.map_nil, List.mem_append, List.mem_singleton]
 constructor
 ·
  rintro ⟨h1, h2, _, h4⟩
  exact ⟨⟨fun d hd => h1 d (.inl hd), h2⟩, h1 x (.inr rfl), fun h => h4 _ h _ rfl rfl⟩
 rintro ⟨⟨h1, h2⟩, h3, h4⟩
 refine ⟨fun d hd => hd.elim (h1 d) (fun e => e ▸ h3), h2, by simp, fun y hy z hz e => ?_⟩
 subst hz; subst e; exact h4 hy
theorem okL_take {l : List Tn} {k : Nat} (h : okL l) : okL (l.take k) :=
 ⟨fun d hd => h.1 d (List.mem_of_mem_take hd), by
  have := h.2
  unfold ids at *
  rw [List.map_take]
  exact List.Nodup.sublist (List.take_sublist _ _) this⟩
theorem tns_take (ds : List Dn) (k : Nat) : tns (ds.take k) = (tns ds).take k := List.map_take
theorem not_okL {ds : List Dn} {k : Nat} {d : Dn} (h : ds[k]? = some d) (hn : ¬ (okN d.t ∧ d.id ∉ ids (tns (ds.take k)))) : ¬ okL (tns ds) := fun e => hn (by
 have h1 := okL_take (k := k + 1) e
 rw [← tns_take, take_snoc h, tns, List.map_append] at h1
 exact (okL_snoc.1 h1).2)
theorem okL_next {ds : List Dn} {k : Nat} {d : Dn} (h : ds[k]? = some d) (h0 : okL (tns (ds.take k))) (h1 : okN d.t) (h2 : d.id ∉ ids (tns (ds.take k))) : okL (tns (ds.take (k + 1))) := by
 rw [take_snoc h, tns, List.map_append]
 exact okL_snoc.2 ⟨h0, h1, h2⟩
theorem bad_any_iff {l : List Dd} : l.any bad = true ↔ ¬ ∀ x ∈ l.map (·.t), okT x := by
 simp [bad]
theorem idm_snoc {ds : List Dn} {k : Nat} {d : Dn} (h : ds[k]? = some d) (hn : d.id ∉ ids (tns (ds.take k))) : mput (idm (tns (ds.take k))) d.id (.int .i64 1) = idm (tns (ds.take (k + 1))) := by
 rw [take_snoc h, tns, tns, List.map_append]
 exact idm_new (x := d.t) hn
theorem codeS_zero {x y : Int} : codeS x y = 0 ↔ okS x y := by unfold codeS; split <;> simp [*]
theorem code_limit {ds : List Dn} (h : ¬ few (tns ds)) : code (tns ds) = 5 := by unfold code; rw [if_pos h]
theorem code_bad {ds : List Dn} (h : few (tns ds)) (k : ¬ okL (tns ds)) : code (tns ds) = 2 := by unfold code; rw [if_neg (by simpa using h), if_neg k]

set_option maxRecDepth 100000 in
set_option maxHeartbeats 2000000 in
theorem check_any (W : World) (L : List Chunk) (w : World) (A : Option Addr) (ca : Nat) (ds : List Dn) (hr : Knows L (DonesIn A ds)) (hn : Bn ds) (s : St W L w) :
  Calls Tryz.prog 61 #[.slice A ds.length ca] w fun e w' => e = .returned (.int .i64 (code (tns ds))) ∧ St W L w' := by
 refine enter_args (l := [.slice A ds.length ca]) Tryz.func61 rfl rfl (Nat.le_of_ble_eq_true rfl) ?_
 intro a ha; replace ha : Has a 61 [(0, .slice A ds.length ca)] := ha
 refine zn1 ?_
 refine zv (.int .i64 0) ha ?_; clear ha; intro a ha
 refine zn2 ?_
 refine wp_seq ?_
 refine zn1 ?_
 refine zv (.slice A ds.length ca) ha ?_
 refine zzv (.int .i64 ((ds.length : Nat) : Int)) ?_
 refine zzv (.bool (decide (((ds.length : Nat) : Int) > (1000 : Int)))) ?_; clear ha; intro a ha
 refine zn2 ?_
 refine zzh (decide (((ds.length : Nat) : Int) > (1000 : Int))) ha ?_ ?_ <;> intro hb
 ·
  rw [hb] at ha; replace hb : (((ds.length : Nat) : Int) > (1000 : Int)) := of_decide_eq_true hb
  refine zn1 ?_
  refine zv (.int .i64 5) ha ?_; clear ha; intro a ha
  refine zn2 ?_
  refine zzt ?_
  refine zzr (v := .int .i64 5) ha ?_
  refine ⟨?_, s⟩
  rw [code_limit (fun h => ?_)]
  have h1 := h.1
  have h2 := h.2
  simp only [List.length_map] at h1
  omega
 rw [hb] at ha; replace hb : ¬ (((ds.length : Nat) : Int) > (1000 : Int)) := of_decide_eq_false hb
 refine wp_skip ?_
 refine then_normal ?_
 refine zn1 ?_
 refine zv (.int .i64 0) ha ?_; clear ha; intro a ha
 refine zn2 ?_
 refine wp_seq ?_
 refine zn1 ?_
 refine zv (.slice A ds.length ca) ha ?_
 refine zzv (.int .i64 ((ds.length : Nat) : Int)) ?_
 refine zzv (.int .i64 0) ?_; clear ha; intro a ha
 refine zn2 ?_
 refine wp_block ?_
 have hm0 : many (tns (ds.take 0)) = 0 := rfl
 refine wp_loopG (G := Nat) (fun k a w => Has a 61 [(0, .slice A ds.length ca), (12, .slice A ds.length ca), (13, .int .i64 ((ds.length : Nat) : Int)), (3, .int .i64 ((many (tns (ds.take k)) : Nat) : Int)), (14, .int .i64 ((k : Nat) : Int))] ∧ St W (L) w ∧ (k ≤ ds.length ∧ many (tns (ds.take k)) ≤ 10000)) (fun k => ds.length - k) 0 ?_ ?_
 ·
  exact ⟨(Has.cons ha (by kernel_rfl) (by kernel_rfl) (Has.cons ha (by kernel_rfl) (by kernel_rfl) (Has.cons ha (by kernel_rfl) (by kernel_rfl) (Has.cons ha (by kernel_rfl) (by kernel_rfl) (Has.cons ha (by kernel_rfl) (by kernel_rfl) (Has.nil ha)))))), s, ⟨Nat.zero_le _, by rw [hm0]; omega⟩⟩
 clear ha s; rintro k a w ⟨ha, s, hp⟩
 refine zn1 ?_
 refine zv (.bool (decide (((k : Nat) : Int) < ((ds.length : Nat) : Int)))) ha ?_; clear ha; intro a ha
 refine zn2 ?_
 refine wp_seq ?_
 refine zzh (decide (((k : Nat) : Int) < ((ds.length : Nat) : Int))) ha ?_ ?_ <;> intro hb
 ·
  rw [hb] at ha; replace hb : (((k : Nat) : Int) < ((ds.length : Nat) : Int)) := of_decide_eq_true hb
  obtain ⟨d, hd⟩ : ∃ d, ds[k]? = some d := ⟨_, List.getElem?_eq_getElem (by omega)⟩
  have hdl := (hn.row hd).1
  obtain ⟨ad, hA⟩ := Reads.addr (hr _ s.sat).1 (by omega)
  subst hA
  refine wp_skip ?_
  refine then_normal ?_
  refine wp_seq ?_
  refine wp_block ?_
  refine zn1 ?_
  refine zw (.pointer (some (ad.add (k * 4)))) ha (run_indexAddr' (kd := .i64) (i := ((k : Nat) : Int)) (n := ds.length) (c := ca) k rfl Tryz.underlying48 Tryz.sizeOf77 (by kernel_rfl) (by kernel_rfl) rfl (by first | assumption | omega) _) ?_
  refine zzw (.agg (nv d).toArray) (run_loadAtN (i := k * 4) (nv d) ((hr _ s.sat).1) rfl (by kernel_rfl) Tryz.isAgg77 Tryz.sizeOf77 (fun q_ hq_ => nvs_at hd hq_) rfl) ?_; clear ha; intro a ha
  refine zze ha (ex_alloc [.int .i64 0, .int .i64 0, .int .i64 0, .slice none 0 0] s rfl (Tryz.zeroValue77 _) (by kernel_rfl)) ?_
  clear ha; rintro _ w a ⟨g1, rfl, s⟩ ha
  refine zzd ha (ex_store (of_ := 0) 0 (nv d) s rfl rfl (by kernel_rfl) (by kernel_rfl) (Tryz.sizeOf77 _) rfl (by simp [Value.oneCell']) (Nat.le_of_ble_eq_true rfl)) ?_
  clear ha; rintro w a s ha
  dsimp only [List.set, putAt] at s
  refine zn4 ?_
  refine zv (.int .i64 ((many (tns (ds.take k)) : Nat) : Int)) ha ?_
  refine zzv (.pointer (some ⟨g1, 3, none⟩)) ?_
  refine zzw (.slice d.A d.l.length d.c) (zl1 0 3) ?_
  refine zzv (.int .i64 ((d.l.length : Nat) : Int)) ?_
  refine zzw (.int .i64 ((many (tns (ds.take k)) + d.l.length : Nat) : Int)) zar ?_
  refine zzv (.int .i64 ((many (tns (ds.take k)) + d.l.length : Nat) : Int)) ?_; clear ha; intro a ha
  refine zn4 ?_
  refine zv (.int .i64 ((many (tns (ds.take k)) + d.l.length : Nat) : Int)) ha ?_
  refine zzv (.bool (decide (((many (tns (ds.take k)) + d.l.length : Nat) : Int) > (10000 : Int)))) ?_; clear ha; intro a ha
  refine zn2 ?_
  refine zzh (decide (((many (tns (ds.take k)) + d.l.length : Nat) : Int) > (10000 : Int))) ha ?_ ?_ <;> intro hb
  ·
   rw [hb] at ha; replace hb : (((many (tns (ds.take k)) + d.l.length : Nat) : Int) > (10000 : Int)) := of_decide_eq_true hb
   refine zn1 ?_
   refine zv (.int .i64 5) ha ?_; clear ha; intro a ha
   refine zn2 ?_
   refine wp_ret ?_
   refine block_ret ?_
   refine then_ret ?_
   refine then_ret ?_
   refine block_ret ?_
   refine then_ret ?_
   refine zzr (v := .int .i64 5) ha ?_
   replace s := s.tail
   replace s : St W (L) w := s
   refine ⟨?_, s⟩
   rw [code_limit (fun h => ?_)]
   have h1 := h.1
   have h2 := h.2
   simp only [List.length_map] at h1
   have h3 := many_le ds (k + 1)
   rw [many_take hd] at h3
   omega
  rw [hb] at ha; replace hb : ¬ (((many (tns (ds.take k)) + d.l.length : Nat) : Int) > (10000 : Int)) := of_decide_eq_false hb
  refine wp_skip ?_
  refine block_normal ?_
  refine then_normal ?_
  refine wp_region_lit ?_
  refine zw (.int .i64 ((k + 1 : Nat) : Int)) ha zar ?_
  refine zzv (.int .i64 ((k + 1 : Nat) : Int)) ?_; clear ha; intro a ha
  refine zn2 ?_
  replace s := s.tail
  replace s : St W (L) w := s
  have hmt := many_take hd
  exact ⟨k + 1, by omega, (Has.cons ha (by kernel_rfl) (by kernel_rfl) (Has.cons ha (by kernel_rfl) (by kernel_rfl) (Has.cons ha (by kernel_rfl) (by kernel_rfl) (Has.cons ha (by kernel_rfl) (Eq.trans (b := .int .i64 ((many (tns (ds.take k)) + d.l.length : Nat) : Int)) (by kernel_rfl) (by rw [many_take hd])) (Has.cons ha (by kernel_rfl) (by kernel_rfl) (Has.nil ha)))))), s, by omega, by omega⟩
 rw [hb] at ha; replace hb : ¬ (((k : Nat) : Int) < ((ds.length : Nat) : Int)) := of_decide_eq_false hb
 have hk : k = ds.length := by omega
 have hmany : many (tns ds) ≤ 10000 := by have := hp.2; rwa [hk, List.take_length] at this
 have hfew : few (tns ds) := ⟨by simp only [List.length_map]; omega, hmany⟩
 refine wp_exit ?_
 refine then_exit ?_
 refine then_exit ?_
 refine block_hit ?_
 refine then_normal ?_
 refine zn1 ?_
 refine zze ha (ex_makeMap Tryz.prog 3 encI s rfl) ?_
 clear ha; rintro _ w a ⟨g2, rfl, s⟩ ha
 refine zv (.map (some g2)) ha ?_; clear ha; intro a ha
 refine zn2 ?_
 refine wp_seq ?_
 refine zn1 ?_
 refine zv (.slice A ds.length ca) ha ?_
 refine zzv (.int .i64 ((ds.length : Nat) : Int)) ?_
 refine zzv (.int .i64 0) ?_; clear ha; intro a ha
 refine zn2 ?_
 refine wp_block ?_
 refine wp_loopG (G := Nat) (fun k a w => Has a 61 [(27, .slice A ds.length ca), (28, .int .i64 ((ds.length : Nat) : Int)), (6, .map (some g2)), (29, .int .i64 ((k : Nat) : Int))] ∧ St W (MapT Tryz.prog 3 encI g2 (idm (tns (ds.take k))) :: L) w ∧ (k ≤ ds.length ∧ okL (tns (ds.take k)))) (fun k => ds.length - k) 0 ?_ ?_
 ·
  exact ⟨(Has.cons ha (by kernel_rfl) (by kernel_rfl) (Has.cons ha (by kernel_rfl) (by kernel_rfl) (Has.cons ha (by kernel_rfl) (by kernel_rfl) (Has.cons ha (by kernel_rfl) (by kernel_rfl) (Has.nil ha))))), s, ⟨Nat.zero_le _, by simp [okL, ids]⟩⟩
 clear ha s; rintro k a w ⟨ha, s, hp⟩
 refine zn1 ?_
 refine zv (.bool (decide (((k : Nat) : Int) < ((ds.length : Nat) : Int)))) ha ?_; clear ha; intro a ha
 refine zn2 ?_
 refine wp_seq ?_
 refine zzh (decide (((k : Nat) : Int) < ((ds.length : Nat) : Int))) ha ?_ ?_ <;> intro hb
 ·
  rw [hb] at ha; replace hb : (((k : Nat) : Int) < ((ds.length : Nat) : Int)) := of_decide_eq_true hb
  obtain ⟨d, hd⟩ : ∃ d, ds[k]? = some d := ⟨_, List.getElem?_eq_getElem (by omega)⟩
  have hdl := (hn.row hd).1
  obtain ⟨ad, hA⟩ := Reads.addr (hr _ s.sat.tail).1 (by omega)
  subst hA
  have hok := hp.2
  refine wp_skip ?_
  refine then_normal ?_
  refine wp_seq ?_
  refine wp_block ?_
  refine zn1 ?_
  refine zw (.pointer (some (ad.add (k * 4)))) ha (run_indexAddr' (kd := .i64) (i := ((k : Nat) : Int)) (n := ds.length) (c := ca) k rfl Tryz.underlying48 Tryz.sizeOf77 (by kernel_rfl) (by kernel_rfl) rfl (by first | assumption | omega) _) ?_
  refine zzw (.agg (nv d).toArray) (run_loadAtN (i := k * 4) (nv d) ((hr _ s.sat.tail).1) rfl (by kernel_rfl) Tryz.isAgg77 Tryz.sizeOf77 (fun q_ hq_ => nvs_at hd hq_) rfl) ?_; clear ha; intro a ha
  refine zze ha (ex_alloc [.int .i64 0, .int .i64 0, .int .i64 0, .slice none 0 0] s rfl (Tryz.zeroValue77 _) (by kernel_rfl)) ?_
  clear ha; rintro _ w a ⟨g3, rfl, s⟩ ha
  refine zzd ha (ex_store (of_ := 0) 0 (nv d) s rfl rfl (by kernel_rfl) (by kernel_rfl) (Tryz.sizeOf77 _) rfl (by simp [Value.oneCell']) (Nat.le_of_ble_eq_true rfl)) ?_
  clear ha; rintro w a s ha
  dsimp only [List.set, putAt] at s
  refine zn2 ?_
  refine wp_seq ?_
  refine zn1 ?_
  refine zv (.pointer (some ⟨g3, 0, none⟩)) ha ?_
  refine zzw (.int .i64 d.id) (zl1 0 0) ?_
  refine zzv (.bool (decide (d.id < (1 : Int)))) ?_
  refine zzv (.bool (decide (d.id < (1 : Int)))) ?_; clear ha; intro a ha
  rcases Bool.eq_false_or_eq_true (decide (d.id < (1 : Int))) with hb | hb
  ·
   rw [hb] at ha; replace hb : (d.id < (1 : Int)) := of_decide_eq_true hb
   refine zp ha ?_
   iterate 2 refine zzp ?_
   refine zzv (.bool true) ?_
   refine zzv (.bool true) ?_
   iterate 5 refine zzp ?_
   refine zzv (.bool true) ?_
   refine zzv (.bool true) ?_
   iterate 4 refine zzp ?_
   refine zzv (.bool true) ?_; clear ha; intro a ha
   refine zn2 ?_
   refine wp_true ha rfl (by kernel_rfl) ?_
   refine zn1 ?_
   refine zv (.int .i64 2) ha ?_; clear ha; intro a ha
   refine zn2 ?_
   refine zzt ?_
   refine block_ret ?_
   refine then_ret ?_
   refine then_ret ?_
   refine block_ret ?_
   refine then_ret ?_
   refine zzr (v := .int .i64 2) ha ?_
   replace s := s.tail.tail
   replace s : St W (L) w := s
   refine ⟨?_, s⟩
   rw [code_bad hfew (not_okL hd fun h => ?_)]
   obtain ⟨⟨h1, h2, h3⟩, h4⟩ := h
   simp only [Dn.t] at h1 h2 h3
   first | exact h4 hb | exact hnst (by unfold okS; omega) | exact hnall h3 | omega
  rw [hb] at ha; replace hb : ¬ (d.id < (1 : Int)) := of_decide_eq_false hb
  refine zv (.pointer (some ⟨g3, 0, none⟩)) ha ?_
  refine zzw (.int .i64 d.id) (zl1 0 0) ?_
  refine zzv (.bool (decide (d.id > (9007199254740991 : Int)))) ?_
  refine zzv (.bool (decide (d.id > (9007199254740991 : Int)))) ?_
  refine zzv (.bool (decide (d.id > (9007199254740991 : Int)))) ?_; clear ha; intro a ha
  rcases Bool.eq_false_or_eq_true (decide (d.id > (9007199254740991 : Int))) with hb | hb
  ·
   rw [hb] at ha; replace hb : (d.id > (9007199254740991 : Int)) := of_decide_eq_true hb
   refine zp ha ?_
   iterate 4 refine zzp ?_
   refine zzv (.bool true) ?_
   refine zzv (.bool true) ?_
   iterate 4 refine zzp ?_
   refine zzv (.bool true) ?_; clear ha; intro a ha
   refine zn2 ?_
   refine wp_true ha rfl (by kernel_rfl) ?_
   refine zn1 ?_
   refine zv (.int .i64 2) ha ?_; clear ha; intro a ha
   refine zn2 ?_
   refine zzt ?_
   refine block_ret ?_
   refine then_ret ?_
   refine then_ret ?_
   refine block_ret ?_
   refine then_ret ?_
   refine zzr (v := .int .i64 2) ha ?_
   replace s := s.tail.tail
   replace s : St W (L) w := s
   refine ⟨?_, s⟩
   rw [code_bad hfew (not_okL hd fun h => ?_)]
   obtain ⟨⟨h1, h2, h3⟩, h4⟩ := h
   simp only [Dn.t] at h1 h2 h3
   first | exact h4 hb | exact hnst (by unfold okS; omega) | exact hnall h3 | omega
  rw [hb] at ha; replace hb : ¬ (d.id > (9007199254740991 : Int)) := of_decide_eq_false hb
  refine zv (.map (some g2)) ha ?_
  refine zzv (.pointer (some ⟨g3, 0, none⟩)) ?_
  refine zzw (.int .i64 d.id) (zl1 0 0) ?_
  refine zzw (.int .i64 (seen (tns (ds.take k)) d.id)) (run_lookup (a := d.id) (.int .i64 (seen (tns (ds.take k)) d.id)) (s.mapIs 1 rfl) rfl (by kernel_rfl) (by kernel_rfl) encI_inj keyed3 Tryz.underlying73 Tryz.zeroValue3 (key3 (by omega)) (idm_get _ _)) ?_
  refine zzv (.bool (decide ((seen (tns (ds.take k)) d.id) > (0 : Int)))) ?_
  refine zzv (.bool (decide ((seen (tns (ds.take k)) d.id) > (0 : Int)))) ?_
  refine zzv (.bool (decide ((seen (tns (ds.take k)) d.id) > (0 : Int)))) ?_; clear ha; intro a ha
  rcases Bool.eq_false_or_eq_true (decide ((seen (tns (ds.take k)) d.id) > (0 : Int))) with hb | hb
  ·
   rw [hb] at ha; replace hb : ((seen (tns (ds.take k)) d.id) > (0 : Int)) := of_decide_eq_true hb
   replace hb := seen_pos.1 hb
   refine zp ha ?_
   iterate 3 refine zzp ?_
   refine zzv (.bool true) ?_; clear ha; intro a ha
   refine zn2 ?_
   refine wp_true ha rfl (by kernel_rfl) ?_
   refine zn1 ?_
   refine zv (.int .i64 2) ha ?_; clear ha; intro a ha
   refine zn2 ?_
   refine zzt ?_
   refine block_ret ?_
   refine then_ret ?_
   refine then_ret ?_
   refine block_ret ?_
   refine then_ret ?_
   refine zzr (v := .int .i64 2) ha ?_
   replace s := s.tail.tail
   replace s : St W (L) w := s
   refine ⟨?_, s⟩
   rw [code_bad hfew (not_okL hd fun h => ?_)]
   obtain ⟨⟨h1, h2, h3⟩, h4⟩ := h
   simp only [Dn.t] at h1 h2 h3
   first | exact h4 hb | exact hnst (by unfold okS; omega) | exact hnall h3 | omega
  rw [hb] at ha; replace hb : ¬ ((seen (tns (ds.take k)) d.id) > (0 : Int)) := of_decide_eq_false hb
  have hns := fun h => hb (seen_pos.2 h)
  refine zv (.pointer (some ⟨g3, 1, none⟩)) ha ?_
  refine zzw (.agg #[.int .i64 d.wall, .int .i64 d.logic]) (zln 0 1) ?_; clear ha; intro a ha
  refine zzc ha (schk_any W _ w d.wall d.logic s) ?_
  rintro _ w ⟨rfl, s⟩
  refine ⟨_, rfl, ?_⟩; clear ha; intro a ha
  refine zv (.bool ((codeS d.wall d.logic) != (0 : Int))) ha ?_
  refine zzv (.bool ((codeS d.wall d.logic) != (0 : Int))) ?_; clear ha; intro a ha
  refine zn2 ?_
  refine zzh ((codeS d.wall d.logic) != (0 : Int)) ha ?_ ?_ <;> intro hb
  ·
   rw [hb] at ha; replace hb := zbn hb
   have hnst : ¬ okS d.wall d.logic := fun h => hb (codeS_zero.2 h)
   refine zn1 ?_
   refine zv (.int .i64 2) ha ?_; clear ha; intro a ha
   refine zn2 ?_
   refine zzt ?_
   refine block_ret ?_
   refine then_ret ?_
   refine then_ret ?_
   refine block_ret ?_
   refine then_ret ?_
   refine zzr (v := .int .i64 2) ha ?_
   replace s := s.tail.tail
   replace s : St W (L) w := s
   refine ⟨?_, s⟩
   rw [code_bad hfew (not_okL hd fun h => ?_)]
   obtain ⟨⟨h1, h2, h3⟩, h4⟩ := h
   simp only [Dn.t] at h1 h2 h3
   first | exact h4 hb | exact hnst (by unfold okS; omega) | exact hnall h3 | omega
  rw [hb] at ha; replace hb := zbq hb
  replace hb := codeS_zero.1 hb
  have hst := hb
  unfold okS at hst
  refine wp_skip ?_
  refine then_normal ?_
  refine zn1 ?_
  refine zv (.map (some g2)) ha ?_
  refine zzv (.pointer (some ⟨g3, 0, none⟩)) ?_
  refine zzw (.int .i64 d.id) (zl1 0 0) ?_; clear ha; intro a ha
  refine zzd ha (ex_mapUpdate (a := d.id) 1 (.int .i64 1) s rfl rfl (by kernel_rfl) (by kernel_rfl) (by kernel_rfl) encI_inj keyed3 Tryz.underlying73 (key3 (by omega)) (by rw [idm_len]; simp only [List.length_map, List.length_take, maxLen]; omega)) ?_
  clear ha; rintro w a s ha
  dsimp only [List.set, putAt] at s
  refine zn4 ?_
  refine zv (.pointer (some ⟨g3, 3, none⟩)) ha ?_
  refine zzw (.slice d.A d.l.length d.c) (zl1 0 3) ?_; clear ha; intro a ha
  refine zzc ha (contains_bad W _ w d.A d.c d.l (fun w s => (hr _ s.tail.tail).row hd) hdl s) ?_
  rintro _ w ⟨rfl, s⟩
  refine ⟨_, rfl, ?_⟩; clear ha; intro a ha
  refine zn2 ?_
  refine zzh (d.l.any bad) ha ?_ ?_ <;> intro hb
  ·
   rw [hb] at ha; skip
   have hnall := bad_any_iff.1 hb
   refine zn1 ?_
   refine zv (.int .i64 2) ha ?_; clear ha; intro a ha
   refine zn2 ?_
   refine wp_ret ?_
   refine block_ret ?_
   refine then_ret ?_
   refine then_ret ?_
   refine block_ret ?_
   refine then_ret ?_
   refine zzr (v := .int .i64 2) ha ?_
   replace s := s.tail.tail
   replace s : St W (L) w := s
   refine ⟨?_, s⟩
   rw [code_bad hfew (not_okL hd fun h => ?_)]
   obtain ⟨⟨h1, h2, h3⟩, h4⟩ := h
   simp only [Dn.t] at h1 h2 h3
   first | exact h4 hb | exact hnst (by unfold okS; omega) | exact hnall h3 | omega
  rw [hb] at ha; skip
  have hall := Decidable.not_not.1 (mt bad_any_iff.2 (by rw [hb]; decide))
  refine wp_skip ?_
  refine block_normal ?_
  refine then_normal ?_
  refine wp_region_lit ?_
  refine zw (.int .i64 ((k + 1 : Nat) : Int)) ha zar ?_
  refine zzv (.int .i64 ((k + 1 : Nat) : Int)) ?_; clear ha; intro a ha
  refine zn2 ?_
  replace s := s.at_ (j := 1) rfl
  replace s := s.k1_1
  rw [idm_snoc hd hns] at s
  exact ⟨k + 1, by omega, (Has.cons ha (by kernel_rfl) (by kernel_rfl) (Has.cons ha (by kernel_rfl) (by kernel_rfl) (Has.cons ha (by kernel_rfl) (by kernel_rfl) (Has.cons ha (by kernel_rfl) (by kernel_rfl) (Has.nil ha))))), s, by omega, okL_next hd hok ⟨by simp only [Dn.t]; omega, by simp only [Dn.t]; exact hst, hall⟩ hns⟩
 rw [hb] at ha; replace hb : ¬ (((k : Nat) : Int) < ((ds.length : Nat) : Int)) := of_decide_eq_false hb
 have hk : k = ds.length := by omega
 have hok := hp.2
 rw [hk, List.take_length] at hok
 refine wp_exit ?_
 refine then_exit ?_
 refine then_exit ?_
 refine block_hit ?_
 refine then_normal ?_
 refine zn1 ?_
 refine zv (.int .i64 0) ha ?_; clear ha; intro a ha
 refine zn2 ?_
 refine wp_ret ?_
 refine zzr (v := .int .i64 0) ha ?_
 replace s := s.tail
 replace s : St W (L) w := s
 refine ⟨?_, s⟩
 rw [code_zero.2 ⟨hfew, hok⟩]

end Go.Proofs.YtfcbjcohepkkfaaGreat.B
