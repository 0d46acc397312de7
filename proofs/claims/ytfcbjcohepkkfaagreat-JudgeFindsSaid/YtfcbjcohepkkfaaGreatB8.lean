import Derived.Test.YtfcbjcohepkkfaaGreatB7
import Derived.Test.YtfcbjcohepkkfaaGreatSepY
namespace Go.Proofs.YtfcbjcohepkkfaaGreat.B
open Go.RowKit Go.Maps Go.Sort Go.Shelf Go.Proofs.YtfcbjcohepkkfaaGreat.Sep Go.Proofs.YtfcbjcohepkkfaaGreat.P
set_option linter.unusedVariables false
set_option linter.unusedSimpArgs false
theorem ids_take {ds : List Dn} {j : Nat} {d : Dn} (h : ds[j]? = some d) : ids (tns (ds.take (j + 1))) = ids (tns (ds.take j)) ++ [d.id] := by
 rw [take_snoc h]; simp [ids, Dn.t]
theorem ids_hit {ds : List Dn} {j k : Nat} {d : Dn} (h : ds[j]? = some d) (hj : j < k) : d.id ∈ ids (tns (ds.take k)) := by
 refine List.mem_map.2 ⟨d.t, List.mem_map.2 ⟨d, ?_, rfl⟩, rfl⟩
 have := List.mem_of_getElem? (show (ds.take k)[j]? = some d by rw [List.getElem?_take, if_pos hj]; exact h)
 exact this
theorem eqStW (x y u v : Int) (w : World) : (Op.equalIn 10000 35 (.agg #[.int .i64 x, .int .i64 y]) (.agg #[.int .i64 u, .int .i64 v])).run Tryz.prog w = .ok (decide (x = u ∧ y = v)) w := by
 have u3 := Tryz.underlying3
 have a3 := Tryz.isAgg3
 have z3 := Tryz.sizeOf3
 have hS : Tryz.prog.underlying 35 = some (.struct (Tryz.prog.fieldsOf 35)) := by kernel_rfl
 have hp : Tryz.prog.stoodInHeld 35 = false := by kernel_rfl
 rw [show (10000 : Nat) = 9999 + 1 from rfl, run_equalIn_struct w 9999 35 _ _ hS hp]
 simp only [Program.fieldsOf, Tryz.underlying35]
 go_simp
 by_cases h1 : x = u <;> by_cases h2 : y = v <;> simp [h1, h2]
theorem run_st {o : Oper} {E : Env} {op : BinOp} {a b : Operand} {x y u v : Int} {yt : TypeId} (hop : op = .eql ∨ op = .neq) (ho : o.op = .binOp op 35 a b yt) (hx : evalE E a = .agg #[.int .i64 x, .int .i64 y]) (hy : evalE E b = .agg #[.int .i64 u, .int .i64 v]) :
  ∀ w, (execOp (evalE E) o).run Tryz.prog w = .ok (.value (.bool (if op = .eql then decide (x = u ∧ y = v) else decide (¬ (x = u ∧ y = v))))) w := by
 intro w
 have hm : Tryz.prog.eqGuardType Tryz.prog.depth 35 = false := by kernel_rfl
 have g : ∀ op a b u v, (eqGuard op 35 a b (.agg u) (.agg v)).run Tryz.prog w = .ok () w := fun op a b u v => run_eqGuard_agg w op 35 a b _ _ hm
 rcases hop with rfl | rfl
 ·
  simp [execOp, ho, hx, hy, run_eql_struct, eqStW, g]
 simp [execOp, ho, hx, hy, run_neq_struct, eqStW, g]

set_option maxRecDepth 100000 in
set_option maxHeartbeats 2000000 in
theorem rcheck_any (W : World) (L : List Chunk) (w : World) (A : Option Addr) (ca : Nat) (ds : List Dn) (hr : Knows L (DonesIn A ds)) (hn : Bn ds) (s : St W L w) :
  Calls Tryz.prog 68 #[.slice A ds.length ca] w fun e w' => e = .returned (.int .i64 (code (tns ds))) ∧ St W L w' := by
 have hfew : ds.length ≤ 1000 → many (tns ds) ≤ 10000 → few (tns ds) := fun h1 h2 => ⟨by simpa using h1, h2⟩
 refine enter_args (l := [.slice A ds.length ca]) Tryz.func68 rfl rfl (Nat.le_of_ble_eq_true rfl) ?_
 intro a ha; replace ha : Has a 110 [(0, .slice A ds.length ca)] := ha
 refine zn1 ?_
 refine zv (.int .i64 0) ha ?_; clear ha; intro a ha
 refine zn4 ?_
 refine zv (.int .i64 0) ha ?_; clear ha; intro a ha
 refine zn2 ?_
 refine wp_seq ?_
 refine zn1 ?_
 refine zv (.int .i64 0) ha ?_; clear ha; intro a ha
 refine zn2 ?_
 refine wp_block ?_
 have hm0 : many (tns (ds.take 0)) = 0 := rfl
 refine wp_loopG (G := Nat) (fun k a w => Has a 110 [(0, .slice A ds.length ca), (3, .int .i64 ((many (tns (ds.take k)) : Nat) : Int)), (4, .int .i64 ((k : Nat) : Int))] ∧ St W (L) w ∧ (k ≤ ds.length ∧ k ≤ 1001 ∧ many (tns (ds.take k)) ≤ k * 140737488351232)) (fun k => 1001 - k) 0 ?_ ?_
 ·
  exact ⟨(Has.cons ha (by kernel_rfl) (by kernel_rfl) (Has.cons ha (by kernel_rfl) (by kernel_rfl) (Has.cons ha (by kernel_rfl) (by kernel_rfl) (Has.nil ha)))), s, ⟨Nat.zero_le _, by omega, by rw [hm0]; omega⟩⟩
 clear ha s; rintro k a w ⟨ha, s, hp⟩
 refine wp_seq ?_
 refine zn1 ?_
 refine zv (.int .i64 ((k : Nat) : Int)) ha ?_
 refine zzv (.slice A ds.length ca) ?_
 refine zzv (.int .i64 ((ds.length : Nat) : Int)) ?_
 refine zzv (.bool (decide (((k : Nat) : Int) < ((ds.length : Nat) : Int)))) ?_
 refine zzv (.bool (decide (((k : Nat) : Int) < ((ds.length : Nat) : Int)))) ?_; clear ha; intro a ha
 rcases Bool.eq_false_or_eq_true (decide (((k : Nat) : Int) < ((ds.length : Nat) : Int))) with hb | hb
 ·
  rw [hb] at ha; replace hb : (((k : Nat) : Int) < ((ds.length : Nat) : Int)) := of_decide_eq_true hb
  obtain ⟨d, hd⟩ : ∃ d, ds[k]? = some d := ⟨_, List.getElem?_eq_getElem (by omega)⟩
  have hdl := (hn.row hd).1
  obtain ⟨ad, hA⟩ := Reads.addr (hr _ s.sat).1 (by omega)
  subst hA
  have hk3 := hp.2.2
  have hk4 : k * 140737488351232 ≤ 1001 * 140737488351232 := Nat.mul_le_mul_right _ hp.2.1
  refine zv (.int .i64 ((k : Nat) : Int)) ha ?_
  refine zzv (.bool (decide (((k : Nat) : Int) ≤ (1000 : Int)))) ?_
  refine zzv (.bool (decide (((k : Nat) : Int) ≤ (1000 : Int)))) ?_; clear ha; intro a ha
  refine zn2 ?_
  refine zzh (decide (((k : Nat) : Int) ≤ (1000 : Int))) ha ?_ ?_ <;> intro hb
  ·
   rw [hb] at ha; replace hb : (((k : Nat) : Int) ≤ (1000 : Int)) := of_decide_eq_true hb
   refine wp_skip ?_
   refine then_normal ?_
   refine wp_seq ?_
   refine wp_block ?_
   refine wp_region_lit ?_
   refine zv (.int .i64 ((many (tns (ds.take k)) : Nat) : Int)) ha ?_
   refine zzv (.slice (some ad) ds.length ca) ?_
   refine zzv (.int .i64 ((k : Nat) : Int)) ?_
   refine zzw (.pointer (some (ad.add (k * 4)))) (run_indexAddr' (kd := .i64) (i := ((k : Nat) : Int)) (n := ds.length) (c := ca) k rfl Tryz.underlying58 Tryz.sizeOf97 (by kernel_rfl) (by kernel_rfl) rfl (by first | assumption | omega) _) ?_
   refine zzw (.pointer (some (ad.add (k * 4 + 3)))) (zfa 95) ?_
   refine zzw (.slice d.A d.l.length d.c) (zla (k * 4 + 3) ((hr _ s.sat).1) (by rw [nvs_at hd (by omega)]; rfl)) ?_
   refine zzv (.int .i64 ((d.l.length : Nat) : Int)) ?_
   refine zzw (.int .i64 ((many (tns (ds.take k)) + d.l.length : Nat) : Int)) zar ?_
   refine zzv (.int .i64 ((many (tns (ds.take k)) + d.l.length : Nat) : Int)) ?_; clear ha; intro a ha
   refine wpList_nil ?_
   refine block_normal ?_
   refine then_normal ?_
   refine wp_region_lit ?_
   refine zv (.int .i64 ((k : Nat) : Int)) ha ?_
   refine zzw (.int .i64 ((k + 1 : Nat) : Int)) zar ?_
   refine zzv (.int .i64 ((k + 1 : Nat) : Int)) ?_; clear ha; intro a ha
   refine zn2 ?_
   have hmt := many_take hd
   exact ⟨k + 1, by omega, (Has.cons ha (by kernel_rfl) (by kernel_rfl) (Has.cons ha (by kernel_rfl) (Eq.trans (b := .int .i64 ((many (tns (ds.take k)) + d.l.length : Nat) : Int)) (by kernel_rfl) (by rw [many_take hd])) (Has.cons ha (by kernel_rfl) (by kernel_rfl) (Has.nil ha)))), s, by omega, by omega, by rw [hmt]; omega⟩
  rw [hb] at ha; replace hb : ¬ (((k : Nat) : Int) ≤ (1000 : Int)) := of_decide_eq_false hb
  have hnf : ¬ few (tns ds) := fun h => by have := h.1; simp only [List.length_map] at this; omega
  refine wp_exit ?_
  refine then_exit ?_
  refine then_exit ?_
  refine block_hit ?_
  refine then_normal ?_
  refine wp_seq ?_
  refine zn1 ?_
  refine zv (.slice (some ad) ds.length ca) ha ?_
  refine zzv (.int .i64 ((ds.length : Nat) : Int)) ?_
  refine zzv (.bool (decide (((ds.length : Nat) : Int) > (1000 : Int)))) ?_
  refine zzv (.bool (decide (((ds.length : Nat) : Int) > (1000 : Int)))) ?_; clear ha; intro a ha
  rcases Bool.eq_false_or_eq_true (decide (((ds.length : Nat) : Int) > (1000 : Int))) with hb | hb
  ·
   rw [hb] at ha; replace hb : (((ds.length : Nat) : Int) > (1000 : Int)) := of_decide_eq_true hb
   refine zp ha ?_
   refine zzp ?_
   refine zzv (.bool true) ?_; clear ha; intro a ha
   refine zn2 ?_
   refine wp_true ha rfl (by kernel_rfl) ?_
   refine zn1 ?_
   refine zv (.int .i64 5) ha ?_; clear ha; intro a ha
   refine zn2 ?_
   refine zzt ?_
   refine zzr (v := .int .i64 5) ha ?_
   refine ⟨?_, s⟩
   rw [code_limit hnf]
  rw [hb] at ha; replace hb : ¬ (((ds.length : Nat) : Int) > (1000 : Int)) := of_decide_eq_false hb
  refine zv (.int .i64 ((many (tns (ds.take k)) : Nat) : Int)) ha ?_
  refine zzv (.bool (decide (((many (tns (ds.take k)) : Nat) : Int) > (10000 : Int)))) ?_
  refine zzv (.bool (decide (((many (tns (ds.take k)) : Nat) : Int) > (10000 : Int)))) ?_; clear ha; intro a ha
  refine zn2 ?_
  refine zzh (decide (((many (tns (ds.take k)) : Nat) : Int) > (10000 : Int))) ha ?_ ?_ <;> intro hb
  ·
   rw [hb] at ha; replace hb : (((many (tns (ds.take k)) : Nat) : Int) > (10000 : Int)) := of_decide_eq_true hb
   refine zn1 ?_
   refine zv (.int .i64 5) ha ?_; clear ha; intro a ha
   refine zn2 ?_
   refine zzt ?_
   refine zzr (v := .int .i64 5) ha ?_
   refine ⟨?_, s⟩
   rw [code_limit hnf]
  rw [hb] at ha; replace hb : ¬ (((many (tns (ds.take k)) : Nat) : Int) > (10000 : Int)) := of_decide_eq_false hb
  refine wp_skip ?_
  refine then_normal ?_
  refine wp_seq ?_
  refine zn1 ?_
  refine zv (.int .i64 0) ha ?_; clear ha; intro a ha
  refine zn2 ?_
  refine wp_block ?_
  refine wp_loopG (G := Nat) (fun k a w => Has a 110 [(0, .slice (some ad) ds.length ca), (5, .int .i64 ((k : Nat) : Int))] ∧ St W (L) w ∧ (k ≤ ds.length ∧ okL (tns (ds.take k)))) (fun k => ds.length - k) 0 ?_ ?_
  ·
   exact ⟨(Has.cons ha (by kernel_rfl) (by kernel_rfl) (Has.cons ha (by kernel_rfl) (by kernel_rfl) (Has.nil ha))), s, ⟨Nat.zero_le _, by simp [okL, ids]⟩⟩
  clear ha s; rintro k a w ⟨ha, s, hp⟩
  refine wp_seq ?_
  refine zn1 ?_
  refine zv (.int .i64 ((k : Nat) : Int)) ha ?_
  refine zzv (.slice (some ad) ds.length ca) ?_
  refine zzv (.int .i64 ((ds.length : Nat) : Int)) ?_
  refine zzv (.bool (decide (((k : Nat) : Int) < ((ds.length : Nat) : Int)))) ?_; clear ha; intro a ha
  refine zn2 ?_
  refine zzh (decide (((k : Nat) : Int) < ((ds.length : Nat) : Int))) ha ?_ ?_ <;> intro hb
  ·
   rw [hb] at ha; replace hb : (((k : Nat) : Int) < ((ds.length : Nat) : Int)) := of_decide_eq_true hb
   obtain ⟨d, hd⟩ : ∃ d, ds[k]? = some d := ⟨_, List.getElem?_eq_getElem (by omega)⟩
   have hdl := (hn.row hd).1
   have hok := hp.2
   refine wp_skip ?_
   refine then_normal ?_
   refine wp_seq ?_
   refine wp_block ?_
   refine wp_seq ?_
   refine zn1 ?_
   refine zv (.slice (some ad) ds.length ca) ha ?_
   refine zzv (.int .i64 ((k : Nat) : Int)) ?_
   refine zzw (.pointer (some (ad.add (k * 4)))) (run_indexAddr' (kd := .i64) (i := ((k : Nat) : Int)) (n := ds.length) (c := ca) k rfl Tryz.underlying58 Tryz.sizeOf97 (by kernel_rfl) (by kernel_rfl) rfl (by first | assumption | omega) _) ?_
   refine zzw (.pointer (some (ad.add (k * 4 + 0)))) (zfa 3) ?_
   refine zzw (.int .i64 d.id) (zla (k * 4 + 0) ((hr _ s.sat).1) (by rw [nvs_at hd (by omega)]; rfl)) ?_
   refine zzv (.bool (decide (d.id < (1 : Int)))) ?_
   refine zzv (.bool (decide (d.id < (1 : Int)))) ?_; clear ha; intro a ha
   rcases Bool.eq_false_or_eq_true (decide (d.id < (1 : Int))) with hb | hb
   ·
    rw [hb] at ha; replace hb : (d.id < (1 : Int)) := of_decide_eq_true hb
    refine zp ha ?_
    iterate 5 refine zzp ?_
    refine zzv (.bool true) ?_
    refine zzv (.bool true) ?_
    iterate 7 refine zzp ?_
    refine zzv (.bool true) ?_; clear ha; intro a ha
    refine zn2 ?_
    refine wp_true ha rfl (by kernel_rfl) ?_
    refine zn1 ?_
    refine zv (.int .i64 2) ha ?_; clear ha; intro a ha
    refine zn2 ?_
    refine zzt ?_
    refine block_ret ?_
    refine then_ret ?_
    refine then_ret ?_
    refine block_ret ?_
    refine then_ret ?_
    refine zzr (v := .int .i64 2) ha ?_
    refine ⟨?_, s⟩
    rw [code_bad (hfew (by omega) (by omega)) (not_okL hd fun h => ?_)]
    obtain ⟨⟨h1, h2, h3⟩, h4⟩ := h
    simp only [Dn.t] at h1 h2 h3
    first | exact h4 (hb ▸ ids_hit (k := k) hd2 (by omega)) | exact hnst (by unfold okS; omega) | (have h5 := h3 x.t (List.mem_map.2 ⟨x, List.mem_of_getElem? hx, rfl⟩); unfold okT at h5; omega) | omega
   rw [hb] at ha; replace hb : ¬ (d.id < (1 : Int)) := of_decide_eq_false hb
   refine zv (.slice (some ad) ds.length ca) ha ?_
   refine zzv (.int .i64 ((k : Nat) : Int)) ?_
   refine zzw (.pointer (some (ad.add (k * 4)))) (run_indexAddr' (kd := .i64) (i := ((k : Nat) : Int)) (n := ds.length) (c := ca) k rfl Tryz.underlying58 Tryz.sizeOf97 (by kernel_rfl) (by kernel_rfl) rfl (by first | assumption | omega) _) ?_
   refine zzw (.pointer (some (ad.add (k * 4 + 0)))) (zfa 3) ?_
   refine zzw (.int .i64 d.id) (zla (k * 4 + 0) ((hr _ s.sat).1) (by rw [nvs_at hd (by omega)]; rfl)) ?_
   refine zzv (.bool (decide (d.id > (9007199254740991 : Int)))) ?_
   refine zzv (.bool (decide (d.id > (9007199254740991 : Int)))) ?_
   refine zzv (.bool (decide (d.id > (9007199254740991 : Int)))) ?_; clear ha; intro a ha
   rcases Bool.eq_false_or_eq_true (decide (d.id > (9007199254740991 : Int))) with hb | hb
   ·
    rw [hb] at ha; replace hb : (d.id > (9007199254740991 : Int)) := of_decide_eq_true hb
    refine zp ha ?_
    iterate 6 refine zzp ?_
    refine zzv (.bool true) ?_; clear ha; intro a ha
    refine zn2 ?_
    refine wp_true ha rfl (by kernel_rfl) ?_
    refine zn1 ?_
    refine zv (.int .i64 2) ha ?_; clear ha; intro a ha
    refine zn2 ?_
    refine zzt ?_
    refine block_ret ?_
    refine then_ret ?_
    refine then_ret ?_
    refine block_ret ?_
    refine then_ret ?_
    refine zzr (v := .int .i64 2) ha ?_
    refine ⟨?_, s⟩
    rw [code_bad (hfew (by omega) (by omega)) (not_okL hd fun h => ?_)]
    obtain ⟨⟨h1, h2, h3⟩, h4⟩ := h
    simp only [Dn.t] at h1 h2 h3
    first | exact h4 (hb ▸ ids_hit (k := k) hd2 (by omega)) | exact hnst (by unfold okS; omega) | (have h5 := h3 x.t (List.mem_map.2 ⟨x, List.mem_of_getElem? hx, rfl⟩); unfold okT at h5; omega) | omega
   rw [hb] at ha; replace hb : ¬ (d.id > (9007199254740991 : Int)) := of_decide_eq_false hb
   refine zv (.slice (some ad) ds.length ca) ha ?_
   refine zzv (.int .i64 ((k : Nat) : Int)) ?_
   refine zzw (.pointer (some (ad.add (k * 4)))) (run_indexAddr' (kd := .i64) (i := ((k : Nat) : Int)) (n := ds.length) (c := ca) k rfl Tryz.underlying58 Tryz.sizeOf97 (by kernel_rfl) (by kernel_rfl) rfl (by first | assumption | omega) _) ?_
   refine zzw (.pointer (some (ad.add (k * 4 + 1)))) (zfa 35) ?_
   refine zzw (.agg #[.int .i64 d.wall, .int .i64 d.logic]) (run_loadAtN (i := k * 4 + 1) [.int .i64 d.wall, .int .i64 d.logic] ((hr _ s.sat).1) rfl (by kernel_rfl) Tryz.isAgg35 Tryz.sizeOf35 (fun q_ hq_ => by rw [Nat.add_assoc, nvs_at hd (by omega)]; match q_, hq_ with | 0, _ => rfl | 1, _ => rfl) rfl) ?_; clear ha; intro a ha
   refine zzc ha (rschk_any W _ w d.wall d.logic s) ?_
   rintro _ w ⟨rfl, s⟩
   refine ⟨_, rfl, ?_⟩; clear ha; intro a ha
   refine zv (.bool ((codeS d.wall d.logic) != (0 : Int))) ha ?_
   refine zzv (.bool ((codeS d.wall d.logic) != (0 : Int))) ?_; clear ha; intro a ha
   refine zn2 ?_
   refine zzh ((codeS d.wall d.logic) != (0 : Int)) ha ?_ ?_ <;> intro hb
   ·
    rw [hb] at ha; replace hb := zbn hb
    have hnst : ¬ okS d.wall d.logic := fun h => hb (codeS_zero.2 h)
    refine zn1 ?_
    refine zv (.int .i64 2) ha ?_; clear ha; intro a ha
    refine zn2 ?_
    refine zzt ?_
    refine block_ret ?_
    refine then_ret ?_
    refine then_ret ?_
    refine block_ret ?_
    refine then_ret ?_
    refine zzr (v := .int .i64 2) ha ?_
    refine ⟨?_, s⟩
    rw [code_bad (hfew (by omega) (by omega)) (not_okL hd fun h => ?_)]
    obtain ⟨⟨h1, h2, h3⟩, h4⟩ := h
    simp only [Dn.t] at h1 h2 h3
    first | exact h4 (hb ▸ ids_hit (k := k) hd2 (by omega)) | exact hnst (by unfold okS; omega) | (have h5 := h3 x.t (List.mem_map.2 ⟨x, List.mem_of_getElem? hx, rfl⟩); unfold okT at h5; omega) | omega
   rw [hb] at ha; replace hb := zbq hb
   replace hb := codeS_zero.1 hb
   have hst := hb
   unfold okS at hst
   refine wp_skip ?_
   refine then_normal ?_
   refine wp_seq ?_
   refine zn1 ?_
   refine zv (.int .i64 0) ha ?_; clear ha; intro a ha
   refine zn2 ?_
   refine wp_block ?_
   refine wp_loopG (G := Nat) (fun j a w => Has a 110 [(0, .slice (some ad) ds.length ca), (5, .int .i64 ((k : Nat) : Int)), (6, .int .i64 ((j : Nat) : Int))] ∧ St W (L) w ∧ (j ≤ k ∧ d.id ∉ ids (tns (ds.take j)))) (fun j => k - j) 0 ?_ ?_
   ·
    exact ⟨(Has.cons ha (by kernel_rfl) (by kernel_rfl) (Has.cons ha (by kernel_rfl) (by kernel_rfl) (Has.cons ha (by kernel_rfl) (by kernel_rfl) (Has.nil ha)))), s, ⟨Nat.zero_le _, by simp [ids]⟩⟩
   clear ha s; rintro j a w ⟨ha, s, hp⟩
   refine wp_seq ?_
   refine zn1 ?_
   refine zv (.int .i64 ((j : Nat) : Int)) ha ?_
   refine zzv (.int .i64 ((k : Nat) : Int)) ?_
   refine zzv (.bool (decide (((j : Nat) : Int) < ((k : Nat) : Int)))) ?_; clear ha; intro a ha
   refine zn2 ?_
   refine zzh (decide (((j : Nat) : Int) < ((k : Nat) : Int))) ha ?_ ?_ <;> intro hb
   ·
    rw [hb] at ha; replace hb : (((j : Nat) : Int) < ((k : Nat) : Int)) := of_decide_eq_true hb
    obtain ⟨d2, hd2⟩ : ∃ d2, ds[j]? = some d2 := ⟨_, List.getElem?_eq_getElem (by omega)⟩
    refine wp_skip ?_
    refine then_normal ?_
    refine wp_seq ?_
    refine wp_block ?_
    refine wp_seq ?_
    refine wp_region_head 10 (fun w => Reads w 4 (some ad) ds.length (nvs ds) ∧ True) (by kernel_rfl) (by decide) ?_
    replace s := s.drew; generalize _root_.Go.World.drew _ = w at s ⊢
    have hS : (fun w => Reads w 4 (some ad) ds.length (nvs ds) ∧ True) w := ⟨(hr _ s.sat).1, trivial⟩
    refine yk (i := 0) (.slice (some ad) ds.length ca) ha hS ?_
    refine yyk (i := 1) (.int .i64 ((j : Nat) : Int)) hS ?_
    refine yyv (i := 2) (.pointer (some (ad.add (j * 4)))) (fun w hS => (run_indexAddr' (kd := .i64) (i := ((j : Nat) : Int)) (n := ds.length) (c := ca) j rfl Tryz.underlying58 Tryz.sizeOf97 (by kernel_rfl) (by kernel_rfl) rfl (by first | assumption | omega) _)) hS ?_
    refine yyfa (i := 3) (.pointer (some (ad.add (j * 4 + 0)))) 3 hS ?_
    refine yyla (i := 4) (.int .i64 d2.id) (j * 4 + 0) (fun _ hS => hS.1) (by rw [nvs_at hd2 (by omega)]; rfl) hS ?_
    refine yyk (i := 5) (.slice (some ad) ds.length ca) hS ?_
    refine yyk (i := 6) (.int .i64 ((k : Nat) : Int)) hS ?_
    refine yyv (i := 7) (.pointer (some (ad.add (k * 4)))) (fun w hS => (run_indexAddr' (kd := .i64) (i := ((k : Nat) : Int)) (n := ds.length) (c := ca) k rfl Tryz.underlying58 Tryz.sizeOf97 (by kernel_rfl) (by kernel_rfl) rfl (by first | assumption | omega) _)) hS ?_
    refine yyfa (i := 8) (.pointer (some (ad.add (k * 4 + 0)))) 3 hS ?_
    refine yyla (i := 9) (.int .i64 d.id) (k * 4 + 0) (fun _ hS => hS.1) (by rw [nvs_at hd (by omega)]; rfl) hS ?_; clear ha; intro a ha
    refine Head.done (by kernel_rfl) ?_
    clear hS; simp only [List.drop_succ_cons, List.drop_zero]
    refine zv (.bool (d2.id == d.id)) ha ?_; clear ha; intro a ha
    refine zn2 ?_
    refine zzh (d2.id == d.id) ha ?_ ?_ <;> intro hb
    ·
     rw [hb] at ha; replace hb := eq_of_beq hb
     refine zn1 ?_
     refine zv (.int .i64 2) ha ?_; clear ha; intro a ha
     refine zn2 ?_
     refine wp_ret ?_
     refine block_ret ?_
     refine then_ret ?_
     refine then_ret ?_
     refine block_ret ?_
     refine then_ret ?_
     refine block_ret ?_
     refine then_ret ?_
     refine then_ret ?_
     refine block_ret ?_
     refine then_ret ?_
     refine zzr (v := .int .i64 2) ha ?_
     refine ⟨?_, s⟩
     rw [code_bad (hfew (by omega) (by omega)) (not_okL hd fun h => ?_)]
     obtain ⟨⟨h1, h2, h3⟩, h4⟩ := h
     simp only [Dn.t] at h1 h2 h3
     first | exact h4 (hb ▸ ids_hit (k := k) hd2 (by omega)) | exact hnst (by unfold okS; omega) | (have h5 := h3 x.t (List.mem_map.2 ⟨x, List.mem_of_getElem? hx, rfl⟩); unfold okT at h5; omega) | omega
    rw [hb] at ha; replace hb := ne_of_beq_false hb
    refine wp_skip ?_
    refine block_normal ?_
    refine then_normal ?_
    refine wp_region_lit ?_
    refine zv (.int .i64 ((j : Nat) : Int)) ha ?_
    refine zzw (.int .i64 ((j + 1 : Nat) : Int)) zar ?_
    refine zzv (.int .i64 ((j + 1 : Nat) : Int)) ?_; clear ha; intro a ha
    refine zn2 ?_
    exact ⟨j + 1, by omega, (Has.cons ha (by kernel_rfl) (by kernel_rfl) (Has.cons ha (by kernel_rfl) (by kernel_rfl) (Has.cons ha (by kernel_rfl) (by kernel_rfl) (Has.nil ha)))), s, by omega, by rw [ids_take hd2]; simp only [List.mem_append, List.mem_singleton, not_or]; exact ⟨hp.2, fun e => hb e.symm⟩⟩
   rw [hb] at ha; replace hb : ¬ (((j : Nat) : Int) < ((k : Nat) : Int)) := of_decide_eq_false hb
   have hj : j = k := by omega
   have hns := hp.2
   rw [hj] at hns
   refine wp_exit ?_
   refine then_exit ?_
   refine then_exit ?_
   refine block_hit ?_
   refine then_normal ?_
   refine zn1 ?_
   refine zv (.int .i64 0) ha ?_; clear ha; intro a ha
   refine zn2 ?_
   refine wp_block ?_
   refine wp_loopG (G := Nat) (fun j a w => Has a 110 [(0, .slice (some ad) ds.length ca), (5, .int .i64 ((k : Nat) : Int)), (7, .int .i64 ((j : Nat) : Int))] ∧ St W (L) w ∧ (j ≤ d.l.length ∧ ∀ y ∈ d.l.take j, okT y.t)) (fun j => d.l.length - j) 0 ?_ ?_
   ·
    exact ⟨(Has.cons ha (by kernel_rfl) (by kernel_rfl) (Has.cons ha (by kernel_rfl) (by kernel_rfl) (Has.cons ha (by kernel_rfl) (by kernel_rfl) (Has.nil ha)))), s, ⟨Nat.zero_le _, fun y hy => by simp at hy⟩⟩
   clear ha s; rintro j a w ⟨ha, s, hp⟩
   refine wp_seq ?_
   refine zn1 ?_
   refine zv (.int .i64 ((j : Nat) : Int)) ha ?_
   refine zzv (.slice (some ad) ds.length ca) ?_
   refine zzv (.int .i64 ((k : Nat) : Int)) ?_
   refine zzw (.pointer (some (ad.add (k * 4)))) (run_indexAddr' (kd := .i64) (i := ((k : Nat) : Int)) (n := ds.length) (c := ca) k rfl Tryz.underlying58 Tryz.sizeOf97 (by kernel_rfl) (by kernel_rfl) rfl (by first | assumption | omega) _) ?_
   refine zzw (.pointer (some (ad.add (k * 4 + 3)))) (zfa 95) ?_
   refine zzw (.slice d.A d.l.length d.c) (zla (k * 4 + 3) ((hr _ s.sat).1) (by rw [nvs_at hd (by omega)]; rfl)) ?_
   refine zzv (.int .i64 ((d.l.length : Nat) : Int)) ?_
   refine zzv (.bool (decide (((j : Nat) : Int) < ((d.l.length : Nat) : Int)))) ?_; clear ha; intro a ha
   refine zn2 ?_
   refine zzh (decide (((j : Nat) : Int) < ((d.l.length : Nat) : Int))) ha ?_ ?_ <;> intro hb
   ·
    rw [hb] at ha; replace hb : (((j : Nat) : Int) < ((d.l.length : Nat) : Int)) := of_decide_eq_true hb
    obtain ⟨x, hx⟩ : ∃ x, d.l[j]? = some x := ⟨_, List.getElem?_eq_getElem (by omega)⟩
    obtain ⟨al, hAl⟩ : ∃ al, d.A = some al := Reads.addr ((hr _ s.sat).row hd).1 (by omega)
    refine wp_skip ?_
    refine then_normal ?_
    refine wp_seq ?_
    refine wp_block ?_
    refine zn1 ?_
    refine zv (.slice (some ad) ds.length ca) ha ?_
    refine zzv (.int .i64 ((k : Nat) : Int)) ?_
    refine zzw (.pointer (some (ad.add (k * 4)))) (run_indexAddr' (kd := .i64) (i := ((k : Nat) : Int)) (n := ds.length) (c := ca) k rfl Tryz.underlying58 Tryz.sizeOf97 (by kernel_rfl) (by kernel_rfl) rfl (by first | assumption | omega) _) ?_
    refine zzw (.pointer (some (ad.add (k * 4 + 3)))) (zfa 95) ?_
    refine zzw (.slice d.A d.l.length d.c) (zla (k * 4 + 3) ((hr _ s.sat).1) (by rw [nvs_at hd (by omega)]; rfl)) ?_
    refine zzv (.int .i64 ((j : Nat) : Int)) ?_
    refine zzw (.pointer (some (al.add (j * 7)))) (run_indexAddr' (kd := .i64) (i := ((j : Nat) : Int)) (n := d.l.length) (c := d.c) j rfl Tryz.underlying95 Tryz.sizeOf99 (by rw [← hAl]; kernel_rfl) (by kernel_rfl) rfl (by first | assumption | omega) _) ?_
    refine zzw (.pointer (some (al.add (j * 7 + 0)))) (zfa 3) ?_
    refine zzw (.int .i64 x.t.op) (zla (j * 7 + 0) ((hAl ▸ ((hr _ s.sat).row hd).1)) (by rw [dvs_at hx (by omega)]; rfl)) ?_
    refine zzv (.bool (decide (x.t.op < (1 : Int)))) ?_
    refine zzv (.bool (decide (x.t.op < (1 : Int)))) ?_; clear ha; intro a ha
    rcases Bool.eq_false_or_eq_true (decide (x.t.op < (1 : Int))) with hb | hb
    ·
     rw [hb] at ha; replace hb : (x.t.op < (1 : Int)) := of_decide_eq_true hb
     refine zp ha ?_
     iterate 9 refine zzp ?_
     refine zzv (.bool true) ?_; clear ha; intro a ha
     refine zn2 ?_
     refine wp_true ha rfl (by kernel_rfl) ?_
     refine zn1 ?_
     refine zv (.int .i64 2) ha ?_; clear ha; intro a ha
     refine zn2 ?_
     refine wp_ret ?_
     refine block_ret ?_
     refine then_ret ?_
     refine then_ret ?_
     refine block_ret ?_
     refine block_ret ?_
     refine then_ret ?_
     refine then_ret ?_
     refine block_ret ?_
     refine then_ret ?_
     refine zzr (v := .int .i64 2) ha ?_
     refine ⟨?_, s⟩
     rw [code_bad (hfew (by omega) (by omega)) (not_okL hd fun h => ?_)]
     obtain ⟨⟨h1, h2, h3⟩, h4⟩ := h
     simp only [Dn.t] at h1 h2 h3
     first | exact h4 (hb ▸ ids_hit (k := k) hd2 (by omega)) | exact hnst (by unfold okS; omega) | (have h5 := h3 x.t (List.mem_map.2 ⟨x, List.mem_of_getElem? hx, rfl⟩); unfold okT at h5; omega) | omega
    rw [hb] at ha; replace hb : ¬ (x.t.op < (1 : Int)) := of_decide_eq_false hb
    refine zv (.slice (some ad) ds.length ca) ha ?_
    refine zzv (.int .i64 ((k : Nat) : Int)) ?_
    refine zzw (.pointer (some (ad.add (k * 4)))) (run_indexAddr' (kd := .i64) (i := ((k : Nat) : Int)) (n := ds.length) (c := ca) k rfl Tryz.underlying58 Tryz.sizeOf97 (by kernel_rfl) (by kernel_rfl) rfl (by first | assumption | omega) _) ?_
    refine zzw (.pointer (some (ad.add (k * 4 + 3)))) (zfa 95) ?_
    refine zzw (.slice d.A d.l.length d.c) (zla (k * 4 + 3) ((hr _ s.sat).1) (by rw [nvs_at hd (by omega)]; rfl)) ?_
    refine zzv (.int .i64 ((j : Nat) : Int)) ?_
    refine zzw (.pointer (some (al.add (j * 7)))) (run_indexAddr' (kd := .i64) (i := ((j : Nat) : Int)) (n := d.l.length) (c := d.c) j rfl Tryz.underlying95 Tryz.sizeOf99 (by rw [← hAl]; kernel_rfl) (by kernel_rfl) rfl (by first | assumption | omega) _) ?_
    refine zzw (.pointer (some (al.add (j * 7 + 0)))) (zfa 3) ?_
    refine zzw (.int .i64 x.t.op) (zla (j * 7 + 0) ((hAl ▸ ((hr _ s.sat).row hd).1)) (by rw [dvs_at hx (by omega)]; rfl)) ?_
    refine zzv (.bool (decide (x.t.op > (5 : Int)))) ?_
    refine zzv (.bool (decide (x.t.op > (5 : Int)))) ?_; clear ha; intro a ha
    refine zn2 ?_
    refine zzh (decide (x.t.op > (5 : Int))) ha ?_ ?_ <;> intro hb
    ·
     rw [hb] at ha; replace hb : (x.t.op > (5 : Int)) := of_decide_eq_true hb
     refine zn1 ?_
     refine zv (.int .i64 2) ha ?_; clear ha; intro a ha
     refine zn2 ?_
     refine wp_ret ?_
     refine block_ret ?_
     refine then_ret ?_
     refine then_ret ?_
     refine block_ret ?_
     refine block_ret ?_
     refine then_ret ?_
     refine then_ret ?_
     refine block_ret ?_
     refine then_ret ?_
     refine zzr (v := .int .i64 2) ha ?_
     refine ⟨?_, s⟩
     rw [code_bad (hfew (by omega) (by omega)) (not_okL hd fun h => ?_)]
     obtain ⟨⟨h1, h2, h3⟩, h4⟩ := h
     simp only [Dn.t] at h1 h2 h3
     first | exact h4 (hb ▸ ids_hit (k := k) hd2 (by omega)) | exact hnst (by unfold okS; omega) | (have h5 := h3 x.t (List.mem_map.2 ⟨x, List.mem_of_getElem? hx, rfl⟩); unfold okT at h5; omega) | omega
    rw [hb] at ha; replace hb : ¬ (x.t.op > (5 : Int)) := of_decide_eq_false hb
    refine wp_skip ?_
    refine block_normal ?_
    refine then_normal ?_
    refine wp_region_lit ?_
    refine zv (.int .i64 ((j : Nat) : Int)) ha ?_
    refine zzw (.int .i64 ((j + 1 : Nat) : Int)) zar ?_
    refine zzv (.int .i64 ((j + 1 : Nat) : Int)) ?_; clear ha; intro a ha
    refine zn2 ?_
    have hokx : okT x.t := by unfold okT; omega
    exact ⟨j + 1, by omega, (Has.cons ha (by kernel_rfl) (by kernel_rfl) (Has.cons ha (by kernel_rfl) (by kernel_rfl) (Has.cons ha (by kernel_rfl) (by kernel_rfl) (Has.nil ha)))), s, by omega, fun y hy => by rw [take_snoc hx] at hy; exact (List.mem_append.1 hy).elim (hp.2 y) (fun hy => by rw [List.mem_singleton.1 hy]; exact hokx)⟩
   rw [hb] at ha; replace hb : ¬ (((j : Nat) : Int) < ((d.l.length : Nat) : Int)) := of_decide_eq_false hb
   have hj2 : j = d.l.length := by omega
   have hall : ∀ y ∈ d.l.map (·.t), okT y := fun y hy => by
    obtain ⟨z, hz, rfl⟩ := List.mem_map.1 hy
    exact hp.2 z (by rw [hj2, List.take_length]; exact hz)
   refine wp_exit ?_
   refine then_exit ?_
   refine then_exit ?_
   refine block_hit ?_
   refine block_normal ?_
   refine then_normal ?_
   refine wp_region_lit ?_
   refine zv (.int .i64 ((k : Nat) : Int)) ha ?_
   refine zzw (.int .i64 ((k + 1 : Nat) : Int)) zar ?_
   refine zzv (.int .i64 ((k + 1 : Nat) : Int)) ?_; clear ha; intro a ha
   refine zn2 ?_
   exact ⟨k + 1, by omega, (Has.cons ha (by kernel_rfl) (by kernel_rfl) (Has.cons ha (by kernel_rfl) (by kernel_rfl) (Has.nil ha))), s, by omega, okL_next hd hok ⟨by simp only [Dn.t]; omega, by simp only [Dn.t]; exact hst, hall⟩ hns⟩
  rw [hb] at ha; replace hb : ¬ (((k : Nat) : Int) < ((ds.length : Nat) : Int)) := of_decide_eq_false hb
  have hk : k = ds.length := by omega
  have hok := hp.2
  rw [hk, List.take_length] at hok
  refine wp_exit ?_
  refine then_exit ?_
  refine then_exit ?_
  refine block_hit ?_
  refine then_normal ?_
  refine zn1 ?_
  refine zv (.int .i64 0) ha ?_; clear ha; intro a ha
  refine zn2 ?_
  refine wp_ret ?_
  refine zzr (v := .int .i64 0) ha ?_
  refine ⟨?_, s⟩
  rw [code_zero.2 ⟨hfew (by omega) (by omega), hok⟩]
 rw [hb] at ha; replace hb : ¬ (((k : Nat) : Int) < ((ds.length : Nat) : Int)) := of_decide_eq_false hb
 have hk : k = ds.length := by omega
 subst hk
 rw [List.take_length] at ha
 have hnf : ¬ (ds.length ≤ 1000 ∧ many (tns ds) ≤ 10000) → ¬ few (tns ds) := fun h1 h2 => h1 ⟨by have := h2.1; simpa using this, h2.2⟩
 refine zp ha ?_
 refine zzp ?_
 refine zzv (.bool false) ?_; clear ha; intro a ha
 refine zn2 ?_
 refine wp_false ha rfl (by kernel_rfl) ?_
 refine wp_exit ?_
 refine then_exit ?_
 refine then_exit ?_
 refine block_hit ?_
 refine then_normal ?_
 refine wp_seq ?_
 refine zn1 ?_
 refine zv (.slice A ds.length ca) ha ?_
 refine zzv (.int .i64 ((ds.length : Nat) : Int)) ?_
 refine zzv (.bool (decide (((ds.length : Nat) : Int) > (1000 : Int)))) ?_
 refine zzv (.bool (decide (((ds.length : Nat) : Int) > (1000 : Int)))) ?_; clear ha; intro a ha
 rcases Bool.eq_false_or_eq_true (decide (((ds.length : Nat) : Int) > (1000 : Int))) with hb | hb
 ·
  rw [hb] at ha; replace hb : (((ds.length : Nat) : Int) > (1000 : Int)) := of_decide_eq_true hb
  refine zp ha ?_
  refine zzp ?_
  refine zzv (.bool true) ?_; clear ha; intro a ha
  refine zn2 ?_
  refine wp_true ha rfl (by kernel_rfl) ?_
  refine zn1 ?_
  refine zv (.int .i64 5) ha ?_; clear ha; intro a ha
  refine zn2 ?_
  refine zzt ?_
  refine zzr (v := .int .i64 5) ha ?_
  refine ⟨?_, s⟩
  rw [code_limit (hnf (by omega))]
 rw [hb] at ha; replace hb : ¬ (((ds.length : Nat) : Int) > (1000 : Int)) := of_decide_eq_false hb
 refine zv (.int .i64 ((many (tns ds) : Nat) : Int)) ha ?_
 refine zzv (.bool (decide (((many (tns ds) : Nat) : Int) > (10000 : Int)))) ?_
 refine zzv (.bool (decide (((many (tns ds) : Nat) : Int) > (10000 : Int)))) ?_; clear ha; intro a ha
 refine zn2 ?_
 refine zzh (decide (((many (tns ds) : Nat) : Int) > (10000 : Int))) ha ?_ ?_ <;> intro hb
 ·
  rw [hb] at ha; replace hb : (((many (tns ds) : Nat) : Int) > (10000 : Int)) := of_decide_eq_true hb
  refine zn1 ?_
  refine zv (.int .i64 5) ha ?_; clear ha; intro a ha
  refine zn2 ?_
  refine zzt ?_
  refine zzr (v := .int .i64 5) ha ?_
  refine ⟨?_, s⟩
  rw [code_limit (hnf (by omega))]
 rw [hb] at ha; replace hb : ¬ (((many (tns ds) : Nat) : Int) > (10000 : Int)) := of_decide_eq_false hb
 refine wp_skip ?_
 refine then_normal ?_
 refine wp_seq ?_
 refine zn1 ?_
 refine zv (.int .i64 0) ha ?_; clear ha; intro a ha
 refine zn2 ?_
 refine wp_block ?_
 refine wp_loopG (G := Nat) (fun k a w => Has a 110 [(0, .slice A ds.length ca), (5, .int .i64 ((k : Nat) : Int))] ∧ St W (L) w ∧ (k ≤ ds.length ∧ okL (tns (ds.take k)))) (fun k => ds.length - k) 0 ?_ ?_
 ·
  exact ⟨(Has.cons ha (by kernel_rfl) (by kernel_rfl) (Has.cons ha (by kernel_rfl) (by kernel_rfl) (Has.nil ha))), s, ⟨Nat.zero_le _, by simp [okL, ids]⟩⟩
 clear ha s; rintro k a w ⟨ha, s, hp⟩
 refine wp_seq ?_
 refine zn1 ?_
 refine zv (.int .i64 ((k : Nat) : Int)) ha ?_
 refine zzv (.slice A ds.length ca) ?_
 refine zzv (.int .i64 ((ds.length : Nat) : Int)) ?_
 refine zzv (.bool (decide (((k : Nat) : Int) < ((ds.length : Nat) : Int)))) ?_; clear ha; intro a ha
 refine zn2 ?_
 refine zzh (decide (((k : Nat) : Int) < ((ds.length : Nat) : Int))) ha ?_ ?_ <;> intro hb
 ·
  rw [hb] at ha; replace hb : (((k : Nat) : Int) < ((ds.length : Nat) : Int)) := of_decide_eq_true hb
  obtain ⟨d, hd⟩ : ∃ d, ds[k]? = some d := ⟨_, List.getElem?_eq_getElem (by omega)⟩
  have hdl := (hn.row hd).1
  obtain ⟨ad, hA⟩ := Reads.addr (hr _ s.sat).1 (by omega)
  subst hA
  have hok := hp.2
  refine wp_skip ?_
  refine then_normal ?_
  refine wp_seq ?_
  refine wp_block ?_
  refine wp_seq ?_
  refine zn1 ?_
  refine zv (.slice (some ad) ds.length ca) ha ?_
  refine zzv (.int .i64 ((k : Nat) : Int)) ?_
  refine zzw (.pointer (some (ad.add (k * 4)))) (run_indexAddr' (kd := .i64) (i := ((k : Nat) : Int)) (n := ds.length) (c := ca) k rfl Tryz.underlying58 Tryz.sizeOf97 (by kernel_rfl) (by kernel_rfl) rfl (by first | assumption | omega) _) ?_
  refine zzw (.pointer (some (ad.add (k * 4 + 0)))) (zfa 3) ?_
  refine zzw (.int .i64 d.id) (zla (k * 4 + 0) ((hr _ s.sat).1) (by rw [nvs_at hd (by omega)]; rfl)) ?_
  refine zzv (.bool (decide (d.id < (1 : Int)))) ?_
  refine zzv (.bool (decide (d.id < (1 : Int)))) ?_; clear ha; intro a ha
  rcases Bool.eq_false_or_eq_true (decide (d.id < (1 : Int))) with hb | hb
  ·
   rw [hb] at ha; replace hb : (d.id < (1 : Int)) := of_decide_eq_true hb
   refine zp ha ?_
   iterate 5 refine zzp ?_
   refine zzv (.bool true) ?_
   refine zzv (.bool true) ?_
   iterate 7 refine zzp ?_
   refine zzv (.bool true) ?_; clear ha; intro a ha
   refine zn2 ?_
   refine wp_true ha rfl (by kernel_rfl) ?_
   refine zn1 ?_
   refine zv (.int .i64 2) ha ?_; clear ha; intro a ha
   refine zn2 ?_
   refine zzt ?_
   refine block_ret ?_
   refine then_ret ?_
   refine then_ret ?_
   refine block_ret ?_
   refine then_ret ?_
   refine zzr (v := .int .i64 2) ha ?_
   refine ⟨?_, s⟩
   rw [code_bad (hfew (by omega) (by omega)) (not_okL hd fun h => ?_)]
   obtain ⟨⟨h1, h2, h3⟩, h4⟩ := h
   simp only [Dn.t] at h1 h2 h3
   first | exact h4 (hb ▸ ids_hit (k := k) hd2 (by omega)) | exact hnst (by unfold okS; omega) | (have h5 := h3 x.t (List.mem_map.2 ⟨x, List.mem_of_getElem? hx, rfl⟩); unfold okT at h5; omega) | omega
  rw [hb] at ha; replace hb : ¬ (d.id < (1 : Int)) := of_decide_eq_false hb
  refine zv (.slice (some ad) ds.length ca) ha ?_
  refine zzv (.int .i64 ((k : Nat) : Int)) ?_
  refine zzw (.pointer (some (ad.add (k * 4)))) (run_indexAddr' (kd := .i64) (i := ((k : Nat) : Int)) (n := ds.length) (c := ca) k rfl Tryz.underlying58 Tryz.sizeOf97 (by kernel_rfl) (by kernel_rfl) rfl (by first | assumption | omega) _) ?_
  refine zzw (.pointer (some (ad.add (k * 4 + 0)))) (zfa 3) ?_
  refine zzw (.int .i64 d.id) (zla (k * 4 + 0) ((hr _ s.sat).1) (by rw [nvs_at hd (by omega)]; rfl)) ?_
  refine zzv (.bool (decide (d.id > (9007199254740991 : Int)))) ?_
  refine zzv (.bool (decide (d.id > (9007199254740991 : Int)))) ?_
  refine zzv (.bool (decide (d.id > (9007199254740991 : Int)))) ?_; clear ha; intro a ha
  rcases Bool.eq_false_or_eq_true (decide (d.id > (9007199254740991 : Int))) with hb | hb
  ·
   rw [hb] at ha; replace hb : (d.id > (9007199254740991 : Int)) := of_decide_eq_true hb
   refine zp ha ?_
   iterate 6 refine zzp ?_
   refine zzv (.bool true) ?_; clear ha; intro a ha
   refine zn2 ?_
   refine wp_true ha rfl (by kernel_rfl) ?_
   refine zn1 ?_
   refine zv (.int .i64 2) ha ?_; clear ha; intro a ha
   refine zn2 ?_
   refine zzt ?_
   refine block_ret ?_
   refine then_ret ?_
   refine then_ret ?_
   refine block_ret ?_
   refine then_ret ?_
   refine zzr (v := .int .i64 2) ha ?_
   refine ⟨?_, s⟩
   rw [code_bad (hfew (by omega) (by omega)) (not_okL hd fun h => ?_)]
   obtain ⟨⟨h1, h2, h3⟩, h4⟩ := h
   simp only [Dn.t] at h1 h2 h3
   first | exact h4 (hb ▸ ids_hit (k := k) hd2 (by omega)) | exact hnst (by unfold okS; omega) | (have h5 := h3 x.t (List.mem_map.2 ⟨x, List.mem_of_getElem? hx, rfl⟩); unfold okT at h5; omega) | omega
  rw [hb] at ha; replace hb : ¬ (d.id > (9007199254740991 : Int)) := of_decide_eq_false hb
  refine zv (.slice (some ad) ds.length ca) ha ?_
  refine zzv (.int .i64 ((k : Nat) : Int)) ?_
  refine zzw (.pointer (some (ad.add (k * 4)))) (run_indexAddr' (kd := .i64) (i := ((k : Nat) : Int)) (n := ds.length) (c := ca) k rfl Tryz.underlying58 Tryz.sizeOf97 (by kernel_rfl) (by kernel_rfl) rfl (by first | assumption | omega) _) ?_
  refine zzw (.pointer (some (ad.add (k * 4 + 1)))) (zfa 35) ?_
  refine zzw (.agg #[.int .i64 d.wall, .int .i64 d.logic]) (run_loadAtN (i := k * 4 + 1) [.int .i64 d.wall, .int .i64 d.logic] ((hr _ s.sat).1) rfl (by kernel_rfl) Tryz.isAgg35 Tryz.sizeOf35 (fun q_ hq_ => by rw [Nat.add_assoc, nvs_at hd (by omega)]; match q_, hq_ with | 0, _ => rfl | 1, _ => rfl) rfl) ?_; clear ha; intro a ha
  refine zzc ha (rschk_any W _ w d.wall d.logic s) ?_
  rintro _ w ⟨rfl, s⟩
  refine ⟨_, rfl, ?_⟩; clear ha; intro a ha
  refine zv (.bool ((codeS d.wall d.logic) != (0 : Int))) ha ?_
  refine zzv (.bool ((codeS d.wall d.logic) != (0 : Int))) ?_; clear ha; intro a ha
  refine zn2 ?_
  refine zzh ((codeS d.wall d.logic) != (0 : Int)) ha ?_ ?_ <;> intro hb
  ·
   rw [hb] at ha; replace hb := zbn hb
   have hnst : ¬ okS d.wall d.logic := fun h => hb (codeS_zero.2 h)
   refine zn1 ?_
   refine zv (.int .i64 2) ha ?_; clear ha; intro a ha
   refine zn2 ?_
   refine zzt ?_
   refine block_ret ?_
   refine then_ret ?_
   refine then_ret ?_
   refine block_ret ?_
   refine then_ret ?_
   refine zzr (v := .int .i64 2) ha ?_
   refine ⟨?_, s⟩
   rw [code_bad (hfew (by omega) (by omega)) (not_okL hd fun h => ?_)]
   obtain ⟨⟨h1, h2, h3⟩, h4⟩ := h
   simp only [Dn.t] at h1 h2 h3
   first | exact h4 (hb ▸ ids_hit (k := k) hd2 (by omega)) | exact hnst (by unfold okS; omega) | (have h5 := h3 x.t (List.mem_map.2 ⟨x, List.mem_of_getElem? hx, rfl⟩); unfold okT at h5; omega) | omega
  rw [hb] at ha; replace hb := zbq hb
  replace hb := codeS_zero.1 hb
  have hst := hb
  unfold okS at hst
  refine wp_skip ?_
  refine then_normal ?_
  refine wp_seq ?_
  refine zn1 ?_
  refine zv (.int .i64 0) ha ?_; clear ha; intro a ha
  refine zn2 ?_
  refine wp_block ?_
  refine wp_loopG (G := Nat) (fun j a w => Has a 110 [(0, .slice (some ad) ds.length ca), (5, .int .i64 ((k : Nat) : Int)), (6, .int .i64 ((j : Nat) : Int))] ∧ St W (L) w ∧ (j ≤ k ∧ d.id ∉ ids (tns (ds.take j)))) (fun j => k - j) 0 ?_ ?_
  ·
   exact ⟨(Has.cons ha (by kernel_rfl) (by kernel_rfl) (Has.cons ha (by kernel_rfl) (by kernel_rfl) (Has.cons ha (by kernel_rfl) (by kernel_rfl) (Has.nil ha)))), s, ⟨Nat.zero_le _, by simp [ids]⟩⟩
  clear ha s; rintro j a w ⟨ha, s, hp⟩
  refine wp_seq ?_
  refine zn1 ?_
  refine zv (.int .i64 ((j : Nat) : Int)) ha ?_
  refine zzv (.int .i64 ((k : Nat) : Int)) ?_
  refine zzv (.bool (decide (((j : Nat) : Int) < ((k : Nat) : Int)))) ?_; clear ha; intro a ha
  refine zn2 ?_
  refine zzh (decide (((j : Nat) : Int) < ((k : Nat) : Int))) ha ?_ ?_ <;> intro hb
  ·
   rw [hb] at ha; replace hb : (((j : Nat) : Int) < ((k : Nat) : Int)) := of_decide_eq_true hb
   obtain ⟨d2, hd2⟩ : ∃ d2, ds[j]? = some d2 := ⟨_, List.getElem?_eq_getElem (by omega)⟩
   refine wp_skip ?_
   refine then_normal ?_
   refine wp_seq ?_
   refine wp_block ?_
   refine wp_seq ?_
   refine wp_region_head 10 (fun w => Reads w 4 (some ad) ds.length (nvs ds) ∧ True) (by kernel_rfl) (by decide) ?_
   replace s := s.drew; generalize _root_.Go.World.drew _ = w at s ⊢
   have hS : (fun w => Reads w 4 (some ad) ds.length (nvs ds) ∧ True) w := ⟨(hr _ s.sat).1, trivial⟩
   refine yk (i := 0) (.slice (some ad) ds.length ca) ha hS ?_
   refine yyk (i := 1) (.int .i64 ((j : Nat) : Int)) hS ?_
   refine yyv (i := 2) (.pointer (some (ad.add (j * 4)))) (fun w hS => (run_indexAddr' (kd := .i64) (i := ((j : Nat) : Int)) (n := ds.length) (c := ca) j rfl Tryz.underlying58 Tryz.sizeOf97 (by kernel_rfl) (by kernel_rfl) rfl (by first | assumption | omega) _)) hS ?_
   refine yyfa (i := 3) (.pointer (some (ad.add (j * 4 + 0)))) 3 hS ?_
   refine yyla (i := 4) (.int .i64 d2.id) (j * 4 + 0) (fun _ hS => hS.1) (by rw [nvs_at hd2 (by omega)]; rfl) hS ?_
   refine yyk (i := 5) (.slice (some ad) ds.length ca) hS ?_
   refine yyk (i := 6) (.int .i64 ((k : Nat) : Int)) hS ?_
   refine yyv (i := 7) (.pointer (some (ad.add (k * 4)))) (fun w hS => (run_indexAddr' (kd := .i64) (i := ((k : Nat) : Int)) (n := ds.length) (c := ca) k rfl Tryz.underlying58 Tryz.sizeOf97 (by kernel_rfl) (by kernel_rfl) rfl (by first | assumption | omega) _)) hS ?_
   refine yyfa (i := 8) (.pointer (some (ad.add (k * 4 + 0)))) 3 hS ?_
   refine yyla (i := 9) (.int .i64 d.id) (k * 4 + 0) (fun _ hS => hS.1) (by rw [nvs_at hd (by omega)]; rfl) hS ?_; clear ha; intro a ha
   refine Head.done (by kernel_rfl) ?_
   clear hS; simp only [List.drop_succ_cons, List.drop_zero]
   refine zv (.bool (d2.id == d.id)) ha ?_; clear ha; intro a ha
   refine zn2 ?_
   refine zzh (d2.id == d.id) ha ?_ ?_ <;> intro hb
   ·
    rw [hb] at ha; replace hb := eq_of_beq hb
    refine zn1 ?_
    refine zv (.int .i64 2) ha ?_; clear ha; intro a ha
    refine zn2 ?_
    refine wp_ret ?_
    refine block_ret ?_
    refine then_ret ?_
    refine then_ret ?_
    refine block_ret ?_
    refine then_ret ?_
    refine block_ret ?_
    refine then_ret ?_
    refine then_ret ?_
    refine block_ret ?_
    refine then_ret ?_
    refine zzr (v := .int .i64 2) ha ?_
    refine ⟨?_, s⟩
    rw [code_bad (hfew (by omega) (by omega)) (not_okL hd fun h => ?_)]
    obtain ⟨⟨h1, h2, h3⟩, h4⟩ := h
    simp only [Dn.t] at h1 h2 h3
    first | exact h4 (hb ▸ ids_hit (k := k) hd2 (by omega)) | exact hnst (by unfold okS; omega) | (have h5 := h3 x.t (List.mem_map.2 ⟨x, List.mem_of_getElem? hx, rfl⟩); unfold okT at h5; omega) | omega
   rw [hb] at ha; replace hb := ne_of_beq_false hb
   refine wp_skip ?_
   refine block_normal ?_
   refine then_normal ?_
   refine wp_region_lit ?_
   refine zv (.int .i64 ((j : Nat) : Int)) ha ?_
   refine zzw (.int .i64 ((j + 1 : Nat) : Int)) zar ?_
   refine zzv (.int .i64 ((j + 1 : Nat) : Int)) ?_; clear ha; intro a ha
   refine zn2 ?_
   exact ⟨j + 1, by omega, (Has.cons ha (by kernel_rfl) (by kernel_rfl) (Has.cons ha (by kernel_rfl) (by kernel_rfl) (Has.cons ha (by kernel_rfl) (by kernel_rfl) (Has.nil ha)))), s, by omega, by rw [ids_take hd2]; simp only [List.mem_append, List.mem_singleton, not_or]; exact ⟨hp.2, fun e => hb e.symm⟩⟩
  rw [hb] at ha; replace hb : ¬ (((j : Nat) : Int) < ((k : Nat) : Int)) := of_decide_eq_false hb
  have hj : j = k := by omega
  have hns := hp.2
  rw [hj] at hns
  refine wp_exit ?_
  refine then_exit ?_
  refine then_exit ?_
  refine block_hit ?_
  refine then_normal ?_
  refine zn1 ?_
  refine zv (.int .i64 0) ha ?_; clear ha; intro a ha
  refine zn2 ?_
  refine wp_block ?_
  refine wp_loopG (G := Nat) (fun j a w => Has a 110 [(0, .slice (some ad) ds.length ca), (5, .int .i64 ((k : Nat) : Int)), (7, .int .i64 ((j : Nat) : Int))] ∧ St W (L) w ∧ (j ≤ d.l.length ∧ ∀ y ∈ d.l.take j, okT y.t)) (fun j => d.l.length - j) 0 ?_ ?_
  ·
   exact ⟨(Has.cons ha (by kernel_rfl) (by kernel_rfl) (Has.cons ha (by kernel_rfl) (by kernel_rfl) (Has.cons ha (by kernel_rfl) (by kernel_rfl) (Has.nil ha)))), s, ⟨Nat.zero_le _, fun y hy => by simp at hy⟩⟩
  clear ha s; rintro j a w ⟨ha, s, hp⟩
  refine wp_seq ?_
  refine zn1 ?_
  refine zv (.int .i64 ((j : Nat) : Int)) ha ?_
  refine zzv (.slice (some ad) ds.length ca) ?_
  refine zzv (.int .i64 ((k : Nat) : Int)) ?_
  refine zzw (.pointer (some (ad.add (k * 4)))) (run_indexAddr' (kd := .i64) (i := ((k : Nat) : Int)) (n := ds.length) (c := ca) k rfl Tryz.underlying58 Tryz.sizeOf97 (by kernel_rfl) (by kernel_rfl) rfl (by first | assumption | omega) _) ?_
  refine zzw (.pointer (some (ad.add (k * 4 + 3)))) (zfa 95) ?_
  refine zzw (.slice d.A d.l.length d.c) (zla (k * 4 + 3) ((hr _ s.sat).1) (by rw [nvs_at hd (by omega)]; rfl)) ?_
  refine zzv (.int .i64 ((d.l.length : Nat) : Int)) ?_
  refine zzv (.bool (decide (((j : Nat) : Int) < ((d.l.length : Nat) : Int)))) ?_; clear ha; intro a ha
  refine zn2 ?_
  refine zzh (decide (((j : Nat) : Int) < ((d.l.length : Nat) : Int))) ha ?_ ?_ <;> intro hb
  ·
   rw [hb] at ha; replace hb : (((j : Nat) : Int) < ((d.l.length : Nat) : Int)) := of_decide_eq_true hb
   obtain ⟨x, hx⟩ : ∃ x, d.l[j]? = some x := ⟨_, List.getElem?_eq_getElem (by omega)⟩
   obtain ⟨al, hAl⟩ : ∃ al, d.A = some al := Reads.addr ((hr _ s.sat).row hd).1 (by omega)
   refine wp_skip ?_
   refine then_normal ?_
   refine wp_seq ?_
   refine wp_block ?_
   refine zn1 ?_
   refine zv (.slice (some ad) ds.length ca) ha ?_
   refine zzv (.int .i64 ((k : Nat) : Int)) ?_
   refine zzw (.pointer (some (ad.add (k * 4)))) (run_indexAddr' (kd := .i64) (i := ((k : Nat) : Int)) (n := ds.length) (c := ca) k rfl Tryz.underlying58 Tryz.sizeOf97 (by kernel_rfl) (by kernel_rfl) rfl (by first | assumption | omega) _) ?_
   refine zzw (.pointer (some (ad.add (k * 4 + 3)))) (zfa 95) ?_
   refine zzw (.slice d.A d.l.length d.c) (zla (k * 4 + 3) ((hr _ s.sat).1) (by rw [nvs_at hd (by omega)]; rfl)) ?_
   refine zzv (.int .i64 ((j : Nat) : Int)) ?_
   refine zzw (.pointer (some (al.add (j * 7)))) (run_indexAddr' (kd := .i64) (i := ((j : Nat) : Int)) (n := d.l.length) (c := d.c) j rfl Tryz.underlying95 Tryz.sizeOf99 (by rw [← hAl]; kernel_rfl) (by kernel_rfl) rfl (by first | assumption | omega) _) ?_
   refine zzw (.pointer (some (al.add (j * 7 + 0)))) (zfa 3) ?_
   refine zzw (.int .i64 x.t.op) (zla (j * 7 + 0) ((hAl ▸ ((hr _ s.sat).row hd).1)) (by rw [dvs_at hx (by omega)]; rfl)) ?_
   refine zzv (.bool (decide (x.t.op < (1 : Int)))) ?_
   refine zzv (.bool (decide (x.t.op < (1 : Int)))) ?_; clear ha; intro a ha
   rcases Bool.eq_false_or_eq_true (decide (x.t.op < (1 : Int))) with hb | hb
   ·
    rw [hb] at ha; replace hb : (x.t.op < (1 : Int)) := of_decide_eq_true hb
    refine zp ha ?_
    iterate 9 refine zzp ?_
    refine zzv (.bool true) ?_; clear ha; intro a ha
    refine zn2 ?_
    refine wp_true ha rfl (by kernel_rfl) ?_
    refine zn1 ?_
    refine zv (.int .i64 2) ha ?_; clear ha; intro a ha
    refine zn2 ?_
    refine wp_ret ?_
    refine block_ret ?_
    refine then_ret ?_
    refine then_ret ?_
    refine block_ret ?_
    refine block_ret ?_
    refine then_ret ?_
    refine then_ret ?_
    refine block_ret ?_
    refine then_ret ?_
    refine zzr (v := .int .i64 2) ha ?_
    refine ⟨?_, s⟩
    rw [code_bad (hfew (by omega) (by omega)) (not_okL hd fun h => ?_)]
    obtain ⟨⟨h1, h2, h3⟩, h4⟩ := h
    simp only [Dn.t] at h1 h2 h3
    first | exact h4 (hb ▸ ids_hit (k := k) hd2 (by omega)) | exact hnst (by unfold okS; omega) | (have h5 := h3 x.t (List.mem_map.2 ⟨x, List.mem_of_getElem? hx, rfl⟩); unfold okT at h5; omega) | omega
   rw [hb] at ha; replace hb : ¬ (x.t.op < (1 : Int)) := of_decide_eq_false hb
   refine zv (.slice (some ad) ds.length ca) ha ?_
   refine zzv (.int .i64 ((k : Nat) : Int)) ?_
   refine zzw (.pointer (some (ad.add (k * 4)))) (run_indexAddr' (kd := .i64) (i := ((k : Nat) : Int)) (n := ds.length) (c := ca) k rfl Tryz.underlying58 Tryz.sizeOf97 (by kernel_rfl) (by kernel_rfl) rfl (by first | assumption | omega) _) ?_
   refine zzw (.pointer (some (ad.add (k * 4 + 3)))) (zfa 95) ?_
   refine zzw (.slice d.A d.l.length d.c) (zla (k * 4 + 3) ((hr _ s.sat).1) (by rw [nvs_at hd (by omega)]; rfl)) ?_
   refine zzv (.int .i64 ((j : Nat) : Int)) ?_
   refine zzw (.pointer (some (al.add (j * 7)))) (run_indexAddr' (kd := .i64) (i := ((j : Nat) : Int)) (n := d.l.length) (c := d.c) j rfl Tryz.underlying95 Tryz.sizeOf99 (by rw [← hAl]; kernel_rfl) (by kernel_rfl) rfl (by first | assumption | omega) _) ?_
   refine zzw (.pointer (some (al.add (j * 7 + 0)))) (zfa 3) ?_
   refine zzw (.int .i64 x.t.op) (zla (j * 7 + 0) ((hAl ▸ ((hr _ s.sat).row hd).1)) (by rw [dvs_at hx (by omega)]; rfl)) ?_
   refine zzv (.bool (decide (x.t.op > (5 : Int)))) ?_
   refine zzv (.bool (decide (x.t.op > (5 : Int)))) ?_; clear ha; intro a ha
   refine zn2 ?_
   refine zzh (decide (x.t.op > (5 : Int))) ha ?_ ?_ <;> intro hb
   ·
    rw [hb] at ha; replace hb : (x.t.op > (5 : Int)) := of_decide_eq_true hb
    refine zn1 ?_
    refine zv (.int .i64 2) ha ?_; clear ha; intro a ha
    refine zn2 ?_
    refine wp_ret ?_
    refine block_ret ?_
    refine then_ret ?_
    refine then_ret ?_
    refine block_ret ?_
    refine block_ret ?_
    refine then_ret ?_
    refine then_ret ?_
    refine block_ret ?_
    refine then_ret ?_
    refine zzr (v := .int .i64 2) ha ?_
    refine ⟨?_, s⟩
    rw [code_bad (hfew (by omega) (by omega)) (not_okL hd fun h => ?_)]
    obtain ⟨⟨h1, h2, h3⟩, h4⟩ := h
    simp only [Dn.t] at h1 h2 h3
    first | exact h4 (hb ▸ ids_hit (k := k) hd2 (by omega)) | exact hnst (by unfold okS; omega) | (have h5 := h3 x.t (List.mem_map.2 ⟨x, List.mem_of_getElem? hx, rfl⟩); unfold okT at h5; omega) | omega
   rw [hb] at ha; replace hb : ¬ (x.t.op > (5 : Int)) := of_decide_eq_false hb
   refine wp_skip ?_
   refine block_normal ?_
   refine then_normal ?_
   refine wp_region_lit ?_
   refine zv (.int .i64 ((j : Nat) : Int)) ha ?_
   refine zzw (.int .i64 ((j + 1 : Nat) : Int)) zar ?_
   refine zzv (.int .i64 ((j + 1 : Nat) : Int)) ?_; clear ha; intro a ha
   refine zn2 ?_
   have hokx : okT x.t := by unfold okT; omega
   exact ⟨j + 1, by omega, (Has.cons ha (by kernel_rfl) (by kernel_rfl) (Has.cons ha (by kernel_rfl) (by kernel_rfl) (Has.cons ha (by kernel_rfl) (by kernel_rfl) (Has.nil ha)))), s, by omega, fun y hy => by rw [take_snoc hx] at hy; exact (List.mem_append.1 hy).elim (hp.2 y) (fun hy => by rw [List.mem_singleton.1 hy]; exact hokx)⟩
  rw [hb] at ha; replace hb : ¬ (((j : Nat) : Int) < ((d.l.length : Nat) : Int)) := of_decide_eq_false hb
  have hj2 : j = d.l.length := by omega
  have hall : ∀ y ∈ d.l.map (·.t), okT y := fun y hy => by
   obtain ⟨z, hz, rfl⟩ := List.mem_map.1 hy
   exact hp.2 z (by rw [hj2, List.take_length]; exact hz)
  refine wp_exit ?_
  refine then_exit ?_
  refine then_exit ?_
  refine block_hit ?_
  refine block_normal ?_
  refine then_normal ?_
  refine wp_region_lit ?_
  refine zv (.int .i64 ((k : Nat) : Int)) ha ?_
  refine zzw (.int .i64 ((k + 1 : Nat) : Int)) zar ?_
  refine zzv (.int .i64 ((k + 1 : Nat) : Int)) ?_; clear ha; intro a ha
  refine zn2 ?_
  exact ⟨k + 1, by omega, (Has.cons ha (by kernel_rfl) (by kernel_rfl) (Has.cons ha (by kernel_rfl) (by kernel_rfl) (Has.nil ha))), s, by omega, okL_next hd hok ⟨by simp only [Dn.t]; omega, by simp only [Dn.t]; exact hst, hall⟩ hns⟩
 rw [hb] at ha; replace hb : ¬ (((k : Nat) : Int) < ((ds.length : Nat) : Int)) := of_decide_eq_false hb
 have hk : k = ds.length := by omega
 have hok := hp.2
 rw [hk, List.take_length] at hok
 refine wp_exit ?_
 refine then_exit ?_
 refine then_exit ?_
 refine block_hit ?_
 refine then_normal ?_
 refine zn1 ?_
 refine zv (.int .i64 0) ha ?_; clear ha; intro a ha
 refine zn2 ?_
 refine wp_ret ?_
 refine zzr (v := .int .i64 0) ha ?_
 refine ⟨?_, s⟩
 rw [code_zero.2 ⟨hfew (by omega) (by omega), hok⟩]

theorem ahead_any (W : World) (L : List Chunk) (w : World) (x y : Dn) (s : St W L w) :
  Calls Tryz.prog 69 #[.agg (nv x).toArray, .agg (nv y).toArray] w fun e w' => e = .returned (.bool (decide (less x.t y.t))) ∧ St W L w' := by
 refine enter_args (l := [.agg (nv x).toArray, .agg (nv y).toArray]) Tryz.func69 rfl rfl (Nat.le_of_ble_eq_true rfl) ?_
 intro a ha; replace ha : Has a 24 [(0, .agg (nv x).toArray), (1, .agg (nv y).toArray)] := ha
 refine zn1 ?_
 refine zze ha (ex_box (nv x) s rfl (by kernel_rfl)) ?_
 clear ha; rintro _ w a ⟨g1, rfl, s⟩ ha
 refine zze ha (ex_box (nv y) s rfl (by kernel_rfl)) ?_
 clear ha; rintro _ w a ⟨g2, rfl, s⟩ ha
 refine zv (.bool false) ha ?_; clear ha; intro a ha
 refine zn4 ?_
 refine zv (.pointer (some ⟨g1, 1, none⟩)) ha ?_
 refine zzw (.agg #[.int .i64 x.wall, .int .i64 x.logic]) (zln 1 1) ?_
 refine zzv (.pointer (some ⟨g2, 1, none⟩)) ?_
 refine zzw (.agg #[.int .i64 y.wall, .int .i64 y.logic]) (zln 0 1) ?_; clear ha; intro a ha
 refine zzc ha (rless_any W _ w x.wall x.logic y.wall y.logic s) ?_
 rintro _ w ⟨rfl, s⟩
 refine ⟨_, rfl, ?_⟩; clear ha; intro a ha
 refine zv (.bool (decide (ltS x.wall x.logic y.wall y.logic))) ha ?_; clear ha; intro a ha
 rcases Bool.eq_false_or_eq_true (decide (ltS x.wall x.logic y.wall y.logic)) with hb | hb
 ·
  rw [hb] at ha; replace hb : (ltS x.wall x.logic y.wall y.logic) := of_decide_eq_true hb
  refine zp ha ?_
  iterate 11 refine zzp ?_
  refine zzv (.bool true) ?_
  refine zzv (.bool true) ?_; clear ha; intro a ha
  refine zn2 ?_
  refine wp_ret ?_
  refine zzr (v := .bool true) ha ?_
  replace s := s.tail.tail
  replace s : St W (L) w := s
  refine ⟨?_, s⟩
  congr 2
  unfold less
  unfold ltS at *
  simp only [Dn.t]
  first | exact (decide_eq_true (by omega)).symm | exact (decide_eq_false (by omega)).symm | exact decide_eq_decide.2 (by omega)
 rw [hb] at ha; replace hb : ¬ (ltS x.wall x.logic y.wall y.logic) := of_decide_eq_false hb
 refine zv (.pointer (some ⟨g1, 1, none⟩)) ha ?_
 refine zzw (.agg #[.int .i64 x.wall, .int .i64 x.logic]) (zln 1 1) ?_
 refine zzv (.pointer (some ⟨g2, 1, none⟩)) ?_
 refine zzw (.agg #[.int .i64 y.wall, .int .i64 y.logic]) (zln 0 1) ?_
 refine zzw (.bool (decide (x.wall = y.wall ∧ x.logic = y.logic))) (run_st (x := x.wall) (y := x.logic) (u := y.wall) (v := y.logic) (.inl rfl) rfl (by kernel_rfl) (by kernel_rfl) _) ?_
 refine zzv (.bool (decide (x.wall = y.wall ∧ x.logic = y.logic))) ?_; clear ha; intro a ha
 rcases Bool.eq_false_or_eq_true (decide (x.wall = y.wall ∧ x.logic = y.logic)) with hb | hb
 ·
  rw [hb] at ha; replace hb : (x.wall = y.wall ∧ x.logic = y.logic) := of_decide_eq_true hb
  refine zv (.pointer (some ⟨g1, 0, none⟩)) ha ?_
  refine zzw (.int .i64 x.id) (zl1 1 0) ?_
  refine zzv (.pointer (some ⟨g2, 0, none⟩)) ?_
  refine zzw (.int .i64 y.id) (zl1 0 0) ?_
  refine zzv (.bool (decide (x.id < y.id))) ?_
  refine zzv (.bool (decide (x.id < y.id))) ?_
  refine zzv (.bool (decide (x.id < y.id))) ?_
  refine zzv (.bool (decide (x.id < y.id))) ?_; clear ha; intro a ha
  refine zn2 ?_
  refine wp_ret ?_
  refine zzr (v := .bool (decide (x.id < y.id))) ha ?_
  replace s := s.tail.tail
  replace s : St W (L) w := s
  refine ⟨?_, s⟩
  congr 2
  unfold less
  unfold ltS at *
  simp only [Dn.t]
  first | exact (decide_eq_true (by omega)).symm | exact (decide_eq_false (by omega)).symm | exact decide_eq_decide.2 (by omega)
 rw [hb] at ha; replace hb : ¬ (x.wall = y.wall ∧ x.logic = y.logic) := of_decide_eq_false hb
 refine zp ha ?_
 iterate 4 refine zzp ?_
 refine zzv (.bool false) ?_
 refine zzv (.bool false) ?_
 refine zzv (.bool false) ?_; clear ha; intro a ha
 refine zn2 ?_
 refine wp_ret ?_
 refine zzr (v := .bool false) ha ?_
 replace s := s.tail.tail
 replace s : St W (L) w := s
 refine ⟨?_, s⟩
 congr 2
 unfold less
 unfold ltS at *
 simp only [Dn.t]
 first | exact (decide_eq_true (by omega)).symm | exact (decide_eq_false (by omega)).symm | exact decide_eq_decide.2 (by omega)

theorem nats_set (u : List Nat) (r k : Nat) : putAt (nats u) (r * 1) [.int .i64 ((k : Nat) : Int)] = nats (u.set r k) := by
 rw [Nat.mul_one]
 show (nats u).set r _ = _
 simp [nats]
theorem nats_rep (n : Nat) : List.replicate n (.int .i64 0) = nats (List.replicate n 0) := by simp [nats]

theorem rorder_ok (W : World) (L : List Chunk) (w : World) (A : Option Addr) (ca : Nat) (ds : List Dn) (hr : Knows L (DonesIn A ds)) (hn : Bn ds) (h0 : code (tns ds) = 0) (s : St W L w) :
  Calls Tryz.prog 58 #[.slice A ds.length ca] w fun e w' => ∃ B c o, e = .returned (.tuple #[.slice B ds.length c, .int .i64 0]) ∧ IsOrd (tns ds) o ∧ St W (Own 3 1 B ds.length c (nats o) :: L) w' := by
 have hpost := order_post h0
 refine enter_args (l := [.slice A ds.length ca]) Tryz.func58 rfl rfl (Nat.le_of_ble_eq_true rfl) ?_
 intro a ha; replace ha : Has a 45 [(0, .slice A ds.length ca)] := ha
 refine zn1 ?_
 refine zv (.slice none 0 0) ha ?_
 refine zzv (.int .i64 0) ?_; clear ha; intro a ha
 refine zn4 ?_
 refine zv (.slice A ds.length ca) ha ?_; clear ha; intro a ha
 refine zzc ha (rcheck_any W _ w A ca ds (fun w s => hr w s) hn s) ?_
 rintro _ w ⟨rfl, s⟩
 refine ⟨_, rfl, ?_⟩; clear ha; intro a ha
 refine zv (.int .i64 (code (tns ds))) ha ?_; clear ha; intro a ha
 refine zn2 ?_
 refine wp_seq ?_
 refine zn1 ?_
 refine zv (.int .i64 (code (tns ds))) ha ?_
 refine zzw (.bool false) (run_known (show ((code (tns ds)) != (0 : Int)) = false from by rw [bne_eq_false_iff_eq]; omega) (by kernel_rfl)) ?_; clear ha; intro a ha
 refine zn2 ?_
 refine wp_false ha rfl (by kernel_rfl) ?_
 refine wp_skip ?_
 refine then_normal ?_
 refine zn1 ?_
 refine zv (.slice A ds.length ca) ha ?_
 refine zzv (.int .i64 ((ds.length : Nat) : Int)) ?_; clear ha; intro a ha
 refine zze ha (ex_makeSlice (n := ds.length) (c := ds.length) (kx := .i64) (ky := .i64) elt54 #[.int .i64 0] (by kernel_rfl) s rfl (by kernel_rfl) (by kernel_rfl) (by omega) (by omega) (by omega) (by simp only [roomBytes]; omega)) ?_
 clear ha; rintro _ w a ⟨g1, rfl, s⟩ ha
 rw [made_one] at s
 refine zv (.slice (some ⟨g1, 0, none⟩) ds.length ds.length) ha ?_; clear ha; intro a ha
 refine zn2 ?_
 refine wp_seq ?_
 refine zn1 ?_
 refine zv (.int .i64 0) ha ?_; clear ha; intro a ha
 refine zn2 ?_
 refine wp_block ?_
 rw [nats_rep] at s
 refine wp_loopG (G := (Nat × List Nat)) (fun ⟨k, u⟩ a w => Has a 45 [(0, .slice A ds.length ca), (5, .slice (some ⟨g1, 0, none⟩) ds.length ds.length), (6, .int .i64 ((k : Nat) : Int))] ∧ St W (.blk g1 (nats u) 3 :: L) w ∧ (k ≤ ds.length ∧ Placed (tns ds) u k)) (fun ⟨k, u⟩ => ds.length - k) (0, List.replicate ds.length 0) ?_ ?_
 ·
  exact ⟨(Has.cons ha (by kernel_rfl) (by kernel_rfl) (Has.cons ha (by kernel_rfl) (by kernel_rfl) (Has.cons ha (by kernel_rfl) (by kernel_rfl) (Has.nil ha)))), s, ⟨Nat.zero_le _, by have := Placed.zero (tns ds); simpa using this⟩⟩
 clear ha s; rintro ⟨k, u⟩ a w ⟨ha, s, hp⟩
 refine wp_seq ?_
 refine zn1 ?_
 refine zv (.int .i64 ((k : Nat) : Int)) ha ?_
 refine zzv (.slice A ds.length ca) ?_
 refine zzv (.int .i64 ((ds.length : Nat) : Int)) ?_
 refine zzv (.bool (decide (((k : Nat) : Int) < ((ds.length : Nat) : Int)))) ?_; clear ha; intro a ha
 refine zn2 ?_
 refine zzh (decide (((k : Nat) : Int) < ((ds.length : Nat) : Int))) ha ?_ ?_ <;> intro hb
 ·
  rw [hb] at ha; replace hb : (((k : Nat) : Int) < ((ds.length : Nat) : Int)) := of_decide_eq_true hb
  have hP := hp.2
  have hkl : k < ds.length := by omega
  have hul : u.length = ds.length := by simpa using hP.1
  obtain ⟨d, hd⟩ : ∃ d, ds[k]? = some d := ⟨_, List.getElem?_eq_getElem hkl⟩
  obtain ⟨ad, hA⟩ := Reads.addr (hr _ s.sat.tail).1 (by omega)
  subst hA
  refine wp_skip ?_
  refine then_normal ?_
  refine wp_seq ?_
  refine wp_block ?_
  refine zn1 ?_
  refine zv (.int .i64 0) ha ?_; clear ha; intro a ha
  refine zn2 ?_
  refine wp_seq ?_
  refine zn1 ?_
  refine zv (.int .i64 0) ha ?_; clear ha; intro a ha
  refine zn2 ?_
  refine wp_block ?_
  refine wp_loopG (G := Nat) (fun j a w => Has a 45 [(0, .slice (some ad) ds.length ca), (5, .slice (some ⟨g1, 0, none⟩) ds.length ds.length), (6, .int .i64 ((k : Nat) : Int)), (7, .int .i64 ((aheadTo (tns ds) k j : Nat) : Int)), (8, .int .i64 ((j : Nat) : Int))] ∧ St W (.blk g1 (nats u) 3 :: L) w ∧ j ≤ ds.length) (fun j => ds.length - j) 0 ?_ ?_
  ·
   exact ⟨(Has.cons ha (by kernel_rfl) (by kernel_rfl) (Has.cons ha (by kernel_rfl) (by kernel_rfl) (Has.cons ha (by kernel_rfl) (by kernel_rfl) (Has.cons ha (by kernel_rfl) (by kernel_rfl) (Has.cons ha (by kernel_rfl) (by kernel_rfl) (Has.nil ha)))))), s, Nat.zero_le _⟩
  clear ha s; rintro j a w ⟨ha, s, hp⟩
  refine wp_seq ?_
  refine zn1 ?_
  refine zv (.int .i64 ((j : Nat) : Int)) ha ?_
  refine zzv (.slice (some ad) ds.length ca) ?_
  refine zzv (.int .i64 ((ds.length : Nat) : Int)) ?_
  refine zzv (.bool (decide (((j : Nat) : Int) < ((ds.length : Nat) : Int)))) ?_; clear ha; intro a ha
  refine zn2 ?_
  refine zzh (decide (((j : Nat) : Int) < ((ds.length : Nat) : Int))) ha ?_ ?_ <;> intro hb
  ·
   rw [hb] at ha; replace hb : (((j : Nat) : Int) < ((ds.length : Nat) : Int)) := of_decide_eq_true hb
   obtain ⟨d2, hd2⟩ : ∃ d2, ds[j]? = some d2 := ⟨_, List.getElem?_eq_getElem (by omega)⟩
   have hale := aheadTo_le (tns ds) k j
   refine wp_skip ?_
   refine then_normal ?_
   refine wp_seq ?_
   refine wp_block ?_
   refine wp_seq ?_
   refine wp_region_head 8 (fun w => Reads w 4 (some ad) ds.length (nvs ds) ∧ True) (by kernel_rfl) (by decide) ?_
   replace s := s.drew; generalize _root_.Go.World.drew _ = w at s ⊢
   have hS : (fun w => Reads w 4 (some ad) ds.length (nvs ds) ∧ True) w := ⟨(hr _ s.sat.tail).1, trivial⟩
   refine yk (i := 0) (.slice (some ad) ds.length ca) ha hS ?_
   refine yyk (i := 1) (.int .i64 ((j : Nat) : Int)) hS ?_
   refine yyv (i := 2) (.pointer (some (ad.add (j * 4)))) (fun w hS => (run_indexAddr' (kd := .i64) (i := ((j : Nat) : Int)) (n := ds.length) (c := ca) j rfl Tryz.underlying58 Tryz.sizeOf97 (by kernel_rfl) (by kernel_rfl) rfl (by first | assumption | omega) _)) hS ?_
   refine yyv (i := 3) (.agg (nv d2).toArray) (fun w hS => run_loadAtN (i := j * 4) (nv d2) hS.1 rfl (by kernel_rfl) Tryz.isAgg97 Tryz.sizeOf97 (fun q_ hq_ => nvs_at hd2 hq_) rfl) hS ?_
   refine yyk (i := 4) (.slice (some ad) ds.length ca) hS ?_
   refine yyk (i := 5) (.int .i64 ((k : Nat) : Int)) hS ?_
   refine yyv (i := 6) (.pointer (some (ad.add (k * 4)))) (fun w hS => (run_indexAddr' (kd := .i64) (i := ((k : Nat) : Int)) (n := ds.length) (c := ca) k rfl Tryz.underlying58 Tryz.sizeOf97 (by kernel_rfl) (by kernel_rfl) rfl (by first | assumption | omega) _)) hS ?_
   refine yyv (i := 7) (.agg (nv d).toArray) (fun w hS => run_loadAtN (i := k * 4) (nv d) hS.1 rfl (by kernel_rfl) Tryz.isAgg97 Tryz.sizeOf97 (fun q_ hq_ => nvs_at hd hq_) rfl) hS ?_; clear ha; intro a ha
   refine Head.done (by kernel_rfl) ?_
   clear hS; simp only [List.drop_succ_cons, List.drop_zero]
   refine zzc ha (ahead_any W _ w d2 d s) ?_
   rintro _ w ⟨rfl, s⟩
   refine ⟨_, rfl, ?_⟩; clear ha; intro a ha
   refine zn2 ?_
   refine zzh (decide (less d2.t d.t)) ha ?_ ?_ <;> intro hb
   ·
    rw [hb] at ha; replace hb : (less d2.t d.t) := of_decide_eq_true hb
    refine wp_region_lit ?_
    refine zv (.int .i64 ((aheadTo (tns ds) k j : Nat) : Int)) ha ?_
    refine zzw (.int .i64 ((aheadTo (tns ds) k j + 1 : Nat) : Int)) zar ?_
    refine zzv (.int .i64 ((aheadTo (tns ds) k j + 1 : Nat) : Int)) ?_; clear ha; intro a ha
    refine wpList_nil ?_
    refine block_normal ?_
    refine then_normal ?_
    refine wp_region_lit ?_
    refine zv (.int .i64 ((j : Nat) : Int)) ha ?_
    refine zzw (.int .i64 ((j + 1 : Nat) : Int)) zar ?_
    refine zzv (.int .i64 ((j + 1 : Nat) : Int)) ?_; clear ha; intro a ha
    refine zn2 ?_
    have hah := aheadTo_succ (tns ds) k j
    rw [tAt_of hd, tAt_of hd2] at hah
    rw [if_pos hb] at hah
    exact ⟨j + 1, by omega, (Has.cons ha (by kernel_rfl) (by kernel_rfl) (Has.cons ha (by kernel_rfl) (by kernel_rfl) (Has.cons ha (by kernel_rfl) (by kernel_rfl) (Has.cons ha (by kernel_rfl) (Eq.trans (b := .int .i64 ((aheadTo (tns ds) k j + 1 : Nat) : Int)) (by kernel_rfl) (by rw [hah])) (Has.cons ha (by kernel_rfl) (by kernel_rfl) (Has.nil ha)))))), s, by omega⟩
   rw [hb] at ha; replace hb : ¬ (less d2.t d.t) := of_decide_eq_false hb
   refine wp_skip ?_
   refine block_normal ?_
   refine then_normal ?_
   refine wp_region_lit ?_
   refine zv (.int .i64 ((j : Nat) : Int)) ha ?_
   refine zzw (.int .i64 ((j + 1 : Nat) : Int)) zar ?_
   refine zzv (.int .i64 ((j + 1 : Nat) : Int)) ?_; clear ha; intro a ha
   refine zn2 ?_
   have hah := aheadTo_succ (tns ds) k j
   rw [tAt_of hd, tAt_of hd2] at hah
   rw [if_neg hb] at hah
   rw [Nat.add_zero] at hah
   exact ⟨j + 1, by omega, (Has.cons ha (by kernel_rfl) (by kernel_rfl) (Has.cons ha (by kernel_rfl) (by kernel_rfl) (Has.cons ha (by kernel_rfl) (by kernel_rfl) (Has.cons ha (by kernel_rfl) (Eq.trans (b := .int .i64 ((aheadTo (tns ds) k j : Nat) : Int)) (by kernel_rfl) (by rw [hah]; rfl)) (Has.cons ha (by kernel_rfl) (by kernel_rfl) (Has.nil ha)))))), s, by omega⟩
  rw [hb] at ha; replace hb : ¬ (((j : Nat) : Int) < ((ds.length : Nat) : Int)) := of_decide_eq_false hb
  have hj : j = ds.length := by omega
  have hrk : aheadTo (tns ds) k j = rank (tns ds) k := by unfold rank; rw [hj]; simp [aheadTo]
  rw [hrk] at ha
  have hrl : rank (tns ds) k < ds.length := by have := rank_lt (ds := tns ds) (i := k) (by simpa using hkl); simpa using this
  refine wp_exit ?_
  refine then_exit ?_
  refine then_exit ?_
  refine block_hit ?_
  refine then_normal ?_
  refine wp_region_lit ?_
  refine zv (.slice (some ⟨g1, 0, none⟩) ds.length ds.length) ha ?_
  refine zzv (.int .i64 ((rank (tns ds) k : Nat) : Int)) ?_
  refine zzv (.int .i64 ((k : Nat) : Int)) ?_
  refine zzw (.pointer (some ⟨g1, 0 + (rank (tns ds) k) * 1, none⟩)) (run_indexAddr (kd := .i64) (i := ((rank (tns ds) k : Nat) : Int)) (n := ds.length) (c := ds.length) (rank (tns ds) k) rfl Tryz.underlying54 Tryz.sizeOf3 (by kernel_rfl) (by kernel_rfl) rfl (by first | assumption | omega) _) ?_; clear ha; intro a ha
  refine zzd ha (ex_store_to (of_ := 0 + rank (tns ds) k * 1) 0 [.int .i64 ((k : Nat) : Int)] s (show putAt (nats u) (0 + rank (tns ds) k * 1) [.int .i64 ((k : Nat) : Int)] = nats (u.set (rank (tns ds) k) k) from by rw [Nat.zero_add]; exact nats_set _ _ _) rfl rfl (by kernel_rfl) (by kernel_rfl) (Tryz.sizeOf3 _) rfl (by simp [Value.oneCell']) (by simp only [List.length_map, hul, List.length_cons, List.length_nil]; omega)) ?_
  clear ha; rintro w a s ha
  dsimp only [List.set, putAt] at s
  refine wpList_nil ?_
  refine block_normal ?_
  refine then_normal ?_
  refine wp_region_lit ?_
  refine zv (.int .i64 ((k : Nat) : Int)) ha ?_
  refine zzw (.int .i64 ((k + 1 : Nat) : Int)) zar ?_
  refine zzv (.int .i64 ((k + 1 : Nat) : Int)) ?_; clear ha; intro a ha
  refine zn2 ?_
  exact ⟨(k + 1, u.set (rank (tns ds) k) k), (show ds.length - (k + 1) < ds.length - k by omega), (Has.cons ha (by kernel_rfl) (by kernel_rfl) (Has.cons ha (by kernel_rfl) (by kernel_rfl) (Has.cons ha (by kernel_rfl) (by kernel_rfl) (Has.nil ha)))), s, (show k + 1 ≤ ds.length by omega), hP.set hpost.2.1 (by simpa using hkl)⟩
 rw [hb] at ha; replace hb : ¬ (((k : Nat) : Int) < ((ds.length : Nat) : Int)) := of_decide_eq_false hb
 have hk : k = ds.length := by omega
 have hP := hp.2
 rw [hk] at hP
 have ho : IsOrd (tns ds) u := by refine Placed.isOrd hpost.2.1 ?_; simpa using hP
 have hul : u.length = ds.length := by simpa using hP.1
 replace s := own_blk (n := ds.length) (k := 1) (by simp [hul]) (by simp only [maxLen]; omega) s
 refine wp_exit ?_
 refine then_exit ?_
 refine then_exit ?_
 refine block_hit ?_
 refine then_normal ?_
 refine zn1 ?_
 refine zv (.slice (some ⟨g1, 0, none⟩) ds.length ds.length) ha ?_
 refine zzv (.slice (some ⟨g1, 0, none⟩) ds.length ds.length) ?_
 refine zzv (.int .i64 0) ?_; clear ha; intro a ha
 refine zn2 ?_
 refine wp_ret ?_
 refine ret_with (v := .tuple #[.slice (some ⟨g1, 0, none⟩) ds.length ds.length, .int .i64 0]) ha (results_2 rfl ha (res_tmp (by kernel_rfl) (by kernel_rfl)) (res_tmp (by kernel_rfl) (by kernel_rfl))) ?_
 exact ⟨_, _, u, rfl, ho, s⟩

theorem rorder_no (W : World) (L : List Chunk) (w : World) (A : Option Addr) (ca : Nat) (ds : List Dn) (hr : Knows L (DonesIn A ds)) (hn : Bn ds) (h0 : code (tns ds) ≠ 0) (s : St W L w) :
  Calls Tryz.prog 58 #[.slice A ds.length ca] w fun e w' => e = .returned (.tuple #[.slice none 0 0, .int .i64 (code (tns ds))]) ∧ St W L w' := by
 refine enter_args (l := [.slice A ds.length ca]) Tryz.func58 rfl rfl (Nat.le_of_ble_eq_true rfl) ?_
 intro a ha; replace ha : Has a 45 [(0, .slice A ds.length ca)] := ha
 refine zn1 ?_
 refine zv (.slice none 0 0) ha ?_
 refine zzv (.int .i64 0) ?_; clear ha; intro a ha
 refine zn4 ?_
 refine zv (.slice A ds.length ca) ha ?_; clear ha; intro a ha
 refine zzc ha (rcheck_any W _ w A ca ds (fun w s => hr w s) hn s) ?_
 rintro _ w ⟨rfl, s⟩
 refine ⟨_, rfl, ?_⟩; clear ha; intro a ha
 refine zv (.int .i64 (code (tns ds))) ha ?_; clear ha; intro a ha
 refine zn2 ?_
 refine wp_seq ?_
 refine zn1 ?_
 refine zv (.int .i64 (code (tns ds))) ha ?_
 refine zzw (.bool true) (run_known (show ((code (tns ds)) != (0 : Int)) = true from bne_iff_ne.2 (by omega)) (by kernel_rfl)) ?_; clear ha; intro a ha
 refine zn2 ?_
 refine wp_true ha rfl (by kernel_rfl) ?_
 refine zn1 ?_
 refine zv (.int .i64 (code (tns ds))) ha ?_
 refine zzv (.slice none 0 0) ?_
 refine zzv (.int .i64 (code (tns ds))) ?_; clear ha; intro a ha
 refine zn2 ?_
 refine zzt ?_
 refine ret_with (v := .tuple #[.slice none 0 0, .int .i64 (code (tns ds))]) ha (results_2 rfl ha (res_tmp (by kernel_rfl) (by kernel_rfl)) (res_tmp (by kernel_rfl) (by kernel_rfl))) ?_
 exact ⟨rfl, s⟩

end Go.Proofs.YtfcbjcohepkkfaaGreat.B
