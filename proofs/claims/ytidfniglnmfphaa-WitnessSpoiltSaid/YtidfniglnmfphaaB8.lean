import Derived.Test.YtidfniglnmfphaaB7
namespace Go.Proofs.Ytidfniglnmfphaa.B
open Go.RowKit Go.Maps Go.Sort Go.Shelf Go.Proofs.Ytidfniglnmfphaa.Sep Go.Proofs.Ytidfniglnmfphaa.P
set_option linter.unusedVariables false
set_option linter.unusedSimpArgs false
theorem ids_take {ds : List Dn} {j : Nat} {d : Dn} (h : ds[j]? = some d) : ids (tns (ds.take (j + 1))) = ids (tns (ds.take j)) ++ [d.id] := by
  rw [take_snoc h]; simp [ids, Dn.t]
theorem ids_hit {ds : List Dn} {j k : Nat} {d : Dn} (h : ds[j]? = some d) (hj : j < k) : d.id ∈ ids (tns (ds.take k)) := by
  refine List.mem_map.2 ⟨d.t, List.mem_map.2 ⟨d, ?_, rfl⟩, rfl⟩
  have := List.mem_of_getElem? (show (ds.take k)[j]? = some d by rw [List.getElem?_take, if_pos hj]; exact h)
  exact this
theorem eqSt (x y u v : Int) (w : World) : (Op.equalIn 10000 24 (.agg #[.int .i64 x, .int .i64 y]) (.agg #[.int .i64 u, .int .i64 v])).run Try.prog w = .ok (decide (x = u ∧ y = v)) w := by
  have u3 := Try.underlying3
  have a3 := Try.isAgg3
  have z3 := Try.sizeOf3
  have hS : Try.prog.underlying 24 = some (.struct (Try.prog.fieldsOf 24)) := by kernel_rfl
  have hp : Try.prog.stoodInHeld 24 = false := by kernel_rfl
  rw [show (10000 : Nat) = 9999 + 1 from rfl, run_equalIn_struct w 9999 24 _ _ hS hp]
  simp only [Program.fieldsOf, Try.underlying24]
  go_simp
  by_cases h1 : x = u <;> by_cases h2 : y = v <;> simp [h1, h2]
theorem run_st {o : Oper} {E : Env} {op : BinOp} {a b : Operand} {x y u v : Int} {yt : TypeId} (hop : op = .eql ∨ op = .neq) (ho : o.op = .binOp op 24 a b yt) (hx : evalE E a = .agg #[.int .i64 x, .int .i64 y]) (hy : evalE E b = .agg #[.int .i64 u, .int .i64 v]) :
    ∀ w, (execOp (evalE E) o).run Try.prog w = .ok (.value (.bool (if op = .eql then decide (x = u ∧ y = v) else decide (¬ (x = u ∧ y = v))))) w := by
  intro w
  have hm : Try.prog.eqGuardType Try.prog.depth 24 = false := by kernel_rfl
  have g : ∀ op a b u v, (eqGuard op 24 a b (.agg u) (.agg v)).run Try.prog w = .ok () w := fun op a b u v => run_eqGuard_agg w op 24 a b _ _ hm
  rcases hop with rfl | rfl
  · simp [execOp, ho, hx, hy, run_eql_struct, eqSt, g]
  · simp [execOp, ho, hx, hy, run_neq_struct, eqSt, g]

set_option maxRecDepth 100000 in
set_option maxHeartbeats 2000000 in
theorem rcheck_any (W : World) (L : List Chunk) (w : World) (A : Option Addr) (ca : Nat) (ds : List Dn) (hr : Knows L (DonesIn A ds)) (hn : Bn ds) (s : St W L w) :
    Calls Try.prog 38 #[.slice A ds.length ca] w fun e w' => e = .returned (.int .i64 (code (tns ds))) ∧ St W L w' := by
  have hfew : ds.length ≤ 1000 → many (tns ds) ≤ 10000 → few (tns ds) := fun h1 h2 => ⟨by simpa using h1, h2⟩
  refine enter_args (l := [.slice A ds.length ca]) Try.func38 rfl rfl (Nat.le_of_ble_eq_true rfl) ?_
  intro a ha; replace ha : Has a 110 [(0, .slice A ds.length ca)] := ha
  refine wp_seq ?_
  refine wp_region_lit ?_
  refine st_val (.int .i64 0) ha (by kernel_rfl) (by kernel_rfl) ?_
  clear ha; intro a ha
  refine wpList_nil ?_
  refine then_normal ?_
  refine wp_seq ?_
  refine wp_region_lit ?_
  refine st_val (.int .i64 0) ha (by kernel_rfl) (by kernel_rfl) ?_
  clear ha; intro a ha
  refine wpList_nil ?_
  refine then_normal ?_
  refine wp_seq ?_
  refine wp_seq ?_
  refine wp_region_lit ?_
  refine st_val (.int .i64 0) ha (by kernel_rfl) (by kernel_rfl) ?_
  clear ha; intro a ha
  refine wpList_nil ?_
  refine then_normal ?_
  refine wp_block ?_
  have hm0 : many (tns (ds.take 0)) = 0 := rfl
  refine wp_loopG (G := Nat) (fun k a w => Has a 110 [(0, .slice A ds.length ca), (3, .int .i64 ((many (tns (ds.take k)) : Nat) : Int)), (4, .int .i64 ((k : Nat) : Int))] ∧ St W (L) w ∧ (k ≤ ds.length ∧ k ≤ 1001 ∧ many (tns (ds.take k)) ≤ k * 140737488351232)) (fun k => 1001 - k) 0 ?_ ?_
  · exact ⟨(Has.cons ha (by kernel_rfl) (by kernel_rfl) (Has.cons ha (by kernel_rfl) (by kernel_rfl) (Has.cons ha (by kernel_rfl) (by kernel_rfl) (Has.nil ha)))), s, ⟨Nat.zero_le _, by omega, by rw [hm0]; omega⟩⟩
  · clear ha s; rintro k a w ⟨ha, s, hp⟩
    refine wp_seq ?_
    refine wp_seq ?_
    refine wp_region_lit ?_
    refine st_val (.int .i64 ((k : Nat) : Int)) ha (by kernel_rfl) (by kernel_rfl) ?_
    clear ha; intro a ha
    refine st_val (.slice A ds.length ca) ha (by kernel_rfl) (by kernel_rfl) ?_
    clear ha; intro a ha
    refine st_val (.int .i64 ((ds.length : Nat) : Int)) ha (by kernel_rfl) (by kernel_rfl) ?_
    clear ha; intro a ha
    refine st_val (.bool (decide (((k : Nat) : Int) < ((ds.length : Nat) : Int)))) ha (by kernel_rfl) (by kernel_rfl) ?_
    clear ha; intro a ha
    refine st_val (.bool (decide (((k : Nat) : Int) < ((ds.length : Nat) : Int)))) ha (by kernel_rfl) (by kernel_rfl) ?_
    clear ha; intro a ha
    rcases Bool.eq_false_or_eq_true (decide (((k : Nat) : Int) < ((ds.length : Nat) : Int))) with hb | hb
    · rw [hb] at ha; replace hb : (((k : Nat) : Int) < ((ds.length : Nat) : Int)) := of_decide_eq_true hb
      obtain ⟨d, hd⟩ : ∃ d, ds[k]? = some d := ⟨_, List.getElem?_eq_getElem (by omega)⟩
      have hdl := (hn.row hd).1
      obtain ⟨ad, hA⟩ := Reads.addr (hr _ s.sat).1 (by omega)
      subst hA
      have hk3 := hp.2.2
      have hk4 : k * 140737488351232 ≤ 1001 * 140737488351232 := Nat.mul_le_mul_right _ hp.2.1
      refine st_val (.int .i64 ((k : Nat) : Int)) ha (by kernel_rfl) (by kernel_rfl) ?_
      clear ha; intro a ha
      refine st_val (.bool (decide (((k : Nat) : Int) ≤ (1000 : Int)))) ha (by kernel_rfl) (by kernel_rfl) ?_
      clear ha; intro a ha
      refine st_val (.bool (decide (((k : Nat) : Int) ≤ (1000 : Int)))) ha (by kernel_rfl) (by kernel_rfl) ?_
      clear ha; intro a ha
      refine wpList_nil ?_
      refine then_normal ?_
      refine wp_part (decide (((k : Nat) : Int) ≤ (1000 : Int))) ha rfl (by kernel_rfl) (fun hb => ?_) (fun hb => ?_)
      · rw [hb] at ha; replace hb : (((k : Nat) : Int) ≤ (1000 : Int)) := of_decide_eq_true hb
        refine wp_skip ?_
        refine then_normal ?_
        refine wp_seq ?_
        refine wp_block ?_
        refine wp_region_lit ?_
        refine st_val (.int .i64 ((many (tns (ds.take k)) : Nat) : Int)) ha (by kernel_rfl) (by kernel_rfl) ?_
        clear ha; intro a ha
        refine st_val (.slice (some ad) ds.length ca) ha (by kernel_rfl) (by kernel_rfl) ?_
        clear ha; intro a ha
        refine st_val (.int .i64 ((k : Nat) : Int)) ha (by kernel_rfl) (by kernel_rfl) ?_
        clear ha; intro a ha
        refine st_val (.pointer (some (ad.add (k * 4)))) ha (by kernel_rfl) (run_indexAddr' (kd := .i64) (i := ((k : Nat) : Int)) (n := ds.length) (c := ca) k rfl Try.underlying39 Try.sizeOf80 (by kernel_rfl) (by kernel_rfl) rfl (by first | assumption | omega) _) ?_
        clear ha; intro a ha
        refine st_val (.pointer (some (ad.add (k * 4 + 3)))) ha (by kernel_rfl) (run_fieldAddr_at (i := k * 4) (off := 3) rfl Try.underlying80 rfl Try.sizeOf78 (by kernel_rfl) _) ?_
        clear ha; intro a ha
        refine st_val (.slice d.A d.l.length d.c) ha (by kernel_rfl) (run_loadAt1 (i := k * 4 + 3) ((hr _ s.sat).1) rfl (by kernel_rfl) Try.isAgg78 (by rw [nvs_at hd (by omega)]; rfl)) ?_
        clear ha; intro a ha
        refine st_val (.int .i64 ((d.l.length : Nat) : Int)) ha (by kernel_rfl) (by kernel_rfl) ?_
        clear ha; intro a ha
        refine st_val (.int .i64 ((many (tns (ds.take k)) + d.l.length : Nat) : Int)) ha (by kernel_rfl) (run_arith (((many (tns (ds.take k)) : Nat) : Int) + ((d.l.length : Nat) : Int)) ((many (tns (ds.take k)) + d.l.length : Nat) : Int) rfl (by kernel_rfl) (by kernel_rfl) (.inl ⟨rfl, rfl⟩) (by rw [wrap64_in (by omega)]; try omega) _) ?_
        clear ha; intro a ha
        refine st_val (.int .i64 ((many (tns (ds.take k)) + d.l.length : Nat) : Int)) ha (by kernel_rfl) (by kernel_rfl) ?_
        clear ha; intro a ha
        refine wpList_nil ?_
        refine block_normal ?_
        refine then_normal ?_
        refine wp_region_lit ?_
        refine st_val (.int .i64 ((k : Nat) : Int)) ha (by kernel_rfl) (by kernel_rfl) ?_
        clear ha; intro a ha
        refine st_val (.int .i64 ((k + 1 : Nat) : Int)) ha (by kernel_rfl) (run_arith (((k : Nat) : Int) + (1 : Int)) ((k + 1 : Nat) : Int) rfl (by kernel_rfl) (by kernel_rfl) (.inl ⟨rfl, rfl⟩) (by rw [wrap64_in (by omega)]; try omega) _) ?_
        clear ha; intro a ha
        refine st_val (.int .i64 ((k + 1 : Nat) : Int)) ha (by kernel_rfl) (by kernel_rfl) ?_
        clear ha; intro a ha
        refine wpList_nil ?_
        refine then_normal ?_
        have hmt := many_take hd
        exact ⟨k + 1, by omega, (Has.cons ha (by kernel_rfl) (by kernel_rfl) (Has.cons ha (by kernel_rfl) (Eq.trans (b := .int .i64 ((many (tns (ds.take k)) + d.l.length : Nat) : Int)) (by kernel_rfl) (by rw [many_take hd])) (Has.cons ha (by kernel_rfl) (by kernel_rfl) (Has.nil ha)))), s, by omega, by omega, by rw [hmt]; omega⟩
      · rw [hb] at ha; replace hb : ¬ (((k : Nat) : Int) ≤ (1000 : Int)) := of_decide_eq_false hb
        have hnf : ¬ few (tns ds) := fun h => by have := h.1; simp only [List.length_map] at this; omega
        refine wp_exit ?_
        refine then_exit ?_
        refine then_exit ?_
        refine block_hit ?_
        refine then_normal ?_
        refine wp_seq ?_
        refine wp_seq ?_
        refine wp_region_lit ?_
        refine st_val (.slice (some ad) ds.length ca) ha (by kernel_rfl) (by kernel_rfl) ?_
        clear ha; intro a ha
        refine st_val (.int .i64 ((ds.length : Nat) : Int)) ha (by kernel_rfl) (by kernel_rfl) ?_
        clear ha; intro a ha
        refine st_val (.bool (decide (((ds.length : Nat) : Int) > (1000 : Int)))) ha (by kernel_rfl) (by kernel_rfl) ?_
        clear ha; intro a ha
        refine st_val (.bool (decide (((ds.length : Nat) : Int) > (1000 : Int)))) ha (by kernel_rfl) (by kernel_rfl) ?_
        clear ha; intro a ha
        rcases Bool.eq_false_or_eq_true (decide (((ds.length : Nat) : Int) > (1000 : Int))) with hb | hb
        · rw [hb] at ha; replace hb : (((ds.length : Nat) : Int) > (1000 : Int)) := of_decide_eq_true hb
          refine st_pass ha (by kernel_rfl) ?_
          clear ha; intro a ha
          refine st_pass ha (by kernel_rfl) ?_
          clear ha; intro a ha
          refine st_val (.bool true) ha (by kernel_rfl) (by kernel_rfl) ?_
          clear ha; intro a ha
          refine wpList_nil ?_
          refine then_normal ?_
          refine wp_true ha rfl (by kernel_rfl) ?_
          refine wp_seq ?_
          refine wp_region_lit ?_
          refine st_val (.int .i64 5) ha (by kernel_rfl) (by kernel_rfl) ?_
          clear ha; intro a ha
          refine wpList_nil ?_
          refine then_normal ?_
          refine wp_ret ?_
          refine then_ret ?_
          refine ret_with (v := .int .i64 5) ha (results_1 rfl ha (res_tmp (by kernel_rfl) (by kernel_rfl))) ?_
          refine ⟨?_, s⟩
          rw [code_limit hnf]
        · rw [hb] at ha; replace hb : ¬ (((ds.length : Nat) : Int) > (1000 : Int)) := of_decide_eq_false hb
          refine st_val (.int .i64 ((many (tns (ds.take k)) : Nat) : Int)) ha (by kernel_rfl) (by kernel_rfl) ?_
          clear ha; intro a ha
          refine st_val (.bool (decide (((many (tns (ds.take k)) : Nat) : Int) > (10000 : Int)))) ha (by kernel_rfl) (by kernel_rfl) ?_
          clear ha; intro a ha
          refine st_val (.bool (decide (((many (tns (ds.take k)) : Nat) : Int) > (10000 : Int)))) ha (by kernel_rfl) (by kernel_rfl) ?_
          clear ha; intro a ha
          refine wpList_nil ?_
          refine then_normal ?_
          refine wp_part (decide (((many (tns (ds.take k)) : Nat) : Int) > (10000 : Int))) ha rfl (by kernel_rfl) (fun hb => ?_) (fun hb => ?_)
          · rw [hb] at ha; replace hb : (((many (tns (ds.take k)) : Nat) : Int) > (10000 : Int)) := of_decide_eq_true hb
            refine wp_seq ?_
            refine wp_region_lit ?_
            refine st_val (.int .i64 5) ha (by kernel_rfl) (by kernel_rfl) ?_
            clear ha; intro a ha
            refine wpList_nil ?_
            refine then_normal ?_
            refine wp_ret ?_
            refine then_ret ?_
            refine ret_with (v := .int .i64 5) ha (results_1 rfl ha (res_tmp (by kernel_rfl) (by kernel_rfl))) ?_
            refine ⟨?_, s⟩
            rw [code_limit hnf]
          · rw [hb] at ha; replace hb : ¬ (((many (tns (ds.take k)) : Nat) : Int) > (10000 : Int)) := of_decide_eq_false hb
            refine wp_skip ?_
            refine then_normal ?_
            refine wp_seq ?_
            refine wp_seq ?_
            refine wp_region_lit ?_
            refine st_val (.int .i64 0) ha (by kernel_rfl) (by kernel_rfl) ?_
            clear ha; intro a ha
            refine wpList_nil ?_
            refine then_normal ?_
            refine wp_block ?_
            refine wp_loopG (G := Nat) (fun k a w => Has a 110 [(0, .slice (some ad) ds.length ca), (5, .int .i64 ((k : Nat) : Int))] ∧ St W (L) w ∧ (k ≤ ds.length ∧ okL (tns (ds.take k)))) (fun k => ds.length - k) 0 ?_ ?_
            · exact ⟨(Has.cons ha (by kernel_rfl) (by kernel_rfl) (Has.cons ha (by kernel_rfl) (by kernel_rfl) (Has.nil ha))), s, ⟨Nat.zero_le _, by simp [okL, ids]⟩⟩
            · clear ha s; rintro k a w ⟨ha, s, hp⟩
              refine wp_seq ?_
              refine wp_seq ?_
              refine wp_region_lit ?_
              refine st_val (.int .i64 ((k : Nat) : Int)) ha (by kernel_rfl) (by kernel_rfl) ?_
              clear ha; intro a ha
              refine st_val (.slice (some ad) ds.length ca) ha (by kernel_rfl) (by kernel_rfl) ?_
              clear ha; intro a ha
              refine st_val (.int .i64 ((ds.length : Nat) : Int)) ha (by kernel_rfl) (by kernel_rfl) ?_
              clear ha; intro a ha
              refine st_val (.bool (decide (((k : Nat) : Int) < ((ds.length : Nat) : Int)))) ha (by kernel_rfl) (by kernel_rfl) ?_
              clear ha; intro a ha
              refine wpList_nil ?_
              refine then_normal ?_
              refine wp_part (decide (((k : Nat) : Int) < ((ds.length : Nat) : Int))) ha rfl (by kernel_rfl) (fun hb => ?_) (fun hb => ?_)
              · rw [hb] at ha; replace hb : (((k : Nat) : Int) < ((ds.length : Nat) : Int)) := of_decide_eq_true hb
                obtain ⟨d, hd⟩ : ∃ d, ds[k]? = some d := ⟨_, List.getElem?_eq_getElem (by omega)⟩
                have hdl := (hn.row hd).1
                have hok := hp.2
                refine wp_skip ?_
                refine then_normal ?_
                refine wp_seq ?_
                refine wp_block ?_
                refine wp_seq ?_
                refine wp_seq ?_
                refine wp_region_lit ?_
                refine st_val (.slice (some ad) ds.length ca) ha (by kernel_rfl) (by kernel_rfl) ?_
                clear ha; intro a ha
                refine st_val (.int .i64 ((k : Nat) : Int)) ha (by kernel_rfl) (by kernel_rfl) ?_
                clear ha; intro a ha
                refine st_val (.pointer (some (ad.add (k * 4)))) ha (by kernel_rfl) (run_indexAddr' (kd := .i64) (i := ((k : Nat) : Int)) (n := ds.length) (c := ca) k rfl Try.underlying39 Try.sizeOf80 (by kernel_rfl) (by kernel_rfl) rfl (by first | assumption | omega) _) ?_
                clear ha; intro a ha
                refine st_val (.pointer (some (ad.add (k * 4 + 0)))) ha (by kernel_rfl) (run_fieldAddr_at (i := k * 4) (off := 0) rfl Try.underlying80 rfl Try.sizeOf3 (by kernel_rfl) _) ?_
                clear ha; intro a ha
                refine st_val (.int .i64 d.id) ha (by kernel_rfl) (run_loadAt1 (i := k * 4 + 0) ((hr _ s.sat).1) rfl (by kernel_rfl) Try.isAgg3 (by rw [nvs_at hd (by omega)]; rfl)) ?_
                clear ha; intro a ha
                refine st_val (.bool (decide (d.id < (1 : Int)))) ha (by kernel_rfl) (by kernel_rfl) ?_
                clear ha; intro a ha
                refine st_val (.bool (decide (d.id < (1 : Int)))) ha (by kernel_rfl) (by kernel_rfl) ?_
                clear ha; intro a ha
                rcases Bool.eq_false_or_eq_true (decide (d.id < (1 : Int))) with hb | hb
                · rw [hb] at ha; replace hb : (d.id < (1 : Int)) := of_decide_eq_true hb
                  refine st_pass ha (by kernel_rfl) ?_
                  clear ha; intro a ha
                  refine st_pass ha (by kernel_rfl) ?_
                  clear ha; intro a ha
                  refine st_pass ha (by kernel_rfl) ?_
                  clear ha; intro a ha
                  refine st_pass ha (by kernel_rfl) ?_
                  clear ha; intro a ha
                  refine st_pass ha (by kernel_rfl) ?_
                  clear ha; intro a ha
                  refine st_pass ha (by kernel_rfl) ?_
                  clear ha; intro a ha
                  refine st_val (.bool true) ha (by kernel_rfl) (by kernel_rfl) ?_
                  clear ha; intro a ha
                  refine st_val (.bool true) ha (by kernel_rfl) (by kernel_rfl) ?_
                  clear ha; intro a ha
                  refine st_pass ha (by kernel_rfl) ?_
                  clear ha; intro a ha
                  refine st_pass ha (by kernel_rfl) ?_
                  clear ha; intro a ha
                  refine st_pass ha (by kernel_rfl) ?_
                  clear ha; intro a ha
                  refine st_pass ha (by kernel_rfl) ?_
                  clear ha; intro a ha
                  refine st_pass ha (by kernel_rfl) ?_
                  clear ha; intro a ha
                  refine st_pass ha (by kernel_rfl) ?_
                  clear ha; intro a ha
                  refine st_pass ha (by kernel_rfl) ?_
                  clear ha; intro a ha
                  refine st_val (.bool true) ha (by kernel_rfl) (by kernel_rfl) ?_
                  clear ha; intro a ha
                  refine wpList_nil ?_
                  refine then_normal ?_
                  refine wp_true ha rfl (by kernel_rfl) ?_
                  refine wp_seq ?_
                  refine wp_region_lit ?_
                  refine st_val (.int .i64 2) ha (by kernel_rfl) (by kernel_rfl) ?_
                  clear ha; intro a ha
                  refine wpList_nil ?_
                  refine then_normal ?_
                  refine wp_ret ?_
                  refine then_ret ?_
                  refine block_ret ?_
                  refine then_ret ?_
                  refine then_ret ?_
                  refine block_ret ?_
                  refine then_ret ?_
                  refine ret_with (v := .int .i64 2) ha (results_1 rfl ha (res_tmp (by kernel_rfl) (by kernel_rfl))) ?_
                  refine ⟨?_, s⟩
                  rw [code_bad (hfew (by omega) (by omega)) (not_okL hd fun h => ?_)]
                  obtain ⟨⟨h1, h2, h3⟩, h4⟩ := h
                  simp only [Dn.t] at h1 h2 h3
                  first | exact h4 (hb ▸ ids_hit (k := k) hd2 (by omega)) | exact hnst (by unfold okS; omega) | (have h5 := h3 x.t (List.mem_map.2 ⟨x, List.mem_of_getElem? hx, rfl⟩); unfold okT at h5; omega) | omega
                · rw [hb] at ha; replace hb : ¬ (d.id < (1 : Int)) := of_decide_eq_false hb
                  refine st_val (.slice (some ad) ds.length ca) ha (by kernel_rfl) (by kernel_rfl) ?_
                  clear ha; intro a ha
                  refine st_val (.int .i64 ((k : Nat) : Int)) ha (by kernel_rfl) (by kernel_rfl) ?_
                  clear ha; intro a ha
                  refine st_val (.pointer (some (ad.add (k * 4)))) ha (by kernel_rfl) (run_indexAddr' (kd := .i64) (i := ((k : Nat) : Int)) (n := ds.length) (c := ca) k rfl Try.underlying39 Try.sizeOf80 (by kernel_rfl) (by kernel_rfl) rfl (by first | assumption | omega) _) ?_
                  clear ha; intro a ha
                  refine st_val (.pointer (some (ad.add (k * 4 + 0)))) ha (by kernel_rfl) (run_fieldAddr_at (i := k * 4) (off := 0) rfl Try.underlying80 rfl Try.sizeOf3 (by kernel_rfl) _) ?_
                  clear ha; intro a ha
                  refine st_val (.int .i64 d.id) ha (by kernel_rfl) (run_loadAt1 (i := k * 4 + 0) ((hr _ s.sat).1) rfl (by kernel_rfl) Try.isAgg3 (by rw [nvs_at hd (by omega)]; rfl)) ?_
                  clear ha; intro a ha
                  refine st_val (.bool (decide (d.id > (9007199254740991 : Int)))) ha (by kernel_rfl) (by kernel_rfl) ?_
                  clear ha; intro a ha
                  refine st_val (.bool (decide (d.id > (9007199254740991 : Int)))) ha (by kernel_rfl) (by kernel_rfl) ?_
                  clear ha; intro a ha
                  refine st_val (.bool (decide (d.id > (9007199254740991 : Int)))) ha (by kernel_rfl) (by kernel_rfl) ?_
                  clear ha; intro a ha
                  rcases Bool.eq_false_or_eq_true (decide (d.id > (9007199254740991 : Int))) with hb | hb
                  · rw [hb] at ha; replace hb : (d.id > (9007199254740991 : Int)) := of_decide_eq_true hb
                    refine st_pass ha (by kernel_rfl) ?_
                    clear ha; intro a ha
                    refine st_pass ha (by kernel_rfl) ?_
                    clear ha; intro a ha
                    refine st_pass ha (by kernel_rfl) ?_
                    clear ha; intro a ha
                    refine st_pass ha (by kernel_rfl) ?_
                    clear ha; intro a ha
                    refine st_pass ha (by kernel_rfl) ?_
                    clear ha; intro a ha
                    refine st_pass ha (by kernel_rfl) ?_
                    clear ha; intro a ha
                    refine st_pass ha (by kernel_rfl) ?_
                    clear ha; intro a ha
                    refine st_val (.bool true) ha (by kernel_rfl) (by kernel_rfl) ?_
                    clear ha; intro a ha
                    refine wpList_nil ?_
                    refine then_normal ?_
                    refine wp_true ha rfl (by kernel_rfl) ?_
                    refine wp_seq ?_
                    refine wp_region_lit ?_
                    refine st_val (.int .i64 2) ha (by kernel_rfl) (by kernel_rfl) ?_
                    clear ha; intro a ha
                    refine wpList_nil ?_
                    refine then_normal ?_
                    refine wp_ret ?_
                    refine then_ret ?_
                    refine block_ret ?_
                    refine then_ret ?_
                    refine then_ret ?_
                    refine block_ret ?_
                    refine then_ret ?_
                    refine ret_with (v := .int .i64 2) ha (results_1 rfl ha (res_tmp (by kernel_rfl) (by kernel_rfl))) ?_
                    refine ⟨?_, s⟩
                    rw [code_bad (hfew (by omega) (by omega)) (not_okL hd fun h => ?_)]
                    obtain ⟨⟨h1, h2, h3⟩, h4⟩ := h
                    simp only [Dn.t] at h1 h2 h3
                    first | exact h4 (hb ▸ ids_hit (k := k) hd2 (by omega)) | exact hnst (by unfold okS; omega) | (have h5 := h3 x.t (List.mem_map.2 ⟨x, List.mem_of_getElem? hx, rfl⟩); unfold okT at h5; omega) | omega
                  · rw [hb] at ha; replace hb : ¬ (d.id > (9007199254740991 : Int)) := of_decide_eq_false hb
                    refine st_val (.slice (some ad) ds.length ca) ha (by kernel_rfl) (by kernel_rfl) ?_
                    clear ha; intro a ha
                    refine st_val (.int .i64 ((k : Nat) : Int)) ha (by kernel_rfl) (by kernel_rfl) ?_
                    clear ha; intro a ha
                    refine st_val (.pointer (some (ad.add (k * 4)))) ha (by kernel_rfl) (run_indexAddr' (kd := .i64) (i := ((k : Nat) : Int)) (n := ds.length) (c := ca) k rfl Try.underlying39 Try.sizeOf80 (by kernel_rfl) (by kernel_rfl) rfl (by first | assumption | omega) _) ?_
                    clear ha; intro a ha
                    refine st_val (.pointer (some (ad.add (k * 4 + 1)))) ha (by kernel_rfl) (run_fieldAddr_at (i := k * 4) (off := 1) rfl Try.underlying80 rfl Try.sizeOf24 (by kernel_rfl) _) ?_
                    clear ha; intro a ha
                    refine st_val (.agg #[.int .i64 d.wall, .int .i64 d.logic]) ha (by kernel_rfl) (run_loadAtN (i := k * 4 + 1) [.int .i64 d.wall, .int .i64 d.logic] ((hr _ s.sat).1) rfl (by kernel_rfl) Try.isAgg24 Try.sizeOf24 (fun q_ hq_ => by rw [Nat.add_assoc, nvs_at hd (by omega)]; match q_, hq_ with | 0, _ => rfl | 1, _ => rfl) rfl) ?_
                    clear ha; intro a ha
                    refine st_call ha (by kernel_rfl) (by kernel_rfl) (rschk_any W _ w d.wall d.logic s) ?_
                    rintro _ w ⟨rfl, s⟩
                    replace s : St W (L) w := s
                    refine ⟨_, rfl, ?_⟩; clear ha; intro a ha
                    refine st_val (.bool ((codeS d.wall d.logic) != (0 : Int))) ha (by kernel_rfl) (by kernel_rfl) ?_
                    clear ha; intro a ha
                    refine st_val (.bool ((codeS d.wall d.logic) != (0 : Int))) ha (by kernel_rfl) (by kernel_rfl) ?_
                    clear ha; intro a ha
                    refine wpList_nil ?_
                    refine then_normal ?_
                    refine wp_part ((codeS d.wall d.logic) != (0 : Int)) ha rfl (by kernel_rfl) (fun hb => ?_) (fun hb => ?_)
                    · rw [hb] at ha; have hb_ := hb; replace hb := bne_iff_ne.1 hb
                      have hnst : ¬ okS d.wall d.logic := fun h => hb (codeS_zero.2 h)
                      refine wp_seq ?_
                      refine wp_region_lit ?_
                      refine st_val (.int .i64 2) ha (by kernel_rfl) (by kernel_rfl) ?_
                      clear ha; intro a ha
                      refine wpList_nil ?_
                      refine then_normal ?_
                      refine wp_ret ?_
                      refine then_ret ?_
                      refine block_ret ?_
                      refine then_ret ?_
                      refine then_ret ?_
                      refine block_ret ?_
                      refine then_ret ?_
                      refine ret_with (v := .int .i64 2) ha (results_1 rfl ha (res_tmp (by kernel_rfl) (by kernel_rfl))) ?_
                      refine ⟨?_, s⟩
                      rw [code_bad (hfew (by omega) (by omega)) (not_okL hd fun h => ?_)]
                      obtain ⟨⟨h1, h2, h3⟩, h4⟩ := h
                      simp only [Dn.t] at h1 h2 h3
                      first | exact h4 (hb ▸ ids_hit (k := k) hd2 (by omega)) | exact hnst (by unfold okS; omega) | (have h5 := h3 x.t (List.mem_map.2 ⟨x, List.mem_of_getElem? hx, rfl⟩); unfold okT at h5; omega) | omega
                    · rw [hb] at ha; have hb_ := hb; replace hb := bne_eq_false_iff_eq.1 hb
                      replace hb := codeS_zero.1 hb
                      have hst := hb
                      unfold okS at hst
                      refine wp_skip ?_
                      refine then_normal ?_
                      refine wp_seq ?_
                      refine wp_seq ?_
                      refine wp_region_lit ?_
                      refine st_val (.int .i64 0) ha (by kernel_rfl) (by kernel_rfl) ?_
                      clear ha; intro a ha
                      refine wpList_nil ?_
                      refine then_normal ?_
                      refine wp_block ?_
                      refine wp_loopG (G := Nat) (fun j a w => Has a 110 [(0, .slice (some ad) ds.length ca), (5, .int .i64 ((k : Nat) : Int)), (6, .int .i64 ((j : Nat) : Int))] ∧ St W (L) w ∧ (j ≤ k ∧ d.id ∉ ids (tns (ds.take j)))) (fun j => k - j) 0 ?_ ?_
                      · exact ⟨(Has.cons ha (by kernel_rfl) (by kernel_rfl) (Has.cons ha (by kernel_rfl) (by kernel_rfl) (Has.cons ha (by kernel_rfl) (by kernel_rfl) (Has.nil ha)))), s, ⟨Nat.zero_le _, by simp [ids]⟩⟩
                      · clear ha s; rintro j a w ⟨ha, s, hp⟩
                        refine wp_seq ?_
                        refine wp_seq ?_
                        refine wp_region_lit ?_
                        refine st_val (.int .i64 ((j : Nat) : Int)) ha (by kernel_rfl) (by kernel_rfl) ?_
                        clear ha; intro a ha
                        refine st_val (.int .i64 ((k : Nat) : Int)) ha (by kernel_rfl) (by kernel_rfl) ?_
                        clear ha; intro a ha
                        refine st_val (.bool (decide (((j : Nat) : Int) < ((k : Nat) : Int)))) ha (by kernel_rfl) (by kernel_rfl) ?_
                        clear ha; intro a ha
                        refine wpList_nil ?_
                        refine then_normal ?_
                        refine wp_part (decide (((j : Nat) : Int) < ((k : Nat) : Int))) ha rfl (by kernel_rfl) (fun hb => ?_) (fun hb => ?_)
                        · rw [hb] at ha; replace hb : (((j : Nat) : Int) < ((k : Nat) : Int)) := of_decide_eq_true hb
                          obtain ⟨d2, hd2⟩ : ∃ d2, ds[j]? = some d2 := ⟨_, List.getElem?_eq_getElem (by omega)⟩
                          refine wp_skip ?_
                          refine then_normal ?_
                          refine wp_seq ?_
                          refine wp_block ?_
                          refine wp_seq ?_
                          refine wp_region_head 10 (fun w => Reads w 4 (some ad) ds.length (nvs ds) ∧ True) (by kernel_rfl) (by decide) ?_
                          replace s := s.drew; generalize _root_.Go.World.drew _ = w at s ⊢
                          have hS : (fun w => Reads w 4 (some ad) ds.length (nvs ds) ∧ True) w := ⟨(hr _ s.sat).1, trivial⟩
                          refine hd_val (i := 0) (.slice (some ad) ds.length ca) ha rfl (by kernel_rfl) (fun _ _ _ h => h) (by kernel_rfl) (fun w hS => (by kernel_rfl)) hS ?_
                          clear ha; intro a ha
                          refine hd_val (i := 1) (.int .i64 ((j : Nat) : Int)) ha rfl (by kernel_rfl) (fun _ _ _ h => h) (by kernel_rfl) (fun w hS => (by kernel_rfl)) hS ?_
                          clear ha; intro a ha
                          refine hd_val (i := 2) (.pointer (some (ad.add (j * 4)))) ha rfl (by kernel_rfl) (fun _ _ _ h => h) (by kernel_rfl) (fun w hS => (run_indexAddr' (kd := .i64) (i := ((j : Nat) : Int)) (n := ds.length) (c := ca) j rfl Try.underlying39 Try.sizeOf80 (by kernel_rfl) (by kernel_rfl) rfl (by first | assumption | omega) _)) hS ?_
                          clear ha; intro a ha
                          refine hd_val (i := 3) (.pointer (some (ad.add (j * 4 + 0)))) ha rfl (by kernel_rfl) (fun _ _ _ h => h) (by kernel_rfl) (fun w hS => (run_fieldAddr_at (i := j * 4) (off := 0) rfl Try.underlying80 rfl Try.sizeOf3 (by kernel_rfl) _)) hS ?_
                          clear ha; intro a ha
                          refine hd_val (i := 4) (.int .i64 d2.id) ha rfl (by kernel_rfl) (fun _ _ _ h => h) (by kernel_rfl) (fun w hS => run_loadAt1 (i := j * 4 + 0) hS.1 rfl (by kernel_rfl) Try.isAgg3 (by rw [nvs_at hd2 (by omega)]; rfl)) hS ?_
                          clear ha; intro a ha
                          refine hd_val (i := 5) (.slice (some ad) ds.length ca) ha rfl (by kernel_rfl) (fun _ _ _ h => h) (by kernel_rfl) (fun w hS => (by kernel_rfl)) hS ?_
                          clear ha; intro a ha
                          refine hd_val (i := 6) (.int .i64 ((k : Nat) : Int)) ha rfl (by kernel_rfl) (fun _ _ _ h => h) (by kernel_rfl) (fun w hS => (by kernel_rfl)) hS ?_
                          clear ha; intro a ha
                          refine hd_val (i := 7) (.pointer (some (ad.add (k * 4)))) ha rfl (by kernel_rfl) (fun _ _ _ h => h) (by kernel_rfl) (fun w hS => (run_indexAddr' (kd := .i64) (i := ((k : Nat) : Int)) (n := ds.length) (c := ca) k rfl Try.underlying39 Try.sizeOf80 (by kernel_rfl) (by kernel_rfl) rfl (by first | assumption | omega) _)) hS ?_
                          clear ha; intro a ha
                          refine hd_val (i := 8) (.pointer (some (ad.add (k * 4 + 0)))) ha rfl (by kernel_rfl) (fun _ _ _ h => h) (by kernel_rfl) (fun w hS => (run_fieldAddr_at (i := k * 4) (off := 0) rfl Try.underlying80 rfl Try.sizeOf3 (by kernel_rfl) _)) hS ?_
                          clear ha; intro a ha
                          refine hd_val (i := 9) (.int .i64 d.id) ha rfl (by kernel_rfl) (fun _ _ _ h => h) (by kernel_rfl) (fun w hS => run_loadAt1 (i := k * 4 + 0) hS.1 rfl (by kernel_rfl) Try.isAgg3 (by rw [nvs_at hd (by omega)]; rfl)) hS ?_
                          clear ha; intro a ha
                          refine Head.done (by kernel_rfl) ?_
                          clear hS; simp only [List.drop_succ_cons, List.drop_zero]
                          refine st_val (.bool (d2.id == d.id)) ha (by kernel_rfl) (by kernel_rfl) ?_
                          clear ha; intro a ha
                          refine wpList_nil ?_
                          refine then_normal ?_
                          refine wp_part (d2.id == d.id) ha rfl (by kernel_rfl) (fun hb => ?_) (fun hb => ?_)
                          · rw [hb] at ha; have hb_ := hb; replace hb := eq_of_beq hb
                            refine wp_seq ?_
                            refine wp_region_lit ?_
                            refine st_val (.int .i64 2) ha (by kernel_rfl) (by kernel_rfl) ?_
                            clear ha; intro a ha
                            refine wpList_nil ?_
                            refine then_normal ?_
                            refine wp_ret ?_
                            refine block_ret ?_
                            refine then_ret ?_
                            refine then_ret ?_
                            refine block_ret ?_
                            refine then_ret ?_
                            refine block_ret ?_
                            refine then_ret ?_
                            refine then_ret ?_
                            refine block_ret ?_
                            refine then_ret ?_
                            refine ret_with (v := .int .i64 2) ha (results_1 rfl ha (res_tmp (by kernel_rfl) (by kernel_rfl))) ?_
                            refine ⟨?_, s⟩
                            rw [code_bad (hfew (by omega) (by omega)) (not_okL hd fun h => ?_)]
                            obtain ⟨⟨h1, h2, h3⟩, h4⟩ := h
                            simp only [Dn.t] at h1 h2 h3
                            first | exact h4 (hb ▸ ids_hit (k := k) hd2 (by omega)) | exact hnst (by unfold okS; omega) | (have h5 := h3 x.t (List.mem_map.2 ⟨x, List.mem_of_getElem? hx, rfl⟩); unfold okT at h5; omega) | omega
                          · rw [hb] at ha; have hb_ := hb; replace hb := ne_of_beq_false hb
                            refine wp_skip ?_
                            refine block_normal ?_
                            refine then_normal ?_
                            refine wp_region_lit ?_
                            refine st_val (.int .i64 ((j : Nat) : Int)) ha (by kernel_rfl) (by kernel_rfl) ?_
                            clear ha; intro a ha
                            refine st_val (.int .i64 ((j + 1 : Nat) : Int)) ha (by kernel_rfl) (run_arith (((j : Nat) : Int) + (1 : Int)) ((j + 1 : Nat) : Int) rfl (by kernel_rfl) (by kernel_rfl) (.inl ⟨rfl, rfl⟩) (by rw [wrap64_in (by omega)]; try omega) _) ?_
                            clear ha; intro a ha
                            refine st_val (.int .i64 ((j + 1 : Nat) : Int)) ha (by kernel_rfl) (by kernel_rfl) ?_
                            clear ha; intro a ha
                            refine wpList_nil ?_
                            refine then_normal ?_
                            exact ⟨j + 1, by omega, (Has.cons ha (by kernel_rfl) (by kernel_rfl) (Has.cons ha (by kernel_rfl) (by kernel_rfl) (Has.cons ha (by kernel_rfl) (by kernel_rfl) (Has.nil ha)))), s, by omega, by rw [ids_take hd2]; simp only [List.mem_append, List.mem_singleton, not_or]; exact ⟨hp.2, fun e => hb e.symm⟩⟩
                        · rw [hb] at ha; replace hb : ¬ (((j : Nat) : Int) < ((k : Nat) : Int)) := of_decide_eq_false hb
                          have hj : j = k := by omega
                          have hns := hp.2
                          rw [hj] at hns
                          refine wp_exit ?_
                          refine then_exit ?_
                          refine then_exit ?_
                          refine block_hit ?_
                          refine then_normal ?_
                          refine wp_seq ?_
                          refine wp_region_lit ?_
                          refine st_val (.int .i64 0) ha (by kernel_rfl) (by kernel_rfl) ?_
                          clear ha; intro a ha
                          refine wpList_nil ?_
                          refine then_normal ?_
                          refine wp_block ?_
                          refine wp_loopG (G := Nat) (fun j a w => Has a 110 [(0, .slice (some ad) ds.length ca), (5, .int .i64 ((k : Nat) : Int)), (7, .int .i64 ((j : Nat) : Int))] ∧ St W (L) w ∧ (j ≤ d.l.length ∧ ∀ y ∈ d.l.take j, okT y.t)) (fun j => d.l.length - j) 0 ?_ ?_
                          · exact ⟨(Has.cons ha (by kernel_rfl) (by kernel_rfl) (Has.cons ha (by kernel_rfl) (by kernel_rfl) (Has.cons ha (by kernel_rfl) (by kernel_rfl) (Has.nil ha)))), s, ⟨Nat.zero_le _, fun y hy => by simp at hy⟩⟩
                          · clear ha s; rintro j a w ⟨ha, s, hp⟩
                            refine wp_seq ?_
                            refine wp_seq ?_
                            refine wp_region_lit ?_
                            refine st_val (.int .i64 ((j : Nat) : Int)) ha (by kernel_rfl) (by kernel_rfl) ?_
                            clear ha; intro a ha
                            refine st_val (.slice (some ad) ds.length ca) ha (by kernel_rfl) (by kernel_rfl) ?_
                            clear ha; intro a ha
                            refine st_val (.int .i64 ((k : Nat) : Int)) ha (by kernel_rfl) (by kernel_rfl) ?_
                            clear ha; intro a ha
                            refine st_val (.pointer (some (ad.add (k * 4)))) ha (by kernel_rfl) (run_indexAddr' (kd := .i64) (i := ((k : Nat) : Int)) (n := ds.length) (c := ca) k rfl Try.underlying39 Try.sizeOf80 (by kernel_rfl) (by kernel_rfl) rfl (by first | assumption | omega) _) ?_
                            clear ha; intro a ha
                            refine st_val (.pointer (some (ad.add (k * 4 + 3)))) ha (by kernel_rfl) (run_fieldAddr_at (i := k * 4) (off := 3) rfl Try.underlying80 rfl Try.sizeOf78 (by kernel_rfl) _) ?_
                            clear ha; intro a ha
                            refine st_val (.slice d.A d.l.length d.c) ha (by kernel_rfl) (run_loadAt1 (i := k * 4 + 3) ((hr _ s.sat).1) rfl (by kernel_rfl) Try.isAgg78 (by rw [nvs_at hd (by omega)]; rfl)) ?_
                            clear ha; intro a ha
                            refine st_val (.int .i64 ((d.l.length : Nat) : Int)) ha (by kernel_rfl) (by kernel_rfl) ?_
                            clear ha; intro a ha
                            refine st_val (.bool (decide (((j : Nat) : Int) < ((d.l.length : Nat) : Int)))) ha (by kernel_rfl) (by kernel_rfl) ?_
                            clear ha; intro a ha
                            refine wpList_nil ?_
                            refine then_normal ?_
                            refine wp_part (decide (((j : Nat) : Int) < ((d.l.length : Nat) : Int))) ha rfl (by kernel_rfl) (fun hb => ?_) (fun hb => ?_)
                            · rw [hb] at ha; replace hb : (((j : Nat) : Int) < ((d.l.length : Nat) : Int)) := of_decide_eq_true hb
                              obtain ⟨x, hx⟩ : ∃ x, d.l[j]? = some x := ⟨_, List.getElem?_eq_getElem (by omega)⟩
                              obtain ⟨al, hAl⟩ : ∃ al, d.A = some al := Reads.addr ((hr _ s.sat).row hd).1 (by omega)
                              refine wp_skip ?_
                              refine then_normal ?_
                              refine wp_seq ?_
                              refine wp_block ?_
                              refine wp_seq ?_
                              refine wp_region_lit ?_
                              refine st_val (.slice (some ad) ds.length ca) ha (by kernel_rfl) (by kernel_rfl) ?_
                              clear ha; intro a ha
                              refine st_val (.int .i64 ((k : Nat) : Int)) ha (by kernel_rfl) (by kernel_rfl) ?_
                              clear ha; intro a ha
                              refine st_val (.pointer (some (ad.add (k * 4)))) ha (by kernel_rfl) (run_indexAddr' (kd := .i64) (i := ((k : Nat) : Int)) (n := ds.length) (c := ca) k rfl Try.underlying39 Try.sizeOf80 (by kernel_rfl) (by kernel_rfl) rfl (by first | assumption | omega) _) ?_
                              clear ha; intro a ha
                              refine st_val (.pointer (some (ad.add (k * 4 + 3)))) ha (by kernel_rfl) (run_fieldAddr_at (i := k * 4) (off := 3) rfl Try.underlying80 rfl Try.sizeOf78 (by kernel_rfl) _) ?_
                              clear ha; intro a ha
                              refine st_val (.slice d.A d.l.length d.c) ha (by kernel_rfl) (run_loadAt1 (i := k * 4 + 3) ((hr _ s.sat).1) rfl (by kernel_rfl) Try.isAgg78 (by rw [nvs_at hd (by omega)]; rfl)) ?_
                              clear ha; intro a ha
                              refine st_val (.int .i64 ((j : Nat) : Int)) ha (by kernel_rfl) (by kernel_rfl) ?_
                              clear ha; intro a ha
                              refine st_val (.pointer (some (al.add (j * 7)))) ha (by kernel_rfl) (run_indexAddr' (kd := .i64) (i := ((j : Nat) : Int)) (n := d.l.length) (c := d.c) j rfl Try.underlying78 Try.sizeOf81 (by rw [← hAl]; kernel_rfl) (by kernel_rfl) rfl (by first | assumption | omega) _) ?_
                              clear ha; intro a ha
                              refine st_val (.pointer (some (al.add (j * 7 + 0)))) ha (by kernel_rfl) (run_fieldAddr_at (i := j * 7) (off := 0) rfl Try.underlying81 rfl Try.sizeOf3 (by kernel_rfl) _) ?_
                              clear ha; intro a ha
                              refine st_val (.int .i64 x.t.op) ha (by kernel_rfl) (run_loadAt1 (i := j * 7 + 0) ((hAl ▸ ((hr _ s.sat).row hd).1)) rfl (by kernel_rfl) Try.isAgg3 (by rw [dvs_at hx (by omega)]; rfl)) ?_
                              clear ha; intro a ha
                              refine st_val (.bool (decide (x.t.op < (1 : Int)))) ha (by kernel_rfl) (by kernel_rfl) ?_
                              clear ha; intro a ha
                              refine st_val (.bool (decide (x.t.op < (1 : Int)))) ha (by kernel_rfl) (by kernel_rfl) ?_
                              clear ha; intro a ha
                              rcases Bool.eq_false_or_eq_true (decide (x.t.op < (1 : Int))) with hb | hb
                              · rw [hb] at ha; replace hb : (x.t.op < (1 : Int)) := of_decide_eq_true hb
                                refine st_pass ha (by kernel_rfl) ?_
                                clear ha; intro a ha
                                refine st_pass ha (by kernel_rfl) ?_
                                clear ha; intro a ha
                                refine st_pass ha (by kernel_rfl) ?_
                                clear ha; intro a ha
                                refine st_pass ha (by kernel_rfl) ?_
                                clear ha; intro a ha
                                refine st_pass ha (by kernel_rfl) ?_
                                clear ha; intro a ha
                                refine st_pass ha (by kernel_rfl) ?_
                                clear ha; intro a ha
                                refine st_pass ha (by kernel_rfl) ?_
                                clear ha; intro a ha
                                refine st_pass ha (by kernel_rfl) ?_
                                clear ha; intro a ha
                                refine st_pass ha (by kernel_rfl) ?_
                                clear ha; intro a ha
                                refine st_pass ha (by kernel_rfl) ?_
                                clear ha; intro a ha
                                refine st_val (.bool true) ha (by kernel_rfl) (by kernel_rfl) ?_
                                clear ha; intro a ha
                                refine wpList_nil ?_
                                refine then_normal ?_
                                refine wp_true ha rfl (by kernel_rfl) ?_
                                refine wp_seq ?_
                                refine wp_region_lit ?_
                                refine st_val (.int .i64 2) ha (by kernel_rfl) (by kernel_rfl) ?_
                                clear ha; intro a ha
                                refine wpList_nil ?_
                                refine then_normal ?_
                                refine wp_ret ?_
                                refine block_ret ?_
                                refine then_ret ?_
                                refine then_ret ?_
                                refine block_ret ?_
                                refine block_ret ?_
                                refine then_ret ?_
                                refine then_ret ?_
                                refine block_ret ?_
                                refine then_ret ?_
                                refine ret_with (v := .int .i64 2) ha (results_1 rfl ha (res_tmp (by kernel_rfl) (by kernel_rfl))) ?_
                                refine ⟨?_, s⟩
                                rw [code_bad (hfew (by omega) (by omega)) (not_okL hd fun h => ?_)]
                                obtain ⟨⟨h1, h2, h3⟩, h4⟩ := h
                                simp only [Dn.t] at h1 h2 h3
                                first | exact h4 (hb ▸ ids_hit (k := k) hd2 (by omega)) | exact hnst (by unfold okS; omega) | (have h5 := h3 x.t (List.mem_map.2 ⟨x, List.mem_of_getElem? hx, rfl⟩); unfold okT at h5; omega) | omega
                              · rw [hb] at ha; replace hb : ¬ (x.t.op < (1 : Int)) := of_decide_eq_false hb
                                refine st_val (.slice (some ad) ds.length ca) ha (by kernel_rfl) (by kernel_rfl) ?_
                                clear ha; intro a ha
                                refine st_val (.int .i64 ((k : Nat) : Int)) ha (by kernel_rfl) (by kernel_rfl) ?_
                                clear ha; intro a ha
                                refine st_val (.pointer (some (ad.add (k * 4)))) ha (by kernel_rfl) (run_indexAddr' (kd := .i64) (i := ((k : Nat) : Int)) (n := ds.length) (c := ca) k rfl Try.underlying39 Try.sizeOf80 (by kernel_rfl) (by kernel_rfl) rfl (by first | assumption | omega) _) ?_
                                clear ha; intro a ha
                                refine st_val (.pointer (some (ad.add (k * 4 + 3)))) ha (by kernel_rfl) (run_fieldAddr_at (i := k * 4) (off := 3) rfl Try.underlying80 rfl Try.sizeOf78 (by kernel_rfl) _) ?_
                                clear ha; intro a ha
                                refine st_val (.slice d.A d.l.length d.c) ha (by kernel_rfl) (run_loadAt1 (i := k * 4 + 3) ((hr _ s.sat).1) rfl (by kernel_rfl) Try.isAgg78 (by rw [nvs_at hd (by omega)]; rfl)) ?_
                                clear ha; intro a ha
                                refine st_val (.int .i64 ((j : Nat) : Int)) ha (by kernel_rfl) (by kernel_rfl) ?_
                                clear ha; intro a ha
                                refine st_val (.pointer (some (al.add (j * 7)))) ha (by kernel_rfl) (run_indexAddr' (kd := .i64) (i := ((j : Nat) : Int)) (n := d.l.length) (c := d.c) j rfl Try.underlying78 Try.sizeOf81 (by rw [← hAl]; kernel_rfl) (by kernel_rfl) rfl (by first | assumption | omega) _) ?_
                                clear ha; intro a ha
                                refine st_val (.pointer (some (al.add (j * 7 + 0)))) ha (by kernel_rfl) (run_fieldAddr_at (i := j * 7) (off := 0) rfl Try.underlying81 rfl Try.sizeOf3 (by kernel_rfl) _) ?_
                                clear ha; intro a ha
                                refine st_val (.int .i64 x.t.op) ha (by kernel_rfl) (run_loadAt1 (i := j * 7 + 0) ((hAl ▸ ((hr _ s.sat).row hd).1)) rfl (by kernel_rfl) Try.isAgg3 (by rw [dvs_at hx (by omega)]; rfl)) ?_
                                clear ha; intro a ha
                                refine st_val (.bool (decide (x.t.op > (5 : Int)))) ha (by kernel_rfl) (by kernel_rfl) ?_
                                clear ha; intro a ha
                                refine st_val (.bool (decide (x.t.op > (5 : Int)))) ha (by kernel_rfl) (by kernel_rfl) ?_
                                clear ha; intro a ha
                                refine wpList_nil ?_
                                refine then_normal ?_
                                refine wp_part (decide (x.t.op > (5 : Int))) ha rfl (by kernel_rfl) (fun hb => ?_) (fun hb => ?_)
                                · rw [hb] at ha; replace hb : (x.t.op > (5 : Int)) := of_decide_eq_true hb
                                  refine wp_seq ?_
                                  refine wp_region_lit ?_
                                  refine st_val (.int .i64 2) ha (by kernel_rfl) (by kernel_rfl) ?_
                                  clear ha; intro a ha
                                  refine wpList_nil ?_
                                  refine then_normal ?_
                                  refine wp_ret ?_
                                  refine block_ret ?_
                                  refine then_ret ?_
                                  refine then_ret ?_
                                  refine block_ret ?_
                                  refine block_ret ?_
                                  refine then_ret ?_
                                  refine then_ret ?_
                                  refine block_ret ?_
                                  refine then_ret ?_
                                  refine ret_with (v := .int .i64 2) ha (results_1 rfl ha (res_tmp (by kernel_rfl) (by kernel_rfl))) ?_
                                  refine ⟨?_, s⟩
                                  rw [code_bad (hfew (by omega) (by omega)) (not_okL hd fun h => ?_)]
                                  obtain ⟨⟨h1, h2, h3⟩, h4⟩ := h
                                  simp only [Dn.t] at h1 h2 h3
                                  first | exact h4 (hb ▸ ids_hit (k := k) hd2 (by omega)) | exact hnst (by unfold okS; omega) | (have h5 := h3 x.t (List.mem_map.2 ⟨x, List.mem_of_getElem? hx, rfl⟩); unfold okT at h5; omega) | omega
                                · rw [hb] at ha; replace hb : ¬ (x.t.op > (5 : Int)) := of_decide_eq_false hb
                                  refine wp_skip ?_
                                  refine block_normal ?_
                                  refine then_normal ?_
                                  refine wp_region_lit ?_
                                  refine st_val (.int .i64 ((j : Nat) : Int)) ha (by kernel_rfl) (by kernel_rfl) ?_
                                  clear ha; intro a ha
                                  refine st_val (.int .i64 ((j + 1 : Nat) : Int)) ha (by kernel_rfl) (run_arith (((j : Nat) : Int) + (1 : Int)) ((j + 1 : Nat) : Int) rfl (by kernel_rfl) (by kernel_rfl) (.inl ⟨rfl, rfl⟩) (by rw [wrap64_in (by omega)]; try omega) _) ?_
                                  clear ha; intro a ha
                                  refine st_val (.int .i64 ((j + 1 : Nat) : Int)) ha (by kernel_rfl) (by kernel_rfl) ?_
                                  clear ha; intro a ha
                                  refine wpList_nil ?_
                                  refine then_normal ?_
                                  have hokx : okT x.t := by unfold okT; omega
                                  exact ⟨j + 1, by omega, (Has.cons ha (by kernel_rfl) (by kernel_rfl) (Has.cons ha (by kernel_rfl) (by kernel_rfl) (Has.cons ha (by kernel_rfl) (by kernel_rfl) (Has.nil ha)))), s, by omega, fun y hy => by rw [take_snoc hx] at hy; exact (List.mem_append.1 hy).elim (hp.2 y) (fun hy => by rw [List.mem_singleton.1 hy]; exact hokx)⟩
                            · rw [hb] at ha; replace hb : ¬ (((j : Nat) : Int) < ((d.l.length : Nat) : Int)) := of_decide_eq_false hb
                              have hj2 : j = d.l.length := by omega
                              have hall : ∀ y ∈ d.l.map (·.t), okT y := fun y hy => by
                                obtain ⟨z, hz, rfl⟩ := List.mem_map.1 hy
                                exact hp.2 z (by rw [hj2, List.take_length]; exact hz)
                              refine wp_exit ?_
                              refine then_exit ?_
                              refine then_exit ?_
                              refine block_hit ?_
                              refine block_normal ?_
                              refine then_normal ?_
                              refine wp_region_lit ?_
                              refine st_val (.int .i64 ((k : Nat) : Int)) ha (by kernel_rfl) (by kernel_rfl) ?_
                              clear ha; intro a ha
                              refine st_val (.int .i64 ((k + 1 : Nat) : Int)) ha (by kernel_rfl) (run_arith (((k : Nat) : Int) + (1 : Int)) ((k + 1 : Nat) : Int) rfl (by kernel_rfl) (by kernel_rfl) (.inl ⟨rfl, rfl⟩) (by rw [wrap64_in (by omega)]; try omega) _) ?_
                              clear ha; intro a ha
                              refine st_val (.int .i64 ((k + 1 : Nat) : Int)) ha (by kernel_rfl) (by kernel_rfl) ?_
                              clear ha; intro a ha
                              refine wpList_nil ?_
                              refine then_normal ?_
                              exact ⟨k + 1, by omega, (Has.cons ha (by kernel_rfl) (by kernel_rfl) (Has.cons ha (by kernel_rfl) (by kernel_rfl) (Has.nil ha))), s, by omega, okL_next hd hok ⟨by simp only [Dn.t]; omega, by simp only [Dn.t]; exact hst, hall⟩ hns⟩
              · rw [hb] at ha; replace hb : ¬ (((k : Nat) : Int) < ((ds.length : Nat) : Int)) := of_decide_eq_false hb
                have hk : k = ds.length := by omega
                have hok := hp.2
                rw [hk, List.take_length] at hok
                refine wp_exit ?_
                refine then_exit ?_
                refine then_exit ?_
                refine block_hit ?_
                refine then_normal ?_
                refine wp_seq ?_
                refine wp_region_lit ?_
                refine st_val (.int .i64 0) ha (by kernel_rfl) (by kernel_rfl) ?_
                clear ha; intro a ha
                refine wpList_nil ?_
                refine then_normal ?_
                refine wp_ret ?_
                refine ret_with (v := .int .i64 0) ha (results_1 rfl ha (res_tmp (by kernel_rfl) (by kernel_rfl))) ?_
                refine ⟨?_, s⟩
                rw [code_zero.2 ⟨hfew (by omega) (by omega), hok⟩]
    · rw [hb] at ha; replace hb : ¬ (((k : Nat) : Int) < ((ds.length : Nat) : Int)) := of_decide_eq_false hb
      have hk : k = ds.length := by omega
      subst hk
      rw [List.take_length] at ha
      have hnf : ¬ (ds.length ≤ 1000 ∧ many (tns ds) ≤ 10000) → ¬ few (tns ds) := fun h1 h2 => h1 ⟨by have := h2.1; simpa using this, h2.2⟩
      refine st_pass ha (by kernel_rfl) ?_
      clear ha; intro a ha
      refine st_pass ha (by kernel_rfl) ?_
      clear ha; intro a ha
      refine st_val (.bool false) ha (by kernel_rfl) (by kernel_rfl) ?_
      clear ha; intro a ha
      refine wpList_nil ?_
      refine then_normal ?_
      refine wp_false ha rfl (by kernel_rfl) ?_
      refine wp_exit ?_
      refine then_exit ?_
      refine then_exit ?_
      refine block_hit ?_
      refine then_normal ?_
      refine wp_seq ?_
      refine wp_seq ?_
      refine wp_region_lit ?_
      refine st_val (.slice A ds.length ca) ha (by kernel_rfl) (by kernel_rfl) ?_
      clear ha; intro a ha
      refine st_val (.int .i64 ((ds.length : Nat) : Int)) ha (by kernel_rfl) (by kernel_rfl) ?_
      clear ha; intro a ha
      refine st_val (.bool (decide (((ds.length : Nat) : Int) > (1000 : Int)))) ha (by kernel_rfl) (by kernel_rfl) ?_
      clear ha; intro a ha
      refine st_val (.bool (decide (((ds.length : Nat) : Int) > (1000 : Int)))) ha (by kernel_rfl) (by kernel_rfl) ?_
      clear ha; intro a ha
      rcases Bool.eq_false_or_eq_true (decide (((ds.length : Nat) : Int) > (1000 : Int))) with hb | hb
      · rw [hb] at ha; replace hb : (((ds.length : Nat) : Int) > (1000 : Int)) := of_decide_eq_true hb
        refine st_pass ha (by kernel_rfl) ?_
        clear ha; intro a ha
        refine st_pass ha (by kernel_rfl) ?_
        clear ha; intro a ha
        refine st_val (.bool true) ha (by kernel_rfl) (by kernel_rfl) ?_
        clear ha; intro a ha
        refine wpList_nil ?_
        refine then_normal ?_
        refine wp_true ha rfl (by kernel_rfl) ?_
        refine wp_seq ?_
        refine wp_region_lit ?_
        refine st_val (.int .i64 5) ha (by kernel_rfl) (by kernel_rfl) ?_
        clear ha; intro a ha
        refine wpList_nil ?_
        refine then_normal ?_
        refine wp_ret ?_
        refine then_ret ?_
        refine ret_with (v := .int .i64 5) ha (results_1 rfl ha (res_tmp (by kernel_rfl) (by kernel_rfl))) ?_
        refine ⟨?_, s⟩
        rw [code_limit (hnf (by omega))]
      · rw [hb] at ha; replace hb : ¬ (((ds.length : Nat) : Int) > (1000 : Int)) := of_decide_eq_false hb
        refine st_val (.int .i64 ((many (tns ds) : Nat) : Int)) ha (by kernel_rfl) (by kernel_rfl) ?_
        clear ha; intro a ha
        refine st_val (.bool (decide (((many (tns ds) : Nat) : Int) > (10000 : Int)))) ha (by kernel_rfl) (by kernel_rfl) ?_
        clear ha; intro a ha
        refine st_val (.bool (decide (((many (tns ds) : Nat) : Int) > (10000 : Int)))) ha (by kernel_rfl) (by kernel_rfl) ?_
        clear ha; intro a ha
        refine wpList_nil ?_
        refine then_normal ?_
        refine wp_part (decide (((many (tns ds) : Nat) : Int) > (10000 : Int))) ha rfl (by kernel_rfl) (fun hb => ?_) (fun hb => ?_)
        · rw [hb] at ha; replace hb : (((many (tns ds) : Nat) : Int) > (10000 : Int)) := of_decide_eq_true hb
          refine wp_seq ?_
          refine wp_region_lit ?_
          refine st_val (.int .i64 5) ha (by kernel_rfl) (by kernel_rfl) ?_
          clear ha; intro a ha
          refine wpList_nil ?_
          refine then_normal ?_
          refine wp_ret ?_
          refine then_ret ?_
          refine ret_with (v := .int .i64 5) ha (results_1 rfl ha (res_tmp (by kernel_rfl) (by kernel_rfl))) ?_
          refine ⟨?_, s⟩
          rw [code_limit (hnf (by omega))]
        · rw [hb] at ha; replace hb : ¬ (((many (tns ds) : Nat) : Int) > (10000 : Int)) := of_decide_eq_false hb
          refine wp_skip ?_
          refine then_normal ?_
          refine wp_seq ?_
          refine wp_seq ?_
          refine wp_region_lit ?_
          refine st_val (.int .i64 0) ha (by kernel_rfl) (by kernel_rfl) ?_
          clear ha; intro a ha
          refine wpList_nil ?_
          refine then_normal ?_
          refine wp_block ?_
          refine wp_loopG (G := Nat) (fun k a w => Has a 110 [(0, .slice A ds.length ca), (5, .int .i64 ((k : Nat) : Int))] ∧ St W (L) w ∧ (k ≤ ds.length ∧ okL (tns (ds.take k)))) (fun k => ds.length - k) 0 ?_ ?_
          · exact ⟨(Has.cons ha (by kernel_rfl) (by kernel_rfl) (Has.cons ha (by kernel_rfl) (by kernel_rfl) (Has.nil ha))), s, ⟨Nat.zero_le _, by simp [okL, ids]⟩⟩
          · clear ha s; rintro k a w ⟨ha, s, hp⟩
            refine wp_seq ?_
            refine wp_seq ?_
            refine wp_region_lit ?_
            refine st_val (.int .i64 ((k : Nat) : Int)) ha (by kernel_rfl) (by kernel_rfl) ?_
            clear ha; intro a ha
            refine st_val (.slice A ds.length ca) ha (by kernel_rfl) (by kernel_rfl) ?_
            clear ha; intro a ha
            refine st_val (.int .i64 ((ds.length : Nat) : Int)) ha (by kernel_rfl) (by kernel_rfl) ?_
            clear ha; intro a ha
            refine st_val (.bool (decide (((k : Nat) : Int) < ((ds.length : Nat) : Int)))) ha (by kernel_rfl) (by kernel_rfl) ?_
            clear ha; intro a ha
            refine wpList_nil ?_
            refine then_normal ?_
            refine wp_part (decide (((k : Nat) : Int) < ((ds.length : Nat) : Int))) ha rfl (by kernel_rfl) (fun hb => ?_) (fun hb => ?_)
            · rw [hb] at ha; replace hb : (((k : Nat) : Int) < ((ds.length : Nat) : Int)) := of_decide_eq_true hb
              obtain ⟨d, hd⟩ : ∃ d, ds[k]? = some d := ⟨_, List.getElem?_eq_getElem (by omega)⟩
              have hdl := (hn.row hd).1
              obtain ⟨ad, hA⟩ := Reads.addr (hr _ s.sat).1 (by omega)
              subst hA
              have hok := hp.2
              refine wp_skip ?_
              refine then_normal ?_
              refine wp_seq ?_
              refine wp_block ?_
              refine wp_seq ?_
              refine wp_seq ?_
              refine wp_region_lit ?_
              refine st_val (.slice (some ad) ds.length ca) ha (by kernel_rfl) (by kernel_rfl) ?_
              clear ha; intro a ha
              refine st_val (.int .i64 ((k : Nat) : Int)) ha (by kernel_rfl) (by kernel_rfl) ?_
              clear ha; intro a ha
              refine st_val (.pointer (some (ad.add (k * 4)))) ha (by kernel_rfl) (run_indexAddr' (kd := .i64) (i := ((k : Nat) : Int)) (n := ds.length) (c := ca) k rfl Try.underlying39 Try.sizeOf80 (by kernel_rfl) (by kernel_rfl) rfl (by first | assumption | omega) _) ?_
              clear ha; intro a ha
              refine st_val (.pointer (some (ad.add (k * 4 + 0)))) ha (by kernel_rfl) (run_fieldAddr_at (i := k * 4) (off := 0) rfl Try.underlying80 rfl Try.sizeOf3 (by kernel_rfl) _) ?_
              clear ha; intro a ha
              refine st_val (.int .i64 d.id) ha (by kernel_rfl) (run_loadAt1 (i := k * 4 + 0) ((hr _ s.sat).1) rfl (by kernel_rfl) Try.isAgg3 (by rw [nvs_at hd (by omega)]; rfl)) ?_
              clear ha; intro a ha
              refine st_val (.bool (decide (d.id < (1 : Int)))) ha (by kernel_rfl) (by kernel_rfl) ?_
              clear ha; intro a ha
              refine st_val (.bool (decide (d.id < (1 : Int)))) ha (by kernel_rfl) (by kernel_rfl) ?_
              clear ha; intro a ha
              rcases Bool.eq_false_or_eq_true (decide (d.id < (1 : Int))) with hb | hb
              · rw [hb] at ha; replace hb : (d.id < (1 : Int)) := of_decide_eq_true hb
                refine st_pass ha (by kernel_rfl) ?_
                clear ha; intro a ha
                refine st_pass ha (by kernel_rfl) ?_
                clear ha; intro a ha
                refine st_pass ha (by kernel_rfl) ?_
                clear ha; intro a ha
                refine st_pass ha (by kernel_rfl) ?_
                clear ha; intro a ha
                refine st_pass ha (by kernel_rfl) ?_
                clear ha; intro a ha
                refine st_pass ha (by kernel_rfl) ?_
                clear ha; intro a ha
                refine st_val (.bool true) ha (by kernel_rfl) (by kernel_rfl) ?_
                clear ha; intro a ha
                refine st_val (.bool true) ha (by kernel_rfl) (by kernel_rfl) ?_
                clear ha; intro a ha
                refine st_pass ha (by kernel_rfl) ?_
                clear ha; intro a ha
                refine st_pass ha (by kernel_rfl) ?_
                clear ha; intro a ha
                refine st_pass ha (by kernel_rfl) ?_
                clear ha; intro a ha
                refine st_pass ha (by kernel_rfl) ?_
                clear ha; intro a ha
                refine st_pass ha (by kernel_rfl) ?_
                clear ha; intro a ha
                refine st_pass ha (by kernel_rfl) ?_
                clear ha; intro a ha
                refine st_pass ha (by kernel_rfl) ?_
                clear ha; intro a ha
                refine st_val (.bool true) ha (by kernel_rfl) (by kernel_rfl) ?_
                clear ha; intro a ha
                refine wpList_nil ?_
                refine then_normal ?_
                refine wp_true ha rfl (by kernel_rfl) ?_
                refine wp_seq ?_
                refine wp_region_lit ?_
                refine st_val (.int .i64 2) ha (by kernel_rfl) (by kernel_rfl) ?_
                clear ha; intro a ha
                refine wpList_nil ?_
                refine then_normal ?_
                refine wp_ret ?_
                refine then_ret ?_
                refine block_ret ?_
                refine then_ret ?_
                refine then_ret ?_
                refine block_ret ?_
                refine then_ret ?_
                refine ret_with (v := .int .i64 2) ha (results_1 rfl ha (res_tmp (by kernel_rfl) (by kernel_rfl))) ?_
                refine ⟨?_, s⟩
                rw [code_bad (hfew (by omega) (by omega)) (not_okL hd fun h => ?_)]
                obtain ⟨⟨h1, h2, h3⟩, h4⟩ := h
                simp only [Dn.t] at h1 h2 h3
                first | exact h4 (hb ▸ ids_hit (k := k) hd2 (by omega)) | exact hnst (by unfold okS; omega) | (have h5 := h3 x.t (List.mem_map.2 ⟨x, List.mem_of_getElem? hx, rfl⟩); unfold okT at h5; omega) | omega
              · rw [hb] at ha; replace hb : ¬ (d.id < (1 : Int)) := of_decide_eq_false hb
                refine st_val (.slice (some ad) ds.length ca) ha (by kernel_rfl) (by kernel_rfl) ?_
                clear ha; intro a ha
                refine st_val (.int .i64 ((k : Nat) : Int)) ha (by kernel_rfl) (by kernel_rfl) ?_
                clear ha; intro a ha
                refine st_val (.pointer (some (ad.add (k * 4)))) ha (by kernel_rfl) (run_indexAddr' (kd := .i64) (i := ((k : Nat) : Int)) (n := ds.length) (c := ca) k rfl Try.underlying39 Try.sizeOf80 (by kernel_rfl) (by kernel_rfl) rfl (by first | assumption | omega) _) ?_
                clear ha; intro a ha
                refine st_val (.pointer (some (ad.add (k * 4 + 0)))) ha (by kernel_rfl) (run_fieldAddr_at (i := k * 4) (off := 0) rfl Try.underlying80 rfl Try.sizeOf3 (by kernel_rfl) _) ?_
                clear ha; intro a ha
                refine st_val (.int .i64 d.id) ha (by kernel_rfl) (run_loadAt1 (i := k * 4 + 0) ((hr _ s.sat).1) rfl (by kernel_rfl) Try.isAgg3 (by rw [nvs_at hd (by omega)]; rfl)) ?_
                clear ha; intro a ha
                refine st_val (.bool (decide (d.id > (9007199254740991 : Int)))) ha (by kernel_rfl) (by kernel_rfl) ?_
                clear ha; intro a ha
                refine st_val (.bool (decide (d.id > (9007199254740991 : Int)))) ha (by kernel_rfl) (by kernel_rfl) ?_
                clear ha; intro a ha
                refine st_val (.bool (decide (d.id > (9007199254740991 : Int)))) ha (by kernel_rfl) (by kernel_rfl) ?_
                clear ha; intro a ha
                rcases Bool.eq_false_or_eq_true (decide (d.id > (9007199254740991 : Int))) with hb | hb
                · rw [hb] at ha; replace hb : (d.id > (9007199254740991 : Int)) := of_decide_eq_true hb
                  refine st_pass ha (by kernel_rfl) ?_
                  clear ha; intro a ha
                  refine st_pass ha (by kernel_rfl) ?_
                  clear ha; intro a ha
                  refine st_pass ha (by kernel_rfl) ?_
                  clear ha; intro a ha
                  refine st_pass ha (by kernel_rfl) ?_
                  clear ha; intro a ha
                  refine st_pass ha (by kernel_rfl) ?_
                  clear ha; intro a ha
                  refine st_pass ha (by kernel_rfl) ?_
                  clear ha; intro a ha
                  refine st_pass ha (by kernel_rfl) ?_
                  clear ha; intro a ha
                  refine st_val (.bool true) ha (by kernel_rfl) (by kernel_rfl) ?_
                  clear ha; intro a ha
                  refine wpList_nil ?_
                  refine then_normal ?_
                  refine wp_true ha rfl (by kernel_rfl) ?_
                  refine wp_seq ?_
                  refine wp_region_lit ?_
                  refine st_val (.int .i64 2) ha (by kernel_rfl) (by kernel_rfl) ?_
                  clear ha; intro a ha
                  refine wpList_nil ?_
                  refine then_normal ?_
                  refine wp_ret ?_
                  refine then_ret ?_
                  refine block_ret ?_
                  refine then_ret ?_
                  refine then_ret ?_
                  refine block_ret ?_
                  refine then_ret ?_
                  refine ret_with (v := .int .i64 2) ha (results_1 rfl ha (res_tmp (by kernel_rfl) (by kernel_rfl))) ?_
                  refine ⟨?_, s⟩
                  rw [code_bad (hfew (by omega) (by omega)) (not_okL hd fun h => ?_)]
                  obtain ⟨⟨h1, h2, h3⟩, h4⟩ := h
                  simp only [Dn.t] at h1 h2 h3
                  first | exact h4 (hb ▸ ids_hit (k := k) hd2 (by omega)) | exact hnst (by unfold okS; omega) | (have h5 := h3 x.t (List.mem_map.2 ⟨x, List.mem_of_getElem? hx, rfl⟩); unfold okT at h5; omega) | omega
                · rw [hb] at ha; replace hb : ¬ (d.id > (9007199254740991 : Int)) := of_decide_eq_false hb
                  refine st_val (.slice (some ad) ds.length ca) ha (by kernel_rfl) (by kernel_rfl) ?_
                  clear ha; intro a ha
                  refine st_val (.int .i64 ((k : Nat) : Int)) ha (by kernel_rfl) (by kernel_rfl) ?_
                  clear ha; intro a ha
                  refine st_val (.pointer (some (ad.add (k * 4)))) ha (by kernel_rfl) (run_indexAddr' (kd := .i64) (i := ((k : Nat) : Int)) (n := ds.length) (c := ca) k rfl Try.underlying39 Try.sizeOf80 (by kernel_rfl) (by kernel_rfl) rfl (by first | assumption | omega) _) ?_
                  clear ha; intro a ha
                  refine st_val (.pointer (some (ad.add (k * 4 + 1)))) ha (by kernel_rfl) (run_fieldAddr_at (i := k * 4) (off := 1) rfl Try.underlying80 rfl Try.sizeOf24 (by kernel_rfl) _) ?_
                  clear ha; intro a ha
                  refine st_val (.agg #[.int .i64 d.wall, .int .i64 d.logic]) ha (by kernel_rfl) (run_loadAtN (i := k * 4 + 1) [.int .i64 d.wall, .int .i64 d.logic] ((hr _ s.sat).1) rfl (by kernel_rfl) Try.isAgg24 Try.sizeOf24 (fun q_ hq_ => by rw [Nat.add_assoc, nvs_at hd (by omega)]; match q_, hq_ with | 0, _ => rfl | 1, _ => rfl) rfl) ?_
                  clear ha; intro a ha
                  refine st_call ha (by kernel_rfl) (by kernel_rfl) (rschk_any W _ w d.wall d.logic s) ?_
                  rintro _ w ⟨rfl, s⟩
                  replace s : St W (L) w := s
                  refine ⟨_, rfl, ?_⟩; clear ha; intro a ha
                  refine st_val (.bool ((codeS d.wall d.logic) != (0 : Int))) ha (by kernel_rfl) (by kernel_rfl) ?_
                  clear ha; intro a ha
                  refine st_val (.bool ((codeS d.wall d.logic) != (0 : Int))) ha (by kernel_rfl) (by kernel_rfl) ?_
                  clear ha; intro a ha
                  refine wpList_nil ?_
                  refine then_normal ?_
                  refine wp_part ((codeS d.wall d.logic) != (0 : Int)) ha rfl (by kernel_rfl) (fun hb => ?_) (fun hb => ?_)
                  · rw [hb] at ha; have hb_ := hb; replace hb := bne_iff_ne.1 hb
                    have hnst : ¬ okS d.wall d.logic := fun h => hb (codeS_zero.2 h)
                    refine wp_seq ?_
                    refine wp_region_lit ?_
                    refine st_val (.int .i64 2) ha (by kernel_rfl) (by kernel_rfl) ?_
                    clear ha; intro a ha
                    refine wpList_nil ?_
                    refine then_normal ?_
                    refine wp_ret ?_
                    refine then_ret ?_
                    refine block_ret ?_
                    refine then_ret ?_
                    refine then_ret ?_
                    refine block_ret ?_
                    refine then_ret ?_
                    refine ret_with (v := .int .i64 2) ha (results_1 rfl ha (res_tmp (by kernel_rfl) (by kernel_rfl))) ?_
                    refine ⟨?_, s⟩
                    rw [code_bad (hfew (by omega) (by omega)) (not_okL hd fun h => ?_)]
                    obtain ⟨⟨h1, h2, h3⟩, h4⟩ := h
                    simp only [Dn.t] at h1 h2 h3
                    first | exact h4 (hb ▸ ids_hit (k := k) hd2 (by omega)) | exact hnst (by unfold okS; omega) | (have h5 := h3 x.t (List.mem_map.2 ⟨x, List.mem_of_getElem? hx, rfl⟩); unfold okT at h5; omega) | omega
                  · rw [hb] at ha; have hb_ := hb; replace hb := bne_eq_false_iff_eq.1 hb
                    replace hb := codeS_zero.1 hb
                    have hst := hb
                    unfold okS at hst
                    refine wp_skip ?_
                    refine then_normal ?_
                    refine wp_seq ?_
                    refine wp_seq ?_
                    refine wp_region_lit ?_
                    refine st_val (.int .i64 0) ha (by kernel_rfl) (by kernel_rfl) ?_
                    clear ha; intro a ha
                    refine wpList_nil ?_
                    refine then_normal ?_
                    refine wp_block ?_
                    refine wp_loopG (G := Nat) (fun j a w => Has a 110 [(0, .slice (some ad) ds.length ca), (5, .int .i64 ((k : Nat) : Int)), (6, .int .i64 ((j : Nat) : Int))] ∧ St W (L) w ∧ (j ≤ k ∧ d.id ∉ ids (tns (ds.take j)))) (fun j => k - j) 0 ?_ ?_
                    · exact ⟨(Has.cons ha (by kernel_rfl) (by kernel_rfl) (Has.cons ha (by kernel_rfl) (by kernel_rfl) (Has.cons ha (by kernel_rfl) (by kernel_rfl) (Has.nil ha)))), s, ⟨Nat.zero_le _, by simp [ids]⟩⟩
                    · clear ha s; rintro j a w ⟨ha, s, hp⟩
                      refine wp_seq ?_
                      refine wp_seq ?_
                      refine wp_region_lit ?_
                      refine st_val (.int .i64 ((j : Nat) : Int)) ha (by kernel_rfl) (by kernel_rfl) ?_
                      clear ha; intro a ha
                      refine st_val (.int .i64 ((k : Nat) : Int)) ha (by kernel_rfl) (by kernel_rfl) ?_
                      clear ha; intro a ha
                      refine st_val (.bool (decide (((j : Nat) : Int) < ((k : Nat) : Int)))) ha (by kernel_rfl) (by kernel_rfl) ?_
                      clear ha; intro a ha
                      refine wpList_nil ?_
                      refine then_normal ?_
                      refine wp_part (decide (((j : Nat) : Int) < ((k : Nat) : Int))) ha rfl (by kernel_rfl) (fun hb => ?_) (fun hb => ?_)
                      · rw [hb] at ha; replace hb : (((j : Nat) : Int) < ((k : Nat) : Int)) := of_decide_eq_true hb
                        obtain ⟨d2, hd2⟩ : ∃ d2, ds[j]? = some d2 := ⟨_, List.getElem?_eq_getElem (by omega)⟩
                        refine wp_skip ?_
                        refine then_normal ?_
                        refine wp_seq ?_
                        refine wp_block ?_
                        refine wp_seq ?_
                        refine wp_region_head 10 (fun w => Reads w 4 (some ad) ds.length (nvs ds) ∧ True) (by kernel_rfl) (by decide) ?_
                        replace s := s.drew; generalize _root_.Go.World.drew _ = w at s ⊢
                        have hS : (fun w => Reads w 4 (some ad) ds.length (nvs ds) ∧ True) w := ⟨(hr _ s.sat).1, trivial⟩
                        refine hd_val (i := 0) (.slice (some ad) ds.length ca) ha rfl (by kernel_rfl) (fun _ _ _ h => h) (by kernel_rfl) (fun w hS => (by kernel_rfl)) hS ?_
                        clear ha; intro a ha
                        refine hd_val (i := 1) (.int .i64 ((j : Nat) : Int)) ha rfl (by kernel_rfl) (fun _ _ _ h => h) (by kernel_rfl) (fun w hS => (by kernel_rfl)) hS ?_
                        clear ha; intro a ha
                        refine hd_val (i := 2) (.pointer (some (ad.add (j * 4)))) ha rfl (by kernel_rfl) (fun _ _ _ h => h) (by kernel_rfl) (fun w hS => (run_indexAddr' (kd := .i64) (i := ((j : Nat) : Int)) (n := ds.length) (c := ca) j rfl Try.underlying39 Try.sizeOf80 (by kernel_rfl) (by kernel_rfl) rfl (by first | assumption | omega) _)) hS ?_
                        clear ha; intro a ha
                        refine hd_val (i := 3) (.pointer (some (ad.add (j * 4 + 0)))) ha rfl (by kernel_rfl) (fun _ _ _ h => h) (by kernel_rfl) (fun w hS => (run_fieldAddr_at (i := j * 4) (off := 0) rfl Try.underlying80 rfl Try.sizeOf3 (by kernel_rfl) _)) hS ?_
                        clear ha; intro a ha
                        refine hd_val (i := 4) (.int .i64 d2.id) ha rfl (by kernel_rfl) (fun _ _ _ h => h) (by kernel_rfl) (fun w hS => run_loadAt1 (i := j * 4 + 0) hS.1 rfl (by kernel_rfl) Try.isAgg3 (by rw [nvs_at hd2 (by omega)]; rfl)) hS ?_
                        clear ha; intro a ha
                        refine hd_val (i := 5) (.slice (some ad) ds.length ca) ha rfl (by kernel_rfl) (fun _ _ _ h => h) (by kernel_rfl) (fun w hS => (by kernel_rfl)) hS ?_
                        clear ha; intro a ha
                        refine hd_val (i := 6) (.int .i64 ((k : Nat) : Int)) ha rfl (by kernel_rfl) (fun _ _ _ h => h) (by kernel_rfl) (fun w hS => (by kernel_rfl)) hS ?_
                        clear ha; intro a ha
                        refine hd_val (i := 7) (.pointer (some (ad.add (k * 4)))) ha rfl (by kernel_rfl) (fun _ _ _ h => h) (by kernel_rfl) (fun w hS => (run_indexAddr' (kd := .i64) (i := ((k : Nat) : Int)) (n := ds.length) (c := ca) k rfl Try.underlying39 Try.sizeOf80 (by kernel_rfl) (by kernel_rfl) rfl (by first | assumption | omega) _)) hS ?_
                        clear ha; intro a ha
                        refine hd_val (i := 8) (.pointer (some (ad.add (k * 4 + 0)))) ha rfl (by kernel_rfl) (fun _ _ _ h => h) (by kernel_rfl) (fun w hS => (run_fieldAddr_at (i := k * 4) (off := 0) rfl Try.underlying80 rfl Try.sizeOf3 (by kernel_rfl) _)) hS ?_
                        clear ha; intro a ha
                        refine hd_val (i := 9) (.int .i64 d.id) ha rfl (by kernel_rfl) (fun _ _ _ h => h) (by kernel_rfl) (fun w hS => run_loadAt1 (i := k * 4 + 0) hS.1 rfl (by kernel_rfl) Try.isAgg3 (by rw [nvs_at hd (by omega)]; rfl)) hS ?_
                        clear ha; intro a ha
                        refine Head.done (by kernel_rfl) ?_
                        clear hS; simp only [List.drop_succ_cons, List.drop_zero]
                        refine st_val (.bool (d2.id == d.id)) ha (by kernel_rfl) (by kernel_rfl) ?_
                        clear ha; intro a ha
                        refine wpList_nil ?_
                        refine then_normal ?_
                        refine wp_part (d2.id == d.id) ha rfl (by kernel_rfl) (fun hb => ?_) (fun hb => ?_)
                        · rw [hb] at ha; have hb_ := hb; replace hb := eq_of_beq hb
                          refine wp_seq ?_
                          refine wp_region_lit ?_
                          refine st_val (.int .i64 2) ha (by kernel_rfl) (by kernel_rfl) ?_
                          clear ha; intro a ha
                          refine wpList_nil ?_
                          refine then_normal ?_
                          refine wp_ret ?_
                          refine block_ret ?_
                          refine then_ret ?_
                          refine then_ret ?_
                          refine block_ret ?_
                          refine then_ret ?_
                          refine block_ret ?_
                          refine then_ret ?_
                          refine then_ret ?_
                          refine block_ret ?_
                          refine then_ret ?_
                          refine ret_with (v := .int .i64 2) ha (results_1 rfl ha (res_tmp (by kernel_rfl) (by kernel_rfl))) ?_
                          refine ⟨?_, s⟩
                          rw [code_bad (hfew (by omega) (by omega)) (not_okL hd fun h => ?_)]
                          obtain ⟨⟨h1, h2, h3⟩, h4⟩ := h
                          simp only [Dn.t] at h1 h2 h3
                          first | exact h4 (hb ▸ ids_hit (k := k) hd2 (by omega)) | exact hnst (by unfold okS; omega) | (have h5 := h3 x.t (List.mem_map.2 ⟨x, List.mem_of_getElem? hx, rfl⟩); unfold okT at h5; omega) | omega
                        · rw [hb] at ha; have hb_ := hb; replace hb := ne_of_beq_false hb
                          refine wp_skip ?_
                          refine block_normal ?_
                          refine then_normal ?_
                          refine wp_region_lit ?_
                          refine st_val (.int .i64 ((j : Nat) : Int)) ha (by kernel_rfl) (by kernel_rfl) ?_
                          clear ha; intro a ha
                          refine st_val (.int .i64 ((j + 1 : Nat) : Int)) ha (by kernel_rfl) (run_arith (((j : Nat) : Int) + (1 : Int)) ((j + 1 : Nat) : Int) rfl (by kernel_rfl) (by kernel_rfl) (.inl ⟨rfl, rfl⟩) (by rw [wrap64_in (by omega)]; try omega) _) ?_
                          clear ha; intro a ha
                          refine st_val (.int .i64 ((j + 1 : Nat) : Int)) ha (by kernel_rfl) (by kernel_rfl) ?_
                          clear ha; intro a ha
                          refine wpList_nil ?_
                          refine then_normal ?_
                          exact ⟨j + 1, by omega, (Has.cons ha (by kernel_rfl) (by kernel_rfl) (Has.cons ha (by kernel_rfl) (by kernel_rfl) (Has.cons ha (by kernel_rfl) (by kernel_rfl) (Has.nil ha)))), s, by omega, by rw [ids_take hd2]; simp only [List.mem_append, List.mem_singleton, not_or]; exact ⟨hp.2, fun e => hb e.symm⟩⟩
                      · rw [hb] at ha; replace hb : ¬ (((j : Nat) : Int) < ((k : Nat) : Int)) := of_decide_eq_false hb
                        have hj : j = k := by omega
                        have hns := hp.2
                        rw [hj] at hns
                        refine wp_exit ?_
                        refine then_exit ?_
                        refine then_exit ?_
                        refine block_hit ?_
                        refine then_normal ?_
                        refine wp_seq ?_
                        refine wp_region_lit ?_
                        refine st_val (.int .i64 0) ha (by kernel_rfl) (by kernel_rfl) ?_
                        clear ha; intro a ha
                        refine wpList_nil ?_
                        refine then_normal ?_
                        refine wp_block ?_
                        refine wp_loopG (G := Nat) (fun j a w => Has a 110 [(0, .slice (some ad) ds.length ca), (5, .int .i64 ((k : Nat) : Int)), (7, .int .i64 ((j : Nat) : Int))] ∧ St W (L) w ∧ (j ≤ d.l.length ∧ ∀ y ∈ d.l.take j, okT y.t)) (fun j => d.l.length - j) 0 ?_ ?_
                        · exact ⟨(Has.cons ha (by kernel_rfl) (by kernel_rfl) (Has.cons ha (by kernel_rfl) (by kernel_rfl) (Has.cons ha (by kernel_rfl) (by kernel_rfl) (Has.nil ha)))), s, ⟨Nat.zero_le _, fun y hy => by simp at hy⟩⟩
                        · clear ha s; rintro j a w ⟨ha, s, hp⟩
                          refine wp_seq ?_
                          refine wp_seq ?_
                          refine wp_region_lit ?_
                          refine st_val (.int .i64 ((j : Nat) : Int)) ha (by kernel_rfl) (by kernel_rfl) ?_
                          clear ha; intro a ha
                          refine st_val (.slice (some ad) ds.length ca) ha (by kernel_rfl) (by kernel_rfl) ?_
                          clear ha; intro a ha
                          refine st_val (.int .i64 ((k : Nat) : Int)) ha (by kernel_rfl) (by kernel_rfl) ?_
                          clear ha; intro a ha
                          refine st_val (.pointer (some (ad.add (k * 4)))) ha (by kernel_rfl) (run_indexAddr' (kd := .i64) (i := ((k : Nat) : Int)) (n := ds.length) (c := ca) k rfl Try.underlying39 Try.sizeOf80 (by kernel_rfl) (by kernel_rfl) rfl (by first | assumption | omega) _) ?_
                          clear ha; intro a ha
                          refine st_val (.pointer (some (ad.add (k * 4 + 3)))) ha (by kernel_rfl) (run_fieldAddr_at (i := k * 4) (off := 3) rfl Try.underlying80 rfl Try.sizeOf78 (by kernel_rfl) _) ?_
                          clear ha; intro a ha
                          refine st_val (.slice d.A d.l.length d.c) ha (by kernel_rfl) (run_loadAt1 (i := k * 4 + 3) ((hr _ s.sat).1) rfl (by kernel_rfl) Try.isAgg78 (by rw [nvs_at hd (by omega)]; rfl)) ?_
                          clear ha; intro a ha
                          refine st_val (.int .i64 ((d.l.length : Nat) : Int)) ha (by kernel_rfl) (by kernel_rfl) ?_
                          clear ha; intro a ha
                          refine st_val (.bool (decide (((j : Nat) : Int) < ((d.l.length : Nat) : Int)))) ha (by kernel_rfl) (by kernel_rfl) ?_
                          clear ha; intro a ha
                          refine wpList_nil ?_
                          refine then_normal ?_
                          refine wp_part (decide (((j : Nat) : Int) < ((d.l.length : Nat) : Int))) ha rfl (by kernel_rfl) (fun hb => ?_) (fun hb => ?_)
                          · rw [hb] at ha; replace hb : (((j : Nat) : Int) < ((d.l.length : Nat) : Int)) := of_decide_eq_true hb
                            obtain ⟨x, hx⟩ : ∃ x, d.l[j]? = some x := ⟨_, List.getElem?_eq_getElem (by omega)⟩
                            obtain ⟨al, hAl⟩ : ∃ al, d.A = some al := Reads.addr ((hr _ s.sat).row hd).1 (by omega)
                            refine wp_skip ?_
                            refine then_normal ?_
                            refine wp_seq ?_
                            refine wp_block ?_
                            refine wp_seq ?_
                            refine wp_region_lit ?_
                            refine st_val (.slice (some ad) ds.length ca) ha (by kernel_rfl) (by kernel_rfl) ?_
                            clear ha; intro a ha
                            refine st_val (.int .i64 ((k : Nat) : Int)) ha (by kernel_rfl) (by kernel_rfl) ?_
                            clear ha; intro a ha
                            refine st_val (.pointer (some (ad.add (k * 4)))) ha (by kernel_rfl) (run_indexAddr' (kd := .i64) (i := ((k : Nat) : Int)) (n := ds.length) (c := ca) k rfl Try.underlying39 Try.sizeOf80 (by kernel_rfl) (by kernel_rfl) rfl (by first | assumption | omega) _) ?_
                            clear ha; intro a ha
                            refine st_val (.pointer (some (ad.add (k * 4 + 3)))) ha (by kernel_rfl) (run_fieldAddr_at (i := k * 4) (off := 3) rfl Try.underlying80 rfl Try.sizeOf78 (by kernel_rfl) _) ?_
                            clear ha; intro a ha
                            refine st_val (.slice d.A d.l.length d.c) ha (by kernel_rfl) (run_loadAt1 (i := k * 4 + 3) ((hr _ s.sat).1) rfl (by kernel_rfl) Try.isAgg78 (by rw [nvs_at hd (by omega)]; rfl)) ?_
                            clear ha; intro a ha
                            refine st_val (.int .i64 ((j : Nat) : Int)) ha (by kernel_rfl) (by kernel_rfl) ?_
                            clear ha; intro a ha
                            refine st_val (.pointer (some (al.add (j * 7)))) ha (by kernel_rfl) (run_indexAddr' (kd := .i64) (i := ((j : Nat) : Int)) (n := d.l.length) (c := d.c) j rfl Try.underlying78 Try.sizeOf81 (by rw [← hAl]; kernel_rfl) (by kernel_rfl) rfl (by first | assumption | omega) _) ?_
                            clear ha; intro a ha
                            refine st_val (.pointer (some (al.add (j * 7 + 0)))) ha (by kernel_rfl) (run_fieldAddr_at (i := j * 7) (off := 0) rfl Try.underlying81 rfl Try.sizeOf3 (by kernel_rfl) _) ?_
                            clear ha; intro a ha
                            refine st_val (.int .i64 x.t.op) ha (by kernel_rfl) (run_loadAt1 (i := j * 7 + 0) ((hAl ▸ ((hr _ s.sat).row hd).1)) rfl (by kernel_rfl) Try.isAgg3 (by rw [dvs_at hx (by omega)]; rfl)) ?_
                            clear ha; intro a ha
                            refine st_val (.bool (decide (x.t.op < (1 : Int)))) ha (by kernel_rfl) (by kernel_rfl) ?_
                            clear ha; intro a ha
                            refine st_val (.bool (decide (x.t.op < (1 : Int)))) ha (by kernel_rfl) (by kernel_rfl) ?_
                            clear ha; intro a ha
                            rcases Bool.eq_false_or_eq_true (decide (x.t.op < (1 : Int))) with hb | hb
                            · rw [hb] at ha; replace hb : (x.t.op < (1 : Int)) := of_decide_eq_true hb
                              refine st_pass ha (by kernel_rfl) ?_
                              clear ha; intro a ha
                              refine st_pass ha (by kernel_rfl) ?_
                              clear ha; intro a ha
                              refine st_pass ha (by kernel_rfl) ?_
                              clear ha; intro a ha
                              refine st_pass ha (by kernel_rfl) ?_
                              clear ha; intro a ha
                              refine st_pass ha (by kernel_rfl) ?_
                              clear ha; intro a ha
                              refine st_pass ha (by kernel_rfl) ?_
                              clear ha; intro a ha
                              refine st_pass ha (by kernel_rfl) ?_
                              clear ha; intro a ha
                              refine st_pass ha (by kernel_rfl) ?_
                              clear ha; intro a ha
                              refine st_pass ha (by kernel_rfl) ?_
                              clear ha; intro a ha
                              refine st_pass ha (by kernel_rfl) ?_
                              clear ha; intro a ha
                              refine st_val (.bool true) ha (by kernel_rfl) (by kernel_rfl) ?_
                              clear ha; intro a ha
                              refine wpList_nil ?_
                              refine then_normal ?_
                              refine wp_true ha rfl (by kernel_rfl) ?_
                              refine wp_seq ?_
                              refine wp_region_lit ?_
                              refine st_val (.int .i64 2) ha (by kernel_rfl) (by kernel_rfl) ?_
                              clear ha; intro a ha
                              refine wpList_nil ?_
                              refine then_normal ?_
                              refine wp_ret ?_
                              refine block_ret ?_
                              refine then_ret ?_
                              refine then_ret ?_
                              refine block_ret ?_
                              refine block_ret ?_
                              refine then_ret ?_
                              refine then_ret ?_
                              refine block_ret ?_
                              refine then_ret ?_
                              refine ret_with (v := .int .i64 2) ha (results_1 rfl ha (res_tmp (by kernel_rfl) (by kernel_rfl))) ?_
                              refine ⟨?_, s⟩
                              rw [code_bad (hfew (by omega) (by omega)) (not_okL hd fun h => ?_)]
                              obtain ⟨⟨h1, h2, h3⟩, h4⟩ := h
                              simp only [Dn.t] at h1 h2 h3
                              first | exact h4 (hb ▸ ids_hit (k := k) hd2 (by omega)) | exact hnst (by unfold okS; omega) | (have h5 := h3 x.t (List.mem_map.2 ⟨x, List.mem_of_getElem? hx, rfl⟩); unfold okT at h5; omega) | omega
                            · rw [hb] at ha; replace hb : ¬ (x.t.op < (1 : Int)) := of_decide_eq_false hb
                              refine st_val (.slice (some ad) ds.length ca) ha (by kernel_rfl) (by kernel_rfl) ?_
                              clear ha; intro a ha
                              refine st_val (.int .i64 ((k : Nat) : Int)) ha (by kernel_rfl) (by kernel_rfl) ?_
                              clear ha; intro a ha
                              refine st_val (.pointer (some (ad.add (k * 4)))) ha (by kernel_rfl) (run_indexAddr' (kd := .i64) (i := ((k : Nat) : Int)) (n := ds.length) (c := ca) k rfl Try.underlying39 Try.sizeOf80 (by kernel_rfl) (by kernel_rfl) rfl (by first | assumption | omega) _) ?_
                              clear ha; intro a ha
                              refine st_val (.pointer (some (ad.add (k * 4 + 3)))) ha (by kernel_rfl) (run_fieldAddr_at (i := k * 4) (off := 3) rfl Try.underlying80 rfl Try.sizeOf78 (by kernel_rfl) _) ?_
                              clear ha; intro a ha
                              refine st_val (.slice d.A d.l.length d.c) ha (by kernel_rfl) (run_loadAt1 (i := k * 4 + 3) ((hr _ s.sat).1) rfl (by kernel_rfl) Try.isAgg78 (by rw [nvs_at hd (by omega)]; rfl)) ?_
                              clear ha; intro a ha
                              refine st_val (.int .i64 ((j : Nat) : Int)) ha (by kernel_rfl) (by kernel_rfl) ?_
                              clear ha; intro a ha
                              refine st_val (.pointer (some (al.add (j * 7)))) ha (by kernel_rfl) (run_indexAddr' (kd := .i64) (i := ((j : Nat) : Int)) (n := d.l.length) (c := d.c) j rfl Try.underlying78 Try.sizeOf81 (by rw [← hAl]; kernel_rfl) (by kernel_rfl) rfl (by first | assumption | omega) _) ?_
                              clear ha; intro a ha
                              refine st_val (.pointer (some (al.add (j * 7 + 0)))) ha (by kernel_rfl) (run_fieldAddr_at (i := j * 7) (off := 0) rfl Try.underlying81 rfl Try.sizeOf3 (by kernel_rfl) _) ?_
                              clear ha; intro a ha
                              refine st_val (.int .i64 x.t.op) ha (by kernel_rfl) (run_loadAt1 (i := j * 7 + 0) ((hAl ▸ ((hr _ s.sat).row hd).1)) rfl (by kernel_rfl) Try.isAgg3 (by rw [dvs_at hx (by omega)]; rfl)) ?_
                              clear ha; intro a ha
                              refine st_val (.bool (decide (x.t.op > (5 : Int)))) ha (by kernel_rfl) (by kernel_rfl) ?_
                              clear ha; intro a ha
                              refine st_val (.bool (decide (x.t.op > (5 : Int)))) ha (by kernel_rfl) (by kernel_rfl) ?_
                              clear ha; intro a ha
                              refine wpList_nil ?_
                              refine then_normal ?_
                              refine wp_part (decide (x.t.op > (5 : Int))) ha rfl (by kernel_rfl) (fun hb => ?_) (fun hb => ?_)
                              · rw [hb] at ha; replace hb : (x.t.op > (5 : Int)) := of_decide_eq_true hb
                                refine wp_seq ?_
                                refine wp_region_lit ?_
                                refine st_val (.int .i64 2) ha (by kernel_rfl) (by kernel_rfl) ?_
                                clear ha; intro a ha
                                refine wpList_nil ?_
                                refine then_normal ?_
                                refine wp_ret ?_
                                refine block_ret ?_
                                refine then_ret ?_
                                refine then_ret ?_
                                refine block_ret ?_
                                refine block_ret ?_
                                refine then_ret ?_
                                refine then_ret ?_
                                refine block_ret ?_
                                refine then_ret ?_
                                refine ret_with (v := .int .i64 2) ha (results_1 rfl ha (res_tmp (by kernel_rfl) (by kernel_rfl))) ?_
                                refine ⟨?_, s⟩
                                rw [code_bad (hfew (by omega) (by omega)) (not_okL hd fun h => ?_)]
                                obtain ⟨⟨h1, h2, h3⟩, h4⟩ := h
                                simp only [Dn.t] at h1 h2 h3
                                first | exact h4 (hb ▸ ids_hit (k := k) hd2 (by omega)) | exact hnst (by unfold okS; omega) | (have h5 := h3 x.t (List.mem_map.2 ⟨x, List.mem_of_getElem? hx, rfl⟩); unfold okT at h5; omega) | omega
                              · rw [hb] at ha; replace hb : ¬ (x.t.op > (5 : Int)) := of_decide_eq_false hb
                                refine wp_skip ?_
                                refine block_normal ?_
                                refine then_normal ?_
                                refine wp_region_lit ?_
                                refine st_val (.int .i64 ((j : Nat) : Int)) ha (by kernel_rfl) (by kernel_rfl) ?_
                                clear ha; intro a ha
                                refine st_val (.int .i64 ((j + 1 : Nat) : Int)) ha (by kernel_rfl) (run_arith (((j : Nat) : Int) + (1 : Int)) ((j + 1 : Nat) : Int) rfl (by kernel_rfl) (by kernel_rfl) (.inl ⟨rfl, rfl⟩) (by rw [wrap64_in (by omega)]; try omega) _) ?_
                                clear ha; intro a ha
                                refine st_val (.int .i64 ((j + 1 : Nat) : Int)) ha (by kernel_rfl) (by kernel_rfl) ?_
                                clear ha; intro a ha
                                refine wpList_nil ?_
                                refine then_normal ?_
                                have hokx : okT x.t := by unfold okT; omega
                                exact ⟨j + 1, by omega, (Has.cons ha (by kernel_rfl) (by kernel_rfl) (Has.cons ha (by kernel_rfl) (by kernel_rfl) (Has.cons ha (by kernel_rfl) (by kernel_rfl) (Has.nil ha)))), s, by omega, fun y hy => by rw [take_snoc hx] at hy; exact (List.mem_append.1 hy).elim (hp.2 y) (fun hy => by rw [List.mem_singleton.1 hy]; exact hokx)⟩
                          · rw [hb] at ha; replace hb : ¬ (((j : Nat) : Int) < ((d.l.length : Nat) : Int)) := of_decide_eq_false hb
                            have hj2 : j = d.l.length := by omega
                            have hall : ∀ y ∈ d.l.map (·.t), okT y := fun y hy => by
                              obtain ⟨z, hz, rfl⟩ := List.mem_map.1 hy
                              exact hp.2 z (by rw [hj2, List.take_length]; exact hz)
                            refine wp_exit ?_
                            refine then_exit ?_
                            refine then_exit ?_
                            refine block_hit ?_
                            refine block_normal ?_
                            refine then_normal ?_
                            refine wp_region_lit ?_
                            refine st_val (.int .i64 ((k : Nat) : Int)) ha (by kernel_rfl) (by kernel_rfl) ?_
                            clear ha; intro a ha
                            refine st_val (.int .i64 ((k + 1 : Nat) : Int)) ha (by kernel_rfl) (run_arith (((k : Nat) : Int) + (1 : Int)) ((k + 1 : Nat) : Int) rfl (by kernel_rfl) (by kernel_rfl) (.inl ⟨rfl, rfl⟩) (by rw [wrap64_in (by omega)]; try omega) _) ?_
                            clear ha; intro a ha
                            refine st_val (.int .i64 ((k + 1 : Nat) : Int)) ha (by kernel_rfl) (by kernel_rfl) ?_
                            clear ha; intro a ha
                            refine wpList_nil ?_
                            refine then_normal ?_
                            exact ⟨k + 1, by omega, (Has.cons ha (by kernel_rfl) (by kernel_rfl) (Has.cons ha (by kernel_rfl) (by kernel_rfl) (Has.nil ha))), s, by omega, okL_next hd hok ⟨by simp only [Dn.t]; omega, by simp only [Dn.t]; exact hst, hall⟩ hns⟩
            · rw [hb] at ha; replace hb : ¬ (((k : Nat) : Int) < ((ds.length : Nat) : Int)) := of_decide_eq_false hb
              have hk : k = ds.length := by omega
              have hok := hp.2
              rw [hk, List.take_length] at hok
              refine wp_exit ?_
              refine then_exit ?_
              refine then_exit ?_
              refine block_hit ?_
              refine then_normal ?_
              refine wp_seq ?_
              refine wp_region_lit ?_
              refine st_val (.int .i64 0) ha (by kernel_rfl) (by kernel_rfl) ?_
              clear ha; intro a ha
              refine wpList_nil ?_
              refine then_normal ?_
              refine wp_ret ?_
              refine ret_with (v := .int .i64 0) ha (results_1 rfl ha (res_tmp (by kernel_rfl) (by kernel_rfl))) ?_
              refine ⟨?_, s⟩
              rw [code_zero.2 ⟨hfew (by omega) (by omega), hok⟩]

theorem ahead_any (W : World) (L : List Chunk) (w : World) (x y : Dn) (s : St W L w) :
    Calls Try.prog 39 #[.agg #[.int .i64 x.id, .int .i64 x.wall, .int .i64 x.logic, .slice x.A x.l.length x.c], .agg #[.int .i64 y.id, .int .i64 y.wall, .int .i64 y.logic, .slice y.A y.l.length y.c]] w fun e w' => e = .returned (.bool (decide (less x.t y.t))) ∧ St W L w' := by
  refine enter_args (l := [.agg #[.int .i64 x.id, .int .i64 x.wall, .int .i64 x.logic, .slice x.A x.l.length x.c], .agg #[.int .i64 y.id, .int .i64 y.wall, .int .i64 y.logic, .slice y.A y.l.length y.c]]) Try.func39 rfl rfl (Nat.le_of_ble_eq_true rfl) ?_
  intro a ha; replace ha : Has a 24 [(0, .agg #[.int .i64 x.id, .int .i64 x.wall, .int .i64 x.logic, .slice x.A x.l.length x.c]), (1, .agg #[.int .i64 y.id, .int .i64 y.wall, .int .i64 y.logic, .slice y.A y.l.length y.c])] := ha
  refine wp_seq ?_
  refine wp_region_lit ?_
  refine st_ex ha (by kernel_rfl) (ex_box [.int .i64 x.id, .int .i64 x.wall, .int .i64 x.logic, .slice x.A x.l.length x.c] s rfl (by kernel_rfl)) ?_
  clear ha; rintro _ w a ⟨g1, rfl, s⟩ ha
  replace s : St W (.blk g1 [.int .i64 x.id, .int .i64 x.wall, .int .i64 x.logic, .slice x.A x.l.length x.c] 80 :: L) w := s
  refine st_ex ha (by kernel_rfl) (ex_box [.int .i64 y.id, .int .i64 y.wall, .int .i64 y.logic, .slice y.A y.l.length y.c] s rfl (by kernel_rfl)) ?_
  clear ha; rintro _ w a ⟨g2, rfl, s⟩ ha
  replace s : St W (.blk g2 [.int .i64 y.id, .int .i64 y.wall, .int .i64 y.logic, .slice y.A y.l.length y.c] 80 :: .blk g1 [.int .i64 x.id, .int .i64 x.wall, .int .i64 x.logic, .slice x.A x.l.length x.c] 80 :: L) w := s
  refine st_val (.bool false) ha (by kernel_rfl) (by kernel_rfl) ?_
  clear ha; intro a ha
  refine wpList_nil ?_
  refine then_normal ?_
  refine wp_seq ?_
  refine wp_region_lit ?_
  refine st_val (.pointer (some ⟨g1, 1, none⟩)) ha (by kernel_rfl) (by kernel_rfl) ?_
  clear ha; intro a ha
  refine st_val (.agg #[.int .i64 x.wall, .int .i64 x.logic]) ha (by kernel_rfl) (run_loadN (of_ := 1) [.int .i64 x.wall, .int .i64 x.logic] (s.blkIs 1 rfl) rfl (by kernel_rfl) Try.isAgg24 Try.sizeOf24 rfl (Nat.le_of_ble_eq_true rfl)) ?_
  clear ha; intro a ha
  refine st_val (.pointer (some ⟨g2, 1, none⟩)) ha (by kernel_rfl) (by kernel_rfl) ?_
  clear ha; intro a ha
  refine st_val (.agg #[.int .i64 y.wall, .int .i64 y.logic]) ha (by kernel_rfl) (run_loadN (of_ := 1) [.int .i64 y.wall, .int .i64 y.logic] (s.blkIs 0 rfl) rfl (by kernel_rfl) Try.isAgg24 Try.sizeOf24 rfl (Nat.le_of_ble_eq_true rfl)) ?_
  clear ha; intro a ha
  refine st_call ha (by kernel_rfl) (by kernel_rfl) (rless_any W _ w x.wall x.logic y.wall y.logic s) ?_
  rintro _ w ⟨rfl, s⟩
  replace s : St W (.blk g2 [.int .i64 y.id, .int .i64 y.wall, .int .i64 y.logic, .slice y.A y.l.length y.c] 80 :: .blk g1 [.int .i64 x.id, .int .i64 x.wall, .int .i64 x.logic, .slice x.A x.l.length x.c] 80 :: L) w := s
  refine ⟨_, rfl, ?_⟩; clear ha; intro a ha
  refine st_val (.bool (decide (ltS x.wall x.logic y.wall y.logic))) ha (by kernel_rfl) (by kernel_rfl) ?_
  clear ha; intro a ha
  rcases Bool.eq_false_or_eq_true (decide (ltS x.wall x.logic y.wall y.logic)) with hb | hb
  · rw [hb] at ha; replace hb : (ltS x.wall x.logic y.wall y.logic) := of_decide_eq_true hb
    refine st_pass ha (by kernel_rfl) ?_
    clear ha; intro a ha
    refine st_pass ha (by kernel_rfl) ?_
    clear ha; intro a ha
    refine st_pass ha (by kernel_rfl) ?_
    clear ha; intro a ha
    refine st_pass ha (by kernel_rfl) ?_
    clear ha; intro a ha
    refine st_pass ha (by kernel_rfl) ?_
    clear ha; intro a ha
    refine st_pass ha (by kernel_rfl) ?_
    clear ha; intro a ha
    refine st_pass ha (by kernel_rfl) ?_
    clear ha; intro a ha
    refine st_pass ha (by kernel_rfl) ?_
    clear ha; intro a ha
    refine st_pass ha (by kernel_rfl) ?_
    clear ha; intro a ha
    refine st_pass ha (by kernel_rfl) ?_
    clear ha; intro a ha
    refine st_pass ha (by kernel_rfl) ?_
    clear ha; intro a ha
    refine st_pass ha (by kernel_rfl) ?_
    clear ha; intro a ha
    refine st_val (.bool true) ha (by kernel_rfl) (by kernel_rfl) ?_
    clear ha; intro a ha
    refine st_val (.bool true) ha (by kernel_rfl) (by kernel_rfl) ?_
    clear ha; intro a ha
    refine wpList_nil ?_
    refine then_normal ?_
    refine wp_ret ?_
    refine ret_with (v := .bool true) ha (results_1 rfl ha (res_tmp (by kernel_rfl) (by kernel_rfl))) ?_
    replace s := s.tail.tail
    replace s : St W (L) w := s
    refine ⟨?_, s⟩
    congr 2
    unfold less
    unfold ltS at *
    simp only [Dn.t]
    first | exact (decide_eq_true (by omega)).symm | exact (decide_eq_false (by omega)).symm | exact decide_eq_decide.2 (by omega)
  · rw [hb] at ha; replace hb : ¬ (ltS x.wall x.logic y.wall y.logic) := of_decide_eq_false hb
    refine st_val (.pointer (some ⟨g1, 1, none⟩)) ha (by kernel_rfl) (by kernel_rfl) ?_
    clear ha; intro a ha
    refine st_val (.agg #[.int .i64 x.wall, .int .i64 x.logic]) ha (by kernel_rfl) (run_loadN (of_ := 1) [.int .i64 x.wall, .int .i64 x.logic] (s.blkIs 1 rfl) rfl (by kernel_rfl) Try.isAgg24 Try.sizeOf24 rfl (Nat.le_of_ble_eq_true rfl)) ?_
    clear ha; intro a ha
    refine st_val (.pointer (some ⟨g2, 1, none⟩)) ha (by kernel_rfl) (by kernel_rfl) ?_
    clear ha; intro a ha
    refine st_val (.agg #[.int .i64 y.wall, .int .i64 y.logic]) ha (by kernel_rfl) (run_loadN (of_ := 1) [.int .i64 y.wall, .int .i64 y.logic] (s.blkIs 0 rfl) rfl (by kernel_rfl) Try.isAgg24 Try.sizeOf24 rfl (Nat.le_of_ble_eq_true rfl)) ?_
    clear ha; intro a ha
    refine st_val (.bool (decide (x.wall = y.wall ∧ x.logic = y.logic))) ha (by kernel_rfl) (run_st (x := x.wall) (y := x.logic) (u := y.wall) (v := y.logic) (.inl rfl) rfl (by kernel_rfl) (by kernel_rfl) _) ?_
    clear ha; intro a ha
    refine st_val (.bool (decide (x.wall = y.wall ∧ x.logic = y.logic))) ha (by kernel_rfl) (by kernel_rfl) ?_
    clear ha; intro a ha
    rcases Bool.eq_false_or_eq_true (decide (x.wall = y.wall ∧ x.logic = y.logic)) with hb | hb
    · rw [hb] at ha; replace hb : (x.wall = y.wall ∧ x.logic = y.logic) := of_decide_eq_true hb
      refine st_val (.pointer (some ⟨g1, 0, none⟩)) ha (by kernel_rfl) (by kernel_rfl) ?_
      clear ha; intro a ha
      refine st_val (.int .i64 x.id) ha (by kernel_rfl) (run_load1 (of_ := 0) (s.blkIs 1 rfl) rfl (by kernel_rfl) Try.isAgg3 rfl) ?_
      clear ha; intro a ha
      refine st_val (.pointer (some ⟨g2, 0, none⟩)) ha (by kernel_rfl) (by kernel_rfl) ?_
      clear ha; intro a ha
      refine st_val (.int .i64 y.id) ha (by kernel_rfl) (run_load1 (of_ := 0) (s.blkIs 0 rfl) rfl (by kernel_rfl) Try.isAgg3 rfl) ?_
      clear ha; intro a ha
      refine st_val (.bool (decide (x.id < y.id))) ha (by kernel_rfl) (by kernel_rfl) ?_
      clear ha; intro a ha
      refine st_val (.bool (decide (x.id < y.id))) ha (by kernel_rfl) (by kernel_rfl) ?_
      clear ha; intro a ha
      refine st_val (.bool (decide (x.id < y.id))) ha (by kernel_rfl) (by kernel_rfl) ?_
      clear ha; intro a ha
      refine st_val (.bool (decide (x.id < y.id))) ha (by kernel_rfl) (by kernel_rfl) ?_
      clear ha; intro a ha
      refine wpList_nil ?_
      refine then_normal ?_
      refine wp_ret ?_
      refine ret_with (v := .bool (decide (x.id < y.id))) ha (results_1 rfl ha (res_tmp (by kernel_rfl) (by kernel_rfl))) ?_
      replace s := s.tail.tail
      replace s : St W (L) w := s
      refine ⟨?_, s⟩
      congr 2
      unfold less
      unfold ltS at *
      simp only [Dn.t]
      first | exact (decide_eq_true (by omega)).symm | exact (decide_eq_false (by omega)).symm | exact decide_eq_decide.2 (by omega)
    · rw [hb] at ha; replace hb : ¬ (x.wall = y.wall ∧ x.logic = y.logic) := of_decide_eq_false hb
      refine st_pass ha (by kernel_rfl) ?_
      clear ha; intro a ha
      refine st_pass ha (by kernel_rfl) ?_
      clear ha; intro a ha
      refine st_pass ha (by kernel_rfl) ?_
      clear ha; intro a ha
      refine st_pass ha (by kernel_rfl) ?_
      clear ha; intro a ha
      refine st_pass ha (by kernel_rfl) ?_
      clear ha; intro a ha
      refine st_val (.bool false) ha (by kernel_rfl) (by kernel_rfl) ?_
      clear ha; intro a ha
      refine st_val (.bool false) ha (by kernel_rfl) (by kernel_rfl) ?_
      clear ha; intro a ha
      refine st_val (.bool false) ha (by kernel_rfl) (by kernel_rfl) ?_
      clear ha; intro a ha
      refine wpList_nil ?_
      refine then_normal ?_
      refine wp_ret ?_
      refine ret_with (v := .bool false) ha (results_1 rfl ha (res_tmp (by kernel_rfl) (by kernel_rfl))) ?_
      replace s := s.tail.tail
      replace s : St W (L) w := s
      refine ⟨?_, s⟩
      congr 2
      unfold less
      unfold ltS at *
      simp only [Dn.t]
      first | exact (decide_eq_true (by omega)).symm | exact (decide_eq_false (by omega)).symm | exact decide_eq_decide.2 (by omega)

theorem nats_set (u : List Nat) (r k : Nat) : putAt (nats u) (r * 1) [.int .i64 ((k : Nat) : Int)] = nats (u.set r k) := by
  rw [Nat.mul_one]
  show (nats u).set r _ = _
  simp [nats]
theorem nats_rep (n : Nat) : List.replicate n (.int .i64 0) = nats (List.replicate n 0) := by simp [nats]

theorem rorder_ok (W : World) (L : List Chunk) (w : World) (A : Option Addr) (ca : Nat) (ds : List Dn) (hr : Knows L (DonesIn A ds)) (hn : Bn ds) (h0 : code (tns ds) = 0) (s : St W L w) :
    Calls Try.prog 12 #[.slice A ds.length ca] w fun e w' => ∃ B c o, e = .returned (.tuple #[.slice B ds.length c, .int .i64 0]) ∧ IsOrd (tns ds) o ∧ St W (Own 3 1 B ds.length c (nats o) :: L) w' := by
  have hpost := order_post h0
  refine enter_args (l := [.slice A ds.length ca]) Try.func12 rfl rfl (Nat.le_of_ble_eq_true rfl) ?_
  intro a ha; replace ha : Has a 45 [(0, .slice A ds.length ca)] := ha
  refine wp_seq ?_
  refine wp_region_lit ?_
  refine st_val (.slice none 0 0) ha (by kernel_rfl) (by kernel_rfl) ?_
  clear ha; intro a ha
  refine st_val (.int .i64 0) ha (by kernel_rfl) (by kernel_rfl) ?_
  clear ha; intro a ha
  refine wpList_nil ?_
  refine then_normal ?_
  refine wp_seq ?_
  refine wp_region_lit ?_
  refine st_val (.slice A ds.length ca) ha (by kernel_rfl) (by kernel_rfl) ?_
  clear ha; intro a ha
  refine st_call ha (by kernel_rfl) (by kernel_rfl) (rcheck_any W _ w A ca ds (fun w s => hr w s) hn s) ?_
  rintro _ w ⟨rfl, s⟩
  replace s : St W (L) w := s
  refine ⟨_, rfl, ?_⟩; clear ha; intro a ha
  refine st_val (.int .i64 (code (tns ds))) ha (by kernel_rfl) (by kernel_rfl) ?_
  clear ha; intro a ha
  refine wpList_nil ?_
  refine then_normal ?_
  refine wp_seq ?_
  refine wp_seq ?_
  refine wp_region_lit ?_
  refine st_val (.int .i64 (code (tns ds))) ha (by kernel_rfl) (by kernel_rfl) ?_
  clear ha; intro a ha
  refine st_val (.bool false) ha (by kernel_rfl) (run_known (show ((code (tns ds)) != (0 : Int)) = false from by rw [bne_eq_false_iff_eq]; omega) (by kernel_rfl)) ?_
  clear ha; intro a ha
  refine wpList_nil ?_
  refine then_normal ?_
  refine wp_false ha rfl (by kernel_rfl) ?_
  refine wp_skip ?_
  refine then_normal ?_
  refine wp_seq ?_
  refine wp_region_lit ?_
  refine st_val (.slice A ds.length ca) ha (by kernel_rfl) (by kernel_rfl) ?_
  clear ha; intro a ha
  refine st_val (.int .i64 ((ds.length : Nat) : Int)) ha (by kernel_rfl) (by kernel_rfl) ?_
  clear ha; intro a ha
  refine st_ex ha (by kernel_rfl) (ex_makeSlice (n := ds.length) (c := ds.length) (kx := .i64) (ky := .i64) elt29 #[.int .i64 0] (by kernel_rfl) s rfl (by kernel_rfl) (by kernel_rfl) (by omega) (by omega) (by omega) (by simp only [roomBytes]; omega)) ?_
  clear ha; rintro _ w a ⟨g1, rfl, s⟩ ha
  rw [made_one] at s
  replace s : St W (.blk g1 (List.replicate ds.length (.int .i64 0)) 3 :: L) w := s
  refine st_val (.slice (some ⟨g1, 0, none⟩) ds.length ds.length) ha (by kernel_rfl) (by kernel_rfl) ?_
  clear ha; intro a ha
  refine wpList_nil ?_
  refine then_normal ?_
  refine wp_seq ?_
  refine wp_seq ?_
  refine wp_region_lit ?_
  refine st_val (.int .i64 0) ha (by kernel_rfl) (by kernel_rfl) ?_
  clear ha; intro a ha
  refine wpList_nil ?_
  refine then_normal ?_
  refine wp_block ?_
  rw [nats_rep] at s
  refine wp_loopG (G := (Nat × List Nat)) (fun ⟨k, u⟩ a w => Has a 45 [(0, .slice A ds.length ca), (5, .slice (some ⟨g1, 0, none⟩) ds.length ds.length), (6, .int .i64 ((k : Nat) : Int))] ∧ St W (.blk g1 (nats u) 3 :: L) w ∧ (k ≤ ds.length ∧ Placed (tns ds) u k)) (fun ⟨k, u⟩ => ds.length - k) (0, List.replicate ds.length 0) ?_ ?_
  · exact ⟨(Has.cons ha (by kernel_rfl) (by kernel_rfl) (Has.cons ha (by kernel_rfl) (by kernel_rfl) (Has.cons ha (by kernel_rfl) (by kernel_rfl) (Has.nil ha)))), s, ⟨Nat.zero_le _, by have := Placed.zero (tns ds); simpa using this⟩⟩
  · clear ha s; rintro ⟨k, u⟩ a w ⟨ha, s, hp⟩
    refine wp_seq ?_
    refine wp_seq ?_
    refine wp_region_lit ?_
    refine st_val (.int .i64 ((k : Nat) : Int)) ha (by kernel_rfl) (by kernel_rfl) ?_
    clear ha; intro a ha
    refine st_val (.slice A ds.length ca) ha (by kernel_rfl) (by kernel_rfl) ?_
    clear ha; intro a ha
    refine st_val (.int .i64 ((ds.length : Nat) : Int)) ha (by kernel_rfl) (by kernel_rfl) ?_
    clear ha; intro a ha
    refine st_val (.bool (decide (((k : Nat) : Int) < ((ds.length : Nat) : Int)))) ha (by kernel_rfl) (by kernel_rfl) ?_
    clear ha; intro a ha
    refine wpList_nil ?_
    refine then_normal ?_
    refine wp_part (decide (((k : Nat) : Int) < ((ds.length : Nat) : Int))) ha rfl (by kernel_rfl) (fun hb => ?_) (fun hb => ?_)
    · rw [hb] at ha; replace hb : (((k : Nat) : Int) < ((ds.length : Nat) : Int)) := of_decide_eq_true hb
      have hP := hp.2
      have hkl : k < ds.length := by omega
      have hul : u.length = ds.length := by simpa using hP.1
      obtain ⟨d, hd⟩ : ∃ d, ds[k]? = some d := ⟨_, List.getElem?_eq_getElem hkl⟩
      obtain ⟨ad, hA⟩ := Reads.addr (hr _ s.sat.tail).1 (by omega)
      subst hA
      refine wp_skip ?_
      refine then_normal ?_
      refine wp_seq ?_
      refine wp_block ?_
      refine wp_seq ?_
      refine wp_region_lit ?_
      refine st_val (.int .i64 0) ha (by kernel_rfl) (by kernel_rfl) ?_
      clear ha; intro a ha
      refine wpList_nil ?_
      refine then_normal ?_
      refine wp_seq ?_
      refine wp_seq ?_
      refine wp_region_lit ?_
      refine st_val (.int .i64 0) ha (by kernel_rfl) (by kernel_rfl) ?_
      clear ha; intro a ha
      refine wpList_nil ?_
      refine then_normal ?_
      refine wp_block ?_
      refine wp_loopG (G := Nat) (fun j a w => Has a 45 [(0, .slice (some ad) ds.length ca), (5, .slice (some ⟨g1, 0, none⟩) ds.length ds.length), (6, .int .i64 ((k : Nat) : Int)), (7, .int .i64 ((aheadTo (tns ds) k j : Nat) : Int)), (8, .int .i64 ((j : Nat) : Int))] ∧ St W (.blk g1 (nats u) 3 :: L) w ∧ j ≤ ds.length) (fun j => ds.length - j) 0 ?_ ?_
      · exact ⟨(Has.cons ha (by kernel_rfl) (by kernel_rfl) (Has.cons ha (by kernel_rfl) (by kernel_rfl) (Has.cons ha (by kernel_rfl) (by kernel_rfl) (Has.cons ha (by kernel_rfl) (by kernel_rfl) (Has.cons ha (by kernel_rfl) (by kernel_rfl) (Has.nil ha)))))), s, Nat.zero_le _⟩
      · clear ha s; rintro j a w ⟨ha, s, hp⟩
        refine wp_seq ?_
        refine wp_seq ?_
        refine wp_region_lit ?_
        refine st_val (.int .i64 ((j : Nat) : Int)) ha (by kernel_rfl) (by kernel_rfl) ?_
        clear ha; intro a ha
        refine st_val (.slice (some ad) ds.length ca) ha (by kernel_rfl) (by kernel_rfl) ?_
        clear ha; intro a ha
        refine st_val (.int .i64 ((ds.length : Nat) : Int)) ha (by kernel_rfl) (by kernel_rfl) ?_
        clear ha; intro a ha
        refine st_val (.bool (decide (((j : Nat) : Int) < ((ds.length : Nat) : Int)))) ha (by kernel_rfl) (by kernel_rfl) ?_
        clear ha; intro a ha
        refine wpList_nil ?_
        refine then_normal ?_
        refine wp_part (decide (((j : Nat) : Int) < ((ds.length : Nat) : Int))) ha rfl (by kernel_rfl) (fun hb => ?_) (fun hb => ?_)
        · rw [hb] at ha; replace hb : (((j : Nat) : Int) < ((ds.length : Nat) : Int)) := of_decide_eq_true hb
          obtain ⟨d2, hd2⟩ : ∃ d2, ds[j]? = some d2 := ⟨_, List.getElem?_eq_getElem (by omega)⟩
          have hale := aheadTo_le (tns ds) k j
          refine wp_skip ?_
          refine then_normal ?_
          refine wp_seq ?_
          refine wp_block ?_
          refine wp_seq ?_
          refine wp_region_head 8 (fun w => Reads w 4 (some ad) ds.length (nvs ds) ∧ True) (by kernel_rfl) (by decide) ?_
          replace s := s.drew; generalize _root_.Go.World.drew _ = w at s ⊢
          have hS : (fun w => Reads w 4 (some ad) ds.length (nvs ds) ∧ True) w := ⟨(hr _ s.sat.tail).1, trivial⟩
          refine hd_val (i := 0) (.slice (some ad) ds.length ca) ha rfl (by kernel_rfl) (fun _ _ _ h => h) (by kernel_rfl) (fun w hS => (by kernel_rfl)) hS ?_
          clear ha; intro a ha
          refine hd_val (i := 1) (.int .i64 ((j : Nat) : Int)) ha rfl (by kernel_rfl) (fun _ _ _ h => h) (by kernel_rfl) (fun w hS => (by kernel_rfl)) hS ?_
          clear ha; intro a ha
          refine hd_val (i := 2) (.pointer (some (ad.add (j * 4)))) ha rfl (by kernel_rfl) (fun _ _ _ h => h) (by kernel_rfl) (fun w hS => (run_indexAddr' (kd := .i64) (i := ((j : Nat) : Int)) (n := ds.length) (c := ca) j rfl Try.underlying39 Try.sizeOf80 (by kernel_rfl) (by kernel_rfl) rfl (by first | assumption | omega) _)) hS ?_
          clear ha; intro a ha
          refine hd_val (i := 3) (.agg #[.int .i64 d2.id, .int .i64 d2.wall, .int .i64 d2.logic, .slice d2.A d2.l.length d2.c]) ha rfl (by kernel_rfl) (fun _ _ _ h => h) (by kernel_rfl) (fun w hS => run_loadAtN (i := j * 4) [.int .i64 d2.id, .int .i64 d2.wall, .int .i64 d2.logic, .slice d2.A d2.l.length d2.c] hS.1 rfl (by kernel_rfl) Try.isAgg80 Try.sizeOf80 (fun q_ hq_ => nvs_at hd2 hq_) rfl) hS ?_
          clear ha; intro a ha
          refine hd_val (i := 4) (.slice (some ad) ds.length ca) ha rfl (by kernel_rfl) (fun _ _ _ h => h) (by kernel_rfl) (fun w hS => (by kernel_rfl)) hS ?_
          clear ha; intro a ha
          refine hd_val (i := 5) (.int .i64 ((k : Nat) : Int)) ha rfl (by kernel_rfl) (fun _ _ _ h => h) (by kernel_rfl) (fun w hS => (by kernel_rfl)) hS ?_
          clear ha; intro a ha
          refine hd_val (i := 6) (.pointer (some (ad.add (k * 4)))) ha rfl (by kernel_rfl) (fun _ _ _ h => h) (by kernel_rfl) (fun w hS => (run_indexAddr' (kd := .i64) (i := ((k : Nat) : Int)) (n := ds.length) (c := ca) k rfl Try.underlying39 Try.sizeOf80 (by kernel_rfl) (by kernel_rfl) rfl (by first | assumption | omega) _)) hS ?_
          clear ha; intro a ha
          refine hd_val (i := 7) (.agg #[.int .i64 d.id, .int .i64 d.wall, .int .i64 d.logic, .slice d.A d.l.length d.c]) ha rfl (by kernel_rfl) (fun _ _ _ h => h) (by kernel_rfl) (fun w hS => run_loadAtN (i := k * 4) [.int .i64 d.id, .int .i64 d.wall, .int .i64 d.logic, .slice d.A d.l.length d.c] hS.1 rfl (by kernel_rfl) Try.isAgg80 Try.sizeOf80 (fun q_ hq_ => nvs_at hd hq_) rfl) hS ?_
          clear ha; intro a ha
          refine Head.done (by kernel_rfl) ?_
          clear hS; simp only [List.drop_succ_cons, List.drop_zero]
          refine st_call ha (by kernel_rfl) (by kernel_rfl) (ahead_any W _ w d2 d s) ?_
          rintro _ w ⟨rfl, s⟩
          replace s : St W (.blk g1 (nats u) 3 :: L) w := s
          refine ⟨_, rfl, ?_⟩; clear ha; intro a ha
          refine wpList_nil ?_
          refine then_normal ?_
          refine wp_part (decide (less d2.t d.t)) ha rfl (by kernel_rfl) (fun hb => ?_) (fun hb => ?_)
          · rw [hb] at ha; replace hb : (less d2.t d.t) := of_decide_eq_true hb
            refine wp_region_lit ?_
            refine st_val (.int .i64 ((aheadTo (tns ds) k j : Nat) : Int)) ha (by kernel_rfl) (by kernel_rfl) ?_
            clear ha; intro a ha
            refine st_val (.int .i64 ((aheadTo (tns ds) k j + 1 : Nat) : Int)) ha (by kernel_rfl) (run_arith (((aheadTo (tns ds) k j : Nat) : Int) + (1 : Int)) ((aheadTo (tns ds) k j + 1 : Nat) : Int) rfl (by kernel_rfl) (by kernel_rfl) (.inl ⟨rfl, rfl⟩) (by rw [wrap64_in (by omega)]; try omega) _) ?_
            clear ha; intro a ha
            refine st_val (.int .i64 ((aheadTo (tns ds) k j + 1 : Nat) : Int)) ha (by kernel_rfl) (by kernel_rfl) ?_
            clear ha; intro a ha
            refine wpList_nil ?_
            refine block_normal ?_
            refine then_normal ?_
            refine wp_region_lit ?_
            refine st_val (.int .i64 ((j : Nat) : Int)) ha (by kernel_rfl) (by kernel_rfl) ?_
            clear ha; intro a ha
            refine st_val (.int .i64 ((j + 1 : Nat) : Int)) ha (by kernel_rfl) (run_arith (((j : Nat) : Int) + (1 : Int)) ((j + 1 : Nat) : Int) rfl (by kernel_rfl) (by kernel_rfl) (.inl ⟨rfl, rfl⟩) (by rw [wrap64_in (by omega)]; try omega) _) ?_
            clear ha; intro a ha
            refine st_val (.int .i64 ((j + 1 : Nat) : Int)) ha (by kernel_rfl) (by kernel_rfl) ?_
            clear ha; intro a ha
            refine wpList_nil ?_
            refine then_normal ?_
            have hah := aheadTo_succ (tns ds) k j
            rw [tAt_of hd, tAt_of hd2] at hah
            rw [if_pos hb] at hah
            exact ⟨j + 1, by omega, (Has.cons ha (by kernel_rfl) (by kernel_rfl) (Has.cons ha (by kernel_rfl) (by kernel_rfl) (Has.cons ha (by kernel_rfl) (by kernel_rfl) (Has.cons ha (by kernel_rfl) (Eq.trans (b := .int .i64 ((aheadTo (tns ds) k j + 1 : Nat) : Int)) (by kernel_rfl) (by rw [hah])) (Has.cons ha (by kernel_rfl) (by kernel_rfl) (Has.nil ha)))))), s, by omega⟩
          · rw [hb] at ha; replace hb : ¬ (less d2.t d.t) := of_decide_eq_false hb
            refine wp_skip ?_
            refine block_normal ?_
            refine then_normal ?_
            refine wp_region_lit ?_
            refine st_val (.int .i64 ((j : Nat) : Int)) ha (by kernel_rfl) (by kernel_rfl) ?_
            clear ha; intro a ha
            refine st_val (.int .i64 ((j + 1 : Nat) : Int)) ha (by kernel_rfl) (run_arith (((j : Nat) : Int) + (1 : Int)) ((j + 1 : Nat) : Int) rfl (by kernel_rfl) (by kernel_rfl) (.inl ⟨rfl, rfl⟩) (by rw [wrap64_in (by omega)]; try omega) _) ?_
            clear ha; intro a ha
            refine st_val (.int .i64 ((j + 1 : Nat) : Int)) ha (by kernel_rfl) (by kernel_rfl) ?_
            clear ha; intro a ha
            refine wpList_nil ?_
            refine then_normal ?_
            have hah := aheadTo_succ (tns ds) k j
            rw [tAt_of hd, tAt_of hd2] at hah
            rw [if_neg hb] at hah
            rw [Nat.add_zero] at hah
            exact ⟨j + 1, by omega, (Has.cons ha (by kernel_rfl) (by kernel_rfl) (Has.cons ha (by kernel_rfl) (by kernel_rfl) (Has.cons ha (by kernel_rfl) (by kernel_rfl) (Has.cons ha (by kernel_rfl) (Eq.trans (b := .int .i64 ((aheadTo (tns ds) k j : Nat) : Int)) (by kernel_rfl) (by rw [hah]; rfl)) (Has.cons ha (by kernel_rfl) (by kernel_rfl) (Has.nil ha)))))), s, by omega⟩
        · rw [hb] at ha; replace hb : ¬ (((j : Nat) : Int) < ((ds.length : Nat) : Int)) := of_decide_eq_false hb
          have hj : j = ds.length := by omega
          have hrk : aheadTo (tns ds) k j = rank (tns ds) k := by unfold rank; rw [hj]; simp [aheadTo]
          rw [hrk] at ha
          have hrl : rank (tns ds) k < ds.length := by have := rank_lt (ds := tns ds) (i := k) (by simpa using hkl); simpa using this
          refine wp_exit ?_
          refine then_exit ?_
          refine then_exit ?_
          refine block_hit ?_
          refine then_normal ?_
          refine wp_region_lit ?_
          refine st_val (.slice (some ⟨g1, 0, none⟩) ds.length ds.length) ha (by kernel_rfl) (by kernel_rfl) ?_
          clear ha; intro a ha
          refine st_val (.int .i64 ((rank (tns ds) k : Nat) : Int)) ha (by kernel_rfl) (by kernel_rfl) ?_
          clear ha; intro a ha
          refine st_val (.int .i64 ((k : Nat) : Int)) ha (by kernel_rfl) (by kernel_rfl) ?_
          clear ha; intro a ha
          refine st_val (.pointer (some ⟨g1, 0 + (rank (tns ds) k) * 1, none⟩)) ha (by kernel_rfl) (run_indexAddr (kd := .i64) (i := ((rank (tns ds) k : Nat) : Int)) (n := ds.length) (c := ds.length) (rank (tns ds) k) rfl Try.underlying29 Try.sizeOf3 (by kernel_rfl) (by kernel_rfl) rfl (by first | assumption | omega) _) ?_
          clear ha; intro a ha
          refine st_exd ha (by kernel_rfl) (ex_store_to (of_ := 0 + rank (tns ds) k * 1) 0 [.int .i64 ((k : Nat) : Int)] s (show putAt (nats u) (0 + rank (tns ds) k * 1) [.int .i64 ((k : Nat) : Int)] = nats (u.set (rank (tns ds) k) k) from by rw [Nat.zero_add]; exact nats_set _ _ _) rfl rfl (by kernel_rfl) (by kernel_rfl) (Try.sizeOf3 _) rfl (by simp [Value.oneCell']) (by simp only [List.length_map, hul, List.length_cons, List.length_nil]; omega)) ?_
          clear ha; rintro w a s ha
          replace s : St W (.blk g1 (nats (u.set (rank (tns ds) k) k)) 3 :: L) w := s
          refine wpList_nil ?_
          refine block_normal ?_
          refine then_normal ?_
          refine wp_region_lit ?_
          refine st_val (.int .i64 ((k : Nat) : Int)) ha (by kernel_rfl) (by kernel_rfl) ?_
          clear ha; intro a ha
          refine st_val (.int .i64 ((k + 1 : Nat) : Int)) ha (by kernel_rfl) (run_arith (((k : Nat) : Int) + (1 : Int)) ((k + 1 : Nat) : Int) rfl (by kernel_rfl) (by kernel_rfl) (.inl ⟨rfl, rfl⟩) (by rw [wrap64_in (by omega)]; try omega) _) ?_
          clear ha; intro a ha
          refine st_val (.int .i64 ((k + 1 : Nat) : Int)) ha (by kernel_rfl) (by kernel_rfl) ?_
          clear ha; intro a ha
          refine wpList_nil ?_
          refine then_normal ?_
          exact ⟨(k + 1, u.set (rank (tns ds) k) k), (show ds.length - (k + 1) < ds.length - k by omega), (Has.cons ha (by kernel_rfl) (by kernel_rfl) (Has.cons ha (by kernel_rfl) (by kernel_rfl) (Has.cons ha (by kernel_rfl) (by kernel_rfl) (Has.nil ha)))), s, (show k + 1 ≤ ds.length by omega), hP.set hpost.2.1 (by simpa using hkl)⟩
    · rw [hb] at ha; replace hb : ¬ (((k : Nat) : Int) < ((ds.length : Nat) : Int)) := of_decide_eq_false hb
      have hk : k = ds.length := by omega
      have hP := hp.2
      rw [hk] at hP
      have ho : IsOrd (tns ds) u := by refine Placed.isOrd hpost.2.1 ?_; simpa using hP
      have hul : u.length = ds.length := by simpa using hP.1
      replace s := own_blk (n := ds.length) (k := 1) (by simp [hul]) (by simp only [maxLen]; omega) s
      replace s : St W (Own 3 1 (some ⟨g1, 0, none⟩) ds.length ds.length (nats u) :: L) w := s
      refine wp_exit ?_
      refine then_exit ?_
      refine then_exit ?_
      refine block_hit ?_
      refine then_normal ?_
      refine wp_seq ?_
      refine wp_region_lit ?_
      refine st_val (.slice (some ⟨g1, 0, none⟩) ds.length ds.length) ha (by kernel_rfl) (by kernel_rfl) ?_
      clear ha; intro a ha
      refine st_val (.slice (some ⟨g1, 0, none⟩) ds.length ds.length) ha (by kernel_rfl) (by kernel_rfl) ?_
      clear ha; intro a ha
      refine st_val (.int .i64 0) ha (by kernel_rfl) (by kernel_rfl) ?_
      clear ha; intro a ha
      refine wpList_nil ?_
      refine then_normal ?_
      refine wp_ret ?_
      refine ret_with (v := .tuple #[.slice (some ⟨g1, 0, none⟩) ds.length ds.length, .int .i64 0]) ha (results_2 rfl ha (res_tmp (by kernel_rfl) (by kernel_rfl)) (res_tmp (by kernel_rfl) (by kernel_rfl))) ?_
      exact ⟨_, _, u, rfl, ho, s⟩

theorem rorder_no (W : World) (L : List Chunk) (w : World) (A : Option Addr) (ca : Nat) (ds : List Dn) (hr : Knows L (DonesIn A ds)) (hn : Bn ds) (h0 : code (tns ds) ≠ 0) (s : St W L w) :
    Calls Try.prog 12 #[.slice A ds.length ca] w fun e w' => e = .returned (.tuple #[.slice none 0 0, .int .i64 (code (tns ds))]) ∧ St W L w' := by
  refine enter_args (l := [.slice A ds.length ca]) Try.func12 rfl rfl (Nat.le_of_ble_eq_true rfl) ?_
  intro a ha; replace ha : Has a 45 [(0, .slice A ds.length ca)] := ha
  refine wp_seq ?_
  refine wp_region_lit ?_
  refine st_val (.slice none 0 0) ha (by kernel_rfl) (by kernel_rfl) ?_
  clear ha; intro a ha
  refine st_val (.int .i64 0) ha (by kernel_rfl) (by kernel_rfl) ?_
  clear ha; intro a ha
  refine wpList_nil ?_
  refine then_normal ?_
  refine wp_seq ?_
  refine wp_region_lit ?_
  refine st_val (.slice A ds.length ca) ha (by kernel_rfl) (by kernel_rfl) ?_
  clear ha; intro a ha
  refine st_call ha (by kernel_rfl) (by kernel_rfl) (rcheck_any W _ w A ca ds (fun w s => hr w s) hn s) ?_
  rintro _ w ⟨rfl, s⟩
  replace s : St W (L) w := s
  refine ⟨_, rfl, ?_⟩; clear ha; intro a ha
  refine st_val (.int .i64 (code (tns ds))) ha (by kernel_rfl) (by kernel_rfl) ?_
  clear ha; intro a ha
  refine wpList_nil ?_
  refine then_normal ?_
  refine wp_seq ?_
  refine wp_seq ?_
  refine wp_region_lit ?_
  refine st_val (.int .i64 (code (tns ds))) ha (by kernel_rfl) (by kernel_rfl) ?_
  clear ha; intro a ha
  refine st_val (.bool true) ha (by kernel_rfl) (run_known (show ((code (tns ds)) != (0 : Int)) = true from bne_iff_ne.2 (by omega)) (by kernel_rfl)) ?_
  clear ha; intro a ha
  refine wpList_nil ?_
  refine then_normal ?_
  refine wp_true ha rfl (by kernel_rfl) ?_
  refine wp_seq ?_
  refine wp_region_lit ?_
  refine st_val (.int .i64 (code (tns ds))) ha (by kernel_rfl) (by kernel_rfl) ?_
  clear ha; intro a ha
  refine st_val (.slice none 0 0) ha (by kernel_rfl) (by kernel_rfl) ?_
  clear ha; intro a ha
  refine st_val (.int .i64 (code (tns ds))) ha (by kernel_rfl) (by kernel_rfl) ?_
  clear ha; intro a ha
  refine wpList_nil ?_
  refine then_normal ?_
  refine wp_ret ?_
  refine then_ret ?_
  refine ret_with (v := .tuple #[.slice none 0 0, .int .i64 (code (tns ds))]) ha (results_2 rfl ha (res_tmp (by kernel_rfl) (by kernel_rfl)) (res_tmp (by kernel_rfl) (by kernel_rfl))) ?_
  exact ⟨rfl, s⟩

end Go.Proofs.Ytidfniglnmfphaa.B
