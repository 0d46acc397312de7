import Derived.Test.YtfcbjcohepkkfaaJ2
namespace Go.Proofs.Ytfcbjcohepkkfaa.B
open Go.RowKit Go.Maps Go.Sort Go.Shelf Go.Proofs.Ytfcbjcohepkkfaa.Sep Go.Proofs.Ytfcbjcohepkkfaa.P
set_option linter.unusedVariables false
set_option linter.unusedSimpArgs false
/-! ### equality of spans and of stamps -/
set_option maxHeartbeats 1000000 in
theorem eqSp (a b c d : K) (w : World) : (Op.equalIn 10000 31 (.agg #[.string (str a), .string (str b)]) (.agg #[.string (str c), .string (str d)])).run Try.prog w = .ok (decide ((a, b) = (c, d))) w := by
  have u9 := Try.underlying9
  have a9 := Try.isAgg9
  have z9 := Try.sizeOf9
  have hS : Try.prog.underlying 31 = some (.struct (Try.prog.fieldsOf 31)) := by kernel_rfl
  have hp : Try.prog.stoodInHeld 31 = false := by kernel_rfl
  rw [show (10000 : Nat) = 9999 + 1 from rfl, run_equalIn_struct w 9999 31 _ _ hS hp]
  simp only [Program.fieldsOf, Try.underlying31]
  go_simp
  by_cases h1 : a = c <;> by_cases h2 : b = d <;> simp [h1, h2, eqb_str, str_list]
theorem run_spaneq {o : Oper} {E : Env} {u v : Operand} {a b c d : K} {yt : TypeId} (ho : o.op = .binOp .eql 31 u v yt) (hx : evalE E u = .agg #[.string (str a), .string (str b)]) (hy : evalE E v = .agg #[.string (str c), .string (str d)]) :
    ∀ w, (execOp (evalE E) o).run Try.prog w = .ok (.value (.bool (decide ((a, b) = (c, d))))) w := by
  intro w
  have hm : Try.prog.eqGuardType Try.prog.depth 31 = false := by kernel_rfl
  have g : ∀ op a b u v, (eqGuard op 31 a b (.agg u) (.agg v)).run Try.prog w = .ok () w := fun op a b u v => run_eqGuard_agg w op 31 a b _ _ hm
  simp [execOp, ho, hx, hy, run_eql_struct, eqSp, g]
set_option maxHeartbeats 1000000 in
theorem eqSt (a b c d : Int) (w : World) : (Op.equalIn 10000 34 (.agg #[.int .i64 a, .int .i64 b]) (.agg #[.int .i64 c, .int .i64 d])).run Try.prog w = .ok (decide ((a, b) = (c, d))) w := by
  have u3 := Try.underlying3
  have a3 := Try.isAgg3
  have z3 := Try.sizeOf3
  have hS : Try.prog.underlying 34 = some (.struct (Try.prog.fieldsOf 34)) := by kernel_rfl
  have hp : Try.prog.stoodInHeld 34 = false := by kernel_rfl
  rw [show (10000 : Nat) = 9999 + 1 from rfl, run_equalIn_struct w 9999 34 _ _ hS hp]
  simp only [Program.fieldsOf, Try.underlying34]
  go_simp
  by_cases h1 : a = c <;> by_cases h2 : b = d <;> simp [h1, h2]
theorem run_stampeq {o : Oper} {E : Env} {u v : Operand} {a b c d : Int} {yt : TypeId} (ho : o.op = .binOp .eql 34 u v yt) (hx : evalE E u = .agg #[.int .i64 a, .int .i64 b]) (hy : evalE E v = .agg #[.int .i64 c, .int .i64 d]) :
    ∀ w, (execOp (evalE E) o).run Try.prog w = .ok (.value (.bool (decide ((a, b) = (c, d))))) w := by
  intro w
  have hm : Try.prog.eqGuardType Try.prog.depth 34 = false := by kernel_rfl
  have g : ∀ op a b u v, (eqGuard op 34 a b (.agg u) (.agg v)).run Try.prog w = .ok () w := fun op a b u v => run_eqGuard_agg w op 34 a b _ _ hm
  simp [execOp, ho, hx, hy, run_eql_struct, eqSt, g]
theorem Blks.back {W w : World} {L : List Chunk} {T : List (Int × Nat × Tx)} {q b : Nat} {i : Int} {t : Tx} (hd : T[q]? = some (i, b, t)) (s : St W (.blk b (txv t) 67 :: BRest T q :: L) w) : St W (Blks T :: L) w := by
  have := Blks.close hd t s
  obtain ⟨hq, e⟩ := List.getElem?_eq_some_iff.1 hd
  rwa [show T.set q (i, b, t) = T by rw [← e, List.set_getElem_self]] at this
theorem may_has {ti : Int} {x : Ev} (h : mayB ti x = true) (hh : hasB x = true) : 1 ≤ x.id ∧ x.id ≤ 9007199254740991 := by
  unfold mayB at h
  split at h
  · cases h
  · rw [if_neg (by rw [hh]; decide)] at h
    split at h
    · cases h
    · omega
theorem may_node {ti : Int} {x : Ev} (h : mayB ti x = true) : 1 ≤ x.kind ∧ x.kind ≤ 6 ∧ ti ≤ x.ti ∧ 1 ≤ x.node ∧ x.node ≤ 4 := by
  unfold mayB at h
  split at h
  · cases h
  · omega
theorem has_iff {x : Ev} : hasB x = true ↔ 1 ≤ x.kind ∧ x.kind ≤ 4 := by simp [hasB]

set_option maxHeartbeats 4000000 in
theorem may_any (W : World) (L : List Chunk) (w : World) (g gd gt : Nat) (k : Look) (Dd : List (Int × Value)) (T : List (Int × Nat × Tx)) (n : Nat) (hk : LkOk k Dd T n) (hn : n ≤ 1000000) (x : Ev) (s : St W (Chunk.blk g [.int .i64 k.ti, .int .i64 k.most, .map (some gd), .map (some gt)] 48 :: MapT Try.prog 3 encI gd Dd :: MapT Try.prog 3 encI gt (T.map ent) :: Blks T :: L) w) :
    Calls Try.prog 16 #[.pointer (some ⟨g, 0, none⟩), .agg (evv x).toArray] w fun e w' => e = .returned (.bool (mayB k.ti x)) ∧ St W (Chunk.blk g [.int .i64 k.ti, .int .i64 k.most, .map (some gd), .map (some gt)] 48 :: MapT Try.prog 3 encI gd Dd :: MapT Try.prog 3 encI gt (T.map ent) :: Blks T :: L) w' := by
  refine enter_args (l := [.pointer (some ⟨g, 0, none⟩), .agg (evv x).toArray]) Try.func16 rfl rfl (Nat.le_of_ble_eq_true rfl) ?_
  intro a ha; replace ha : Has a 82 [(0, .pointer (some ⟨g, 0, none⟩)), (1, .agg (evv x).toArray)] := ha
  refine wp_seq ?_
  refine wp_region_lit ?_
  refine st_ex ha (by kernel_rfl) (ex_box (evv x) s rfl (by kernel_rfl)) ?_
  clear ha; rintro _ w a ⟨g1, rfl, s⟩ ha
  refine st_val (.bool false) ha (by kernel_rfl) (by kernel_rfl) ?_
  clear ha; intro a ha
  refine wpList_nil ?_
  refine then_normal ?_
  refine wp_seq ?_
  refine wp_seq ?_
  refine wp_region_head 15 (fun w => BlkIs g1 (evv x) w ∧ BlkIs g [.int .i64 k.ti, .int .i64 k.most, .map (some gd), .map (some gt)] w ∧ True) (by kernel_rfl) (by decide) ?_
  replace s := s.drew; generalize _root_.Go.World.drew _ = w at s ⊢
  have hS : (fun w => BlkIs g1 (evv x) w ∧ BlkIs g [.int .i64 k.ti, .int .i64 k.most, .map (some gd), .map (some gt)] w ∧ True) w := ⟨s.blkIs 0 rfl, s.blkIs 1 rfl, trivial⟩
  refine hd_val (i := 0) (.pointer (some ⟨g1, 1, none⟩)) ha rfl (by kernel_rfl) (fun _ _ _ h => h) (by kernel_rfl) (fun w hS => (by kernel_rfl)) hS ?_
  clear ha; intro a ha
  refine hd_val (i := 1) (.int .i64 x.kind) ha rfl (by kernel_rfl) (fun _ _ _ h => h) (by kernel_rfl) (fun w hS => run_load1 (of_ := 1) hS.1 rfl (by kernel_rfl) Try.isAgg3 rfl) hS ?_
  clear ha; intro a ha
  refine hd_val (i := 2) (.bool (decide (x.kind < (1 : Int)))) ha rfl (by kernel_rfl) (fun _ _ _ h => h) (by kernel_rfl) (fun w hS => (by kernel_rfl)) hS ?_
  clear ha; intro a ha
  refine hd_val (i := 3) (.bool (decide (x.kind < (1 : Int)))) ha rfl (by kernel_rfl) (fun _ _ _ h => h) (by kernel_rfl) (fun w hS => (by kernel_rfl)) hS ?_
  clear ha; intro a ha
  rcases Bool.eq_false_or_eq_true (decide (x.kind < (1 : Int))) with hb | hb
  · rw [hb] at ha; replace hb : (x.kind < (1 : Int)) := of_decide_eq_true hb
    refine hd_pass (i := 4) ha rfl (by kernel_rfl) (fun _ _ _ h => h) (by kernel_rfl) hS ?_
    clear ha; intro a ha
    refine hd_pass (i := 5) ha rfl (by kernel_rfl) (fun _ _ _ h => h) (by kernel_rfl) hS ?_
    clear ha; intro a ha
    refine hd_pass (i := 6) ha rfl (by kernel_rfl) (fun _ _ _ h => h) (by kernel_rfl) hS ?_
    clear ha; intro a ha
    refine hd_val (i := 7) (.bool true) ha rfl (by kernel_rfl) (fun _ _ _ h => h) (by kernel_rfl) (fun w hS => (by kernel_rfl)) hS ?_
    clear ha; intro a ha
    refine hd_val (i := 8) (.bool true) ha rfl (by kernel_rfl) (fun _ _ _ h => h) (by kernel_rfl) (fun w hS => (by kernel_rfl)) hS ?_
    clear ha; intro a ha
    refine hd_pass (i := 9) ha rfl (by kernel_rfl) (fun _ _ _ h => h) (by kernel_rfl) hS ?_
    clear ha; intro a ha
    refine hd_pass (i := 10) ha rfl (by kernel_rfl) (fun _ _ _ h => h) (by kernel_rfl) hS ?_
    clear ha; intro a ha
    refine hd_pass (i := 11) ha rfl (by kernel_rfl) (fun _ _ _ h => h) (by kernel_rfl) hS ?_
    clear ha; intro a ha
    refine hd_pass (i := 12) ha rfl (by kernel_rfl) (fun _ _ _ h => h) (by kernel_rfl) hS ?_
    clear ha; intro a ha
    refine hd_pass (i := 13) ha rfl (by kernel_rfl) (fun _ _ _ h => h) (by kernel_rfl) hS ?_
    clear ha; intro a ha
    refine hd_pass (i := 14) ha rfl (by kernel_rfl) (fun _ _ _ h => h) (by kernel_rfl) hS ?_
    clear ha; intro a ha
    refine Head.done (by kernel_rfl) ?_
    clear hS; simp only [List.drop_succ_cons, List.drop_zero]
    refine st_pass ha (by kernel_rfl) ?_
    clear ha; intro a ha
    refine st_val (.bool true) ha (by kernel_rfl) (by kernel_rfl) ?_
    clear ha; intro a ha
    refine st_val (.bool true) ha (by kernel_rfl) (by kernel_rfl) ?_
    clear ha; intro a ha
    refine st_pass ha (by kernel_rfl) ?_
    clear ha; intro a ha
    refine st_pass ha (by kernel_rfl) ?_
    clear ha; intro a ha
    refine st_pass ha (by kernel_rfl) ?_
    clear ha; intro a ha
    refine st_val (.bool true) ha (by kernel_rfl) (by kernel_rfl) ?_
    clear ha; intro a ha
    refine st_val (.bool true) ha (by kernel_rfl) (by kernel_rfl) ?_
    clear ha; intro a ha
    refine st_pass ha (by kernel_rfl) ?_
    clear ha; intro a ha
    refine st_pass ha (by kernel_rfl) ?_
    clear ha; intro a ha
    refine st_pass ha (by kernel_rfl) ?_
    clear ha; intro a ha
    refine st_val (.bool true) ha (by kernel_rfl) (by kernel_rfl) ?_
    clear ha; intro a ha
    refine wpList_nil ?_
    refine then_normal ?_
    refine wp_true ha rfl (by kernel_rfl) ?_
    refine wp_seq ?_
    refine wp_region_lit ?_
    refine st_val (.bool false) ha (by kernel_rfl) (by kernel_rfl) ?_
    clear ha; intro a ha
    refine wpList_nil ?_
    refine then_normal ?_
    refine wp_ret ?_
    refine then_ret ?_
    refine ret_with (v := .bool false) ha (results_1 rfl ha (res_tmp (by kernel_rfl) (by kernel_rfl))) ?_
    replace s := (((s.at_ (j := 4) rfl).at_ (j := 4) rfl).at_ (j := 4) rfl).at_ (j := 4) rfl
    replace s : St W (.blk g [.int .i64 k.ti, .int .i64 k.most, .map (some gd), .map (some gt)] 48 :: MapT Try.prog 3 encI gd Dd :: MapT Try.prog 3 encI gt (T.map ent) :: Blks T :: L) w := s.keep 4 1
    refine ⟨?_, s⟩
    congr 2
    clear s ha
    unfold mayB
    repeat' split
    all_goals first | rfl | omega | (rw [decide_eq_true (by omega), Bool.true_and]; done) | (rw [decide_eq_false (by omega)]; rfl) | (simp_all; done) | (simp_all; omega)
  · rw [hb] at ha; replace hb : ¬ (x.kind < (1 : Int)) := of_decide_eq_false hb
    refine hd_val (i := 4) (.pointer (some ⟨g1, 1, none⟩)) ha rfl (by kernel_rfl) (fun _ _ _ h => h) (by kernel_rfl) (fun w hS => (by kernel_rfl)) hS ?_
    clear ha; intro a ha
    refine hd_val (i := 5) (.int .i64 x.kind) ha rfl (by kernel_rfl) (fun _ _ _ h => h) (by kernel_rfl) (fun w hS => run_load1 (of_ := 1) hS.1 rfl (by kernel_rfl) Try.isAgg3 rfl) hS ?_
    clear ha; intro a ha
    refine hd_val (i := 6) (.bool (decide (x.kind > (6 : Int)))) ha rfl (by kernel_rfl) (fun _ _ _ h => h) (by kernel_rfl) (fun w hS => (by kernel_rfl)) hS ?_
    clear ha; intro a ha
    refine hd_val (i := 7) (.bool (decide (x.kind > (6 : Int)))) ha rfl (by kernel_rfl) (fun _ _ _ h => h) (by kernel_rfl) (fun w hS => (by kernel_rfl)) hS ?_
    clear ha; intro a ha
    refine hd_val (i := 8) (.bool (decide (x.kind > (6 : Int)))) ha rfl (by kernel_rfl) (fun _ _ _ h => h) (by kernel_rfl) (fun w hS => (by kernel_rfl)) hS ?_
    clear ha; intro a ha
    rcases Bool.eq_false_or_eq_true (decide (x.kind > (6 : Int))) with hb | hb
    · rw [hb] at ha; replace hb : (x.kind > (6 : Int)) := of_decide_eq_true hb
      refine hd_pass (i := 9) ha rfl (by kernel_rfl) (fun _ _ _ h => h) (by kernel_rfl) hS ?_
      clear ha; intro a ha
      refine hd_pass (i := 10) ha rfl (by kernel_rfl) (fun _ _ _ h => h) (by kernel_rfl) hS ?_
      clear ha; intro a ha
      refine hd_pass (i := 11) ha rfl (by kernel_rfl) (fun _ _ _ h => h) (by kernel_rfl) hS ?_
      clear ha; intro a ha
      refine hd_pass (i := 12) ha rfl (by kernel_rfl) (fun _ _ _ h => h) (by kernel_rfl) hS ?_
      clear ha; intro a ha
      refine hd_pass (i := 13) ha rfl (by kernel_rfl) (fun _ _ _ h => h) (by kernel_rfl) hS ?_
      clear ha; intro a ha
      refine hd_pass (i := 14) ha rfl (by kernel_rfl) (fun _ _ _ h => h) (by kernel_rfl) hS ?_
      clear ha; intro a ha
      refine Head.done (by kernel_rfl) ?_
      clear hS; simp only [List.drop_succ_cons, List.drop_zero]
      refine st_pass ha (by kernel_rfl) ?_
      clear ha; intro a ha
      refine st_val (.bool true) ha (by kernel_rfl) (by kernel_rfl) ?_
      clear ha; intro a ha
      refine st_val (.bool true) ha (by kernel_rfl) (by kernel_rfl) ?_
      clear ha; intro a ha
      refine st_pass ha (by kernel_rfl) ?_
      clear ha; intro a ha
      refine st_pass ha (by kernel_rfl) ?_
      clear ha; intro a ha
      refine st_pass ha (by kernel_rfl) ?_
      clear ha; intro a ha
      refine st_val (.bool true) ha (by kernel_rfl) (by kernel_rfl) ?_
      clear ha; intro a ha
      refine st_val (.bool true) ha (by kernel_rfl) (by kernel_rfl) ?_
      clear ha; intro a ha
      refine st_pass ha (by kernel_rfl) ?_
      clear ha; intro a ha
      refine st_pass ha (by kernel_rfl) ?_
      clear ha; intro a ha
      refine st_pass ha (by kernel_rfl) ?_
      clear ha; intro a ha
      refine st_val (.bool true) ha (by kernel_rfl) (by kernel_rfl) ?_
      clear ha; intro a ha
      refine wpList_nil ?_
      refine then_normal ?_
      refine wp_true ha rfl (by kernel_rfl) ?_
      refine wp_seq ?_
      refine wp_region_lit ?_
      refine st_val (.bool false) ha (by kernel_rfl) (by kernel_rfl) ?_
      clear ha; intro a ha
      refine wpList_nil ?_
      refine then_normal ?_
      refine wp_ret ?_
      refine then_ret ?_
      refine ret_with (v := .bool false) ha (results_1 rfl ha (res_tmp (by kernel_rfl) (by kernel_rfl))) ?_
      replace s := (((s.at_ (j := 4) rfl).at_ (j := 4) rfl).at_ (j := 4) rfl).at_ (j := 4) rfl
      replace s : St W (.blk g [.int .i64 k.ti, .int .i64 k.most, .map (some gd), .map (some gt)] 48 :: MapT Try.prog 3 encI gd Dd :: MapT Try.prog 3 encI gt (T.map ent) :: Blks T :: L) w := s.keep 4 1
      refine ⟨?_, s⟩
      congr 2
      clear s ha
      unfold mayB
      repeat' split
      all_goals first | rfl | omega | (rw [decide_eq_true (by omega), Bool.true_and]; done) | (rw [decide_eq_false (by omega)]; rfl) | (simp_all; done) | (simp_all; omega)
    · rw [hb] at ha; replace hb : ¬ (x.kind > (6 : Int)) := of_decide_eq_false hb
      refine hd_val (i := 9) (.pointer (some ⟨g1, 0, none⟩)) ha rfl (by kernel_rfl) (fun _ _ _ h => h) (by kernel_rfl) (fun w hS => (by kernel_rfl)) hS ?_
      clear ha; intro a ha
      refine hd_val (i := 10) (.int .i64 x.ti) ha rfl (by kernel_rfl) (fun _ _ _ h => h) (by kernel_rfl) (fun w hS => run_load1 (of_ := 0) hS.1 rfl (by kernel_rfl) Try.isAgg3 rfl) hS ?_
      clear ha; intro a ha
      refine hd_val (i := 11) (.pointer (some ⟨g, 0, none⟩)) ha rfl (by kernel_rfl) (fun _ _ _ h => h) (by kernel_rfl) (fun w hS => (by kernel_rfl)) hS ?_
      clear ha; intro a ha
      refine hd_val (i := 12) (.pointer (some ⟨g, 0, none⟩)) ha rfl (by kernel_rfl) (fun _ _ _ h => h) (by kernel_rfl) (fun w hS => (by kernel_rfl)) hS ?_
      clear ha; intro a ha
      refine hd_val (i := 13) (.pointer (some ⟨g, 0, none⟩)) ha rfl (by kernel_rfl) (fun _ _ _ h => h) (by kernel_rfl) (fun w hS => (by kernel_rfl)) hS ?_
      clear ha; intro a ha
      refine hd_val (i := 14) (.int .i64 k.ti) ha rfl (by kernel_rfl) (fun _ _ _ h => h) (by kernel_rfl) (fun w hS => run_load1 (of_ := 0) hS.2.1 rfl (by kernel_rfl) Try.isAgg3 rfl) hS ?_
      clear ha; intro a ha
      refine Head.done (by kernel_rfl) ?_
      clear hS; simp only [List.drop_succ_cons, List.drop_zero]
      refine st_val (.bool (decide (x.ti < k.ti))) ha (by kernel_rfl) (by kernel_rfl) ?_
      clear ha; intro a ha
      refine st_val (.bool (decide (x.ti < k.ti))) ha (by kernel_rfl) (by kernel_rfl) ?_
      clear ha; intro a ha
      refine st_val (.bool (decide (x.ti < k.ti))) ha (by kernel_rfl) (by kernel_rfl) ?_
      clear ha; intro a ha
      rcases Bool.eq_false_or_eq_true (decide (x.ti < k.ti)) with hb | hb
      · rw [hb] at ha; replace hb : (x.ti < k.ti) := of_decide_eq_true hb
        refine st_pass ha (by kernel_rfl) ?_
        clear ha; intro a ha
        refine st_pass ha (by kernel_rfl) ?_
        clear ha; intro a ha
        refine st_pass ha (by kernel_rfl) ?_
        clear ha; intro a ha
        refine st_val (.bool true) ha (by kernel_rfl) (by kernel_rfl) ?_
        clear ha; intro a ha
        refine st_val (.bool true) ha (by kernel_rfl) (by kernel_rfl) ?_
        clear ha; intro a ha
        refine st_pass ha (by kernel_rfl) ?_
        clear ha; intro a ha
        refine st_pass ha (by kernel_rfl) ?_
        clear ha; intro a ha
        refine st_pass ha (by kernel_rfl) ?_
        clear ha; intro a ha
        refine st_val (.bool true) ha (by kernel_rfl) (by kernel_rfl) ?_
        clear ha; intro a ha
        refine wpList_nil ?_
        refine then_normal ?_
        refine wp_true ha rfl (by kernel_rfl) ?_
        refine wp_seq ?_
        refine wp_region_lit ?_
        refine st_val (.bool false) ha (by kernel_rfl) (by kernel_rfl) ?_
        clear ha; intro a ha
        refine wpList_nil ?_
        refine then_normal ?_
        refine wp_ret ?_
        refine then_ret ?_
        refine ret_with (v := .bool false) ha (results_1 rfl ha (res_tmp (by kernel_rfl) (by kernel_rfl))) ?_
        replace s := (((s.at_ (j := 4) rfl).at_ (j := 4) rfl).at_ (j := 4) rfl).at_ (j := 4) rfl
        replace s : St W (.blk g [.int .i64 k.ti, .int .i64 k.most, .map (some gd), .map (some gt)] 48 :: MapT Try.prog 3 encI gd Dd :: MapT Try.prog 3 encI gt (T.map ent) :: Blks T :: L) w := s.keep 4 1
        refine ⟨?_, s⟩
        congr 2
        clear s ha
        unfold mayB
        repeat' split
        all_goals first | rfl | omega | (rw [decide_eq_true (by omega), Bool.true_and]; done) | (rw [decide_eq_false (by omega)]; rfl) | (simp_all; done) | (simp_all; omega)
      · rw [hb] at ha; replace hb : ¬ (x.ti < k.ti) := of_decide_eq_false hb
        refine st_val (.pointer (some ⟨g1, 2, none⟩)) ha (by kernel_rfl) (by kernel_rfl) ?_
        clear ha; intro a ha
        refine st_val (.int .i64 x.node) ha (by kernel_rfl) (run_load1 (of_ := 2) (s.blkIs 0 rfl) rfl (by kernel_rfl) Try.isAgg3 rfl) ?_
        clear ha; intro a ha
        refine st_val (.bool (decide (x.node < (1 : Int)))) ha (by kernel_rfl) (by kernel_rfl) ?_
        clear ha; intro a ha
        refine st_val (.bool (decide (x.node < (1 : Int)))) ha (by kernel_rfl) (by kernel_rfl) ?_
        clear ha; intro a ha
        refine st_val (.bool (decide (x.node < (1 : Int)))) ha (by kernel_rfl) (by kernel_rfl) ?_
        clear ha; intro a ha
        rcases Bool.eq_false_or_eq_true (decide (x.node < (1 : Int))) with hb | hb
        · rw [hb] at ha; replace hb : (x.node < (1 : Int)) := of_decide_eq_true hb
          refine st_pass ha (by kernel_rfl) ?_
          clear ha; intro a ha
          refine st_pass ha (by kernel_rfl) ?_
          clear ha; intro a ha
          refine st_pass ha (by kernel_rfl) ?_
          clear ha; intro a ha
          refine st_val (.bool true) ha (by kernel_rfl) (by kernel_rfl) ?_
          clear ha; intro a ha
          refine wpList_nil ?_
          refine then_normal ?_
          refine wp_true ha rfl (by kernel_rfl) ?_
          refine wp_seq ?_
          refine wp_region_lit ?_
          refine st_val (.bool false) ha (by kernel_rfl) (by kernel_rfl) ?_
          clear ha; intro a ha
          refine wpList_nil ?_
          refine then_normal ?_
          refine wp_ret ?_
          refine then_ret ?_
          refine ret_with (v := .bool false) ha (results_1 rfl ha (res_tmp (by kernel_rfl) (by kernel_rfl))) ?_
          replace s := (((s.at_ (j := 4) rfl).at_ (j := 4) rfl).at_ (j := 4) rfl).at_ (j := 4) rfl
          replace s : St W (.blk g [.int .i64 k.ti, .int .i64 k.most, .map (some gd), .map (some gt)] 48 :: MapT Try.prog 3 encI gd Dd :: MapT Try.prog 3 encI gt (T.map ent) :: Blks T :: L) w := s.keep 4 1
          refine ⟨?_, s⟩
          congr 2
          clear s ha
          unfold mayB
          repeat' split
          all_goals first | rfl | omega | (rw [decide_eq_true (by omega), Bool.true_and]; done) | (rw [decide_eq_false (by omega)]; rfl) | (simp_all; done) | (simp_all; omega)
        · rw [hb] at ha; replace hb : ¬ (x.node < (1 : Int)) := of_decide_eq_false hb
          refine st_val (.pointer (some ⟨g1, 2, none⟩)) ha (by kernel_rfl) (by kernel_rfl) ?_
          clear ha; intro a ha
          refine st_val (.int .i64 x.node) ha (by kernel_rfl) (run_load1 (of_ := 2) (s.blkIs 0 rfl) rfl (by kernel_rfl) Try.isAgg3 rfl) ?_
          clear ha; intro a ha
          refine st_val (.bool (decide (x.node > (4 : Int)))) ha (by kernel_rfl) (by kernel_rfl) ?_
          clear ha; intro a ha
          refine st_val (.bool (decide (x.node > (4 : Int)))) ha (by kernel_rfl) (by kernel_rfl) ?_
          clear ha; intro a ha
          refine wpList_nil ?_
          refine then_normal ?_
          refine wp_part (decide (x.node > (4 : Int))) ha rfl (by kernel_rfl) (fun hb => ?_) (fun hb => ?_)
          · rw [hb] at ha; replace hb : (x.node > (4 : Int)) := of_decide_eq_true hb
            refine wp_seq ?_
            refine wp_region_lit ?_
            refine st_val (.bool false) ha (by kernel_rfl) (by kernel_rfl) ?_
            clear ha; intro a ha
            refine wpList_nil ?_
            refine then_normal ?_
            refine wp_ret ?_
            refine then_ret ?_
            refine ret_with (v := .bool false) ha (results_1 rfl ha (res_tmp (by kernel_rfl) (by kernel_rfl))) ?_
            replace s := (((s.at_ (j := 4) rfl).at_ (j := 4) rfl).at_ (j := 4) rfl).at_ (j := 4) rfl
            replace s : St W (.blk g [.int .i64 k.ti, .int .i64 k.most, .map (some gd), .map (some gt)] 48 :: MapT Try.prog 3 encI gd Dd :: MapT Try.prog 3 encI gt (T.map ent) :: Blks T :: L) w := s.keep 4 1
            refine ⟨?_, s⟩
            congr 2
            clear s ha
            unfold mayB
            repeat' split
            all_goals first | rfl | omega | (rw [decide_eq_true (by omega), Bool.true_and]; done) | (rw [decide_eq_false (by omega)]; rfl) | (simp_all; done) | (simp_all; omega)
          · rw [hb] at ha; replace hb : ¬ (x.node > (4 : Int)) := of_decide_eq_false hb
            refine wp_skip ?_
            refine then_normal ?_
            refine wp_seq ?_
            refine wp_seq ?_
            refine wp_region_lit ?_
            refine st_val (.agg (evv x).toArray) ha (by kernel_rfl) (run_loadN (of_ := 0) (evv x) (s.blkIs 0 rfl) rfl (by kernel_rfl) Try.isAgg36 Try.sizeOf36 rfl (Nat.le_of_ble_eq_true rfl)) ?_
            clear ha; intro a ha
            refine st_call ha (by kernel_rfl) (by kernel_rfl) (has_id W _ w x s) ?_
            rintro _ w ⟨rfl, s⟩
            refine ⟨_, rfl, ?_⟩; clear ha; intro a ha
            refine st_val (.bool (!(hasB x))) ha (by kernel_rfl) (by kernel_rfl) ?_
            clear ha; intro a ha
            refine wpList_nil ?_
            refine then_normal ?_
            refine wp_part (!(hasB x)) ha rfl (by kernel_rfl) (fun hb => ?_) (fun hb => ?_)
            · rw [hb] at ha; skip
              refine wp_seq ?_
              refine wp_region_lit ?_
              refine st_val (.bool true) ha (by kernel_rfl) (by kernel_rfl) ?_
              clear ha; intro a ha
              refine wpList_nil ?_
              refine then_normal ?_
              refine wp_ret ?_
              refine then_ret ?_
              refine ret_with (v := .bool true) ha (results_1 rfl ha (res_tmp (by kernel_rfl) (by kernel_rfl))) ?_
              replace s := (((s.at_ (j := 4) rfl).at_ (j := 4) rfl).at_ (j := 4) rfl).at_ (j := 4) rfl
              replace s : St W (.blk g [.int .i64 k.ti, .int .i64 k.most, .map (some gd), .map (some gt)] 48 :: MapT Try.prog 3 encI gd Dd :: MapT Try.prog 3 encI gt (T.map ent) :: Blks T :: L) w := s.keep 4 1
              refine ⟨?_, s⟩
              congr 2
              clear s ha
              unfold mayB
              repeat' split
              all_goals first | rfl | omega | (rw [decide_eq_true (by omega), Bool.true_and]; done) | (rw [decide_eq_false (by omega)]; rfl) | (simp_all; done) | (simp_all; omega)
            · rw [hb] at ha; skip
              refine wp_skip ?_
              refine then_normal ?_
              refine wp_seq ?_
              refine wp_seq ?_
              refine wp_region_lit ?_
              refine st_val (.pointer (some ⟨g1, 3, none⟩)) ha (by kernel_rfl) (by kernel_rfl) ?_
              clear ha; intro a ha
              refine st_val (.int .i64 x.id) ha (by kernel_rfl) (run_load1 (of_ := 3) (s.blkIs 0 rfl) rfl (by kernel_rfl) Try.isAgg3 rfl) ?_
              clear ha; intro a ha
              refine st_val (.bool (decide (x.id < (1 : Int)))) ha (by kernel_rfl) (by kernel_rfl) ?_
              clear ha; intro a ha
              refine st_val (.bool (decide (x.id < (1 : Int)))) ha (by kernel_rfl) (by kernel_rfl) ?_
              clear ha; intro a ha
              rcases Bool.eq_false_or_eq_true (decide (x.id < (1 : Int))) with hb | hb
              · rw [hb] at ha; replace hb : (x.id < (1 : Int)) := of_decide_eq_true hb
                refine st_pass ha (by kernel_rfl) ?_
                clear ha; intro a ha
                refine st_pass ha (by kernel_rfl) ?_
                clear ha; intro a ha
                refine st_pass ha (by kernel_rfl) ?_
                clear ha; intro a ha
                refine st_val (.bool true) ha (by kernel_rfl) (by kernel_rfl) ?_
                clear ha; intro a ha
                refine st_val (.bool true) ha (by kernel_rfl) (by kernel_rfl) ?_
                clear ha; intro a ha
                refine st_pass ha (by kernel_rfl) ?_
                clear ha; intro a ha
                refine st_pass ha (by kernel_rfl) ?_
                clear ha; intro a ha
                refine st_pass ha (by kernel_rfl) ?_
                clear ha; intro a ha
                refine st_val (.bool true) ha (by kernel_rfl) (by kernel_rfl) ?_
                clear ha; intro a ha
                refine st_val (.bool true) ha (by kernel_rfl) (by kernel_rfl) ?_
                clear ha; intro a ha
                refine st_pass ha (by kernel_rfl) ?_
                clear ha; intro a ha
                refine st_pass ha (by kernel_rfl) ?_
                clear ha; intro a ha
                refine st_pass ha (by kernel_rfl) ?_
                clear ha; intro a ha
                refine st_val (.bool true) ha (by kernel_rfl) (by kernel_rfl) ?_
                clear ha; intro a ha
                refine st_val (.bool true) ha (by kernel_rfl) (by kernel_rfl) ?_
                clear ha; intro a ha
                refine st_pass ha (by kernel_rfl) ?_
                clear ha; intro a ha
                refine st_pass ha (by kernel_rfl) ?_
                clear ha; intro a ha
                refine st_pass ha (by kernel_rfl) ?_
                clear ha; intro a ha
                refine st_pass ha (by kernel_rfl) ?_
                clear ha; intro a ha
                refine st_val (.bool true) ha (by kernel_rfl) (by kernel_rfl) ?_
                clear ha; intro a ha
                refine wpList_nil ?_
                refine then_normal ?_
                refine wp_true ha rfl (by kernel_rfl) ?_
                refine wp_seq ?_
                refine wp_region_lit ?_
                refine st_val (.bool false) ha (by kernel_rfl) (by kernel_rfl) ?_
                clear ha; intro a ha
                refine wpList_nil ?_
                refine then_normal ?_
                refine wp_ret ?_
                refine then_ret ?_
                refine ret_with (v := .bool false) ha (results_1 rfl ha (res_tmp (by kernel_rfl) (by kernel_rfl))) ?_
                replace s := (((s.at_ (j := 4) rfl).at_ (j := 4) rfl).at_ (j := 4) rfl).at_ (j := 4) rfl
                replace s : St W (.blk g [.int .i64 k.ti, .int .i64 k.most, .map (some gd), .map (some gt)] 48 :: MapT Try.prog 3 encI gd Dd :: MapT Try.prog 3 encI gt (T.map ent) :: Blks T :: L) w := s.keep 4 1
                refine ⟨?_, s⟩
                congr 2
                clear s ha
                unfold mayB
                repeat' split
                all_goals first | rfl | omega | (rw [decide_eq_true (by omega), Bool.true_and]; done) | (rw [decide_eq_false (by omega)]; rfl) | (simp_all; done) | (simp_all; omega)
              · rw [hb] at ha; replace hb : ¬ (x.id < (1 : Int)) := of_decide_eq_false hb
                refine st_val (.pointer (some ⟨g1, 3, none⟩)) ha (by kernel_rfl) (by kernel_rfl) ?_
                clear ha; intro a ha
                refine st_val (.int .i64 x.id) ha (by kernel_rfl) (run_load1 (of_ := 3) (s.blkIs 0 rfl) rfl (by kernel_rfl) Try.isAgg3 rfl) ?_
                clear ha; intro a ha
                refine st_val (.bool (decide (x.id > (9007199254740991 : Int)))) ha (by kernel_rfl) (by kernel_rfl) ?_
                clear ha; intro a ha
                refine st_val (.bool (decide (x.id > (9007199254740991 : Int)))) ha (by kernel_rfl) (by kernel_rfl) ?_
                clear ha; intro a ha
                refine st_val (.bool (decide (x.id > (9007199254740991 : Int)))) ha (by kernel_rfl) (by kernel_rfl) ?_
                clear ha; intro a ha
                rcases Bool.eq_false_or_eq_true (decide (x.id > (9007199254740991 : Int))) with hb | hb
                · rw [hb] at ha; replace hb : (x.id > (9007199254740991 : Int)) := of_decide_eq_true hb
                  refine st_pass ha (by kernel_rfl) ?_
                  clear ha; intro a ha
                  refine st_pass ha (by kernel_rfl) ?_
                  clear ha; intro a ha
                  refine st_pass ha (by kernel_rfl) ?_
                  clear ha; intro a ha
                  refine st_val (.bool true) ha (by kernel_rfl) (by kernel_rfl) ?_
                  clear ha; intro a ha
                  refine st_val (.bool true) ha (by kernel_rfl) (by kernel_rfl) ?_
                  clear ha; intro a ha
                  refine st_pass ha (by kernel_rfl) ?_
                  clear ha; intro a ha
                  refine st_pass ha (by kernel_rfl) ?_
                  clear ha; intro a ha
                  refine st_pass ha (by kernel_rfl) ?_
                  clear ha; intro a ha
                  refine st_val (.bool true) ha (by kernel_rfl) (by kernel_rfl) ?_
                  clear ha; intro a ha
                  refine st_val (.bool true) ha (by kernel_rfl) (by kernel_rfl) ?_
                  clear ha; intro a ha
                  refine st_pass ha (by kernel_rfl) ?_
                  clear ha; intro a ha
                  refine st_pass ha (by kernel_rfl) ?_
                  clear ha; intro a ha
                  refine st_pass ha (by kernel_rfl) ?_
                  clear ha; intro a ha
                  refine st_pass ha (by kernel_rfl) ?_
                  clear ha; intro a ha
                  refine st_val (.bool true) ha (by kernel_rfl) (by kernel_rfl) ?_
                  clear ha; intro a ha
                  refine wpList_nil ?_
                  refine then_normal ?_
                  refine wp_true ha rfl (by kernel_rfl) ?_
                  refine wp_seq ?_
                  refine wp_region_lit ?_
                  refine st_val (.bool false) ha (by kernel_rfl) (by kernel_rfl) ?_
                  clear ha; intro a ha
                  refine wpList_nil ?_
                  refine then_normal ?_
                  refine wp_ret ?_
                  refine then_ret ?_
                  refine ret_with (v := .bool false) ha (results_1 rfl ha (res_tmp (by kernel_rfl) (by kernel_rfl))) ?_
                  replace s := (((s.at_ (j := 4) rfl).at_ (j := 4) rfl).at_ (j := 4) rfl).at_ (j := 4) rfl
                  replace s : St W (.blk g [.int .i64 k.ti, .int .i64 k.most, .map (some gd), .map (some gt)] 48 :: MapT Try.prog 3 encI gd Dd :: MapT Try.prog 3 encI gt (T.map ent) :: Blks T :: L) w := s.keep 4 1
                  refine ⟨?_, s⟩
                  congr 2
                  clear s ha
                  unfold mayB
                  repeat' split
                  all_goals first | rfl | omega | (rw [decide_eq_true (by omega), Bool.true_and]; done) | (rw [decide_eq_false (by omega)]; rfl) | (simp_all; done) | (simp_all; omega)
                · rw [hb] at ha; replace hb : ¬ (x.id > (9007199254740991 : Int)) := of_decide_eq_false hb
                  refine st_val (.pointer (some ⟨g1, 4, none⟩)) ha (by kernel_rfl) (by kernel_rfl) ?_
                  clear ha; intro a ha
                  refine st_val (.int .i64 x.epoch) ha (by kernel_rfl) (run_load1 (of_ := 4) (s.blkIs 0 rfl) rfl (by kernel_rfl) Try.isAgg3 rfl) ?_
                  clear ha; intro a ha
                  refine st_val (.bool (decide (x.epoch < (0 : Int)))) ha (by kernel_rfl) (by kernel_rfl) ?_
                  clear ha; intro a ha
                  refine st_val (.bool (decide (x.epoch < (0 : Int)))) ha (by kernel_rfl) (by kernel_rfl) ?_
                  clear ha; intro a ha
                  refine st_val (.bool (decide (x.epoch < (0 : Int)))) ha (by kernel_rfl) (by kernel_rfl) ?_
                  clear ha; intro a ha
                  rcases Bool.eq_false_or_eq_true (decide (x.epoch < (0 : Int))) with hb | hb
                  · rw [hb] at ha; replace hb : (x.epoch < (0 : Int)) := of_decide_eq_true hb
                    refine st_pass ha (by kernel_rfl) ?_
                    clear ha; intro a ha
                    refine st_pass ha (by kernel_rfl) ?_
                    clear ha; intro a ha
                    refine st_pass ha (by kernel_rfl) ?_
                    clear ha; intro a ha
                    refine st_val (.bool true) ha (by kernel_rfl) (by kernel_rfl) ?_
                    clear ha; intro a ha
                    refine st_val (.bool true) ha (by kernel_rfl) (by kernel_rfl) ?_
                    clear ha; intro a ha
                    refine st_pass ha (by kernel_rfl) ?_
                    clear ha; intro a ha
                    refine st_pass ha (by kernel_rfl) ?_
                    clear ha; intro a ha
                    refine st_pass ha (by kernel_rfl) ?_
                    clear ha; intro a ha
                    refine st_pass ha (by kernel_rfl) ?_
                    clear ha; intro a ha
                    refine st_val (.bool true) ha (by kernel_rfl) (by kernel_rfl) ?_
                    clear ha; intro a ha
                    refine wpList_nil ?_
                    refine then_normal ?_
                    refine wp_true ha rfl (by kernel_rfl) ?_
                    refine wp_seq ?_
                    refine wp_region_lit ?_
                    refine st_val (.bool false) ha (by kernel_rfl) (by kernel_rfl) ?_
                    clear ha; intro a ha
                    refine wpList_nil ?_
                    refine then_normal ?_
                    refine wp_ret ?_
                    refine then_ret ?_
                    refine ret_with (v := .bool false) ha (results_1 rfl ha (res_tmp (by kernel_rfl) (by kernel_rfl))) ?_
                    replace s := (((s.at_ (j := 4) rfl).at_ (j := 4) rfl).at_ (j := 4) rfl).at_ (j := 4) rfl
                    replace s : St W (.blk g [.int .i64 k.ti, .int .i64 k.most, .map (some gd), .map (some gt)] 48 :: MapT Try.prog 3 encI gd Dd :: MapT Try.prog 3 encI gt (T.map ent) :: Blks T :: L) w := s.keep 4 1
                    refine ⟨?_, s⟩
                    congr 2
                    clear s ha
                    unfold mayB
                    repeat' split
                    all_goals first | rfl | omega | (rw [decide_eq_true (by omega), Bool.true_and]; done) | (rw [decide_eq_false (by omega)]; rfl) | (simp_all; done) | (simp_all; omega)
                  · rw [hb] at ha; replace hb : ¬ (x.epoch < (0 : Int)) := of_decide_eq_false hb
                    refine st_val (.pointer (some ⟨g1, 4, none⟩)) ha (by kernel_rfl) (by kernel_rfl) ?_
                    clear ha; intro a ha
                    refine st_val (.int .i64 x.epoch) ha (by kernel_rfl) (run_load1 (of_ := 4) (s.blkIs 0 rfl) rfl (by kernel_rfl) Try.isAgg3 rfl) ?_
                    clear ha; intro a ha
                    refine st_val (.bool (decide (x.epoch > (9007199254740991 : Int)))) ha (by kernel_rfl) (by kernel_rfl) ?_
                    clear ha; intro a ha
                    refine st_val (.bool (decide (x.epoch > (9007199254740991 : Int)))) ha (by kernel_rfl) (by kernel_rfl) ?_
                    clear ha; intro a ha
                    refine st_val (.bool (decide (x.epoch > (9007199254740991 : Int)))) ha (by kernel_rfl) (by kernel_rfl) ?_
                    clear ha; intro a ha
                    rcases Bool.eq_false_or_eq_true (decide (x.epoch > (9007199254740991 : Int))) with hb | hb
                    · rw [hb] at ha; replace hb : (x.epoch > (9007199254740991 : Int)) := of_decide_eq_true hb
                      refine st_pass ha (by kernel_rfl) ?_
                      clear ha; intro a ha
                      refine st_pass ha (by kernel_rfl) ?_
                      clear ha; intro a ha
                      refine st_pass ha (by kernel_rfl) ?_
                      clear ha; intro a ha
                      refine st_pass ha (by kernel_rfl) ?_
                      clear ha; intro a ha
                      refine st_val (.bool true) ha (by kernel_rfl) (by kernel_rfl) ?_
                      clear ha; intro a ha
                      refine wpList_nil ?_
                      refine then_normal ?_
                      refine wp_true ha rfl (by kernel_rfl) ?_
                      refine wp_seq ?_
                      refine wp_region_lit ?_
                      refine st_val (.bool false) ha (by kernel_rfl) (by kernel_rfl) ?_
                      clear ha; intro a ha
                      refine wpList_nil ?_
                      refine then_normal ?_
                      refine wp_ret ?_
                      refine then_ret ?_
                      refine ret_with (v := .bool false) ha (results_1 rfl ha (res_tmp (by kernel_rfl) (by kernel_rfl))) ?_
                      replace s := (((s.at_ (j := 4) rfl).at_ (j := 4) rfl).at_ (j := 4) rfl).at_ (j := 4) rfl
                      replace s : St W (.blk g [.int .i64 k.ti, .int .i64 k.most, .map (some gd), .map (some gt)] 48 :: MapT Try.prog 3 encI gd Dd :: MapT Try.prog 3 encI gt (T.map ent) :: Blks T :: L) w := s.keep 4 1
                      refine ⟨?_, s⟩
                      congr 2
                      clear s ha
                      unfold mayB
                      repeat' split
                      all_goals first | rfl | omega | (rw [decide_eq_true (by omega), Bool.true_and]; done) | (rw [decide_eq_false (by omega)]; rfl) | (simp_all; done) | (simp_all; omega)
                    · rw [hb] at ha; replace hb : ¬ (x.epoch > (9007199254740991 : Int)) := of_decide_eq_false hb
                      refine st_val (.pointer (some ⟨g1, 12, none⟩)) ha (by kernel_rfl) (by kernel_rfl) ?_
                      clear ha; intro a ha
                      refine st_val (.agg #[.int .i64 x.wall, .int .i64 x.logic]) ha (by kernel_rfl) (run_loadN (of_ := 12) [.int .i64 x.wall, .int .i64 x.logic] (s.blkIs 0 rfl) rfl (by kernel_rfl) Try.isAgg34 Try.sizeOf34 rfl (Nat.le_of_ble_eq_true rfl)) ?_
                      clear ha; intro a ha
                      refine st_call ha (by kernel_rfl) (by kernel_rfl) (schk_any W _ w x.wall x.logic s) ?_
                      rintro _ w ⟨rfl, s⟩
                      refine ⟨_, rfl, ?_⟩; clear ha; intro a ha
                      refine st_val (.bool ((codeS x.wall x.logic) != (0 : Int))) ha (by kernel_rfl) (by kernel_rfl) ?_
                      clear ha; intro a ha
                      refine st_val (.bool ((codeS x.wall x.logic) != (0 : Int))) ha (by kernel_rfl) (by kernel_rfl) ?_
                      clear ha; intro a ha
                      refine wpList_nil ?_
                      refine then_normal ?_
                      refine wp_part ((codeS x.wall x.logic) != (0 : Int)) ha rfl (by kernel_rfl) (fun hb => ?_) (fun hb => ?_)
                      · rw [hb] at ha; have hb_ := hb; replace hb := bne_iff_ne.1 hb
                        refine wp_seq ?_
                        refine wp_region_lit ?_
                        refine st_val (.bool false) ha (by kernel_rfl) (by kernel_rfl) ?_
                        clear ha; intro a ha
                        refine wpList_nil ?_
                        refine then_normal ?_
                        refine wp_ret ?_
                        refine then_ret ?_
                        refine ret_with (v := .bool false) ha (results_1 rfl ha (res_tmp (by kernel_rfl) (by kernel_rfl))) ?_
                        replace s := (((s.at_ (j := 4) rfl).at_ (j := 4) rfl).at_ (j := 4) rfl).at_ (j := 4) rfl
                        replace s : St W (.blk g [.int .i64 k.ti, .int .i64 k.most, .map (some gd), .map (some gt)] 48 :: MapT Try.prog 3 encI gd Dd :: MapT Try.prog 3 encI gt (T.map ent) :: Blks T :: L) w := s.keep 4 1
                        refine ⟨?_, s⟩
                        congr 2
                        clear s ha
                        unfold mayB
                        repeat' split
                        all_goals first | rfl | omega | (rw [decide_eq_true (by omega), Bool.true_and]; done) | (rw [decide_eq_false (by omega)]; rfl) | (simp_all; done) | (simp_all; omega)
                      · rw [hb] at ha; have hb_ := hb; replace hb := bne_eq_false_iff_eq.1 hb
                        refine wp_skip ?_
                        refine then_normal ?_
                        refine wp_seq ?_
                        refine wp_seq ?_
                        refine wp_region_lit ?_
                        refine st_val (.pointer (some ⟨g1, 1, none⟩)) ha (by kernel_rfl) (by kernel_rfl) ?_
                        clear ha; intro a ha
                        refine st_val (.int .i64 x.kind) ha (by kernel_rfl) (run_load1 (of_ := 1) (s.blkIs 0 rfl) rfl (by kernel_rfl) Try.isAgg3 rfl) ?_
                        clear ha; intro a ha
                        refine wpList_nil ?_
                        refine then_normal ?_
                        refine wp_block ?_
                        refine wp_seq ?_
                        refine wp_seq ?_
                        refine wp_region_lit ?_
                        refine st_val (.bool (x.kind == (2 : Int))) ha (by kernel_rfl) (by kernel_rfl) ?_
                        clear ha; intro a ha
                        refine st_val (.bool (x.kind == (2 : Int))) ha (by kernel_rfl) (by kernel_rfl) ?_
                        clear ha; intro a ha
                        refine wpList_nil ?_
                        refine then_normal ?_
                        refine wp_part (x.kind == (2 : Int)) ha rfl (by kernel_rfl) (fun hb => ?_) (fun hb => ?_)
                        · rw [hb] at ha; have hb_ := hb; replace hb := eq_of_beq hb
                          refine wp_skip ?_
                          refine then_normal ?_
                          refine wp_true ha rfl (by kernel_rfl) ?_
                          refine wp_seq ?_
                          refine wp_region_lit ?_
                          refine st_val (.pointer (some ⟨g1, 5, none⟩)) ha (by kernel_rfl) (by kernel_rfl) ?_
                          clear ha; intro a ha
                          refine st_val (.int .i64 x.op) ha (by kernel_rfl) (run_load1 (of_ := 5) (s.blkIs 0 rfl) rfl (by kernel_rfl) Try.isAgg3 rfl) ?_
                          clear ha; intro a ha
                          refine st_val (.bool (decide (x.op ≥ (1 : Int)))) ha (by kernel_rfl) (by kernel_rfl) ?_
                          clear ha; intro a ha
                          refine st_val (.bool (decide (x.op ≥ (1 : Int)))) ha (by kernel_rfl) (by kernel_rfl) ?_
                          clear ha; intro a ha
                          rcases Bool.eq_false_or_eq_true (decide (x.op ≥ (1 : Int))) with hb | hb
                          · rw [hb] at ha; replace hb : (x.op ≥ (1 : Int)) := of_decide_eq_true hb
                            refine st_val (.pointer (some ⟨g1, 5, none⟩)) ha (by kernel_rfl) (by kernel_rfl) ?_
                            clear ha; intro a ha
                            refine st_val (.int .i64 x.op) ha (by kernel_rfl) (run_load1 (of_ := 5) (s.blkIs 0 rfl) rfl (by kernel_rfl) Try.isAgg3 rfl) ?_
                            clear ha; intro a ha
                            refine st_val (.bool (decide (x.op ≤ (7 : Int)))) ha (by kernel_rfl) (by kernel_rfl) ?_
                            clear ha; intro a ha
                            refine st_val (.bool (decide (x.op ≤ (7 : Int)))) ha (by kernel_rfl) (by kernel_rfl) ?_
                            clear ha; intro a ha
                            refine st_val (.bool (decide (x.op ≤ (7 : Int)))) ha (by kernel_rfl) (by kernel_rfl) ?_
                            clear ha; intro a ha
                            refine wpList_nil ?_
                            refine then_normal ?_
                            refine wp_ret ?_
                            refine block_ret ?_
                            refine then_ret ?_
                            refine ret_with (v := .bool (decide (x.op ≤ (7 : Int)))) ha (results_1 rfl ha (res_tmp (by kernel_rfl) (by kernel_rfl))) ?_
                            replace s := (((s.at_ (j := 4) rfl).at_ (j := 4) rfl).at_ (j := 4) rfl).at_ (j := 4) rfl
                            replace s : St W (.blk g [.int .i64 k.ti, .int .i64 k.most, .map (some gd), .map (some gt)] 48 :: MapT Try.prog 3 encI gd Dd :: MapT Try.prog 3 encI gt (T.map ent) :: Blks T :: L) w := s.keep 4 1
                            refine ⟨?_, s⟩
                            congr 2
                            clear s ha
                            unfold mayB
                            repeat' split
                            all_goals first | rfl | omega | (rw [decide_eq_true (by omega), Bool.true_and]; done) | (rw [decide_eq_false (by omega)]; rfl) | (simp_all; done) | (simp_all; omega)
                          · rw [hb] at ha; replace hb : ¬ (x.op ≥ (1 : Int)) := of_decide_eq_false hb
                            refine st_pass ha (by kernel_rfl) ?_
                            clear ha; intro a ha
                            refine st_pass ha (by kernel_rfl) ?_
                            clear ha; intro a ha
                            refine st_pass ha (by kernel_rfl) ?_
                            clear ha; intro a ha
                            refine st_val (.bool false) ha (by kernel_rfl) (by kernel_rfl) ?_
                            clear ha; intro a ha
                            refine st_val (.bool false) ha (by kernel_rfl) (by kernel_rfl) ?_
                            clear ha; intro a ha
                            refine wpList_nil ?_
                            refine then_normal ?_
                            refine wp_ret ?_
                            refine block_ret ?_
                            refine then_ret ?_
                            refine ret_with (v := .bool false) ha (results_1 rfl ha (res_tmp (by kernel_rfl) (by kernel_rfl))) ?_
                            replace s := (((s.at_ (j := 4) rfl).at_ (j := 4) rfl).at_ (j := 4) rfl).at_ (j := 4) rfl
                            replace s : St W (.blk g [.int .i64 k.ti, .int .i64 k.most, .map (some gd), .map (some gt)] 48 :: MapT Try.prog 3 encI gd Dd :: MapT Try.prog 3 encI gt (T.map ent) :: Blks T :: L) w := s.keep 4 1
                            refine ⟨?_, s⟩
                            congr 2
                            clear s ha
                            unfold mayB
                            repeat' split
                            all_goals first | rfl | omega | (rw [decide_eq_true (by omega), Bool.true_and]; done) | (rw [decide_eq_false (by omega)]; rfl) | (simp_all; done) | (simp_all; omega)
                        · rw [hb] at ha; have hb_ := hb; replace hb := ne_of_beq_false hb
                          refine wp_region_lit ?_
                          refine st_val (.bool (x.kind == (3 : Int))) ha (by kernel_rfl) (by kernel_rfl) ?_
                          clear ha; intro a ha
                          refine st_val (.bool (x.kind == (3 : Int))) ha (by kernel_rfl) (by kernel_rfl) ?_
                          clear ha; intro a ha
                          refine wpList_nil ?_
                          refine then_normal ?_
                          refine wp_part (x.kind == (3 : Int)) ha rfl (by kernel_rfl) (fun hb => ?_) (fun hb => ?_)
                          · rw [hb] at ha; have hb_ := hb; replace hb := eq_of_beq hb
                            refine wp_seq ?_
                            refine wp_region_lit ?_
                            refine st_val (.pointer (some ⟨g1, 5, none⟩)) ha (by kernel_rfl) (by kernel_rfl) ?_
                            clear ha; intro a ha
                            refine st_val (.int .i64 x.op) ha (by kernel_rfl) (run_load1 (of_ := 5) (s.blkIs 0 rfl) rfl (by kernel_rfl) Try.isAgg3 rfl) ?_
                            clear ha; intro a ha
                            refine st_val (.bool (decide (x.op ≥ (1 : Int)))) ha (by kernel_rfl) (by kernel_rfl) ?_
                            clear ha; intro a ha
                            refine st_val (.bool (decide (x.op ≥ (1 : Int)))) ha (by kernel_rfl) (by kernel_rfl) ?_
                            clear ha; intro a ha
                            rcases Bool.eq_false_or_eq_true (decide (x.op ≥ (1 : Int))) with hb | hb
                            · rw [hb] at ha; replace hb : (x.op ≥ (1 : Int)) := of_decide_eq_true hb
                              refine st_val (.pointer (some ⟨g1, 5, none⟩)) ha (by kernel_rfl) (by kernel_rfl) ?_
                              clear ha; intro a ha
                              refine st_val (.int .i64 x.op) ha (by kernel_rfl) (run_load1 (of_ := 5) (s.blkIs 0 rfl) rfl (by kernel_rfl) Try.isAgg3 rfl) ?_
                              clear ha; intro a ha
                              refine st_val (.bool (decide (x.op ≤ (7 : Int)))) ha (by kernel_rfl) (by kernel_rfl) ?_
                              clear ha; intro a ha
                              refine st_val (.bool (decide (x.op ≤ (7 : Int)))) ha (by kernel_rfl) (by kernel_rfl) ?_
                              clear ha; intro a ha
                              refine st_val (.bool (decide (x.op ≤ (7 : Int)))) ha (by kernel_rfl) (by kernel_rfl) ?_
                              clear ha; intro a ha
                              refine wpList_nil ?_
                              refine then_normal ?_
                              refine wp_ret ?_
                              refine block_ret ?_
                              refine then_ret ?_
                              refine ret_with (v := .bool (decide (x.op ≤ (7 : Int)))) ha (results_1 rfl ha (res_tmp (by kernel_rfl) (by kernel_rfl))) ?_
                              replace s := (((s.at_ (j := 4) rfl).at_ (j := 4) rfl).at_ (j := 4) rfl).at_ (j := 4) rfl
                              replace s : St W (.blk g [.int .i64 k.ti, .int .i64 k.most, .map (some gd), .map (some gt)] 48 :: MapT Try.prog 3 encI gd Dd :: MapT Try.prog 3 encI gt (T.map ent) :: Blks T :: L) w := s.keep 4 1
                              refine ⟨?_, s⟩
                              congr 2
                              clear s ha
                              unfold mayB
                              repeat' split
                              all_goals first | rfl | omega | (rw [decide_eq_true (by omega), Bool.true_and]; done) | (rw [decide_eq_false (by omega)]; rfl) | (simp_all; done) | (simp_all; omega)
                            · rw [hb] at ha; replace hb : ¬ (x.op ≥ (1 : Int)) := of_decide_eq_false hb
                              refine st_pass ha (by kernel_rfl) ?_
                              clear ha; intro a ha
                              refine st_pass ha (by kernel_rfl) ?_
                              clear ha; intro a ha
                              refine st_pass ha (by kernel_rfl) ?_
                              clear ha; intro a ha
                              refine st_val (.bool false) ha (by kernel_rfl) (by kernel_rfl) ?_
                              clear ha; intro a ha
                              refine st_val (.bool false) ha (by kernel_rfl) (by kernel_rfl) ?_
                              clear ha; intro a ha
                              refine wpList_nil ?_
                              refine then_normal ?_
                              refine wp_ret ?_
                              refine block_ret ?_
                              refine then_ret ?_
                              refine ret_with (v := .bool false) ha (results_1 rfl ha (res_tmp (by kernel_rfl) (by kernel_rfl))) ?_
                              replace s := (((s.at_ (j := 4) rfl).at_ (j := 4) rfl).at_ (j := 4) rfl).at_ (j := 4) rfl
                              replace s : St W (.blk g [.int .i64 k.ti, .int .i64 k.most, .map (some gd), .map (some gt)] 48 :: MapT Try.prog 3 encI gd Dd :: MapT Try.prog 3 encI gt (T.map ent) :: Blks T :: L) w := s.keep 4 1
                              refine ⟨?_, s⟩
                              congr 2
                              clear s ha
                              unfold mayB
                              repeat' split
                              all_goals first | rfl | omega | (rw [decide_eq_true (by omega), Bool.true_and]; done) | (rw [decide_eq_false (by omega)]; rfl) | (simp_all; done) | (simp_all; omega)
                          · rw [hb] at ha; have hb_ := hb; replace hb := ne_of_beq_false hb
                            refine wp_seq ?_
                            refine wp_region_lit ?_
                            refine st_val (.bool (x.kind == (4 : Int))) ha (by kernel_rfl) (by kernel_rfl) ?_
                            clear ha; intro a ha
                            refine st_val (.bool (x.kind == (4 : Int))) ha (by kernel_rfl) (by kernel_rfl) ?_
                            clear ha; intro a ha
                            refine wpList_nil ?_
                            refine then_normal ?_
                            refine wp_part (x.kind == (4 : Int)) ha rfl (by kernel_rfl) (fun hb => ?_) (fun hb => ?_)
                            · rw [hb] at ha; have hb_ := hb; replace hb := eq_of_beq hb
                              refine wp_seq ?_
                              refine wp_region_lit ?_
                              refine st_val (.pointer (some ⟨g1, 15, none⟩)) ha (by kernel_rfl) (by kernel_rfl) ?_
                              clear ha; intro a ha
                              refine st_val (.int .i64 x.status) ha (by kernel_rfl) (run_load1 (of_ := 15) (s.blkIs 0 rfl) rfl (by kernel_rfl) Try.isAgg3 rfl) ?_
                              clear ha; intro a ha
                              refine st_val (.bool (decide (x.status ≥ (0 : Int)))) ha (by kernel_rfl) (by kernel_rfl) ?_
                              clear ha; intro a ha
                              refine st_val (.bool (decide (x.status ≥ (0 : Int)))) ha (by kernel_rfl) (by kernel_rfl) ?_
                              clear ha; intro a ha
                              rcases Bool.eq_false_or_eq_true (decide (x.status ≥ (0 : Int))) with hb | hb
                              · rw [hb] at ha; replace hb : (x.status ≥ (0 : Int)) := of_decide_eq_true hb
                                refine st_val (.pointer (some ⟨g1, 15, none⟩)) ha (by kernel_rfl) (by kernel_rfl) ?_
                                clear ha; intro a ha
                                refine st_val (.int .i64 x.status) ha (by kernel_rfl) (run_load1 (of_ := 15) (s.blkIs 0 rfl) rfl (by kernel_rfl) Try.isAgg3 rfl) ?_
                                clear ha; intro a ha
                                refine st_val (.bool (decide (x.status ≤ (4 : Int)))) ha (by kernel_rfl) (by kernel_rfl) ?_
                                clear ha; intro a ha
                                refine st_val (.bool (decide (x.status ≤ (4 : Int)))) ha (by kernel_rfl) (by kernel_rfl) ?_
                                clear ha; intro a ha
                                refine st_val (.bool (decide (x.status ≤ (4 : Int)))) ha (by kernel_rfl) (by kernel_rfl) ?_
                                clear ha; intro a ha
                                refine wpList_nil ?_
                                refine then_normal ?_
                                refine wp_ret ?_
                                refine block_ret ?_
                                refine then_ret ?_
                                refine ret_with (v := .bool (decide (x.status ≤ (4 : Int)))) ha (results_1 rfl ha (res_tmp (by kernel_rfl) (by kernel_rfl))) ?_
                                replace s := (((s.at_ (j := 4) rfl).at_ (j := 4) rfl).at_ (j := 4) rfl).at_ (j := 4) rfl
                                replace s : St W (.blk g [.int .i64 k.ti, .int .i64 k.most, .map (some gd), .map (some gt)] 48 :: MapT Try.prog 3 encI gd Dd :: MapT Try.prog 3 encI gt (T.map ent) :: Blks T :: L) w := s.keep 4 1
                                refine ⟨?_, s⟩
                                congr 2
                                clear s ha
                                unfold mayB
                                repeat' split
                                all_goals first | rfl | omega | (rw [decide_eq_true (by omega), Bool.true_and]; done) | (rw [decide_eq_false (by omega)]; rfl) | (simp_all; done) | (simp_all; omega)
                              · rw [hb] at ha; replace hb : ¬ (x.status ≥ (0 : Int)) := of_decide_eq_false hb
                                refine st_pass ha (by kernel_rfl) ?_
                                clear ha; intro a ha
                                refine st_pass ha (by kernel_rfl) ?_
                                clear ha; intro a ha
                                refine st_pass ha (by kernel_rfl) ?_
                                clear ha; intro a ha
                                refine st_val (.bool false) ha (by kernel_rfl) (by kernel_rfl) ?_
                                clear ha; intro a ha
                                refine st_val (.bool false) ha (by kernel_rfl) (by kernel_rfl) ?_
                                clear ha; intro a ha
                                refine wpList_nil ?_
                                refine then_normal ?_
                                refine wp_ret ?_
                                refine block_ret ?_
                                refine then_ret ?_
                                refine ret_with (v := .bool false) ha (results_1 rfl ha (res_tmp (by kernel_rfl) (by kernel_rfl))) ?_
                                replace s := (((s.at_ (j := 4) rfl).at_ (j := 4) rfl).at_ (j := 4) rfl).at_ (j := 4) rfl
                                replace s : St W (.blk g [.int .i64 k.ti, .int .i64 k.most, .map (some gd), .map (some gt)] 48 :: MapT Try.prog 3 encI gd Dd :: MapT Try.prog 3 encI gt (T.map ent) :: Blks T :: L) w := s.keep 4 1
                                refine ⟨?_, s⟩
                                congr 2
                                clear s ha
                                unfold mayB
                                repeat' split
                                all_goals first | rfl | omega | (rw [decide_eq_true (by omega), Bool.true_and]; done) | (rw [decide_eq_false (by omega)]; rfl) | (simp_all; done) | (simp_all; omega)
                            · rw [hb] at ha; have hb_ := hb; replace hb := ne_of_beq_false hb
                              refine wp_skip ?_
                              refine block_normal ?_
                              refine then_normal ?_
                              refine wp_seq ?_
                              refine wp_region_lit ?_
                              refine st_val (.bool true) ha (by kernel_rfl) (by kernel_rfl) ?_
                              clear ha; intro a ha
                              refine wpList_nil ?_
                              refine then_normal ?_
                              refine wp_ret ?_
                              refine ret_with (v := .bool true) ha (results_1 rfl ha (res_tmp (by kernel_rfl) (by kernel_rfl))) ?_
                              replace s := (((s.at_ (j := 4) rfl).at_ (j := 4) rfl).at_ (j := 4) rfl).at_ (j := 4) rfl
                              replace s : St W (.blk g [.int .i64 k.ti, .int .i64 k.most, .map (some gd), .map (some gt)] 48 :: MapT Try.prog 3 encI gd Dd :: MapT Try.prog 3 encI gt (T.map ent) :: Blks T :: L) w := s.keep 4 1
                              refine ⟨?_, s⟩
                              congr 2
                              clear s ha
                              unfold mayB
                              repeat' split
                              all_goals first | rfl | omega | (rw [decide_eq_true (by omega), Bool.true_and]; done) | (rw [decide_eq_false (by omega)]; rfl) | (simp_all; done) | (simp_all; omega)

theorem nodes_any (W : World) (L : List Chunk) (w : World) (g gd gt : Nat) (k : Look) (Dd : List (Int × Value)) (T : List (Int × Nat × Tx)) (n : Nat) (hk : LkOk k Dd T n) (hn : n ≤ 1000000) (x : Ev) (hnode : 1 ≤ x.node ∧ x.node ≤ 4) (s : St W (Chunk.blk g [.int .i64 k.ti, .int .i64 k.most, .map (some gd), .map (some gt)] 48 :: MapT Try.prog 3 encI gd Dd :: MapT Try.prog 3 encI gt (T.map ent) :: Blks T :: L) w) :
    Calls Try.prog 17 #[.pointer (some ⟨g, 0, none⟩), .agg (evv x).toArray] w fun e w' => e = .returned (.bool (nodesB k.dn x)) ∧ St W (Chunk.blk g [.int .i64 k.ti, .int .i64 k.most, .map (some gd), .map (some gt)] 48 :: MapT Try.prog 3 encI gd Dd :: MapT Try.prog 3 encI gt (T.map ent) :: Blks T :: L) w' := by
  refine enter_args (l := [.pointer (some ⟨g, 0, none⟩), .agg (evv x).toArray]) Try.func17 rfl rfl (Nat.le_of_ble_eq_true rfl) ?_
  intro a ha; replace ha : Has a 26 [(0, .pointer (some ⟨g, 0, none⟩)), (1, .agg (evv x).toArray)] := ha
  refine wp_seq ?_
  refine wp_region_lit ?_
  refine st_ex ha (by kernel_rfl) (ex_box (evv x) s rfl (by kernel_rfl)) ?_
  clear ha; rintro _ w a ⟨g1, rfl, s⟩ ha
  refine st_val (.bool false) ha (by kernel_rfl) (by kernel_rfl) ?_
  clear ha; intro a ha
  refine wpList_nil ?_
  refine then_normal ?_
  refine wp_seq ?_
  refine wp_seq ?_
  refine wp_region_lit ?_
  refine st_val (.pointer (some ⟨g1, 1, none⟩)) ha (by kernel_rfl) (by kernel_rfl) ?_
  clear ha; intro a ha
  refine st_val (.int .i64 x.kind) ha (by kernel_rfl) (run_load1 (of_ := 1) (s.blkIs 0 rfl) rfl (by kernel_rfl) Try.isAgg3 rfl) ?_
  clear ha; intro a ha
  refine wpList_nil ?_
  refine then_normal ?_
  refine wp_block ?_
  refine wp_seq ?_
  refine wp_region_lit ?_
  refine st_val (.bool (x.kind == (6 : Int))) ha (by kernel_rfl) (by kernel_rfl) ?_
  clear ha; intro a ha
  refine st_val (.bool (x.kind == (6 : Int))) ha (by kernel_rfl) (by kernel_rfl) ?_
  clear ha; intro a ha
  refine wpList_nil ?_
  refine then_normal ?_
  refine wp_part (x.kind == (6 : Int)) ha rfl (by kernel_rfl) (fun hb => ?_) (fun hb => ?_)
  · rw [hb] at ha; have hb_ := hb; replace hb := eq_of_beq hb
    refine wp_seq ?_
    refine wp_region_head 6 (fun w => BlkIs g [.int .i64 k.ti, .int .i64 k.most, .map (some gd), .map (some gt)] w ∧ BlkIs g1 (evv x) w ∧ True) (by kernel_rfl) (by decide) ?_
    replace s := s.drew; generalize _root_.Go.World.drew _ = w at s ⊢
    have hS : (fun w => BlkIs g [.int .i64 k.ti, .int .i64 k.most, .map (some gd), .map (some gt)] w ∧ BlkIs g1 (evv x) w ∧ True) w := ⟨s.blkIs 1 rfl, s.blkIs 0 rfl, trivial⟩
    refine hd_val (i := 0) (.pointer (some ⟨g, 0, none⟩)) ha rfl (by kernel_rfl) (fun _ _ _ h => h) (by kernel_rfl) (fun w hS => (by kernel_rfl)) hS ?_
    clear ha; intro a ha
    refine hd_val (i := 1) (.pointer (some ⟨g, 0, none⟩)) ha rfl (by kernel_rfl) (fun _ _ _ h => h) (by kernel_rfl) (fun w hS => (by kernel_rfl)) hS ?_
    clear ha; intro a ha
    refine hd_val (i := 2) (.pointer (some ⟨g, 2, none⟩)) ha rfl (by kernel_rfl) (fun _ _ _ h => h) (by kernel_rfl) (fun w hS => (by kernel_rfl)) hS ?_
    clear ha; intro a ha
    refine hd_val (i := 3) (.map (some gd)) ha rfl (by kernel_rfl) (fun _ _ _ h => h) (by kernel_rfl) (fun w hS => run_load1 (of_ := 2) hS.1 rfl (by kernel_rfl) Try.isAgg45 rfl) hS ?_
    clear ha; intro a ha
    refine hd_val (i := 4) (.pointer (some ⟨g1, 2, none⟩)) ha rfl (by kernel_rfl) (fun _ _ _ h => h) (by kernel_rfl) (fun w hS => (by kernel_rfl)) hS ?_
    clear ha; intro a ha
    refine hd_val (i := 5) (.int .i64 x.node) ha rfl (by kernel_rfl) (fun _ _ _ h => h) (by kernel_rfl) (fun w hS => run_load1 (of_ := 2) hS.2.1 rfl (by kernel_rfl) Try.isAgg3 rfl) hS ?_
    clear ha; intro a ha
    refine Head.done (by kernel_rfl) ?_
    clear hS; simp only [List.drop_succ_cons, List.drop_zero]
    refine st_val (.bool (k.dn x.node)) ha (by kernel_rfl) (run_lookup (a := x.node) (.bool (k.dn x.node)) (s.mapIs 2 rfl) rfl (by kernel_rfl) (by kernel_rfl) encI_inj keyed3 Try.underlying45 Try.zeroValue4 (key3 (by omega)) (hk.dn _)) ?_
    clear ha; intro a ha
    refine st_val (.bool (k.dn x.node)) ha (by kernel_rfl) (by kernel_rfl) ?_
    clear ha; intro a ha
    refine wpList_nil ?_
    refine then_normal ?_
    refine wp_ret ?_
    refine block_ret ?_
    refine then_ret ?_
    refine ret_with (v := .bool (k.dn x.node)) ha (results_1 rfl ha (res_tmp (by kernel_rfl) (by kernel_rfl))) ?_
    replace s := (((s.at_ (j := 4) rfl).at_ (j := 4) rfl).at_ (j := 4) rfl).at_ (j := 4) rfl
    replace s : St W (.blk g [.int .i64 k.ti, .int .i64 k.most, .map (some gd), .map (some gt)] 48 :: MapT Try.prog 3 encI gd Dd :: MapT Try.prog 3 encI gt (T.map ent) :: Blks T :: L) w := s.keep 4 1
    refine ⟨?_, s⟩
    congr 2
    unfold nodesB
    first | (simp [*]; done) | (simp_all; done)
  · rw [hb] at ha; have hb_ := hb; replace hb := ne_of_beq_false hb
    refine wp_seq ?_
    refine wp_region_lit ?_
    refine st_val (.bool (x.kind == (4 : Int))) ha (by kernel_rfl) (by kernel_rfl) ?_
    clear ha; intro a ha
    refine st_val (.bool (x.kind == (4 : Int))) ha (by kernel_rfl) (by kernel_rfl) ?_
    clear ha; intro a ha
    refine wpList_nil ?_
    refine then_normal ?_
    refine wp_part (x.kind == (4 : Int)) ha rfl (by kernel_rfl) (fun hb => ?_) (fun hb => ?_)
    · rw [hb] at ha; have hb_ := hb; replace hb := eq_of_beq hb
      refine wp_seq ?_
      refine wp_region_lit ?_
      refine st_val (.bool true) ha (by kernel_rfl) (by kernel_rfl) ?_
      clear ha; intro a ha
      refine wpList_nil ?_
      refine then_normal ?_
      refine wp_ret ?_
      refine block_ret ?_
      refine then_ret ?_
      refine ret_with (v := .bool true) ha (results_1 rfl ha (res_tmp (by kernel_rfl) (by kernel_rfl))) ?_
      replace s := (((s.at_ (j := 4) rfl).at_ (j := 4) rfl).at_ (j := 4) rfl).at_ (j := 4) rfl
      replace s : St W (.blk g [.int .i64 k.ti, .int .i64 k.most, .map (some gd), .map (some gt)] 48 :: MapT Try.prog 3 encI gd Dd :: MapT Try.prog 3 encI gt (T.map ent) :: Blks T :: L) w := s.keep 4 1
      refine ⟨?_, s⟩
      congr 2
      unfold nodesB
      first | (simp [*]; done) | (simp_all; done)
    · rw [hb] at ha; have hb_ := hb; replace hb := ne_of_beq_false hb
      refine wp_skip ?_
      refine block_normal ?_
      refine then_normal ?_
      refine wp_seq ?_
      refine wp_region_head 6 (fun w => BlkIs g [.int .i64 k.ti, .int .i64 k.most, .map (some gd), .map (some gt)] w ∧ BlkIs g1 (evv x) w ∧ True) (by kernel_rfl) (by decide) ?_
      replace s := s.drew; generalize _root_.Go.World.drew _ = w at s ⊢
      have hS : (fun w => BlkIs g [.int .i64 k.ti, .int .i64 k.most, .map (some gd), .map (some gt)] w ∧ BlkIs g1 (evv x) w ∧ True) w := ⟨s.blkIs 1 rfl, s.blkIs 0 rfl, trivial⟩
      refine hd_val (i := 0) (.pointer (some ⟨g, 0, none⟩)) ha rfl (by kernel_rfl) (fun _ _ _ h => h) (by kernel_rfl) (fun w hS => (by kernel_rfl)) hS ?_
      clear ha; intro a ha
      refine hd_val (i := 1) (.pointer (some ⟨g, 0, none⟩)) ha rfl (by kernel_rfl) (fun _ _ _ h => h) (by kernel_rfl) (fun w hS => (by kernel_rfl)) hS ?_
      clear ha; intro a ha
      refine hd_val (i := 2) (.pointer (some ⟨g, 2, none⟩)) ha rfl (by kernel_rfl) (fun _ _ _ h => h) (by kernel_rfl) (fun w hS => (by kernel_rfl)) hS ?_
      clear ha; intro a ha
      refine hd_val (i := 3) (.map (some gd)) ha rfl (by kernel_rfl) (fun _ _ _ h => h) (by kernel_rfl) (fun w hS => run_load1 (of_ := 2) hS.1 rfl (by kernel_rfl) Try.isAgg45 rfl) hS ?_
      clear ha; intro a ha
      refine hd_val (i := 4) (.pointer (some ⟨g1, 2, none⟩)) ha rfl (by kernel_rfl) (fun _ _ _ h => h) (by kernel_rfl) (fun w hS => (by kernel_rfl)) hS ?_
      clear ha; intro a ha
      refine hd_val (i := 5) (.int .i64 x.node) ha rfl (by kernel_rfl) (fun _ _ _ h => h) (by kernel_rfl) (fun w hS => run_load1 (of_ := 2) hS.2.1 rfl (by kernel_rfl) Try.isAgg3 rfl) hS ?_
      clear ha; intro a ha
      refine Head.done (by kernel_rfl) ?_
      clear hS; simp only [List.drop_succ_cons, List.drop_zero]
      refine st_val (.bool (k.dn x.node)) ha (by kernel_rfl) (run_lookup (a := x.node) (.bool (k.dn x.node)) (s.mapIs 2 rfl) rfl (by kernel_rfl) (by kernel_rfl) encI_inj keyed3 Try.underlying45 Try.zeroValue4 (key3 (by omega)) (hk.dn _)) ?_
      clear ha; intro a ha
      refine st_val (.bool (!(k.dn x.node))) ha (by kernel_rfl) (by kernel_rfl) ?_
      clear ha; intro a ha
      refine st_val (.bool (!(k.dn x.node))) ha (by kernel_rfl) (by kernel_rfl) ?_
      clear ha; intro a ha
      refine wpList_nil ?_
      refine then_normal ?_
      refine wp_ret ?_
      refine ret_with (v := .bool (!(k.dn x.node))) ha (results_1 rfl ha (res_tmp (by kernel_rfl) (by kernel_rfl))) ?_
      replace s := (((s.at_ (j := 4) rfl).at_ (j := 4) rfl).at_ (j := 4) rfl).at_ (j := 4) rfl
      replace s : St W (.blk g [.int .i64 k.ti, .int .i64 k.most, .map (some gd), .map (some gt)] 48 :: MapT Try.prog 3 encI gd Dd :: MapT Try.prog 3 encI gt (T.map ent) :: Blks T :: L) w := s.keep 4 1
      refine ⟨?_, s⟩
      congr 2
      unfold nodesB
      first | (simp [*]; done) | (simp_all; done)

theorem begins_any (W : World) (L : List Chunk) (w : World) (g gd gt : Nat) (k : Look) (Dd : List (Int × Value)) (T : List (Int × Nat × Tx)) (n : Nat) (hk : LkOk k Dd T n) (hn : n ≤ 1000000) (x : Ev) (s : St W (Chunk.blk g [.int .i64 k.ti, .int .i64 k.most, .map (some gd), .map (some gt)] 48 :: MapT Try.prog 3 encI gd Dd :: MapT Try.prog 3 encI gt (T.map ent) :: Blks T :: L) w) :
    Calls Try.prog 18 #[.pointer (some ⟨g, 0, none⟩), .agg (evv x).toArray] w fun e w' => e = .returned (.bool (beginsB k.most x)) ∧ St W (Chunk.blk g [.int .i64 k.ti, .int .i64 k.most, .map (some gd), .map (some gt)] 48 :: MapT Try.prog 3 encI gd Dd :: MapT Try.prog 3 encI gt (T.map ent) :: Blks T :: L) w' := by
  have hmost := hk.most
  refine enter_args (l := [.pointer (some ⟨g, 0, none⟩), .agg (evv x).toArray]) Try.func18 rfl rfl (Nat.le_of_ble_eq_true rfl) ?_
  intro a ha; replace ha : Has a 18 [(0, .pointer (some ⟨g, 0, none⟩)), (1, .agg (evv x).toArray)] := ha
  refine wp_seq ?_
  refine wp_region_lit ?_
  refine st_ex ha (by kernel_rfl) (ex_box (evv x) s rfl (by kernel_rfl)) ?_
  clear ha; rintro _ w a ⟨g1, rfl, s⟩ ha
  refine st_val (.bool false) ha (by kernel_rfl) (by kernel_rfl) ?_
  clear ha; intro a ha
  refine wpList_nil ?_
  refine then_normal ?_
  refine wp_seq ?_
  refine wp_region_head 11 (fun w => BlkIs g1 (evv x) w ∧ BlkIs g [.int .i64 k.ti, .int .i64 k.most, .map (some gd), .map (some gt)] w ∧ True) (by kernel_rfl) (by decide) ?_
  replace s := s.drew; generalize _root_.Go.World.drew _ = w at s ⊢
  have hS : (fun w => BlkIs g1 (evv x) w ∧ BlkIs g [.int .i64 k.ti, .int .i64 k.most, .map (some gd), .map (some gt)] w ∧ True) w := ⟨s.blkIs 0 rfl, s.blkIs 1 rfl, trivial⟩
  refine hd_val (i := 0) (.pointer (some ⟨g1, 1, none⟩)) ha rfl (by kernel_rfl) (fun _ _ _ h => h) (by kernel_rfl) (fun w hS => (by kernel_rfl)) hS ?_
  clear ha; intro a ha
  refine hd_val (i := 1) (.int .i64 x.kind) ha rfl (by kernel_rfl) (fun _ _ _ h => h) (by kernel_rfl) (fun w hS => run_load1 (of_ := 1) hS.1 rfl (by kernel_rfl) Try.isAgg3 rfl) hS ?_
  clear ha; intro a ha
  refine hd_val (i := 2) (.bool (x.kind != (1 : Int))) ha rfl (by kernel_rfl) (fun _ _ _ h => h) (by kernel_rfl) (fun w hS => (by kernel_rfl)) hS ?_
  clear ha; intro a ha
  refine hd_val (i := 3) (.bool (x.kind != (1 : Int))) ha rfl (by kernel_rfl) (fun _ _ _ h => h) (by kernel_rfl) (fun w hS => (by kernel_rfl)) hS ?_
  clear ha; intro a ha
  rcases Bool.eq_false_or_eq_true (x.kind != (1 : Int)) with hb | hb
  · rw [hb] at ha; have hb_ := hb; replace hb := bne_iff_ne.1 hb
    refine hd_pass (i := 4) ha rfl (by kernel_rfl) (fun _ _ _ h => h) (by kernel_rfl) hS ?_
    clear ha; intro a ha
    refine hd_pass (i := 5) ha rfl (by kernel_rfl) (fun _ _ _ h => h) (by kernel_rfl) hS ?_
    clear ha; intro a ha
    refine hd_pass (i := 6) ha rfl (by kernel_rfl) (fun _ _ _ h => h) (by kernel_rfl) hS ?_
    clear ha; intro a ha
    refine hd_pass (i := 7) ha rfl (by kernel_rfl) (fun _ _ _ h => h) (by kernel_rfl) hS ?_
    clear ha; intro a ha
    refine hd_pass (i := 8) ha rfl (by kernel_rfl) (fun _ _ _ h => h) (by kernel_rfl) hS ?_
    clear ha; intro a ha
    refine hd_pass (i := 9) ha rfl (by kernel_rfl) (fun _ _ _ h => h) (by kernel_rfl) hS ?_
    clear ha; intro a ha
    refine hd_pass (i := 10) ha rfl (by kernel_rfl) (fun _ _ _ h => h) (by kernel_rfl) hS ?_
    clear ha; intro a ha
    refine Head.done (by kernel_rfl) ?_
    clear hS; simp only [List.drop_succ_cons, List.drop_zero]
    refine st_pass ha (by kernel_rfl) ?_
    clear ha; intro a ha
    refine st_val (.bool true) ha (by kernel_rfl) (by kernel_rfl) ?_
    clear ha; intro a ha
    refine st_val (.bool true) ha (by kernel_rfl) (by kernel_rfl) ?_
    clear ha; intro a ha
    refine wpList_nil ?_
    refine then_normal ?_
    refine wp_ret ?_
    refine ret_with (v := .bool true) ha (results_1 rfl ha (res_tmp (by kernel_rfl) (by kernel_rfl))) ?_
    replace s := (((s.at_ (j := 4) rfl).at_ (j := 4) rfl).at_ (j := 4) rfl).at_ (j := 4) rfl
    replace s : St W (.blk g [.int .i64 k.ti, .int .i64 k.most, .map (some gd), .map (some gt)] 48 :: MapT Try.prog 3 encI gd Dd :: MapT Try.prog 3 encI gt (T.map ent) :: Blks T :: L) w := s.keep 4 1
    refine ⟨?_, s⟩
    congr 2
    unfold beginsB
    first | (simp [*]; done) | (simp_all; done)
  · rw [hb] at ha; have hb_ := hb; replace hb := bne_eq_false_iff_eq.1 hb
    refine hd_val (i := 4) (.pointer (some ⟨g1, 3, none⟩)) ha rfl (by kernel_rfl) (fun _ _ _ h => h) (by kernel_rfl) (fun w hS => (by kernel_rfl)) hS ?_
    clear ha; intro a ha
    refine hd_val (i := 5) (.int .i64 x.id) ha rfl (by kernel_rfl) (fun _ _ _ h => h) (by kernel_rfl) (fun w hS => run_load1 (of_ := 3) hS.1 rfl (by kernel_rfl) Try.isAgg3 rfl) hS ?_
    clear ha; intro a ha
    refine hd_val (i := 6) (.pointer (some ⟨g, 0, none⟩)) ha rfl (by kernel_rfl) (fun _ _ _ h => h) (by kernel_rfl) (fun w hS => (by kernel_rfl)) hS ?_
    clear ha; intro a ha
    refine hd_val (i := 7) (.pointer (some ⟨g, 0, none⟩)) ha rfl (by kernel_rfl) (fun _ _ _ h => h) (by kernel_rfl) (fun w hS => (by kernel_rfl)) hS ?_
    clear ha; intro a ha
    refine hd_val (i := 8) (.pointer (some ⟨g, 1, none⟩)) ha rfl (by kernel_rfl) (fun _ _ _ h => h) (by kernel_rfl) (fun w hS => (by kernel_rfl)) hS ?_
    clear ha; intro a ha
    refine hd_val (i := 9) (.int .i64 k.most) ha rfl (by kernel_rfl) (fun _ _ _ h => h) (by kernel_rfl) (fun w hS => run_load1 (of_ := 1) hS.2.1 rfl (by kernel_rfl) Try.isAgg3 rfl) hS ?_
    clear ha; intro a ha
    refine hd_val (i := 10) (.int .i64 (k.most + (1 : Int))) ha rfl (by kernel_rfl) (fun _ _ _ h => h) (by kernel_rfl) (fun w hS => (run_arith (k.most + (1 : Int)) (k.most + (1 : Int)) rfl (by kernel_rfl) (by kernel_rfl) (.inl ⟨rfl, rfl⟩) (by rw [wrap64_in (by omega)]) _)) hS ?_
    clear ha; intro a ha
    refine Head.done (by kernel_rfl) ?_
    clear hS; simp only [List.drop_succ_cons, List.drop_zero]
    refine st_val (.bool (x.id == (k.most + (1 : Int)))) ha (by kernel_rfl) (by kernel_rfl) ?_
    clear ha; intro a ha
    refine st_val (.bool (x.id == (k.most + (1 : Int)))) ha (by kernel_rfl) (by kernel_rfl) ?_
    clear ha; intro a ha
    refine st_val (.bool (x.id == (k.most + (1 : Int)))) ha (by kernel_rfl) (by kernel_rfl) ?_
    clear ha; intro a ha
    refine wpList_nil ?_
    refine then_normal ?_
    refine wp_ret ?_
    refine ret_with (v := .bool (x.id == (k.most + (1 : Int)))) ha (results_1 rfl ha (res_tmp (by kernel_rfl) (by kernel_rfl))) ?_
    replace s := (((s.at_ (j := 4) rfl).at_ (j := 4) rfl).at_ (j := 4) rfl).at_ (j := 4) rfl
    replace s : St W (.blk g [.int .i64 k.ti, .int .i64 k.most, .map (some gd), .map (some gt)] 48 :: MapT Try.prog 3 encI gd Dd :: MapT Try.prog 3 encI gt (T.map ent) :: Blks T :: L) w := s.keep 4 1
    refine ⟨?_, s⟩
    congr 2
    unfold beginsB
    first | (simp [*]; done) | (simp_all; done)

theorem asks_any (W : World) (L : List Chunk) (w : World) (g gd gt : Nat) (k : Look) (Dd : List (Int × Value)) (T : List (Int × Nat × Tx)) (n : Nat) (hk : LkOk k Dd T n) (hn : n ≤ 1000000) (x : Ev) (hmx : mayB k.ti x = true) (s : St W (Chunk.blk g [.int .i64 k.ti, .int .i64 k.most, .map (some gd), .map (some gt)] 48 :: MapT Try.prog 3 encI gd Dd :: MapT Try.prog 3 encI gt (T.map ent) :: Blks T :: L) w) :
    Calls Try.prog 19 #[.pointer (some ⟨g, 0, none⟩), .agg (evv x).toArray] w fun e w' => ∃ T2 : List (Int × Nat × Tx), e = .returned (.bool (asksB (k.tx x.id) x)) ∧ LkOk k Dd T2 (n + 1) ∧ St W (Chunk.blk g [.int .i64 k.ti, .int .i64 k.most, .map (some gd), .map (some gt)] 48 :: MapT Try.prog 3 encI gd Dd :: MapT Try.prog 3 encI gt (T2.map ent) :: Blks T2 :: L) w' := by
  refine enter_args (l := [.pointer (some ⟨g, 0, none⟩), .agg (evv x).toArray]) Try.func19 rfl rfl (Nat.le_of_ble_eq_true rfl) ?_
  intro a ha; replace ha : Has a 33 [(0, .pointer (some ⟨g, 0, none⟩)), (1, .agg (evv x).toArray)] := ha
  refine wp_seq ?_
  refine wp_region_lit ?_
  refine st_ex ha (by kernel_rfl) (ex_box (evv x) s rfl (by kernel_rfl)) ?_
  clear ha; rintro _ w a ⟨g1, rfl, s⟩ ha
  refine st_val (.bool false) ha (by kernel_rfl) (by kernel_rfl) ?_
  clear ha; intro a ha
  refine wpList_nil ?_
  refine then_normal ?_
  refine wp_seq ?_
  refine wp_seq ?_
  refine wp_region_lit ?_
  refine st_val (.pointer (some ⟨g1, 1, none⟩)) ha (by kernel_rfl) (by kernel_rfl) ?_
  clear ha; intro a ha
  refine st_val (.int .i64 x.kind) ha (by kernel_rfl) (run_load1 (of_ := 1) (s.blkIs 0 rfl) rfl (by kernel_rfl) Try.isAgg3 rfl) ?_
  clear ha; intro a ha
  refine st_val (.bool (x.kind != (2 : Int))) ha (by kernel_rfl) (by kernel_rfl) ?_
  clear ha; intro a ha
  refine wpList_nil ?_
  refine then_normal ?_
  refine wp_part (x.kind != (2 : Int)) ha rfl (by kernel_rfl) (fun hb => ?_) (fun hb => ?_)
  · rw [hb] at ha; have hb_ := hb; replace hb := bne_iff_ne.1 hb
    refine wp_seq ?_
    refine wp_region_lit ?_
    refine st_val (.bool true) ha (by kernel_rfl) (by kernel_rfl) ?_
    clear ha; intro a ha
    refine wpList_nil ?_
    refine then_normal ?_
    refine wp_ret ?_
    refine then_ret ?_
    refine ret_with (v := .bool true) ha (results_1 rfl ha (res_tmp (by kernel_rfl) (by kernel_rfl))) ?_
    replace s := (((s.at_ (j := 4) rfl).at_ (j := 4) rfl).at_ (j := 4) rfl).at_ (j := 4) rfl
    replace s : St W (.blk g [.int .i64 k.ti, .int .i64 k.most, .map (some gd), .map (some gt)] 48 :: MapT Try.prog 3 encI gd Dd :: MapT Try.prog 3 encI gt (T.map ent) :: Blks T :: L) w := s.keep 4 1
    refine ⟨T, ?_, hk.up (by omega), s⟩
    congr 2
    clear s ha
    unfold asksB
    first | (simp [*]; done) | (simp_all; done) | (simp [*]; omega)
  · rw [hb] at ha; have hb_ := hb; replace hb := bne_eq_false_iff_eq.1 hb
    have hid := may_has hmx (has_iff.2 (by omega))
    refine wp_skip ?_
    refine then_normal ?_
    refine wp_seq ?_
    refine wp_region_lit ?_
    refine st_val (.pointer (some ⟨g, 0, none⟩)) ha (by kernel_rfl) (by kernel_rfl) ?_
    clear ha; intro a ha
    refine st_val (.pointer (some ⟨g1, 3, none⟩)) ha (by kernel_rfl) (by kernel_rfl) ?_
    clear ha; intro a ha
    refine st_val (.int .i64 x.id) ha (by kernel_rfl) (run_load1 (of_ := 3) (s.blkIs 0 rfl) rfl (by kernel_rfl) Try.isAgg3 rfl) ?_
    clear ha; intro a ha
    replace s := (((s.at_ (j := 4) rfl).at_ (j := 4) rfl).at_ (j := 4) rfl).at_ (j := 4) rfl
    replace s : St W (.blk g [.int .i64 k.ti, .int .i64 k.most, .map (some gd), .map (some gt)] 48 :: MapT Try.prog 3 encI gd Dd :: MapT Try.prog 3 encI gt (T.map ent) :: Blks T :: .blk g1 (evv x) 36 :: L) w := s
    refine st_call ha (by kernel_rfl) (by kernel_rfl) (txn_any W _ w g gd gt k Dd T n hk hn x.id (by omega) s) ?_
    rintro _ w ⟨T2, q, b, rfl, ht2, hk2, s⟩
    obtain ⟨t, ht⟩ : ∃ t, t = k.tx x.id := ⟨_, rfl⟩
    rw [← ht] at ht2
    replace s := s.at_ (j := 3) rfl
    replace s : St W (Blks T2 :: .blk g [.int .i64 k.ti, .int .i64 k.most, .map (some gd), .map (some gt)] 48 :: MapT Try.prog 3 encI gd Dd :: MapT Try.prog 3 encI gt (T2.map ent) :: .blk g1 (evv x) 36 :: L) w := s
    replace s := Blks.open_ ht2 s
    replace s : St W (.blk b (txv t) 67 :: BRest T2 q :: .blk g [.int .i64 k.ti, .int .i64 k.most, .map (some gd), .map (some gt)] 48 :: MapT Try.prog 3 encI gd Dd :: MapT Try.prog 3 encI gt (T2.map ent) :: .blk g1 (evv x) 36 :: L) w := s
    refine ⟨_, rfl, ?_⟩; clear ha; intro a ha
    refine st_val (.pointer (some ⟨b, 0, none⟩)) ha (by kernel_rfl) (by kernel_rfl) ?_
    clear ha; intro a ha
    refine wpList_nil ?_
    refine then_normal ?_
    refine wp_seq ?_
    refine wp_region_head 11 (fun w => BlkIs b (txv t) w ∧ BlkIs g1 (evv x) w ∧ True) (by kernel_rfl) (by decide) ?_
    replace s := s.drew; generalize _root_.Go.World.drew _ = w at s ⊢
    have hS : (fun w => BlkIs b (txv t) w ∧ BlkIs g1 (evv x) w ∧ True) w := ⟨s.blkIs 0 rfl, s.blkIs 5 rfl, trivial⟩
    refine hd_val (i := 0) (.pointer (some ⟨b, 0, none⟩)) ha rfl (by kernel_rfl) (fun _ _ _ h => h) (by kernel_rfl) (fun w hS => (by kernel_rfl)) hS ?_
    clear ha; intro a ha
    refine hd_val (i := 1) (.pointer (some ⟨b, 0, none⟩)) ha rfl (by kernel_rfl) (fun _ _ _ h => h) (by kernel_rfl) (fun w hS => (by kernel_rfl)) hS ?_
    clear ha; intro a ha
    refine hd_val (i := 2) (.pointer (some ⟨b, 2, none⟩)) ha rfl (by kernel_rfl) (fun _ _ _ h => h) (by kernel_rfl) (fun w hS => (by kernel_rfl)) hS ?_
    clear ha; intro a ha
    refine hd_val (i := 3) (.bool t.began) ha rfl (by kernel_rfl) (fun _ _ _ h => h) (by kernel_rfl) (fun w hS => run_load1 (of_ := 2) hS.1 rfl (by kernel_rfl) Try.isAgg4 rfl) hS ?_
    clear ha; intro a ha
    refine hd_val (i := 4) (.bool t.began) ha rfl (by kernel_rfl) (fun _ _ _ h => h) (by kernel_rfl) (fun w hS => (by kernel_rfl)) hS ?_
    clear ha; intro a ha
    rcases Bool.eq_false_or_eq_true t.began with hb | hb
    · rw [hb] at ha; skip
      refine hd_val (i := 5) (.pointer (some ⟨b, 0, none⟩)) ha rfl (by kernel_rfl) (fun _ _ _ h => h) (by kernel_rfl) (fun w hS => (by kernel_rfl)) hS ?_
      clear ha; intro a ha
      refine hd_val (i := 6) (.pointer (some ⟨b, 0, none⟩)) ha rfl (by kernel_rfl) (fun _ _ _ h => h) (by kernel_rfl) (fun w hS => (by kernel_rfl)) hS ?_
      clear ha; intro a ha
      refine hd_val (i := 7) (.pointer (some ⟨b, 0, none⟩)) ha rfl (by kernel_rfl) (fun _ _ _ h => h) (by kernel_rfl) (fun w hS => (by kernel_rfl)) hS ?_
      clear ha; intro a ha
      refine hd_val (i := 8) (.int .i64 t.node) ha rfl (by kernel_rfl) (fun _ _ _ h => h) (by kernel_rfl) (fun w hS => run_load1 (of_ := 0) hS.1 rfl (by kernel_rfl) Try.isAgg3 rfl) hS ?_
      clear ha; intro a ha
      refine hd_val (i := 9) (.pointer (some ⟨g1, 2, none⟩)) ha rfl (by kernel_rfl) (fun _ _ _ h => h) (by kernel_rfl) (fun w hS => (by kernel_rfl)) hS ?_
      clear ha; intro a ha
      refine hd_val (i := 10) (.int .i64 x.node) ha rfl (by kernel_rfl) (fun _ _ _ h => h) (by kernel_rfl) (fun w hS => run_load1 (of_ := 2) hS.2.1 rfl (by kernel_rfl) Try.isAgg3 rfl) hS ?_
      clear ha; intro a ha
      refine Head.done (by kernel_rfl) ?_
      clear hS; simp only [List.drop_succ_cons, List.drop_zero]
      refine st_val (.bool (t.node == x.node)) ha (by kernel_rfl) (by kernel_rfl) ?_
      clear ha; intro a ha
      refine st_val (.bool (t.node == x.node)) ha (by kernel_rfl) (by kernel_rfl) ?_
      clear ha; intro a ha
      refine st_val (.bool (t.node == x.node)) ha (by kernel_rfl) (by kernel_rfl) ?_
      clear ha; intro a ha
      rcases Bool.eq_false_or_eq_true (t.node == x.node) with hb | hb
      · rw [hb] at ha; have hb_ := hb; replace hb := eq_of_beq hb
        refine st_val (.pointer (some ⟨b, 0, none⟩)) ha (by kernel_rfl) (by kernel_rfl) ?_
        clear ha; intro a ha
        refine st_val (.pointer (some ⟨b, 0, none⟩)) ha (by kernel_rfl) (by kernel_rfl) ?_
        clear ha; intro a ha
        refine st_val (.pointer (some ⟨b, 1, none⟩)) ha (by kernel_rfl) (by kernel_rfl) ?_
        clear ha; intro a ha
        refine st_val (.int .i64 t.stand) ha (by kernel_rfl) (run_load1 (of_ := 1) (s.blkIs 0 rfl) rfl (by kernel_rfl) Try.isAgg3 rfl) ?_
        clear ha; intro a ha
        refine st_val (.bool (t.stand == (0 : Int))) ha (by kernel_rfl) (by kernel_rfl) ?_
        clear ha; intro a ha
        refine st_val (.bool (t.stand == (0 : Int))) ha (by kernel_rfl) (by kernel_rfl) ?_
        clear ha; intro a ha
        refine st_val (.bool (t.stand == (0 : Int))) ha (by kernel_rfl) (by kernel_rfl) ?_
        clear ha; intro a ha
        refine wpList_nil ?_
        refine then_normal ?_
        refine wp_ret ?_
        refine ret_with (v := .bool (t.stand == (0 : Int))) ha (results_1 rfl ha (res_tmp (by kernel_rfl) (by kernel_rfl))) ?_
        replace s : St W (.blk b (txv t) 67 :: BRest T2 q :: .blk g [.int .i64 k.ti, .int .i64 k.most, .map (some gd), .map (some gt)] 48 :: MapT Try.prog 3 encI gd Dd :: MapT Try.prog 3 encI gt (T2.map ent) :: L) w := s.keep 5 1
        replace s := Blks.back ht2 s
        replace s := s.at_ (j := 3) rfl
        replace s := s.at_ (j := 3) rfl
        replace s := s.at_ (j := 3) rfl
        refine ⟨T2, ?_, hk2, s⟩
        rw [← ht]
        congr 2
        clear s ha ht2 hk2 ht
        unfold asksB
        first | (simp [*]; done) | (simp_all; done) | (simp [*]; omega)
      · rw [hb] at ha; have hb_ := hb; replace hb := ne_of_beq_false hb
        refine st_pass ha (by kernel_rfl) ?_
        clear ha; intro a ha
        refine st_pass ha (by kernel_rfl) ?_
        clear ha; intro a ha
        refine st_pass ha (by kernel_rfl) ?_
        clear ha; intro a ha
        refine st_pass ha (by kernel_rfl) ?_
        clear ha; intro a ha
        refine st_pass ha (by kernel_rfl) ?_
        clear ha; intro a ha
        refine st_val (.bool false) ha (by kernel_rfl) (by kernel_rfl) ?_
        clear ha; intro a ha
        refine st_val (.bool false) ha (by kernel_rfl) (by kernel_rfl) ?_
        clear ha; intro a ha
        refine wpList_nil ?_
        refine then_normal ?_
        refine wp_ret ?_
        refine ret_with (v := .bool false) ha (results_1 rfl ha (res_tmp (by kernel_rfl) (by kernel_rfl))) ?_
        replace s : St W (.blk b (txv t) 67 :: BRest T2 q :: .blk g [.int .i64 k.ti, .int .i64 k.most, .map (some gd), .map (some gt)] 48 :: MapT Try.prog 3 encI gd Dd :: MapT Try.prog 3 encI gt (T2.map ent) :: L) w := s.keep 5 1
        replace s := Blks.back ht2 s
        replace s := s.at_ (j := 3) rfl
        replace s := s.at_ (j := 3) rfl
        replace s := s.at_ (j := 3) rfl
        refine ⟨T2, ?_, hk2, s⟩
        rw [← ht]
        congr 2
        clear s ha ht2 hk2 ht
        unfold asksB
        first | (simp [*]; done) | (simp_all; done) | (simp [*]; omega)
    · rw [hb] at ha; skip
      refine hd_pass (i := 5) ha rfl (by kernel_rfl) (fun _ _ _ h => h) (by kernel_rfl) hS ?_
      clear ha; intro a ha
      refine hd_pass (i := 6) ha rfl (by kernel_rfl) (fun _ _ _ h => h) (by kernel_rfl) hS ?_
      clear ha; intro a ha
      refine hd_pass (i := 7) ha rfl (by kernel_rfl) (fun _ _ _ h => h) (by kernel_rfl) hS ?_
      clear ha; intro a ha
      refine hd_pass (i := 8) ha rfl (by kernel_rfl) (fun _ _ _ h => h) (by kernel_rfl) hS ?_
      clear ha; intro a ha
      refine hd_pass (i := 9) ha rfl (by kernel_rfl) (fun _ _ _ h => h) (by kernel_rfl) hS ?_
      clear ha; intro a ha
      refine hd_pass (i := 10) ha rfl (by kernel_rfl) (fun _ _ _ h => h) (by kernel_rfl) hS ?_
      clear ha; intro a ha
      refine Head.done (by kernel_rfl) ?_
      clear hS; simp only [List.drop_succ_cons, List.drop_zero]
      refine st_pass ha (by kernel_rfl) ?_
      clear ha; intro a ha
      refine st_val (.bool false) ha (by kernel_rfl) (by kernel_rfl) ?_
      clear ha; intro a ha
      refine st_val (.bool false) ha (by kernel_rfl) (by kernel_rfl) ?_
      clear ha; intro a ha
      refine st_pass ha (by kernel_rfl) ?_
      clear ha; intro a ha
      refine st_pass ha (by kernel_rfl) ?_
      clear ha; intro a ha
      refine st_pass ha (by kernel_rfl) ?_
      clear ha; intro a ha
      refine st_pass ha (by kernel_rfl) ?_
      clear ha; intro a ha
      refine st_pass ha (by kernel_rfl) ?_
      clear ha; intro a ha
      refine st_val (.bool false) ha (by kernel_rfl) (by kernel_rfl) ?_
      clear ha; intro a ha
      refine st_val (.bool false) ha (by kernel_rfl) (by kernel_rfl) ?_
      clear ha; intro a ha
      refine wpList_nil ?_
      refine then_normal ?_
      refine wp_ret ?_
      refine ret_with (v := .bool false) ha (results_1 rfl ha (res_tmp (by kernel_rfl) (by kernel_rfl))) ?_
      replace s : St W (.blk b (txv t) 67 :: BRest T2 q :: .blk g [.int .i64 k.ti, .int .i64 k.most, .map (some gd), .map (some gt)] 48 :: MapT Try.prog 3 encI gd Dd :: MapT Try.prog 3 encI gt (T2.map ent) :: L) w := s.keep 5 1
      replace s := Blks.back ht2 s
      replace s := s.at_ (j := 3) rfl
      replace s := s.at_ (j := 3) rfl
      replace s := s.at_ (j := 3) rfl
      refine ⟨T2, ?_, hk2, s⟩
      rw [← ht]
      congr 2
      clear s ha ht2 hk2 ht
      unfold asksB
      first | (simp [*]; done) | (simp_all; done) | (simp [*]; omega)

end Go.Proofs.Ytfcbjcohepkkfaa.B
