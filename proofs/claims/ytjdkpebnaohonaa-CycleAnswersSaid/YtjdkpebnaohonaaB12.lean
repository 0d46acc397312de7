import Derived.Test.YtjdkpebnaohonaaB11
import Derived.ChangeKeysEq
namespace Go.Proofs.Ytjdkpebnaohonaa.B
open Go.RowKit Go.Maps Go.Proofs.Ytjdkpebnaohonaa.Sep Go.Proofs.Ytjdkpebnaohonaa.P
set_option linter.unusedVariables false
set_option linter.unusedSimpArgs false
theorem eq37 (x y : Int) (w : World) : (Op.equalIn 10000 37 (.agg #[.int .i64 x, .int .i64 y]) (.agg #[.int .i64 x, .int .i64 y])).run Try.prog w = .ok true w := by
  obtain ⟨i, hi⟩ : ∃ i, Try.prog.info? 3 = some i := ⟨_, rfl⟩
  rw [show (10000 : Nat) = 9999 + 1 from rfl, run_equalIn_array w 9999 _ _ Try.underlying37 hi]
  have u3 := Try.underlying3
  have hc : Try.prog.cellsOf 3 = 1 := by kernel_rfl
  simp [Op.eqItems, List.range, List.range.loop, hc]
  have a3 := Try.isAgg3
  simp [part, a3, Result.andThen, run_equalIn_int _ _ _ _ _ _ _ u3]
theorem eq34 (x y : Int) (w : World) : (Op.equalIn 10000 34 (.agg #[.int .i64 x, .int .i64 y]) (.agg #[.int .i64 x, .int .i64 y])).run Try.prog w = .ok true w := by
  have u3 := Try.underlying3
  have a3 := Try.isAgg3
  have z3 := Try.sizeOf3
  have hS : Try.prog.underlying 34 = some (.struct (Try.prog.fieldsOf 34)) := by kernel_rfl
  have hp : Try.prog.stoodInHeld 34 = false := by kernel_rfl
  rw [show (10000 : Nat) = 9999 + 1 from rfl, run_equalIn_struct w 9999 34 _ _ hS hp]
  simp only [Program.fieldsOf, Try.underlying34]
  go_simp
theorem run_neq2 {o : Oper} {E : Env} {a b : Operand} {t yt : TypeId} {x y : Int} (ht : t = 37 ∨ t = 34) (ho : o.op = .binOp .neq t a b yt) (hx : evalE E a = .agg #[.int .i64 x, .int .i64 y]) (hy : evalE E b = .agg #[.int .i64 x, .int .i64 y]) :
    ∀ w, (execOp (evalE E) o).run Try.prog w = .ok (.value (.bool false)) w := by
  intro w
  rcases ht with rfl | rfl
  · have hm : Try.prog.eqGuardType Try.prog.depth 37 = false := by kernel_rfl
    have g : ∀ op a b, (eqGuard op 37 a b (.agg #[.int .i64 x, .int .i64 y]) (.agg #[.int .i64 x, .int .i64 y])).run Try.prog w = .ok () w := fun op a b => run_eqGuard_agg w op 37 a b _ _ hm
    simp [execOp, ho, hx, hy, run_neq_struct, eq37, g]
  · have hm : Try.prog.eqGuardType Try.prog.depth 34 = false := by kernel_rfl
    have g : ∀ op a b, (eqGuard op 34 a b (.agg #[.int .i64 x, .int .i64 y]) (.agg #[.int .i64 x, .int .i64 y])).run Try.prog w = .ok () w := fun op a b => run_eqGuard_agg w op 34 a b _ _ hm
    simp [execOp, ho, hx, hy, run_neq_struct, eq34, g]
theorem rings12_is (W : World) (L : List Chunk) (w : World) (A : Option Addr) (n c : Nat) (E : List Arc) (er : Int) (R : List Int) (h : RingsRes E er R) (hr : Knows L fun w => Reads w 2 A n (egs E)) (hl : E.length = n) (hn : n ≤ 140737488351232) (s : St W L w) :
    Calls Try.prog 12 #[.slice A n c] w fun e w' => ∃ A' c', e = .returned (.tuple #[.slice A' R.length c', .int .i64 er]) ∧ St W (Own 3 1 A' R.length c' (ints R) :: L) w' := by
  refine (rings12_any W L w A n c E hr hl hn s).mono ?_
  rintro e w' ⟨A', c', R', er', rfl, hres, s⟩
  obtain ⟨rfl, rfl⟩ := hres.unique h
  exact ⟨A', c', rfl, s⟩
theorem ints_set {X : List Int} {k : Nat} (z : Int) : putAt (ints X) k [.int .i64 z] = ints (X.set k z) := by
  simp [putAt, ints, encI, List.map_set]
theorem big_victim {E l : List Arc} (h : 1000 < E.length) : VictimRes E l 0 false 5 := ⟨[], 5, .inl ⟨h, rfl, rfl⟩, .inl ⟨by decide, rfl, rfl, rfl⟩⟩

set_option maxRecDepth 100000 in
set_option maxHeartbeats 4000000 in
theorem answers_any (W : World) (hW : W.drawn = 0) (L : List Chunk) (w : World) (A : Option Addr) (n ca : Nat) (E : List Arc) (hr : Knows L fun w => Reads w 2 A n (egs E)) (hl : E.length = n) (hn : n ≤ 140737488351232) (B : Option Addr) (m cb : Nat) (l : List Arc) (hrb : Knows L fun w => Reads w 2 B m (egs l)) (hm : l.length = m) (hmn : m ≤ 140737488351232) (hlb : ∀ x ∈ l, -9223372036854775808 ≤ x.1 ∧ x.1 ≤ 9223372036854775807) (s : St W L w) :
    Calls Try.prog 3 #[.slice A n ca, .slice B m cb] w fun e w' => e = .returned (.bool true) ∧ St W L w' := by
  refine enter_args (l := [.slice A n ca, .slice B m cb]) Try.func3 rfl rfl (Nat.le_of_ble_eq_true rfl) ?_
  intro a ha; replace ha : Has a 169 [(0, .slice A n ca), (1, .slice B m cb)] := ha
  refine wp_seq ?_
  refine wp_region_lit ?_
  refine st_val (.bool false) ha (by kernel_rfl) (by kernel_rfl) ?_
  clear ha; intro a ha
  refine wpList_nil ?_
  refine then_normal ?_
  refine wp_seq ?_
  refine wp_seq ?_
  refine wp_region_lit ?_
  refine st_val (.slice A n ca) ha (by kernel_rfl) (by kernel_rfl) ?_
  clear ha; intro a ha
  refine st_val (.int .i64 ((n : Nat) : Int)) ha (by kernel_rfl) (by kernel_rfl) ?_
  clear ha; intro a ha
  refine st_val (.bool (decide (((n : Nat) : Int) > (60 : Int)))) ha (by kernel_rfl) (by kernel_rfl) ?_
  clear ha; intro a ha
  refine st_val (.bool (decide (((n : Nat) : Int) > (60 : Int)))) ha (by kernel_rfl) (by kernel_rfl) ?_
  clear ha; intro a ha
  rcases Bool.eq_false_or_eq_true (decide (((n : Nat) : Int) > (60 : Int))) with hb | hb
  · rw [hb] at ha; replace hb : (((n : Nat) : Int) > (60 : Int)) := of_decide_eq_true hb
    refine st_pass ha (by kernel_rfl) ?_
    clear ha; intro a ha
    refine st_pass ha (by kernel_rfl) ?_
    clear ha; intro a ha
    refine st_pass ha (by kernel_rfl) ?_
    clear ha; intro a ha
    refine st_val (.bool true) ha (by kernel_rfl) (by kernel_rfl) ?_
    clear ha; intro a ha
    refine wpList_nil ?_
    refine then_normal ?_
    refine wp_true ha rfl (by kernel_rfl) ?_
    refine wp_seq ?_
    refine wp_seq ?_
    refine wp_region_lit ?_
    refine st_val (.slice A n ca) ha (by kernel_rfl) (by kernel_rfl) ?_
    clear ha; intro a ha
    refine st_val (.int .i64 ((n : Nat) : Int)) ha (by kernel_rfl) (by kernel_rfl) ?_
    clear ha; intro a ha
    refine st_val (.bool (decide (((n : Nat) : Int) ≤ (1000 : Int)))) ha (by kernel_rfl) (by kernel_rfl) ?_
    clear ha; intro a ha
    refine wpList_nil ?_
    refine then_normal ?_
    refine wp_part (decide (((n : Nat) : Int) ≤ (1000 : Int))) ha rfl (by kernel_rfl) (fun hb => ?_) (fun hb => ?_)
    · rw [hb] at ha; replace hb : (((n : Nat) : Int) ≤ (1000 : Int)) := of_decide_eq_true hb
      refine wp_seq ?_
      refine wp_region_lit ?_
      refine st_call ha (by kernel_rfl) (by kernel_rfl) (works_true W hW _ w s) ?_
      rintro _ w ⟨rfl, s⟩
      replace s : St W (L) w := s
      refine ⟨_, rfl, ?_⟩; clear ha; intro a ha
      refine st_val (.bool true) ha (by kernel_rfl) (by kernel_rfl) ?_
      clear ha; intro a ha
      refine wpList_nil ?_
      refine then_normal ?_
      refine wp_ret ?_
      refine then_ret ?_
      refine then_ret ?_
      refine ret_with (v := .bool true) ha (results_1 rfl ha (res_tmp (by kernel_rfl) (by kernel_rfl))) ?_
      exact ⟨rfl, s⟩
    · rw [hb] at ha; replace hb : ¬ (((n : Nat) : Int) ≤ (1000 : Int)) := of_decide_eq_false hb
      refine wp_skip ?_
      refine then_normal ?_
      refine wp_seq ?_
      refine wp_region_lit ?_
      refine st_val (.slice A n ca) ha (by kernel_rfl) (by kernel_rfl) ?_
      clear ha; intro a ha
      refine st_call ha (by kernel_rfl) (by kernel_rfl) (rings_is W hW _ w A n ca E 5 [] (.inl ⟨by omega, rfl, rfl⟩) (fun w s => hr w s) hl hn s) ?_
      rintro _ w ⟨A1, c2, rfl, s⟩
      replace s : St W (Own 3 1 A1 0 c2 (ints []) :: L) w := s
      refine ⟨_, rfl, ?_⟩; clear ha; intro a ha
      refine st_val (.tuple #[.slice A1 0 c2, .int .i64 5]) ha (by kernel_rfl) (by kernel_rfl) ?_
      clear ha; intro a ha
      refine st_val (.slice A1 0 c2) ha (by kernel_rfl) (by kernel_rfl) ?_
      clear ha; intro a ha
      refine st_val (.int .i64 5) ha (by kernel_rfl) (by kernel_rfl) ?_
      clear ha; intro a ha
      refine st_val (.slice A1 0 c2) ha (by kernel_rfl) (by kernel_rfl) ?_
      clear ha; intro a ha
      refine st_val (.int .i64 5) ha (by kernel_rfl) (by kernel_rfl) ?_
      clear ha; intro a ha
      refine wpList_nil ?_
      refine then_normal ?_
      refine wp_seq ?_
      refine wp_region_lit ?_
      refine st_val (.slice A n ca) ha (by kernel_rfl) (by kernel_rfl) ?_
      clear ha; intro a ha
      refine st_val (.slice B m cb) ha (by kernel_rfl) (by kernel_rfl) ?_
      clear ha; intro a ha
      refine st_call ha (by kernel_rfl) (by kernel_rfl) (victim_any W hW _ w A n ca E (fun w s => hr w s.tail) hl hn B m cb l (fun w s => hrb w s.tail) hm hmn hlb s) ?_
      rintro _ w ⟨id, is, ev, rfl, hv, s⟩
      obtain ⟨rfl, rfl, rfl⟩ := hv.unique (big_victim (by omega))
      replace s : St W (Own 3 1 A1 0 c2 (ints []) :: L) w := s
      refine ⟨_, rfl, ?_⟩; clear ha; intro a ha
      refine st_val (.tuple #[.int .i64 0, .bool false, .int .i64 5]) ha (by kernel_rfl) (by kernel_rfl) ?_
      clear ha; intro a ha
      refine st_val (.int .i64 0) ha (by kernel_rfl) (by kernel_rfl) ?_
      clear ha; intro a ha
      refine st_val (.bool false) ha (by kernel_rfl) (by kernel_rfl) ?_
      clear ha; intro a ha
      refine st_val (.int .i64 5) ha (by kernel_rfl) (by kernel_rfl) ?_
      clear ha; intro a ha
      refine st_val (.int .i64 0) ha (by kernel_rfl) (by kernel_rfl) ?_
      clear ha; intro a ha
      refine st_val (.bool false) ha (by kernel_rfl) (by kernel_rfl) ?_
      clear ha; intro a ha
      refine st_val (.int .i64 5) ha (by kernel_rfl) (by kernel_rfl) ?_
      clear ha; intro a ha
      refine wpList_nil ?_
      refine then_normal ?_
      refine wp_seq ?_
      refine wp_region_lit ?_
      refine st_val (.int .i64 5) ha (by kernel_rfl) (by kernel_rfl) ?_
      clear ha; intro a ha
      refine st_val (.bool true) ha (by kernel_rfl) (by kernel_rfl) ?_
      clear ha; intro a ha
      refine st_val (.bool true) ha (by kernel_rfl) (by kernel_rfl) ?_
      clear ha; intro a ha
      refine st_val (.int .i64 5) ha (by kernel_rfl) (by kernel_rfl) ?_
      clear ha; intro a ha
      refine st_val (.bool true) ha (by kernel_rfl) (by kernel_rfl) ?_
      clear ha; intro a ha
      refine st_val (.bool true) ha (by kernel_rfl) (by kernel_rfl) ?_
      clear ha; intro a ha
      refine st_val (.bool true) ha (by kernel_rfl) (by kernel_rfl) ?_
      clear ha; intro a ha
      refine st_val (.bool false) ha (by kernel_rfl) (by kernel_rfl) ?_
      clear ha; intro a ha
      refine st_val (.bool true) ha (by kernel_rfl) (by kernel_rfl) ?_
      clear ha; intro a ha
      refine st_val (.bool true) ha (by kernel_rfl) (by kernel_rfl) ?_
      clear ha; intro a ha
      refine st_val (.bool true) ha (by kernel_rfl) (by kernel_rfl) ?_
      clear ha; intro a ha
      refine st_call ha (by kernel_rfl) (by kernel_rfl) (works_true W hW _ w s) ?_
      rintro _ w ⟨rfl, s⟩
      replace s : St W (Own 3 1 A1 0 c2 (ints []) :: L) w := s
      refine ⟨_, rfl, ?_⟩; clear ha; intro a ha
      refine st_val (.bool true) ha (by kernel_rfl) (by kernel_rfl) ?_
      clear ha; intro a ha
      refine st_val (.bool true) ha (by kernel_rfl) (by kernel_rfl) ?_
      clear ha; intro a ha
      refine wpList_nil ?_
      refine then_normal ?_
      refine wp_ret ?_
      refine then_ret ?_
      refine ret_with (v := .bool true) ha (results_1 rfl ha (res_tmp (by kernel_rfl) (by kernel_rfl))) ?_
      replace s := s.tail
      replace s : St W (L) w := s
      exact ⟨rfl, s⟩
  · rw [hb] at ha; replace hb : ¬ (((n : Nat) : Int) > (60 : Int)) := of_decide_eq_false hb
    refine st_val (.slice B m cb) ha (by kernel_rfl) (by kernel_rfl) ?_
    clear ha; intro a ha
    refine st_val (.int .i64 ((m : Nat) : Int)) ha (by kernel_rfl) (by kernel_rfl) ?_
    clear ha; intro a ha
    refine st_val (.bool (decide (((m : Nat) : Int) > (60 : Int)))) ha (by kernel_rfl) (by kernel_rfl) ?_
    clear ha; intro a ha
    refine st_val (.bool (decide (((m : Nat) : Int) > (60 : Int)))) ha (by kernel_rfl) (by kernel_rfl) ?_
    clear ha; intro a ha
    refine wpList_nil ?_
    refine then_normal ?_
    refine wp_part (decide (((m : Nat) : Int) > (60 : Int))) ha rfl (by kernel_rfl) (fun hb => ?_) (fun hb => ?_)
    · rw [hb] at ha; replace hb : (((m : Nat) : Int) > (60 : Int)) := of_decide_eq_true hb
      refine wp_seq ?_
      refine wp_seq ?_
      refine wp_region_lit ?_
      refine st_val (.slice A n ca) ha (by kernel_rfl) (by kernel_rfl) ?_
      clear ha; intro a ha
      refine st_val (.int .i64 ((n : Nat) : Int)) ha (by kernel_rfl) (by kernel_rfl) ?_
      clear ha; intro a ha
      refine st_val (.bool (decide (((n : Nat) : Int) ≤ (1000 : Int)))) ha (by kernel_rfl) (by kernel_rfl) ?_
      clear ha; intro a ha
      refine wpList_nil ?_
      refine then_normal ?_
      refine wp_part (decide (((n : Nat) : Int) ≤ (1000 : Int))) ha rfl (by kernel_rfl) (fun hb => ?_) (fun hb => ?_)
      · rw [hb] at ha; replace hb : (((n : Nat) : Int) ≤ (1000 : Int)) := of_decide_eq_true hb
        refine wp_seq ?_
        refine wp_region_lit ?_
        refine st_call ha (by kernel_rfl) (by kernel_rfl) (works_true W hW _ w s) ?_
        rintro _ w ⟨rfl, s⟩
        replace s : St W (L) w := s
        refine ⟨_, rfl, ?_⟩; clear ha; intro a ha
        refine st_val (.bool true) ha (by kernel_rfl) (by kernel_rfl) ?_
        clear ha; intro a ha
        refine wpList_nil ?_
        refine then_normal ?_
        refine wp_ret ?_
        refine then_ret ?_
        refine then_ret ?_
        refine ret_with (v := .bool true) ha (results_1 rfl ha (res_tmp (by kernel_rfl) (by kernel_rfl))) ?_
        exact ⟨rfl, s⟩
      · rw [hb] at ha; replace hb : ¬ (((n : Nat) : Int) ≤ (1000 : Int)) := of_decide_eq_false hb
        refine wp_skip ?_
        refine then_normal ?_
        refine wp_seq ?_
        refine wp_region_lit ?_
        refine st_val (.slice A n ca) ha (by kernel_rfl) (by kernel_rfl) ?_
        clear ha; intro a ha
        refine st_call ha (by kernel_rfl) (by kernel_rfl) (rings_is W hW _ w A n ca E 5 [] (.inl ⟨by omega, rfl, rfl⟩) (fun w s => hr w s) hl hn s) ?_
        rintro _ w ⟨A3, c4, rfl, s⟩
        replace s : St W (Own 3 1 A3 0 c4 (ints []) :: L) w := s
        refine ⟨_, rfl, ?_⟩; clear ha; intro a ha
        refine st_val (.tuple #[.slice A3 0 c4, .int .i64 5]) ha (by kernel_rfl) (by kernel_rfl) ?_
        clear ha; intro a ha
        refine st_val (.slice A3 0 c4) ha (by kernel_rfl) (by kernel_rfl) ?_
        clear ha; intro a ha
        refine st_val (.int .i64 5) ha (by kernel_rfl) (by kernel_rfl) ?_
        clear ha; intro a ha
        refine st_val (.slice A3 0 c4) ha (by kernel_rfl) (by kernel_rfl) ?_
        clear ha; intro a ha
        refine st_val (.int .i64 5) ha (by kernel_rfl) (by kernel_rfl) ?_
        clear ha; intro a ha
        refine wpList_nil ?_
        refine then_normal ?_
        refine wp_seq ?_
        refine wp_region_lit ?_
        refine st_val (.slice A n ca) ha (by kernel_rfl) (by kernel_rfl) ?_
        clear ha; intro a ha
        refine st_val (.slice B m cb) ha (by kernel_rfl) (by kernel_rfl) ?_
        clear ha; intro a ha
        refine st_call ha (by kernel_rfl) (by kernel_rfl) (victim_any W hW _ w A n ca E (fun w s => hr w s.tail) hl hn B m cb l (fun w s => hrb w s.tail) hm hmn hlb s) ?_
        rintro _ w ⟨id, is, ev, rfl, hv, s⟩
        obtain ⟨rfl, rfl, rfl⟩ := hv.unique (big_victim (by omega))
        replace s : St W (Own 3 1 A3 0 c4 (ints []) :: L) w := s
        refine ⟨_, rfl, ?_⟩; clear ha; intro a ha
        refine st_val (.tuple #[.int .i64 0, .bool false, .int .i64 5]) ha (by kernel_rfl) (by kernel_rfl) ?_
        clear ha; intro a ha
        refine st_val (.int .i64 0) ha (by kernel_rfl) (by kernel_rfl) ?_
        clear ha; intro a ha
        refine st_val (.bool false) ha (by kernel_rfl) (by kernel_rfl) ?_
        clear ha; intro a ha
        refine st_val (.int .i64 5) ha (by kernel_rfl) (by kernel_rfl) ?_
        clear ha; intro a ha
        refine st_val (.int .i64 0) ha (by kernel_rfl) (by kernel_rfl) ?_
        clear ha; intro a ha
        refine st_val (.bool false) ha (by kernel_rfl) (by kernel_rfl) ?_
        clear ha; intro a ha
        refine st_val (.int .i64 5) ha (by kernel_rfl) (by kernel_rfl) ?_
        clear ha; intro a ha
        refine wpList_nil ?_
        refine then_normal ?_
        refine wp_seq ?_
        refine wp_region_lit ?_
        refine st_val (.int .i64 5) ha (by kernel_rfl) (by kernel_rfl) ?_
        clear ha; intro a ha
        refine st_val (.bool true) ha (by kernel_rfl) (by kernel_rfl) ?_
        clear ha; intro a ha
        refine st_val (.bool true) ha (by kernel_rfl) (by kernel_rfl) ?_
        clear ha; intro a ha
        refine st_val (.int .i64 5) ha (by kernel_rfl) (by kernel_rfl) ?_
        clear ha; intro a ha
        refine st_val (.bool true) ha (by kernel_rfl) (by kernel_rfl) ?_
        clear ha; intro a ha
        refine st_val (.bool true) ha (by kernel_rfl) (by kernel_rfl) ?_
        clear ha; intro a ha
        refine st_val (.bool true) ha (by kernel_rfl) (by kernel_rfl) ?_
        clear ha; intro a ha
        refine st_val (.bool false) ha (by kernel_rfl) (by kernel_rfl) ?_
        clear ha; intro a ha
        refine st_val (.bool true) ha (by kernel_rfl) (by kernel_rfl) ?_
        clear ha; intro a ha
        refine st_val (.bool true) ha (by kernel_rfl) (by kernel_rfl) ?_
        clear ha; intro a ha
        refine st_val (.bool true) ha (by kernel_rfl) (by kernel_rfl) ?_
        clear ha; intro a ha
        refine st_call ha (by kernel_rfl) (by kernel_rfl) (works_true W hW _ w s) ?_
        rintro _ w ⟨rfl, s⟩
        replace s : St W (Own 3 1 A3 0 c4 (ints []) :: L) w := s
        refine ⟨_, rfl, ?_⟩; clear ha; intro a ha
        refine st_val (.bool true) ha (by kernel_rfl) (by kernel_rfl) ?_
        clear ha; intro a ha
        refine st_val (.bool true) ha (by kernel_rfl) (by kernel_rfl) ?_
        clear ha; intro a ha
        refine wpList_nil ?_
        refine then_normal ?_
        refine wp_ret ?_
        refine then_ret ?_
        refine ret_with (v := .bool true) ha (results_1 rfl ha (res_tmp (by kernel_rfl) (by kernel_rfl))) ?_
        replace s := s.tail
        replace s : St W (L) w := s
        exact ⟨rfl, s⟩
    · rw [hb] at ha; replace hb : ¬ (((m : Nat) : Int) > (60 : Int)) := of_decide_eq_false hb
      refine wp_skip ?_
      refine then_normal ?_
      refine wp_seq ?_
      refine wp_region_lit ?_
      refine st_val (.slice A n ca) ha (by kernel_rfl) (by kernel_rfl) ?_
      clear ha; intro a ha
      replace s := Own.none_ (e := 37) (k := 2) none s
      replace s : St W (Own 37 2 none 0 0 [] :: L) w := s
      refine st_ex ha (by kernel_rfl) (ex_append (m := n) (d' := ca) elt22 (by decide) 0 (egs E) s rfl (by kernel_rfl) (by kernel_rfl) rfl (hr _ s.sat.tail) (egs_one _) (by simp only [maxLen]; omega) (by omega)) ?_
      clear ha; rintro _ w a ⟨A5, c6, rfl, hA_, s⟩ ha
      replace s : St W (Own 37 2 A5 (0 + n) c6 ([] ++ (egs E)) :: L) w := s
      replace s : St W (Own 37 2 A5 (0 + n) c6 (egs E) :: L) w := s
      replace s : St W (Own 37 2 A5 (0 + n) c6 (egs E) :: L) w := s
      refine st_val (.slice A5 (0 + n) c6) ha (by kernel_rfl) (by kernel_rfl) ?_
      clear ha; intro a ha
      refine wpList_nil ?_
      refine then_normal ?_
      refine wp_seq ?_
      refine wp_region_lit ?_
      refine st_val (.slice B m cb) ha (by kernel_rfl) (by kernel_rfl) ?_
      clear ha; intro a ha
      replace s := Own.none_ (e := 34) (k := 2) none s
      replace s : St W (Own 34 2 none 0 0 [] :: Own 37 2 A5 (0 + n) c6 (egs E) :: L) w := s
      refine st_ex ha (by kernel_rfl) (ex_append (m := m) (d' := cb) elt23 (by decide) 0 (egs l) s rfl (by kernel_rfl) (by kernel_rfl) rfl (hrb _ s.sat.tail.tail) (egs_one _) (by simp only [maxLen]; omega) (by omega)) ?_
      clear ha; rintro _ w a ⟨A7, c8, rfl, hA_, s⟩ ha
      replace s : St W (Own 34 2 A7 (0 + m) c8 ([] ++ (egs l)) :: Own 37 2 A5 (0 + n) c6 (egs E) :: L) w := s
      replace s : St W (Own 34 2 A7 (0 + m) c8 (egs l) :: Own 37 2 A5 (0 + n) c6 (egs E) :: L) w := s
      replace s : St W (Own 34 2 A7 (0 + m) c8 (egs l) :: Own 37 2 A5 (0 + n) c6 (egs E) :: L) w := s
      refine st_val (.slice A7 (0 + m) c8) ha (by kernel_rfl) (by kernel_rfl) ?_
      clear ha; intro a ha
      refine wpList_nil ?_
      refine then_normal ?_
      refine wp_seq ?_
      refine wp_region_lit ?_
      refine st_val (.slice none 0 0) ha (by kernel_rfl) (by kernel_rfl) ?_
      clear ha; intro a ha
      refine wpList_nil ?_
      refine then_normal ?_
      refine wp_seq ?_
      refine wp_seq ?_
      refine wp_region_lit ?_
      refine st_val (.int .i64 0) ha (by kernel_rfl) (by kernel_rfl) ?_
      clear ha; intro a ha
      refine wpList_nil ?_
      refine then_normal ?_
      refine wp_block ?_
      replace s := Own.none_ (e := 33) (k := 2) none s
      replace s := s.at_ (j := 1) rfl
      replace s : St W (Own 34 2 A7 (0 + m) c8 (egs l) :: Own 33 2 none 0 0 (egs (l.take 0)) :: Own 37 2 A5 (0 + n) c6 (egs E) :: L) w := s
      replace s := s.at_ (j := 2) rfl
      replace s : St W (Own 37 2 A5 (0 + n) c6 (egs E) :: Own 34 2 A7 (0 + m) c8 (egs l) :: Own 33 2 none 0 0 (egs (l.take 0)) :: L) w := s
      replace s := s.at_ (j := 2) rfl
      replace s : St W (Own 33 2 none 0 0 (egs (l.take 0)) :: Own 37 2 A5 (0 + n) c6 (egs E) :: Own 34 2 A7 (0 + m) c8 (egs l) :: L) w := s
      replace s : St W (Own 33 2 none 0 0 (egs (l.take 0)) :: Own 37 2 A5 (0 + n) c6 (egs E) :: Own 34 2 A7 (0 + m) c8 (egs l) :: L) w := s
      refine wp_loopG (G := (Nat × Option Addr × Nat)) (fun ⟨k, Ao, co⟩ a w => Has a 169 [(0, .slice A n ca), (1, .slice B m cb), (10, .slice A5 (0 + n) c6), (11, .slice A7 (0 + m) c8), (12, .slice Ao k co), (13, .int .i64 ((k : Nat) : Int))] ∧ St W (Own 33 2 Ao k co (egs (l.take k)) :: Own 37 2 A5 (0 + n) c6 (egs E) :: Own 34 2 A7 (0 + m) c8 (egs l) :: L) w ∧ (k ≤ m)) (fun ⟨k, Ao, co⟩ => m - k) (0, none, 0) ?_ ?_
      · exact ⟨(Has.cons ha (by kernel_rfl) (by kernel_rfl) (Has.cons ha (by kernel_rfl) (by kernel_rfl) (Has.cons ha (by kernel_rfl) (by kernel_rfl) (Has.cons ha (by kernel_rfl) (by kernel_rfl) (Has.cons ha (by kernel_rfl) (by kernel_rfl) (Has.cons ha (by kernel_rfl) (by kernel_rfl) (Has.nil ha))))))), s, Nat.zero_le _⟩
      · clear ha s; rintro ⟨k, Ao, co⟩ a w ⟨ha, s, hp⟩
        refine wp_seq ?_
        refine wp_seq ?_
        refine wp_region_lit ?_
        refine st_val (.int .i64 ((k : Nat) : Int)) ha (by kernel_rfl) (by kernel_rfl) ?_
        clear ha; intro a ha
        refine st_val (.slice B m cb) ha (by kernel_rfl) (by kernel_rfl) ?_
        clear ha; intro a ha
        refine st_val (.int .i64 ((m : Nat) : Int)) ha (by kernel_rfl) (by kernel_rfl) ?_
        clear ha; intro a ha
        refine st_val (.bool (decide (((k : Nat) : Int) < ((m : Nat) : Int)))) ha (by kernel_rfl) (by kernel_rfl) ?_
        clear ha; intro a ha
        refine wpList_nil ?_
        refine then_normal ?_
        refine wp_part (decide (((k : Nat) : Int) < ((m : Nat) : Int))) ha rfl (by kernel_rfl) (fun hb => ?_) (fun hb => ?_)
        · rw [hb] at ha; replace hb : (((k : Nat) : Int) < ((m : Nat) : Int)) := of_decide_eq_true hb
          obtain ⟨x, hx⟩ : ∃ x, l[k]? = some x := ⟨_, List.getElem?_eq_getElem (by omega)⟩
          obtain ⟨adb, h_adb⟩ := Reads.addr (hrb _ s.sat.tail.tail.tail) (by omega)
          subst h_adb
          refine wp_skip ?_
          refine then_normal ?_
          refine wp_seq ?_
          refine wp_block ?_
          refine wp_region_lit ?_
          refine st_val (.slice Ao k co) ha (by kernel_rfl) (by kernel_rfl) ?_
          clear ha; intro a ha
          refine st_val (.slice (some adb) m cb) ha (by kernel_rfl) (by kernel_rfl) ?_
          clear ha; intro a ha
          refine st_val (.int .i64 ((k : Nat) : Int)) ha (by kernel_rfl) (by kernel_rfl) ?_
          clear ha; intro a ha
          refine st_val (.pointer (some (adb.add (k * 2)))) ha (by kernel_rfl) (run_indexAddr' (kd := .i64) (i := ((k : Nat) : Int)) (n := m) (c := cb) k rfl Try.underlying23 Try.sizeOf34 (by kernel_rfl) (by kernel_rfl) rfl (by first | assumption | omega) _) ?_
          clear ha; intro a ha
          refine st_val (.agg #[.int .i64 x.1, .int .i64 x.2]) ha (by kernel_rfl) (run_loadAtN (i := k * 2) [.int .i64 x.1, .int .i64 x.2] ((hrb _ s.sat.tail.tail.tail)) rfl (by kernel_rfl) Try.isAgg34 Try.sizeOf34 (fun j hj => egs_at hx hj) rfl) ?_
          clear ha; intro a ha
          refine st_ex ha (by kernel_rfl) (ex_buildSlice elt31 _ zs31 [.int .i64 x.1, .int .i64 x.2] s rfl (by kernel_rfl) (by decide)) ?_
          clear ha; rintro _ w a ⟨g9, rfl, s⟩ ha
          replace s : St W (.blk g9 [.int .i64 x.1, .int .i64 x.2] 33 :: Own 33 2 Ao k co (egs (l.take k)) :: Own 37 2 A5 (0 + n) c6 (egs E) :: Own 34 2 A7 (0 + m) c8 (egs l) :: L) w := s
          refine st_ex ha (by kernel_rfl) (ex_append (m := 1) (d' := 1) elt31 (by decide) 1 [.int .i64 x.1, .int .i64 x.2] s rfl (by kernel_rfl) (by kernel_rfl) rfl (reads_blk (s.blkIs 0 rfl) rfl) (by simp [Value.oneCell']) (by simp only [maxLen]; omega) (by omega)) ?_
          clear ha; rintro _ w a ⟨A10, c11, rfl, hA_, s⟩ ha
          replace s : St W (.blk g9 [.int .i64 x.1, .int .i64 x.2] 33 :: Own 33 2 A10 (k + 1) c11 ((egs (l.take k)) ++ [.int .i64 x.1, .int .i64 x.2]) :: Own 37 2 A5 (0 + n) c6 (egs E) :: Own 34 2 A7 (0 + m) c8 (egs l) :: L) w := s
          refine st_val (.slice A10 (k + 1) c11) ha (by kernel_rfl) (by kernel_rfl) ?_
          clear ha; intro a ha
          refine wpList_nil ?_
          refine block_normal ?_
          refine then_normal ?_
          refine wp_region_lit ?_
          refine st_val (.int .i64 ((k : Nat) : Int)) ha (by kernel_rfl) (by kernel_rfl) ?_
          clear ha; intro a ha
          refine st_val (.int .i64 ((k + 1 : Nat) : Int)) ha (by kernel_rfl) (run_arith (((k : Nat) : Int) + (1 : Int)) ((k + 1 : Nat) : Int) rfl (by kernel_rfl) (by kernel_rfl) (.inl ⟨rfl, rfl⟩) (by rw [wrap64_in (by omega)]; try omega) _) ?_
          clear ha; intro a ha
          refine st_val (.int .i64 ((k + 1 : Nat) : Int)) ha (by kernel_rfl) (by kernel_rfl) ?_
          clear ha; intro a ha
          refine wpList_nil ?_
          refine then_normal ?_
          replace s := s.at_ (j := 3) rfl
          replace s : St W (Own 34 2 A7 (0 + m) c8 (egs l) :: .blk g9 [.int .i64 x.1, .int .i64 x.2] 33 :: Own 33 2 A10 (k + 1) c11 ((egs (l.take k)) ++ [.int .i64 x.1, .int .i64 x.2]) :: Own 37 2 A5 (0 + n) c6 (egs E) :: L) w := s
          replace s := s.at_ (j := 3) rfl
          replace s : St W (Own 37 2 A5 (0 + n) c6 (egs E) :: Own 34 2 A7 (0 + m) c8 (egs l) :: .blk g9 [.int .i64 x.1, .int .i64 x.2] 33 :: Own 33 2 A10 (k + 1) c11 ((egs (l.take k)) ++ [.int .i64 x.1, .int .i64 x.2]) :: L) w := s
          replace s := s.at_ (j := 3) rfl
          replace s : St W (Own 33 2 A10 (k + 1) c11 ((egs (l.take k)) ++ [.int .i64 x.1, .int .i64 x.2]) :: Own 37 2 A5 (0 + n) c6 (egs E) :: Own 34 2 A7 (0 + m) c8 (egs l) :: .blk g9 [.int .i64 x.1, .int .i64 x.2] 33 :: L) w := s
          replace s : St W (Own 33 2 A10 (k + 1) c11 ((egs (l.take k)) ++ [.int .i64 x.1, .int .i64 x.2]) :: Own 37 2 A5 (0 + n) c6 (egs E) :: Own 34 2 A7 (0 + m) c8 (egs l) :: L) w := St.mid (A := [Own 33 2 A10 (k + 1) c11 ((egs (l.take k)) ++ [.int .i64 x.1, .int .i64 x.2]), Own 37 2 A5 (0 + n) c6 (egs E), Own 34 2 A7 (0 + m) c8 (egs l)]) (B := [.blk g9 [.int .i64 x.1, .int .i64 x.2] 33]) s
          replace s : St W (Own 33 2 A10 (k + 1) c11 (egs (l.take (k + 1))) :: Own 37 2 A5 (0 + n) c6 (egs E) :: Own 34 2 A7 (0 + m) c8 (egs l) :: L) w := by rw [egs_take hx]; exact s
          exact ⟨(k + 1, A10, c11), (show m - (k + 1) < m - k by omega), (Has.cons ha (by kernel_rfl) (by kernel_rfl) (Has.cons ha (by kernel_rfl) (by kernel_rfl) (Has.cons ha (by kernel_rfl) (by kernel_rfl) (Has.cons ha (by kernel_rfl) (by kernel_rfl) (Has.cons ha (by kernel_rfl) (by kernel_rfl) (Has.cons ha (by kernel_rfl) (by kernel_rfl) (Has.nil ha))))))), s, (show k + 1 ≤ m by omega)⟩
        · rw [hb] at ha; replace hb : ¬ (((k : Nat) : Int) < ((m : Nat) : Int)) := of_decide_eq_false hb
          have hk : k = m := by omega
          rw [hk, show l.take m = l from List.take_of_length_le (by omega)] at s
          rw [hk] at ha
          replace s : St W (Own 33 2 Ao m co (egs l) :: Own 37 2 A5 (0 + n) c6 (egs E) :: Own 34 2 A7 (0 + m) c8 (egs l) :: L) w := s
          refine wp_exit ?_
          refine then_exit ?_
          refine then_exit ?_
          refine block_hit ?_
          refine then_normal ?_
          refine wp_seq ?_
          refine wp_region_lit ?_
          refine st_val (.slice A5 (0 + n) c6) ha (by kernel_rfl) (by kernel_rfl) ?_
          clear ha; intro a ha
          refine st_call ha (by kernel_rfl) (by kernel_rfl) (rings_any W hW _ w A5 (0 + n) c6 E (Knows.own (j := 1) rfl) (by omega) (by omega) s) ?_
          rintro _ w ⟨A12, c13, R, er, rfl, hres, s⟩
          have hRl := rings_len hres
          replace s : St W (Own 3 1 A12 R.length c13 (ints R) :: Own 33 2 Ao m co (egs l) :: Own 37 2 A5 (0 + n) c6 (egs E) :: Own 34 2 A7 (0 + m) c8 (egs l) :: L) w := s
          refine ⟨_, rfl, ?_⟩; clear ha; intro a ha
          refine st_val (.tuple #[.slice A12 R.length c13, .int .i64 er]) ha (by kernel_rfl) (by kernel_rfl) ?_
          clear ha; intro a ha
          refine st_val (.slice A12 R.length c13) ha (by kernel_rfl) (by kernel_rfl) ?_
          clear ha; intro a ha
          refine st_val (.int .i64 er) ha (by kernel_rfl) (by kernel_rfl) ?_
          clear ha; intro a ha
          refine st_val (.slice A12 R.length c13) ha (by kernel_rfl) (by kernel_rfl) ?_
          clear ha; intro a ha
          refine st_val (.int .i64 er) ha (by kernel_rfl) (by kernel_rfl) ?_
          clear ha; intro a ha
          refine wpList_nil ?_
          refine then_normal ?_
          refine wp_seq ?_
          refine wp_region_lit ?_
          refine st_val (.slice A n ca) ha (by kernel_rfl) (by kernel_rfl) ?_
          clear ha; intro a ha
          refine st_call ha (by kernel_rfl) (by kernel_rfl) (rings12_is W _ w A n ca E er R hres (fun w s => hr w s.tail.tail.tail.tail) hl hn s) ?_
          rintro _ w ⟨A14, c15, rfl, s⟩
          replace s : St W (Own 3 1 A14 R.length c15 (ints R) :: Own 3 1 A12 R.length c13 (ints R) :: Own 33 2 Ao m co (egs l) :: Own 37 2 A5 (0 + n) c6 (egs E) :: Own 34 2 A7 (0 + m) c8 (egs l) :: L) w := s
          refine ⟨_, rfl, ?_⟩; clear ha; intro a ha
          refine st_val (.tuple #[.slice A14 R.length c15, .int .i64 er]) ha (by kernel_rfl) (by kernel_rfl) ?_
          clear ha; intro a ha
          refine st_val (.slice A14 R.length c15) ha (by kernel_rfl) (by kernel_rfl) ?_
          clear ha; intro a ha
          refine st_val (.int .i64 er) ha (by kernel_rfl) (by kernel_rfl) ?_
          clear ha; intro a ha
          refine st_val (.slice A14 R.length c15) ha (by kernel_rfl) (by kernel_rfl) ?_
          clear ha; intro a ha
          refine st_val (.int .i64 er) ha (by kernel_rfl) (by kernel_rfl) ?_
          clear ha; intro a ha
          refine wpList_nil ?_
          refine then_normal ?_
          refine wp_seq ?_
          refine wp_region_lit ?_
          refine st_val (.slice A5 (0 + n) c6) ha (by kernel_rfl) (by kernel_rfl) ?_
          clear ha; intro a ha
          refine st_val (.slice A7 (0 + m) c8) ha (by kernel_rfl) (by kernel_rfl) ?_
          clear ha; intro a ha
          refine st_call ha (by kernel_rfl) (by kernel_rfl) (victim_any W hW _ w A5 (0 + n) c6 E (Knows.own (j := 3) rfl) (by omega) (by omega) A7 (0 + m) c8 l (Knows.own (j := 4) rfl) (by omega) (by omega) hlb s) ?_
          rintro _ w ⟨id, is, ev, rfl, hv, s⟩
          replace s : St W (Own 3 1 A14 R.length c15 (ints R) :: Own 3 1 A12 R.length c13 (ints R) :: Own 33 2 Ao m co (egs l) :: Own 37 2 A5 (0 + n) c6 (egs E) :: Own 34 2 A7 (0 + m) c8 (egs l) :: L) w := s
          refine ⟨_, rfl, ?_⟩; clear ha; intro a ha
          refine st_val (.tuple #[.int .i64 id, .bool is, .int .i64 ev]) ha (by kernel_rfl) (by kernel_rfl) ?_
          clear ha; intro a ha
          refine st_val (.int .i64 id) ha (by kernel_rfl) (by kernel_rfl) ?_
          clear ha; intro a ha
          refine st_val (.bool is) ha (by kernel_rfl) (by kernel_rfl) ?_
          clear ha; intro a ha
          refine st_val (.int .i64 ev) ha (by kernel_rfl) (by kernel_rfl) ?_
          clear ha; intro a ha
          refine st_val (.int .i64 id) ha (by kernel_rfl) (by kernel_rfl) ?_
          clear ha; intro a ha
          refine st_val (.bool is) ha (by kernel_rfl) (by kernel_rfl) ?_
          clear ha; intro a ha
          refine st_val (.int .i64 ev) ha (by kernel_rfl) (by kernel_rfl) ?_
          clear ha; intro a ha
          refine wpList_nil ?_
          refine then_normal ?_
          refine wp_seq ?_
          refine wp_region_lit ?_
          refine st_val (.slice A n ca) ha (by kernel_rfl) (by kernel_rfl) ?_
          clear ha; intro a ha
          refine st_val (.slice Ao m co) ha (by kernel_rfl) (by kernel_rfl) ?_
          clear ha; intro a ha
          refine st_call ha (by kernel_rfl) (by kernel_rfl) (victim13_any W _ w A n ca E (fun w s => hr w s.tail.tail.tail.tail.tail) hl hn Ao m co l (Knows.own (j := 2) rfl) (by omega) (by omega) s) ?_
          rintro _ w ⟨id2, is2, ev2, rfl, hv2, s⟩
          obtain ⟨rfl, rfl, rfl⟩ := hv.unique hv2
          replace s : St W (Own 3 1 A14 R.length c15 (ints R) :: Own 3 1 A12 R.length c13 (ints R) :: Own 33 2 Ao m co (egs l) :: Own 37 2 A5 (0 + n) c6 (egs E) :: Own 34 2 A7 (0 + m) c8 (egs l) :: L) w := s
          refine ⟨_, rfl, ?_⟩; clear ha; intro a ha
          refine st_val (.tuple #[.int .i64 id, .bool is, .int .i64 ev]) ha (by kernel_rfl) (by kernel_rfl) ?_
          clear ha; intro a ha
          refine st_val (.int .i64 id) ha (by kernel_rfl) (by kernel_rfl) ?_
          clear ha; intro a ha
          refine st_val (.bool is) ha (by kernel_rfl) (by kernel_rfl) ?_
          clear ha; intro a ha
          refine st_val (.int .i64 ev) ha (by kernel_rfl) (by kernel_rfl) ?_
          clear ha; intro a ha
          refine st_val (.int .i64 id) ha (by kernel_rfl) (by kernel_rfl) ?_
          clear ha; intro a ha
          refine st_val (.bool is) ha (by kernel_rfl) (by kernel_rfl) ?_
          clear ha; intro a ha
          refine st_val (.int .i64 ev) ha (by kernel_rfl) (by kernel_rfl) ?_
          clear ha; intro a ha
          refine wpList_nil ?_
          refine then_normal ?_
          refine wp_seq ?_
          refine wp_seq ?_
          refine wp_region_lit ?_
          refine st_val (.slice A12 R.length c13) ha (by kernel_rfl) (by kernel_rfl) ?_
          clear ha; intro a ha
          refine st_val (.slice A14 R.length c15) ha (by kernel_rfl) (by kernel_rfl) ?_
          clear ha; intro a ha
          refine st_call ha (by kernel_rfl) (by kernel_rfl) (eqInts_is W _ w A12 R.length c13 R (Knows.own (j := 1) rfl) rfl (by omega) A14 R.length c15 R (Knows.own (j := 0) rfl) rfl (by omega) true (decide_eq_true rfl) s) ?_
          rintro _ w ⟨rfl, s⟩
          replace s : St W (Own 3 1 A14 R.length c15 (ints R) :: Own 3 1 A12 R.length c13 (ints R) :: Own 33 2 Ao m co (egs l) :: Own 37 2 A5 (0 + n) c6 (egs E) :: Own 34 2 A7 (0 + m) c8 (egs l) :: L) w := s
          refine ⟨_, rfl, ?_⟩; clear ha; intro a ha
          refine st_val (.bool false) ha (by kernel_rfl) (by kernel_rfl) ?_
          clear ha; intro a ha
          refine st_val (.bool false) ha (by kernel_rfl) (by kernel_rfl) ?_
          clear ha; intro a ha
          refine st_val (.int .i64 er) ha (by kernel_rfl) (by kernel_rfl) ?_
          clear ha; intro a ha
          refine st_val (.int .i64 er) ha (by kernel_rfl) (by kernel_rfl) ?_
          clear ha; intro a ha
          refine st_val (.bool false) ha (by kernel_rfl) (run_known (bne_self_eq_false _) (show (execOp (evalE _) _).run _ _ = .ok (.value (.bool (er != er))) _ from by kernel_rfl)) ?_
          clear ha; intro a ha
          refine st_val (.bool false) ha (by kernel_rfl) (by kernel_rfl) ?_
          clear ha; intro a ha
          refine st_val (.bool false) ha (by kernel_rfl) (by kernel_rfl) ?_
          clear ha; intro a ha
          refine st_val (.int .i64 id) ha (by kernel_rfl) (by kernel_rfl) ?_
          clear ha; intro a ha
          refine st_val (.int .i64 id) ha (by kernel_rfl) (by kernel_rfl) ?_
          clear ha; intro a ha
          refine st_val (.bool false) ha (by kernel_rfl) (run_known (bne_self_eq_false _) (show (execOp (evalE _) _).run _ _ = .ok (.value (.bool (id != id))) _ from by kernel_rfl)) ?_
          clear ha; intro a ha
          refine st_val (.bool false) ha (by kernel_rfl) (by kernel_rfl) ?_
          clear ha; intro a ha
          refine st_val (.bool false) ha (by kernel_rfl) (by kernel_rfl) ?_
          clear ha; intro a ha
          refine st_val (.bool is) ha (by kernel_rfl) (by kernel_rfl) ?_
          clear ha; intro a ha
          refine st_val (.bool is) ha (by kernel_rfl) (by kernel_rfl) ?_
          clear ha; intro a ha
          refine st_val (.bool false) ha (by kernel_rfl) (run_known (bne_self_eq_false _) (show (execOp (evalE _) _).run _ _ = .ok (.value (.bool (is != is))) _ from by kernel_rfl)) ?_
          clear ha; intro a ha
          refine st_val (.bool false) ha (by kernel_rfl) (by kernel_rfl) ?_
          clear ha; intro a ha
          refine st_val (.bool false) ha (by kernel_rfl) (by kernel_rfl) ?_
          clear ha; intro a ha
          refine st_val (.int .i64 ev) ha (by kernel_rfl) (by kernel_rfl) ?_
          clear ha; intro a ha
          refine st_val (.int .i64 ev) ha (by kernel_rfl) (by kernel_rfl) ?_
          clear ha; intro a ha
          refine st_val (.bool false) ha (by kernel_rfl) (run_known (bne_self_eq_false _) (show (execOp (evalE _) _).run _ _ = .ok (.value (.bool (ev != ev))) _ from by kernel_rfl)) ?_
          clear ha; intro a ha
          refine st_val (.bool false) ha (by kernel_rfl) (by kernel_rfl) ?_
          clear ha; intro a ha
          refine wpList_nil ?_
          refine then_normal ?_
          refine wp_false ha rfl (by kernel_rfl) ?_
          refine wp_skip ?_
          refine then_normal ?_
          refine wp_seq ?_
          refine wp_seq ?_
          refine wp_region_lit ?_
          refine st_val (.int .i64 0) ha (by kernel_rfl) (by kernel_rfl) ?_
          clear ha; intro a ha
          refine wpList_nil ?_
          refine then_normal ?_
          refine wp_block ?_
          replace s := s.at_ (j := 4) rfl
          replace s : St W (Own 34 2 A7 (0 + m) c8 (egs l) :: Own 3 1 A14 R.length c15 (ints R) :: Own 3 1 A12 R.length c13 (ints R) :: Own 33 2 Ao m co (egs l) :: Own 37 2 A5 (0 + n) c6 (egs E) :: L) w := s
          replace s := s.at_ (j := 4) rfl
          replace s : St W (Own 37 2 A5 (0 + n) c6 (egs E) :: Own 34 2 A7 (0 + m) c8 (egs l) :: Own 3 1 A14 R.length c15 (ints R) :: Own 3 1 A12 R.length c13 (ints R) :: Own 33 2 Ao m co (egs l) :: L) w := s
          replace s := s.at_ (j := 3) rfl
          replace s : St W (Own 3 1 A12 R.length c13 (ints R) :: Own 37 2 A5 (0 + n) c6 (egs E) :: Own 34 2 A7 (0 + m) c8 (egs l) :: Own 3 1 A14 R.length c15 (ints R) :: Own 33 2 Ao m co (egs l) :: L) w := s
          replace s : St W (Own 3 1 A12 R.length c13 (ints R) :: Own 37 2 A5 (0 + n) c6 (egs E) :: Own 34 2 A7 (0 + m) c8 (egs l) :: L) w := St.mid (A := [Own 3 1 A12 R.length c13 (ints R), Own 37 2 A5 (0 + n) c6 (egs E), Own 34 2 A7 (0 + m) c8 (egs l)]) (B := [Own 3 1 A14 R.length c15 (ints R), Own 33 2 Ao m co (egs l)]) s
          refine wp_loopG (G := (Nat × List Int × Option Addr)) (fun ⟨k, X, Ar⟩ a w => Has a 169 [(0, .slice A n ca), (1, .slice B m cb), (10, .slice A5 (0 + n) c6), (11, .slice A7 (0 + m) c8), (14, .slice Ar R.length c13), (24, .int .i64 ((k : Nat) : Int))] ∧ St W (Own 3 1 Ar R.length c13 (ints X) :: Own 37 2 A5 (0 + n) c6 (egs E) :: Own 34 2 A7 (0 + m) c8 (egs l) :: L) w ∧ (k ≤ R.length ∧ X.length = R.length)) (fun ⟨k, X, Ar⟩ => R.length - k) (0, R, A12) ?_ ?_
          · exact ⟨(Has.cons ha (by kernel_rfl) (by kernel_rfl) (Has.cons ha (by kernel_rfl) (by kernel_rfl) (Has.cons ha (by kernel_rfl) (by kernel_rfl) (Has.cons ha (by kernel_rfl) (by kernel_rfl) (Has.cons ha (by kernel_rfl) (by kernel_rfl) (Has.cons ha (by kernel_rfl) (by kernel_rfl) (Has.nil ha))))))), s, ⟨Nat.zero_le _, rfl⟩⟩
          · clear ha s; rintro ⟨k, X, Ar⟩ a w ⟨ha, s, hp⟩
            refine wp_seq ?_
            refine wp_seq ?_
            refine wp_region_lit ?_
            refine st_val (.int .i64 ((k : Nat) : Int)) ha (by kernel_rfl) (by kernel_rfl) ?_
            clear ha; intro a ha
            refine st_val (.slice Ar R.length c13) ha (by kernel_rfl) (by kernel_rfl) ?_
            clear ha; intro a ha
            refine st_val (.int .i64 ((R.length : Nat) : Int)) ha (by kernel_rfl) (by kernel_rfl) ?_
            clear ha; intro a ha
            refine st_val (.bool (decide (((k : Nat) : Int) < ((R.length : Nat) : Int)))) ha (by kernel_rfl) (by kernel_rfl) ?_
            clear ha; intro a ha
            refine wpList_nil ?_
            refine then_normal ?_
            refine wp_part (decide (((k : Nat) : Int) < ((R.length : Nat) : Int))) ha rfl (by kernel_rfl) (fun hb => ?_) (fun hb => ?_)
            · rw [hb] at ha; replace hb : (((k : Nat) : Int) < ((R.length : Nat) : Int)) := of_decide_eq_true hb
              obtain ⟨adr, hAr⟩ := Own.addr (s.at_ (j := 0) rfl) (by omega)
              subst hAr
              refine wp_skip ?_
              refine then_normal ?_
              refine wp_seq ?_
              refine wp_block ?_
              refine wp_region_lit ?_
              refine st_val (.slice (some adr) R.length c13) ha (by kernel_rfl) (by kernel_rfl) ?_
              clear ha; intro a ha
              refine st_val (.int .i64 ((k : Nat) : Int)) ha (by kernel_rfl) (by kernel_rfl) ?_
              clear ha; intro a ha
              refine st_val (.pointer (some (adr.add (k * 1)))) ha (by kernel_rfl) (run_indexAddr' (kd := .i64) (i := ((k : Nat) : Int)) (n := R.length) (c := c13) k rfl Try.underlying25 Try.sizeOf3 (by kernel_rfl) (by kernel_rfl) rfl (by first | assumption | omega) _) ?_
              clear ha; intro a ha
              refine st_exd ha (by kernel_rfl) (ex_store_own (i := k * 1) 0 [.int .i64 (-1)] s (show putAt (ints X) (k * 1) [.int .i64 (-1)] = ints (X.set k (-1)) from by rw [Nat.mul_one]; exact ints_set (-1)) rfl rfl (by kernel_rfl) (by kernel_rfl) (Try.sizeOf3 _) rfl (by simp [Value.oneCell']) (by simp) (by rw [show (ints X).length = X.length by simp [ints]]; simp only [List.length_cons, List.length_nil]; omega)) ?_
              clear ha; rintro w a s ha
              replace s : St W (Own 3 1 (some adr) R.length c13 (ints (X.set k (-1))) :: Own 37 2 A5 (0 + n) c6 (egs E) :: Own 34 2 A7 (0 + m) c8 (egs l) :: L) w := s
              refine wpList_nil ?_
              refine block_normal ?_
              refine then_normal ?_
              refine wp_region_lit ?_
              refine st_val (.int .i64 ((k : Nat) : Int)) ha (by kernel_rfl) (by kernel_rfl) ?_
              clear ha; intro a ha
              refine st_val (.int .i64 ((k + 1 : Nat) : Int)) ha (by kernel_rfl) (run_arith (((k : Nat) : Int) + (1 : Int)) ((k + 1 : Nat) : Int) rfl (by kernel_rfl) (by kernel_rfl) (.inl ⟨rfl, rfl⟩) (by rw [wrap64_in (by omega)]; try omega) _) ?_
              clear ha; intro a ha
              refine st_val (.int .i64 ((k + 1 : Nat) : Int)) ha (by kernel_rfl) (by kernel_rfl) ?_
              clear ha; intro a ha
              refine wpList_nil ?_
              refine then_normal ?_
              exact ⟨(k + 1, X.set k (-1), (some adr)), (show R.length - (k + 1) < R.length - k by omega), (Has.cons ha (by kernel_rfl) (by kernel_rfl) (Has.cons ha (by kernel_rfl) (by kernel_rfl) (Has.cons ha (by kernel_rfl) (by kernel_rfl) (Has.cons ha (by kernel_rfl) (by kernel_rfl) (Has.cons ha (by kernel_rfl) (by kernel_rfl) (Has.cons ha (by kernel_rfl) (by kernel_rfl) (Has.nil ha))))))), s, by omega, by rw [List.length_set]; exact hp.2⟩
            · rw [hb] at ha; replace hb : ¬ (((k : Nat) : Int) < ((R.length : Nat) : Int)) := of_decide_eq_false hb
              refine wp_exit ?_
              refine then_exit ?_
              refine then_exit ?_
              refine block_hit ?_
              refine then_normal ?_
              refine wp_seq ?_
              refine wp_seq ?_
              refine wp_region_lit ?_
              refine st_val (.int .i64 0) ha (by kernel_rfl) (by kernel_rfl) ?_
              clear ha; intro a ha
              refine wpList_nil ?_
              refine then_normal ?_
              refine wp_block ?_
              replace s := s.at_ (j := 2) rfl
              replace s : St W (Own 34 2 A7 (0 + m) c8 (egs l) :: Own 3 1 Ar R.length c13 (ints X) :: Own 37 2 A5 (0 + n) c6 (egs E) :: L) w := s
              replace s := s.at_ (j := 2) rfl
              replace s : St W (Own 37 2 A5 (0 + n) c6 (egs E) :: Own 34 2 A7 (0 + m) c8 (egs l) :: Own 3 1 Ar R.length c13 (ints X) :: L) w := s
              replace s : St W (Own 37 2 A5 (0 + n) c6 (egs E) :: Own 34 2 A7 (0 + m) c8 (egs l) :: L) w := St.mid (A := [Own 37 2 A5 (0 + n) c6 (egs E), Own 34 2 A7 (0 + m) c8 (egs l)]) (B := [Own 3 1 Ar R.length c13 (ints X)]) s
              refine wp_loopG (G := (Nat × Option Addr)) (fun ⟨k, Ac⟩ a w => Has a 169 [(0, .slice A n ca), (1, .slice B m cb), (11, .slice A7 (0 + m) c8), (10, .slice Ac (0 + n) c6), (25, .int .i64 ((k : Nat) : Int))] ∧ St W (Own 37 2 Ac (0 + n) c6 (egs E) :: Own 34 2 A7 (0 + m) c8 (egs l) :: L) w ∧ (k ≤ (0 + n))) (fun ⟨k, Ac⟩ => (0 + n) - k) (0, A5) ?_ ?_
              · exact ⟨(Has.cons ha (by kernel_rfl) (by kernel_rfl) (Has.cons ha (by kernel_rfl) (by kernel_rfl) (Has.cons ha (by kernel_rfl) (by kernel_rfl) (Has.cons ha (by kernel_rfl) (by kernel_rfl) (Has.cons ha (by kernel_rfl) (by kernel_rfl) (Has.nil ha)))))), s, Nat.zero_le _⟩
              · clear ha s; rintro ⟨k, Ac⟩ a w ⟨ha, s, hp⟩
                refine wp_seq ?_
                refine wp_seq ?_
                refine wp_region_lit ?_
                refine st_val (.int .i64 ((k : Nat) : Int)) ha (by kernel_rfl) (by kernel_rfl) ?_
                clear ha; intro a ha
                refine st_val (.slice Ac (0 + n) c6) ha (by kernel_rfl) (by kernel_rfl) ?_
                clear ha; intro a ha
                refine st_val (.int .i64 ((0 + n : Nat) : Int)) ha (by kernel_rfl) (by kernel_rfl) ?_
                clear ha; intro a ha
                refine st_val (.bool (decide (((k : Nat) : Int) < ((0 + n : Nat) : Int)))) ha (by kernel_rfl) (by kernel_rfl) ?_
                clear ha; intro a ha
                refine wpList_nil ?_
                refine then_normal ?_
                refine wp_part (decide (((k : Nat) : Int) < ((0 + n : Nat) : Int))) ha rfl (by kernel_rfl) (fun hb => ?_) (fun hb => ?_)
                · rw [hb] at ha; replace hb : (((k : Nat) : Int) < ((0 + n : Nat) : Int)) := of_decide_eq_true hb
                  obtain ⟨x, hx⟩ : ∃ x, E[k]? = some x := ⟨_, List.getElem?_eq_getElem (by omega)⟩
                  obtain ⟨ada, h_ada⟩ := Reads.addr (hr _ s.sat.tail.tail) (by omega)
                  subst h_ada
                  obtain ⟨adx, h_adx⟩ := Own.addr (s.at_ (j := 0) rfl) (by omega)
                  subst h_adx
                  refine wp_skip ?_
                  refine then_normal ?_
                  refine wp_seq ?_
                  refine wp_block ?_
                  refine wp_seq ?_
                  refine wp_region_head 8 (fun w => Reads w 2 (some adx) (0 + n) (egs E) ∧ Reads w 2 (some ada) n (egs E) ∧ True) (by kernel_rfl) (by decide) ?_
                  replace s := s.drew; generalize _root_.Go.World.drew _ = w at s ⊢
                  have hS : (fun w => Reads w 2 (some adx) (0 + n) (egs E) ∧ Reads w 2 (some ada) n (egs E) ∧ True) w := ⟨(Knows.own (j := 0) rfl) _ s.sat, (hr _ s.sat.tail.tail), trivial⟩
                  refine hd_val (i := 0) (.slice (some adx) (0 + n) c6) ha rfl (by kernel_rfl) (fun _ _ _ h => h) (by kernel_rfl) (fun w hS => (by kernel_rfl)) hS ?_
                  clear ha; intro a ha
                  refine hd_val (i := 1) (.int .i64 ((k : Nat) : Int)) ha rfl (by kernel_rfl) (fun _ _ _ h => h) (by kernel_rfl) (fun w hS => (by kernel_rfl)) hS ?_
                  clear ha; intro a ha
                  refine hd_val (i := 2) (.pointer (some (adx.add (k * 2)))) ha rfl (by kernel_rfl) (fun _ _ _ h => h) (by kernel_rfl) (fun w hS => (run_indexAddr' (kd := .i64) (i := ((k : Nat) : Int)) (n := (0 + n)) (c := c6) k rfl Try.underlying22 Try.sizeOf37 (by kernel_rfl) (by kernel_rfl) rfl (by first | assumption | omega) _)) hS ?_
                  clear ha; intro a ha
                  refine hd_val (i := 3) (.agg #[.int .i64 x.1, .int .i64 x.2]) ha rfl (by kernel_rfl) (fun _ _ _ h => h) (by kernel_rfl) (fun w hS => run_loadAtN (i := k * 2) [.int .i64 x.1, .int .i64 x.2] hS.1 rfl (by kernel_rfl) Try.isAgg37 Try.sizeOf37 (fun j hj => egs_at hx hj) rfl) hS ?_
                  clear ha; intro a ha
                  refine hd_val (i := 4) (.slice (some ada) n ca) ha rfl (by kernel_rfl) (fun _ _ _ h => h) (by kernel_rfl) (fun w hS => (by kernel_rfl)) hS ?_
                  clear ha; intro a ha
                  refine hd_val (i := 5) (.int .i64 ((k : Nat) : Int)) ha rfl (by kernel_rfl) (fun _ _ _ h => h) (by kernel_rfl) (fun w hS => (by kernel_rfl)) hS ?_
                  clear ha; intro a ha
                  refine hd_val (i := 6) (.pointer (some (ada.add (k * 2)))) ha rfl (by kernel_rfl) (fun _ _ _ h => h) (by kernel_rfl) (fun w hS => (run_indexAddr' (kd := .i64) (i := ((k : Nat) : Int)) (n := n) (c := ca) k rfl Try.underlying22 Try.sizeOf37 (by kernel_rfl) (by kernel_rfl) rfl (by first | assumption | omega) _)) hS ?_
                  clear ha; intro a ha
                  refine hd_val (i := 7) (.agg #[.int .i64 x.1, .int .i64 x.2]) ha rfl (by kernel_rfl) (fun _ _ _ h => h) (by kernel_rfl) (fun w hS => run_loadAtN (i := k * 2) [.int .i64 x.1, .int .i64 x.2] hS.2.1 rfl (by kernel_rfl) Try.isAgg37 Try.sizeOf37 (fun j hj => egs_at hx hj) rfl) hS ?_
                  clear ha; intro a ha
                  refine Head.done (by kernel_rfl) ?_
                  clear hS; simp only [List.drop_succ_cons, List.drop_zero]
                  refine st_val (.bool false) ha (by kernel_rfl) (run_neq2 (x := x.1) (y := x.2) (.inl rfl) rfl (by kernel_rfl) (by kernel_rfl) _) ?_
                  clear ha; intro a ha
                  refine wpList_nil ?_
                  refine then_normal ?_
                  refine wp_false ha rfl (by kernel_rfl) ?_
                  refine wp_skip ?_
                  refine block_normal ?_
                  refine then_normal ?_
                  refine wp_region_lit ?_
                  refine st_val (.int .i64 ((k : Nat) : Int)) ha (by kernel_rfl) (by kernel_rfl) ?_
                  clear ha; intro a ha
                  refine st_val (.int .i64 ((k + 1 : Nat) : Int)) ha (by kernel_rfl) (run_arith (((k : Nat) : Int) + (1 : Int)) ((k + 1 : Nat) : Int) rfl (by kernel_rfl) (by kernel_rfl) (.inl ⟨rfl, rfl⟩) (by rw [wrap64_in (by omega)]; try omega) _) ?_
                  clear ha; intro a ha
                  refine st_val (.int .i64 ((k + 1 : Nat) : Int)) ha (by kernel_rfl) (by kernel_rfl) ?_
                  clear ha; intro a ha
                  refine wpList_nil ?_
                  refine then_normal ?_
                  exact ⟨(k + 1, (some adx)), (show (0 + n) - (k + 1) < (0 + n) - k by omega), (Has.cons ha (by kernel_rfl) (by kernel_rfl) (Has.cons ha (by kernel_rfl) (by kernel_rfl) (Has.cons ha (by kernel_rfl) (by kernel_rfl) (Has.cons ha (by kernel_rfl) (by kernel_rfl) (Has.cons ha (by kernel_rfl) (by kernel_rfl) (Has.nil ha)))))), s, (show k + 1 ≤ (0 + n) by omega)⟩
                · rw [hb] at ha; replace hb : ¬ (((k : Nat) : Int) < ((0 + n : Nat) : Int)) := of_decide_eq_false hb
                  refine wp_exit ?_
                  refine then_exit ?_
                  refine then_exit ?_
                  refine block_hit ?_
                  refine then_normal ?_
                  refine wp_seq ?_
                  refine wp_seq ?_
                  refine wp_region_lit ?_
                  refine st_val (.int .i64 0) ha (by kernel_rfl) (by kernel_rfl) ?_
                  clear ha; intro a ha
                  refine wpList_nil ?_
                  refine then_normal ?_
                  refine wp_block ?_
                  replace s := s.at_ (j := 1) rfl
                  replace s : St W (Own 34 2 A7 (0 + m) c8 (egs l) :: Own 37 2 Ac (0 + n) c6 (egs E) :: L) w := s
                  replace s : St W (Own 34 2 A7 (0 + m) c8 (egs l) :: L) w := St.mid (A := [Own 34 2 A7 (0 + m) c8 (egs l)]) (B := [Own 37 2 Ac (0 + n) c6 (egs E)]) s
                  refine wp_loopG (G := (Nat × Option Addr)) (fun ⟨k, Ac⟩ a w => Has a 169 [(1, .slice B m cb), (11, .slice Ac (0 + m) c8), (26, .int .i64 ((k : Nat) : Int))] ∧ St W (Own 34 2 Ac (0 + m) c8 (egs l) :: L) w ∧ (k ≤ (0 + m))) (fun ⟨k, Ac⟩ => (0 + m) - k) (0, A7) ?_ ?_
                  · exact ⟨(Has.cons ha (by kernel_rfl) (by kernel_rfl) (Has.cons ha (by kernel_rfl) (by kernel_rfl) (Has.cons ha (by kernel_rfl) (by kernel_rfl) (Has.nil ha)))), s, Nat.zero_le _⟩
                  · clear ha s; rintro ⟨k, Ac⟩ a w ⟨ha, s, hp⟩
                    refine wp_seq ?_
                    refine wp_seq ?_
                    refine wp_region_lit ?_
                    refine st_val (.int .i64 ((k : Nat) : Int)) ha (by kernel_rfl) (by kernel_rfl) ?_
                    clear ha; intro a ha
                    refine st_val (.slice Ac (0 + m) c8) ha (by kernel_rfl) (by kernel_rfl) ?_
                    clear ha; intro a ha
                    refine st_val (.int .i64 ((0 + m : Nat) : Int)) ha (by kernel_rfl) (by kernel_rfl) ?_
                    clear ha; intro a ha
                    refine st_val (.bool (decide (((k : Nat) : Int) < ((0 + m : Nat) : Int)))) ha (by kernel_rfl) (by kernel_rfl) ?_
                    clear ha; intro a ha
                    refine wpList_nil ?_
                    refine then_normal ?_
                    refine wp_part (decide (((k : Nat) : Int) < ((0 + m : Nat) : Int))) ha rfl (by kernel_rfl) (fun hb => ?_) (fun hb => ?_)
                    · rw [hb] at ha; replace hb : (((k : Nat) : Int) < ((0 + m : Nat) : Int)) := of_decide_eq_true hb
                      obtain ⟨x, hx⟩ : ∃ x, l[k]? = some x := ⟨_, List.getElem?_eq_getElem (by omega)⟩
                      obtain ⟨adb, h_adb⟩ := Reads.addr (hrb _ s.sat.tail) (by omega)
                      subst h_adb
                      obtain ⟨ady, h_ady⟩ := Own.addr (s.at_ (j := 0) rfl) (by omega)
                      subst h_ady
                      refine wp_skip ?_
                      refine then_normal ?_
                      refine wp_seq ?_
                      refine wp_block ?_
                      refine wp_seq ?_
                      refine wp_region_head 8 (fun w => Reads w 2 (some ady) (0 + m) (egs l) ∧ Reads w 2 (some adb) m (egs l) ∧ True) (by kernel_rfl) (by decide) ?_
                      replace s := s.drew; generalize _root_.Go.World.drew _ = w at s ⊢
                      have hS : (fun w => Reads w 2 (some ady) (0 + m) (egs l) ∧ Reads w 2 (some adb) m (egs l) ∧ True) w := ⟨(Knows.own (j := 0) rfl) _ s.sat, (hrb _ s.sat.tail), trivial⟩
                      refine hd_val (i := 0) (.slice (some ady) (0 + m) c8) ha rfl (by kernel_rfl) (fun _ _ _ h => h) (by kernel_rfl) (fun w hS => (by kernel_rfl)) hS ?_
                      clear ha; intro a ha
                      refine hd_val (i := 1) (.int .i64 ((k : Nat) : Int)) ha rfl (by kernel_rfl) (fun _ _ _ h => h) (by kernel_rfl) (fun w hS => (by kernel_rfl)) hS ?_
                      clear ha; intro a ha
                      refine hd_val (i := 2) (.pointer (some (ady.add (k * 2)))) ha rfl (by kernel_rfl) (fun _ _ _ h => h) (by kernel_rfl) (fun w hS => (run_indexAddr' (kd := .i64) (i := ((k : Nat) : Int)) (n := (0 + m)) (c := c8) k rfl Try.underlying23 Try.sizeOf34 (by kernel_rfl) (by kernel_rfl) rfl (by first | assumption | omega) _)) hS ?_
                      clear ha; intro a ha
                      refine hd_val (i := 3) (.agg #[.int .i64 x.1, .int .i64 x.2]) ha rfl (by kernel_rfl) (fun _ _ _ h => h) (by kernel_rfl) (fun w hS => run_loadAtN (i := k * 2) [.int .i64 x.1, .int .i64 x.2] hS.1 rfl (by kernel_rfl) Try.isAgg34 Try.sizeOf34 (fun j hj => egs_at hx hj) rfl) hS ?_
                      clear ha; intro a ha
                      refine hd_val (i := 4) (.slice (some adb) m cb) ha rfl (by kernel_rfl) (fun _ _ _ h => h) (by kernel_rfl) (fun w hS => (by kernel_rfl)) hS ?_
                      clear ha; intro a ha
                      refine hd_val (i := 5) (.int .i64 ((k : Nat) : Int)) ha rfl (by kernel_rfl) (fun _ _ _ h => h) (by kernel_rfl) (fun w hS => (by kernel_rfl)) hS ?_
                      clear ha; intro a ha
                      refine hd_val (i := 6) (.pointer (some (adb.add (k * 2)))) ha rfl (by kernel_rfl) (fun _ _ _ h => h) (by kernel_rfl) (fun w hS => (run_indexAddr' (kd := .i64) (i := ((k : Nat) : Int)) (n := m) (c := cb) k rfl Try.underlying23 Try.sizeOf34 (by kernel_rfl) (by kernel_rfl) rfl (by first | assumption | omega) _)) hS ?_
                      clear ha; intro a ha
                      refine hd_val (i := 7) (.agg #[.int .i64 x.1, .int .i64 x.2]) ha rfl (by kernel_rfl) (fun _ _ _ h => h) (by kernel_rfl) (fun w hS => run_loadAtN (i := k * 2) [.int .i64 x.1, .int .i64 x.2] hS.2.1 rfl (by kernel_rfl) Try.isAgg34 Try.sizeOf34 (fun j hj => egs_at hx hj) rfl) hS ?_
                      clear ha; intro a ha
                      refine Head.done (by kernel_rfl) ?_
                      clear hS; simp only [List.drop_succ_cons, List.drop_zero]
                      refine st_val (.bool false) ha (by kernel_rfl) (run_neq2 (x := x.1) (y := x.2) (.inr rfl) rfl (by kernel_rfl) (by kernel_rfl) _) ?_
                      clear ha; intro a ha
                      refine wpList_nil ?_
                      refine then_normal ?_
                      refine wp_false ha rfl (by kernel_rfl) ?_
                      refine wp_skip ?_
                      refine block_normal ?_
                      refine then_normal ?_
                      refine wp_region_lit ?_
                      refine st_val (.int .i64 ((k : Nat) : Int)) ha (by kernel_rfl) (by kernel_rfl) ?_
                      clear ha; intro a ha
                      refine st_val (.int .i64 ((k + 1 : Nat) : Int)) ha (by kernel_rfl) (run_arith (((k : Nat) : Int) + (1 : Int)) ((k + 1 : Nat) : Int) rfl (by kernel_rfl) (by kernel_rfl) (.inl ⟨rfl, rfl⟩) (by rw [wrap64_in (by omega)]; try omega) _) ?_
                      clear ha; intro a ha
                      refine st_val (.int .i64 ((k + 1 : Nat) : Int)) ha (by kernel_rfl) (by kernel_rfl) ?_
                      clear ha; intro a ha
                      refine wpList_nil ?_
                      refine then_normal ?_
                      exact ⟨(k + 1, (some ady)), (show (0 + m) - (k + 1) < (0 + m) - k by omega), (Has.cons ha (by kernel_rfl) (by kernel_rfl) (Has.cons ha (by kernel_rfl) (by kernel_rfl) (Has.cons ha (by kernel_rfl) (by kernel_rfl) (Has.nil ha)))), s, (show k + 1 ≤ (0 + m) by omega)⟩
                    · rw [hb] at ha; replace hb : ¬ (((k : Nat) : Int) < ((0 + m : Nat) : Int)) := of_decide_eq_false hb
                      refine wp_exit ?_
                      refine then_exit ?_
                      refine then_exit ?_
                      refine block_hit ?_
                      refine then_normal ?_
                      refine wp_seq ?_
                      refine wp_region_lit ?_
                      refine st_call ha (by kernel_rfl) (by kernel_rfl) (works_true W hW _ w s) ?_
                      rintro _ w ⟨rfl, s⟩
                      replace s : St W (Own 34 2 Ac (0 + m) c8 (egs l) :: L) w := s
                      refine ⟨_, rfl, ?_⟩; clear ha; intro a ha
                      refine st_val (.bool true) ha (by kernel_rfl) (by kernel_rfl) ?_
                      clear ha; intro a ha
                      refine wpList_nil ?_
                      refine then_normal ?_
                      refine wp_ret ?_
                      refine ret_with (v := .bool true) ha (results_1 rfl ha (res_tmp (by kernel_rfl) (by kernel_rfl))) ?_
                      replace s := s.tail
                      replace s : St W (L) w := s
                      exact ⟨rfl, s⟩

end Go.Proofs.Ytjdkpebnaohonaa.B
