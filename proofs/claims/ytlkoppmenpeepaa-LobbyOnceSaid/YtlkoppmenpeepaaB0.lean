import Derived.Test.YtlkoppmenpeepaaProg
import Derived.Test.YtlkoppmenpeepaaP0
import Derived.Test.YtlkoppmenpeepaaIt
import Derived.Test.YtlkoppmenpeepaaSepK
import Derived.Test.YtlkoppmenpeepaaSepL
import Derived.Test.YtlkoppmenpeepaaSepS
import Derived.Test.YtlkoppmenpeepaaSepD
import Derived.Test.YtlkoppmenpeepaaLay
namespace Go.Proofs.Ytlkoppmenpeepaa.B
open Go.RowKit Go.Maps Go.Sort Go.Shelf Go.Proofs.Ytlkoppmenpeepaa.Sep Go.Proofs.Ytlkoppmenpeepaa.P
set_option linter.unusedVariables false
set_option linter.unusedSimpArgs false

theorem elt22 : Elt Try.prog 22 30 5 48 := ⟨by kernel_rfl, by kernel_rfl⟩
theorem zs22 : (Try.prog.info? 30).bind (fun i => i.zero.map (·.cells)) = some #[.int .i64 0, .int .i64 0, .string (str []), .int .i64 0, .int .i64 0] := by kernel_rfl
theorem elt37 : Elt Try.prog 37 28 4 40 := ⟨by kernel_rfl, by kernel_rfl⟩
theorem zs37 : (Try.prog.info? 28).bind (fun i => i.zero.map (·.cells)) = some #[.int .i64 0, .string (str []), .int .i64 0, .int .i64 0] := by kernel_rfl
theorem elt39 : Elt Try.prog 39 34 4 40 := ⟨by kernel_rfl, by kernel_rfl⟩
theorem zs39 : (Try.prog.info? 34).bind (fun i => i.zero.map (·.cells)) = some #[.int .i64 0, .string (str []), .int .i64 0, .int .i64 0] := by kernel_rfl
theorem elt47 : Elt Try.prog 47 51 2 16 := ⟨by kernel_rfl, by kernel_rfl⟩
theorem zs47 : (Try.prog.info? 51).bind (fun i => i.zero.map (·.cells)) = some #[.int .i64 0, .int .i64 0] := by kernel_rfl
theorem elt55 : Elt Try.prog 55 3 1 8 := ⟨by kernel_rfl, by kernel_rfl⟩
theorem zs55 : (Try.prog.info? 3).bind (fun i => i.zero.map (·.cells)) = some #[.int .i64 0] := by kernel_rfl
theorem elt56 : Elt Try.prog 56 9 1 16 := ⟨by kernel_rfl, by kernel_rfl⟩
theorem zs56 : (Try.prog.info? 9).bind (fun i => i.zero.map (·.cells)) = some #[.string (str [])] := by kernel_rfl
def wc (w : Wt) : List Value := [.int .i64 w.num, .string (str w.key), .int .i64 w.waiter, .int .i64 w.holder]
def ws (l : List Wt) : List Value := l.flatMap wc
theorem ws_len (l : List Wt) : (ws l).length = l.length * 4 := by
  unfold ws; rw [List.flatMap_def, flatten_len (k := 4) (fun r hr => by obtain ⟨x, _, rfl⟩ := List.mem_map.1 hr; rfl)]; simp
theorem ws_append (l m : List Wt) : ws (l ++ m) = ws l ++ ws m := by simp [ws]
theorem ws_at {l : List Wt} {k : Nat} {x : Wt} (h : l[k]? = some x) {j : Nat} (hj : j < 4) : (ws l)[k * 4 + j]? = (wc x)[j]? := by
  unfold ws; rw [List.flatMap_def]
  exact flatten_at (k := 4) (fun r hr => by obtain ⟨d, _, rfl⟩ := List.mem_map.1 hr; rfl) (by rw [List.getElem?_map, h]; rfl) hj
theorem ws_one (l : List Wt) : ∀ u ∈ ws l, u.oneCell' = true := by
  intro u hu
  obtain ⟨x, _, h⟩ := List.mem_flatMap.1 hu
  simp [wc] at h
  rcases h with rfl | rfl | rfl | rfl <;> rfl
theorem take_snoc {α : Type} {l : List α} {k : Nat} {x : α} (h : l[k]? = some x) : l.take (k + 1) = l.take k ++ [x] := by
  obtain ⟨hk, rfl⟩ := List.getElem?_eq_some_iff.1 h
  rw [List.take_succ_eq_append_getElem hk]
theorem pcs_at {l : List Pr} {k : Nat} {x : Pr} (h : l[k]? = some x) {j : Nat} (hj : j < 2) : (pcs l)[k * 2 + j]? = (pc x)[j]? := by
  unfold pcs; rw [List.flatMap_def]
  exact flatten_at (k := 2) (fun r hr => by obtain ⟨d, _, rfl⟩ := List.mem_map.1 hr; rfl) (by rw [List.getElem?_map, h]; rfl) hj
theorem pcs_one (l : List Pr) : ∀ u ∈ pcs l, u.oneCell' = true := by
  intro u hu
  obtain ⟨x, _, h⟩ := List.mem_flatMap.1 hu
  simp [pc] at h
  rcases h with rfl | rfl <;> rfl
theorem St.star {W w : World} {A L : List Chunk} : St W (star A :: L) w ↔ St W (A ++ L) w := and_congr Sat.star_iff Iff.rfl
/-- A function's value that says p of a request; what it keeps (Z) may turn with what it was asked. -/
def Asks (gf : Nat) (bs : Array Value) (p : Wt → Bool) (Z : List Wt → Chunk) : Prop :=
  ∀ (V : World) (M : List Chunk) (w : World) (xs : List Wt) (x : Wt), xs.length ≤ 100 → St V (Z xs :: M) w → Calls Try.prog gf (#[.agg (wc x).toArray] ++ bs) w fun e w' => e = .returned (.bool (p x)) ∧ St V (Z (xs ++ [x]) :: M) w'

theorem isId_any (W : World) (L : List Chunk) (w : World) (n : Int) (s : St W L w) :
    Calls Try.prog 34 #[.int .i64 n] w fun e w' => e = .returned (.bool (isIdB n)) ∧ St W L w' := by
  refine enter_args (l := [.int .i64 n]) Try.func34 rfl rfl (Nat.le_of_ble_eq_true rfl) ?_
  intro a ha; replace ha : Has a 9 [(0, .int .i64 n)] := ha
  refine wp_seq ?_
  refine wp_region_lit ?_
  refine st_val (.bool false) ha (by kernel_rfl) (by kernel_rfl) ?_
  clear ha; intro a ha
  refine wpList_nil ?_
  refine then_normal ?_
  refine wp_seq ?_
  refine wp_region_lit ?_
  refine st_val (.int .i64 n) ha (by kernel_rfl) (by kernel_rfl) ?_
  clear ha; intro a ha
  refine st_val (.bool (decide (n ≥ (1 : Int)))) ha (by kernel_rfl) (by kernel_rfl) ?_
  clear ha; intro a ha
  refine st_val (.bool (decide (n ≥ (1 : Int)))) ha (by kernel_rfl) (by kernel_rfl) ?_
  clear ha; intro a ha
  rcases Bool.eq_false_or_eq_true (decide (n ≥ (1 : Int))) with hb | hb
  · rw [hb] at ha; replace hb : (n ≥ (1 : Int)) := of_decide_eq_true hb
    refine st_val (.int .i64 n) ha (by kernel_rfl) (by kernel_rfl) ?_
    clear ha; intro a ha
    refine st_val (.bool (decide (n ≤ (9007199254740991 : Int)))) ha (by kernel_rfl) (by kernel_rfl) ?_
    clear ha; intro a ha
    refine st_val (.bool (decide (n ≤ (9007199254740991 : Int)))) ha (by kernel_rfl) (by kernel_rfl) ?_
    clear ha; intro a ha
    refine st_val (.bool (decide (n ≤ (9007199254740991 : Int)))) ha (by kernel_rfl) (by kernel_rfl) ?_
    clear ha; intro a ha
    refine wpList_nil ?_
    refine then_normal ?_
    refine wp_ret ?_
    refine ret_with (v := .bool (decide (n ≤ (9007199254740991 : Int)))) ha (results_1 rfl ha (res_tmp (by kernel_rfl) (by kernel_rfl))) ?_
    refine ⟨?_, s⟩
    congr 2
    unfold isIdB
    first | (rw [decide_eq_true (by assumption)]; rfl) | (rw [decide_eq_false (by assumption)]; rfl) | simp_all
  · rw [hb] at ha; replace hb : ¬ (n ≥ (1 : Int)) := of_decide_eq_false hb
    refine st_pass ha (by kernel_rfl) ?_
    clear ha; intro a ha
    refine st_pass ha (by kernel_rfl) ?_
    clear ha; intro a ha
    refine st_val (.bool false) ha (by kernel_rfl) (by kernel_rfl) ?_
    clear ha; intro a ha
    refine st_val (.bool false) ha (by kernel_rfl) (by kernel_rfl) ?_
    clear ha; intro a ha
    refine wpList_nil ?_
    refine then_normal ?_
    refine wp_ret ?_
    refine ret_with (v := .bool false) ha (results_1 rfl ha (res_tmp (by kernel_rfl) (by kernel_rfl))) ?_
    refine ⟨?_, s⟩
    congr 2
    unfold isIdB
    first | (rw [decide_eq_true (by assumption)]; rfl) | (rw [decide_eq_false (by assumption)]; rfl) | simp_all

theorem rid_any (W : World) (L : List Chunk) (w : World) (n : Int) (s : St W L w) :
    Calls Try.prog 37 #[.int .i64 n] w fun e w' => e = .returned (.bool (isIdB n)) ∧ St W L w' := by
  refine enter_args (l := [.int .i64 n]) Try.func37 rfl rfl (Nat.le_of_ble_eq_true rfl) ?_
  intro a ha; replace ha : Has a 9 [(0, .int .i64 n)] := ha
  refine wp_seq ?_
  refine wp_region_lit ?_
  refine st_val (.bool false) ha (by kernel_rfl) (by kernel_rfl) ?_
  clear ha; intro a ha
  refine wpList_nil ?_
  refine then_normal ?_
  refine wp_seq ?_
  refine wp_region_lit ?_
  refine st_val (.int .i64 n) ha (by kernel_rfl) (by kernel_rfl) ?_
  clear ha; intro a ha
  refine st_val (.bool (decide (n ≥ (1 : Int)))) ha (by kernel_rfl) (by kernel_rfl) ?_
  clear ha; intro a ha
  refine st_val (.bool (decide (n ≥ (1 : Int)))) ha (by kernel_rfl) (by kernel_rfl) ?_
  clear ha; intro a ha
  rcases Bool.eq_false_or_eq_true (decide (n ≥ (1 : Int))) with hb | hb
  · rw [hb] at ha; replace hb : (n ≥ (1 : Int)) := of_decide_eq_true hb
    refine st_val (.int .i64 n) ha (by kernel_rfl) (by kernel_rfl) ?_
    clear ha; intro a ha
    refine st_val (.bool (decide (n ≤ (9007199254740991 : Int)))) ha (by kernel_rfl) (by kernel_rfl) ?_
    clear ha; intro a ha
    refine st_val (.bool (decide (n ≤ (9007199254740991 : Int)))) ha (by kernel_rfl) (by kernel_rfl) ?_
    clear ha; intro a ha
    refine st_val (.bool (decide (n ≤ (9007199254740991 : Int)))) ha (by kernel_rfl) (by kernel_rfl) ?_
    clear ha; intro a ha
    refine wpList_nil ?_
    refine then_normal ?_
    refine wp_ret ?_
    refine ret_with (v := .bool (decide (n ≤ (9007199254740991 : Int)))) ha (results_1 rfl ha (res_tmp (by kernel_rfl) (by kernel_rfl))) ?_
    refine ⟨?_, s⟩
    congr 2
    unfold isIdB
    first | (rw [decide_eq_true (by assumption)]; rfl) | (rw [decide_eq_false (by assumption)]; rfl) | simp_all
  · rw [hb] at ha; replace hb : ¬ (n ≥ (1 : Int)) := of_decide_eq_false hb
    refine st_pass ha (by kernel_rfl) ?_
    clear ha; intro a ha
    refine st_pass ha (by kernel_rfl) ?_
    clear ha; intro a ha
    refine st_val (.bool false) ha (by kernel_rfl) (by kernel_rfl) ?_
    clear ha; intro a ha
    refine st_val (.bool false) ha (by kernel_rfl) (by kernel_rfl) ?_
    clear ha; intro a ha
    refine wpList_nil ?_
    refine then_normal ?_
    refine wp_ret ?_
    refine ret_with (v := .bool false) ha (results_1 rfl ha (res_tmp (by kernel_rfl) (by kernel_rfl))) ?_
    refine ⟨?_, s⟩
    congr 2
    unfold isIdB
    first | (rw [decide_eq_true (by assumption)]; rfl) | (rw [decide_eq_false (by assumption)]; rfl) | simp_all

theorem isNaN_any (W : World) (L : List Chunk) (w : World) (x : Int) (s : St W L w) :
    Calls Try.prog 49 #[.int .i64 x] w fun e w' => e = .returned (.bool false) ∧ St W L w' := by
  refine enter_args (l := [.int .i64 x]) Try.func49 rfl rfl (Nat.le_of_ble_eq_true rfl) ?_
  intro a ha; replace ha : Has a 6 [(0, .int .i64 x)] := ha
  refine wp_seq ?_
  refine wp_region_lit ?_
  refine st_val (.bool false) ha (by kernel_rfl) (by kernel_rfl) ?_
  clear ha; intro a ha
  refine wpList_nil ?_
  refine then_normal ?_
  refine wp_seq ?_
  refine wp_region_lit ?_
  refine st_val (.int .i64 x) ha (by kernel_rfl) (by kernel_rfl) ?_
  clear ha; intro a ha
  refine st_val (.int .i64 x) ha (by kernel_rfl) (by kernel_rfl) ?_
  clear ha; intro a ha
  refine st_val (.bool false) ha (by kernel_rfl) (run_known (bne_self_eq_false _) (show (execOp (evalE _) _).run _ _ = .ok (.value (.bool (x != x))) _ from by kernel_rfl)) ?_
  clear ha; intro a ha
  refine st_val (.bool false) ha (by kernel_rfl) (by kernel_rfl) ?_
  clear ha; intro a ha
  refine wpList_nil ?_
  refine then_normal ?_
  refine wp_ret ?_
  refine ret_with (v := .bool false) ha (results_1 rfl ha (res_tmp (by kernel_rfl) (by kernel_rfl))) ?_
  exact ⟨rfl, s⟩

def cmpI (x y : Int) : Int := if x < y then -1 else if x > y then 1 else 0
theorem cmp_any (W : World) (L : List Chunk) (w : World) (x y : Int) (s : St W L w) :
    Calls Try.prog 42 #[.int .i64 x, .int .i64 y] w fun e w' => e = .returned (.int .i64 (cmpI x y)) ∧ St W L w' := by
  refine enter_args (l := [.int .i64 x, .int .i64 y]) Try.func42 rfl rfl (Nat.le_of_ble_eq_true rfl) ?_
  intro a ha; replace ha : Has a 20 [(0, .int .i64 x), (1, .int .i64 y)] := ha
  refine wp_seq ?_
  refine wp_region_lit ?_
  refine st_val (.int .i64 0) ha (by kernel_rfl) (by kernel_rfl) ?_
  clear ha; intro a ha
  refine wpList_nil ?_
  refine then_normal ?_
  refine wp_seq ?_
  refine wp_region_lit ?_
  refine st_val (.int .i64 x) ha (by kernel_rfl) (by kernel_rfl) ?_
  clear ha; intro a ha
  refine st_call ha (by kernel_rfl) (by kernel_rfl) (isNaN_any W _ w x s) ?_
  rintro _ w ⟨rfl, s⟩
  replace s : St W (L) w := s
  refine ⟨_, rfl, ?_⟩; clear ha; intro a ha
  refine st_val (.bool false) ha (by kernel_rfl) (by kernel_rfl) ?_
  clear ha; intro a ha
  refine wpList_nil ?_
  refine then_normal ?_
  refine wp_seq ?_
  refine wp_region_lit ?_
  refine st_val (.int .i64 y) ha (by kernel_rfl) (by kernel_rfl) ?_
  clear ha; intro a ha
  refine st_call ha (by kernel_rfl) (by kernel_rfl) (isNaN_any W _ w y s) ?_
  rintro _ w ⟨rfl, s⟩
  replace s : St W (L) w := s
  refine ⟨_, rfl, ?_⟩; clear ha; intro a ha
  refine st_val (.bool false) ha (by kernel_rfl) (by kernel_rfl) ?_
  clear ha; intro a ha
  refine wpList_nil ?_
  refine then_normal ?_
  refine wp_seq ?_
  refine wp_seq ?_
  refine wp_region_lit ?_
  refine st_val (.bool false) ha (by kernel_rfl) (by kernel_rfl) ?_
  clear ha; intro a ha
  refine wpList_nil ?_
  refine then_normal ?_
  refine wp_false ha rfl (by kernel_rfl) ?_
  refine wp_skip ?_
  refine then_normal ?_
  refine wp_seq ?_
  refine wp_seq ?_
  refine wp_region_lit ?_
  refine st_val (.bool false) ha (by kernel_rfl) (by kernel_rfl) ?_
  clear ha; intro a ha
  refine wpList_nil ?_
  refine then_normal ?_
  refine wp_false ha rfl (by kernel_rfl) ?_
  refine wp_skip ?_
  refine then_normal ?_
  refine wp_seq ?_
  refine wp_seq ?_
  refine wp_region_lit ?_
  refine st_val (.int .i64 x) ha (by kernel_rfl) (by kernel_rfl) ?_
  clear ha; intro a ha
  refine st_val (.int .i64 y) ha (by kernel_rfl) (by kernel_rfl) ?_
  clear ha; intro a ha
  refine st_val (.bool (decide (x < y))) ha (by kernel_rfl) (by kernel_rfl) ?_
  clear ha; intro a ha
  refine wpList_nil ?_
  refine then_normal ?_
  refine wp_part (decide (x < y)) ha rfl (by kernel_rfl) (fun hb => ?_) (fun hb => ?_)
  · rw [hb] at ha; replace hb : (x < y) := of_decide_eq_true hb
    refine wp_seq ?_
    refine wp_region_lit ?_
    refine st_val (.int .i64 (-1)) ha (by kernel_rfl) (by kernel_rfl) ?_
    clear ha; intro a ha
    refine wpList_nil ?_
    refine then_normal ?_
    refine wp_ret ?_
    refine then_ret ?_
    refine ret_with (v := .int .i64 (-1)) ha (results_1 rfl ha (res_tmp (by kernel_rfl) (by kernel_rfl))) ?_
    refine ⟨?_, s⟩
    congr 2
    unfold cmpI
    first | (rw [if_pos (by assumption)]; done) | (rw [if_neg (by assumption), if_pos (by assumption)]; done) | (rw [if_neg (by assumption), if_neg (by assumption)]; done)
  · rw [hb] at ha; replace hb : ¬ (x < y) := of_decide_eq_false hb
    refine wp_skip ?_
    refine then_normal ?_
    refine wp_seq ?_
    refine wp_seq ?_
    refine wp_region_lit ?_
    refine st_val (.int .i64 x) ha (by kernel_rfl) (by kernel_rfl) ?_
    clear ha; intro a ha
    refine st_val (.int .i64 y) ha (by kernel_rfl) (by kernel_rfl) ?_
    clear ha; intro a ha
    refine st_val (.bool (decide (x > y))) ha (by kernel_rfl) (by kernel_rfl) ?_
    clear ha; intro a ha
    refine wpList_nil ?_
    refine then_normal ?_
    refine wp_part (decide (x > y)) ha rfl (by kernel_rfl) (fun hb => ?_) (fun hb => ?_)
    · rw [hb] at ha; replace hb : (x > y) := of_decide_eq_true hb
      refine wp_seq ?_
      refine wp_region_lit ?_
      refine st_val (.int .i64 1) ha (by kernel_rfl) (by kernel_rfl) ?_
      clear ha; intro a ha
      refine wpList_nil ?_
      refine then_normal ?_
      refine wp_ret ?_
      refine then_ret ?_
      refine ret_with (v := .int .i64 1) ha (results_1 rfl ha (res_tmp (by kernel_rfl) (by kernel_rfl))) ?_
      refine ⟨?_, s⟩
      congr 2
      unfold cmpI
      first | (rw [if_pos (by assumption)]; done) | (rw [if_neg (by assumption), if_pos (by assumption)]; done) | (rw [if_neg (by assumption), if_neg (by assumption)]; done)
    · rw [hb] at ha; replace hb : ¬ (x > y) := of_decide_eq_false hb
      refine wp_skip ?_
      refine then_normal ?_
      refine wp_seq ?_
      refine wp_region_lit ?_
      refine st_val (.int .i64 0) ha (by kernel_rfl) (by kernel_rfl) ?_
      clear ha; intro a ha
      refine wpList_nil ?_
      refine then_normal ?_
      refine wp_ret ?_
      refine ret_with (v := .int .i64 0) ha (results_1 rfl ha (res_tmp (by kernel_rfl) (by kernel_rfl))) ?_
      refine ⟨?_, s⟩
      congr 2
      unfold cmpI
      first | (rw [if_pos (by assumption)]; done) | (rw [if_neg (by assumption), if_pos (by assumption)]; done) | (rw [if_neg (by assumption), if_neg (by assumption)]; done)

theorem or_any (W : World) (L : List Chunk) (w : World) (x y : Int) (g : Nat) (s : St W (.blk g [.int .i64 x, .int .i64 y] 3 :: L) w) :
    Calls Try.prog 41 #[.slice (some ⟨g, 0, none⟩) 2 2] w fun e w' => e = .returned (.int .i64 (if x = 0 then y else x)) ∧ St W L w' := by
  refine enter_args (l := [.slice (some ⟨g, 0, none⟩) 2 2]) Try.func41 rfl rfl (Nat.le_of_ble_eq_true rfl) ?_
  intro a ha; replace ha : Has a 18 [(0, .slice (some ⟨g, 0, none⟩) 2 2)] := ha
  refine wp_seq ?_
  refine wp_region_lit ?_
  refine st_val (.int .i64 0) ha (by kernel_rfl) (by kernel_rfl) ?_
  clear ha; intro a ha
  refine wpList_nil ?_
  refine then_normal ?_
  refine wp_seq ?_
  refine wp_region_lit ?_
  refine st_val (.int .i64 0) ha (by kernel_rfl) (by kernel_rfl) ?_
  clear ha; intro a ha
  refine wpList_nil ?_
  refine then_normal ?_
  refine wp_seq ?_
  refine wp_seq ?_
  refine wp_region_lit ?_
  refine st_val (.slice (some ⟨g, 0, none⟩) 2 2) ha (by kernel_rfl) (by kernel_rfl) ?_
  clear ha; intro a ha
  refine st_val (.int .i64 2) ha (by kernel_rfl) (by kernel_rfl) ?_
  clear ha; intro a ha
  refine st_val (.int .i64 0) ha (by kernel_rfl) (by kernel_rfl) ?_
  clear ha; intro a ha
  refine wpList_nil ?_
  refine then_normal ?_
  refine wp_block ?_
  refine wp_loop_rounds 3 ?_
  show Code.rounds _ _ _ 3 _ _
  rw [rounds_succ]
  refine wp_seq ?_
  refine wp_region_lit ?_
  refine st_val (.bool true) ha (by kernel_rfl) (by kernel_rfl) ?_
  clear ha; intro a ha
  refine wpList_nil ?_
  refine then_normal ?_
  refine wp_seq ?_
  refine wp_true ha rfl (by kernel_rfl) ?_
  refine wp_skip ?_
  refine then_normal ?_
  refine wp_seq ?_
  refine wp_block ?_
  refine wp_seq ?_
  refine wp_region_lit ?_
  refine st_val (.pointer (some ⟨g, 0, none⟩)) ha (by kernel_rfl) (run_indexAddr (kd := .i64) (i := 0) (n := 2) (c := 2) 0 rfl Try.underlying55 Try.sizeOf3 (by kernel_rfl) (by kernel_rfl) rfl (by first | assumption | omega) _) ?_
  clear ha; intro a ha
  refine st_val (.int .i64 x) ha (by kernel_rfl) (run_load1 (of_ := 0) (s.blkIs 0 rfl) rfl (by kernel_rfl) Try.isAgg3 rfl) ?_
  clear ha; intro a ha
  refine st_val (.int .i64 x) ha (by kernel_rfl) (by kernel_rfl) ?_
  clear ha; intro a ha
  refine wpList_nil ?_
  refine then_normal ?_
  refine wp_seq ?_
  refine wp_region_lit ?_
  refine st_val (.int .i64 x) ha (by kernel_rfl) (by kernel_rfl) ?_
  clear ha; intro a ha
  refine st_val (.int .i64 0) ha (by kernel_rfl) (by kernel_rfl) ?_
  clear ha; intro a ha
  refine st_val (.bool (x != (0 : Int))) ha (by kernel_rfl) (by kernel_rfl) ?_
  clear ha; intro a ha
  refine wpList_nil ?_
  refine then_normal ?_
  refine wp_part (x != (0 : Int)) ha rfl (by kernel_rfl) (fun hb => ?_) (fun hb => ?_)
  · rw [hb] at ha; have hb_ := hb; replace hb := bne_iff_ne.1 hb
    refine wp_seq ?_
    refine wp_region_lit ?_
    refine st_val (.int .i64 x) ha (by kernel_rfl) (by kernel_rfl) ?_
    clear ha; intro a ha
    refine st_val (.int .i64 x) ha (by kernel_rfl) (by kernel_rfl) ?_
    clear ha; intro a ha
    refine wpList_nil ?_
    refine then_normal ?_
    refine wp_ret ?_
    refine block_ret ?_
    refine then_ret ?_
    refine then_ret ?_
    refine block_ret ?_
    refine then_ret ?_
    refine ret_with (v := .int .i64 x) ha (results_1 rfl ha (res_tmp (by kernel_rfl) (by kernel_rfl))) ?_
    replace s := s.tail
    replace s : St W (L) w := s
    refine ⟨?_, s⟩
    congr 2
    first | (rw [if_neg (by assumption)]; done) | (rw [if_pos (by assumption)]; done) | (rw [if_pos (by assumption)]; symm; assumption)
  · rw [hb] at ha; have hb_ := hb; replace hb := bne_eq_false_iff_eq.1 hb
    refine wp_skip ?_
    refine block_normal ?_
    refine then_normal ?_
    refine wp_region_lit ?_
    refine st_val (.int .i64 1) ha (by kernel_rfl) (by kernel_rfl) ?_
    clear ha; intro a ha
    refine st_val (.int .i64 1) ha (by kernel_rfl) (by kernel_rfl) ?_
    clear ha; intro a ha
    refine wpList_nil ?_
    refine then_normal ?_
    show Code.rounds _ _ _ 2 _ _
    rw [rounds_succ]
    refine wp_seq ?_
    refine wp_region_lit ?_
    refine st_val (.bool true) ha (by kernel_rfl) (by kernel_rfl) ?_
    clear ha; intro a ha
    refine wpList_nil ?_
    refine then_normal ?_
    refine wp_seq ?_
    refine wp_true ha rfl (by kernel_rfl) ?_
    refine wp_skip ?_
    refine then_normal ?_
    refine wp_seq ?_
    refine wp_block ?_
    refine wp_seq ?_
    refine wp_region_lit ?_
    refine st_val (.pointer (some ⟨g, 1, none⟩)) ha (by kernel_rfl) (run_indexAddr (kd := .i64) (i := 1) (n := 2) (c := 2) 1 rfl Try.underlying55 Try.sizeOf3 (by kernel_rfl) (by kernel_rfl) rfl (by first | assumption | omega) _) ?_
    clear ha; intro a ha
    refine st_val (.int .i64 y) ha (by kernel_rfl) (run_load1 (of_ := 1) (s.blkIs 0 rfl) rfl (by kernel_rfl) Try.isAgg3 rfl) ?_
    clear ha; intro a ha
    refine st_val (.int .i64 y) ha (by kernel_rfl) (by kernel_rfl) ?_
    clear ha; intro a ha
    refine wpList_nil ?_
    refine then_normal ?_
    refine wp_seq ?_
    refine wp_region_lit ?_
    refine st_val (.int .i64 y) ha (by kernel_rfl) (by kernel_rfl) ?_
    clear ha; intro a ha
    refine st_val (.int .i64 0) ha (by kernel_rfl) (by kernel_rfl) ?_
    clear ha; intro a ha
    refine st_val (.bool (y != (0 : Int))) ha (by kernel_rfl) (by kernel_rfl) ?_
    clear ha; intro a ha
    refine wpList_nil ?_
    refine then_normal ?_
    refine wp_part (y != (0 : Int)) ha rfl (by kernel_rfl) (fun hb => ?_) (fun hb => ?_)
    · rw [hb] at ha; have hb_ := hb; replace hb := bne_iff_ne.1 hb
      refine wp_seq ?_
      refine wp_region_lit ?_
      refine st_val (.int .i64 y) ha (by kernel_rfl) (by kernel_rfl) ?_
      clear ha; intro a ha
      refine st_val (.int .i64 y) ha (by kernel_rfl) (by kernel_rfl) ?_
      clear ha; intro a ha
      refine wpList_nil ?_
      refine then_normal ?_
      refine wp_ret ?_
      refine block_ret ?_
      refine then_ret ?_
      refine then_ret ?_
      refine block_ret ?_
      refine then_ret ?_
      refine ret_with (v := .int .i64 y) ha (results_1 rfl ha (res_tmp (by kernel_rfl) (by kernel_rfl))) ?_
      replace s := s.tail
      replace s : St W (L) w := s
      refine ⟨?_, s⟩
      congr 2
      first | (rw [if_neg (by assumption)]; done) | (rw [if_pos (by assumption)]; done) | (rw [if_pos (by assumption)]; symm; assumption)
    · rw [hb] at ha; have hb_ := hb; replace hb := bne_eq_false_iff_eq.1 hb
      refine wp_skip ?_
      refine block_normal ?_
      refine then_normal ?_
      refine wp_region_lit ?_
      refine st_val (.int .i64 2) ha (by kernel_rfl) (by kernel_rfl) ?_
      clear ha; intro a ha
      refine st_val (.int .i64 2) ha (by kernel_rfl) (by kernel_rfl) ?_
      clear ha; intro a ha
      refine wpList_nil ?_
      refine then_normal ?_
      show Code.rounds _ _ _ 1 _ _
      rw [rounds_succ]
      refine wp_seq ?_
      refine wp_region_lit ?_
      refine st_val (.bool false) ha (by kernel_rfl) (by kernel_rfl) ?_
      clear ha; intro a ha
      refine wpList_nil ?_
      refine then_normal ?_
      refine wp_seq ?_
      refine wp_false ha rfl (by kernel_rfl) ?_
      refine wp_exit ?_
      refine then_exit ?_
      refine then_exit ?_
      refine block_hit ?_
      refine then_normal ?_
      refine wp_seq ?_
      refine wp_region_lit ?_
      refine st_val (.int .i64 0) ha (by kernel_rfl) (by kernel_rfl) ?_
      clear ha; intro a ha
      refine st_val (.int .i64 0) ha (by kernel_rfl) (by kernel_rfl) ?_
      clear ha; intro a ha
      refine wpList_nil ?_
      refine then_normal ?_
      refine wp_ret ?_
      refine ret_with (v := .int .i64 0) ha (results_1 rfl ha (res_tmp (by kernel_rfl) (by kernel_rfl))) ?_
      replace s := s.tail
      replace s : St W (L) w := s
      refine ⟨?_, s⟩
      congr 2
      first | (rw [if_neg (by assumption)]; done) | (rw [if_pos (by assumption)]; done) | (rw [if_pos (by assumption)]; symm; assumption)

def cmpP (x y : Pr) : Int := if cmpI x.1 y.1 = 0 then cmpI x.2 y.2 else cmpI x.1 y.1
theorem pair_any (W : World) (L : List Chunk) (w : World) (x y : Pr) (s : St W L w) :
    Calls Try.prog 40 #[.agg #[.int .i64 x.1, .int .i64 x.2], .agg #[.int .i64 y.1, .int .i64 y.2]] w fun e w' => e = .returned (.int .i64 (cmpP x y)) ∧ St W L w' := by
  refine enter_args (l := [.agg #[.int .i64 x.1, .int .i64 x.2], .agg #[.int .i64 y.1, .int .i64 y.2]]) Try.func40 rfl rfl (Nat.le_of_ble_eq_true rfl) ?_
  intro a ha; replace ha : Has a 17 [(0, .agg #[.int .i64 x.1, .int .i64 x.2]), (1, .agg #[.int .i64 y.1, .int .i64 y.2])] := ha
  refine wp_seq ?_
  refine wp_region_lit ?_
  refine st_ex ha (by kernel_rfl) (ex_box [.int .i64 x.1, .int .i64 x.2] s rfl (by kernel_rfl)) ?_
  clear ha; rintro _ w a ⟨g1, rfl, s⟩ ha
  replace s : St W (.blk g1 [.int .i64 x.1, .int .i64 x.2] 51 :: L) w := s
  refine st_ex ha (by kernel_rfl) (ex_box [.int .i64 y.1, .int .i64 y.2] s rfl (by kernel_rfl)) ?_
  clear ha; rintro _ w a ⟨g2, rfl, s⟩ ha
  replace s : St W (.blk g2 [.int .i64 y.1, .int .i64 y.2] 51 :: .blk g1 [.int .i64 x.1, .int .i64 x.2] 51 :: L) w := s
  refine st_val (.int .i64 0) ha (by kernel_rfl) (by kernel_rfl) ?_
  clear ha; intro a ha
  refine wpList_nil ?_
  refine then_normal ?_
  refine wp_seq ?_
  refine wp_region_head 9 (fun w => BlkIs g1 [.int .i64 x.1, .int .i64 x.2] w ∧ BlkIs g2 [.int .i64 y.1, .int .i64 y.2] w ∧ True) (by kernel_rfl) (by decide) ?_
  replace s := s.drew; generalize _root_.Go.World.drew _ = w at s ⊢
  have hS : (fun w => BlkIs g1 [.int .i64 x.1, .int .i64 x.2] w ∧ BlkIs g2 [.int .i64 y.1, .int .i64 y.2] w ∧ True) w := ⟨s.blkIs 1 rfl, s.blkIs 0 rfl, trivial⟩
  refine hd_val (i := 0) (.pointer (some ⟨g1, 0, none⟩)) ha rfl (by kernel_rfl) (fun _ _ _ h => h) (by kernel_rfl) (fun w hS => (by kernel_rfl)) hS ?_
  clear ha; intro a ha
  refine hd_val (i := 1) (.int .i64 x.1) ha rfl (by kernel_rfl) (fun _ _ _ h => h) (by kernel_rfl) (fun w hS => run_load1 (of_ := 0) hS.1 rfl (by kernel_rfl) Try.isAgg3 rfl) hS ?_
  clear ha; intro a ha
  refine hd_val (i := 2) (.pointer (some ⟨g2, 0, none⟩)) ha rfl (by kernel_rfl) (fun _ _ _ h => h) (by kernel_rfl) (fun w hS => (by kernel_rfl)) hS ?_
  clear ha; intro a ha
  refine hd_val (i := 3) (.int .i64 y.1) ha rfl (by kernel_rfl) (fun _ _ _ h => h) (by kernel_rfl) (fun w hS => run_load1 (of_ := 0) hS.2.1 rfl (by kernel_rfl) Try.isAgg3 rfl) hS ?_
  clear ha; intro a ha
  refine hd_val (i := 5) (.pointer (some ⟨g1, 1, none⟩)) ha rfl (by kernel_rfl) (fun _ _ _ h => h) (by kernel_rfl) (fun w hS => (by kernel_rfl)) hS ?_
  clear ha; intro a ha
  refine hd_val (i := 6) (.int .i64 x.2) ha rfl (by kernel_rfl) (fun _ _ _ h => h) (by kernel_rfl) (fun w hS => run_load1 (of_ := 1) hS.1 rfl (by kernel_rfl) Try.isAgg3 rfl) hS ?_
  clear ha; intro a ha
  refine hd_val (i := 7) (.pointer (some ⟨g2, 1, none⟩)) ha rfl (by kernel_rfl) (fun _ _ _ h => h) (by kernel_rfl) (fun w hS => (by kernel_rfl)) hS ?_
  clear ha; intro a ha
  refine hd_val (i := 8) (.int .i64 y.2) ha rfl (by kernel_rfl) (fun _ _ _ h => h) (by kernel_rfl) (fun w hS => run_load1 (of_ := 1) hS.2.1 rfl (by kernel_rfl) Try.isAgg3 rfl) hS ?_
  clear ha; intro a ha
  refine hd_call (i := 4) ha rfl (by kernel_rfl) (by kernel_rfl) (by kernel_rfl) (cmp_any W _ w x.1 y.1 s) ?_
  clear hS; rintro _ w ⟨rfl, s⟩
  replace s : St W (.blk g2 [.int .i64 y.1, .int .i64 y.2] 51 :: .blk g1 [.int .i64 x.1, .int .i64 x.2] 51 :: L) w := s
  have hS : (fun w => BlkIs g1 [.int .i64 x.1, .int .i64 x.2] w ∧ BlkIs g2 [.int .i64 y.1, .int .i64 y.2] w ∧ True) w := ⟨s.blkIs 1 rfl, s.blkIs 0 rfl, trivial⟩
  refine ⟨_, rfl, hS, ?_⟩; clear ha; intro a ha
  refine Head.done (by kernel_rfl) ?_
  clear hS; simp only [List.drop_succ_cons, List.drop_zero]
  refine st_call ha (by kernel_rfl) (by kernel_rfl) (cmp_any W _ w x.2 y.2 s) ?_
  rintro _ w ⟨rfl, s⟩
  replace s : St W (.blk g2 [.int .i64 y.1, .int .i64 y.2] 51 :: .blk g1 [.int .i64 x.1, .int .i64 x.2] 51 :: L) w := s
  refine ⟨_, rfl, ?_⟩; clear ha; intro a ha
  refine st_ex ha (by kernel_rfl) (ex_buildSlice elt55 _ zs55 [.int .i64 (cmpI x.1 y.1), .int .i64 (cmpI x.2 y.2)] s rfl (by kernel_rfl) (by decide)) ?_
  clear ha; rintro _ w a ⟨g3, rfl, s⟩ ha
  replace s : St W (.blk g3 [.int .i64 (cmpI x.1 y.1), .int .i64 (cmpI x.2 y.2)] 3 :: .blk g2 [.int .i64 y.1, .int .i64 y.2] 51 :: .blk g1 [.int .i64 x.1, .int .i64 x.2] 51 :: L) w := s
  refine st_call ha (by kernel_rfl) (by kernel_rfl) (or_any W _ w (cmpI x.1 y.1) (cmpI x.2 y.2) g3 s) ?_
  rintro _ w ⟨rfl, s⟩
  replace s : St W (.blk g2 [.int .i64 y.1, .int .i64 y.2] 51 :: .blk g1 [.int .i64 x.1, .int .i64 x.2] 51 :: L) w := s
  refine ⟨_, rfl, ?_⟩; clear ha; intro a ha
  refine st_val (.int .i64 (if (cmpI x.1 y.1) = 0 then (cmpI x.2 y.2) else (cmpI x.1 y.1))) ha (by kernel_rfl) (by kernel_rfl) ?_
  clear ha; intro a ha
  refine wpList_nil ?_
  refine then_normal ?_
  refine wp_ret ?_
  refine ret_with (v := .int .i64 (if (cmpI x.1 y.1) = 0 then (cmpI x.2 y.2) else (cmpI x.1 y.1))) ha (results_1 rfl ha (res_tmp (by kernel_rfl) (by kernel_rfl))) ?_
  replace s := s.tail.tail
  replace s : St W (L) w := s
  exact ⟨rfl, s⟩

theorem none_any (W : World) (L : List Chunk) (w : World) (g : Nat) (b : Bool) (A : Option Addr) (n c : Nat) (s : St W (.blk g [.bool b, .slice A n c] 62 :: L) w) :
    Calls Try.prog 33 #[.pointer (some ⟨g, 0, none⟩)] w fun e w' => e = .returned (.bool (!b)) ∧ St W (.blk g [.bool b, .slice A n c] 62 :: L) w' := by
  refine enter_args (l := [.pointer (some ⟨g, 0, none⟩)]) Try.func33 rfl rfl (Nat.le_of_ble_eq_true rfl) ?_
  intro a ha; replace ha : Has a 12 [(0, .pointer (some ⟨g, 0, none⟩))] := ha
  refine wp_seq ?_
  refine wp_region_lit ?_
  refine st_val (.bool false) ha (by kernel_rfl) (by kernel_rfl) ?_
  clear ha; intro a ha
  refine wpList_nil ?_
  refine then_normal ?_
  refine wp_seq ?_
  refine wp_region_lit ?_
  refine st_val (.pointer (some ⟨g, 0, none⟩)) ha (by kernel_rfl) (by kernel_rfl) ?_
  clear ha; intro a ha
  refine st_val (.bool false) ha (by kernel_rfl) (by kernel_rfl) ?_
  clear ha; intro a ha
  refine st_val (.bool false) ha (by kernel_rfl) (by kernel_rfl) ?_
  clear ha; intro a ha
  refine st_val (.pointer (some ⟨g, 0, none⟩)) ha (by kernel_rfl) (by kernel_rfl) ?_
  clear ha; intro a ha
  refine st_val (.pointer (some ⟨g, 0, none⟩)) ha (by kernel_rfl) (by kernel_rfl) ?_
  clear ha; intro a ha
  refine st_val (.pointer (some ⟨g, 0, none⟩)) ha (by kernel_rfl) (by kernel_rfl) ?_
  clear ha; intro a ha
  refine st_val (.bool b) ha (by kernel_rfl) (run_load1 (of_ := 0) (s.blkIs 0 rfl) rfl (by kernel_rfl) Try.isAgg4 rfl) ?_
  clear ha; intro a ha
  refine st_val (.bool (!b)) ha (by kernel_rfl) (by kernel_rfl) ?_
  clear ha; intro a ha
  refine st_val (.bool (!b)) ha (by kernel_rfl) (by kernel_rfl) ?_
  clear ha; intro a ha
  refine st_val (.bool (!b)) ha (by kernel_rfl) (by kernel_rfl) ?_
  clear ha; intro a ha
  refine wpList_nil ?_
  refine then_normal ?_
  refine wp_ret ?_
  refine ret_with (v := .bool (!b)) ha (results_1 rfl ha (res_tmp (by kernel_rfl) (by kernel_rfl))) ?_
  exact ⟨rfl, s⟩

theorem none_nil (W : World) (L : List Chunk) (w : World) (s : St W L w) :
    Calls Try.prog 33 #[.pointer none] w fun e w' => e = .returned (.bool true) ∧ St W L w' := by
  refine enter_args (l := [.pointer none]) Try.func33 rfl rfl (Nat.le_of_ble_eq_true rfl) ?_
  intro a ha; replace ha : Has a 12 [(0, .pointer none)] := ha
  refine wp_seq ?_
  refine wp_region_lit ?_
  refine st_val (.bool false) ha (by kernel_rfl) (by kernel_rfl) ?_
  clear ha; intro a ha
  refine wpList_nil ?_
  refine then_normal ?_
  refine wp_seq ?_
  refine wp_region_lit ?_
  refine st_val (.pointer none) ha (by kernel_rfl) (by kernel_rfl) ?_
  clear ha; intro a ha
  refine st_val (.bool true) ha (by kernel_rfl) (by kernel_rfl) ?_
  clear ha; intro a ha
  refine st_val (.bool true) ha (by kernel_rfl) (by kernel_rfl) ?_
  clear ha; intro a ha
  refine st_pass ha (by kernel_rfl) ?_
  clear ha; intro a ha
  refine st_pass ha (by kernel_rfl) ?_
  clear ha; intro a ha
  refine st_pass ha (by kernel_rfl) ?_
  clear ha; intro a ha
  refine st_pass ha (by kernel_rfl) ?_
  clear ha; intro a ha
  refine st_pass ha (by kernel_rfl) ?_
  clear ha; intro a ha
  refine st_val (.bool true) ha (by kernel_rfl) (by kernel_rfl) ?_
  clear ha; intro a ha
  refine st_val (.bool true) ha (by kernel_rfl) (by kernel_rfl) ?_
  clear ha; intro a ha
  refine wpList_nil ?_
  refine then_normal ?_
  refine wp_ret ?_
  refine ret_with (v := .bool true) ha (results_1 rfl ha (res_tmp (by kernel_rfl) (by kernel_rfl))) ?_
  exact ⟨rfl, s⟩

theorem byNum_any (W : World) (L : List Chunk) (w : World) (x : Wt) (g : Nat) (n : Int) (s : St W (.blk g [.int .i64 n] 3 :: L) w) :
    Calls Try.prog 29 #[.agg #[.int .i64 x.num, .string (str x.key), .int .i64 x.waiter, .int .i64 x.holder], .pointer (some ⟨g, 0, none⟩)] w fun e w' => e = .returned (.bool (byNum n x)) ∧ St W (.blk g [.int .i64 n] 3 :: L) w' := by
  refine enter_args (l := [.agg #[.int .i64 x.num, .string (str x.key), .int .i64 x.waiter, .int .i64 x.holder], .pointer (some ⟨g, 0, none⟩)]) Try.func29 rfl rfl (Nat.le_of_ble_eq_true rfl) ?_
  intro a ha; replace ha : Has a 8 [(0, .agg #[.int .i64 x.num, .string (str x.key), .int .i64 x.waiter, .int .i64 x.holder]), (1, .pointer (some ⟨g, 0, none⟩))] := ha
  refine wp_seq ?_
  refine wp_region_lit ?_
  refine st_ex ha (by kernel_rfl) (ex_box [.int .i64 x.num, .string (str x.key), .int .i64 x.waiter, .int .i64 x.holder] s rfl (by kernel_rfl)) ?_
  clear ha; rintro _ w a ⟨g1, rfl, s⟩ ha
  replace s : St W (.blk g1 [.int .i64 x.num, .string (str x.key), .int .i64 x.waiter, .int .i64 x.holder] 28 :: .blk g [.int .i64 n] 3 :: L) w := s
  refine st_val (.bool false) ha (by kernel_rfl) (by kernel_rfl) ?_
  clear ha; intro a ha
  refine wpList_nil ?_
  refine then_normal ?_
  refine wp_seq ?_
  refine wp_region_lit ?_
  refine st_val (.pointer (some ⟨g1, 0, none⟩)) ha (by kernel_rfl) (by kernel_rfl) ?_
  clear ha; intro a ha
  refine st_val (.int .i64 x.num) ha (by kernel_rfl) (run_load1 (of_ := 0) (s.blkIs 0 rfl) rfl (by kernel_rfl) Try.isAgg3 rfl) ?_
  clear ha; intro a ha
  refine st_val (.int .i64 n) ha (by kernel_rfl) (run_load1 (of_ := 0) (s.blkIs 1 rfl) rfl (by kernel_rfl) Try.isAgg3 rfl) ?_
  clear ha; intro a ha
  refine st_val (.bool (x.num == n)) ha (by kernel_rfl) (by kernel_rfl) ?_
  clear ha; intro a ha
  refine st_val (.bool (x.num == n)) ha (by kernel_rfl) (by kernel_rfl) ?_
  clear ha; intro a ha
  refine wpList_nil ?_
  refine then_normal ?_
  refine wp_ret ?_
  refine ret_with (v := .bool (x.num == n)) ha (results_1 rfl ha (res_tmp (by kernel_rfl) (by kernel_rfl))) ?_
  replace s := s.at_ (j := 1) rfl
  replace s : St W (.blk g [.int .i64 n] 3 :: .blk g1 [.int .i64 x.num, .string (str x.key), .int .i64 x.waiter, .int .i64 x.holder] 28 :: L) w := s
  replace s : St W (.blk g [.int .i64 n] 3 :: L) w := St.mid (A := [.blk g [.int .i64 n] 3]) (B := [.blk g1 [.int .i64 x.num, .string (str x.key), .int .i64 x.waiter, .int .i64 x.holder] 28]) s
  exact ⟨rfl, s⟩

theorem byHolder_any (W : World) (L : List Chunk) (w : World) (x : Wt) (g : Nat) (n : Int) (s : St W (.blk g [.int .i64 n] 3 :: L) w) :
    Calls Try.prog 32 #[.agg #[.int .i64 x.num, .string (str x.key), .int .i64 x.waiter, .int .i64 x.holder], .pointer (some ⟨g, 0, none⟩)] w fun e w' => e = .returned (.bool (byHolder n x)) ∧ St W (.blk g [.int .i64 n] 3 :: L) w' := by
  refine enter_args (l := [.agg #[.int .i64 x.num, .string (str x.key), .int .i64 x.waiter, .int .i64 x.holder], .pointer (some ⟨g, 0, none⟩)]) Try.func32 rfl rfl (Nat.le_of_ble_eq_true rfl) ?_
  intro a ha; replace ha : Has a 8 [(0, .agg #[.int .i64 x.num, .string (str x.key), .int .i64 x.waiter, .int .i64 x.holder]), (1, .pointer (some ⟨g, 0, none⟩))] := ha
  refine wp_seq ?_
  refine wp_region_lit ?_
  refine st_ex ha (by kernel_rfl) (ex_box [.int .i64 x.num, .string (str x.key), .int .i64 x.waiter, .int .i64 x.holder] s rfl (by kernel_rfl)) ?_
  clear ha; rintro _ w a ⟨g1, rfl, s⟩ ha
  replace s : St W (.blk g1 [.int .i64 x.num, .string (str x.key), .int .i64 x.waiter, .int .i64 x.holder] 28 :: .blk g [.int .i64 n] 3 :: L) w := s
  refine st_val (.bool false) ha (by kernel_rfl) (by kernel_rfl) ?_
  clear ha; intro a ha
  refine wpList_nil ?_
  refine then_normal ?_
  refine wp_seq ?_
  refine wp_region_lit ?_
  refine st_val (.pointer (some ⟨g1, 3, none⟩)) ha (by kernel_rfl) (by kernel_rfl) ?_
  clear ha; intro a ha
  refine st_val (.int .i64 x.holder) ha (by kernel_rfl) (run_load1 (of_ := 3) (s.blkIs 0 rfl) rfl (by kernel_rfl) Try.isAgg3 rfl) ?_
  clear ha; intro a ha
  refine st_val (.int .i64 n) ha (by kernel_rfl) (run_load1 (of_ := 0) (s.blkIs 1 rfl) rfl (by kernel_rfl) Try.isAgg3 rfl) ?_
  clear ha; intro a ha
  refine st_val (.bool (x.holder == n)) ha (by kernel_rfl) (by kernel_rfl) ?_
  clear ha; intro a ha
  refine st_val (.bool (x.holder == n)) ha (by kernel_rfl) (by kernel_rfl) ?_
  clear ha; intro a ha
  refine wpList_nil ?_
  refine then_normal ?_
  refine wp_ret ?_
  refine ret_with (v := .bool (x.holder == n)) ha (results_1 rfl ha (res_tmp (by kernel_rfl) (by kernel_rfl))) ?_
  replace s := s.at_ (j := 1) rfl
  replace s : St W (.blk g [.int .i64 n] 3 :: .blk g1 [.int .i64 x.num, .string (str x.key), .int .i64 x.waiter, .int .i64 x.holder] 28 :: L) w := s
  replace s : St W (.blk g [.int .i64 n] 3 :: L) w := St.mid (A := [.blk g [.int .i64 n] 3]) (B := [.blk g1 [.int .i64 x.num, .string (str x.key), .int .i64 x.waiter, .int .i64 x.holder] 28]) s
  exact ⟨rfl, s⟩

theorem byKey_any (W : World) (L : List Chunk) (w : World) (x : Wt) (g h : Nat) (n : Int) (k : List UInt8) (s : St W (.blk g [.int .i64 n] 3 :: .blk h [.string (str k)] 9 :: L) w) :
    Calls Try.prog 31 #[.agg #[.int .i64 x.num, .string (str x.key), .int .i64 x.waiter, .int .i64 x.holder], .pointer (some ⟨g, 0, none⟩), .pointer (some ⟨h, 0, none⟩)] w fun e w' => e = .returned (.bool (byKey k n x)) ∧ St W (.blk g [.int .i64 n] 3 :: .blk h [.string (str k)] 9 :: L) w' := by
  refine enter_args (l := [.agg #[.int .i64 x.num, .string (str x.key), .int .i64 x.waiter, .int .i64 x.holder], .pointer (some ⟨g, 0, none⟩), .pointer (some ⟨h, 0, none⟩)]) Try.func31 rfl rfl (Nat.le_of_ble_eq_true rfl) ?_
  intro a ha; replace ha : Has a 15 [(0, .agg #[.int .i64 x.num, .string (str x.key), .int .i64 x.waiter, .int .i64 x.holder]), (1, .pointer (some ⟨g, 0, none⟩)), (2, .pointer (some ⟨h, 0, none⟩))] := ha
  refine wp_seq ?_
  refine wp_region_lit ?_
  refine st_ex ha (by kernel_rfl) (ex_box [.int .i64 x.num, .string (str x.key), .int .i64 x.waiter, .int .i64 x.holder] s rfl (by kernel_rfl)) ?_
  clear ha; rintro _ w a ⟨g1, rfl, s⟩ ha
  replace s : St W (.blk g1 [.int .i64 x.num, .string (str x.key), .int .i64 x.waiter, .int .i64 x.holder] 28 :: .blk g [.int .i64 n] 3 :: .blk h [.string (str k)] 9 :: L) w := s
  refine st_val (.bool false) ha (by kernel_rfl) (by kernel_rfl) ?_
  clear ha; intro a ha
  refine wpList_nil ?_
  refine then_normal ?_
  refine wp_seq ?_
  refine wp_region_lit ?_
  refine st_val (.pointer (some ⟨g1, 3, none⟩)) ha (by kernel_rfl) (by kernel_rfl) ?_
  clear ha; intro a ha
  refine st_val (.int .i64 x.holder) ha (by kernel_rfl) (run_load1 (of_ := 3) (s.blkIs 0 rfl) rfl (by kernel_rfl) Try.isAgg3 rfl) ?_
  clear ha; intro a ha
  refine st_val (.int .i64 n) ha (by kernel_rfl) (run_load1 (of_ := 0) (s.blkIs 1 rfl) rfl (by kernel_rfl) Try.isAgg3 rfl) ?_
  clear ha; intro a ha
  refine st_val (.bool (x.holder == n)) ha (by kernel_rfl) (by kernel_rfl) ?_
  clear ha; intro a ha
  refine st_val (.bool (x.holder == n)) ha (by kernel_rfl) (by kernel_rfl) ?_
  clear ha; intro a ha
  rcases Bool.eq_false_or_eq_true (x.holder == n) with hb | hb
  · rw [hb] at ha; have hb_ := hb; replace hb := eq_of_beq hb
    refine st_val (.pointer (some ⟨g1, 1, none⟩)) ha (by kernel_rfl) (by kernel_rfl) ?_
    clear ha; intro a ha
    refine st_val (.string (str x.key)) ha (by kernel_rfl) (run_load1 (of_ := 1) (s.blkIs 0 rfl) rfl (by kernel_rfl) Try.isAgg9 rfl) ?_
    clear ha; intro a ha
    refine st_val (.string (str k)) ha (by kernel_rfl) (run_load1 (of_ := 0) (s.blkIs 2 rfl) rfl (by kernel_rfl) Try.isAgg9 rfl) ?_
    clear ha; intro a ha
    refine st_val (.bool (decide (x.key = k))) ha (by kernel_rfl) (run_seql (p := x.key) (q := k) rfl (by kernel_rfl) (by kernel_rfl) _) ?_
    clear ha; intro a ha
    refine st_val (.bool (decide (x.key = k))) ha (by kernel_rfl) (by kernel_rfl) ?_
    clear ha; intro a ha
    refine st_val (.bool (decide (x.key = k))) ha (by kernel_rfl) (by kernel_rfl) ?_
    clear ha; intro a ha
    refine wpList_nil ?_
    refine then_normal ?_
    refine wp_ret ?_
    refine ret_with (v := .bool (decide (x.key = k))) ha (results_1 rfl ha (res_tmp (by kernel_rfl) (by kernel_rfl))) ?_
    replace s := s.at_ (j := 2) rfl
    replace s : St W (.blk h [.string (str k)] 9 :: .blk g1 [.int .i64 x.num, .string (str x.key), .int .i64 x.waiter, .int .i64 x.holder] 28 :: .blk g [.int .i64 n] 3 :: L) w := s
    replace s := s.at_ (j := 2) rfl
    replace s : St W (.blk g [.int .i64 n] 3 :: .blk h [.string (str k)] 9 :: .blk g1 [.int .i64 x.num, .string (str x.key), .int .i64 x.waiter, .int .i64 x.holder] 28 :: L) w := s
    replace s : St W (.blk g [.int .i64 n] 3 :: .blk h [.string (str k)] 9 :: L) w := St.mid (A := [.blk g [.int .i64 n] 3, .blk h [.string (str k)] 9]) (B := [.blk g1 [.int .i64 x.num, .string (str x.key), .int .i64 x.waiter, .int .i64 x.holder] 28]) s
    refine ⟨?_, s⟩
    congr 2
    rw [Bool.eq_iff_iff]
    simp_all [byKey]
  · rw [hb] at ha; have hb_ := hb; replace hb := ne_of_beq_false hb
    refine st_pass ha (by kernel_rfl) ?_
    clear ha; intro a ha
    refine st_pass ha (by kernel_rfl) ?_
    clear ha; intro a ha
    refine st_pass ha (by kernel_rfl) ?_
    clear ha; intro a ha
    refine st_pass ha (by kernel_rfl) ?_
    clear ha; intro a ha
    refine st_val (.bool false) ha (by kernel_rfl) (by kernel_rfl) ?_
    clear ha; intro a ha
    refine st_val (.bool false) ha (by kernel_rfl) (by kernel_rfl) ?_
    clear ha; intro a ha
    refine wpList_nil ?_
    refine then_normal ?_
    refine wp_ret ?_
    refine ret_with (v := .bool false) ha (results_1 rfl ha (res_tmp (by kernel_rfl) (by kernel_rfl))) ?_
    replace s := s.at_ (j := 2) rfl
    replace s : St W (.blk h [.string (str k)] 9 :: .blk g1 [.int .i64 x.num, .string (str x.key), .int .i64 x.waiter, .int .i64 x.holder] 28 :: .blk g [.int .i64 n] 3 :: L) w := s
    replace s := s.at_ (j := 2) rfl
    replace s : St W (.blk g [.int .i64 n] 3 :: .blk h [.string (str k)] 9 :: .blk g1 [.int .i64 x.num, .string (str x.key), .int .i64 x.waiter, .int .i64 x.holder] 28 :: L) w := s
    replace s : St W (.blk g [.int .i64 n] 3 :: .blk h [.string (str k)] 9 :: L) w := St.mid (A := [.blk g [.int .i64 n] 3, .blk h [.string (str k)] 9]) (B := [.blk g1 [.int .i64 x.num, .string (str x.key), .int .i64 x.waiter, .int .i64 x.holder] 28]) s
    refine ⟨?_, s⟩
    congr 2
    rw [Bool.eq_iff_iff]
    simp_all [byKey]

theorem same_any (W : World) (L : List Chunk) (w : World) (x y : Wt) (g : Nat) (s : St W (.blk g [.int .i64 y.num, .string (str y.key), .int .i64 y.waiter, .int .i64 y.holder] 28 :: L) w) :
    Calls Try.prog 36 #[.agg #[.int .i64 x.num, .string (str x.key), .int .i64 x.waiter, .int .i64 x.holder], .pointer (some ⟨g, 0, none⟩)] w fun e w' => e = .returned (.bool (decide (x.num = y.num))) ∧ St W (.blk g [.int .i64 y.num, .string (str y.key), .int .i64 y.waiter, .int .i64 y.holder] 28 :: L) w' := by
  refine enter_args (l := [.agg #[.int .i64 x.num, .string (str x.key), .int .i64 x.waiter, .int .i64 x.holder], .pointer (some ⟨g, 0, none⟩)]) Try.func36 rfl rfl (Nat.le_of_ble_eq_true rfl) ?_
  intro a ha; replace ha : Has a 9 [(0, .agg #[.int .i64 x.num, .string (str x.key), .int .i64 x.waiter, .int .i64 x.holder]), (1, .pointer (some ⟨g, 0, none⟩))] := ha
  refine wp_seq ?_
  refine wp_region_lit ?_
  refine st_ex ha (by kernel_rfl) (ex_box [.int .i64 x.num, .string (str x.key), .int .i64 x.waiter, .int .i64 x.holder] s rfl (by kernel_rfl)) ?_
  clear ha; rintro _ w a ⟨g1, rfl, s⟩ ha
  replace s : St W (.blk g1 [.int .i64 x.num, .string (str x.key), .int .i64 x.waiter, .int .i64 x.holder] 28 :: .blk g [.int .i64 y.num, .string (str y.key), .int .i64 y.waiter, .int .i64 y.holder] 28 :: L) w := s
  refine st_val (.bool false) ha (by kernel_rfl) (by kernel_rfl) ?_
  clear ha; intro a ha
  refine wpList_nil ?_
  refine then_normal ?_
  refine wp_seq ?_
  refine wp_region_lit ?_
  refine st_val (.pointer (some ⟨g1, 0, none⟩)) ha (by kernel_rfl) (by kernel_rfl) ?_
  clear ha; intro a ha
  refine st_val (.int .i64 x.num) ha (by kernel_rfl) (run_load1 (of_ := 0) (s.blkIs 0 rfl) rfl (by kernel_rfl) Try.isAgg3 rfl) ?_
  clear ha; intro a ha
  refine st_val (.pointer (some ⟨g, 0, none⟩)) ha (by kernel_rfl) (by kernel_rfl) ?_
  clear ha; intro a ha
  refine st_val (.int .i64 y.num) ha (by kernel_rfl) (run_load1 (of_ := 0) (s.blkIs 1 rfl) rfl (by kernel_rfl) Try.isAgg3 rfl) ?_
  clear ha; intro a ha
  refine st_val (.bool (x.num == y.num)) ha (by kernel_rfl) (by kernel_rfl) ?_
  clear ha; intro a ha
  refine st_val (.bool (x.num == y.num)) ha (by kernel_rfl) (by kernel_rfl) ?_
  clear ha; intro a ha
  refine wpList_nil ?_
  refine then_normal ?_
  refine wp_ret ?_
  refine ret_with (v := .bool (x.num == y.num)) ha (results_1 rfl ha (res_tmp (by kernel_rfl) (by kernel_rfl))) ?_
  replace s := s.at_ (j := 1) rfl
  replace s : St W (.blk g [.int .i64 y.num, .string (str y.key), .int .i64 y.waiter, .int .i64 y.holder] 28 :: .blk g1 [.int .i64 x.num, .string (str x.key), .int .i64 x.waiter, .int .i64 x.holder] 28 :: L) w := s
  replace s : St W (.blk g [.int .i64 y.num, .string (str y.key), .int .i64 y.waiter, .int .i64 y.holder] 28 :: L) w := St.mid (A := [.blk g [.int .i64 y.num, .string (str y.key), .int .i64 y.waiter, .int .i64 y.holder] 28]) (B := [.blk g1 [.int .i64 x.num, .string (str x.key), .int .i64 x.waiter, .int .i64 x.holder] 28]) s
  exact ⟨rfl, s⟩

theorem enters29 : ∀ args w, (callFunc 29 args).run Try.prog w = .ok (.enter 29 args) w := enters_of Try.func29 (by kernel_rfl) rfl
theorem enters31 : ∀ args w, (callFunc 31 args).run Try.prog w = .ok (.enter 31 args) w := enters_of Try.func31 (by kernel_rfl) rfl
theorem enters32 : ∀ args w, (callFunc 32 args).run Try.prog w = .ok (.enter 32 args) w := enters_of Try.func32 (by kernel_rfl) rfl
theorem enters36 : ∀ args w, (callFunc 36 args).run Try.prog w = .ok (.enter 36 args) w := enters_of Try.func36 (by kernel_rfl) rfl
theorem enters44 : ∀ args w, (callFunc 44 args).run Try.prog w = .ok (.enter 44 args) w := enters_of Try.func44 (by kernel_rfl) rfl
theorem asks29 (g : Nat) (n : Int) : Asks 29 #[.pointer (some ⟨g, 0, none⟩)] (byNum n) fun _ => star [.blk g [.int .i64 n] 3] := fun V M w xs x _ s =>
  (byNum_any V M w x g n (St.star.1 s)).mono fun e w' ⟨h, s⟩ => ⟨h, St.star.2 s⟩
theorem asks32 (g : Nat) (n : Int) : Asks 32 #[.pointer (some ⟨g, 0, none⟩)] (byHolder n) fun _ => star [.blk g [.int .i64 n] 3] := fun V M w xs x _ s =>
  (byHolder_any V M w x g n (St.star.1 s)).mono fun e w' ⟨h, s⟩ => ⟨h, St.star.2 s⟩
theorem asks31 (g h : Nat) (n : Int) (k : List UInt8) : Asks 31 #[.pointer (some ⟨g, 0, none⟩), .pointer (some ⟨h, 0, none⟩)] (byKey k n) fun _ => star [.blk g [.int .i64 n] 3, .blk h [.string (str k)] 9] := fun V M w xs x _ s =>
  (byKey_any V M w x g h n k (St.star.1 s)).mono fun e w' ⟨h, s⟩ => ⟨h, St.star.2 s⟩
theorem asks36 (g : Nat) (y : Wt) : Asks 36 #[.pointer (some ⟨g, 0, none⟩)] (fun x => decide (x.num = y.num)) fun _ => star [.blk g (wc y) 28] := fun V M w xs x _ s =>
  (same_any V M w x y g (St.star.1 s)).mono fun e w' ⟨h, s⟩ => ⟨h, St.star.2 s⟩

end Go.Proofs.Ytlkoppmenpeepaa.B
