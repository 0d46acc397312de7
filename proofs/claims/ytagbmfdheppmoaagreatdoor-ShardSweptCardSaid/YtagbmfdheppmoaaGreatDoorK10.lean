import Derived.Test.YtagbmfdheppmoaaGreatDoorK9
import Derived.Test.YtagbmfdheppmoaaGreatDoorM1
import Derived.KernelRfl
namespace Go.Proofs.YtagbmfdheppmoaaGreatDoor.B
open Go.RowKit Go.Proofs.YtagbmfdheppmoaaGreatDoor.Sep
set_option linter.unusedVariables false
set_option linter.unusedSimpArgs false

theorem elt44 : Elt Tryz.prog 44 81 3 40 := ⟨by kernel_rfl, by kernel_rfl⟩
theorem zs44 : (Tryz.prog.info? 81).bind (fun i => i.zero.map (·.cells)) = some #[.string (str []), .string (str []), .bool false] := by kernel_rfl
open Vm (vkey vkey0 vtx stx stv txnv)
/-- Versions of two keys, at walls. -/
abbrev V3 := UInt8 × Int × Bool
def VOk (x : V3) : Prop := (x.1 = 97 ∨ x.1 = 98) ∧ 1 ≤ x.2.1 ∧ x.2.1 ≤ 131
def vrow (x : V3) : Rw := (vkey x.1 x.2.1, vtx x.2.2)
theorem rv_spec {x : V3} (h : VOk x) : Vm.Pure 132 [.string (str (vkey x.1 x.2.1))] (.tuple #[.string (str [x.1]), .agg #[.int .i64 x.2.1, .int .i64 0], .int .i64 0]) := by
  obtain ⟨c, i, b⟩ := x
  obtain ⟨h1, h2⟩ := h
  rcases h1 with h1 | h1 <;> (replace h1 : c = _ := h1; subst h1)
  · exact Vm.p_rv_a i h2
  · exact Vm.p_rv_b i h2
theorem VOk.ge {x : V3} (h : VOk x) : ¬ ([x.1] : K) < [97] := by
  obtain ⟨c, i, b⟩ := x
  obtain ⟨h1, _⟩ := h
  rcases h1 with h1 | h1 <;> (replace h1 : c = _ := h1; subst h1; dsimp only; decide)
theorem VOk.lt {x : V3} (h : VOk x) : ¬ ([109] : K) ≤ [x.1] := by
  obtain ⟨c, i, b⟩ := x
  obtain ⟨h1, _⟩ := h
  rcases h1 with h1 | h1 <;> (replace h1 : c = _ := h1; subst h1; dsimp only; decide)
theorem lit_at {vs : List V3} {i : Nat} {y : List Value} (h : ((vs.map vrow).map row2)[i]? = some y) : ∃ x, vs[i]? = some x ∧ y = row2 (vrow x) := by
  rw [List.getElem?_map, List.getElem?_map] at h
  cases hq : vs[i]? with
  | none => rw [hq] at h; cases h
  | some x => rw [hq] at h; exact ⟨x, rfl, (Option.some.inj h).symm⟩
/-- What the sweep has seen last; what it takes away. -/
def lastK (s : Option UInt8) : K := match s with | some c => [c] | none => []
def fstB (s : Option UInt8) (c : UInt8) : Bool := !decide (s = some c)
theorem fstB_eq (s : Option UInt8) (c : UInt8) : (!s.isSome || decide (¬ [c] = lastK s)) = fstB s c := by
  cases s with
  | none => simp [fstB]
  | some d =>
    unfold fstB lastK
    by_cases h : d = c
    · subst h; simp
    · have : ¬ c = d := fun e => h e.symm
      simp [h, this]
def gone (x : V3) : O3 := (vkey x.1 x.2.1, [], true)
def swf (w : Int) (st : Option UInt8 × List O3) (x : V3) : Option UInt8 × List O3 := bif decide (w < x.2.1) then st else (some x.1, bif fstB st.1 x.1 && x.2.2 then st.2 else st.2 ++ [gone x])
def sst (w : Int) (vs : List V3) (i : Nat) : Option UInt8 × List O3 := (vs.take i).foldl (swf w) (none, [])
theorem sst_snoc {w : Int} {vs : List V3} {i : Nat} {x : V3} (h : vs[i]? = some x) : sst w vs (i + 1) = swf w (sst w vs i) x := by
  unfold sst
  rw [List.take_add_one, h]; simp [List.foldl_append]
theorem sst_len (w : Int) (vs : List V3) : ∀ i, (sst w vs i).2.length ≤ i
  | 0 => by simp [sst]
  | i + 1 => by
    cases hx : vs[i]? with
    | none =>
      have e : sst w vs (i + 1) = sst w vs i := by unfold sst; rw [List.take_add_one, hx]; simp
      rw [e]; exact Nat.le_succ_of_le (sst_len w vs i)
    | some x =>
      rw [sst_snoc hx]
      have := sst_len w vs i
      unfold swf
      cases decide (w < x.2.1) with
      | true => simp only [cond_true]; omega
      | false =>
        simp only [cond_false]
        cases fstB (sst w vs i).1 x.1 && x.2.2 with
        | true => simp only [cond_true]; omega
        | false => simp only [cond_false, List.length_append, List.length_cons, List.length_nil]; omega

theorem first_clo (W : World) (L : List Chunk) (w : World) (ga gl : Nat) (b : Bool) (l key : K) (s : St W (.blk ga [.bool b] 4 :: .blk gl [.string (str l)] 9 :: L) w) :
    Calls Tryz.prog 131 #[.string (str key), .pointer (some ⟨ga, 0, none⟩), .pointer (some ⟨gl, 0, none⟩)] w fun e w' => e = .returned (.bool (!b || decide (¬ key = l))) ∧ St W (.blk ga [.bool true] 4 :: .blk gl [.string (str key)] 9 :: L) w' := by
  refine enter_args (l := [.string (str key), .pointer (some ⟨ga, 0, none⟩), .pointer (some ⟨gl, 0, none⟩)]) Tryz.func131 rfl rfl (Nat.le_of_ble_eq_true rfl) ?_
  intro a ha; replace ha : Has a 15 [(0, .string (str key)), (1, .pointer (some ⟨ga, 0, none⟩)), (2, .pointer (some ⟨gl, 0, none⟩))] := ha
  refine wp_seq ?_
  refine wp_region_lit ?_
  refine st_val (.bool false) ha (by kernel_rfl) (by kernel_rfl) ?_
  clear ha; intro a ha
  refine wpList_nil ?_
  refine then_normal ?_
  refine wp_seq ?_
  refine wp_region_lit ?_
  refine st_val (.bool b) ha (by kernel_rfl) (run_load1 (of_ := 0) (s.blkIs 0 rfl) rfl (by kernel_rfl) Tryz.isAgg4 rfl) ?_
  clear ha; intro a ha
  refine st_val (.bool (!b)) ha (by kernel_rfl) (by kernel_rfl) ?_
  clear ha; intro a ha
  refine st_val (.bool (!b)) ha (by kernel_rfl) (by kernel_rfl) ?_
  clear ha; intro a ha
  rcases Bool.eq_false_or_eq_true (!b) with hb | hb
  · rw [hb] at ha; skip
    refine st_pass ha (by kernel_rfl) ?_
    clear ha; intro a ha
    refine st_pass ha (by kernel_rfl) ?_
    clear ha; intro a ha
    refine st_pass ha (by kernel_rfl) ?_
    clear ha; intro a ha
    refine st_val (.bool true) ha (by kernel_rfl) (by kernel_rfl) ?_
    clear ha; intro a ha
    refine st_val (.bool true) ha (by kernel_rfl) (by kernel_rfl) ?_
    clear ha; intro a ha
    refine wpList_nil ?_
    refine then_normal ?_
    refine wp_seq ?_
    refine wp_region_lit ?_
    refine st_val (.string (str key)) ha (by kernel_rfl) (by kernel_rfl) ?_
    clear ha; intro a ha
    refine st_exd ha (by kernel_rfl) (ex_store (of_ := 0) 1 [.string (str key)] s rfl rfl (by kernel_rfl) (by kernel_rfl) (Tryz.sizeOf9 _) rfl (by simp [Value.oneCell']) (Nat.le_of_ble_eq_true rfl)) ?_
    clear ha; rintro w a s ha
    replace s : St W (.blk ga [.bool b] 4 :: .blk gl [.string (str key)] 9 :: L) w := s
    refine st_exd ha (by kernel_rfl) (ex_store (of_ := 0) 0 [.bool true] s rfl rfl (by kernel_rfl) (by kernel_rfl) (Tryz.sizeOf4 _) rfl (by simp [Value.oneCell']) (Nat.le_of_ble_eq_true rfl)) ?_
    clear ha; rintro w a s ha
    replace s : St W (.blk ga [.bool true] 4 :: .blk gl [.string (str key)] 9 :: L) w := s
    refine wpList_nil ?_
    refine then_normal ?_
    refine wp_seq ?_
    refine wp_region_lit ?_
    refine st_val (.bool true) ha (by kernel_rfl) (by kernel_rfl) ?_
    clear ha; intro a ha
    refine st_val (.bool true) ha (by kernel_rfl) (by kernel_rfl) ?_
    clear ha; intro a ha
    refine wpList_nil ?_
    refine then_normal ?_
    refine wp_ret ?_
    refine ret_with (v := .bool true) ha (results_1 rfl ha (res_tmp (by kernel_rfl) (by kernel_rfl))) ?_
    refine ⟨by (first | rw [show b = false by simpa using hb]; rfl | (have hb1 : b = true := by simpa using hb); rw [hb1]; rfl), s⟩
  · rw [hb] at ha; skip
    refine st_val (.string (str key)) ha (by kernel_rfl) (by kernel_rfl) ?_
    clear ha; intro a ha
    refine st_val (.string (str l)) ha (by kernel_rfl) (run_load1 (of_ := 0) (s.blkIs 1 rfl) rfl (by kernel_rfl) Tryz.isAgg9 rfl) ?_
    clear ha; intro a ha
    refine st_val (.bool (decide (key ≠ l))) ha (by kernel_rfl) (run_sneq (p := key) (q := l) rfl (by kernel_rfl) (by kernel_rfl) _) ?_
    clear ha; intro a ha
    refine st_val (.bool (decide (key ≠ l))) ha (by kernel_rfl) (by kernel_rfl) ?_
    clear ha; intro a ha
    refine st_val (.bool (decide (key ≠ l))) ha (by kernel_rfl) (by kernel_rfl) ?_
    clear ha; intro a ha
    refine wpList_nil ?_
    refine then_normal ?_
    refine wp_seq ?_
    refine wp_region_lit ?_
    refine st_val (.string (str key)) ha (by kernel_rfl) (by kernel_rfl) ?_
    clear ha; intro a ha
    refine st_exd ha (by kernel_rfl) (ex_store (of_ := 0) 1 [.string (str key)] s rfl rfl (by kernel_rfl) (by kernel_rfl) (Tryz.sizeOf9 _) rfl (by simp [Value.oneCell']) (Nat.le_of_ble_eq_true rfl)) ?_
    clear ha; rintro w a s ha
    replace s : St W (.blk ga [.bool b] 4 :: .blk gl [.string (str key)] 9 :: L) w := s
    refine st_exd ha (by kernel_rfl) (ex_store (of_ := 0) 0 [.bool true] s rfl rfl (by kernel_rfl) (by kernel_rfl) (Tryz.sizeOf4 _) rfl (by simp [Value.oneCell']) (Nat.le_of_ble_eq_true rfl)) ?_
    clear ha; rintro w a s ha
    replace s : St W (.blk ga [.bool true] 4 :: .blk gl [.string (str key)] 9 :: L) w := s
    refine wpList_nil ?_
    refine then_normal ?_
    refine wp_seq ?_
    refine wp_region_lit ?_
    refine st_val (.bool (decide (key ≠ l))) ha (by kernel_rfl) (by kernel_rfl) ?_
    clear ha; intro a ha
    refine st_val (.bool (decide (key ≠ l))) ha (by kernel_rfl) (by kernel_rfl) ?_
    clear ha; intro a ha
    refine wpList_nil ?_
    refine then_normal ?_
    refine wp_ret ?_
    refine ret_with (v := .bool (decide (key ≠ l))) ha (results_1 rfl ha (res_tmp (by kernel_rfl) (by kernel_rfl))) ?_
    refine ⟨by (first | rw [show b = false by simpa using hb]; rfl | (have hb1 : b = true := by simpa using hb); rw [hb1]; rfl), s⟩

theorem sweep_spec (W : World) (L : List Chunk) (w : World) (gt : Nat) (rows : List Rw) (wv : Int) (hw1 : 1 ≤ wv ∧ wv ≤ 131) (vs : List V3) (hseg : seg rows [118] [119] = vs.map vrow) (hv : ∀ x ∈ vs, VOk x) (hlen : vs.length < 1000000) (s : St W (Tb gt rows :: L) w) :
    Calls Tryz.prog 79 #[.pointer (some ⟨gt, 0, none⟩), .agg #[.string (str [97]), .string (str [109])], .agg #[.int .i64 wv, .int .i64 0]] w fun e w' => ∃ (A : Option Addr) (n c : Nat), e = .returned (.tuple #[.slice A n c, .int .i64 0]) ∧ n = (sst wv vs vs.length).2.length ∧ St W (Tb gt rows :: Sep.Own 81 3 A n c (ops3 (sst wv vs vs.length).2) :: L) w' := by
  refine J.calls_out (m := 2) ?_
  refine J.enter_args (l := [.pointer (some ⟨gt, 0, none⟩), .agg #[.string (str [97]), .string (str [109])], .agg #[.int .i64 wv, .int .i64 0]]) Tryz.func79 rfl rfl (Nat.le_of_ble_eq_true rfl) ?_
  intro a ha; replace ha : J.Has [] a 99 [(0, .pointer (some ⟨gt, 0, none⟩)), (1, .agg #[.string (str [97]), .string (str [109])]), (2, .agg #[.int .i64 wv, .int .i64 0])] := ha
  refine J.wp_seq ?_
  refine J.wp_region_lit ?_
  refine J.st_ex ha (by kernel_rfl) (ex_box [.string (str [97]), .string (str [109])] s rfl (by kernel_rfl)) ?_
  clear ha; rintro _ w a ⟨vs_, rfl, s⟩ ha
  refine J.st_ex ha (by kernel_rfl) (ex_box [.int .i64 wv, .int .i64 0] s rfl (by kernel_rfl)) ?_
  clear ha; rintro _ w a ⟨vt, rfl, s⟩ ha
  refine J.st_val (.slice none 0 0) ha (by kernel_rfl) (by kernel_rfl) ?_
  clear ha; intro a ha
  refine J.st_val (.int .i64 0) ha (by kernel_rfl) (by kernel_rfl) ?_
  clear ha; intro a ha
  refine J.wpList_nil ?_
  refine then_normal ?_
  refine J.wp_seq ?_
  refine J.wp_block ?_
  refine J.wp_seq ?_
  refine J.wp_region_lit ?_
  refine J.st_val (.pointer (some ⟨gt, 0, none⟩)) ha (by kernel_rfl) (by kernel_rfl) ?_
  clear ha; intro a ha
  refine J.st_val (.bool false) ha (by kernel_rfl) (by kernel_rfl) ?_
  clear ha; intro a ha
  refine J.st_val (.bool false) ha (by kernel_rfl) (by kernel_rfl) ?_
  clear ha; intro a ha
  refine J.wpList_nil ?_
  refine then_normal ?_
  refine J.wp_false ha rfl (by kernel_rfl) ?_
  refine J.wp_seq ?_
  refine J.wp_region_lit ?_
  refine J.st_val (.pointer (some ⟨vs_, 0, none⟩)) ha (by kernel_rfl) (by kernel_rfl) ?_
  clear ha; intro a ha
  refine J.st_val (.string (str [97])) ha (by kernel_rfl) (run_load1 (of_ := 0) (s.blkIs 1 rfl) rfl (by kernel_rfl) Tryz.isAgg9 rfl) ?_
  clear ha; intro a ha
  refine J.st_val (.int .i64 1) ha (by kernel_rfl) (run_slen (p := [97]) rfl Tryz.underlying9 (by kernel_rfl) _) ?_
  clear ha; intro a ha
  refine J.st_val (.bool false) ha (by kernel_rfl) (by kernel_rfl) ?_
  clear ha; intro a ha
  refine J.st_val (.bool false) ha (by kernel_rfl) (by kernel_rfl) ?_
  clear ha; intro a ha
  refine J.st_val (.pointer (some ⟨vs_, 1, none⟩)) ha (by kernel_rfl) (by kernel_rfl) ?_
  clear ha; intro a ha
  refine J.st_val (.string (str [109])) ha (by kernel_rfl) (run_load1 (of_ := 1) (s.blkIs 1 rfl) rfl (by kernel_rfl) Tryz.isAgg9 rfl) ?_
  clear ha; intro a ha
  refine J.st_val (.int .i64 1) ha (by kernel_rfl) (run_slen (p := [109]) rfl Tryz.underlying9 (by kernel_rfl) _) ?_
  clear ha; intro a ha
  refine J.st_val (.bool false) ha (by kernel_rfl) (by kernel_rfl) ?_
  clear ha; intro a ha
  refine J.st_val (.bool false) ha (by kernel_rfl) (by kernel_rfl) ?_
  clear ha; intro a ha
  refine J.st_val (.bool false) ha (by kernel_rfl) (by kernel_rfl) ?_
  clear ha; intro a ha
  refine J.wpList_nil ?_
  refine then_normal ?_
  refine J.wp_false ha rfl (by kernel_rfl) ?_
  refine J.wp_seq ?_
  refine J.wp_region_lit ?_
  refine J.st_val (.pointer (some ⟨vs_, 0, none⟩)) ha (by kernel_rfl) (by kernel_rfl) ?_
  clear ha; intro a ha
  refine J.st_val (.string (str [97])) ha (by kernel_rfl) (run_load1 (of_ := 0) (s.blkIs 1 rfl) rfl (by kernel_rfl) Tryz.isAgg9 rfl) ?_
  clear ha; intro a ha
  refine J.st_val (.pointer (some ⟨vs_, 1, none⟩)) ha (by kernel_rfl) (by kernel_rfl) ?_
  clear ha; intro a ha
  refine J.st_val (.string (str [109])) ha (by kernel_rfl) (run_load1 (of_ := 1) (s.blkIs 1 rfl) rfl (by kernel_rfl) Tryz.isAgg9 rfl) ?_
  clear ha; intro a ha
  refine J.st_val (.bool false) ha (by kernel_rfl) (run_known (show decide ([109] ≤ ([97] : List UInt8)) = false from by decide) (run_sgeq (p := [97]) (q := [109]) rfl (by kernel_rfl) (by kernel_rfl) _)) ?_
  clear ha; intro a ha
  refine J.st_val (.bool false) ha (by kernel_rfl) (by kernel_rfl) ?_
  clear ha; intro a ha
  refine J.st_val (.agg #[.int .i64 wv, .int .i64 0]) ha (by kernel_rfl) (run_loadN (of_ := 0) [.int .i64 wv, .int .i64 0] (s.blkIs 0 rfl) rfl (by kernel_rfl) Tryz.isAgg33 Tryz.sizeOf33 rfl (Nat.le_of_ble_eq_true rfl)) ?_
  clear ha; intro a ha
  refine J.st_call ha (by kernel_rfl) (by kernel_rfl) ((Vm.p_ck wv (by omega)) _ _ _ s) ?_
  rintro _ w ⟨rfl, s⟩
  refine ⟨_, rfl, ?_⟩; clear ha; intro a ha
  refine J.st_val (.bool false) ha (by kernel_rfl) (by kernel_rfl) ?_
  clear ha; intro a ha
  refine J.st_val (.bool false) ha (by kernel_rfl) (by kernel_rfl) ?_
  clear ha; intro a ha
  refine J.st_val (.bool false) ha (by kernel_rfl) (by kernel_rfl) ?_
  clear ha; intro a ha
  refine J.wpList_nil ?_
  refine then_normal ?_
  refine J.wp_false ha rfl (by kernel_rfl) ?_
  refine J.wp_skip ?_
  refine block_normal ?_
  refine then_normal ?_
  refine J.wp_seq ?_
  refine J.wp_region_lit ?_
  refine J.st_ex ha (by kernel_rfl) (ex_alloc [.string (str [])] s rfl (Tryz.zeroValue9 _) (by kernel_rfl)) ?_
  clear ha; rintro _ w a ⟨vl, rfl, s⟩ ha
  refine J.st_exd ha (by kernel_rfl) (ex_store (of_ := 0) 0 [.string (str [])] s rfl rfl (by kernel_rfl) (by kernel_rfl) (Tryz.sizeOf9 _) rfl (by simp [Value.oneCell']) (Nat.le_of_ble_eq_true rfl)) ?_
  clear ha; rintro w a s ha
  replace s : St W (.blk vl [.string (str [])] 9 :: .blk vt [.int .i64 wv, .int .i64 0] 33 :: .blk vs_ [.string (str [97]), .string (str [109])] 37 :: Tb gt rows :: L) w := s
  refine J.wpList_nil ?_
  refine then_normal ?_
  refine J.wp_seq ?_
  refine J.wp_region_lit ?_
  refine J.st_ex ha (by kernel_rfl) (ex_alloc [.bool false] s rfl (Tryz.zeroValue4 _) (by kernel_rfl)) ?_
  clear ha; rintro _ w a ⟨va, rfl, s⟩ ha
  refine J.st_exd ha (by kernel_rfl) (ex_store (of_ := 0) 0 [.bool false] s rfl rfl (by kernel_rfl) (by kernel_rfl) (Tryz.sizeOf4 _) rfl (by simp [Value.oneCell']) (Nat.le_of_ble_eq_true rfl)) ?_
  clear ha; rintro w a s ha
  replace s : St W (.blk va [.bool false] 4 :: .blk vl [.string (str [])] 9 :: .blk vt [.int .i64 wv, .int .i64 0] 33 :: .blk vs_ [.string (str [97]), .string (str [109])] 37 :: Tb gt rows :: L) w := s
  refine J.wpList_nil ?_
  refine then_normal ?_
  refine J.wp_seq ?_
  refine J.wp_region_lit ?_
  refine J.st_val (.func (.func 131) #[] #[.pointer (some ⟨va, 0, none⟩), .pointer (some ⟨vl, 0, none⟩)]) ha (by kernel_rfl) (by kernel_rfl) ?_
  clear ha; intro a ha
  refine J.st_ex ha (by kernel_rfl) (ex_alloc [.nilFunc] s rfl (Tryz.zeroValue146 _) (by kernel_rfl)) ?_
  clear ha; rintro _ w a ⟨vf, rfl, s⟩ ha
  refine J.st_exd ha (by kernel_rfl) (ex_store (of_ := 0) 0 [.func (.func 131) #[] #[.pointer (some ⟨va, 0, none⟩), .pointer (some ⟨vl, 0, none⟩)]] s rfl rfl (by kernel_rfl) (by kernel_rfl) (Tryz.sizeOf146 _) rfl (by simp [Value.oneCell']) (Nat.le_of_ble_eq_true rfl)) ?_
  clear ha; rintro w a s ha
  replace s : St W (.blk vf [.func (.func 131) #[] #[.pointer (some ⟨va, 0, none⟩), .pointer (some ⟨vl, 0, none⟩)]] 146 :: .blk va [.bool false] 4 :: .blk vl [.string (str [])] 9 :: .blk vt [.int .i64 wv, .int .i64 0] 33 :: .blk vs_ [.string (str [97]), .string (str [109])] 37 :: Tb gt rows :: L) w := s
  refine J.wpList_nil ?_
  refine then_normal ?_
  refine J.wp_seq ?_
  refine J.wp_region_lit ?_
  refine J.st_ex ha (by kernel_rfl) (ex_alloc [.slice none 0 0] s rfl (Tryz.zeroValue44 _) (by kernel_rfl)) ?_
  clear ha; rintro _ w a ⟨vo, rfl, s⟩ ha
  refine J.wpList_nil ?_
  refine then_normal ?_
  refine J.wp_seq ?_
  refine J.wp_seq ?_
  refine J.wp_region_lit ?_
  refine J.st_val (.pointer (some ⟨gt, 0, none⟩)) ha (by kernel_rfl) (by kernel_rfl) ?_
  clear ha; intro a ha
  refine J.st_call ha (by kernel_rfl) (by kernel_rfl) (All_spec W _ _ gt [118] [119] s) ?_
  rintro _ w ⟨b1, b2, b3, rfl, s⟩
  refine ⟨_, rfl, ?_⟩; clear ha; intro a ha
  refine J.wpList_nil ?_
  refine then_normal ?_
  refine J.wp_block ?_
  replace s := Sep.Own.none_ (e := 81) (k := 3) none s
  replace s := ((((((((((s.at_ (j := 8) rfl).at_ (j := 9) rfl).at_ (j := 2) rfl).at_ (j := 6) rfl).at_ (j := 7) rfl).at_ (j := 9) rfl).at_ (j := 9) rfl).at_ (j := 9) rfl).at_ (j := 9) rfl).at_ (j := 9) rfl).at_ (j := 10) rfl
  replace s : St W (Tb gt rows :: .blk b1 [.pointer (some ⟨gt, 0, none⟩)] 24 :: .blk b2 [.string (str [118])] 9 :: .blk b3 [.string (str [119])] 9 :: .blk va [.bool false] 4 :: .blk vl [.string (str [])] 9 :: .blk vf [.func (.func 131) #[] #[.pointer (some ⟨va, 0, none⟩), .pointer (some ⟨vl, 0, none⟩)]] 146 :: .blk vo [.slice none 0 0] 44 :: Sep.Own 81 3 none 0 0 [] :: .blk vs_ [.string (str [97]), .string (str [109])] 37 :: .blk vt [.int .i64 wv, .int .i64 0] 33 :: L) w := s
  replace ha : J.Has [] a 99 [(4, .pointer (some ⟨vs_, 0, none⟩)), (5, .pointer (some ⟨vt, 0, none⟩)), (8, .pointer (some ⟨vl, 0, none⟩)), (9, .pointer (some ⟨va, 0, none⟩)), (10, .pointer (some ⟨vf, 0, none⟩)), (11, .pointer (some ⟨vo, 0, none⟩)), (47, .func (.func 97) #[] #[.pointer (some ⟨b1, 0, none⟩), .pointer (some ⟨b2, 0, none⟩), .pointer (some ⟨b3, 0, none⟩)])] := (J.Has.cons ha (by kernel_rfl) (by kernel_rfl) (J.Has.cons ha (by kernel_rfl) (by kernel_rfl) (J.Has.cons ha (by kernel_rfl) (by kernel_rfl) (J.Has.cons ha (by kernel_rfl) (by kernel_rfl) (J.Has.cons ha (by kernel_rfl) (by kernel_rfl) (J.Has.cons ha (by kernel_rfl) (by kernel_rfl) (J.Has.cons ha (by kernel_rfl) (by kernel_rfl) (J.Has.nil ha))))))))
  refine J.wp_range (G := Option Addr × Nat) (GX := Unit) (C := [Tb gt rows, .blk b1 [.pointer (some ⟨gt, 0, none⟩)] 24, .blk b2 [.string (str [118])] 9, .blk b3 [.string (str [119])] 9]) (ys := ((seg rows [118] [119]).map row2)) (ps := [48, 49]) (all_iter gt rows b1 b2 b3 [118] [119]) (fun i ⟨A, c⟩ => True) (fun i ⟨A, c⟩ => [.blk va [.bool ((sst wv vs i).1.isSome)] 4, .blk vl [.string (str (lastK (sst wv vs i).1))] 9, .blk vf [.func (.func 131) #[] #[.pointer (some ⟨va, 0, none⟩), .pointer (some ⟨vl, 0, none⟩)]] 146, .blk vo [.slice A ((sst wv vs i).2.length) c] 44, Sep.Own 81 3 A ((sst wv vs i).2.length) c (ops3 (sst wv vs i).2), .blk vs_ [.string (str [97]), .string (str [109])] 37, .blk vt [.int .i64 wv, .int .i64 0] 33]) (fun c u => False) (fun c u => []) ⟨none, 0⟩ ha rfl (by kernel_rfl) (fun args w => (by kernel_rfl)) (fun y hy => by obtain ⟨x, _, rfl⟩ := List.mem_map.1 hy; rfl) (by kernel_rfl) s trivial ?_ ?_ ?_
  · clear ha s; rintro l T i y ⟨A, c⟩ a w hy hp s ha
    rw [hseg] at hy
    obtain ⟨x, hx, rfl⟩ := lit_at hy
    have hxo := hv x (List.mem_of_getElem? hx)
    clear hy
    replace ha : J.Has [] a 99 [(49, .string (str (vtx x.2.2))), (48, .string (str (vkey x.1 x.2.1))), (4, .pointer (some ⟨vs_, 0, none⟩)), (5, .pointer (some ⟨vt, 0, none⟩)), (8, .pointer (some ⟨vl, 0, none⟩)), (9, .pointer (some ⟨va, 0, none⟩)), (10, .pointer (some ⟨vf, 0, none⟩)), (11, .pointer (some ⟨vo, 0, none⟩)), (47, .func (.func 97) #[] #[.pointer (some ⟨b1, 0, none⟩), .pointer (some ⟨b2, 0, none⟩), .pointer (some ⟨b3, 0, none⟩)])] := ha
    replace s : St W (Tb gt rows :: .blk b1 [.pointer (some ⟨gt, 0, none⟩)] 24 :: .blk b2 [.string (str [118])] 9 :: .blk b3 [.string (str [119])] 9 :: .blk va [.bool ((sst wv vs i).1.isSome)] 4 :: .blk vl [.string (str (lastK (sst wv vs i).1))] 9 :: .blk vf [.func (.func 131) #[] #[.pointer (some ⟨va, 0, none⟩), .pointer (some ⟨vl, 0, none⟩)]] 146 :: .blk vo [.slice A ((sst wv vs i).2.length) c] 44 :: Sep.Own 81 3 A ((sst wv vs i).2.length) c (ops3 (sst wv vs i).2) :: .blk vs_ [.string (str [97]), .string (str [109])] 37 :: .blk vt [.int .i64 wv, .int .i64 0] 33 :: T) w := s
    refine J.wp_seq ?_
    refine J.wp_region_lit ?_
    refine J.st_val (.string (str (vkey x.1 x.2.1))) ha (by kernel_rfl) (by kernel_rfl) ?_
    clear ha; intro a ha
    refine J.wpList_nil ?_
    refine then_normal ?_
    refine J.wp_region_lit ?_
    refine J.st_val (.string (str (vtx x.2.2))) ha (by kernel_rfl) (by kernel_rfl) ?_
    clear ha; intro a ha
    refine J.wpList_nil ?_
    refine then_normal ?_
    refine ⟨[Tb gt rows, .blk b1 [.pointer (some ⟨gt, 0, none⟩)] 24, .blk b2 [.string (str [118])] 9, .blk b3 [.string (str [119])] 9, .blk va [.bool ((sst wv vs i).1.isSome)] 4, .blk vl [.string (str (lastK (sst wv vs i).1))] 9, .blk vf [.func (.func 131) #[] #[.pointer (some ⟨va, 0, none⟩), .pointer (some ⟨vl, 0, none⟩)]] 146, .blk vo [.slice A ((sst wv vs i).2.length) c] 44, Sep.Own 81 3 A ((sst wv vs i).2.length) c (ops3 (sst wv vs i).2), .blk vs_ [.string (str [97]), .string (str [109])] 37, .blk vt [.int .i64 wv, .int .i64 0] 33], s, fun T w s => ?_⟩
    replace s : St W (Tb gt rows :: .blk b1 [.pointer (some ⟨gt, 0, none⟩)] 24 :: .blk b2 [.string (str [118])] 9 :: .blk b3 [.string (str [119])] 9 :: .blk va [.bool ((sst wv vs i).1.isSome)] 4 :: .blk vl [.string (str (lastK (sst wv vs i).1))] 9 :: .blk vf [.func (.func 131) #[] #[.pointer (some ⟨va, 0, none⟩), .pointer (some ⟨vl, 0, none⟩)]] 146 :: .blk vo [.slice A ((sst wv vs i).2.length) c] 44 :: Sep.Own 81 3 A ((sst wv vs i).2.length) c (ops3 (sst wv vs i).2) :: .blk vs_ [.string (str [97]), .string (str [109])] 37 :: .blk vt [.int .i64 wv, .int .i64 0] 33 :: T) w := s
    refine J.wp_block ?_
    refine J.wp_seq ?_
    refine J.wp_region_lit ?_
    refine J.st_val (.string (str (vkey x.1 x.2.1))) ha (by kernel_rfl) (by kernel_rfl) ?_
    clear ha; intro a ha
    refine J.st_call ha (by kernel_rfl) (by kernel_rfl) ((rv_spec hxo) _ _ _ s) ?_
    rintro _ w ⟨rfl, s⟩
    refine ⟨_, rfl, ?_⟩; clear ha; intro a ha
    refine J.st_val (.tuple #[.string (str [x.1]), .agg #[.int .i64 x.2.1, .int .i64 0], .int .i64 0]) ha (by kernel_rfl) (by kernel_rfl) ?_
    clear ha; intro a ha
    refine J.st_val (.string (str [x.1])) ha (by kernel_rfl) (by kernel_rfl) ?_
    clear ha; intro a ha
    refine J.st_val (.agg #[.int .i64 x.2.1, .int .i64 0]) ha (by kernel_rfl) (by kernel_rfl) ?_
    clear ha; intro a ha
    refine J.st_val (.int .i64 0) ha (by kernel_rfl) (by kernel_rfl) ?_
    clear ha; intro a ha
    refine J.st_ex ha (by kernel_rfl) (ex_alloc [.int .i64 0, .int .i64 0] s rfl (Tryz.zeroValue33 _) (by kernel_rfl)) ?_
    clear ha; rintro _ w a ⟨g7, rfl, s⟩ ha
    refine J.st_val (.string (str [x.1])) ha (by kernel_rfl) (by kernel_rfl) ?_
    clear ha; intro a ha
    refine J.st_exd ha (by kernel_rfl) (ex_store (of_ := 0) 0 [.int .i64 x.2.1, .int .i64 0] s rfl rfl (by kernel_rfl) (by kernel_rfl) (Tryz.sizeOf33 _) rfl (by simp [Value.oneCell']) (Nat.le_of_ble_eq_true rfl)) ?_
    clear ha; rintro w a s ha
    replace s : St W (.blk g7 [.int .i64 x.2.1, .int .i64 0] 33 :: Tb gt rows :: .blk b1 [.pointer (some ⟨gt, 0, none⟩)] 24 :: .blk b2 [.string (str [118])] 9 :: .blk b3 [.string (str [119])] 9 :: .blk va [.bool ((sst wv vs i).1.isSome)] 4 :: .blk vl [.string (str (lastK (sst wv vs i).1))] 9 :: .blk vf [.func (.func 131) #[] #[.pointer (some ⟨va, 0, none⟩), .pointer (some ⟨vl, 0, none⟩)]] 146 :: .blk vo [.slice A ((sst wv vs i).2.length) c] 44 :: Sep.Own 81 3 A ((sst wv vs i).2.length) c (ops3 (sst wv vs i).2) :: .blk vs_ [.string (str [97]), .string (str [109])] 37 :: .blk vt [.int .i64 wv, .int .i64 0] 33 :: T) w := s
    refine J.st_val (.int .i64 0) ha (by kernel_rfl) (by kernel_rfl) ?_
    clear ha; intro a ha
    refine J.wpList_nil ?_
    refine then_normal ?_
    refine J.wp_seq ?_
    refine J.wp_region_lit ?_
    refine J.st_val (.string (str (vtx x.2.2))) ha (by kernel_rfl) (by kernel_rfl) ?_
    clear ha; intro a ha
    refine J.st_call ha (by kernel_rfl) (by kernel_rfl) ((Vm.p_tv x.2.2) _ _ _ s) ?_
    rintro _ w ⟨rfl, s⟩
    refine ⟨_, rfl, ?_⟩; clear ha; intro a ha
    refine J.st_val (.tuple #[.string (str []), .bool x.2.2, .int .i64 0]) ha (by kernel_rfl) (by kernel_rfl) ?_
    clear ha; intro a ha
    refine J.st_val (.string (str [])) ha (by kernel_rfl) (by kernel_rfl) ?_
    clear ha; intro a ha
    refine J.st_val (.bool x.2.2) ha (by kernel_rfl) (by kernel_rfl) ?_
    clear ha; intro a ha
    refine J.st_val (.int .i64 0) ha (by kernel_rfl) (by kernel_rfl) ?_
    clear ha; intro a ha
    refine J.st_val (.string (str [])) ha (by kernel_rfl) (by kernel_rfl) ?_
    clear ha; intro a ha
    refine J.st_val (.bool x.2.2) ha (by kernel_rfl) (by kernel_rfl) ?_
    clear ha; intro a ha
    refine J.st_val (.int .i64 0) ha (by kernel_rfl) (by kernel_rfl) ?_
    clear ha; intro a ha
    refine J.wpList_nil ?_
    refine then_normal ?_
    refine J.wp_seq ?_
    refine J.wp_seq ?_
    refine J.wp_region_lit ?_
    refine J.st_val (.int .i64 0) ha (by kernel_rfl) (by kernel_rfl) ?_
    clear ha; intro a ha
    refine J.st_val (.bool false) ha (by kernel_rfl) (by kernel_rfl) ?_
    clear ha; intro a ha
    refine J.st_val (.bool false) ha (by kernel_rfl) (by kernel_rfl) ?_
    clear ha; intro a ha
    refine J.st_val (.int .i64 0) ha (by kernel_rfl) (by kernel_rfl) ?_
    clear ha; intro a ha
    refine J.st_val (.bool false) ha (by kernel_rfl) (by kernel_rfl) ?_
    clear ha; intro a ha
    refine J.st_val (.bool false) ha (by kernel_rfl) (by kernel_rfl) ?_
    clear ha; intro a ha
    refine J.st_val (.bool false) ha (by kernel_rfl) (by kernel_rfl) ?_
    clear ha; intro a ha
    refine J.st_val (.string (str [x.1])) ha (by kernel_rfl) (by kernel_rfl) ?_
    clear ha; intro a ha
    refine J.st_val (.pointer (some ⟨vs_, 0, none⟩)) ha (by kernel_rfl) (by kernel_rfl) ?_
    clear ha; intro a ha
    refine J.st_val (.string (str [97])) ha (by kernel_rfl) (run_load1 (of_ := 0) (s.blkIs 10 rfl) rfl (by kernel_rfl) Tryz.isAgg9 rfl) ?_
    clear ha; intro a ha
    refine J.st_val (.bool false) ha (by kernel_rfl) (run_known (show (decide ([x.1] < [97])) = false from decide_eq_false hxo.ge) (run_slss (p := [x.1]) (q := [97]) rfl (by kernel_rfl) (by kernel_rfl) _)) ?_
    clear ha; intro a ha
    refine J.st_val (.bool false) ha (by kernel_rfl) (by kernel_rfl) ?_
    clear ha; intro a ha
    refine J.st_val (.bool false) ha (by kernel_rfl) (by kernel_rfl) ?_
    clear ha; intro a ha
    refine J.st_val (.string (str [x.1])) ha (by kernel_rfl) (by kernel_rfl) ?_
    clear ha; intro a ha
    refine J.st_val (.pointer (some ⟨vs_, 1, none⟩)) ha (by kernel_rfl) (by kernel_rfl) ?_
    clear ha; intro a ha
    refine J.st_val (.string (str [109])) ha (by kernel_rfl) (run_load1 (of_ := 1) (s.blkIs 10 rfl) rfl (by kernel_rfl) Tryz.isAgg9 rfl) ?_
    clear ha; intro a ha
    refine J.st_val (.bool false) ha (by kernel_rfl) (run_known (show (decide ([109] ≤ [x.1])) = false from decide_eq_false hxo.lt) (run_sgeq (p := [x.1]) (q := [109]) rfl (by kernel_rfl) (by kernel_rfl) _)) ?_
    clear ha; intro a ha
    refine J.st_val (.bool false) ha (by kernel_rfl) (by kernel_rfl) ?_
    clear ha; intro a ha
    refine J.st_val (.bool false) ha (by kernel_rfl) (by kernel_rfl) ?_
    clear ha; intro a ha
    refine J.st_val (.agg #[.int .i64 wv, .int .i64 0]) ha (by kernel_rfl) (run_loadN (of_ := 0) [.int .i64 wv, .int .i64 0] (s.blkIs 11 rfl) rfl (by kernel_rfl) Tryz.isAgg33 Tryz.sizeOf33 rfl (Nat.le_of_ble_eq_true rfl)) ?_
    clear ha; intro a ha
    refine J.st_val (.agg #[.int .i64 x.2.1, .int .i64 0]) ha (by kernel_rfl) (run_loadN (of_ := 0) [.int .i64 x.2.1, .int .i64 0] (s.blkIs 0 rfl) rfl (by kernel_rfl) Tryz.isAgg33 Tryz.sizeOf33 rfl (Nat.le_of_ble_eq_true rfl)) ?_
    clear ha; intro a ha
    refine J.st_call ha (by kernel_rfl) (by kernel_rfl) ((Vm.p_less wv x.2.1) _ _ _ s) ?_
    rintro _ w ⟨rfl, s⟩
    refine ⟨_, rfl, ?_⟩; clear ha; intro a ha
    refine J.st_val (.bool (decide (wv < x.2.1))) ha (by kernel_rfl) (by kernel_rfl) ?_
    clear ha; intro a ha
    refine J.wpList_nil ?_
    refine then_normal ?_
    refine J.wp_part (decide (wv < x.2.1)) ha rfl (by kernel_rfl) (fun hb => ?_) (fun hb => ?_)
    · rw [hb] at ha; replace hb : (wv < x.2.1) := of_decide_eq_true hb
      refine J.wp_exit ?_
      refine then_exit ?_
      refine block_hit ?_
      have hnx : sst wv vs (i + 1) = sst wv vs i := by rw [sst_snoc hx]; unfold swf; rw [decide_eq_true hb, cond_true]; skip
      replace s := ((((((((((s.at_ (j := 11) rfl).at_ (j := 11) rfl).at_ (j := 11) rfl).at_ (j := 11) rfl).at_ (j := 11) rfl).at_ (j := 11) rfl).at_ (j := 11) rfl).at_ (j := 11) rfl).at_ (j := 11) rfl).at_ (j := 11) rfl).at_ (j := 11) rfl
      replace s : St W (Tb gt rows :: .blk b1 [.pointer (some ⟨gt, 0, none⟩)] 24 :: .blk b2 [.string (str [118])] 9 :: .blk b3 [.string (str [119])] 9 :: .blk va [.bool ((sst wv vs i).1.isSome)] 4 :: .blk vl [.string (str (lastK (sst wv vs i).1))] 9 :: .blk vf [.func (.func 131) #[] #[.pointer (some ⟨va, 0, none⟩), .pointer (some ⟨vl, 0, none⟩)]] 146 :: .blk vo [.slice A ((sst wv vs i).2.length) c] 44 :: Sep.Own 81 3 A ((sst wv vs i).2.length) c (ops3 (sst wv vs i).2) :: .blk vs_ [.string (str [97]), .string (str [109])] 37 :: .blk vt [.int .i64 wv, .int .i64 0] 33 :: T) w := s.keep 11 1
      refine ⟨⟨A, c⟩, trivial, ?_⟩
      show St W (Tb gt rows :: .blk b1 [.pointer (some ⟨gt, 0, none⟩)] 24 :: .blk b2 [.string (str [118])] 9 :: .blk b3 [.string (str [119])] 9 :: .blk va [.bool ((sst wv vs (i + 1)).1.isSome)] 4 :: .blk vl [.string (str (lastK (sst wv vs (i + 1)).1))] 9 :: .blk vf [.func (.func 131) #[] #[.pointer (some ⟨va, 0, none⟩), .pointer (some ⟨vl, 0, none⟩)]] 146 :: .blk vo [.slice A ((sst wv vs (i + 1)).2.length) c] 44 :: Sep.Own 81 3 A ((sst wv vs (i + 1)).2.length) c (ops3 (sst wv vs (i + 1)).2) :: .blk vs_ [.string (str [97]), .string (str [109])] 37 :: .blk vt [.int .i64 wv, .int .i64 0] 33 :: T) w
      rw [hnx]
      exact s
    · rw [hb] at ha; replace hb : ¬ (wv < x.2.1) := of_decide_eq_false hb
      have hw := hb
      refine J.wp_skip ?_
      refine then_normal ?_
      refine J.wp_seq ?_
      refine J.wp_region_lit ?_
      refine J.st_val (.func (.func 131) #[] #[.pointer (some ⟨va, 0, none⟩), .pointer (some ⟨vl, 0, none⟩)]) ha (by kernel_rfl) (run_load1 (of_ := 0) (s.blkIs 7 rfl) rfl (by kernel_rfl) Tryz.isAgg146 rfl) ?_
      clear ha; intro a ha
      refine J.st_val (.string (str [x.1])) ha (by kernel_rfl) (by kernel_rfl) ?_
      clear ha; intro a ha
      replace s := (s.at_ (j := 6) rfl).at_ (j := 6) rfl
      replace s : St W (.blk va [.bool ((sst wv vs i).1.isSome)] 4 :: .blk vl [.string (str (lastK (sst wv vs i).1))] 9 :: .blk g7 [.int .i64 x.2.1, .int .i64 0] 33 :: Tb gt rows :: .blk b1 [.pointer (some ⟨gt, 0, none⟩)] 24 :: .blk b2 [.string (str [118])] 9 :: .blk b3 [.string (str [119])] 9 :: .blk vf [.func (.func 131) #[] #[.pointer (some ⟨va, 0, none⟩), .pointer (some ⟨vl, 0, none⟩)]] 146 :: .blk vo [.slice A ((sst wv vs i).2.length) c] 44 :: Sep.Own 81 3 A ((sst wv vs i).2.length) c (ops3 (sst wv vs i).2) :: .blk vs_ [.string (str [97]), .string (str [109])] 37 :: .blk vt [.int .i64 wv, .int .i64 0] 33 :: T) w := s
      refine J.st_call ha (by kernel_rfl) (by kernel_rfl) ((first_clo W _ _ va vl (sst wv vs i).1.isSome (lastK (sst wv vs i).1) [x.1] s).mono fun e w h => (show _ ∧ _ from ⟨by have := h.1; rw [fstB_eq] at this; exact this, h.2⟩)) ?_
      rintro _ w ⟨rfl, s⟩
      refine ⟨_, rfl, ?_⟩; clear ha; intro a ha
      refine J.st_val (.bool (!(fstB (sst wv vs i).1 x.1))) ha (by kernel_rfl) (by kernel_rfl) ?_
      clear ha; intro a ha
      refine J.st_val (.bool (!(fstB (sst wv vs i).1 x.1))) ha (by kernel_rfl) (by kernel_rfl) ?_
      clear ha; intro a ha
      rcases Bool.eq_false_or_eq_true (!(fstB (sst wv vs i).1 x.1)) with hb | hb
      · rw [hb] at ha; skip
        have hfb : fstB (sst wv vs i).1 x.1 = false := by simpa using hb
        refine J.st_pass ha (by kernel_rfl) ?_
        clear ha; intro a ha
        refine J.st_pass ha (by kernel_rfl) ?_
        clear ha; intro a ha
        refine J.st_val (.bool true) ha (by kernel_rfl) (by kernel_rfl) ?_
        clear ha; intro a ha
        refine J.wpList_nil ?_
        refine then_normal ?_
        refine J.wp_true ha rfl (by kernel_rfl) ?_
        refine J.wp_region_lit ?_
        refine J.st_val (.slice A ((sst wv vs i).2.length) c) ha (by kernel_rfl) (run_load1 (of_ := 0) (s.blkIs 8 rfl) rfl (by kernel_rfl) Tryz.isAgg44 rfl) ?_
        clear ha; intro a ha
        refine J.st_val (.string (str (vkey x.1 x.2.1))) ha (by kernel_rfl) (by kernel_rfl) ?_
        clear ha; intro a ha
        refine J.st_val (.agg #[.string (str (vkey x.1 x.2.1)), .string (str []), .bool true]) ha (by kernel_rfl) (by kernel_rfl) ?_
        clear ha; intro a ha
        refine J.st_ex ha (by kernel_rfl) (ex_buildSlice elt44 _ zs44 [.string (str (vkey x.1 x.2.1)), .string (str []), .bool true] s rfl (by kernel_rfl) (by decide)) ?_
        clear ha; rintro _ w a ⟨g8, rfl, s⟩ ha
        have hln := sst_len wv vs i; have hiv := (List.getElem?_eq_some_iff.1 hx).1
        refine J.st_ex ha (by kernel_rfl) (ex_append (m := 1) (d' := 1) elt44 (by decide) 10 [.string (str (vkey x.1 x.2.1)), .string (str []), .bool true] s rfl (by kernel_rfl) (by kernel_rfl) rfl (reads_blk (s.blkIs 0 rfl) rfl) (by simp [Value.oneCell']) (by simp only [maxLen]; omega) (by omega)) ?_
        clear ha; rintro _ w a ⟨A9, c10, rfl, hA_, s⟩ ha
        replace s : St W (.blk g8 [.string (str (vkey x.1 x.2.1)), .string (str []), .bool true] 81 :: .blk va [.bool true] 4 :: .blk vl [.string (str [x.1])] 9 :: .blk g7 [.int .i64 x.2.1, .int .i64 0] 33 :: Tb gt rows :: .blk b1 [.pointer (some ⟨gt, 0, none⟩)] 24 :: .blk b2 [.string (str [118])] 9 :: .blk b3 [.string (str [119])] 9 :: .blk vf [.func (.func 131) #[] #[.pointer (some ⟨va, 0, none⟩), .pointer (some ⟨vl, 0, none⟩)]] 146 :: .blk vo [.slice A ((sst wv vs i).2.length) c] 44 :: Sep.Own 81 3 A9 ((sst wv vs i).2.length + 1) c10 ((ops3 (sst wv vs i).2) ++ [.string (str (vkey x.1 x.2.1)), .string (str []), .bool true]) :: .blk vs_ [.string (str [97]), .string (str [109])] 37 :: .blk vt [.int .i64 wv, .int .i64 0] 33 :: T) w := s
        refine J.st_exd ha (by kernel_rfl) (ex_store (of_ := 0) 9 [.slice A9 ((sst wv vs i).2.length + 1) c10] s rfl rfl (by kernel_rfl) (by kernel_rfl) (Tryz.sizeOf44 _) rfl (by simp [Value.oneCell']) (Nat.le_of_ble_eq_true rfl)) ?_
        clear ha; rintro w a s ha
        replace s : St W (.blk g8 [.string (str (vkey x.1 x.2.1)), .string (str []), .bool true] 81 :: .blk va [.bool true] 4 :: .blk vl [.string (str [x.1])] 9 :: .blk g7 [.int .i64 x.2.1, .int .i64 0] 33 :: Tb gt rows :: .blk b1 [.pointer (some ⟨gt, 0, none⟩)] 24 :: .blk b2 [.string (str [118])] 9 :: .blk b3 [.string (str [119])] 9 :: .blk vf [.func (.func 131) #[] #[.pointer (some ⟨va, 0, none⟩), .pointer (some ⟨vl, 0, none⟩)]] 146 :: .blk vo [.slice A9 ((sst wv vs i).2.length + 1) c10] 44 :: Sep.Own 81 3 A9 ((sst wv vs i).2.length + 1) c10 ((ops3 (sst wv vs i).2) ++ [.string (str (vkey x.1 x.2.1)), .string (str []), .bool true]) :: .blk vs_ [.string (str [97]), .string (str [109])] 37 :: .blk vt [.int .i64 wv, .int .i64 0] 33 :: T) w := s
        refine J.wpList_nil ?_
        refine block_normal ?_
        have hnx : sst wv vs (i + 1) = (some x.1, (sst wv vs i).2 ++ [gone x]) := by rw [sst_snoc hx]; unfold swf; rw [decide_eq_false hw, hfb, cond_false]; rfl
        replace s := ((((((((((s.at_ (j := 12) rfl).at_ (j := 12) rfl).at_ (j := 12) rfl).at_ (j := 12) rfl).at_ (j := 12) rfl).at_ (j := 7) rfl).at_ (j := 7) rfl).at_ (j := 12) rfl).at_ (j := 12) rfl).at_ (j := 12) rfl).at_ (j := 12) rfl
        replace s : St W (Tb gt rows :: .blk b1 [.pointer (some ⟨gt, 0, none⟩)] 24 :: .blk b2 [.string (str [118])] 9 :: .blk b3 [.string (str [119])] 9 :: .blk va [.bool true] 4 :: .blk vl [.string (str [x.1])] 9 :: .blk vf [.func (.func 131) #[] #[.pointer (some ⟨va, 0, none⟩), .pointer (some ⟨vl, 0, none⟩)]] 146 :: .blk vo [.slice A9 ((sst wv vs i).2.length + 1) c10] 44 :: Sep.Own 81 3 A9 ((sst wv vs i).2.length + 1) c10 ((ops3 (sst wv vs i).2) ++ [.string (str (vkey x.1 x.2.1)), .string (str []), .bool true]) :: .blk vs_ [.string (str [97]), .string (str [109])] 37 :: .blk vt [.int .i64 wv, .int .i64 0] 33 :: T) w := s.keep 11 2
        refine ⟨⟨A9, c10⟩, trivial, ?_⟩
        show St W (Tb gt rows :: .blk b1 [.pointer (some ⟨gt, 0, none⟩)] 24 :: .blk b2 [.string (str [118])] 9 :: .blk b3 [.string (str [119])] 9 :: .blk va [.bool ((sst wv vs (i + 1)).1.isSome)] 4 :: .blk vl [.string (str (lastK (sst wv vs (i + 1)).1))] 9 :: .blk vf [.func (.func 131) #[] #[.pointer (some ⟨va, 0, none⟩), .pointer (some ⟨vl, 0, none⟩)]] 146 :: .blk vo [.slice A9 ((sst wv vs (i + 1)).2.length) c10] 44 :: Sep.Own 81 3 A9 ((sst wv vs (i + 1)).2.length) c10 (ops3 (sst wv vs (i + 1)).2) :: .blk vs_ [.string (str [97]), .string (str [109])] 37 :: .blk vt [.int .i64 wv, .int .i64 0] 33 :: T) w
        rw [hnx]; dsimp only
        have e1 : ((sst wv vs i).2 ++ [gone x]).length = (sst wv vs i).2.length + 1 := by simp
        have e2 : ops3 ((sst wv vs i).2 ++ [gone x]) = ops3 (sst wv vs i).2 ++ [.string (str (vkey x.1 x.2.1)), .string (str []), .bool true] := by rw [ops3_app]; rfl
        rw [e1, e2]
        exact s
      · rw [hb] at ha; skip
        have hfb : fstB (sst wv vs i).1 x.1 = true := by simpa using hb
        refine J.st_val (.bool x.2.2) ha (by kernel_rfl) (by kernel_rfl) ?_
        clear ha; intro a ha
        refine J.st_val (.bool (!x.2.2)) ha (by kernel_rfl) (by kernel_rfl) ?_
        clear ha; intro a ha
        refine J.st_val (.bool (!x.2.2)) ha (by kernel_rfl) (by kernel_rfl) ?_
        clear ha; intro a ha
        refine J.wpList_nil ?_
        refine then_normal ?_
        refine J.wp_part (!x.2.2) ha rfl (by kernel_rfl) (fun hb => ?_) (fun hb => ?_)
        · rw [hb] at ha; skip
          have hxi : x.2.2 = false := by simpa using hb
          refine J.wp_region_lit ?_
          refine J.st_val (.slice A ((sst wv vs i).2.length) c) ha (by kernel_rfl) (run_load1 (of_ := 0) (s.blkIs 8 rfl) rfl (by kernel_rfl) Tryz.isAgg44 rfl) ?_
          clear ha; intro a ha
          refine J.st_val (.string (str (vkey x.1 x.2.1))) ha (by kernel_rfl) (by kernel_rfl) ?_
          clear ha; intro a ha
          refine J.st_val (.agg #[.string (str (vkey x.1 x.2.1)), .string (str []), .bool true]) ha (by kernel_rfl) (by kernel_rfl) ?_
          clear ha; intro a ha
          refine J.st_ex ha (by kernel_rfl) (ex_buildSlice elt44 _ zs44 [.string (str (vkey x.1 x.2.1)), .string (str []), .bool true] s rfl (by kernel_rfl) (by decide)) ?_
          clear ha; rintro _ w a ⟨g11, rfl, s⟩ ha
          have hln := sst_len wv vs i; have hiv := (List.getElem?_eq_some_iff.1 hx).1
          refine J.st_ex ha (by kernel_rfl) (ex_append (m := 1) (d' := 1) elt44 (by decide) 10 [.string (str (vkey x.1 x.2.1)), .string (str []), .bool true] s rfl (by kernel_rfl) (by kernel_rfl) rfl (reads_blk (s.blkIs 0 rfl) rfl) (by simp [Value.oneCell']) (by simp only [maxLen]; omega) (by omega)) ?_
          clear ha; rintro _ w a ⟨A12, c13, rfl, hA_, s⟩ ha
          replace s : St W (.blk g11 [.string (str (vkey x.1 x.2.1)), .string (str []), .bool true] 81 :: .blk va [.bool true] 4 :: .blk vl [.string (str [x.1])] 9 :: .blk g7 [.int .i64 x.2.1, .int .i64 0] 33 :: Tb gt rows :: .blk b1 [.pointer (some ⟨gt, 0, none⟩)] 24 :: .blk b2 [.string (str [118])] 9 :: .blk b3 [.string (str [119])] 9 :: .blk vf [.func (.func 131) #[] #[.pointer (some ⟨va, 0, none⟩), .pointer (some ⟨vl, 0, none⟩)]] 146 :: .blk vo [.slice A ((sst wv vs i).2.length) c] 44 :: Sep.Own 81 3 A12 ((sst wv vs i).2.length + 1) c13 ((ops3 (sst wv vs i).2) ++ [.string (str (vkey x.1 x.2.1)), .string (str []), .bool true]) :: .blk vs_ [.string (str [97]), .string (str [109])] 37 :: .blk vt [.int .i64 wv, .int .i64 0] 33 :: T) w := s
          refine J.st_exd ha (by kernel_rfl) (ex_store (of_ := 0) 9 [.slice A12 ((sst wv vs i).2.length + 1) c13] s rfl rfl (by kernel_rfl) (by kernel_rfl) (Tryz.sizeOf44 _) rfl (by simp [Value.oneCell']) (Nat.le_of_ble_eq_true rfl)) ?_
          clear ha; rintro w a s ha
          replace s : St W (.blk g11 [.string (str (vkey x.1 x.2.1)), .string (str []), .bool true] 81 :: .blk va [.bool true] 4 :: .blk vl [.string (str [x.1])] 9 :: .blk g7 [.int .i64 x.2.1, .int .i64 0] 33 :: Tb gt rows :: .blk b1 [.pointer (some ⟨gt, 0, none⟩)] 24 :: .blk b2 [.string (str [118])] 9 :: .blk b3 [.string (str [119])] 9 :: .blk vf [.func (.func 131) #[] #[.pointer (some ⟨va, 0, none⟩), .pointer (some ⟨vl, 0, none⟩)]] 146 :: .blk vo [.slice A12 ((sst wv vs i).2.length + 1) c13] 44 :: Sep.Own 81 3 A12 ((sst wv vs i).2.length + 1) c13 ((ops3 (sst wv vs i).2) ++ [.string (str (vkey x.1 x.2.1)), .string (str []), .bool true]) :: .blk vs_ [.string (str [97]), .string (str [109])] 37 :: .blk vt [.int .i64 wv, .int .i64 0] 33 :: T) w := s
          refine J.wpList_nil ?_
          refine block_normal ?_
          have hnx : sst wv vs (i + 1) = (some x.1, (sst wv vs i).2 ++ [gone x]) := by rw [sst_snoc hx]; unfold swf; rw [decide_eq_false hw, hfb, hxi, cond_false]; rfl
          replace s := ((((((((((s.at_ (j := 12) rfl).at_ (j := 12) rfl).at_ (j := 12) rfl).at_ (j := 12) rfl).at_ (j := 12) rfl).at_ (j := 7) rfl).at_ (j := 7) rfl).at_ (j := 12) rfl).at_ (j := 12) rfl).at_ (j := 12) rfl).at_ (j := 12) rfl
          replace s : St W (Tb gt rows :: .blk b1 [.pointer (some ⟨gt, 0, none⟩)] 24 :: .blk b2 [.string (str [118])] 9 :: .blk b3 [.string (str [119])] 9 :: .blk va [.bool true] 4 :: .blk vl [.string (str [x.1])] 9 :: .blk vf [.func (.func 131) #[] #[.pointer (some ⟨va, 0, none⟩), .pointer (some ⟨vl, 0, none⟩)]] 146 :: .blk vo [.slice A12 ((sst wv vs i).2.length + 1) c13] 44 :: Sep.Own 81 3 A12 ((sst wv vs i).2.length + 1) c13 ((ops3 (sst wv vs i).2) ++ [.string (str (vkey x.1 x.2.1)), .string (str []), .bool true]) :: .blk vs_ [.string (str [97]), .string (str [109])] 37 :: .blk vt [.int .i64 wv, .int .i64 0] 33 :: T) w := s.keep 11 2
          refine ⟨⟨A12, c13⟩, trivial, ?_⟩
          show St W (Tb gt rows :: .blk b1 [.pointer (some ⟨gt, 0, none⟩)] 24 :: .blk b2 [.string (str [118])] 9 :: .blk b3 [.string (str [119])] 9 :: .blk va [.bool ((sst wv vs (i + 1)).1.isSome)] 4 :: .blk vl [.string (str (lastK (sst wv vs (i + 1)).1))] 9 :: .blk vf [.func (.func 131) #[] #[.pointer (some ⟨va, 0, none⟩), .pointer (some ⟨vl, 0, none⟩)]] 146 :: .blk vo [.slice A12 ((sst wv vs (i + 1)).2.length) c13] 44 :: Sep.Own 81 3 A12 ((sst wv vs (i + 1)).2.length) c13 (ops3 (sst wv vs (i + 1)).2) :: .blk vs_ [.string (str [97]), .string (str [109])] 37 :: .blk vt [.int .i64 wv, .int .i64 0] 33 :: T) w
          rw [hnx]; dsimp only
          have e1 : ((sst wv vs i).2 ++ [gone x]).length = (sst wv vs i).2.length + 1 := by simp
          have e2 : ops3 ((sst wv vs i).2 ++ [gone x]) = ops3 (sst wv vs i).2 ++ [.string (str (vkey x.1 x.2.1)), .string (str []), .bool true] := by rw [ops3_app]; rfl
          rw [e1, e2]
          exact s
        · rw [hb] at ha; skip
          have hxi : x.2.2 = true := by simpa using hb
          refine J.wp_skip ?_
          refine block_normal ?_
          have hnx : sst wv vs (i + 1) = (some x.1, (sst wv vs i).2) := by rw [sst_snoc hx]; unfold swf; rw [decide_eq_false hw, hfb, hxi, cond_false]; rfl
          replace s := ((((((((((s.at_ (j := 11) rfl).at_ (j := 11) rfl).at_ (j := 11) rfl).at_ (j := 11) rfl).at_ (j := 11) rfl).at_ (j := 6) rfl).at_ (j := 6) rfl).at_ (j := 11) rfl).at_ (j := 11) rfl).at_ (j := 11) rfl).at_ (j := 11) rfl
          replace s : St W (Tb gt rows :: .blk b1 [.pointer (some ⟨gt, 0, none⟩)] 24 :: .blk b2 [.string (str [118])] 9 :: .blk b3 [.string (str [119])] 9 :: .blk va [.bool true] 4 :: .blk vl [.string (str [x.1])] 9 :: .blk vf [.func (.func 131) #[] #[.pointer (some ⟨va, 0, none⟩), .pointer (some ⟨vl, 0, none⟩)]] 146 :: .blk vo [.slice A ((sst wv vs i).2.length) c] 44 :: Sep.Own 81 3 A ((sst wv vs i).2.length) c (ops3 (sst wv vs i).2) :: .blk vs_ [.string (str [97]), .string (str [109])] 37 :: .blk vt [.int .i64 wv, .int .i64 0] 33 :: T) w := s.keep 11 1
          refine ⟨⟨A, c⟩, trivial, ?_⟩
          show St W (Tb gt rows :: .blk b1 [.pointer (some ⟨gt, 0, none⟩)] 24 :: .blk b2 [.string (str [118])] 9 :: .blk b3 [.string (str [119])] 9 :: .blk va [.bool ((sst wv vs (i + 1)).1.isSome)] 4 :: .blk vl [.string (str (lastK (sst wv vs (i + 1)).1))] 9 :: .blk vf [.func (.func 131) #[] #[.pointer (some ⟨va, 0, none⟩), .pointer (some ⟨vl, 0, none⟩)]] 146 :: .blk vo [.slice A ((sst wv vs (i + 1)).2.length) c] 44 :: Sep.Own 81 3 A ((sst wv vs (i + 1)).2.length) c (ops3 (sst wv vs (i + 1)).2) :: .blk vs_ [.string (str [97]), .string (str [109])] 37 :: .blk vt [.int .i64 wv, .int .i64 0] 33 :: T) w
          rw [hnx]; dsimp only
          exact s
  · clear ha s; rintro D ⟨A, c⟩ a w hp s ha
    replace ha : J.Has [J.mark D] a 99 [(4, .pointer (some ⟨vs_, 0, none⟩)), (5, .pointer (some ⟨vt, 0, none⟩)), (8, .pointer (some ⟨vl, 0, none⟩)), (9, .pointer (some ⟨va, 0, none⟩)), (10, .pointer (some ⟨vf, 0, none⟩)), (11, .pointer (some ⟨vo, 0, none⟩)), (47, .func (.func 97) #[] #[.pointer (some ⟨b1, 0, none⟩), .pointer (some ⟨b2, 0, none⟩), .pointer (some ⟨b3, 0, none⟩)])] := ha
    replace s : St W (Tb gt rows :: .blk b1 [.pointer (some ⟨gt, 0, none⟩)] 24 :: .blk b2 [.string (str [118])] 9 :: .blk b3 [.string (str [119])] 9 :: .blk va [.bool ((sst wv vs (((seg rows [118] [119]).map row2).length)).1.isSome)] 4 :: .blk vl [.string (str (lastK (sst wv vs (((seg rows [118] [119]).map row2).length)).1))] 9 :: .blk vf [.func (.func 131) #[] #[.pointer (some ⟨va, 0, none⟩), .pointer (some ⟨vl, 0, none⟩)]] 146 :: .blk vo [.slice A ((sst wv vs (((seg rows [118] [119]).map row2).length)).2.length) c] 44 :: Sep.Own 81 3 A ((sst wv vs (((seg rows [118] [119]).map row2).length)).2.length) c (ops3 (sst wv vs (((seg rows [118] [119]).map row2).length)).2) :: .blk vs_ [.string (str [97]), .string (str [109])] 37 :: .blk vt [.int .i64 wv, .int .i64 0] 33 :: J.objC D (.deferred (some [])) :: L) w := s
    refine block_normal ?_
    refine then_normal ?_
    refine J.wp_seq ?_
    refine J.wp_region_lit ?_
    refine J.st_val (.slice A ((sst wv vs (((seg rows [118] [119]).map row2).length)).2.length) c) ha (by kernel_rfl) (run_load1 (of_ := 0) (s.blkIs 7 rfl) rfl (by kernel_rfl) Tryz.isAgg44 rfl) ?_
    clear ha; intro a ha
    refine J.st_val (.slice A ((sst wv vs (((seg rows [118] [119]).map row2).length)).2.length) c) ha (by kernel_rfl) (by kernel_rfl) ?_
    clear ha; intro a ha
    refine J.st_val (.int .i64 0) ha (by kernel_rfl) (by kernel_rfl) ?_
    clear ha; intro a ha
    refine J.wpList_nil ?_
    refine then_normal ?_
    refine J.wp_ret ?_
    replace s := s.at_ (j := 11) rfl
    replace s : St W (J.objC D (.deferred (some [])) :: Tb gt rows :: .blk b1 [.pointer (some ⟨gt, 0, none⟩)] 24 :: .blk b2 [.string (str [118])] 9 :: .blk b3 [.string (str [119])] 9 :: .blk va [.bool ((sst wv vs (((seg rows [118] [119]).map row2).length)).1.isSome)] 4 :: .blk vl [.string (str (lastK (sst wv vs (((seg rows [118] [119]).map row2).length)).1))] 9 :: .blk vf [.func (.func 131) #[] #[.pointer (some ⟨va, 0, none⟩), .pointer (some ⟨vl, 0, none⟩)]] 146 :: .blk vo [.slice A ((sst wv vs (((seg rows [118] [119]).map row2).length)).2.length) c] 44 :: Sep.Own 81 3 A ((sst wv vs (((seg rows [118] [119]).map row2).length)).2.length) c (ops3 (sst wv vs (((seg rows [118] [119]).map row2).length)).2) :: .blk vs_ [.string (str [97]), .string (str [109])] 37 :: .blk vt [.int .i64 wv, .int .i64 0] 33 :: L) w := s
    refine J.ret_with1 (v := .tuple #[.slice A ((sst wv vs (((seg rows [118] [119]).map row2).length)).2.length) c, .int .i64 0]) ha s (fun w s => (results_2 (a := { a with defers := [] }) rfl ha.bare (res_tmp (by kernel_rfl) (by kernel_rfl)) (res_tmp (by kernel_rfl) (by kernel_rfl)))) (fun w s => ?_)
    replace s := (s.at_ (j := 8) rfl).at_ (j := 1) rfl
    replace s : St W (Tb gt rows :: Sep.Own 81 3 A ((sst wv vs (((seg rows [118] [119]).map row2).length)).2.length) c (ops3 (sst wv vs (((seg rows [118] [119]).map row2).length)).2) :: L) w := s.keep 2 9
    have hq : ((seg rows [118] [119]).map row2).length = vs.length := by rw [hseg]; simp
    rw [hq] at s
    exact ⟨A, _, c, by rw [hq], rfl, s⟩
  · clear ha s; rintro c D u a w - hp s ha
    exact hp.elim

end Go.Proofs.YtagbmfdheppmoaaGreatDoor.B
