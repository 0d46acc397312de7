import Derived.Test.YtagbmfdheppmoaaGreatDoorK7
import Derived.KernelRfl
namespace Go.Proofs.YtagbmfdheppmoaaGreatDoor.B
open Go.RowKit Go.Proofs.YtagbmfdheppmoaaGreatDoor.Sep
set_option linter.unusedVariables false
set_option linter.unusedSimpArgs false

theorem flatMap_at {α : Type} {f : α → List Value} {n : Nat} (hf : ∀ x, (f x).length = n) {l : List α} {k : Nat} {s : α} (h : l[k]? = some s) {j : Nat} (hj : j < n) : (l.flatMap f)[k * n + j]? = (f s)[j]? := by
  rw [List.flatMap_def]
  exact flatten_at (k := n) (fun r hr => by obtain ⟨d, _, rfl⟩ := List.mem_map.1 hr; exact hf d) (by rw [List.getElem?_map, h]; rfl) hj
theorem flatMap_len {α : Type} {f : α → List Value} {n : Nat} (hf : ∀ x, (f x).length = n) (l : List α) : (l.flatMap f).length = l.length * n := by
  rw [List.flatMap_def, flatten_len (k := n) (fun r hr => by obtain ⟨x, _, rfl⟩ := List.mem_map.1 hr; exact hf x)]; simp
/-- Changes, as they lie in a row. -/
abbrev O3 := K × K × Bool
def opc (o : O3) : List Value := [.string (str o.1), .string (str o.2.1), .bool o.2.2]
def ops3 (l : List O3) : List Value := l.flatMap opc
theorem ops3_at {l : List O3} {k : Nat} {x : O3} (h : l[k]? = some x) {j : Nat} (hj : j < 3) : (ops3 l)[k * 3 + j]? = (opc x)[j]? := flatMap_at (f := opc) (n := 3) (fun _ => rfl) h hj
theorem ops3_len (l : List O3) : (ops3 l).length = l.length * 3 := flatMap_len (f := opc) (n := 3) (fun _ => rfl) l
theorem ops3_app (l m : List O3) : ops3 (l ++ m) = ops3 l ++ ops3 m := by simp [ops3]
theorem ops3_one (l : List O3) : ∀ u ∈ ops3 l, u.oneCell' = true := by
  intro u hu
  obtain ⟨x, _, hu⟩ := List.mem_flatMap.1 hu
  simp only [opc, List.mem_cons, List.not_mem_nil, or_false] at hu
  rcases hu with rfl | rfl | rfl <;> rfl
def app1 (t : List Rw) (o : O3) : List Rw := bif o.2.2 then tdel t o.1 else tput t o.1 o.2.1
def appl (t : List Rw) (l : List O3) : List Rw := l.foldl app1 t
theorem appl_snoc {t : List Rw} {l : List O3} {i : Nat} {x : O3} (h : l[i]? = some x) : appl t (l.take (i + 1)) = app1 (appl t (l.take i)) x := by
  unfold appl
  rw [List.take_add_one, h]; simp [List.foldl_append]
theorem filt2_len {p q : Rw → Bool} (h : ∀ x, p x = true → q x = false) (t : List Rw) : (t.filter p).length + (t.filter q).length ≤ t.length := by
  induction t with
  | nil => simp
  | cons x t ih =>
    cases hp : p x with
    | true => simp [hp, h x hp]; omega
    | false => cases hq : q x <;> simp [hp, hq] <;> omega
theorem tput_len (t : List Rw) (k v : K) : (tput t k v).length ≤ t.length + 1 := by
  unfold tput
  rw [List.length_append, List.length_cons]
  exact Nat.succ_le_succ (filt2_len (fun x h => decide_eq_false (klt_asymm (of_decide_eq_true h))) t)
theorem tdel_len (t : List Rw) (k : K) : (tdel t k).length ≤ t.length := List.length_filter_le ..
theorem app1_len (t : List Rw) (o : O3) : (app1 t o).length ≤ t.length + 1 := by
  unfold app1
  cases o.2.2 with
  | true => exact Nat.le_succ_of_le (tdel_len ..)
  | false => exact tput_len ..
theorem appl_len (t : List Rw) : ∀ l : List O3, (appl t l).length ≤ t.length + l.length
  | [] => Nat.le_refl _
  | o :: l => by
    have h1 := appl_len (app1 t o) l
    have h2 := app1_len t o
    show (appl (app1 t o) l).length ≤ _
    simp only [List.length_cons]; omega
theorem app1_bd {t : List Rw} {o : O3} (h : ∀ y ∈ t, y.1.length ≤ 1000000) (ho : o.1.length ≤ 1000000) : ∀ y ∈ app1 t o, y.1.length ≤ 1000000 := by
  intro y hy
  unfold app1 at hy
  cases hd : o.2.2 with
  | true => rw [hd] at hy; exact h y (List.mem_filter.1 hy).1
  | false =>
    rw [hd] at hy
    rcases List.mem_append.1 hy with hy | hy
    · exact h y (List.mem_filter.1 hy).1
    · rcases List.mem_cons.1 hy with rfl | hy
      · exact ho
      · exact h y (List.mem_filter.1 hy).1
/-- A change that may be. -/
def OpOk (o : O3) : Prop := o.1 ≠ [] ∧ (o.2.2 = true → o.2.1 = []) ∧ o.1.length ≤ 1000000

theorem Apply_spec (W : World) (L : List Chunk) (w : World) (gt : Nat) (rows : List Rw) (ad : Addr) (c : Nat) (ops : List O3) (hn : ops.length ≤ 128) (hk : ∀ o ∈ ops, OpOk o) (hR : Knows L fun w => Reads w 3 (some ad) ops.length (ops3 ops)) (hlen : rows.length + ops.length < 1000000000) (s : St W (Tb gt rows :: L) w) :
    Calls Tryz.prog 26 #[.pointer (some ⟨gt, 0, none⟩), .slice (some ad) ops.length c] w fun e w' => e = .returned (.int .i64 0) ∧ St W (Tb gt (appl rows ops) :: L) w' := by
  refine enter_args (l := [.pointer (some ⟨gt, 0, none⟩), .slice (some ad) ops.length c]) Tryz.func26 rfl rfl (Nat.le_of_ble_eq_true rfl) ?_
  intro a ha; replace ha : Has a 65 [(0, .pointer (some ⟨gt, 0, none⟩)), (1, .slice (some ad) ops.length c)] := ha
  refine wp_seq ?_
  refine wp_region_lit ?_
  refine st_val (.int .i64 0) ha (by kernel_rfl) (by kernel_rfl) ?_
  clear ha; intro a ha
  refine wpList_nil ?_
  refine then_normal ?_
  refine wp_seq ?_
  refine wp_block ?_
  refine wp_seq ?_
  refine wp_region_lit ?_
  refine st_val (.pointer (some ⟨gt, 0, none⟩)) ha (by kernel_rfl) (by kernel_rfl) ?_
  clear ha; intro a ha
  refine st_call ha (by kernel_rfl) (by kernel_rfl) (none_spec W _ _ gt _ s) ?_
  rintro _ w ⟨rfl, s⟩
  refine ⟨_, rfl, ?_⟩; clear ha; intro a ha
  refine st_val (.bool false) ha (by kernel_rfl) (by kernel_rfl) ?_
  clear ha; intro a ha
  refine wpList_nil ?_
  refine then_normal ?_
  refine wp_false ha rfl (by kernel_rfl) ?_
  refine wp_seq ?_
  refine wp_region_lit ?_
  refine st_val (.slice (some ad) ops.length c) ha (by kernel_rfl) (by kernel_rfl) ?_
  clear ha; intro a ha
  refine st_val (.int .i64 ((ops.length : Nat) : Int)) ha (by kernel_rfl) (by kernel_rfl) ?_
  clear ha; intro a ha
  refine st_val (.bool false) ha (by kernel_rfl) (run_known (show (decide (((ops.length : Nat) : Int) > (128 : Int))) = false from decide_eq_false (by omega)) (by kernel_rfl)) ?_
  clear ha; intro a ha
  refine st_val (.bool false) ha (by kernel_rfl) (by kernel_rfl) ?_
  clear ha; intro a ha
  refine wpList_nil ?_
  refine then_normal ?_
  refine wp_false ha rfl (by kernel_rfl) ?_
  refine wp_skip ?_
  refine block_normal ?_
  refine then_normal ?_
  refine wp_seq ?_
  refine wp_seq ?_
  refine wp_region_lit ?_
  refine st_val (.slice (some ad) ops.length c) ha (by kernel_rfl) (by kernel_rfl) ?_
  clear ha; intro a ha
  refine st_val (.int .i64 ((ops.length : Nat) : Int)) ha (by kernel_rfl) (by kernel_rfl) ?_
  clear ha; intro a ha
  refine st_val (.int .i64 0) ha (by kernel_rfl) (by kernel_rfl) ?_
  clear ha; intro a ha
  refine wpList_nil ?_
  refine then_normal ?_
  refine wp_block ?_
  refine wp_loopG (G := Nat) (fun i a w => Has a 65 [(0, .pointer (some ⟨gt, 0, none⟩)), (1, .slice (some ad) ops.length c), (16, .slice (some ad) ops.length c), (17, .int .i64 ((ops.length : Nat) : Int)), (18, .int .i64 ((i : Nat) : Int))] ∧ St W (Tb gt rows :: L) w ∧ (i ≤ ops.length)) (fun i => ops.length - i) 0 ?_ ?_
  · exact ⟨(Has.cons ha (by kernel_rfl) (by kernel_rfl) (Has.cons ha (by kernel_rfl) (by kernel_rfl) (Has.cons ha (by kernel_rfl) (by kernel_rfl) (Has.cons ha (by kernel_rfl) (by kernel_rfl) (Has.cons ha (by kernel_rfl) (by kernel_rfl) (Has.nil ha)))))), s, Nat.zero_le _⟩
  · clear ha s; rintro i a w ⟨ha, s, hp⟩
    refine wp_seq ?_
    refine wp_region_lit ?_
    refine st_val (.bool (decide (((i : Nat) : Int) < ((ops.length : Nat) : Int)))) ha (by kernel_rfl) (by kernel_rfl) ?_
    clear ha; intro a ha
    refine wpList_nil ?_
    refine then_normal ?_
    refine wp_seq ?_
    refine wp_part (decide (((i : Nat) : Int) < ((ops.length : Nat) : Int))) ha rfl (by kernel_rfl) (fun hb => ?_) (fun hb => ?_)
    · rw [hb] at ha; replace hb : (((i : Nat) : Int) < ((ops.length : Nat) : Int)) := of_decide_eq_true hb
      refine wp_skip ?_
      refine then_normal ?_
      refine wp_seq ?_
      refine wp_block ?_
      refine wp_seq ?_
      have hx0 : ∃ x, ops[i]? = some x := ⟨ops[i], List.getElem?_eq_getElem (by omega)⟩; obtain ⟨x, hx⟩ := hx0
      have hxo := hk x (List.mem_of_getElem? hx)
      refine wp_region_lit ?_
      refine st_val (.pointer (some (ad.add (i * 3)))) ha (by kernel_rfl) (run_indexAddr' (kd := .i64) (i := ((i : Nat) : Int)) (n := ops.length) (c := c) i rfl Tryz.underlying44 Tryz.sizeOf81 (by kernel_rfl) (by kernel_rfl) rfl (by first | assumption | omega) _) ?_
      clear ha; intro a ha
      refine st_val (.agg #[.string (str x.1), .string (str x.2.1), .bool x.2.2]) ha (by kernel_rfl) (run_loadAtN (i := i * 3) [.string (str x.1), .string (str x.2.1), .bool x.2.2] (hR _ s.sat.tail) rfl (by kernel_rfl) Tryz.isAgg81 Tryz.sizeOf81 (fun q_ hq_ => ops3_at hx hq_) rfl) ?_
      clear ha; intro a ha
      refine st_ex ha (by kernel_rfl) (ex_alloc [.string (str []), .string (str []), .bool false] s rfl (Tryz.zeroValue81 _) (by kernel_rfl)) ?_
      clear ha; rintro _ w a ⟨g1, rfl, s⟩ ha
      refine st_exd ha (by kernel_rfl) (ex_store (of_ := 0) 0 [.string (str x.1), .string (str x.2.1), .bool x.2.2] s rfl rfl (by kernel_rfl) (by kernel_rfl) (Tryz.sizeOf81 _) rfl (by simp [Value.oneCell']) (Nat.le_of_ble_eq_true rfl)) ?_
      clear ha; rintro w a s ha
      replace s : St W (.blk g1 [.string (str x.1), .string (str x.2.1), .bool x.2.2] 81 :: Tb gt rows :: L) w := s
      refine wpList_nil ?_
      refine then_normal ?_
      refine wp_seq ?_
      refine wp_region_lit ?_
      refine st_val (.pointer (some ⟨g1, 0, none⟩)) ha (by kernel_rfl) (by kernel_rfl) ?_
      clear ha; intro a ha
      refine st_val (.string (str x.1)) ha (by kernel_rfl) (run_load1 (of_ := 0) (s.blkIs 0 rfl) rfl (by kernel_rfl) Tryz.isAgg9 rfl) ?_
      clear ha; intro a ha
      refine st_val (.bool false) ha (by kernel_rfl) (run_known (show (decide (x.1 = [])) = false from decide_eq_false hxo.1) (run_seql (p := x.1) (q := []) rfl (by kernel_rfl) (by kernel_rfl) _)) ?_
      clear ha; intro a ha
      refine st_val (.bool false) ha (by kernel_rfl) (by kernel_rfl) ?_
      clear ha; intro a ha
      refine st_val (.pointer (some ⟨g1, 2, none⟩)) ha (by kernel_rfl) (by kernel_rfl) ?_
      clear ha; intro a ha
      refine st_val (.bool x.2.2) ha (by kernel_rfl) (run_load1 (of_ := 2) (s.blkIs 0 rfl) rfl (by kernel_rfl) Tryz.isAgg4 rfl) ?_
      clear ha; intro a ha
      refine st_val (.bool x.2.2) ha (by kernel_rfl) (by kernel_rfl) ?_
      clear ha; intro a ha
      rcases Bool.eq_false_or_eq_true x.2.2 with hb | hb
      · rw [hb] at ha; skip
        refine st_val (.pointer (some ⟨g1, 1, none⟩)) ha (by kernel_rfl) (by kernel_rfl) ?_
        clear ha; intro a ha
        refine st_val (.string (str x.2.1)) ha (by kernel_rfl) (run_load1 (of_ := 1) (s.blkIs 0 rfl) rfl (by kernel_rfl) Tryz.isAgg9 rfl) ?_
        clear ha; intro a ha
        refine st_val (.bool false) ha (by kernel_rfl) (run_known (show (decide (x.2.1 ≠ [])) = false from decide_eq_false (fun h => h (hxo.2.1 hb))) (run_sneq (p := x.2.1) (q := []) rfl (by kernel_rfl) (by kernel_rfl) _)) ?_
        clear ha; intro a ha
        refine st_val (.bool false) ha (by kernel_rfl) (by kernel_rfl) ?_
        clear ha; intro a ha
        refine st_val (.bool false) ha (by kernel_rfl) (by kernel_rfl) ?_
        clear ha; intro a ha
        refine wpList_nil ?_
        refine then_normal ?_
        refine wp_false ha rfl (by kernel_rfl) ?_
        refine wp_skip ?_
        refine block_normal ?_
        refine then_normal ?_
        refine wp_region_lit ?_
        refine st_val (.int .i64 ((i + 1 : Nat) : Int)) ha (by kernel_rfl) (run_arith (((i : Nat) : Int) + (1 : Int)) ((i + 1 : Nat) : Int) rfl (by kernel_rfl) (by kernel_rfl) (.inl ⟨rfl, rfl⟩) (by rw [wrap64_in (by omega)]; try omega) _) ?_
        clear ha; intro a ha
        refine st_val (.int .i64 ((i + 1 : Nat) : Int)) ha (by kernel_rfl) (by kernel_rfl) ?_
        clear ha; intro a ha
        refine wpList_nil ?_
        refine then_normal ?_
        replace s := s.at_ (j := 1) rfl
        replace s : St W (Tb gt rows :: L) w := s.keep 1 1
        exact ⟨i + 1, by omega, (Has.cons ha (by kernel_rfl) (by kernel_rfl) (Has.cons ha (by kernel_rfl) (by kernel_rfl) (Has.cons ha (by kernel_rfl) (by kernel_rfl) (Has.cons ha (by kernel_rfl) (by kernel_rfl) (Has.cons ha (by kernel_rfl) (by kernel_rfl) (Has.nil ha)))))), s, by omega⟩
      · rw [hb] at ha; skip
        refine st_pass ha (by kernel_rfl) ?_
        clear ha; intro a ha
        refine st_pass ha (by kernel_rfl) ?_
        clear ha; intro a ha
        refine st_pass ha (by kernel_rfl) ?_
        clear ha; intro a ha
        refine st_val (.bool false) ha (by kernel_rfl) (by kernel_rfl) ?_
        clear ha; intro a ha
        refine st_val (.bool false) ha (by kernel_rfl) (by kernel_rfl) ?_
        clear ha; intro a ha
        refine wpList_nil ?_
        refine then_normal ?_
        refine wp_false ha rfl (by kernel_rfl) ?_
        refine wp_skip ?_
        refine block_normal ?_
        refine then_normal ?_
        refine wp_region_lit ?_
        refine st_val (.int .i64 ((i + 1 : Nat) : Int)) ha (by kernel_rfl) (run_arith (((i : Nat) : Int) + (1 : Int)) ((i + 1 : Nat) : Int) rfl (by kernel_rfl) (by kernel_rfl) (.inl ⟨rfl, rfl⟩) (by rw [wrap64_in (by omega)]; try omega) _) ?_
        clear ha; intro a ha
        refine st_val (.int .i64 ((i + 1 : Nat) : Int)) ha (by kernel_rfl) (by kernel_rfl) ?_
        clear ha; intro a ha
        refine wpList_nil ?_
        refine then_normal ?_
        replace s := s.at_ (j := 1) rfl
        replace s : St W (Tb gt rows :: L) w := s.keep 1 1
        exact ⟨i + 1, by omega, (Has.cons ha (by kernel_rfl) (by kernel_rfl) (Has.cons ha (by kernel_rfl) (by kernel_rfl) (Has.cons ha (by kernel_rfl) (by kernel_rfl) (Has.cons ha (by kernel_rfl) (by kernel_rfl) (Has.cons ha (by kernel_rfl) (by kernel_rfl) (Has.nil ha)))))), s, by omega⟩
    · rw [hb] at ha; replace hb : ¬ (((i : Nat) : Int) < ((ops.length : Nat) : Int)) := of_decide_eq_false hb
      refine wp_exit ?_
      refine then_exit ?_
      refine then_exit ?_
      refine block_hit ?_
      refine then_normal ?_
      refine wp_seq ?_
      refine wp_seq ?_
      refine wp_region_lit ?_
      refine st_val (.slice (some ad) ops.length c) ha (by kernel_rfl) (by kernel_rfl) ?_
      clear ha; intro a ha
      refine st_val (.int .i64 ((ops.length : Nat) : Int)) ha (by kernel_rfl) (by kernel_rfl) ?_
      clear ha; intro a ha
      refine st_val (.int .i64 0) ha (by kernel_rfl) (by kernel_rfl) ?_
      clear ha; intro a ha
      refine wpList_nil ?_
      refine then_normal ?_
      refine wp_block ?_
      refine wp_loopG (G := Nat) (fun i a w => Has a 65 [(0, .pointer (some ⟨gt, 0, none⟩)), (35, .slice (some ad) ops.length c), (36, .int .i64 ((ops.length : Nat) : Int)), (37, .int .i64 ((i : Nat) : Int))] ∧ St W (Tb gt (appl rows (ops.take i)) :: L) w ∧ (i ≤ ops.length)) (fun i => ops.length - i) 0 ?_ ?_
      · exact ⟨(Has.cons ha (by kernel_rfl) (by kernel_rfl) (Has.cons ha (by kernel_rfl) (by kernel_rfl) (Has.cons ha (by kernel_rfl) (by kernel_rfl) (Has.cons ha (by kernel_rfl) (by kernel_rfl) (Has.nil ha))))), (by simpa [appl] using s), Nat.zero_le _⟩
      · clear ha s; rintro i a w ⟨ha, s, hp⟩
        refine wp_seq ?_
        refine wp_region_lit ?_
        refine st_val (.bool (decide (((i : Nat) : Int) < ((ops.length : Nat) : Int)))) ha (by kernel_rfl) (by kernel_rfl) ?_
        clear ha; intro a ha
        refine wpList_nil ?_
        refine then_normal ?_
        refine wp_seq ?_
        refine wp_part (decide (((i : Nat) : Int) < ((ops.length : Nat) : Int))) ha rfl (by kernel_rfl) (fun hb => ?_) (fun hb => ?_)
        · rw [hb] at ha; replace hb : (((i : Nat) : Int) < ((ops.length : Nat) : Int)) := of_decide_eq_true hb
          refine wp_skip ?_
          refine then_normal ?_
          refine wp_seq ?_
          refine wp_block ?_
          refine wp_seq ?_
          have hx0 : ∃ x, ops[i]? = some x := ⟨ops[i], List.getElem?_eq_getElem (by omega)⟩; obtain ⟨x, hx⟩ := hx0
          have hxo := hk x (List.mem_of_getElem? hx)
          refine wp_region_lit ?_
          refine st_val (.pointer (some (ad.add (i * 3)))) ha (by kernel_rfl) (run_indexAddr' (kd := .i64) (i := ((i : Nat) : Int)) (n := ops.length) (c := c) i rfl Tryz.underlying44 Tryz.sizeOf81 (by kernel_rfl) (by kernel_rfl) rfl (by first | assumption | omega) _) ?_
          clear ha; intro a ha
          refine st_val (.agg #[.string (str x.1), .string (str x.2.1), .bool x.2.2]) ha (by kernel_rfl) (run_loadAtN (i := i * 3) [.string (str x.1), .string (str x.2.1), .bool x.2.2] (hR _ s.sat.tail) rfl (by kernel_rfl) Tryz.isAgg81 Tryz.sizeOf81 (fun q_ hq_ => ops3_at hx hq_) rfl) ?_
          clear ha; intro a ha
          refine st_ex ha (by kernel_rfl) (ex_alloc [.string (str []), .string (str []), .bool false] s rfl (Tryz.zeroValue81 _) (by kernel_rfl)) ?_
          clear ha; rintro _ w a ⟨g2, rfl, s⟩ ha
          refine st_exd ha (by kernel_rfl) (ex_store (of_ := 0) 0 [.string (str x.1), .string (str x.2.1), .bool x.2.2] s rfl rfl (by kernel_rfl) (by kernel_rfl) (Tryz.sizeOf81 _) rfl (by simp [Value.oneCell']) (Nat.le_of_ble_eq_true rfl)) ?_
          clear ha; rintro w a s ha
          replace s : St W (.blk g2 [.string (str x.1), .string (str x.2.1), .bool x.2.2] 81 :: Tb gt (appl rows (ops.take i)) :: L) w := s
          refine wpList_nil ?_
          refine then_normal ?_
          refine wp_seq ?_
          refine wp_region_lit ?_
          refine st_val (.pointer (some ⟨g2, 2, none⟩)) ha (by kernel_rfl) (by kernel_rfl) ?_
          clear ha; intro a ha
          refine st_val (.bool x.2.2) ha (by kernel_rfl) (run_load1 (of_ := 2) (s.blkIs 0 rfl) rfl (by kernel_rfl) Tryz.isAgg4 rfl) ?_
          clear ha; intro a ha
          refine wpList_nil ?_
          refine then_normal ?_
          refine wp_part x.2.2 ha rfl (by kernel_rfl) (fun hb => ?_) (fun hb => ?_)
          · rw [hb] at ha; skip
            replace s := s.at_ (j := 1) rfl
            replace s : St W (Tb gt (appl rows (ops.take i)) :: .blk g2 [.string (str x.1), .string (str x.2.1), .bool x.2.2] 81 :: L) w := s
            obtain ⟨gl, gx, sd, hd, r, X, ok, hrw, hbd, s⟩ := tb_open s
            have hln : r.length < 1000000000 := by
              have h1 := appl_len rows (ops.take i)
              have h2 := congrArg List.length hrw
              rw [List.length_map] at h2
              rw [List.length_take] at h1
              omega
            refine wp_region_head 6 (fun w => BlkIs gt [.pointer (some ⟨gl, 0, none⟩), .func (.func 127) #[] #[.pointer (some ⟨gx, 0, none⟩)], .int .i64 sd] w ∧ BlkIs g2 [.string (str x.1), .string (str x.2.1), .bool x.2.2] w ∧ True) (by kernel_rfl) (by decide) ?_
            replace s := s.drew; generalize _root_.Go.World.drew _ = w at s ⊢
            have hS : (fun w => BlkIs gt [.pointer (some ⟨gl, 0, none⟩), .func (.func 127) #[] #[.pointer (some ⟨gx, 0, none⟩)], .int .i64 sd] w ∧ BlkIs g2 [.string (str x.1), .string (str x.2.1), .bool x.2.2] w ∧ True) w := ⟨s.blkIs 0 rfl, s.blkIs 4 rfl, trivial⟩
            refine hd_val (i := 0) (.pointer (some ⟨gt, 0, none⟩)) ha rfl (by kernel_rfl) (fun _ _ _ h => h) (by kernel_rfl) (fun w hS => (by kernel_rfl)) hS ?_
            clear ha; intro a ha
            refine hd_val (i := 1) (.pointer (some ⟨gt, 0, none⟩)) ha rfl (by kernel_rfl) (fun _ _ _ h => h) (by kernel_rfl) (fun w hS => (by kernel_rfl)) hS ?_
            clear ha; intro a ha
            refine hd_val (i := 2) (.pointer (some ⟨gt, 0, none⟩)) ha rfl (by kernel_rfl) (fun _ _ _ h => h) (by kernel_rfl) (fun w hS => (by kernel_rfl)) hS ?_
            clear ha; intro a ha
            refine hd_val (i := 3) (.pointer (some ⟨gl, 0, none⟩)) ha rfl (by kernel_rfl) (fun _ _ _ h => h) (by kernel_rfl) (fun w hS => run_load1 (of_ := 0) hS.1 rfl (by kernel_rfl) Tryz.isAgg114 rfl) hS ?_
            clear ha; intro a ha
            refine hd_val (i := 4) (.pointer (some ⟨g2, 0, none⟩)) ha rfl (by kernel_rfl) (fun _ _ _ h => h) (by kernel_rfl) (fun w hS => (by kernel_rfl)) hS ?_
            clear ha; intro a ha
            refine hd_val (i := 5) (.string (str x.1)) ha rfl (by kernel_rfl) (fun _ _ _ h => h) (by kernel_rfl) (fun w hS => run_load1 (of_ := 0) hS.2.1 rfl (by kernel_rfl) Tryz.isAgg9 rfl) hS ?_
            clear ha; intro a ha
            refine Head.done (by kernel_rfl) ?_
            clear hS; simp only [List.drop_succ_cons, List.drop_zero]
            replace s := (s.at_ (j := 3) rfl).at_ (j := 3) rfl
            replace s : St W (.blk gl [.pointer (some ⟨hd.g, 0, none⟩), .int .i64 ((r.length : Nat) : Int)] 220 :: SkF (hd :: r) (canon (hd :: r)) :: .blk gt [.pointer (some ⟨gl, 0, none⟩), .func (.func 127) #[] #[.pointer (some ⟨gx, 0, none⟩)], .int .i64 sd] 117 :: .blk gx [.int .u64 X] 224 :: .blk g2 [.string (str x.1), .string (str x.2.1), .bool x.2.2] 81 :: L) w := s
            refine st_call ha (by kernel_rfl) (by kernel_rfl) (Drop_spec W _ _ gl hd r x.1 hln ok s) ?_
            rintro _ w ⟨r2, rfl, ok2, hrw2, s⟩
            refine ⟨_, rfl, ?_⟩; clear ha; intro a ha
            refine wpList_nil ?_
            refine block_normal ?_
            refine then_normal ?_
            refine wp_region_lit ?_
            refine st_val (.int .i64 ((i + 1 : Nat) : Int)) ha (by kernel_rfl) (run_arith (((i : Nat) : Int) + (1 : Int)) ((i + 1 : Nat) : Int) rfl (by kernel_rfl) (by kernel_rfl) (.inl ⟨rfl, rfl⟩) (by rw [wrap64_in (by omega)]; try omega) _) ?_
            clear ha; intro a ha
            refine st_val (.int .i64 ((i + 1 : Nat) : Int)) ha (by kernel_rfl) (by kernel_rfl) ?_
            clear ha; intro a ha
            refine wpList_nil ?_
            refine then_normal ?_
            replace s := (((s.at_ (j := 1) rfl).at_ (j := 1) rfl).at_ (j := 3) rfl).at_ (j := 3) rfl
            replace s : St W (.blk gt [.pointer (some ⟨gl, 0, none⟩), .func (.func 127) #[] #[.pointer (some ⟨gx, 0, none⟩)], .int .i64 sd] 117 :: .blk gx [.int .u64 X] 224 :: .blk gl [.pointer (some ⟨hd.g, 0, none⟩), .int .i64 ((r2.length : Nat) : Int)] 220 :: SkF (hd :: r2) (canon (hd :: r2)) :: .blk g2 [.string (str x.1), .string (str x.2.1), .bool x.2.2] 81 :: L) w := s
            replace s := tb_close (rows := app1 (appl rows (ops.take i)) x) ok2 (by rw [hrw2, hrw]; unfold app1; rw [hb]; rfl) (app1_bd hbd hxo.2.2) s
            rw [← appl_snoc hx] at s
            replace s : St W (Tb gt (appl rows (ops.take (i + 1))) :: L) w := s.keep 1 1
            exact ⟨i + 1, by omega, (Has.cons ha (by kernel_rfl) (by kernel_rfl) (Has.cons ha (by kernel_rfl) (by kernel_rfl) (Has.cons ha (by kernel_rfl) (by kernel_rfl) (Has.cons ha (by kernel_rfl) (by kernel_rfl) (Has.nil ha))))), s, by omega⟩
          · rw [hb] at ha; skip
            replace s := s.at_ (j := 1) rfl
            replace s : St W (Tb gt (appl rows (ops.take i)) :: .blk g2 [.string (str x.1), .string (str x.2.1), .bool x.2.2] 81 :: L) w := s
            obtain ⟨gl, gx, sd, hd, r, X, ok, hrw, hbd, s⟩ := tb_open s
            have hln : r.length < 1000000000 := by
              have h1 := appl_len rows (ops.take i)
              have h2 := congrArg List.length hrw
              rw [List.length_map] at h2
              rw [List.length_take] at h1
              omega
            refine wp_region_head 13 (fun w => BlkIs gt [.pointer (some ⟨gl, 0, none⟩), .func (.func 127) #[] #[.pointer (some ⟨gx, 0, none⟩)], .int .i64 sd] w ∧ BlkIs g2 [.string (str x.1), .string (str x.2.1), .bool x.2.2] w ∧ True) (by kernel_rfl) (by decide) ?_
            replace s := s.drew; generalize _root_.Go.World.drew _ = w at s ⊢
            have hS : (fun w => BlkIs gt [.pointer (some ⟨gl, 0, none⟩), .func (.func 127) #[] #[.pointer (some ⟨gx, 0, none⟩)], .int .i64 sd] w ∧ BlkIs g2 [.string (str x.1), .string (str x.2.1), .bool x.2.2] w ∧ True) w := ⟨s.blkIs 0 rfl, s.blkIs 4 rfl, trivial⟩
            refine hd_val (i := 0) (.pointer (some ⟨gt, 0, none⟩)) ha rfl (by kernel_rfl) (fun _ _ _ h => h) (by kernel_rfl) (fun w hS => (by kernel_rfl)) hS ?_
            clear ha; intro a ha
            refine hd_val (i := 1) (.pointer (some ⟨gt, 0, none⟩)) ha rfl (by kernel_rfl) (fun _ _ _ h => h) (by kernel_rfl) (fun w hS => (by kernel_rfl)) hS ?_
            clear ha; intro a ha
            refine hd_val (i := 2) (.pointer (some ⟨gt, 0, none⟩)) ha rfl (by kernel_rfl) (fun _ _ _ h => h) (by kernel_rfl) (fun w hS => (by kernel_rfl)) hS ?_
            clear ha; intro a ha
            refine hd_val (i := 3) (.pointer (some ⟨gl, 0, none⟩)) ha rfl (by kernel_rfl) (fun _ _ _ h => h) (by kernel_rfl) (fun w hS => run_load1 (of_ := 0) hS.1 rfl (by kernel_rfl) Tryz.isAgg114 rfl) hS ?_
            clear ha; intro a ha
            refine hd_val (i := 4) (.pointer (some ⟨g2, 0, none⟩)) ha rfl (by kernel_rfl) (fun _ _ _ h => h) (by kernel_rfl) (fun w hS => (by kernel_rfl)) hS ?_
            clear ha; intro a ha
            refine hd_val (i := 5) (.string (str x.1)) ha rfl (by kernel_rfl) (fun _ _ _ h => h) (by kernel_rfl) (fun w hS => run_load1 (of_ := 0) hS.2.1 rfl (by kernel_rfl) Tryz.isAgg9 rfl) hS ?_
            clear ha; intro a ha
            refine hd_val (i := 6) (.pointer (some ⟨g2, 1, none⟩)) ha rfl (by kernel_rfl) (fun _ _ _ h => h) (by kernel_rfl) (fun w hS => (by kernel_rfl)) hS ?_
            clear ha; intro a ha
            refine hd_val (i := 7) (.string (str x.2.1)) ha rfl (by kernel_rfl) (fun _ _ _ h => h) (by kernel_rfl) (fun w hS => run_load1 (of_ := 1) hS.2.1 rfl (by kernel_rfl) Tryz.isAgg9 rfl) hS ?_
            clear ha; intro a ha
            refine hd_val (i := 8) (.pointer (some ⟨gt, 0, none⟩)) ha rfl (by kernel_rfl) (fun _ _ _ h => h) (by kernel_rfl) (fun w hS => (by kernel_rfl)) hS ?_
            clear ha; intro a ha
            refine hd_val (i := 9) (.pointer (some ⟨gt, 0, none⟩)) ha rfl (by kernel_rfl) (fun _ _ _ h => h) (by kernel_rfl) (fun w hS => (by kernel_rfl)) hS ?_
            clear ha; intro a ha
            refine hd_val (i := 10) (.pointer (some ⟨gt, 1, none⟩)) ha rfl (by kernel_rfl) (fun _ _ _ h => h) (by kernel_rfl) (fun w hS => (by kernel_rfl)) hS ?_
            clear ha; intro a ha
            refine hd_val (i := 11) (.func (.func 127) #[] #[.pointer (some ⟨gx, 0, none⟩)]) ha rfl (by kernel_rfl) (fun _ _ _ h => h) (by kernel_rfl) (fun w hS => run_load1 (of_ := 1) hS.1 rfl (by kernel_rfl) Tryz.isAgg115 rfl) hS ?_
            clear ha; intro a ha
            replace s := s.at_ (j := 1) rfl
            replace s : St W (.blk gx [.int .u64 X] 224 :: .blk gt [.pointer (some ⟨gl, 0, none⟩), .func (.func 127) #[] #[.pointer (some ⟨gx, 0, none⟩)], .int .i64 sd] 117 :: .blk gl [.pointer (some ⟨hd.g, 0, none⟩), .int .i64 ((r.length : Nat) : Int)] 220 :: SkF (hd :: r) (canon (hd :: r)) :: .blk g2 [.string (str x.1), .string (str x.2.1), .bool x.2.2] 81 :: L) w := s
            refine hd_call (i := 12) ha rfl (by kernel_rfl) (by kernel_rfl) (by kernel_rfl) (draw_spec W _ _ gx X s) ?_
            clear hS; rintro _ w ⟨nd, X2, rfl, hn1, hn16, s⟩
            have hS : (fun w => BlkIs gt [.pointer (some ⟨gl, 0, none⟩), .func (.func 127) #[] #[.pointer (some ⟨gx, 0, none⟩)], .int .i64 sd] w ∧ BlkIs g2 [.string (str x.1), .string (str x.2.1), .bool x.2.2] w ∧ True) w := ⟨s.blkIs 1 rfl, s.blkIs 4 rfl, trivial⟩
            refine ⟨_, rfl, hS, ?_⟩; clear ha; intro a ha
            refine Head.done (by kernel_rfl) ?_
            clear hS; simp only [List.drop_succ_cons, List.drop_zero]
            replace s := (s.at_ (j := 3) rfl).at_ (j := 3) rfl
            replace s : St W (.blk gl [.pointer (some ⟨hd.g, 0, none⟩), .int .i64 ((r.length : Nat) : Int)] 220 :: SkF (hd :: r) (canon (hd :: r)) :: .blk gx [.int .u64 X2] 224 :: .blk gt [.pointer (some ⟨gl, 0, none⟩), .func (.func 127) #[] #[.pointer (some ⟨gx, 0, none⟩)], .int .i64 sd] 117 :: .blk g2 [.string (str x.1), .string (str x.2.1), .bool x.2.2] 81 :: L) w := s
            refine st_call ha (by kernel_rfl) (by kernel_rfl) (Put_spec W _ _ gl hd r x.1 x.2.1 nd hn1 hn16 hln ok s) ?_
            rintro _ w ⟨r2, rfl, ok2, hrw2, s⟩
            refine ⟨_, rfl, ?_⟩; clear ha; intro a ha
            refine wpList_nil ?_
            refine block_normal ?_
            refine then_normal ?_
            refine wp_region_lit ?_
            refine st_val (.int .i64 ((i + 1 : Nat) : Int)) ha (by kernel_rfl) (run_arith (((i : Nat) : Int) + (1 : Int)) ((i + 1 : Nat) : Int) rfl (by kernel_rfl) (by kernel_rfl) (.inl ⟨rfl, rfl⟩) (by rw [wrap64_in (by omega)]; try omega) _) ?_
            clear ha; intro a ha
            refine st_val (.int .i64 ((i + 1 : Nat) : Int)) ha (by kernel_rfl) (by kernel_rfl) ?_
            clear ha; intro a ha
            refine wpList_nil ?_
            refine then_normal ?_
            replace s := (((s.at_ (j := 1) rfl).at_ (j := 1) rfl).at_ (j := 2) rfl).at_ (j := 3) rfl
            replace s : St W (.blk gt [.pointer (some ⟨gl, 0, none⟩), .func (.func 127) #[] #[.pointer (some ⟨gx, 0, none⟩)], .int .i64 sd] 117 :: .blk gx [.int .u64 X2] 224 :: .blk gl [.pointer (some ⟨hd.g, 0, none⟩), .int .i64 ((r2.length : Nat) : Int)] 220 :: SkF (hd :: r2) (canon (hd :: r2)) :: .blk g2 [.string (str x.1), .string (str x.2.1), .bool x.2.2] 81 :: L) w := s
            replace s := tb_close (rows := app1 (appl rows (ops.take i)) x) ok2 (by rw [hrw2, hrw]; unfold app1; rw [hb]; rfl) (app1_bd hbd hxo.2.2) s
            rw [← appl_snoc hx] at s
            replace s : St W (Tb gt (appl rows (ops.take (i + 1))) :: L) w := s.keep 1 1
            exact ⟨i + 1, by omega, (Has.cons ha (by kernel_rfl) (by kernel_rfl) (Has.cons ha (by kernel_rfl) (by kernel_rfl) (Has.cons ha (by kernel_rfl) (by kernel_rfl) (Has.cons ha (by kernel_rfl) (by kernel_rfl) (Has.nil ha))))), s, by omega⟩
        · rw [hb] at ha; replace hb : ¬ (((i : Nat) : Int) < ((ops.length : Nat) : Int)) := of_decide_eq_false hb
          refine wp_exit ?_
          refine then_exit ?_
          refine then_exit ?_
          refine block_hit ?_
          refine then_normal ?_
          refine wp_seq ?_
          refine wp_region_lit ?_
          refine st_val (.int .i64 0) ha (by kernel_rfl) (by kernel_rfl) ?_
          clear ha; intro a ha
          refine wpList_nil ?_
          refine then_normal ?_
          refine wp_ret ?_
          refine ret_with (v := .int .i64 0) ha (results_1 rfl ha (res_tmp (by kernel_rfl) (by kernel_rfl))) ?_
          refine ⟨rfl, ?_⟩
          have : i = ops.length := by omega
          subst this
          rw [List.take_length] at s
          exact s

end Go.Proofs.YtagbmfdheppmoaaGreatDoor.B
