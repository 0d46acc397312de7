import Derived.Test.YtjdkpebnaohonaaB0
namespace Go.Proofs.Ytjdkpebnaohonaa.B
open Go.RowKit Go.Maps Go.Proofs.Ytjdkpebnaohonaa.Sep Go.Proofs.Ytjdkpebnaohonaa.P
set_option linter.unusedVariables false
set_option linter.unusedSimpArgs false
/-- An edge that may be. -/
def okA (x : Arc) : Prop := isIdB x.1 = true ∧ isIdB x.2 = true ∧ x.1 ≠ x.2
theorem isIdB_iff {n : Int} : isIdB n = true ↔ 1 ≤ n ∧ n ≤ 9007199254740991 := by simp [isIdB]
/-- What Rings answers. -/
def RingsRes (E : List Arc) (e : Int) (R : List Int) : Prop := (1000 < E.length ∧ e = 5 ∧ R = []) ∨ (E.length ≤ 1000 ∧ (∃ x ∈ E, ¬ okA x) ∧ e = 2 ∧ R = []) ∨ (E.length ≤ 1000 ∧ (∀ x ∈ E, okA x) ∧ e = 0 ∧ RingsOf E R)
theorem Knows.grp {L : List Chunk} {j g : Nat} {es : List (Int × Row)} (h : L[j]? = some (Grp g es)) : Knows L (MapIs Try.prog 3 encI g (vals es)) := fun w s => Grp.mapIs (s.perm (perm_at h))
theorem Knows.row {L : List Chunk} {j g : Nat} {es : List (Int × Row)} (h : L[j]? = some (Grp g es)) {a : Int} {A : Option Addr} {c : Nat} {l : List Int} (hr : row0 es a = (A, c, l)) : Knows L fun w => Reads w 1 A l.length (ints l) := fun w s => by
  have := Grp.reads (s.perm (perm_at h)) a
  rw [hr] at this
  exact this
theorem lists_len (es : List (Int × Row)) : (vals es).length = (lists es).length := by simp [vals, lists]
theorem lists_keys (es : List (Int × Row)) : (vals es).map (·.1) = (lists es).map (·.1) := by simp [vals, lists]
theorem row_list {es : List (Int × Row)} {E : List Arc} (h : lists es = grp E) {a : Int} {A : Option Addr} {c : Nat} {l : List Int} (hr : row0 es a = (A, c, l)) : l = outs E a := by
  have := lists_get es a
  rw [h, grp_get, hr] at this
  exact this.symm
theorem keys_sorted (W : World) (hW : W.drawn = 0) (L : List Chunk) (w : World) (b g : Nat) (es : List (Int × Row)) (E : List Arc) (hE : lists es = grp E) (hb : Knows L (BlkIs b [.map (some g)])) (hg : Knows L (MapIs Try.prog 3 encI g (vals es))) (hn : E.length ≤ 1000) (s : St W L w) :
    Calls Try.prog 21 #[.func (.func 35) #[] #[.pointer (some ⟨b, 0, none⟩)]] w fun e w' => ∃ A c, e = .returned (.slice A (keysOf E).length c) ∧ St W (Own 3 1 A (keysOf E).length c (ints (keysOf E)) :: L) w' := by
  have hl : (vals es).length = (keysOf E).length := by rw [lists_len, hE, keysOf, List.length_mergeSort, List.length_map]
  have hk : ((vals es).map (·.1)).mergeSort leI = keysOf E := by rw [lists_keys, hE]; rfl
  have := sorted_ok W hW L w b g (vals es) hb hg (by have := grp_len E; rw [lists_len, hE]; omega) s
  rw [hl, hk] at this
  exact this
theorem snoc_of {T : List Int} (h : 0 < T.length) : ∃ T' x, T = T' ++ [x] := by
  refine ⟨T.dropLast, T.getLast (List.length_pos_iff.1 h), ?_⟩
  rw [List.dropLast_concat_getLast]
theorem way_id {E : List Arc} (h : ∀ x ∈ E, okA x) {a b : Int} (hw : P.Way E a b) : 1 ≤ b ∧ b ≤ 9007199254740991 := by
  obtain ⟨c, hc⟩ := hw.last
  exact isIdB_iff.1 (h _ hc).2.1
theorem key_id {E : List Arc} (h : ∀ x ∈ E, okA x) {j : Nat} {a : Int} (hw : (keysOf E)[j]? = some a) : 1 ≤ a ∧ a ≤ 9007199254740991 := by
  obtain ⟨b, hb⟩ := mem_keysOf.1 (List.mem_of_getElem? hw)
  exact isIdB_iff.1 (h _ hb).1

set_option maxHeartbeats 1000000 in
theorem rings_any (W : World) (hW : W.drawn = 0) (L : List Chunk) (w : World) (A : Option Addr) (n c : Nat) (E : List Arc) (hr : Knows L fun w => Reads w 2 A n (egs E)) (hl : E.length = n) (hn : n ≤ 140737488351232) (s : St W L w) :
    Calls Try.prog 10 #[.slice A n c] w fun e w' => ∃ A' c' R er, e = .returned (.tuple #[.slice A' R.length c', .int .i64 er]) ∧ RingsRes E er R ∧ St W (Own 3 1 A' R.length c' (ints R) :: L) w' := by
  refine enter_args (l := [.slice A n c]) Try.func10 rfl rfl (Nat.le_of_ble_eq_true rfl) ?_
  intro a ha; replace ha : Has a 99 [(0, .slice A n c)] := ha
  refine wp_seq ?_
  refine wp_region_lit ?_
  refine st_val (.slice none 0 0) ha (by kernel_rfl) (by kernel_rfl) ?_
  clear ha; intro a ha
  refine st_val (.int .i64 0) ha (by kernel_rfl) (by kernel_rfl) ?_
  clear ha; intro a ha
  refine wpList_nil ?_
  refine then_normal ?_
  refine wp_scope_straight ?_
  refine wp_seq ?_
  refine wp_seq ?_
  refine wp_region_lit ?_
  refine st_val (.slice A n c) ha (by kernel_rfl) (by kernel_rfl) ?_
  clear ha; intro a ha
  refine st_val (.int .i64 ((n : Nat) : Int)) ha (by kernel_rfl) (by kernel_rfl) ?_
  clear ha; intro a ha
  refine st_val (.bool (decide (((n : Nat) : Int) > (1000 : Int)))) ha (by kernel_rfl) (by kernel_rfl) ?_
  clear ha; intro a ha
  refine wpList_nil ?_
  refine then_normal ?_
  refine wp_part (decide (((n : Nat) : Int) > (1000 : Int))) ha rfl (by kernel_rfl) (fun hb => ?_) (fun hb => ?_)
  · rw [hb] at ha; replace hb : (((n : Nat) : Int) > (1000 : Int)) := of_decide_eq_true hb
    refine wp_seq ?_
    refine wp_region_lit ?_
    refine st_val (.slice none 0 0) ha (by kernel_rfl) (by kernel_rfl) ?_
    clear ha; intro a ha
    refine st_val (.int .i64 5) ha (by kernel_rfl) (by kernel_rfl) ?_
    clear ha; intro a ha
    refine wpList_nil ?_
    refine then_normal ?_
    refine wp_ret ?_
    refine then_ret ?_
    refine scope_ret ?_
    refine ret_with (v := .tuple #[.slice none 0 0, .int .i64 5]) ha (results_2 rfl ha (res_tmp (by kernel_rfl) (by kernel_rfl)) (res_tmp (by kernel_rfl) (by kernel_rfl))) ?_
    exact ⟨none, 0, [], 5, rfl, .inl ⟨by omega, rfl, rfl⟩, Own.none_ none s⟩
  · rw [hb] at ha; replace hb : ¬ (((n : Nat) : Int) > (1000 : Int)) := of_decide_eq_false hb
    refine wp_skip ?_
    refine then_normal ?_
    refine wp_seq ?_
    refine wp_region_lit ?_
    refine st_ex ha (by kernel_rfl) (ex_makeMap Try.prog 3 encI s rfl) ?_
    clear ha; rintro _ w a ⟨g1, rfl, s⟩ ha
    replace s : St W (MapT Try.prog 3 encI g1 [] :: L) w := s
    refine st_val (.map (some g1)) ha (by kernel_rfl) (by kernel_rfl) ?_
    clear ha; intro a ha
    refine wpList_nil ?_
    refine then_normal ?_
    refine wp_seq ?_
    refine wp_seq ?_
    refine wp_region_lit ?_
    refine st_val (.slice A n c) ha (by kernel_rfl) (by kernel_rfl) ?_
    clear ha; intro a ha
    refine st_val (.int .i64 ((n : Nat) : Int)) ha (by kernel_rfl) (by kernel_rfl) ?_
    clear ha; intro a ha
    refine st_val (.int .i64 0) ha (by kernel_rfl) (by kernel_rfl) ?_
    clear ha; intro a ha
    refine wpList_nil ?_
    refine then_normal ?_
    refine wp_block ?_
    replace s := Grp.new s
    refine wp_loopG (G := (Nat × List (Int × Row))) (fun ⟨i, es⟩ a w => Has a 99 [(0, .slice A n c), (4, .map (some g1)), (17, .slice A n c), (18, .int .i64 ((n : Nat) : Int)), (19, .int .i64 ((i : Nat) : Int))] ∧ St W (Grp g1 es :: L) w ∧ (i ≤ n ∧ lists es = grp (E.take i) ∧ ∀ x ∈ E.take i, okA x)) (fun ⟨i, es⟩ => n - i) (0, []) ?_ ?_
    · exact ⟨(Has.cons ha (by kernel_rfl) (by kernel_rfl) (Has.cons ha (by kernel_rfl) (by kernel_rfl) (Has.cons ha (by kernel_rfl) (by kernel_rfl) (Has.cons ha (by kernel_rfl) (by kernel_rfl) (Has.cons ha (by kernel_rfl) (by kernel_rfl) (Has.nil ha)))))), s, ⟨Nat.zero_le _, rfl, by simp⟩⟩
    · clear ha s; rintro ⟨i, es⟩ a w ⟨ha, s, hp⟩
      refine wp_seq ?_
      refine wp_region_lit ?_
      refine st_val (.bool (decide (((i : Nat) : Int) < ((n : Nat) : Int)))) ha (by kernel_rfl) (by kernel_rfl) ?_
      clear ha; intro a ha
      refine wpList_nil ?_
      refine then_normal ?_
      refine wp_seq ?_
      refine wp_part (decide (((i : Nat) : Int) < ((n : Nat) : Int))) ha rfl (by kernel_rfl) (fun hb => ?_) (fun hb => ?_)
      · rw [hb] at ha; replace hb : (((i : Nat) : Int) < ((n : Nat) : Int)) := of_decide_eq_true hb
        obtain ⟨x, hx⟩ : ∃ x, E[i]? = some x := ⟨_, List.getElem?_eq_getElem (by omega)⟩
        obtain ⟨ada, hA⟩ := Reads.addr (hr _ s.sat.tail) (by omega)
        subst hA
        refine wp_skip ?_
        refine then_normal ?_
        refine wp_seq ?_
        refine wp_block ?_
        refine wp_seq ?_
        refine wp_region_lit ?_
        refine st_val (.pointer (some (ada.add (i * 2)))) ha (by kernel_rfl) (run_indexAddr' (kd := .i64) (i := ((i : Nat) : Int)) (n := n) (c := c) i rfl Try.underlying22 Try.sizeOf37 (by kernel_rfl) (by kernel_rfl) rfl (by first | assumption | omega) _) ?_
        clear ha; intro a ha
        refine st_val (.agg #[.int .i64 x.1, .int .i64 x.2]) ha (by kernel_rfl) (run_loadAtN (i := i * 2) [.int .i64 x.1, .int .i64 x.2] ((hr _ s.sat.tail)) rfl (by kernel_rfl) Try.isAgg37 Try.sizeOf37 (fun j hj => egs_at hx hj) rfl) ?_
        clear ha; intro a ha
        refine st_ex ha (by kernel_rfl) (ex_alloc [.int .i64 0, .int .i64 0] s rfl (Try.zeroValue37 _) (by kernel_rfl)) ?_
        clear ha; rintro _ w a ⟨g2, rfl, s⟩ ha
        replace s : St W (.blk g2 [.int .i64 0, .int .i64 0] 37 :: Grp g1 es :: L) w := s
        refine st_exd ha (by kernel_rfl) (ex_store (of_ := 0) 0 [.int .i64 x.1, .int .i64 x.2] s rfl rfl (by kernel_rfl) (by kernel_rfl) (Try.sizeOf37 _) rfl (by simp [Value.oneCell']) (Nat.le_of_ble_eq_true rfl)) ?_
        clear ha; rintro w a s ha
        replace s : St W (.blk g2 [.int .i64 x.1, .int .i64 x.2] 37 :: Grp g1 es :: L) w := s
        refine wpList_nil ?_
        refine then_normal ?_
        refine wp_seq ?_
        refine wp_seq ?_
        refine wp_region_lit ?_
        refine st_val (.pointer (some ⟨g2, 0, none⟩)) ha (by kernel_rfl) (by kernel_rfl) ?_
        clear ha; intro a ha
        refine st_val (.int .i64 x.1) ha (by kernel_rfl) (run_load1 (of_ := 0) (s.blkIs 0 rfl) rfl (by kernel_rfl) Try.isAgg3 rfl) ?_
        clear ha; intro a ha
        refine st_call ha (by kernel_rfl) (by kernel_rfl) (isId_any W _ w x.1 s) ?_
        rintro _ w ⟨rfl, s⟩
        replace s : St W (.blk g2 [.int .i64 x.1, .int .i64 x.2] 37 :: Grp g1 es :: L) w := s
        refine ⟨_, rfl, ?_⟩; clear ha; intro a ha
        refine st_val (.bool (!(isIdB x.1))) ha (by kernel_rfl) (by kernel_rfl) ?_
        clear ha; intro a ha
        refine st_val (.bool (!(isIdB x.1))) ha (by kernel_rfl) (by kernel_rfl) ?_
        clear ha; intro a ha
        rcases Bool.eq_false_or_eq_true (!(isIdB x.1)) with hb | hb
        · rw [hb] at ha; skip
          refine st_pass ha (by kernel_rfl) ?_
          clear ha; intro a ha
          refine st_pass ha (by kernel_rfl) ?_
          clear ha; intro a ha
          refine st_pass ha (by kernel_rfl) ?_
          clear ha; intro a ha
          refine st_pass ha (by kernel_rfl) ?_
          clear ha; intro a ha
          refine st_val (.bool true) ha (by kernel_rfl) (by kernel_rfl) ?_
          clear ha; intro a ha
          refine st_val (.bool true) ha (by kernel_rfl) (by kernel_rfl) ?_
          clear ha; intro a ha
          refine st_pass ha (by kernel_rfl) ?_
          clear ha; intro a ha
          refine st_pass ha (by kernel_rfl) ?_
          clear ha; intro a ha
          refine st_pass ha (by kernel_rfl) ?_
          clear ha; intro a ha
          refine st_pass ha (by kernel_rfl) ?_
          clear ha; intro a ha
          refine st_pass ha (by kernel_rfl) ?_
          clear ha; intro a ha
          refine st_val (.bool true) ha (by kernel_rfl) (by kernel_rfl) ?_
          clear ha; intro a ha
          refine wpList_nil ?_
          refine then_normal ?_
          refine wp_true ha rfl (by kernel_rfl) ?_
          refine wp_seq ?_
          refine wp_region_lit ?_
          refine st_val (.slice none 0 0) ha (by kernel_rfl) (by kernel_rfl) ?_
          clear ha; intro a ha
          refine st_val (.int .i64 2) ha (by kernel_rfl) (by kernel_rfl) ?_
          clear ha; intro a ha
          refine wpList_nil ?_
          refine then_normal ?_
          refine wp_ret ?_
          refine then_ret ?_
          refine block_ret ?_
          refine then_ret ?_
          refine then_ret ?_
          refine block_ret ?_
          refine then_ret ?_
          refine scope_ret ?_
          refine ret_with (v := .tuple #[.slice none 0 0, .int .i64 2]) ha (results_2 rfl ha (res_tmp (by kernel_rfl) (by kernel_rfl)) (res_tmp (by kernel_rfl) (by kernel_rfl))) ?_
          replace s := s.tail.tail
          replace s : St W (L) w := s
          exact ⟨none, 0, [], 2, rfl, .inr (.inl ⟨by omega, ⟨x, List.mem_of_getElem? hx, fun hc => by obtain ⟨q1, q2, q3⟩ := hc; simp_all⟩, rfl, rfl⟩), Own.none_ none s⟩
        · rw [hb] at ha; skip
          have h1 := hb
          refine st_val (.pointer (some ⟨g2, 1, none⟩)) ha (by kernel_rfl) (by kernel_rfl) ?_
          clear ha; intro a ha
          refine st_val (.int .i64 x.2) ha (by kernel_rfl) (run_load1 (of_ := 1) (s.blkIs 0 rfl) rfl (by kernel_rfl) Try.isAgg3 rfl) ?_
          clear ha; intro a ha
          refine st_call ha (by kernel_rfl) (by kernel_rfl) (isId_any W _ w x.2 s) ?_
          rintro _ w ⟨rfl, s⟩
          replace s : St W (.blk g2 [.int .i64 x.1, .int .i64 x.2] 37 :: Grp g1 es :: L) w := s
          refine ⟨_, rfl, ?_⟩; clear ha; intro a ha
          refine st_val (.bool (!(isIdB x.2))) ha (by kernel_rfl) (by kernel_rfl) ?_
          clear ha; intro a ha
          refine st_val (.bool (!(isIdB x.2))) ha (by kernel_rfl) (by kernel_rfl) ?_
          clear ha; intro a ha
          refine st_val (.bool (!(isIdB x.2))) ha (by kernel_rfl) (by kernel_rfl) ?_
          clear ha; intro a ha
          rcases Bool.eq_false_or_eq_true (!(isIdB x.2)) with hb | hb
          · rw [hb] at ha; skip
            refine st_pass ha (by kernel_rfl) ?_
            clear ha; intro a ha
            refine st_pass ha (by kernel_rfl) ?_
            clear ha; intro a ha
            refine st_pass ha (by kernel_rfl) ?_
            clear ha; intro a ha
            refine st_pass ha (by kernel_rfl) ?_
            clear ha; intro a ha
            refine st_pass ha (by kernel_rfl) ?_
            clear ha; intro a ha
            refine st_val (.bool true) ha (by kernel_rfl) (by kernel_rfl) ?_
            clear ha; intro a ha
            refine wpList_nil ?_
            refine then_normal ?_
            refine wp_true ha rfl (by kernel_rfl) ?_
            refine wp_seq ?_
            refine wp_region_lit ?_
            refine st_val (.slice none 0 0) ha (by kernel_rfl) (by kernel_rfl) ?_
            clear ha; intro a ha
            refine st_val (.int .i64 2) ha (by kernel_rfl) (by kernel_rfl) ?_
            clear ha; intro a ha
            refine wpList_nil ?_
            refine then_normal ?_
            refine wp_ret ?_
            refine then_ret ?_
            refine block_ret ?_
            refine then_ret ?_
            refine then_ret ?_
            refine block_ret ?_
            refine then_ret ?_
            refine scope_ret ?_
            refine ret_with (v := .tuple #[.slice none 0 0, .int .i64 2]) ha (results_2 rfl ha (res_tmp (by kernel_rfl) (by kernel_rfl)) (res_tmp (by kernel_rfl) (by kernel_rfl))) ?_
            replace s := s.tail.tail
            replace s : St W (L) w := s
            exact ⟨none, 0, [], 2, rfl, .inr (.inl ⟨by omega, ⟨x, List.mem_of_getElem? hx, fun hc => by obtain ⟨q1, q2, q3⟩ := hc; simp_all⟩, rfl, rfl⟩), Own.none_ none s⟩
          · rw [hb] at ha; skip
            have h2 := hb
            refine st_val (.pointer (some ⟨g2, 0, none⟩)) ha (by kernel_rfl) (by kernel_rfl) ?_
            clear ha; intro a ha
            refine st_val (.int .i64 x.1) ha (by kernel_rfl) (run_load1 (of_ := 0) (s.blkIs 0 rfl) rfl (by kernel_rfl) Try.isAgg3 rfl) ?_
            clear ha; intro a ha
            refine st_val (.pointer (some ⟨g2, 1, none⟩)) ha (by kernel_rfl) (by kernel_rfl) ?_
            clear ha; intro a ha
            refine st_val (.int .i64 x.2) ha (by kernel_rfl) (run_load1 (of_ := 1) (s.blkIs 0 rfl) rfl (by kernel_rfl) Try.isAgg3 rfl) ?_
            clear ha; intro a ha
            refine st_val (.bool (x.1 == x.2)) ha (by kernel_rfl) (by kernel_rfl) ?_
            clear ha; intro a ha
            refine st_val (.bool (x.1 == x.2)) ha (by kernel_rfl) (by kernel_rfl) ?_
            clear ha; intro a ha
            refine wpList_nil ?_
            refine then_normal ?_
            refine wp_part (x.1 == x.2) ha rfl (by kernel_rfl) (fun hb => ?_) (fun hb => ?_)
            · rw [hb] at ha; have hb_ := hb; replace hb := eq_of_beq hb
              refine wp_seq ?_
              refine wp_region_lit ?_
              refine st_val (.slice none 0 0) ha (by kernel_rfl) (by kernel_rfl) ?_
              clear ha; intro a ha
              refine st_val (.int .i64 2) ha (by kernel_rfl) (by kernel_rfl) ?_
              clear ha; intro a ha
              refine wpList_nil ?_
              refine then_normal ?_
              refine wp_ret ?_
              refine then_ret ?_
              refine block_ret ?_
              refine then_ret ?_
              refine then_ret ?_
              refine block_ret ?_
              refine then_ret ?_
              refine scope_ret ?_
              refine ret_with (v := .tuple #[.slice none 0 0, .int .i64 2]) ha (results_2 rfl ha (res_tmp (by kernel_rfl) (by kernel_rfl)) (res_tmp (by kernel_rfl) (by kernel_rfl))) ?_
              replace s := s.tail.tail
              replace s : St W (L) w := s
              exact ⟨none, 0, [], 2, rfl, .inr (.inl ⟨by omega, ⟨x, List.mem_of_getElem? hx, fun hc => by obtain ⟨q1, q2, q3⟩ := hc; simp_all⟩, rfl, rfl⟩), Own.none_ none s⟩
            · rw [hb] at ha; have hb_ := hb; replace hb := ne_of_beq_false hb
              replace s := s.at_ (j := 1) rfl
              replace s : St W (Grp g1 es :: .blk g2 [.int .i64 x.1, .int .i64 x.2] 37 :: L) w := s
              have hok : okA x := ⟨by simpa using h1, by simpa using h2, hb⟩
              have b1 := isIdB_iff.1 hok.1
              have b2 := isIdB_iff.1 hok.2.1
              have hnd := Grp.nodup s.1
              have hlv : (vals es).length ≤ 1000 := by rw [lists_len, hp.2.1]; have := grp_len (E.take i); have := List.length_take_le i E; omega
              have hll : (row0 es x.1).2.2.length ≤ 1000 := by rw [← lists_get, hp.2.1, grp_get]; have := outs_take_le (E.take i) x.1; have := List.length_take_le i E; omega
              replace s := Grp.open_ x.1 s
              obtain ⟨rA, rc, rl, hrow⟩ : ∃ rA rc rl, row0 es x.1 = (rA, rc, rl) := ⟨_, _, _, rfl⟩
              rw [show rowC (row0 es x.1) = Own 3 1 rA rl.length rc (ints rl) from by rw [hrow]; rfl] at s
              rw [hrow] at hll; replace hll : rl.length ≤ 1000 := hll
              replace s : St W (Own 3 1 rA rl.length rc (ints rl) :: MapT Try.prog 3 encI g1 (vals es) :: Rest es x.1 :: .blk g2 [.int .i64 x.1, .int .i64 x.2] 37 :: L) w := s
              refine wp_skip ?_
              refine then_normal ?_
              refine wp_region_head 11 (fun w => BlkIs g2 [.int .i64 x.1, .int .i64 x.2] w ∧ MapIs Try.prog 3 encI g1 (vals es) w ∧ True) (by kernel_rfl) (by decide) ?_
              replace s := s.drew; generalize _root_.Go.World.drew _ = w at s ⊢
              have hS : (fun w => BlkIs g2 [.int .i64 x.1, .int .i64 x.2] w ∧ MapIs Try.prog 3 encI g1 (vals es) w ∧ True) w := ⟨s.blkIs 3 rfl, s.mapIs 1 rfl, trivial⟩
              refine hd_val (i := 0) (.map (some g1)) ha rfl (by kernel_rfl) (fun _ _ _ h => h) (by kernel_rfl) (fun w hS => (by kernel_rfl)) hS ?_
              clear ha; intro a ha
              refine hd_val (i := 1) (.pointer (some ⟨g2, 0, none⟩)) ha rfl (by kernel_rfl) (fun _ _ _ h => h) (by kernel_rfl) (fun w hS => (by kernel_rfl)) hS ?_
              clear ha; intro a ha
              refine hd_val (i := 2) (.int .i64 x.1) ha rfl (by kernel_rfl) (fun _ _ _ h => h) (by kernel_rfl) (fun w hS => run_load1 (of_ := 0) hS.1 rfl (by kernel_rfl) Try.isAgg3 rfl) hS ?_
              clear ha; intro a ha
              refine hd_val (i := 3) (.map (some g1)) ha rfl (by kernel_rfl) (fun _ _ _ h => h) (by kernel_rfl) (fun w hS => (by kernel_rfl)) hS ?_
              clear ha; intro a ha
              refine hd_val (i := 4) (.pointer (some ⟨g2, 0, none⟩)) ha rfl (by kernel_rfl) (fun _ _ _ h => h) (by kernel_rfl) (fun w hS => (by kernel_rfl)) hS ?_
              clear ha; intro a ha
              refine hd_val (i := 5) (.int .i64 x.1) ha rfl (by kernel_rfl) (fun _ _ _ h => h) (by kernel_rfl) (fun w hS => run_load1 (of_ := 0) hS.1 rfl (by kernel_rfl) Try.isAgg3 rfl) hS ?_
              clear ha; intro a ha
              refine hd_val (i := 7) (.pointer (some ⟨g2, 1, none⟩)) ha rfl (by kernel_rfl) (fun _ _ _ h => h) (by kernel_rfl) (fun w hS => (by kernel_rfl)) hS ?_
              clear ha; intro a ha
              refine hd_val (i := 8) (.int .i64 x.2) ha rfl (by kernel_rfl) (fun _ _ _ h => h) (by kernel_rfl) (fun w hS => run_load1 (of_ := 1) hS.1 rfl (by kernel_rfl) Try.isAgg3 rfl) hS ?_
              clear ha; intro a ha
              refine hd_val (i := 6) (.slice rA rl.length rc) ha rfl (by kernel_rfl) (fun _ _ _ h => h) (by kernel_rfl) (fun w hS => run_lookup (a := x.1) (.slice rA rl.length rc) hS.2.1 rfl (by kernel_rfl) (by kernel_rfl) encI_inj keyed3 Try.underlying49 Try.zeroValue25 (key3 ⟨by omega, by omega⟩) (by rw [vals_get, hrow]; rfl)) hS ?_
              clear ha; intro a ha
              refine hd_ex (i := 9) ha rfl (by kernel_rfl) (by kernel_rfl) (ex_buildSlice elt25 _ zs25 [.int .i64 x.2] s rfl (by kernel_rfl) (by decide)) ?_
              clear hS; rintro _ w ⟨g3, rfl, s⟩
              replace s : St W (.blk g3 [.int .i64 x.2] 3 :: Own 3 1 rA rl.length rc (ints rl) :: MapT Try.prog 3 encI g1 (vals es) :: Rest es x.1 :: .blk g2 [.int .i64 x.1, .int .i64 x.2] 37 :: L) w := s
              have hS : (fun w => BlkIs g2 [.int .i64 x.1, .int .i64 x.2] w ∧ MapIs Try.prog 3 encI g1 (vals es) w ∧ True) w := ⟨s.blkIs 4 rfl, s.mapIs 2 rfl, trivial⟩
              refine ⟨hS, ?_⟩; clear ha; intro a ha
              refine hd_ex (i := 10) ha rfl (by kernel_rfl) (by kernel_rfl) (ex_append (m := 1) (d' := 1) elt25 (by decide) 1 [.int .i64 x.2] s rfl (by kernel_rfl) (by kernel_rfl) rfl (reads_blk (s.blkIs 0 rfl) rfl) (by simp [Value.oneCell']) (by simp only [maxLen]; omega) (by omega)) ?_
              clear hS; rintro _ w ⟨A4, c5, rfl, hA_, s⟩
              replace s : St W (.blk g3 [.int .i64 x.2] 3 :: Own 3 1 A4 (rl.length + 1) c5 ((ints rl) ++ [.int .i64 x.2]) :: MapT Try.prog 3 encI g1 (vals es) :: Rest es x.1 :: .blk g2 [.int .i64 x.1, .int .i64 x.2] 37 :: L) w := s
              have hS : (fun w => BlkIs g2 [.int .i64 x.1, .int .i64 x.2] w ∧ MapIs Try.prog 3 encI g1 (vals es) w ∧ True) w := ⟨s.blkIs 4 rfl, s.mapIs 2 rfl, trivial⟩
              refine ⟨hS, ?_⟩; clear ha; intro a ha
              refine Head.done (by kernel_rfl) ?_
              clear hS; simp only [List.drop_succ_cons, List.drop_zero]
              refine st_exd ha (by kernel_rfl) (ex_mapUpdate (a := x.1) 2 (.slice A4 (rl.length + 1) c5) s rfl rfl (by kernel_rfl) (by kernel_rfl) (by kernel_rfl) encI_inj keyed3 Try.underlying49 (key3 ⟨by omega, by omega⟩) (by simp only [maxLen]; omega)) ?_
              clear ha; rintro w a s ha
              replace s : St W (.blk g3 [.int .i64 x.2] 3 :: Own 3 1 A4 (rl.length + 1) c5 ((ints rl) ++ [.int .i64 x.2]) :: MapT Try.prog 3 encI g1 (mput (vals es) x.1 (.slice A4 (rl.length + 1) c5)) :: Rest es x.1 :: .blk g2 [.int .i64 x.1, .int .i64 x.2] 37 :: L) w := s
              refine wpList_nil ?_
              refine block_normal ?_
              refine then_normal ?_
              refine wp_region_lit ?_
              refine st_val (.int .i64 ((i + 1 : Nat) : Int)) ha (by kernel_rfl) (run_arith (((i : Nat) : Int) + (1 : Int)) ((i + 1 : Nat) : Int) rfl (by kernel_rfl) (by kernel_rfl) (.inl ⟨rfl, rfl⟩) (by rw [wrap64_in (by omega)]; try omega) _) ?_
              clear ha; intro a ha
              refine st_val (.int .i64 ((i + 1 : Nat) : Int)) ha (by kernel_rfl) (by kernel_rfl) ?_
              clear ha; intro a ha
              refine wpList_nil ?_
              refine then_normal ?_
              replace s := s.at_ (j := 3) rfl
              replace s : St W (Rest es x.1 :: .blk g3 [.int .i64 x.2] 3 :: Own 3 1 A4 (rl.length + 1) c5 ((ints rl) ++ [.int .i64 x.2]) :: MapT Try.prog 3 encI g1 (mput (vals es) x.1 (.slice A4 (rl.length + 1) c5)) :: .blk g2 [.int .i64 x.1, .int .i64 x.2] 37 :: L) w := s
              replace s := s.at_ (j := 3) rfl
              replace s : St W (MapT Try.prog 3 encI g1 (mput (vals es) x.1 (.slice A4 (rl.length + 1) c5)) :: Rest es x.1 :: .blk g3 [.int .i64 x.2] 3 :: Own 3 1 A4 (rl.length + 1) c5 ((ints rl) ++ [.int .i64 x.2]) :: .blk g2 [.int .i64 x.1, .int .i64 x.2] 37 :: L) w := s
              replace s := s.at_ (j := 3) rfl
              replace s : St W (Own 3 1 A4 (rl.length + 1) c5 ((ints rl) ++ [.int .i64 x.2]) :: MapT Try.prog 3 encI g1 (mput (vals es) x.1 (.slice A4 (rl.length + 1) c5)) :: Rest es x.1 :: .blk g3 [.int .i64 x.2] 3 :: .blk g2 [.int .i64 x.1, .int .i64 x.2] 37 :: L) w := s
              replace s : St W (Own 3 1 A4 (rl.length + 1) c5 ((ints rl) ++ [.int .i64 x.2]) :: MapT Try.prog 3 encI g1 (mput (vals es) x.1 (.slice A4 (rl.length + 1) c5)) :: Rest es x.1 :: L) w := St.mid (A := [Own 3 1 A4 (rl.length + 1) c5 ((ints rl) ++ [.int .i64 x.2]), MapT Try.prog 3 encI g1 (mput (vals es) x.1 (.slice A4 (rl.length + 1) c5)), Rest es x.1]) (B := [.blk g3 [.int .i64 x.2] 3, .blk g2 [.int .i64 x.1, .int .i64 x.2] 37]) s
              replace s := Grp.close hnd (A4, c5, rl ++ [x.2]) (by have h5 : (rl ++ [x.2]).length = rl.length + 1 := (by simp); simp only [rowC, rv, h5, ints, List.map_append]; exact s)
              exact ⟨(i + 1, mput es x.1 (A4, c5, rl ++ [x.2])), (show n - (i + 1) < n - i by omega), (Has.cons ha (by kernel_rfl) (by kernel_rfl) (Has.cons ha (by kernel_rfl) (by kernel_rfl) (Has.cons ha (by kernel_rfl) (by kernel_rfl) (Has.cons ha (by kernel_rfl) (by kernel_rfl) (Has.cons ha (by kernel_rfl) (by kernel_rfl) (Has.nil ha)))))), s, (show i + 1 ≤ n by omega), by rw [lists_put, grp_snoc hx, put1, ← hp.2.1, lists_get, hrow], fun y hy => by
                obtain ⟨hi, rfl⟩ := List.getElem?_eq_some_iff.1 hx
                rw [List.take_succ_eq_append_getElem hi] at hy
                rcases List.mem_append.1 hy with hy | hy
                · exact hp.2.2 y hy
                · have : y = E[i] := by simpa using hy
                  subst this; exact hok⟩
      · rw [hb] at ha; replace hb : ¬ (((i : Nat) : Int) < ((n : Nat) : Int)) := of_decide_eq_false hb
        have hi : i = n := by omega
        have hE : lists es = grp E := by rw [hp.2.1, List.take_of_length_le (by omega)]
        have hall : ∀ x ∈ E, okA x := fun x hx => hp.2.2 x (by rw [List.take_of_length_le (by omega)]; exact hx)
        refine wp_exit ?_
        refine then_exit ?_
        refine then_exit ?_
        refine block_hit ?_
        refine then_normal ?_
        refine wp_seq ?_
        refine wp_region_lit ?_
        refine st_val (.slice none 0 0) ha (by kernel_rfl) (by kernel_rfl) ?_
        clear ha; intro a ha
        refine wpList_nil ?_
        refine then_normal ?_
        refine wp_seq ?_
        refine wp_label ?_
        refine then_normal ?_
        refine wp_seq ?_
        refine wp_seq ?_
        refine wp_region_lit ?_
        refine st_val (.map (some g1)) ha (by kernel_rfl) (by kernel_rfl) ?_
        clear ha; intro a ha
        refine st_call ha (by kernel_rfl) (by kernel_rfl) (keys_any W _ w g1 s) ?_
        rintro _ w ⟨b6, rfl, s⟩
        replace s : St W (.blk b6 [.map (some g1)] 49 :: Grp g1 es :: L) w := s
        refine ⟨_, rfl, ?_⟩; clear ha; intro a ha
        refine st_call ha (by kernel_rfl) (by kernel_rfl) (keys_sorted W hW _ w b6 g1 es E hE (Knows.cells (j := 0) rfl) (Knows.grp (j := 1) rfl) (by omega) s) ?_
        rintro _ w ⟨A7, c8, rfl, s⟩
        replace s : St W (Own 3 1 A7 ((keysOf E).length) c8 (ints (keysOf E)) :: .blk b6 [.map (some g1)] 49 :: Grp g1 es :: L) w := s
        refine ⟨_, rfl, ?_⟩; clear ha; intro a ha
        refine st_val (.int .i64 (((keysOf E).length : Nat) : Int)) ha (by kernel_rfl) (by kernel_rfl) ?_
        clear ha; intro a ha
        refine st_val (.int .i64 0) ha (by kernel_rfl) (by kernel_rfl) ?_
        clear ha; intro a ha
        refine wpList_nil ?_
        refine then_normal ?_
        refine wp_block ?_
        have hkl := keysOf_len E
        replace s := Own.none_ (e := 3) (k := 1) none s
        replace s := s.at_ (j := 3) rfl
        replace s : St W (Grp g1 es :: Own 3 1 none 0 0 [] :: Own 3 1 A7 ((keysOf E).length) c8 (ints (keysOf E)) :: .blk b6 [.map (some g1)] 49 :: L) w := s
        replace s := s.at_ (j := 2) rfl
        replace s : St W (Own 3 1 A7 ((keysOf E).length) c8 (ints (keysOf E)) :: Grp g1 es :: Own 3 1 none 0 0 [] :: .blk b6 [.map (some g1)] 49 :: L) w := s
        replace s := s.at_ (j := 2) rfl
        replace s : St W (Own 3 1 none 0 0 [] :: Own 3 1 A7 ((keysOf E).length) c8 (ints (keysOf E)) :: Grp g1 es :: .blk b6 [.map (some g1)] 49 :: L) w := s
        replace s : St W (Own 3 1 none 0 0 [] :: Own 3 1 A7 ((keysOf E).length) c8 (ints (keysOf E)) :: Grp g1 es :: L) w := St.mid (A := [Own 3 1 none 0 0 [], Own 3 1 A7 ((keysOf E).length) c8 (ints (keysOf E)), Grp g1 es]) (B := [.blk b6 [.map (some g1)] 49]) s
        refine wp_loopG (G := (Nat × List Int × Option Addr × Nat)) (fun ⟨j, R, Ao, co⟩ a w => Has a 99 [(4, .map (some g1)), (54, .slice A7 ((keysOf E).length) c8), (55, .int .i64 (((keysOf E).length : Nat) : Int)), (56, .int .i64 ((j : Nat) : Int)), (7, .slice Ao R.length co)] ∧ St W (Own 3 1 Ao R.length co (ints R) :: Own 3 1 A7 ((keysOf E).length) c8 (ints (keysOf E)) :: Grp g1 es :: L) w ∧ (j ≤ (keysOf E).length ∧ Part E j R)) (fun ⟨j, R, Ao, co⟩ => (keysOf E).length - j) (0, [], none, 0) ?_ ?_
        · exact ⟨(Has.cons ha (by kernel_rfl) (by kernel_rfl) (Has.cons ha (by kernel_rfl) (by kernel_rfl) (Has.cons ha (by kernel_rfl) (by kernel_rfl) (Has.cons ha (by kernel_rfl) (by kernel_rfl) (Has.cons ha (by kernel_rfl) (by kernel_rfl) (Has.nil ha)))))), s, ⟨Nat.zero_le _, Part.start E⟩⟩
        · clear ha s; rintro ⟨j, R, Ao, co⟩ a w ⟨ha, s, hp⟩
          refine wp_seq ?_
          refine wp_region_lit ?_
          refine st_val (.bool (decide (((j : Nat) : Int) < (((keysOf E).length : Nat) : Int)))) ha (by kernel_rfl) (by kernel_rfl) ?_
          clear ha; intro a ha
          refine wpList_nil ?_
          refine then_normal ?_
          refine wp_seq ?_
          refine wp_part (decide (((j : Nat) : Int) < (((keysOf E).length : Nat) : Int))) ha rfl (by kernel_rfl) (fun hb => ?_) (fun hb => ?_)
          · rw [hb] at ha; replace hb : (((j : Nat) : Int) < (((keysOf E).length : Nat) : Int)) := of_decide_eq_true hb
            obtain ⟨id, hid⟩ : ∃ x, (keysOf E)[j]? = some x := ⟨_, List.getElem?_eq_getElem (by omega)⟩
            have hidb := key_id hall hid
            obtain ⟨iA, ic, il, hrow⟩ : ∃ rA rc rl, row0 es id = (rA, rc, rl) := ⟨_, _, _, rfl⟩
            obtain rfl := row_list hE hrow
            have holen := outs_take_le E id
            obtain ⟨adk, hAk⟩ := Own.addr (s.at_ (j := 1) rfl) (by omega)
            subst hAk
            refine wp_skip ?_
            refine then_normal ?_
            refine wp_seq ?_
            refine wp_block ?_
            refine wp_seq ?_
            refine wp_region_lit ?_
            refine st_val (.pointer (some (adk.add (j * 1)))) ha (by kernel_rfl) (run_indexAddr' (kd := .i64) (i := ((j : Nat) : Int)) (n := ((keysOf E).length)) (c := c8) j rfl Try.underlying25 Try.sizeOf3 (by kernel_rfl) (by kernel_rfl) rfl (by first | assumption | omega) _) ?_
            clear ha; intro a ha
            refine st_val (.int .i64 id) ha (by kernel_rfl) (run_loadAt1 (i := j * 1) ((Knows.own (j := 1) rfl) _ s.sat) rfl (by kernel_rfl) Try.isAgg3 (by rw [Nat.mul_one]; exact ints_at hid)) ?_
            clear ha; intro a ha
            refine st_val (.int .i64 id) ha (by kernel_rfl) (by kernel_rfl) ?_
            clear ha; intro a ha
            refine wpList_nil ?_
            refine then_normal ?_
            refine wp_seq ?_
            refine wp_region_lit ?_
            refine st_ex ha (by kernel_rfl) (ex_makeMap Try.prog 3 encI s rfl) ?_
            clear ha; rintro _ w a ⟨g9, rfl, s⟩ ha
            replace s : St W (MapT Try.prog 3 encI g9 [] :: Own 3 1 Ao R.length co (ints R) :: Own 3 1 (some adk) ((keysOf E).length) c8 (ints (keysOf E)) :: Grp g1 es :: L) w := s
            refine st_val (.map (some g9)) ha (by kernel_rfl) (by kernel_rfl) ?_
            clear ha; intro a ha
            refine wpList_nil ?_
            refine then_normal ?_
            refine wp_seq ?_
            refine wp_region_lit ?_
            refine st_val (.map (some g1)) ha (by kernel_rfl) (by kernel_rfl) ?_
            clear ha; intro a ha
            refine st_val (.int .i64 id) ha (by kernel_rfl) (by kernel_rfl) ?_
            clear ha; intro a ha
            refine st_val (.slice iA ((outs E id).length) ic) ha (by kernel_rfl) (run_lookup (a := id) (.slice iA ((outs E id).length) ic) ((Knows.grp (j := 3) rfl) _ s.sat) rfl (by kernel_rfl) (by kernel_rfl) encI_inj keyed3 Try.underlying49 Try.zeroValue25 (key3 ⟨by omega, by omega⟩) (by rw [vals_get, hrow]; rfl)) ?_
            clear ha; intro a ha
            refine st_call ha (by kernel_rfl) (by kernel_rfl) (clone_any W _ w iA (outs E id).length ic (outs E id) (Knows.row (j := 3) rfl hrow) rfl (by omega) s) ?_
            rintro _ w ⟨A10, c11, rfl, s⟩
            replace s : St W (Own 3 1 A10 ((outs E id).length) c11 (ints (outs E id)) :: MapT Try.prog 3 encI g9 [] :: Own 3 1 Ao R.length co (ints R) :: Own 3 1 (some adk) ((keysOf E).length) c8 (ints (keysOf E)) :: Grp g1 es :: L) w := s
            refine ⟨_, rfl, ?_⟩; clear ha; intro a ha
            refine st_val (.slice A10 ((outs E id).length) c11) ha (by kernel_rfl) (by kernel_rfl) ?_
            clear ha; intro a ha
            refine wpList_nil ?_
            refine then_normal ?_
            refine wp_block ?_
            have hp2 := hp; clear hp
            refine wp_loopG (G := (List Int × List Int × Option Addr × Nat)) (fun ⟨S, T, Au, cu⟩ a w => Has a 99 [(4, .map (some g1)), (7, .slice Ao R.length co), (9, .int .i64 id), (10, .map (some g9)), (54, .slice (some adk) ((keysOf E).length) c8), (55, .int .i64 (((keysOf E).length : Nat) : Int)), (56, .int .i64 ((j : Nat) : Int)), (11, .slice Au T.length cu)] ∧ St W (Own 3 1 Au T.length cu (ints T) :: MapT Try.prog 3 encI g9 (seenD S) :: Own 3 1 Ao R.length co (ints R) :: Own 3 1 (some adk) ((keysOf E).length) c8 (ints (keysOf E)) :: Grp g1 es :: L) w ∧ (Dfs E id S T ∧ S.length + left_ E S + T.length ≤ 2000)) (fun ⟨S, T, Au, cu⟩ => left_ E S + T.length) ([], outs E id, A10, c11) ?_ ?_
            · exact ⟨(Has.cons ha (by kernel_rfl) (by kernel_rfl) (Has.cons ha (by kernel_rfl) (by kernel_rfl) (Has.cons ha (by kernel_rfl) (by kernel_rfl) (Has.cons ha (by kernel_rfl) (by kernel_rfl) (Has.cons ha (by kernel_rfl) (by kernel_rfl) (Has.cons ha (by kernel_rfl) (by kernel_rfl) (Has.cons ha (by kernel_rfl) (by kernel_rfl) (Has.cons ha (by kernel_rfl) (by kernel_rfl) (Has.nil ha))))))))), s, ⟨Dfs.start E id, by have := left_le E []; simp only [List.length_nil]; omega⟩⟩
            · clear ha s; rintro ⟨S, T, Au, cu⟩ a w ⟨ha, s, hp⟩
              refine wp_seq ?_
              refine wp_seq ?_
              refine wp_region_lit ?_
              refine st_val (.slice Au T.length cu) ha (by kernel_rfl) (by kernel_rfl) ?_
              clear ha; intro a ha
              refine st_val (.int .i64 ((T.length : Nat) : Int)) ha (by kernel_rfl) (by kernel_rfl) ?_
              clear ha; intro a ha
              refine st_val (.bool (decide (((T.length : Nat) : Int) > (0 : Int)))) ha (by kernel_rfl) (by kernel_rfl) ?_
              clear ha; intro a ha
              refine wpList_nil ?_
              refine then_normal ?_
              refine wp_part (decide (((T.length : Nat) : Int) > (0 : Int))) ha rfl (by kernel_rfl) (fun hb => ?_) (fun hb => ?_)
              · rw [hb] at ha; replace hb : (((T.length : Nat) : Int) > (0 : Int)) := of_decide_eq_true hb
                have hp3 := hp
                obtain ⟨T', x, rfl⟩ := snoc_of (T := T) (by omega)
                have hT : (T' ++ [x]).length = T'.length + 1 := by simp
                rw [hT] at s ha
                have hxb := way_id hall (hp3.1.todo x (by simp))
                have hTl : T'.length ≤ 2000 := by have := hp3.2; rw [hT] at this; omega
                replace s : St W (Own 3 1 Au (T'.length + 1) cu (ints (T' ++ [x])) :: MapT Try.prog 3 encI g9 (seenD S) :: Own 3 1 Ao R.length co (ints R) :: Own 3 1 (some adk) ((keysOf E).length) c8 (ints (keysOf E)) :: Grp g1 es :: L) w := s
                have hcap := (Own.facts (s.at_ (j := 0) rfl).1).2.1
                obtain ⟨adt, hAt⟩ := Own.addr (s.at_ (j := 0) rfl) (by omega)
                subst hAt
                refine wp_skip ?_
                refine then_normal ?_
                refine wp_block ?_
                refine wp_seq ?_
                refine wp_region_lit ?_
                refine st_val (.slice (some adt) (T'.length + 1) cu) ha (by kernel_rfl) (by kernel_rfl) ?_
                clear ha; intro a ha
                refine st_val (.slice (some adt) (T'.length + 1) cu) ha (by kernel_rfl) (by kernel_rfl) ?_
                clear ha; intro a ha
                refine st_val (.int .i64 ((T'.length + 1 : Nat) : Int)) ha (by kernel_rfl) (by kernel_rfl) ?_
                clear ha; intro a ha
                refine st_val (.int .i64 ((T'.length : Nat) : Int)) ha (by kernel_rfl) (run_arith (((T'.length + 1 : Nat) : Int) - (1 : Int)) ((T'.length : Nat) : Int) rfl (by kernel_rfl) (by kernel_rfl) (.inr (.inl ⟨rfl, rfl⟩)) (by rw [wrap64_in (by omega)]; try omega) _) ?_
                clear ha; intro a ha
                refine st_val (.pointer (some (adt.add (T'.length * 1)))) ha (by kernel_rfl) (run_indexAddr' (kd := .i64) (i := ((T'.length : Nat) : Int)) (n := (T'.length + 1)) (c := cu) T'.length rfl Try.underlying25 Try.sizeOf3 (by kernel_rfl) (by kernel_rfl) rfl (by first | assumption | omega) _) ?_
                clear ha; intro a ha
                refine st_val (.int .i64 x) ha (by kernel_rfl) (run_loadAt1 (i := T'.length * 1) ((Knows.own (j := 0) rfl) _ s.sat) rfl (by kernel_rfl) Try.isAgg3 (by rw [Nat.mul_one]; exact ints_at (by simp))) ?_
                clear ha; intro a ha
                refine st_val (.int .i64 x) ha (by kernel_rfl) (by kernel_rfl) ?_
                clear ha; intro a ha
                refine wpList_nil ?_
                refine then_normal ?_
                refine wp_seq ?_
                refine wp_region_lit ?_
                refine st_val (.slice (some adt) (T'.length + 1) cu) ha (by kernel_rfl) (by kernel_rfl) ?_
                clear ha; intro a ha
                refine st_val (.slice (some adt) (T'.length + 1) cu) ha (by kernel_rfl) (by kernel_rfl) ?_
                clear ha; intro a ha
                refine st_val (.int .i64 ((T'.length + 1 : Nat) : Int)) ha (by kernel_rfl) (by kernel_rfl) ?_
                clear ha; intro a ha
                refine st_val (.int .i64 ((T'.length : Nat) : Int)) ha (by kernel_rfl) (run_arith (((T'.length + 1 : Nat) : Int) - (1 : Int)) ((T'.length : Nat) : Int) rfl (by kernel_rfl) (by kernel_rfl) (.inr (.inl ⟨rfl, rfl⟩)) (by rw [wrap64_in (by omega)]; try omega) _) ?_
                clear ha; intro a ha
                refine st_val (.slice (some adt) T'.length cu) ha (by kernel_rfl) (run_slice0 (n := (T'.length + 1)) (c := cu) T'.length cu rfl Try.underlying25 Try.sizeOf3 (by kernel_rfl) (fun _ => rfl) bnd_none (bnd_some .i64 (by kernel_rfl)) bnd_none (by omega) (by omega) _) ?_
                clear ha; intro a ha
                refine st_val (.slice (some adt) T'.length cu) ha (by kernel_rfl) (by kernel_rfl) ?_
                clear ha; intro a ha
                refine wpList_nil ?_
                refine then_normal ?_
                refine wp_seq ?_
                refine wp_seq ?_
                refine wp_region_lit ?_
                refine st_val (.int .i64 x) ha (by kernel_rfl) (by kernel_rfl) ?_
                clear ha; intro a ha
                refine st_val (.int .i64 id) ha (by kernel_rfl) (by kernel_rfl) ?_
                clear ha; intro a ha
                refine st_val (.bool (x == id)) ha (by kernel_rfl) (by kernel_rfl) ?_
                clear ha; intro a ha
                refine wpList_nil ?_
                refine then_normal ?_
                refine wp_part (x == id) ha rfl (by kernel_rfl) (fun hb => ?_) (fun hb => ?_)
                · rw [hb] at ha; have hb_ := hb; replace hb := eq_of_beq hb
                  have hb2 := hb.symm
                  have hRl := hp2.2.len
                  subst hb2
                  have hway := hp3.1.todo id (by simp)
                  replace hp := hp2
                  refine wp_seq ?_
                  refine wp_region_lit ?_
                  refine st_val (.slice Ao R.length co) ha (by kernel_rfl) (by kernel_rfl) ?_
                  clear ha; intro a ha
                  refine st_val (.int .i64 id) ha (by kernel_rfl) (by kernel_rfl) ?_
                  clear ha; intro a ha
                  refine st_ex ha (by kernel_rfl) (ex_buildSlice elt25 _ zs25 [.int .i64 id] s rfl (by kernel_rfl) (by decide)) ?_
                  clear ha; rintro _ w a ⟨g12, rfl, s⟩ ha
                  replace s : St W (.blk g12 [.int .i64 id] 3 :: Own 3 1 (some adt) (T'.length + 1) cu (ints (T' ++ [id])) :: MapT Try.prog 3 encI g9 (seenD S) :: Own 3 1 Ao R.length co (ints R) :: Own 3 1 (some adk) ((keysOf E).length) c8 (ints (keysOf E)) :: Grp g1 es :: L) w := s
                  refine st_ex ha (by kernel_rfl) (ex_append (m := 1) (d' := 1) elt25 (by decide) 3 [.int .i64 id] s rfl (by kernel_rfl) (by kernel_rfl) rfl (reads_blk (s.blkIs 0 rfl) rfl) (by simp [Value.oneCell']) (by simp only [maxLen]; omega) (by omega)) ?_
                  clear ha; rintro _ w a ⟨A13, c14, rfl, hA_, s⟩ ha
                  replace s : St W (.blk g12 [.int .i64 id] 3 :: Own 3 1 (some adt) (T'.length + 1) cu (ints (T' ++ [id])) :: MapT Try.prog 3 encI g9 (seenD S) :: Own 3 1 A13 (R.length + 1) c14 ((ints R) ++ [.int .i64 id]) :: Own 3 1 (some adk) ((keysOf E).length) c8 (ints (keysOf E)) :: Grp g1 es :: L) w := s
                  refine st_val (.slice A13 (R.length + 1) c14) ha (by kernel_rfl) (by kernel_rfl) ?_
                  clear ha; intro a ha
                  refine wpList_nil ?_
                  refine then_normal ?_
                  refine wp_exit ?_
                  refine then_exit ?_
                  refine block_miss (by rfl) ?_
                  refine then_exit ?_
                  refine block_miss (by rfl) ?_
                  refine block_hit ?_
                  refine then_normal ?_
                  refine wp_region_lit ?_
                  refine st_val (.int .i64 ((j + 1 : Nat) : Int)) ha (by kernel_rfl) (run_arith (((j : Nat) : Int) + (1 : Int)) ((j + 1 : Nat) : Int) rfl (by kernel_rfl) (by kernel_rfl) (.inl ⟨rfl, rfl⟩) (by rw [wrap64_in (by omega)]; try omega) _) ?_
                  clear ha; intro a ha
                  refine st_val (.int .i64 ((j + 1 : Nat) : Int)) ha (by kernel_rfl) (by kernel_rfl) ?_
                  clear ha; intro a ha
                  refine wpList_nil ?_
                  refine then_normal ?_
                  replace s := s.at_ (j := 5) rfl
                  replace s : St W (Grp g1 es :: .blk g12 [.int .i64 id] 3 :: Own 3 1 (some adt) (T'.length + 1) cu (ints (T' ++ [id])) :: MapT Try.prog 3 encI g9 (seenD S) :: Own 3 1 A13 (R.length + 1) c14 ((ints R) ++ [.int .i64 id]) :: Own 3 1 (some adk) ((keysOf E).length) c8 (ints (keysOf E)) :: L) w := s
                  replace s := s.at_ (j := 5) rfl
                  replace s : St W (Own 3 1 (some adk) ((keysOf E).length) c8 (ints (keysOf E)) :: Grp g1 es :: .blk g12 [.int .i64 id] 3 :: Own 3 1 (some adt) (T'.length + 1) cu (ints (T' ++ [id])) :: MapT Try.prog 3 encI g9 (seenD S) :: Own 3 1 A13 (R.length + 1) c14 ((ints R) ++ [.int .i64 id]) :: L) w := s
                  replace s := s.at_ (j := 5) rfl
                  replace s : St W (Own 3 1 A13 (R.length + 1) c14 ((ints R) ++ [.int .i64 id]) :: Own 3 1 (some adk) ((keysOf E).length) c8 (ints (keysOf E)) :: Grp g1 es :: .blk g12 [.int .i64 id] 3 :: Own 3 1 (some adt) (T'.length + 1) cu (ints (T' ++ [id])) :: MapT Try.prog 3 encI g9 (seenD S) :: L) w := s
                  replace s : St W (Own 3 1 A13 (R.length + 1) c14 ((ints R) ++ [.int .i64 id]) :: Own 3 1 (some adk) ((keysOf E).length) c8 (ints (keysOf E)) :: Grp g1 es :: L) w := St.mid (A := [Own 3 1 A13 (R.length + 1) c14 ((ints R) ++ [.int .i64 id]), Own 3 1 (some adk) ((keysOf E).length) c8 (ints (keysOf E)), Grp g1 es]) (B := [.blk g12 [.int .i64 id] 3, Own 3 1 (some adt) (T'.length + 1) cu (ints (T' ++ [id])), MapT Try.prog 3 encI g9 (seenD S)]) s
                  replace s : St W (Own 3 1 A13 ((R ++ [id]).length) c14 (ints (R ++ [id])) :: Own 3 1 (some adk) ((keysOf E).length) c8 (ints (keysOf E)) :: Grp g1 es :: L) w := by rw [show (R ++ [id]).length = R.length + 1 by simp, ints, List.map_append]; exact s
                  exact ⟨(j + 1, (R ++ [id]), A13, c14), (show (keysOf E).length - (j + 1) < (keysOf E).length - j by omega), (Has.cons ha (by kernel_rfl) (by kernel_rfl) (Has.cons ha (by kernel_rfl) (by kernel_rfl) (Has.cons ha (by kernel_rfl) (by kernel_rfl) (Has.cons ha (by kernel_rfl) (by kernel_rfl) (Has.cons ha (by kernel_rfl) (by rw [show (R ++ [id]).length = R.length + 1 by simp]; kernel_rfl) (Has.nil ha)))))), s, (show j + 1 ≤ (keysOf E).length by omega), hp.2.yes hid hway⟩
                · rw [hb] at ha; have hb_ := hb; replace hb := ne_of_beq_false hb
                  have hxid : x ≠ id := hb
                  replace s := Own.shrink (m := T'.length) s (by omega)
                  rw [show (ints (T' ++ [x])).take (T'.length * 1) = ints T' from by simp [ints]] at s
                  replace s : St W (Own 3 1 (some adt) T'.length cu (ints T') :: MapT Try.prog 3 encI g9 (seenD S) :: Own 3 1 Ao R.length co (ints R) :: Own 3 1 (some adk) ((keysOf E).length) c8 (ints (keysOf E)) :: Grp g1 es :: L) w := s
                  refine wp_skip ?_
                  refine then_normal ?_
                  refine wp_seq ?_
                  refine wp_region_lit ?_
                  refine st_val (.map (some g9)) ha (by kernel_rfl) (by kernel_rfl) ?_
                  clear ha; intro a ha
                  refine st_val (.int .i64 x) ha (by kernel_rfl) (by kernel_rfl) ?_
                  clear ha; intro a ha
                  refine st_val (.int .i64 (seenV S x)) ha (by kernel_rfl) (run_lookup (a := x) (.int .i64 (seenV S x)) (s.mapIs 1 rfl) rfl (by kernel_rfl) (by kernel_rfl) encI_inj keyed3 Try.underlying55 Try.zeroValue3 (key3 ⟨by omega, by omega⟩) (seenD_get _ _)) ?_
                  clear ha; intro a ha
                  refine st_val (.bool ((seenV S x) == (0 : Int))) ha (by kernel_rfl) (by kernel_rfl) ?_
                  clear ha; intro a ha
                  refine wpList_nil ?_
                  refine then_normal ?_
                  refine wp_part ((seenV S x) == (0 : Int)) ha rfl (by kernel_rfl) (fun hb => ?_) (fun hb => ?_)
                  · rw [hb] at ha; have hb_ := hb; replace hb := eq_of_beq hb
                    have hnS := seenV_zero hb
                    obtain ⟨xA, xc, xl, hrx⟩ : ∃ rA rc rl, row0 es x = (rA, rc, rl) := ⟨_, _, _, rfl⟩
                    obtain rfl := row_list hE hrx
                    have hxo := outs_take_le E x
                    refine wp_seq ?_
                    refine wp_region_lit ?_
                    refine st_val (.map (some g9)) ha (by kernel_rfl) (by kernel_rfl) ?_
                    clear ha; intro a ha
                    refine st_val (.int .i64 x) ha (by kernel_rfl) (by kernel_rfl) ?_
                    clear ha; intro a ha
                    refine st_exd ha (by kernel_rfl) (ex_mapUpdate (a := x) 1 (.int .i64 1) s rfl rfl (by kernel_rfl) (by kernel_rfl) (by kernel_rfl) encI_inj keyed3 Try.underlying55 (key3 ⟨by omega, by omega⟩) (by simp only [maxLen, seenD, List.length_map]; omega)) ?_
                    clear ha; rintro w a s ha
                    replace s : St W (Own 3 1 (some adt) T'.length cu (ints T') :: MapT Try.prog 3 encI g9 (mput (seenD S) x (.int .i64 1)) :: Own 3 1 Ao R.length co (ints R) :: Own 3 1 (some adk) ((keysOf E).length) c8 (ints (keysOf E)) :: Grp g1 es :: L) w := s
                    refine wpList_nil ?_
                    refine then_normal ?_
                    refine wp_region_lit ?_
                    refine st_val (.slice (some adt) T'.length cu) ha (by kernel_rfl) (by kernel_rfl) ?_
                    clear ha; intro a ha
                    refine st_val (.map (some g1)) ha (by kernel_rfl) (by kernel_rfl) ?_
                    clear ha; intro a ha
                    refine st_val (.int .i64 x) ha (by kernel_rfl) (by kernel_rfl) ?_
                    clear ha; intro a ha
                    refine st_val (.slice xA ((outs E x).length) xc) ha (by kernel_rfl) (run_lookup (a := x) (.slice xA ((outs E x).length) xc) ((Knows.grp (j := 4) rfl) _ s.sat) rfl (by kernel_rfl) (by kernel_rfl) encI_inj keyed3 Try.underlying49 Try.zeroValue25 (key3 ⟨by omega, by omega⟩) (by rw [vals_get, hrx]; rfl)) ?_
                    clear ha; intro a ha
                    refine st_ex ha (by kernel_rfl) (ex_append (m := ((outs E x).length)) (d' := xc) elt25 (by decide) 0 (ints (outs E x)) s rfl (by kernel_rfl) (by kernel_rfl) rfl ((Knows.row (j := 4) rfl hrx) _ s.sat) (ints_one _) (by simp only [maxLen]; omega) (by omega)) ?_
                    clear ha; rintro _ w a ⟨A15, c16, rfl, hA_, s⟩ ha
                    replace s : St W (Own 3 1 A15 (T'.length + (outs E x).length) c16 ((ints T') ++ (ints (outs E x))) :: MapT Try.prog 3 encI g9 (mput (seenD S) x (.int .i64 1)) :: Own 3 1 Ao R.length co (ints R) :: Own 3 1 (some adk) ((keysOf E).length) c8 (ints (keysOf E)) :: Grp g1 es :: L) w := s
                    refine st_val (.slice A15 (T'.length + (outs E x).length) c16) ha (by kernel_rfl) (by kernel_rfl) ?_
                    clear ha; intro a ha
                    refine wpList_nil ?_
                    refine block_normal ?_
                    refine then_normal ?_
                    replace s : St W (Own 3 1 A15 ((T' ++ outs E x).length) c16 (ints (T' ++ outs E x)) :: MapT Try.prog 3 encI g9 (seenD (S ++ [x])) :: Own 3 1 Ao R.length co (ints R) :: Own 3 1 (some adk) ((keysOf E).length) c8 (ints (keysOf E)) :: Grp g1 es :: L) w := by rw [show (T' ++ outs E x).length = T'.length + (outs E x).length by simp, ints, List.map_append, ← seenD_put hnS]; exact s
                    exact ⟨((S ++ [x]), (T' ++ outs E x), A15, c16), (show left_ E (S ++ [x]) + (T' ++ outs E x).length < left_ E S + (T' ++ [x]).length by have := left_push (E := E) hnS; simp only [List.length_append, List.length_cons, List.length_nil]; omega), (Has.cons ha (by kernel_rfl) (by kernel_rfl) (Has.cons ha (by kernel_rfl) (by kernel_rfl) (Has.cons ha (by kernel_rfl) (by kernel_rfl) (Has.cons ha (by kernel_rfl) (by kernel_rfl) (Has.cons ha (by kernel_rfl) (by kernel_rfl) (Has.cons ha (by kernel_rfl) (by kernel_rfl) (Has.cons ha (by kernel_rfl) (by kernel_rfl) (Has.cons ha (by kernel_rfl) (by rw [show (T' ++ outs E x).length = T'.length + (outs E x).length by simp]; kernel_rfl) (Has.nil ha))))))))), s, hp3.1.push hxid, (by have := left_push (E := E) hnS; have := hp3.2; simp only [List.length_append, List.length_cons, List.length_nil] at *; omega)⟩
                  · rw [hb] at ha; have hb_ := hb; replace hb := ne_of_beq_false hb
                    have hS1 := seenV_one hb
                    refine wp_skip ?_
                    refine block_normal ?_
                    refine then_normal ?_
                    exact ⟨(S, T', (some adt), cu), (show left_ E S + T'.length < left_ E S + (T' ++ [x]).length by simp), (Has.cons ha (by kernel_rfl) (by kernel_rfl) (Has.cons ha (by kernel_rfl) (by kernel_rfl) (Has.cons ha (by kernel_rfl) (by kernel_rfl) (Has.cons ha (by kernel_rfl) (by kernel_rfl) (Has.cons ha (by kernel_rfl) (by kernel_rfl) (Has.cons ha (by kernel_rfl) (by kernel_rfl) (Has.cons ha (by kernel_rfl) (by kernel_rfl) (Has.cons ha (by kernel_rfl) (by kernel_rfl) (Has.nil ha))))))))), s, hp3.1.skip hS1, (by have := hp3.2; simp only [List.length_append, List.length_cons, List.length_nil] at *; omega)⟩
              · rw [hb] at ha; replace hb : ¬ (((T.length : Nat) : Int) > (0 : Int)) := of_decide_eq_false hb
                obtain rfl : T = [] := List.eq_nil_of_length_eq_zero (by omega)
                have hno := hp.1.done
                replace hp := hp2
                refine wp_exit ?_
                refine then_exit ?_
                refine then_exit ?_
                refine block_hit ?_
                refine block_normal ?_
                refine then_normal ?_
                refine wp_region_lit ?_
                refine st_val (.int .i64 ((j + 1 : Nat) : Int)) ha (by kernel_rfl) (run_arith (((j : Nat) : Int) + (1 : Int)) ((j + 1 : Nat) : Int) rfl (by kernel_rfl) (by kernel_rfl) (.inl ⟨rfl, rfl⟩) (by rw [wrap64_in (by omega)]; try omega) _) ?_
                clear ha; intro a ha
                refine st_val (.int .i64 ((j + 1 : Nat) : Int)) ha (by kernel_rfl) (by kernel_rfl) ?_
                clear ha; intro a ha
                refine wpList_nil ?_
                refine then_normal ?_
                replace s := s.at_ (j := 4) rfl
                replace s : St W (Grp g1 es :: Own 3 1 Au (([] : List Int).length) cu (ints []) :: MapT Try.prog 3 encI g9 (seenD S) :: Own 3 1 Ao R.length co (ints R) :: Own 3 1 (some adk) ((keysOf E).length) c8 (ints (keysOf E)) :: L) w := s
                replace s := s.at_ (j := 4) rfl
                replace s : St W (Own 3 1 (some adk) ((keysOf E).length) c8 (ints (keysOf E)) :: Grp g1 es :: Own 3 1 Au (([] : List Int).length) cu (ints []) :: MapT Try.prog 3 encI g9 (seenD S) :: Own 3 1 Ao R.length co (ints R) :: L) w := s
                replace s := s.at_ (j := 4) rfl
                replace s : St W (Own 3 1 Ao R.length co (ints R) :: Own 3 1 (some adk) ((keysOf E).length) c8 (ints (keysOf E)) :: Grp g1 es :: Own 3 1 Au (([] : List Int).length) cu (ints []) :: MapT Try.prog 3 encI g9 (seenD S) :: L) w := s
                replace s : St W (Own 3 1 Ao R.length co (ints R) :: Own 3 1 (some adk) ((keysOf E).length) c8 (ints (keysOf E)) :: Grp g1 es :: L) w := St.mid (A := [Own 3 1 Ao R.length co (ints R), Own 3 1 (some adk) ((keysOf E).length) c8 (ints (keysOf E)), Grp g1 es]) (B := [Own 3 1 Au (([] : List Int).length) cu (ints []), MapT Try.prog 3 encI g9 (seenD S)]) s
                exact ⟨(j + 1, R, Ao, co), (show (keysOf E).length - (j + 1) < (keysOf E).length - j by omega), (Has.cons ha (by kernel_rfl) (by kernel_rfl) (Has.cons ha (by kernel_rfl) (by kernel_rfl) (Has.cons ha (by kernel_rfl) (by kernel_rfl) (Has.cons ha (by kernel_rfl) (by kernel_rfl) (Has.cons ha (by kernel_rfl) (by kernel_rfl) (Has.nil ha)))))), s, (show j + 1 ≤ (keysOf E).length by omega), hp.2.no hid hno⟩
          · rw [hb] at ha; replace hb : ¬ (((j : Nat) : Int) < (((keysOf E).length : Nat) : Int)) := of_decide_eq_false hb
            refine wp_exit ?_
            refine then_exit ?_
            refine then_exit ?_
            refine block_hit ?_
            refine then_normal ?_
            refine wp_seq ?_
            refine wp_region_lit ?_
            refine st_val (.slice Ao R.length co) ha (by kernel_rfl) (by kernel_rfl) ?_
            clear ha; intro a ha
            refine st_val (.slice Ao R.length co) ha (by kernel_rfl) (by kernel_rfl) ?_
            clear ha; intro a ha
            refine st_val (.int .i64 0) ha (by kernel_rfl) (by kernel_rfl) ?_
            clear ha; intro a ha
            refine wpList_nil ?_
            refine then_normal ?_
            refine wp_ret ?_
            refine scope_ret ?_
            refine ret_with (v := .tuple #[.slice Ao R.length co, .int .i64 0]) ha (results_2 rfl ha (res_tmp (by kernel_rfl) (by kernel_rfl)) (res_tmp (by kernel_rfl) (by kernel_rfl))) ?_
            replace s : St W (Own 3 1 Ao R.length co (ints R) :: L) w := St.mid (A := [Own 3 1 Ao R.length co (ints R)]) (B := [Own 3 1 A7 ((keysOf E).length) c8 (ints (keysOf E)), Grp g1 es]) s
            exact ⟨_, _, R, 0, rfl, .inr (.inr ⟨by omega, hall, rfl, hp.2.all (by omega)⟩), s⟩

end Go.Proofs.Ytjdkpebnaohonaa.B
