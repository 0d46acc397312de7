import Derived.Test.YtidfniglnmfphaaDoorQ1
namespace Go.Proofs.YtidfniglnmfphaaDoor.B
open Go.RowKit Go.Maps Go.Sort Go.Shelf Go.Proofs.YtidfniglnmfphaaDoor.Sep Go.Proofs.YtidfniglnmfphaaDoor.P
set_option linter.unusedVariables false
set_option linter.unusedSimpArgs false
/-! ### WitnessOwn -/
def ns (l : List K) : List Value := l.map fun k => .string (str k)
def bs (l : List Bool) : List Value := l.map fun b => .bool b
theorem ns_len (l : List K) : (ns l).length = l.length := by simp [ns]
theorem bs_len (l : List Bool) : (bs l).length = l.length := by simp [bs]
theorem ns_at {l : List K} {m : Nat} (h : m < l.length) : (ns l)[m]? = some (.string (str (l.getD m []))) := by
  unfold ns; rw [List.getElem?_map, List.getD_eq_getElem?_getD, List.getElem?_eq_getElem h]; rfl
theorem bs_at {l : List Bool} {m : Nat} (h : m < l.length) : (bs l)[m]? = some (.bool (l.getD m false)) := by
  unfold bs; rw [List.getElem?_map, List.getD_eq_getElem?_getD, List.getElem?_eq_getElem h]; rfl
theorem ns_put (l : List K) (m : Nat) (k : K) : putAt (ns l) m [.string (str k)] = ns (l.set m k) := by
  show (ns l).set m _ = _; unfold ns; rw [List.map_set]
theorem bs_put (l : List Bool) (m : Nat) (b : Bool) : putAt (bs l) m [.bool b] = bs (l.set m b) := by
  show (bs l).set m _ = _; unfold bs; rw [List.map_set]
/-- Things done, none with rows. -/
def dl (T : List Td) : List Dd := T.map fun t => ⟨t, none, 0⟩
theorem dl_len (T : List Td) : (dl T).length = T.length := by simp [dl]
theorem dl_t (T : List Td) : (dl T).map (·.t) = T := by unfold dl; rw [List.map_map]; exact (List.map_congr_left fun _ _ => rfl).trans (List.map_id _)
theorem dl_snoc (T : List Td) (t : Td) (h : t.rows = []) : dvs (dl T) ++ [.int .i64 t.op, .string (str t.key), .string (str t.val), .string (str t.frm), .string (str t.to), .bool t.is, .slice none 0 0] = dvs (dl (T ++ [t])) := by
  unfold dl dvs; rw [List.map_append, List.flatMap_append]; simp [h]
def noRows (T : List Td) : Prop := ∀ t ∈ T, t.rows = [] ∧ t.key.length ≤ 1
theorem dl_in {L : List Chunk} {j c : Nat} {A : Option Addr} {T : List Td} (hT : noRows T) (h : L[j]? = some (Own 39 7 A T.length c (dvs (dl T)))) : Knows L (DidsIn A (dl T)) := fun w s => by
  refine ⟨by rw [dl_len]; exact Own.reads (Sat.perm s (perm_at h)), fun x hx => ?_⟩
  obtain ⟨t, ht, rfl⟩ := List.mem_map.1 hx
  simp only [(hT t ht).1]
  exact ⟨rfl, by simp, by simp⟩
theorem dl_bl {T : List Td} (hT : noRows T) (hl : T.length ≤ 1000) : Bl (dl T) := by
  refine ⟨by rw [dl_len]; omega, fun x hx => ?_⟩
  obtain ⟨t, ht, rfl⟩ := List.mem_map.1 hx
  have := hT t ht
  simp only [this.1, List.length_nil]
  omega
theorem noRows_step {o : Ow} (h : noRows o.T) (i n : Nat) : noRows (stepO i n o).T := by
  intro t ht
  unfold stepO at ht
  rcases List.mem_append.1 ht with ht | ht
  · unfold stepA at ht
    split at ht
    · rcases List.mem_append.1 ht with ht | ht
      · exact h t ht
      · rw [List.mem_singleton] at ht; subst ht; exact ⟨rfl, Nat.le_refl _⟩
    · split at ht
      · rcases List.mem_append.1 ht with ht | ht
        · exact h t ht
        · rw [List.mem_singleton] at ht; subst ht; exact ⟨rfl, Nat.le_refl _⟩
      · exact h t ht
  · rw [List.mem_singleton] at ht; subst ht; exact ⟨rfl, Nat.le_refl _⟩
theorem stepA_len {o : Ow} (i n : Nat) : (stepA i n o).T.length ≤ o.T.length + 1 ∧ (stepA i n o).nw.length = o.nw.length ∧ (stepA i n o).iw.length = o.iw.length := by
  unfold stepA; split
  · simp
  · split <;> simp

theorem elt33 : Elt Tryd.prog 33 5 1 1 := ⟨by kernel_rfl, by kernel_rfl⟩
theorem zs33 : (Tryd.prog.info? 5).bind (fun i => i.zero.map (·.cells)) = some #[.int .u8 0] := by kernel_rfl
set_option maxRecDepth 100000 in
set_option maxHeartbeats 4000000 in
theorem own_true (W : World) (hW : W.drawn = 0) (L : List Chunk) (w : World) (A : Option Addr) (ca : Nat) (l1 : List Int) (hr1 : Knows L fun w => Reads w 1 A l1.length (ints l1)) (B : Option Addr) (cb : Nat) (l2 : List Int) (hr2 : Knows L fun w => Reads w 1 B l2.length (ints l2)) (s : St W L w) :
    Calls Tryd.prog 3 #[.slice A l1.length ca, .slice B l2.length cb] w fun e w' => e = .returned (.bool true) ∧ St W L w' := by
  refine enter_args (l := [.slice A l1.length ca, .slice B l2.length cb]) Tryd.func3 rfl rfl (Nat.le_of_ble_eq_true rfl) ?_
  intro a ha; replace ha : Has a 117 [(0, .slice A l1.length ca), (1, .slice B l2.length cb)] := ha
  refine wp_seq ?_
  refine wp_region_lit ?_
  refine st_val (.bool false) ha (by kernel_rfl) (by kernel_rfl) ?_
  clear ha; intro a ha
  refine wpList_nil ?_
  refine then_normal ?_
  refine wp_seq ?_
  refine wp_seq ?_
  refine wp_region_lit ?_
  refine st_call ha (by kernel_rfl) (by kernel_rfl) (works_true W hW _ w s) ?_
  rintro _ w ⟨rfl, s⟩
  refine ⟨_, rfl, ?_⟩; clear ha; intro a ha
  refine st_val (.bool false) ha (by kernel_rfl) (by kernel_rfl) ?_
  clear ha; intro a ha
  refine wpList_nil ?_
  refine then_normal ?_
  refine wp_false ha rfl (by kernel_rfl) ?_
  refine wp_skip ?_
  refine then_normal ?_
  refine wp_seq ?_
  refine wp_region_lit ?_
  refine st_call ha (by kernel_rfl) (by kernel_rfl) (at_any W _ w 5 s) ?_
  rintro _ w ⟨rfl, s⟩
  refine ⟨_, rfl, ?_⟩; clear ha; intro a ha
  refine st_val (.agg #[.int .i64 2, .int .i64 5, .int .i64 0, .slice none 0 0]) ha (by kernel_rfl) (by kernel_rfl) ?_
  clear ha; intro a ha
  refine st_ex ha (by kernel_rfl) (ex_alloc [.int .i64 0, .int .i64 0, .int .i64 0, .slice none 0 0] s rfl (Tryd.zeroValue29 _) (by kernel_rfl)) ?_
  clear ha; rintro _ w a ⟨g1, rfl, s⟩ ha
  refine st_exd ha (by kernel_rfl) (ex_store (of_ := 0) 0 [.int .i64 2, .int .i64 5, .int .i64 0, .slice none 0 0] s rfl rfl (by kernel_rfl) (by kernel_rfl) (Tryd.sizeOf29 _) rfl (by simp [Value.oneCell']) (Nat.le_of_ble_eq_true rfl)) ?_
  clear ha; rintro w a s ha
  replace s : St W (.blk g1 [.int .i64 2, .int .i64 5, .int .i64 0, .slice none 0 0] 29 :: L) w := s
  refine wpList_nil ?_
  refine then_normal ?_
  refine wp_seq ?_
  refine wp_region_lit ?_
  refine st_ex ha (by kernel_rfl) (ex_alloc [.string (str []), .string (str []), .string (str []), .string (str [])] s rfl (Tryd.zeroValue30 _) (by kernel_rfl)) ?_
  clear ha; rintro _ w a ⟨g2, rfl, s⟩ ha
  refine wpList_nil ?_
  refine then_normal ?_
  refine wp_seq ?_
  refine wp_region_lit ?_
  refine st_ex ha (by kernel_rfl) (ex_alloc [.bool false, .bool false, .bool false, .bool false] s rfl (Tryd.zeroValue31 _) (by kernel_rfl)) ?_
  clear ha; rintro _ w a ⟨g3, rfl, s⟩ ha
  refine wpList_nil ?_
  refine then_normal ?_
  refine wp_seq ?_
  refine wp_seq ?_
  refine wp_region_lit ?_
  refine st_val (.int .i64 0) ha (by kernel_rfl) (by kernel_rfl) ?_
  clear ha; intro a ha
  refine wpList_nil ?_
  refine then_normal ?_
  refine wp_block ?_
  replace s := Own.none_ (e := 39) (k := 7) none s
  replace s : St W (Own 39 7 none 0 0 [] :: .blk g3 [.bool false, .bool false, .bool false, .bool false] 31 :: .blk g2 [.string (str []), .string (str []), .string (str []), .string (str [])] 30 :: .blk g1 [.int .i64 2, .int .i64 5, .int .i64 0, .slice none 0 0] 29 :: L) w := s
  replace s := ((s.at_ (j := 1) rfl).at_ (j := 2) rfl).at_ (j := 3) rfl
  replace s : St W (.blk g1 [.int .i64 2, .int .i64 5, .int .i64 0, .slice none 0 0] 29 :: .blk g2 [.string (str []), .string (str []), .string (str []), .string (str [])] 30 :: .blk g3 [.bool false, .bool false, .bool false, .bool false] 31 :: Own 39 7 none 0 0 [] :: L) w := s
  refine wp_loopG (G := (Nat × Ow × Option Addr × Nat)) (fun ⟨i, o, A1, c1⟩ a w => Has a 117 [(0, .slice A l1.length ca), (1, .slice B l2.length cb), (5, .pointer (some ⟨g1, 0, none⟩)), (6, .pointer (some ⟨g2, 0, none⟩)), (7, .pointer (some ⟨g3, 0, none⟩)), (8, .int .i64 ((i : Nat) : Int))] ∧ St W (.blk g1 [.int .i64 2, .int .i64 5, .int .i64 0, .slice A1 o.T.length c1] 29 :: .blk g2 (ns o.nw) 30 :: .blk g3 (bs o.iw) 31 :: Own 39 7 A1 o.T.length c1 (dvs (dl o.T)) :: L) w ∧ ((i ≤ l1.length ∧ i ≤ 20) ∧ OwOk o ∧ ((∀ d ∈ o.T, okT d) ∧ o.T.length ≤ 2 * i) ∧ noRows o.T)) (fun ⟨i, o, A1, c1⟩ => l1.length - i) (0, (⟨[[], [], [], []], [false, false, false, false], []⟩ : Ow), none, 0) ?_ ?_
  · exact ⟨(Has.cons ha (by kernel_rfl) (by kernel_rfl) (Has.cons ha (by kernel_rfl) (by kernel_rfl) (Has.cons ha (by kernel_rfl) (by kernel_rfl) (Has.cons ha (by kernel_rfl) (by kernel_rfl) (Has.cons ha (by kernel_rfl) (by kernel_rfl) (Has.cons ha (by kernel_rfl) (by kernel_rfl) (Has.nil ha))))))), s, ⟨⟨Nat.zero_le _, Nat.zero_le _⟩, OwOk.start, ⟨(fun d hd => by cases hd), Nat.le_refl _⟩, fun t ht => by cases ht⟩⟩
  · clear ha s; rintro ⟨i, o, A1, c1⟩ a w ⟨ha, s, hp⟩
    refine wp_seq ?_
    refine wp_seq ?_
    refine wp_region_lit ?_
    refine st_val (.int .i64 ((i : Nat) : Int)) ha (by kernel_rfl) (by kernel_rfl) ?_
    clear ha; intro a ha
    refine st_val (.slice A l1.length ca) ha (by kernel_rfl) (by kernel_rfl) ?_
    clear ha; intro a ha
    refine st_val (.int .i64 ((l1.length : Nat) : Int)) ha (by kernel_rfl) (by kernel_rfl) ?_
    clear ha; intro a ha
    refine st_val (.bool (decide (((i : Nat) : Int) < ((l1.length : Nat) : Int)))) ha (by kernel_rfl) (by kernel_rfl) ?_
    clear ha; intro a ha
    refine st_val (.bool (decide (((i : Nat) : Int) < ((l1.length : Nat) : Int)))) ha (by kernel_rfl) (by kernel_rfl) ?_
    clear ha; intro a ha
    rcases Bool.eq_false_or_eq_true (decide (((i : Nat) : Int) < ((l1.length : Nat) : Int))) with hb | hb
    · rw [hb] at ha; replace hb : (((i : Nat) : Int) < ((l1.length : Nat) : Int)) := of_decide_eq_true hb
      have hok := hp.2.1
      have hn4 := hok.n4
      have hi4 := hok.i4
      have hT := hp.2.2.1.2
      have hlt := hb
      refine st_val (.int .i64 ((i : Nat) : Int)) ha (by kernel_rfl) (by kernel_rfl) ?_
      clear ha; intro a ha
      refine st_val (.bool (decide (((i : Nat) : Int) < (20 : Int)))) ha (by kernel_rfl) (by kernel_rfl) ?_
      clear ha; intro a ha
      refine st_val (.bool (decide (((i : Nat) : Int) < (20 : Int)))) ha (by kernel_rfl) (by kernel_rfl) ?_
      clear ha; intro a ha
      refine wpList_nil ?_
      refine then_normal ?_
      refine wp_part (decide (((i : Nat) : Int) < (20 : Int))) ha rfl (by kernel_rfl) (fun hb => ?_) (fun hb => ?_)
      · rw [hb] at ha; replace hb : (((i : Nat) : Int) < (20 : Int)) := of_decide_eq_true hb
        obtain ⟨x, hx⟩ : ∃ x, l1[i]? = some x := ⟨_, List.getElem?_eq_getElem (by omega)⟩
        obtain ⟨nn, hnn⟩ : ∃ nn : Nat, x % 12 = nn := ⟨(x % 12).toNat, by have := Int.emod_nonneg x (show (12 : Int) ≠ 0 by omega); omega⟩
        have hnl : nn < 12 := by have := Int.emod_lt_of_pos x (show (0 : Int) < 12 by omega); omega
        obtain ⟨ad, hA⟩ := Reads.addr ((hr1 _ s.sat.tail.tail.tail.tail)) (by omega)
        subst hA
        refine wp_skip ?_
        refine then_normal ?_
        refine wp_seq ?_
        refine wp_block ?_
        refine wp_seq ?_
        refine wp_region_lit ?_
        refine st_val (.slice (some ad) l1.length ca) ha (by kernel_rfl) (by kernel_rfl) ?_
        clear ha; intro a ha
        refine st_val (.int .i64 ((i : Nat) : Int)) ha (by kernel_rfl) (by kernel_rfl) ?_
        clear ha; intro a ha
        refine st_val (.pointer (some (ad.add (i * 1)))) ha (by kernel_rfl) (run_indexAddr' (kd := .i64) (i := ((i : Nat) : Int)) (n := l1.length) (c := ca) i rfl Tryd.underlying22 Tryd.sizeOf3 (by kernel_rfl) (by kernel_rfl) rfl (by first | assumption | omega) _) ?_
        clear ha; intro a ha
        refine st_val (.int .i64 x) ha (by kernel_rfl) (run_loadRow1 (m := i) ((hr1 _ s.sat.tail.tail.tail.tail)) rfl (by kernel_rfl) Tryd.isAgg3 (ints_at hx)) ?_
        clear ha; intro a ha
        refine st_call ha (by kernel_rfl) (by kernel_rfl) ((by have := bring_pos W _ w x 12 (by omega) (by omega) s; rwa [hnn] at this)) ?_
        rintro _ w ⟨rfl, s⟩
        refine ⟨_, rfl, ?_⟩; clear ha; intro a ha
        refine st_val (.int .i64 ((nn : Nat) : Int)) ha (by kernel_rfl) (by kernel_rfl) ?_
        clear ha; intro a ha
        refine wpList_nil ?_
        refine then_normal ?_
        refine wp_seq ?_
        refine wp_region_lit ?_
        refine st_val (.int .i64 ((nn : Nat) : Int)) ha (by kernel_rfl) (by kernel_rfl) ?_
        clear ha; intro a ha
        refine st_val (.int .i64 ((nn % 4 : Nat) : Int)) ha (by kernel_rfl) (run_rem (p := ((nn : Nat) : Int)) (q := 4) (((nn % 4 : Nat) : Int)) rfl (by kernel_rfl) (by kernel_rfl) (by omega) (by rw [Int.tmod_eq_emod_of_nonneg (by omega)]; omega) _) ?_
        clear ha; intro a ha
        refine st_val (.int .i64 ((nn % 4 : Nat) : Int)) ha (by kernel_rfl) (by kernel_rfl) ?_
        clear ha; intro a ha
        refine wpList_nil ?_
        refine then_normal ?_
        refine wp_seq ?_
        refine wp_region_lit ?_
        refine st_val (.int .i64 ((nn % 4 : Nat) : Int)) ha (by kernel_rfl) (by kernel_rfl) ?_
        clear ha; intro a ha
        refine st_val (.int .i64 ((97 + (nn % 4) : Nat) : Int)) ha (by kernel_rfl) (run_arith ((97 : Int) + ((nn % 4 : Nat) : Int)) ((97 + (nn % 4) : Nat) : Int) rfl (by kernel_rfl) (by kernel_rfl) (.inl ⟨rfl, rfl⟩) (by rw [wrap64_in (by omega)]; omega) _) ?_
        clear ha; intro a ha
        refine st_val (.int .u8 (((UInt8.ofNat (97 + (nn % 4))).toNat : Nat) : Int)) ha (by kernel_rfl) (run_conv (p := ((97 + (nn % 4) : Nat) : Int)) (((UInt8.ofNat (97 + (nn % 4))).toNat : Nat) : Int) rfl (by kernel_rfl) Tryd.underlying3 Tryd.underlying5 (conv_u8 _ (by omega)) _) ?_
        clear ha; intro a ha
        refine st_ex ha (by kernel_rfl) (ex_buildSlice elt33 _ zs33 [.int .u8 (((UInt8.ofNat (97 + (nn % 4))).toNat : Nat) : Int)] s rfl (by kernel_rfl) (by decide)) ?_
        clear ha; rintro _ w a ⟨g4, rfl, s⟩ ha
        refine st_ex ha (by kernel_rfl) (ex_bstr (b := UInt8.ofNat (97 + (nn % 4))) (c := 1) 0 s rfl rfl (by kernel_rfl) Tryd.underlying33 Tryd.underlying5 Tryd.underlying9) ?_
        clear ha; rintro _ w a ⟨rfl, s⟩ ha
        replace s : St W (.blk g4 [.int .u8 (((UInt8.ofNat (97 + (nn % 4))).toNat : Nat) : Int)] 5 :: .blk g1 [.int .i64 2, .int .i64 5, .int .i64 0, .slice A1 o.T.length c1] 29 :: .blk g2 (ns o.nw) 30 :: .blk g3 (bs o.iw) 31 :: Own 39 7 A1 o.T.length c1 (dvs (dl o.T)) :: L) w := s
        refine st_val (.string (str [UInt8.ofNat (97 + (nn % 4))])) ha (by kernel_rfl) (by kernel_rfl) ?_
        clear ha; intro a ha
        refine wpList_nil ?_
        refine then_normal ?_
        refine wp_between (fun a w => ∃ (A2 : Option Addr) (c2 : Nat), Has a 117 [(0, .slice (some ad) l1.length ca), (1, .slice B l2.length cb), (5, .pointer (some ⟨g1, 0, none⟩)), (6, .pointer (some ⟨g2, 0, none⟩)), (7, .pointer (some ⟨g3, 0, none⟩)), (8, .int .i64 ((i : Nat) : Int)), (10, .int .i64 ((nn % 4 : Nat) : Int)), (11, .string (str [UInt8.ofNat (97 + (nn % 4))]))] ∧ St W (.blk g1 [.int .i64 2, .int .i64 5, .int .i64 0, .slice A2 ((stepA i nn o).T.length) c2] 29 :: .blk g2 (ns (stepA i nn o).nw) 30 :: .blk g3 (bs (stepA i nn o).iw) 31 :: Own 39 7 A2 ((stepA i nn o).T.length) c2 (dvs (dl (stepA i nn o).T)) :: L) w) ?_ ?_
        · skip
          refine wp_seq ?_
          refine wp_region_lit ?_
          refine st_val (.int .i64 ((nn : Nat) : Int)) ha (by kernel_rfl) (by kernel_rfl) ?_
          clear ha; intro a ha
          refine st_val (.int .i64 ((nn / 4 : Nat) : Int)) ha (by kernel_rfl) (run_quo (p := ((nn : Nat) : Int)) (q := 4) (((nn / 4 : Nat) : Int)) rfl (by kernel_rfl) (by kernel_rfl) (by omega) (by rw [Int.tdiv_eq_ediv_of_nonneg (by omega)]; rw [wrap64_in (by omega)]; omega) _) ?_
          clear ha; intro a ha
          refine wpList_nil ?_
          refine then_normal ?_
          refine wp_block ?_
          refine wp_seq ?_
          refine wp_region_lit ?_
          refine st_val (.bool (((nn / 4 : Nat) : Int) == (0 : Int))) ha (by kernel_rfl) (by kernel_rfl) ?_
          clear ha; intro a ha
          refine st_val (.bool (((nn / 4 : Nat) : Int) == (0 : Int))) ha (by kernel_rfl) (by kernel_rfl) ?_
          clear ha; intro a ha
          refine wpList_nil ?_
          refine then_normal ?_
          refine wp_part (((nn / 4 : Nat) : Int) == (0 : Int)) ha rfl (by kernel_rfl) (fun hb => ?_) (fun hb => ?_)
          · rw [hb] at ha; have hb_ := hb; replace hb := eq_of_beq hb
            refine wp_seq ?_
            refine wp_region_lit ?_
            refine st_val (.int .i64 ((nn % 4 : Nat) : Int)) ha (by kernel_rfl) (by kernel_rfl) ?_
            clear ha; intro a ha
            refine st_val (.int .i64 ((i : Nat) : Int)) ha (by kernel_rfl) (by kernel_rfl) ?_
            clear ha; intro a ha
            refine st_call ha (by kernel_rfl) (by kernel_rfl) (itoa_any W _ w i (by omega) s) ?_
            rintro _ w ⟨rfl, s⟩
            refine ⟨_, rfl, ?_⟩; clear ha; intro a ha
            refine st_val (.pointer (some ⟨g2, nn % 4, none⟩)) ha (by kernel_rfl) (run_indexArr (kd := .i64) (i := ((nn % 4 : Nat) : Int)) (nn % 4) rfl Tryd.underlying30 Tryd.sizeOf9 (by kernel_rfl) (by kernel_rfl) rfl (by first | assumption | omega) _) ?_
            clear ha; intro a ha
            refine st_exd ha (by kernel_rfl) (ex_store_to (of_ := nn % 4) 2 [.string (str (itoa i))] s (ns_put _ _ _) rfl rfl (by kernel_rfl) (by kernel_rfl) (Tryd.sizeOf9 _) rfl (by simp [Value.oneCell']) (by rw [ns_len]; simp only [List.length_cons, List.length_nil]; omega)) ?_
            clear ha; rintro w a s ha
            replace s : St W (.blk g4 [.int .u8 (((UInt8.ofNat (97 + (nn % 4))).toNat : Nat) : Int)] 5 :: .blk g1 [.int .i64 2, .int .i64 5, .int .i64 0, .slice A1 o.T.length c1] 29 :: .blk g2 (ns (o.nw.set (nn % 4) (itoa i))) 30 :: .blk g3 (bs o.iw) 31 :: Own 39 7 A1 o.T.length c1 (dvs (dl o.T)) :: L) w := s
            refine wpList_nil ?_
            refine then_normal ?_
            refine wp_seq ?_
            refine wp_region_lit ?_
            refine st_val (.int .i64 ((nn % 4 : Nat) : Int)) ha (by kernel_rfl) (by kernel_rfl) ?_
            clear ha; intro a ha
            refine st_val (.pointer (some ⟨g3, nn % 4, none⟩)) ha (by kernel_rfl) (run_indexArr (kd := .i64) (i := ((nn % 4 : Nat) : Int)) (nn % 4) rfl Tryd.underlying31 Tryd.sizeOf4 (by kernel_rfl) (by kernel_rfl) rfl (by first | assumption | omega) _) ?_
            clear ha; intro a ha
            refine st_exd ha (by kernel_rfl) (ex_store_to (of_ := nn % 4) 3 [.bool true] s (bs_put _ _ _) rfl rfl (by kernel_rfl) (by kernel_rfl) (Tryd.sizeOf4 _) rfl (by simp [Value.oneCell']) (by rw [bs_len]; simp only [List.length_cons, List.length_nil]; omega)) ?_
            clear ha; rintro w a s ha
            replace s : St W (.blk g4 [.int .u8 (((UInt8.ofNat (97 + (nn % 4))).toNat : Nat) : Int)] 5 :: .blk g1 [.int .i64 2, .int .i64 5, .int .i64 0, .slice A1 o.T.length c1] 29 :: .blk g2 (ns (o.nw.set (nn % 4) (itoa i))) 30 :: .blk g3 (bs (o.iw.set (nn % 4) true)) 31 :: Own 39 7 A1 o.T.length c1 (dvs (dl o.T)) :: L) w := s
            refine wpList_nil ?_
            refine then_normal ?_
            refine wp_region_head 8 (fun w => BlkIs g1 [.int .i64 2, .int .i64 5, .int .i64 0, .slice A1 o.T.length c1] w ∧ BlkIs g2 (ns (o.nw.set (nn % 4) (itoa i))) w ∧ True) (by kernel_rfl) (by decide) ?_
            replace s := s.drew; generalize _root_.Go.World.drew _ = w at s ⊢
            have hS : (fun w => BlkIs g1 [.int .i64 2, .int .i64 5, .int .i64 0, .slice A1 o.T.length c1] w ∧ BlkIs g2 (ns (o.nw.set (nn % 4) (itoa i))) w ∧ True) w := ⟨s.blkIs 1 rfl, s.blkIs 2 rfl, trivial⟩
            refine hd_val (i := 0) (.pointer (some ⟨g1, 3, none⟩)) ha rfl (by kernel_rfl) (fun _ _ _ h => h) (by kernel_rfl) (fun w hS => (by kernel_rfl)) hS ?_
            clear ha; intro a ha
            refine hd_val (i := 1) (.slice A1 o.T.length c1) ha rfl (by kernel_rfl) (fun _ _ _ h => h) (by kernel_rfl) (fun w hS => run_load1 (of_ := 3) hS.1 rfl (by kernel_rfl) Tryd.isAgg27 rfl) hS ?_
            clear ha; intro a ha
            refine hd_val (i := 2) (.string (str [UInt8.ofNat (97 + (nn % 4))])) ha rfl (by kernel_rfl) (fun _ _ _ h => h) (by kernel_rfl) (fun w hS => (by kernel_rfl)) hS ?_
            clear ha; intro a ha
            refine hd_val (i := 3) (.int .i64 ((nn % 4 : Nat) : Int)) ha rfl (by kernel_rfl) (fun _ _ _ h => h) (by kernel_rfl) (fun w hS => (by kernel_rfl)) hS ?_
            clear ha; intro a ha
            refine hd_val (i := 4) (.pointer (some ⟨g2, nn % 4, none⟩)) ha rfl (by kernel_rfl) (fun _ _ _ h => h) (by kernel_rfl) (fun w hS => (run_indexArr (kd := .i64) (i := ((nn % 4 : Nat) : Int)) (nn % 4) rfl Tryd.underlying30 Tryd.sizeOf9 (by kernel_rfl) (by kernel_rfl) rfl (by first | assumption | omega) _)) hS ?_
            clear ha; intro a ha
            refine hd_val (i := 5) (.string (str ((o.nw.set (nn % 4) (itoa i)).getD (nn % 4) []))) ha rfl (by kernel_rfl) (fun _ _ _ h => h) (by kernel_rfl) (fun w hS => run_load1 (of_ := nn % 4) hS.2.1 rfl (by kernel_rfl) Tryd.isAgg9 (ns_at (by first | omega | (simp only [List.length_set]; omega)))) hS ?_
            clear ha; intro a ha
            refine hd_call (i := 6) ha rfl (by kernel_rfl) (by kernel_rfl) (by kernel_rfl) (put_any W _ w [UInt8.ofNat (97 + (nn % 4))] ((o.nw.set (nn % 4) (itoa i)).getD (nn % 4) []) s) ?_
            clear hS; rintro _ w ⟨rfl, s⟩
            have hS : (fun w => BlkIs g1 [.int .i64 2, .int .i64 5, .int .i64 0, .slice A1 o.T.length c1] w ∧ BlkIs g2 (ns (o.nw.set (nn % 4) (itoa i))) w ∧ True) w := ⟨s.blkIs 1 rfl, s.blkIs 2 rfl, trivial⟩
            refine ⟨_, rfl, hS, ?_⟩; clear ha; intro a ha
            refine hd_ex (i := 7) ha rfl (by kernel_rfl) (by kernel_rfl) (ex_buildSlice elt27 _ zs27 [.int .i64 3, .string (str [UInt8.ofNat (97 + (nn % 4))]), .string (str ((o.nw.set (nn % 4) (itoa i)).getD (nn % 4) [])), .string (str []), .string (str []), .bool false, .slice none 0 0] s rfl (by kernel_rfl) (by decide)) ?_
            clear hS; rintro _ w ⟨g5, rfl, s⟩
            have hS : (fun w => BlkIs g1 [.int .i64 2, .int .i64 5, .int .i64 0, .slice A1 o.T.length c1] w ∧ BlkIs g2 (ns (o.nw.set (nn % 4) (itoa i))) w ∧ True) w := ⟨s.blkIs 2 rfl, s.blkIs 3 rfl, trivial⟩
            refine ⟨hS, ?_⟩; clear ha; intro a ha
            refine Head.done (by kernel_rfl) ?_
            clear hS; simp only [List.drop_succ_cons, List.drop_zero]
            refine st_ex ha (by kernel_rfl) (ex_append (m := 1) (d' := 1) elt27 (by decide) 5 [.int .i64 3, .string (str [UInt8.ofNat (97 + (nn % 4))]), .string (str ((o.nw.set (nn % 4) (itoa i)).getD (nn % 4) [])), .string (str []), .string (str []), .bool false, .slice none 0 0] s rfl (by kernel_rfl) (by kernel_rfl) rfl (reads_blk (s.blkIs 0 rfl) rfl) (by simp [Value.oneCell']) (by simp only [maxLen]; omega) (by omega)) ?_
            clear ha; rintro _ w a ⟨A6, c7, rfl, hA_, s⟩ ha
            rw [show dvs (dl o.T) ++ [.int .i64 3, .string (str [UInt8.ofNat (97 + (nn % 4))]), .string (str ((o.nw.set (nn % 4) (itoa i)).getD (nn % 4) [])), .string (str []), .string (str []), .bool false, .slice none 0 0] = dvs (dl (o.T ++ [putT [UInt8.ofNat (97 + (nn % 4))] ((o.nw.set (nn % 4) (itoa i)).getD (nn % 4) [])])) from dl_snoc o.T (putT [UInt8.ofNat (97 + (nn % 4))] ((o.nw.set (nn % 4) (itoa i)).getD (nn % 4) [])) rfl] at s
            replace s : St W (.blk g5 [.int .i64 3, .string (str [UInt8.ofNat (97 + (nn % 4))]), .string (str ((o.nw.set (nn % 4) (itoa i)).getD (nn % 4) [])), .string (str []), .string (str []), .bool false, .slice none 0 0] 39 :: .blk g4 [.int .u8 (((UInt8.ofNat (97 + (nn % 4))).toNat : Nat) : Int)] 5 :: .blk g1 [.int .i64 2, .int .i64 5, .int .i64 0, .slice A1 o.T.length c1] 29 :: .blk g2 (ns (o.nw.set (nn % 4) (itoa i))) 30 :: .blk g3 (bs (o.iw.set (nn % 4) true)) 31 :: Own 39 7 A6 (o.T.length + 1) c7 (dvs (dl (o.T ++ [putT [UInt8.ofNat (97 + (nn % 4))] ((o.nw.set (nn % 4) (itoa i)).getD (nn % 4) [])]))) :: L) w := s
            replace s : St W (.blk g5 [.int .i64 3, .string (str [UInt8.ofNat (97 + (nn % 4))]), .string (str ((o.nw.set (nn % 4) (itoa i)).getD (nn % 4) [])), .string (str []), .string (str []), .bool false, .slice none 0 0] 39 :: .blk g4 [.int .u8 (((UInt8.ofNat (97 + (nn % 4))).toNat : Nat) : Int)] 5 :: .blk g1 [.int .i64 2, .int .i64 5, .int .i64 0, .slice A1 o.T.length c1] 29 :: .blk g2 (ns (o.nw.set (nn % 4) (itoa i))) 30 :: .blk g3 (bs (o.iw.set (nn % 4) true)) 31 :: Own 39 7 A6 (o.T.length + 1) c7 (dvs (dl (o.T ++ [putT [UInt8.ofNat (97 + (nn % 4))] ((o.nw.set (nn % 4) (itoa i)).getD (nn % 4) [])]))) :: L) w := s
            refine st_val (.pointer (some ⟨g1, 3, none⟩)) ha (by kernel_rfl) (by kernel_rfl) ?_
            clear ha; intro a ha
            refine st_exd ha (by kernel_rfl) (ex_store (of_ := 3) 2 [.slice A6 (o.T.length + 1) c7] s rfl rfl (by kernel_rfl) (by kernel_rfl) (Tryd.sizeOf27 _) rfl (by simp [Value.oneCell']) (Nat.le_of_ble_eq_true rfl)) ?_
            clear ha; rintro w a s ha
            replace s : St W (.blk g5 [.int .i64 3, .string (str [UInt8.ofNat (97 + (nn % 4))]), .string (str ((o.nw.set (nn % 4) (itoa i)).getD (nn % 4) [])), .string (str []), .string (str []), .bool false, .slice none 0 0] 39 :: .blk g4 [.int .u8 (((UInt8.ofNat (97 + (nn % 4))).toNat : Nat) : Int)] 5 :: .blk g1 [.int .i64 2, .int .i64 5, .int .i64 0, .slice A6 (o.T.length + 1) c7] 29 :: .blk g2 (ns (o.nw.set (nn % 4) (itoa i))) 30 :: .blk g3 (bs (o.iw.set (nn % 4) true)) 31 :: Own 39 7 A6 (o.T.length + 1) c7 (dvs (dl (o.T ++ [putT [UInt8.ofNat (97 + (nn % 4))] ((o.nw.set (nn % 4) (itoa i)).getD (nn % 4) [])]))) :: L) w := s
            refine wpList_nil ?_
            refine block_normal ?_
            refine then_normal ?_
            replace s := (((s.at_ (j := 5) rfl).at_ (j := 5) rfl).at_ (j := 5) rfl).at_ (j := 5) rfl
            replace s : St W (.blk g1 [.int .i64 2, .int .i64 5, .int .i64 0, .slice A6 (o.T.length + 1) c7] 29 :: .blk g2 (ns (o.nw.set (nn % 4) (itoa i))) 30 :: .blk g3 (bs (o.iw.set (nn % 4) true)) 31 :: Own 39 7 A6 (o.T.length + 1) c7 (dvs (dl (o.T ++ [putT [UInt8.ofNat (97 + (nn % 4))] ((o.nw.set (nn % 4) (itoa i)).getD (nn % 4) [])]))) :: L) w := s.keep 4 2
            have hsa : stepA i nn o = ⟨o.nw.set (nn % 4) (itoa i), o.iw.set (nn % 4) true, o.T ++ [putT (keyB (nn % 4)) (itoa i)]⟩ := by unfold stepA; rw [if_pos (by omega)]
            rw [show (o.nw.set (nn % 4) (itoa i)).getD (nn % 4) [] = itoa i from by rw [getD_set_k _ _ _ _ _ (by omega), if_pos rfl]] at s
            rw [show o.T.length + 1 = (stepA i nn o).T.length from by rw [hsa]; simp] at s
            exact ⟨A6, c7, (Has.cons ha (by kernel_rfl) (by kernel_rfl) (Has.cons ha (by kernel_rfl) (by kernel_rfl) (Has.cons ha (by kernel_rfl) (by kernel_rfl) (Has.cons ha (by kernel_rfl) (by kernel_rfl) (Has.cons ha (by kernel_rfl) (by kernel_rfl) (Has.cons ha (by kernel_rfl) (by kernel_rfl) (Has.cons ha (by kernel_rfl) (by kernel_rfl) (Has.cons ha (by kernel_rfl) (by kernel_rfl) (Has.nil ha))))))))), by rw [hsa] at s ⊢; exact s⟩
          · rw [hb] at ha; have hb_ := hb; replace hb := ne_of_beq_false hb
            refine wp_seq ?_
            refine wp_region_lit ?_
            refine st_val (.bool (((nn / 4 : Nat) : Int) == (1 : Int))) ha (by kernel_rfl) (by kernel_rfl) ?_
            clear ha; intro a ha
            refine st_val (.bool (((nn / 4 : Nat) : Int) == (1 : Int))) ha (by kernel_rfl) (by kernel_rfl) ?_
            clear ha; intro a ha
            refine wpList_nil ?_
            refine then_normal ?_
            refine wp_part (((nn / 4 : Nat) : Int) == (1 : Int)) ha rfl (by kernel_rfl) (fun hb => ?_) (fun hb => ?_)
            · rw [hb] at ha; have hb_ := hb; replace hb := eq_of_beq hb
              refine wp_seq ?_
              refine wp_region_lit ?_
              refine st_val (.int .i64 ((nn % 4 : Nat) : Int)) ha (by kernel_rfl) (by kernel_rfl) ?_
              clear ha; intro a ha
              refine st_val (.pointer (some ⟨g2, nn % 4, none⟩)) ha (by kernel_rfl) (run_indexArr (kd := .i64) (i := ((nn % 4 : Nat) : Int)) (nn % 4) rfl Tryd.underlying30 Tryd.sizeOf9 (by kernel_rfl) (by kernel_rfl) rfl (by first | assumption | omega) _) ?_
              clear ha; intro a ha
              refine st_exd ha (by kernel_rfl) (ex_store_to (of_ := nn % 4) 2 [.string (str [])] s (ns_put _ _ _) rfl rfl (by kernel_rfl) (by kernel_rfl) (Tryd.sizeOf9 _) rfl (by simp [Value.oneCell']) (by rw [ns_len]; simp only [List.length_cons, List.length_nil]; omega)) ?_
              clear ha; rintro w a s ha
              replace s : St W (.blk g4 [.int .u8 (((UInt8.ofNat (97 + (nn % 4))).toNat : Nat) : Int)] 5 :: .blk g1 [.int .i64 2, .int .i64 5, .int .i64 0, .slice A1 o.T.length c1] 29 :: .blk g2 (ns (o.nw.set (nn % 4) [])) 30 :: .blk g3 (bs o.iw) 31 :: Own 39 7 A1 o.T.length c1 (dvs (dl o.T)) :: L) w := s
              refine wpList_nil ?_
              refine then_normal ?_
              refine wp_seq ?_
              refine wp_region_lit ?_
              refine st_val (.int .i64 ((nn % 4 : Nat) : Int)) ha (by kernel_rfl) (by kernel_rfl) ?_
              clear ha; intro a ha
              refine st_val (.pointer (some ⟨g3, nn % 4, none⟩)) ha (by kernel_rfl) (run_indexArr (kd := .i64) (i := ((nn % 4 : Nat) : Int)) (nn % 4) rfl Tryd.underlying31 Tryd.sizeOf4 (by kernel_rfl) (by kernel_rfl) rfl (by first | assumption | omega) _) ?_
              clear ha; intro a ha
              refine st_exd ha (by kernel_rfl) (ex_store_to (of_ := nn % 4) 3 [.bool false] s (bs_put _ _ _) rfl rfl (by kernel_rfl) (by kernel_rfl) (Tryd.sizeOf4 _) rfl (by simp [Value.oneCell']) (by rw [bs_len]; simp only [List.length_cons, List.length_nil]; omega)) ?_
              clear ha; rintro w a s ha
              replace s : St W (.blk g4 [.int .u8 (((UInt8.ofNat (97 + (nn % 4))).toNat : Nat) : Int)] 5 :: .blk g1 [.int .i64 2, .int .i64 5, .int .i64 0, .slice A1 o.T.length c1] 29 :: .blk g2 (ns (o.nw.set (nn % 4) [])) 30 :: .blk g3 (bs (o.iw.set (nn % 4) false)) 31 :: Own 39 7 A1 o.T.length c1 (dvs (dl o.T)) :: L) w := s
              refine wpList_nil ?_
              refine then_normal ?_
              refine wp_region_lit ?_
              refine st_val (.pointer (some ⟨g1, 3, none⟩)) ha (by kernel_rfl) (by kernel_rfl) ?_
              clear ha; intro a ha
              refine st_val (.slice A1 o.T.length c1) ha (by kernel_rfl) (run_load1 (of_ := 3) (s.blkIs 1 rfl) rfl (by kernel_rfl) Tryd.isAgg27 rfl) ?_
              clear ha; intro a ha
              refine st_val (.string (str [UInt8.ofNat (97 + (nn % 4))])) ha (by kernel_rfl) (by kernel_rfl) ?_
              clear ha; intro a ha
              refine st_val (.agg #[.int .i64 4, .string (str [UInt8.ofNat (97 + (nn % 4))]), .string (str []), .string (str []), .string (str []), .bool false, .slice none 0 0]) ha (by kernel_rfl) (by kernel_rfl) ?_
              clear ha; intro a ha
              refine st_ex ha (by kernel_rfl) (ex_buildSlice elt27 _ zs27 [.int .i64 4, .string (str [UInt8.ofNat (97 + (nn % 4))]), .string (str []), .string (str []), .string (str []), .bool false, .slice none 0 0] s rfl (by kernel_rfl) (by decide)) ?_
              clear ha; rintro _ w a ⟨g8, rfl, s⟩ ha
              refine st_ex ha (by kernel_rfl) (ex_append (m := 1) (d' := 1) elt27 (by decide) 5 [.int .i64 4, .string (str [UInt8.ofNat (97 + (nn % 4))]), .string (str []), .string (str []), .string (str []), .bool false, .slice none 0 0] s rfl (by kernel_rfl) (by kernel_rfl) rfl (reads_blk (s.blkIs 0 rfl) rfl) (by simp [Value.oneCell']) (by simp only [maxLen]; omega) (by omega)) ?_
              clear ha; rintro _ w a ⟨A9, c10, rfl, hA_, s⟩ ha
              rw [show dvs (dl o.T) ++ [.int .i64 4, .string (str [UInt8.ofNat (97 + (nn % 4))]), .string (str []), .string (str []), .string (str []), .bool false, .slice none 0 0] = dvs (dl (o.T ++ [delT [UInt8.ofNat (97 + (nn % 4))]])) from dl_snoc o.T (delT [UInt8.ofNat (97 + (nn % 4))]) rfl] at s
              replace s : St W (.blk g8 [.int .i64 4, .string (str [UInt8.ofNat (97 + (nn % 4))]), .string (str []), .string (str []), .string (str []), .bool false, .slice none 0 0] 39 :: .blk g4 [.int .u8 (((UInt8.ofNat (97 + (nn % 4))).toNat : Nat) : Int)] 5 :: .blk g1 [.int .i64 2, .int .i64 5, .int .i64 0, .slice A1 o.T.length c1] 29 :: .blk g2 (ns (o.nw.set (nn % 4) [])) 30 :: .blk g3 (bs (o.iw.set (nn % 4) false)) 31 :: Own 39 7 A9 (o.T.length + 1) c10 (dvs (dl (o.T ++ [delT [UInt8.ofNat (97 + (nn % 4))]]))) :: L) w := s
              replace s : St W (.blk g8 [.int .i64 4, .string (str [UInt8.ofNat (97 + (nn % 4))]), .string (str []), .string (str []), .string (str []), .bool false, .slice none 0 0] 39 :: .blk g4 [.int .u8 (((UInt8.ofNat (97 + (nn % 4))).toNat : Nat) : Int)] 5 :: .blk g1 [.int .i64 2, .int .i64 5, .int .i64 0, .slice A1 o.T.length c1] 29 :: .blk g2 (ns (o.nw.set (nn % 4) [])) 30 :: .blk g3 (bs (o.iw.set (nn % 4) false)) 31 :: Own 39 7 A9 (o.T.length + 1) c10 (dvs (dl (o.T ++ [delT [UInt8.ofNat (97 + (nn % 4))]]))) :: L) w := s
              refine st_val (.pointer (some ⟨g1, 3, none⟩)) ha (by kernel_rfl) (by kernel_rfl) ?_
              clear ha; intro a ha
              refine st_exd ha (by kernel_rfl) (ex_store (of_ := 3) 2 [.slice A9 (o.T.length + 1) c10] s rfl rfl (by kernel_rfl) (by kernel_rfl) (Tryd.sizeOf27 _) rfl (by simp [Value.oneCell']) (Nat.le_of_ble_eq_true rfl)) ?_
              clear ha; rintro w a s ha
              replace s : St W (.blk g8 [.int .i64 4, .string (str [UInt8.ofNat (97 + (nn % 4))]), .string (str []), .string (str []), .string (str []), .bool false, .slice none 0 0] 39 :: .blk g4 [.int .u8 (((UInt8.ofNat (97 + (nn % 4))).toNat : Nat) : Int)] 5 :: .blk g1 [.int .i64 2, .int .i64 5, .int .i64 0, .slice A9 (o.T.length + 1) c10] 29 :: .blk g2 (ns (o.nw.set (nn % 4) [])) 30 :: .blk g3 (bs (o.iw.set (nn % 4) false)) 31 :: Own 39 7 A9 (o.T.length + 1) c10 (dvs (dl (o.T ++ [delT [UInt8.ofNat (97 + (nn % 4))]]))) :: L) w := s
              refine wpList_nil ?_
              refine block_normal ?_
              refine then_normal ?_
              replace s := (((s.at_ (j := 5) rfl).at_ (j := 5) rfl).at_ (j := 5) rfl).at_ (j := 5) rfl
              replace s : St W (.blk g1 [.int .i64 2, .int .i64 5, .int .i64 0, .slice A9 (o.T.length + 1) c10] 29 :: .blk g2 (ns (o.nw.set (nn % 4) [])) 30 :: .blk g3 (bs (o.iw.set (nn % 4) false)) 31 :: Own 39 7 A9 (o.T.length + 1) c10 (dvs (dl (o.T ++ [delT [UInt8.ofNat (97 + (nn % 4))]]))) :: L) w := s.keep 4 2
              have hsa : stepA i nn o = ⟨o.nw.set (nn % 4) [], o.iw.set (nn % 4) false, o.T ++ [delT (keyB (nn % 4))]⟩ := by unfold stepA; rw [if_neg (by omega), if_pos (by omega)]
              rw [show o.T.length + 1 = (stepA i nn o).T.length from by rw [hsa]; simp] at s
              exact ⟨A9, c10, (Has.cons ha (by kernel_rfl) (by kernel_rfl) (Has.cons ha (by kernel_rfl) (by kernel_rfl) (Has.cons ha (by kernel_rfl) (by kernel_rfl) (Has.cons ha (by kernel_rfl) (by kernel_rfl) (Has.cons ha (by kernel_rfl) (by kernel_rfl) (Has.cons ha (by kernel_rfl) (by kernel_rfl) (Has.cons ha (by kernel_rfl) (by kernel_rfl) (Has.cons ha (by kernel_rfl) (by kernel_rfl) (Has.nil ha))))))))), by rw [hsa] at s ⊢; exact s⟩
            · rw [hb] at ha; have hb_ := hb; replace hb := ne_of_beq_false hb
              refine wp_skip ?_
              refine block_normal ?_
              refine then_normal ?_
              replace s := (((s.at_ (j := 4) rfl).at_ (j := 4) rfl).at_ (j := 4) rfl).at_ (j := 4) rfl
              replace s : St W (.blk g1 [.int .i64 2, .int .i64 5, .int .i64 0, .slice A1 o.T.length c1] 29 :: .blk g2 (ns o.nw) 30 :: .blk g3 (bs o.iw) 31 :: Own 39 7 A1 o.T.length c1 (dvs (dl o.T)) :: L) w := s.keep 4 1
              have hsa : stepA i nn o = o := by unfold stepA; rw [if_neg (by omega), if_neg (by omega)]
              exact ⟨A1, c1, (Has.cons ha (by kernel_rfl) (by kernel_rfl) (Has.cons ha (by kernel_rfl) (by kernel_rfl) (Has.cons ha (by kernel_rfl) (by kernel_rfl) (Has.cons ha (by kernel_rfl) (by kernel_rfl) (Has.cons ha (by kernel_rfl) (by kernel_rfl) (Has.cons ha (by kernel_rfl) (by kernel_rfl) (Has.cons ha (by kernel_rfl) (by kernel_rfl) (Has.cons ha (by kernel_rfl) (by kernel_rfl) (Has.nil ha))))))))), by rw [hsa]; exact s⟩
        · clear ha s; rintro a w ⟨A2, c2, ha, s⟩
          have hsl := stepA_len (o := o) i nn
          refine wp_region_head 11 (fun w => BlkIs g1 [.int .i64 2, .int .i64 5, .int .i64 0, .slice A2 ((stepA i nn o).T.length) c2] w ∧ BlkIs g2 (ns (stepA i nn o).nw) w ∧ BlkIs g3 (bs (stepA i nn o).iw) w ∧ True) (by kernel_rfl) (by decide) ?_
          replace s := s.drew; generalize _root_.Go.World.drew _ = w at s ⊢
          have hS : (fun w => BlkIs g1 [.int .i64 2, .int .i64 5, .int .i64 0, .slice A2 ((stepA i nn o).T.length) c2] w ∧ BlkIs g2 (ns (stepA i nn o).nw) w ∧ BlkIs g3 (bs (stepA i nn o).iw) w ∧ True) w := ⟨s.blkIs 0 rfl, s.blkIs 1 rfl, s.blkIs 2 rfl, trivial⟩
          refine hd_val (i := 0) (.pointer (some ⟨g1, 3, none⟩)) ha rfl (by kernel_rfl) (fun _ _ _ h => h) (by kernel_rfl) (fun w hS => (by kernel_rfl)) hS ?_
          clear ha; intro a ha
          refine hd_val (i := 1) (.slice A2 ((stepA i nn o).T.length) c2) ha rfl (by kernel_rfl) (fun _ _ _ h => h) (by kernel_rfl) (fun w hS => run_load1 (of_ := 3) hS.1 rfl (by kernel_rfl) Tryd.isAgg27 rfl) hS ?_
          clear ha; intro a ha
          refine hd_val (i := 2) (.string (str [UInt8.ofNat (97 + (nn % 4))])) ha rfl (by kernel_rfl) (fun _ _ _ h => h) (by kernel_rfl) (fun w hS => (by kernel_rfl)) hS ?_
          clear ha; intro a ha
          refine hd_val (i := 3) (.int .i64 ((nn % 4 : Nat) : Int)) ha rfl (by kernel_rfl) (fun _ _ _ h => h) (by kernel_rfl) (fun w hS => (by kernel_rfl)) hS ?_
          clear ha; intro a ha
          refine hd_val (i := 4) (.pointer (some ⟨g2, nn % 4, none⟩)) ha rfl (by kernel_rfl) (fun _ _ _ h => h) (by kernel_rfl) (fun w hS => (run_indexArr (kd := .i64) (i := ((nn % 4 : Nat) : Int)) (nn % 4) rfl Tryd.underlying30 Tryd.sizeOf9 (by kernel_rfl) (by kernel_rfl) rfl (by first | assumption | omega) _)) hS ?_
          clear ha; intro a ha
          refine hd_val (i := 5) (.string (str ((stepA i nn o).nw.getD (nn % 4) []))) ha rfl (by kernel_rfl) (fun _ _ _ h => h) (by kernel_rfl) (fun w hS => run_load1 (of_ := nn % 4) hS.2.1 rfl (by kernel_rfl) Tryd.isAgg9 (ns_at (by first | omega | (simp only [List.length_set]; omega)))) hS ?_
          clear ha; intro a ha
          refine hd_val (i := 6) (.int .i64 ((nn % 4 : Nat) : Int)) ha rfl (by kernel_rfl) (fun _ _ _ h => h) (by kernel_rfl) (fun w hS => (by kernel_rfl)) hS ?_
          clear ha; intro a ha
          refine hd_val (i := 7) (.pointer (some ⟨g3, nn % 4, none⟩)) ha rfl (by kernel_rfl) (fun _ _ _ h => h) (by kernel_rfl) (fun w hS => (run_indexArr (kd := .i64) (i := ((nn % 4 : Nat) : Int)) (nn % 4) rfl Tryd.underlying31 Tryd.sizeOf4 (by kernel_rfl) (by kernel_rfl) rfl (by first | assumption | omega) _)) hS ?_
          clear ha; intro a ha
          refine hd_val (i := 8) (.bool ((stepA i nn o).iw.getD (nn % 4) false)) ha rfl (by kernel_rfl) (fun _ _ _ h => h) (by kernel_rfl) (fun w hS => run_load1 (of_ := nn % 4) hS.2.2.1 rfl (by kernel_rfl) Tryd.isAgg4 (bs_at (by first | omega | (simp only [List.length_set]; omega)))) hS ?_
          clear ha; intro a ha
          refine hd_call (i := 9) ha rfl (by kernel_rfl) (by kernel_rfl) (by kernel_rfl) (get_any W _ w [UInt8.ofNat (97 + (nn % 4))] ((stepA i nn o).nw.getD (nn % 4) []) ((stepA i nn o).iw.getD (nn % 4) false) s) ?_
          clear hS; rintro _ w ⟨rfl, s⟩
          have hS : (fun w => BlkIs g1 [.int .i64 2, .int .i64 5, .int .i64 0, .slice A2 ((stepA i nn o).T.length) c2] w ∧ BlkIs g2 (ns (stepA i nn o).nw) w ∧ BlkIs g3 (bs (stepA i nn o).iw) w ∧ True) w := ⟨s.blkIs 0 rfl, s.blkIs 1 rfl, s.blkIs 2 rfl, trivial⟩
          refine ⟨_, rfl, hS, ?_⟩; clear ha; intro a ha
          refine hd_ex (i := 10) ha rfl (by kernel_rfl) (by kernel_rfl) (ex_buildSlice elt27 _ zs27 [.int .i64 1, .string (str [UInt8.ofNat (97 + (nn % 4))]), .string (str ((stepA i nn o).nw.getD (nn % 4) [])), .string (str []), .string (str []), .bool ((stepA i nn o).iw.getD (nn % 4) false), .slice none 0 0] s rfl (by kernel_rfl) (by decide)) ?_
          clear hS; rintro _ w ⟨g11, rfl, s⟩
          have hS : (fun w => BlkIs g1 [.int .i64 2, .int .i64 5, .int .i64 0, .slice A2 ((stepA i nn o).T.length) c2] w ∧ BlkIs g2 (ns (stepA i nn o).nw) w ∧ BlkIs g3 (bs (stepA i nn o).iw) w ∧ True) w := ⟨s.blkIs 1 rfl, s.blkIs 2 rfl, s.blkIs 3 rfl, trivial⟩
          refine ⟨hS, ?_⟩; clear ha; intro a ha
          refine Head.done (by kernel_rfl) ?_
          clear hS; simp only [List.drop_succ_cons, List.drop_zero]
          refine st_ex ha (by kernel_rfl) (ex_append (m := 1) (d' := 1) elt27 (by decide) 4 [.int .i64 1, .string (str [UInt8.ofNat (97 + (nn % 4))]), .string (str ((stepA i nn o).nw.getD (nn % 4) [])), .string (str []), .string (str []), .bool ((stepA i nn o).iw.getD (nn % 4) false), .slice none 0 0] s rfl (by kernel_rfl) (by kernel_rfl) rfl (reads_blk (s.blkIs 0 rfl) rfl) (by simp [Value.oneCell']) (by simp only [maxLen]; omega) (by omega)) ?_
          clear ha; rintro _ w a ⟨A12, c13, rfl, hA_, s⟩ ha
          rw [show dvs (dl (stepA i nn o).T) ++ [.int .i64 1, .string (str [UInt8.ofNat (97 + (nn % 4))]), .string (str ((stepA i nn o).nw.getD (nn % 4) [])), .string (str []), .string (str []), .bool ((stepA i nn o).iw.getD (nn % 4) false), .slice none 0 0] = dvs (dl ((stepA i nn o).T ++ [getT [UInt8.ofNat (97 + (nn % 4))] ((stepA i nn o).nw.getD (nn % 4) []) ((stepA i nn o).iw.getD (nn % 4) false)])) from dl_snoc ((stepA i nn o).T) (getT [UInt8.ofNat (97 + (nn % 4))] ((stepA i nn o).nw.getD (nn % 4) []) ((stepA i nn o).iw.getD (nn % 4) false)) rfl] at s
          replace s : St W (.blk g11 [.int .i64 1, .string (str [UInt8.ofNat (97 + (nn % 4))]), .string (str ((stepA i nn o).nw.getD (nn % 4) [])), .string (str []), .string (str []), .bool ((stepA i nn o).iw.getD (nn % 4) false), .slice none 0 0] 39 :: .blk g1 [.int .i64 2, .int .i64 5, .int .i64 0, .slice A2 ((stepA i nn o).T.length) c2] 29 :: .blk g2 (ns (stepA i nn o).nw) 30 :: .blk g3 (bs (stepA i nn o).iw) 31 :: Own 39 7 A12 ((stepA i nn o).T.length + 1) c13 (dvs (dl ((stepA i nn o).T ++ [getT [UInt8.ofNat (97 + (nn % 4))] ((stepA i nn o).nw.getD (nn % 4) []) ((stepA i nn o).iw.getD (nn % 4) false)]))) :: L) w := s
          replace s : St W (.blk g11 [.int .i64 1, .string (str [UInt8.ofNat (97 + (nn % 4))]), .string (str ((stepA i nn o).nw.getD (nn % 4) [])), .string (str []), .string (str []), .bool ((stepA i nn o).iw.getD (nn % 4) false), .slice none 0 0] 39 :: .blk g1 [.int .i64 2, .int .i64 5, .int .i64 0, .slice A2 ((stepA i nn o).T.length) c2] 29 :: .blk g2 (ns (stepA i nn o).nw) 30 :: .blk g3 (bs (stepA i nn o).iw) 31 :: Own 39 7 A12 ((stepA i nn o).T.length + 1) c13 (dvs (dl ((stepA i nn o).T ++ [getT [UInt8.ofNat (97 + (nn % 4))] ((stepA i nn o).nw.getD (nn % 4) []) ((stepA i nn o).iw.getD (nn % 4) false)]))) :: L) w := s
          refine st_val (.pointer (some ⟨g1, 3, none⟩)) ha (by kernel_rfl) (by kernel_rfl) ?_
          clear ha; intro a ha
          refine st_exd ha (by kernel_rfl) (ex_store (of_ := 3) 1 [.slice A12 ((stepA i nn o).T.length + 1) c13] s rfl rfl (by kernel_rfl) (by kernel_rfl) (Tryd.sizeOf27 _) rfl (by simp [Value.oneCell']) (Nat.le_of_ble_eq_true rfl)) ?_
          clear ha; rintro w a s ha
          replace s : St W (.blk g11 [.int .i64 1, .string (str [UInt8.ofNat (97 + (nn % 4))]), .string (str ((stepA i nn o).nw.getD (nn % 4) [])), .string (str []), .string (str []), .bool ((stepA i nn o).iw.getD (nn % 4) false), .slice none 0 0] 39 :: .blk g1 [.int .i64 2, .int .i64 5, .int .i64 0, .slice A12 ((stepA i nn o).T.length + 1) c13] 29 :: .blk g2 (ns (stepA i nn o).nw) 30 :: .blk g3 (bs (stepA i nn o).iw) 31 :: Own 39 7 A12 ((stepA i nn o).T.length + 1) c13 (dvs (dl ((stepA i nn o).T ++ [getT [UInt8.ofNat (97 + (nn % 4))] ((stepA i nn o).nw.getD (nn % 4) []) ((stepA i nn o).iw.getD (nn % 4) false)]))) :: L) w := s
          refine wpList_nil ?_
          refine block_normal ?_
          refine then_normal ?_
          refine wp_region_lit ?_
          refine st_val (.int .i64 ((i : Nat) : Int)) ha (by kernel_rfl) (by kernel_rfl) ?_
          clear ha; intro a ha
          refine st_val (.int .i64 ((i + 1 : Nat) : Int)) ha (by kernel_rfl) (run_arith (((i : Nat) : Int) + (1 : Int)) ((i + 1 : Nat) : Int) rfl (by kernel_rfl) (by kernel_rfl) (.inl ⟨rfl, rfl⟩) (by rw [wrap64_in (by omega)]; try omega) _) ?_
          clear ha; intro a ha
          refine st_val (.int .i64 ((i + 1 : Nat) : Int)) ha (by kernel_rfl) (by kernel_rfl) ?_
          clear ha; intro a ha
          refine wpList_nil ?_
          refine then_normal ?_
          replace s := (((s.at_ (j := 4) rfl).at_ (j := 4) rfl).at_ (j := 4) rfl).at_ (j := 4) rfl
          replace s : St W (.blk g1 [.int .i64 2, .int .i64 5, .int .i64 0, .slice A12 ((stepA i nn o).T.length + 1) c13] 29 :: .blk g2 (ns (stepA i nn o).nw) 30 :: .blk g3 (bs (stepA i nn o).iw) 31 :: Own 39 7 A12 ((stepA i nn o).T.length + 1) c13 (dvs (dl ((stepA i nn o).T ++ [getT [UInt8.ofNat (97 + (nn % 4))] ((stepA i nn o).nw.getD (nn % 4) []) ((stepA i nn o).iw.getD (nn % 4) false)]))) :: L) w := s.keep 4 1
          rw [show (stepA i nn o).T.length + 1 = (stepO i nn o).T.length from by unfold stepO; simp] at s
          exact ⟨(i + 1, stepO i nn o, A12, c13), (show l1.length - (i + 1) < l1.length - i by omega), (Has.cons ha (by kernel_rfl) (by kernel_rfl) (Has.cons ha (by kernel_rfl) (by kernel_rfl) (Has.cons ha (by kernel_rfl) (by kernel_rfl) (Has.cons ha (by kernel_rfl) (by kernel_rfl) (Has.cons ha (by kernel_rfl) (by kernel_rfl) (Has.cons ha (by kernel_rfl) (by kernel_rfl) (Has.nil ha))))))), s, (show i + 1 ≤ l1.length ∧ i + 1 ≤ 20 by omega), hok.step i nn, (by have := stepO_ops hp.2.2.1 i nn; exact ⟨this.1, by have := this.2; omega⟩), noRows_step hp.2.2.2 i nn⟩
      · rw [hb] at ha; replace hb : ¬ (((i : Nat) : Int) < (20 : Int)) := of_decide_eq_false hb
        refine wp_exit ?_
        refine then_exit ?_
        refine then_exit ?_
        refine block_hit ?_
        refine then_normal ?_
        refine wp_seq ?_
        refine wp_region_lit ?_
        refine st_call ha (by kernel_rfl) (by kernel_rfl) (at_any W _ w 6 s) ?_
        rintro _ w ⟨rfl, s⟩
        refine ⟨_, rfl, ?_⟩; clear ha; intro a ha
        refine st_val (.agg #[.int .i64 1, .int .i64 6, .int .i64 0, .slice none 0 0]) ha (by kernel_rfl) (by kernel_rfl) ?_
        clear ha; intro a ha
        refine st_ex ha (by kernel_rfl) (ex_alloc [.int .i64 0, .int .i64 0, .int .i64 0, .slice none 0 0] s rfl (Tryd.zeroValue29 _) (by kernel_rfl)) ?_
        clear ha; rintro _ w a ⟨g14, rfl, s⟩ ha
        refine st_exd ha (by kernel_rfl) (ex_store (of_ := 0) 0 [.int .i64 1, .int .i64 6, .int .i64 0, .slice none 0 0] s rfl rfl (by kernel_rfl) (by kernel_rfl) (Tryd.sizeOf29 _) rfl (by simp [Value.oneCell']) (Nat.le_of_ble_eq_true rfl)) ?_
        clear ha; rintro w a s ha
        replace s : St W (.blk g14 [.int .i64 1, .int .i64 6, .int .i64 0, .slice none 0 0] 29 :: .blk g1 [.int .i64 2, .int .i64 5, .int .i64 0, .slice A1 o.T.length c1] 29 :: .blk g2 (ns o.nw) 30 :: .blk g3 (bs o.iw) 31 :: Own 39 7 A1 o.T.length c1 (dvs (dl o.T)) :: L) w := s
        refine wpList_nil ?_
        refine then_normal ?_
        refine wp_seq ?_
        refine wp_seq ?_
        refine wp_region_lit ?_
        refine st_val (.int .i64 0) ha (by kernel_rfl) (by kernel_rfl) ?_
        clear ha; intro a ha
        refine wpList_nil ?_
        refine then_normal ?_
        refine wp_block ?_
        have hp0 := hp
        replace s := Own.none_ (e := 39) (k := 7) none s
        replace s : St W (Own 39 7 none 0 0 [] :: .blk g14 [.int .i64 1, .int .i64 6, .int .i64 0, .slice none 0 0] 29 :: .blk g1 [.int .i64 2, .int .i64 5, .int .i64 0, .slice A1 o.T.length c1] 29 :: .blk g2 (ns o.nw) 30 :: .blk g3 (bs o.iw) 31 :: Own 39 7 A1 o.T.length c1 (dvs (dl o.T)) :: L) w := s
        replace s := (((s.at_ (j := 5) rfl).at_ (j := 3) rfl).at_ (j := 2) rfl).at_ (j := 3) rfl
        replace s : St W (.blk g14 [.int .i64 1, .int .i64 6, .int .i64 0, .slice none 0 0] 29 :: Own 39 7 none 0 0 [] :: .blk g1 [.int .i64 2, .int .i64 5, .int .i64 0, .slice A1 o.T.length c1] 29 :: Own 39 7 A1 o.T.length c1 (dvs (dl o.T)) :: L) w := s.keep 4 2
        refine wp_loopG (G := (Nat × List Td × Option Addr × Nat)) (fun ⟨i, U, A2, c2⟩ a w => Has a 117 [(0, .slice A l1.length ca), (1, .slice B l2.length cb), (5, .pointer (some ⟨g1, 0, none⟩)), (12, .pointer (some ⟨g14, 0, none⟩)), (13, .int .i64 ((i : Nat) : Int))] ∧ St W (.blk g14 [.int .i64 1, .int .i64 6, .int .i64 0, .slice A2 U.length c2] 29 :: Own 39 7 A2 U.length c2 (dvs (dl U)) :: .blk g1 [.int .i64 2, .int .i64 5, .int .i64 0, .slice A1 o.T.length c1] 29 :: Own 39 7 A1 o.T.length c1 (dvs (dl o.T)) :: L) w ∧ ((i ≤ l2.length ∧ i ≤ 20) ∧ U.length ≤ i ∧ (∀ d ∈ U, d.op = 3) ∧ noRows U)) (fun ⟨i, U, A2, c2⟩ => l2.length - i) (0, [], none, 0) ?_ ?_
        · exact ⟨(Has.cons ha (by kernel_rfl) (by kernel_rfl) (Has.cons ha (by kernel_rfl) (by kernel_rfl) (Has.cons ha (by kernel_rfl) (by kernel_rfl) (Has.cons ha (by kernel_rfl) (by kernel_rfl) (Has.cons ha (by kernel_rfl) (by kernel_rfl) (Has.nil ha)))))), s, ⟨⟨Nat.zero_le _, Nat.zero_le _⟩, Nat.le_refl _, (fun d hd => by cases hd), fun t ht => by cases ht⟩⟩
        · clear ha s; rintro ⟨i, U, A2, c2⟩ a w ⟨ha, s, hp⟩
          refine wp_seq ?_
          refine wp_seq ?_
          refine wp_region_lit ?_
          refine st_val (.int .i64 ((i : Nat) : Int)) ha (by kernel_rfl) (by kernel_rfl) ?_
          clear ha; intro a ha
          refine st_val (.slice B l2.length cb) ha (by kernel_rfl) (by kernel_rfl) ?_
          clear ha; intro a ha
          refine st_val (.int .i64 ((l2.length : Nat) : Int)) ha (by kernel_rfl) (by kernel_rfl) ?_
          clear ha; intro a ha
          refine st_val (.bool (decide (((i : Nat) : Int) < ((l2.length : Nat) : Int)))) ha (by kernel_rfl) (by kernel_rfl) ?_
          clear ha; intro a ha
          refine st_val (.bool (decide (((i : Nat) : Int) < ((l2.length : Nat) : Int)))) ha (by kernel_rfl) (by kernel_rfl) ?_
          clear ha; intro a ha
          rcases Bool.eq_false_or_eq_true (decide (((i : Nat) : Int) < ((l2.length : Nat) : Int))) with hb | hb
          · rw [hb] at ha; replace hb : (((i : Nat) : Int) < ((l2.length : Nat) : Int)) := of_decide_eq_true hb
            have hlt := hb
            refine st_val (.int .i64 ((i : Nat) : Int)) ha (by kernel_rfl) (by kernel_rfl) ?_
            clear ha; intro a ha
            refine st_val (.bool (decide (((i : Nat) : Int) < (20 : Int)))) ha (by kernel_rfl) (by kernel_rfl) ?_
            clear ha; intro a ha
            refine st_val (.bool (decide (((i : Nat) : Int) < (20 : Int)))) ha (by kernel_rfl) (by kernel_rfl) ?_
            clear ha; intro a ha
            refine wpList_nil ?_
            refine then_normal ?_
            refine wp_part (decide (((i : Nat) : Int) < (20 : Int))) ha rfl (by kernel_rfl) (fun hb => ?_) (fun hb => ?_)
            · rw [hb] at ha; replace hb : (((i : Nat) : Int) < (20 : Int)) := of_decide_eq_true hb
              obtain ⟨y, hy⟩ : ∃ y, l2[i]? = some y := ⟨_, List.getElem?_eq_getElem (by omega)⟩
              obtain ⟨mm, hmm⟩ : ∃ mm : Nat, y % 4 = mm := ⟨(y % 4).toNat, by have := Int.emod_nonneg y (show (4 : Int) ≠ 0 by omega); omega⟩
              have hml : mm < 4 := by have := Int.emod_lt_of_pos y (show (0 : Int) < 4 by omega); omega
              have hUl := hp.2.1
              obtain ⟨bd, hB⟩ := Reads.addr ((hr2 _ s.sat.tail.tail.tail.tail)) (by omega)
              subst hB
              refine wp_skip ?_
              refine then_normal ?_
              refine wp_seq ?_
              refine wp_block ?_
              refine wp_region_head 13 (fun w => BlkIs g14 [.int .i64 1, .int .i64 6, .int .i64 0, .slice A2 U.length c2] w ∧ Reads w 1 (some bd) l2.length (ints l2) ∧ True) (by kernel_rfl) (by decide) ?_
              replace s := s.drew; generalize _root_.Go.World.drew _ = w at s ⊢
              have hS : (fun w => BlkIs g14 [.int .i64 1, .int .i64 6, .int .i64 0, .slice A2 U.length c2] w ∧ Reads w 1 (some bd) l2.length (ints l2) ∧ True) w := ⟨s.blkIs 0 rfl, (hr2 _ s.sat.tail.tail.tail.tail), trivial⟩
              refine hd_val (i := 0) (.pointer (some ⟨g14, 3, none⟩)) ha rfl (by kernel_rfl) (fun _ _ _ h => h) (by kernel_rfl) (fun w hS => (by kernel_rfl)) hS ?_
              clear ha; intro a ha
              refine hd_val (i := 1) (.slice A2 U.length c2) ha rfl (by kernel_rfl) (fun _ _ _ h => h) (by kernel_rfl) (fun w hS => run_load1 (of_ := 3) hS.1 rfl (by kernel_rfl) Tryd.isAgg27 rfl) hS ?_
              clear ha; intro a ha
              refine hd_val (i := 2) (.slice (some bd) l2.length cb) ha rfl (by kernel_rfl) (fun _ _ _ h => h) (by kernel_rfl) (fun w hS => (by kernel_rfl)) hS ?_
              clear ha; intro a ha
              refine hd_val (i := 3) (.int .i64 ((i : Nat) : Int)) ha rfl (by kernel_rfl) (fun _ _ _ h => h) (by kernel_rfl) (fun w hS => (by kernel_rfl)) hS ?_
              clear ha; intro a ha
              refine hd_val (i := 4) (.pointer (some (bd.add (i * 1)))) ha rfl (by kernel_rfl) (fun _ _ _ h => h) (by kernel_rfl) (fun w hS => (run_indexAddr' (kd := .i64) (i := ((i : Nat) : Int)) (n := l2.length) (c := cb) i rfl Tryd.underlying22 Tryd.sizeOf3 (by kernel_rfl) (by kernel_rfl) rfl (by first | assumption | omega) _)) hS ?_
              clear ha; intro a ha
              refine hd_val (i := 5) (.int .i64 y) ha rfl (by kernel_rfl) (fun _ _ _ h => h) (by kernel_rfl) (fun w hS => run_loadRow1 (m := i) hS.2.1 rfl (by kernel_rfl) Tryd.isAgg3 (ints_at hy)) hS ?_
              clear ha; intro a ha
              refine hd_call (i := 6) ha rfl (by kernel_rfl) (by kernel_rfl) (by kernel_rfl) ((by have := bring_pos W _ w y 4 (by omega) (by omega) s; rwa [hmm] at this)) ?_
              clear hS; rintro _ w ⟨rfl, s⟩
              have hS : (fun w => BlkIs g14 [.int .i64 1, .int .i64 6, .int .i64 0, .slice A2 U.length c2] w ∧ Reads w 1 (some bd) l2.length (ints l2) ∧ True) w := ⟨s.blkIs 0 rfl, (hr2 _ s.sat.tail.tail.tail.tail), trivial⟩
              refine ⟨_, rfl, hS, ?_⟩; clear ha; intro a ha
              refine hd_val (i := 7) (.int .i64 ((97 + mm : Nat) : Int)) ha rfl (by kernel_rfl) (fun _ _ _ h => h) (by kernel_rfl) (fun w hS => (run_arith ((97 : Int) + ((mm : Nat) : Int)) ((97 + mm : Nat) : Int) rfl (by kernel_rfl) (by kernel_rfl) (.inl ⟨rfl, rfl⟩) (by rw [wrap64_in (by omega)]; omega) _)) hS ?_
              clear ha; intro a ha
              refine hd_val (i := 8) (.int .u8 (((UInt8.ofNat (97 + mm)).toNat : Nat) : Int)) ha rfl (by kernel_rfl) (fun _ _ _ h => h) (by kernel_rfl) (fun w hS => (run_conv (p := ((97 + mm : Nat) : Int)) (((UInt8.ofNat (97 + mm)).toNat : Nat) : Int) rfl (by kernel_rfl) Tryd.underlying3 Tryd.underlying5 (conv_u8 _ (by omega)) _)) hS ?_
              clear ha; intro a ha
              refine hd_ex (i := 9) ha rfl (by kernel_rfl) (by kernel_rfl) (ex_buildSlice elt33 _ zs33 [.int .u8 (((UInt8.ofNat (97 + mm)).toNat : Nat) : Int)] s rfl (by kernel_rfl) (by decide)) ?_
              clear hS; rintro _ w ⟨g15, rfl, s⟩
              have hS : (fun w => BlkIs g14 [.int .i64 1, .int .i64 6, .int .i64 0, .slice A2 U.length c2] w ∧ Reads w 1 (some bd) l2.length (ints l2) ∧ True) w := ⟨s.blkIs 1 rfl, (hr2 _ s.sat.tail.tail.tail.tail.tail), trivial⟩
              refine ⟨hS, ?_⟩; clear ha; intro a ha
              refine hd_ex (i := 10) ha rfl (by kernel_rfl) (by kernel_rfl) (ex_bstr (b := UInt8.ofNat (97 + mm)) (c := 1) 0 s rfl rfl (by kernel_rfl) Tryd.underlying33 Tryd.underlying5 Tryd.underlying9) ?_
              clear hS; rintro _ w ⟨rfl, s⟩
              replace s : St W (.blk g15 [.int .u8 (((UInt8.ofNat (97 + mm)).toNat : Nat) : Int)] 5 :: .blk g14 [.int .i64 1, .int .i64 6, .int .i64 0, .slice A2 U.length c2] 29 :: Own 39 7 A2 U.length c2 (dvs (dl U)) :: .blk g1 [.int .i64 2, .int .i64 5, .int .i64 0, .slice A1 o.T.length c1] 29 :: Own 39 7 A1 o.T.length c1 (dvs (dl o.T)) :: L) w := s
              have hS : (fun w => BlkIs g14 [.int .i64 1, .int .i64 6, .int .i64 0, .slice A2 U.length c2] w ∧ Reads w 1 (some bd) l2.length (ints l2) ∧ True) w := ⟨s.blkIs 1 rfl, (hr2 _ s.sat.tail.tail.tail.tail.tail), trivial⟩
              refine ⟨hS, ?_⟩; clear ha; intro a ha
              refine hd_call (i := 11) ha rfl (by kernel_rfl) (by kernel_rfl) (by kernel_rfl) (put_any W _ w [UInt8.ofNat (97 + mm)] [122] s) ?_
              clear hS; rintro _ w ⟨rfl, s⟩
              have hS : (fun w => BlkIs g14 [.int .i64 1, .int .i64 6, .int .i64 0, .slice A2 U.length c2] w ∧ Reads w 1 (some bd) l2.length (ints l2) ∧ True) w := ⟨s.blkIs 1 rfl, (hr2 _ s.sat.tail.tail.tail.tail.tail), trivial⟩
              refine ⟨_, rfl, hS, ?_⟩; clear ha; intro a ha
              refine hd_ex (i := 12) ha rfl (by kernel_rfl) (by kernel_rfl) (ex_buildSlice elt27 _ zs27 [.int .i64 3, .string (str [UInt8.ofNat (97 + mm)]), .string (str [122]), .string (str []), .string (str []), .bool false, .slice none 0 0] s rfl (by kernel_rfl) (by decide)) ?_
              clear hS; rintro _ w ⟨g16, rfl, s⟩
              have hS : (fun w => BlkIs g14 [.int .i64 1, .int .i64 6, .int .i64 0, .slice A2 U.length c2] w ∧ Reads w 1 (some bd) l2.length (ints l2) ∧ True) w := ⟨s.blkIs 2 rfl, (hr2 _ s.sat.tail.tail.tail.tail.tail.tail), trivial⟩
              refine ⟨hS, ?_⟩; clear ha; intro a ha
              refine Head.done (by kernel_rfl) ?_
              clear hS; simp only [List.drop_succ_cons, List.drop_zero]
              refine st_ex ha (by kernel_rfl) (ex_append (m := 1) (d' := 1) elt27 (by decide) 3 [.int .i64 3, .string (str [UInt8.ofNat (97 + mm)]), .string (str [122]), .string (str []), .string (str []), .bool false, .slice none 0 0] s rfl (by kernel_rfl) (by kernel_rfl) rfl (reads_blk (s.blkIs 0 rfl) rfl) (by simp [Value.oneCell']) (by simp only [maxLen]; omega) (by omega)) ?_
              clear ha; rintro _ w a ⟨A17, c18, rfl, hA_, s⟩ ha
              rw [show dvs (dl U) ++ [.int .i64 3, .string (str [UInt8.ofNat (97 + mm)]), .string (str [122]), .string (str []), .string (str []), .bool false, .slice none 0 0] = dvs (dl (U ++ [putT [UInt8.ofNat (97 + mm)] [122]])) from dl_snoc U (putT [UInt8.ofNat (97 + mm)] [122]) rfl] at s
              replace s : St W (.blk g16 [.int .i64 3, .string (str [UInt8.ofNat (97 + mm)]), .string (str [122]), .string (str []), .string (str []), .bool false, .slice none 0 0] 39 :: .blk g15 [.int .u8 (((UInt8.ofNat (97 + mm)).toNat : Nat) : Int)] 5 :: .blk g14 [.int .i64 1, .int .i64 6, .int .i64 0, .slice A2 U.length c2] 29 :: Own 39 7 A17 (U.length + 1) c18 (dvs (dl (U ++ [putT [UInt8.ofNat (97 + mm)] [122]]))) :: .blk g1 [.int .i64 2, .int .i64 5, .int .i64 0, .slice A1 o.T.length c1] 29 :: Own 39 7 A1 o.T.length c1 (dvs (dl o.T)) :: L) w := s
              replace s : St W (.blk g16 [.int .i64 3, .string (str [UInt8.ofNat (97 + mm)]), .string (str [122]), .string (str []), .string (str []), .bool false, .slice none 0 0] 39 :: .blk g15 [.int .u8 (((UInt8.ofNat (97 + mm)).toNat : Nat) : Int)] 5 :: .blk g14 [.int .i64 1, .int .i64 6, .int .i64 0, .slice A2 U.length c2] 29 :: Own 39 7 A17 (U.length + 1) c18 (dvs (dl (U ++ [putT [UInt8.ofNat (97 + mm)] [122]]))) :: .blk g1 [.int .i64 2, .int .i64 5, .int .i64 0, .slice A1 o.T.length c1] 29 :: Own 39 7 A1 o.T.length c1 (dvs (dl o.T)) :: L) w := s
              refine st_val (.pointer (some ⟨g14, 3, none⟩)) ha (by kernel_rfl) (by kernel_rfl) ?_
              clear ha; intro a ha
              refine st_exd ha (by kernel_rfl) (ex_store (of_ := 3) 2 [.slice A17 (U.length + 1) c18] s rfl rfl (by kernel_rfl) (by kernel_rfl) (Tryd.sizeOf27 _) rfl (by simp [Value.oneCell']) (Nat.le_of_ble_eq_true rfl)) ?_
              clear ha; rintro w a s ha
              replace s : St W (.blk g16 [.int .i64 3, .string (str [UInt8.ofNat (97 + mm)]), .string (str [122]), .string (str []), .string (str []), .bool false, .slice none 0 0] 39 :: .blk g15 [.int .u8 (((UInt8.ofNat (97 + mm)).toNat : Nat) : Int)] 5 :: .blk g14 [.int .i64 1, .int .i64 6, .int .i64 0, .slice A17 (U.length + 1) c18] 29 :: Own 39 7 A17 (U.length + 1) c18 (dvs (dl (U ++ [putT [UInt8.ofNat (97 + mm)] [122]]))) :: .blk g1 [.int .i64 2, .int .i64 5, .int .i64 0, .slice A1 o.T.length c1] 29 :: Own 39 7 A1 o.T.length c1 (dvs (dl o.T)) :: L) w := s
              refine wpList_nil ?_
              refine block_normal ?_
              refine then_normal ?_
              refine wp_region_lit ?_
              refine st_val (.int .i64 ((i : Nat) : Int)) ha (by kernel_rfl) (by kernel_rfl) ?_
              clear ha; intro a ha
              refine st_val (.int .i64 ((i + 1 : Nat) : Int)) ha (by kernel_rfl) (run_arith (((i : Nat) : Int) + (1 : Int)) ((i + 1 : Nat) : Int) rfl (by kernel_rfl) (by kernel_rfl) (.inl ⟨rfl, rfl⟩) (by rw [wrap64_in (by omega)]; try omega) _) ?_
              clear ha; intro a ha
              refine st_val (.int .i64 ((i + 1 : Nat) : Int)) ha (by kernel_rfl) (by kernel_rfl) ?_
              clear ha; intro a ha
              refine wpList_nil ?_
              refine then_normal ?_
              replace s := (((s.at_ (j := 5) rfl).at_ (j := 5) rfl).at_ (j := 5) rfl).at_ (j := 5) rfl
              replace s : St W (.blk g14 [.int .i64 1, .int .i64 6, .int .i64 0, .slice A17 (U.length + 1) c18] 29 :: Own 39 7 A17 (U.length + 1) c18 (dvs (dl (U ++ [putT [UInt8.ofNat (97 + mm)] [122]]))) :: .blk g1 [.int .i64 2, .int .i64 5, .int .i64 0, .slice A1 o.T.length c1] 29 :: Own 39 7 A1 o.T.length c1 (dvs (dl o.T)) :: L) w := s.keep 4 2
              rw [show U.length + 1 = (U ++ [putT [UInt8.ofNat (97 + mm)] [122]]).length from by simp] at s
              exact ⟨(i + 1, (U ++ [putT [UInt8.ofNat (97 + mm)] [122]]), A17, c18), (show l2.length - (i + 1) < l2.length - i by omega), (Has.cons ha (by kernel_rfl) (by kernel_rfl) (Has.cons ha (by kernel_rfl) (by kernel_rfl) (Has.cons ha (by kernel_rfl) (by kernel_rfl) (Has.cons ha (by kernel_rfl) (by kernel_rfl) (Has.cons ha (by kernel_rfl) (by kernel_rfl) (Has.nil ha)))))), s, (show i + 1 ≤ l2.length ∧ i + 1 ≤ 20 by omega), (by rw [List.length_append]; simp; omega), (fun d hd => by rcases List.mem_append.1 hd with hd | hd; exact hp.2.2.1 d hd; rw [List.mem_singleton] at hd; subst hd; rfl), (fun t ht => by rcases List.mem_append.1 ht with ht | ht; exact hp.2.2.2 t ht; rw [List.mem_singleton] at ht; subst ht; exact ⟨rfl, Nat.le_refl _⟩)⟩
            · rw [hb] at ha; replace hb : ¬ (((i : Nat) : Int) < (20 : Int)) := of_decide_eq_false hb
              refine wp_exit ?_
              refine then_exit ?_
              refine then_exit ?_
              refine block_hit ?_
              refine then_normal ?_
              refine wp_seq ?_
              refine wp_region_lit ?_
              refine st_val (.agg #[.int .i64 1, .int .i64 6, .int .i64 0, .slice A2 U.length c2]) ha (by kernel_rfl) (run_loadN (of_ := 0) [.int .i64 1, .int .i64 6, .int .i64 0, .slice A2 U.length c2] (s.blkIs 0 rfl) rfl (by kernel_rfl) Tryd.isAgg29 Tryd.sizeOf29 rfl (Nat.le_of_ble_eq_true rfl)) ?_
              clear ha; intro a ha
              refine st_val (.agg #[.int .i64 2, .int .i64 5, .int .i64 0, .slice A1 o.T.length c1]) ha (by kernel_rfl) (run_loadN (of_ := 0) [.int .i64 2, .int .i64 5, .int .i64 0, .slice A1 o.T.length c1] (s.blkIs 2 rfl) rfl (by kernel_rfl) Tryd.isAgg29 Tryd.sizeOf29 rfl (Nat.le_of_ble_eq_true rfl)) ?_
              clear ha; intro a ha
              refine st_ex ha (by kernel_rfl) (ex_buildSlice elt43 _ zs43 [.int .i64 1, .int .i64 6, .int .i64 0, .slice A2 U.length c2, .int .i64 2, .int .i64 5, .int .i64 0, .slice A1 o.T.length c1] s rfl (by kernel_rfl) (by decide)) ?_
              clear ha; rintro _ w a ⟨g19, rfl, s⟩ ha
              rw [show ([.int .i64 1, .int .i64 6, .int .i64 0, .slice A2 U.length c2, .int .i64 2, .int .i64 5, .int .i64 0, .slice A1 o.T.length c1] : List Value) = nvs ([⟨1, 6, 0, A2, c2, dl U⟩, ⟨2, 5, 0, A1, c1, dl o.T⟩]) from by simp only [nvs, nv, List.flatMap_cons, List.flatMap_nil, List.cons_append, List.nil_append, List.append_nil, dl_len]] at s
              replace s : St W (.blk g19 (nvs ([⟨1, 6, 0, A2, c2, dl U⟩, ⟨2, 5, 0, A1, c1, dl o.T⟩])) 29 :: .blk g14 [.int .i64 1, .int .i64 6, .int .i64 0, .slice A2 U.length c2] 29 :: Own 39 7 A2 U.length c2 (dvs (dl U)) :: .blk g1 [.int .i64 2, .int .i64 5, .int .i64 0, .slice A1 o.T.length c1] 29 :: Own 39 7 A1 o.T.length c1 (dvs (dl o.T)) :: L) w := s
              have hol := hp0.2.2.1
              have htT : tns ([⟨1, 6, 0, A2, c2, dl U⟩, ⟨2, 5, 0, A1, c1, dl o.T⟩] : List Dn) = [⟨1, 6, 0, U⟩, ⟨2, 5, 0, o.T⟩] := by simp only [List.map_cons, List.map_nil, Dn.t, dl_t]
              have hlaw := own_law hp0.2.1.well hp.2.2.1 ⟨hol.1, by omega⟩ (by omega : U.length ≤ 1000)
              have hkn : Knows (.blk g19 (nvs ([⟨1, 6, 0, A2, c2, dl U⟩, ⟨2, 5, 0, A1, c1, dl o.T⟩])) 29 :: .blk g14 [.int .i64 1, .int .i64 6, .int .i64 0, .slice A2 U.length c2] 29 :: Own 39 7 A2 U.length c2 (dvs (dl U)) :: .blk g1 [.int .i64 2, .int .i64 5, .int .i64 0, .slice A1 o.T.length c1] 29 :: Own 39 7 A1 o.T.length c1 (dvs (dl o.T)) :: L) (DonesIn (some ⟨g19, 0, none⟩) [⟨1, 6, 0, A2, c2, dl U⟩, ⟨2, 5, 0, A1, c1, dl o.T⟩]) := fun w s => by
                refine ⟨Knows.reads_blk (j := 0) (k := 4) (n := 2) (cs := nvs ([⟨1, 6, 0, A2, c2, dl U⟩, ⟨2, 5, 0, A1, c1, dl o.T⟩])) rfl rfl w s, fun d hd => ?_⟩
                simp only [List.mem_cons, List.not_mem_nil, or_false] at hd
                rcases hd with rfl | rfl
                · exact dl_in (j := 2) hp.2.2.2 rfl w s
                · exact dl_in (j := 4) hp0.2.2.2 rfl w s
              have hbn : Bn ([⟨1, 6, 0, A2, c2, dl U⟩, ⟨2, 5, 0, A1, c1, dl o.T⟩] : List Dn) := ⟨by simp, fun d hd => by
                simp only [List.mem_cons, List.not_mem_nil, or_false] at hd
                rcases hd with rfl | rfl
                · exact dl_bl hp.2.2.2 (by omega)
                · exact dl_bl hp0.2.2.2 (by omega)⟩
              refine st_call ha (by kernel_rfl) (by kernel_rfl) (finds_true W hW _ w (some ⟨g19, 0, none⟩) 2 [⟨1, 6, 0, A2, c2, dl U⟩, ⟨2, 5, 0, A1, c1, dl o.T⟩] hkn hbn 0 0 false (by rw [htT]; exact hlaw.1) (fun o ho => by rw [htT] at ho ⊢; rw [hlaw.2 o ho]; exact ⟨rfl, rfl, rfl⟩) s) ?_
              rintro _ w ⟨rfl, s⟩
              refine ⟨_, rfl, ?_⟩; clear ha; intro a ha
              refine st_val (.bool true) ha (by kernel_rfl) (by kernel_rfl) ?_
              clear ha; intro a ha
              refine wpList_nil ?_
              refine then_normal ?_
              refine wp_ret ?_
              refine ret_with (v := .bool true) ha (results_1 rfl ha (res_tmp (by kernel_rfl) (by kernel_rfl))) ?_
              replace s := s.tail.tail.tail.tail.tail
              replace s : St W (L) w := s
              exact ⟨rfl, s⟩
          · rw [hb] at ha; replace hb : ¬ (((i : Nat) : Int) < ((l2.length : Nat) : Int)) := of_decide_eq_false hb
            refine st_pass ha (by kernel_rfl) ?_
            clear ha; intro a ha
            refine st_pass ha (by kernel_rfl) ?_
            clear ha; intro a ha
            refine st_val (.bool false) ha (by kernel_rfl) (by kernel_rfl) ?_
            clear ha; intro a ha
            refine wpList_nil ?_
            refine then_normal ?_
            refine wp_false ha rfl (by kernel_rfl) ?_
            refine wp_exit ?_
            refine then_exit ?_
            refine then_exit ?_
            refine block_hit ?_
            refine then_normal ?_
            refine wp_seq ?_
            refine wp_region_lit ?_
            refine st_val (.agg #[.int .i64 1, .int .i64 6, .int .i64 0, .slice A2 U.length c2]) ha (by kernel_rfl) (run_loadN (of_ := 0) [.int .i64 1, .int .i64 6, .int .i64 0, .slice A2 U.length c2] (s.blkIs 0 rfl) rfl (by kernel_rfl) Tryd.isAgg29 Tryd.sizeOf29 rfl (Nat.le_of_ble_eq_true rfl)) ?_
            clear ha; intro a ha
            refine st_val (.agg #[.int .i64 2, .int .i64 5, .int .i64 0, .slice A1 o.T.length c1]) ha (by kernel_rfl) (run_loadN (of_ := 0) [.int .i64 2, .int .i64 5, .int .i64 0, .slice A1 o.T.length c1] (s.blkIs 2 rfl) rfl (by kernel_rfl) Tryd.isAgg29 Tryd.sizeOf29 rfl (Nat.le_of_ble_eq_true rfl)) ?_
            clear ha; intro a ha
            refine st_ex ha (by kernel_rfl) (ex_buildSlice elt43 _ zs43 [.int .i64 1, .int .i64 6, .int .i64 0, .slice A2 U.length c2, .int .i64 2, .int .i64 5, .int .i64 0, .slice A1 o.T.length c1] s rfl (by kernel_rfl) (by decide)) ?_
            clear ha; rintro _ w a ⟨g20, rfl, s⟩ ha
            rw [show ([.int .i64 1, .int .i64 6, .int .i64 0, .slice A2 U.length c2, .int .i64 2, .int .i64 5, .int .i64 0, .slice A1 o.T.length c1] : List Value) = nvs ([⟨1, 6, 0, A2, c2, dl U⟩, ⟨2, 5, 0, A1, c1, dl o.T⟩]) from by simp only [nvs, nv, List.flatMap_cons, List.flatMap_nil, List.cons_append, List.nil_append, List.append_nil, dl_len]] at s
            replace s : St W (.blk g20 (nvs ([⟨1, 6, 0, A2, c2, dl U⟩, ⟨2, 5, 0, A1, c1, dl o.T⟩])) 29 :: .blk g14 [.int .i64 1, .int .i64 6, .int .i64 0, .slice A2 U.length c2] 29 :: Own 39 7 A2 U.length c2 (dvs (dl U)) :: .blk g1 [.int .i64 2, .int .i64 5, .int .i64 0, .slice A1 o.T.length c1] 29 :: Own 39 7 A1 o.T.length c1 (dvs (dl o.T)) :: L) w := s
            have hol := hp0.2.2.1
            have htT : tns ([⟨1, 6, 0, A2, c2, dl U⟩, ⟨2, 5, 0, A1, c1, dl o.T⟩] : List Dn) = [⟨1, 6, 0, U⟩, ⟨2, 5, 0, o.T⟩] := by simp only [List.map_cons, List.map_nil, Dn.t, dl_t]
            have hlaw := own_law hp0.2.1.well hp.2.2.1 ⟨hol.1, by omega⟩ (by omega : U.length ≤ 1000)
            have hkn : Knows (.blk g20 (nvs ([⟨1, 6, 0, A2, c2, dl U⟩, ⟨2, 5, 0, A1, c1, dl o.T⟩])) 29 :: .blk g14 [.int .i64 1, .int .i64 6, .int .i64 0, .slice A2 U.length c2] 29 :: Own 39 7 A2 U.length c2 (dvs (dl U)) :: .blk g1 [.int .i64 2, .int .i64 5, .int .i64 0, .slice A1 o.T.length c1] 29 :: Own 39 7 A1 o.T.length c1 (dvs (dl o.T)) :: L) (DonesIn (some ⟨g20, 0, none⟩) [⟨1, 6, 0, A2, c2, dl U⟩, ⟨2, 5, 0, A1, c1, dl o.T⟩]) := fun w s => by
              refine ⟨Knows.reads_blk (j := 0) (k := 4) (n := 2) (cs := nvs ([⟨1, 6, 0, A2, c2, dl U⟩, ⟨2, 5, 0, A1, c1, dl o.T⟩])) rfl rfl w s, fun d hd => ?_⟩
              simp only [List.mem_cons, List.not_mem_nil, or_false] at hd
              rcases hd with rfl | rfl
              · exact dl_in (j := 2) hp.2.2.2 rfl w s
              · exact dl_in (j := 4) hp0.2.2.2 rfl w s
            have hbn : Bn ([⟨1, 6, 0, A2, c2, dl U⟩, ⟨2, 5, 0, A1, c1, dl o.T⟩] : List Dn) := ⟨by simp, fun d hd => by
              simp only [List.mem_cons, List.not_mem_nil, or_false] at hd
              rcases hd with rfl | rfl
              · exact dl_bl hp.2.2.2 (by omega)
              · exact dl_bl hp0.2.2.2 (by omega)⟩
            refine st_call ha (by kernel_rfl) (by kernel_rfl) (finds_true W hW _ w (some ⟨g20, 0, none⟩) 2 [⟨1, 6, 0, A2, c2, dl U⟩, ⟨2, 5, 0, A1, c1, dl o.T⟩] hkn hbn 0 0 false (by rw [htT]; exact hlaw.1) (fun o ho => by rw [htT] at ho ⊢; rw [hlaw.2 o ho]; exact ⟨rfl, rfl, rfl⟩) s) ?_
            rintro _ w ⟨rfl, s⟩
            refine ⟨_, rfl, ?_⟩; clear ha; intro a ha
            refine st_val (.bool true) ha (by kernel_rfl) (by kernel_rfl) ?_
            clear ha; intro a ha
            refine wpList_nil ?_
            refine then_normal ?_
            refine wp_ret ?_
            refine ret_with (v := .bool true) ha (results_1 rfl ha (res_tmp (by kernel_rfl) (by kernel_rfl))) ?_
            replace s := s.tail.tail.tail.tail.tail
            replace s : St W (L) w := s
            exact ⟨rfl, s⟩
    · rw [hb] at ha; replace hb : ¬ (((i : Nat) : Int) < ((l1.length : Nat) : Int)) := of_decide_eq_false hb
      refine st_pass ha (by kernel_rfl) ?_
      clear ha; intro a ha
      refine st_pass ha (by kernel_rfl) ?_
      clear ha; intro a ha
      refine st_val (.bool false) ha (by kernel_rfl) (by kernel_rfl) ?_
      clear ha; intro a ha
      refine wpList_nil ?_
      refine then_normal ?_
      refine wp_false ha rfl (by kernel_rfl) ?_
      refine wp_exit ?_
      refine then_exit ?_
      refine then_exit ?_
      refine block_hit ?_
      refine then_normal ?_
      refine wp_seq ?_
      refine wp_region_lit ?_
      refine st_call ha (by kernel_rfl) (by kernel_rfl) (at_any W _ w 6 s) ?_
      rintro _ w ⟨rfl, s⟩
      refine ⟨_, rfl, ?_⟩; clear ha; intro a ha
      refine st_val (.agg #[.int .i64 1, .int .i64 6, .int .i64 0, .slice none 0 0]) ha (by kernel_rfl) (by kernel_rfl) ?_
      clear ha; intro a ha
      refine st_ex ha (by kernel_rfl) (ex_alloc [.int .i64 0, .int .i64 0, .int .i64 0, .slice none 0 0] s rfl (Tryd.zeroValue29 _) (by kernel_rfl)) ?_
      clear ha; rintro _ w a ⟨g21, rfl, s⟩ ha
      refine st_exd ha (by kernel_rfl) (ex_store (of_ := 0) 0 [.int .i64 1, .int .i64 6, .int .i64 0, .slice none 0 0] s rfl rfl (by kernel_rfl) (by kernel_rfl) (Tryd.sizeOf29 _) rfl (by simp [Value.oneCell']) (Nat.le_of_ble_eq_true rfl)) ?_
      clear ha; rintro w a s ha
      replace s : St W (.blk g21 [.int .i64 1, .int .i64 6, .int .i64 0, .slice none 0 0] 29 :: .blk g1 [.int .i64 2, .int .i64 5, .int .i64 0, .slice A1 o.T.length c1] 29 :: .blk g2 (ns o.nw) 30 :: .blk g3 (bs o.iw) 31 :: Own 39 7 A1 o.T.length c1 (dvs (dl o.T)) :: L) w := s
      refine wpList_nil ?_
      refine then_normal ?_
      refine wp_seq ?_
      refine wp_seq ?_
      refine wp_region_lit ?_
      refine st_val (.int .i64 0) ha (by kernel_rfl) (by kernel_rfl) ?_
      clear ha; intro a ha
      refine wpList_nil ?_
      refine then_normal ?_
      refine wp_block ?_
      have hp0 := hp
      replace s := Own.none_ (e := 39) (k := 7) none s
      replace s : St W (Own 39 7 none 0 0 [] :: .blk g21 [.int .i64 1, .int .i64 6, .int .i64 0, .slice none 0 0] 29 :: .blk g1 [.int .i64 2, .int .i64 5, .int .i64 0, .slice A1 o.T.length c1] 29 :: .blk g2 (ns o.nw) 30 :: .blk g3 (bs o.iw) 31 :: Own 39 7 A1 o.T.length c1 (dvs (dl o.T)) :: L) w := s
      replace s := (((s.at_ (j := 5) rfl).at_ (j := 3) rfl).at_ (j := 2) rfl).at_ (j := 3) rfl
      replace s : St W (.blk g21 [.int .i64 1, .int .i64 6, .int .i64 0, .slice none 0 0] 29 :: Own 39 7 none 0 0 [] :: .blk g1 [.int .i64 2, .int .i64 5, .int .i64 0, .slice A1 o.T.length c1] 29 :: Own 39 7 A1 o.T.length c1 (dvs (dl o.T)) :: L) w := s.keep 4 2
      refine wp_loopG (G := (Nat × List Td × Option Addr × Nat)) (fun ⟨i, U, A2, c2⟩ a w => Has a 117 [(0, .slice A l1.length ca), (1, .slice B l2.length cb), (5, .pointer (some ⟨g1, 0, none⟩)), (12, .pointer (some ⟨g21, 0, none⟩)), (13, .int .i64 ((i : Nat) : Int))] ∧ St W (.blk g21 [.int .i64 1, .int .i64 6, .int .i64 0, .slice A2 U.length c2] 29 :: Own 39 7 A2 U.length c2 (dvs (dl U)) :: .blk g1 [.int .i64 2, .int .i64 5, .int .i64 0, .slice A1 o.T.length c1] 29 :: Own 39 7 A1 o.T.length c1 (dvs (dl o.T)) :: L) w ∧ ((i ≤ l2.length ∧ i ≤ 20) ∧ U.length ≤ i ∧ (∀ d ∈ U, d.op = 3) ∧ noRows U)) (fun ⟨i, U, A2, c2⟩ => l2.length - i) (0, [], none, 0) ?_ ?_
      · exact ⟨(Has.cons ha (by kernel_rfl) (by kernel_rfl) (Has.cons ha (by kernel_rfl) (by kernel_rfl) (Has.cons ha (by kernel_rfl) (by kernel_rfl) (Has.cons ha (by kernel_rfl) (by kernel_rfl) (Has.cons ha (by kernel_rfl) (by kernel_rfl) (Has.nil ha)))))), s, ⟨⟨Nat.zero_le _, Nat.zero_le _⟩, Nat.le_refl _, (fun d hd => by cases hd), fun t ht => by cases ht⟩⟩
      · clear ha s; rintro ⟨i, U, A2, c2⟩ a w ⟨ha, s, hp⟩
        refine wp_seq ?_
        refine wp_seq ?_
        refine wp_region_lit ?_
        refine st_val (.int .i64 ((i : Nat) : Int)) ha (by kernel_rfl) (by kernel_rfl) ?_
        clear ha; intro a ha
        refine st_val (.slice B l2.length cb) ha (by kernel_rfl) (by kernel_rfl) ?_
        clear ha; intro a ha
        refine st_val (.int .i64 ((l2.length : Nat) : Int)) ha (by kernel_rfl) (by kernel_rfl) ?_
        clear ha; intro a ha
        refine st_val (.bool (decide (((i : Nat) : Int) < ((l2.length : Nat) : Int)))) ha (by kernel_rfl) (by kernel_rfl) ?_
        clear ha; intro a ha
        refine st_val (.bool (decide (((i : Nat) : Int) < ((l2.length : Nat) : Int)))) ha (by kernel_rfl) (by kernel_rfl) ?_
        clear ha; intro a ha
        rcases Bool.eq_false_or_eq_true (decide (((i : Nat) : Int) < ((l2.length : Nat) : Int))) with hb | hb
        · rw [hb] at ha; replace hb : (((i : Nat) : Int) < ((l2.length : Nat) : Int)) := of_decide_eq_true hb
          have hlt := hb
          refine st_val (.int .i64 ((i : Nat) : Int)) ha (by kernel_rfl) (by kernel_rfl) ?_
          clear ha; intro a ha
          refine st_val (.bool (decide (((i : Nat) : Int) < (20 : Int)))) ha (by kernel_rfl) (by kernel_rfl) ?_
          clear ha; intro a ha
          refine st_val (.bool (decide (((i : Nat) : Int) < (20 : Int)))) ha (by kernel_rfl) (by kernel_rfl) ?_
          clear ha; intro a ha
          refine wpList_nil ?_
          refine then_normal ?_
          refine wp_part (decide (((i : Nat) : Int) < (20 : Int))) ha rfl (by kernel_rfl) (fun hb => ?_) (fun hb => ?_)
          · rw [hb] at ha; replace hb : (((i : Nat) : Int) < (20 : Int)) := of_decide_eq_true hb
            obtain ⟨y, hy⟩ : ∃ y, l2[i]? = some y := ⟨_, List.getElem?_eq_getElem (by omega)⟩
            obtain ⟨mm, hmm⟩ : ∃ mm : Nat, y % 4 = mm := ⟨(y % 4).toNat, by have := Int.emod_nonneg y (show (4 : Int) ≠ 0 by omega); omega⟩
            have hml : mm < 4 := by have := Int.emod_lt_of_pos y (show (0 : Int) < 4 by omega); omega
            have hUl := hp.2.1
            obtain ⟨bd, hB⟩ := Reads.addr ((hr2 _ s.sat.tail.tail.tail.tail)) (by omega)
            subst hB
            refine wp_skip ?_
            refine then_normal ?_
            refine wp_seq ?_
            refine wp_block ?_
            refine wp_region_head 13 (fun w => BlkIs g21 [.int .i64 1, .int .i64 6, .int .i64 0, .slice A2 U.length c2] w ∧ Reads w 1 (some bd) l2.length (ints l2) ∧ True) (by kernel_rfl) (by decide) ?_
            replace s := s.drew; generalize _root_.Go.World.drew _ = w at s ⊢
            have hS : (fun w => BlkIs g21 [.int .i64 1, .int .i64 6, .int .i64 0, .slice A2 U.length c2] w ∧ Reads w 1 (some bd) l2.length (ints l2) ∧ True) w := ⟨s.blkIs 0 rfl, (hr2 _ s.sat.tail.tail.tail.tail), trivial⟩
            refine hd_val (i := 0) (.pointer (some ⟨g21, 3, none⟩)) ha rfl (by kernel_rfl) (fun _ _ _ h => h) (by kernel_rfl) (fun w hS => (by kernel_rfl)) hS ?_
            clear ha; intro a ha
            refine hd_val (i := 1) (.slice A2 U.length c2) ha rfl (by kernel_rfl) (fun _ _ _ h => h) (by kernel_rfl) (fun w hS => run_load1 (of_ := 3) hS.1 rfl (by kernel_rfl) Tryd.isAgg27 rfl) hS ?_
            clear ha; intro a ha
            refine hd_val (i := 2) (.slice (some bd) l2.length cb) ha rfl (by kernel_rfl) (fun _ _ _ h => h) (by kernel_rfl) (fun w hS => (by kernel_rfl)) hS ?_
            clear ha; intro a ha
            refine hd_val (i := 3) (.int .i64 ((i : Nat) : Int)) ha rfl (by kernel_rfl) (fun _ _ _ h => h) (by kernel_rfl) (fun w hS => (by kernel_rfl)) hS ?_
            clear ha; intro a ha
            refine hd_val (i := 4) (.pointer (some (bd.add (i * 1)))) ha rfl (by kernel_rfl) (fun _ _ _ h => h) (by kernel_rfl) (fun w hS => (run_indexAddr' (kd := .i64) (i := ((i : Nat) : Int)) (n := l2.length) (c := cb) i rfl Tryd.underlying22 Tryd.sizeOf3 (by kernel_rfl) (by kernel_rfl) rfl (by first | assumption | omega) _)) hS ?_
            clear ha; intro a ha
            refine hd_val (i := 5) (.int .i64 y) ha rfl (by kernel_rfl) (fun _ _ _ h => h) (by kernel_rfl) (fun w hS => run_loadRow1 (m := i) hS.2.1 rfl (by kernel_rfl) Tryd.isAgg3 (ints_at hy)) hS ?_
            clear ha; intro a ha
            refine hd_call (i := 6) ha rfl (by kernel_rfl) (by kernel_rfl) (by kernel_rfl) ((by have := bring_pos W _ w y 4 (by omega) (by omega) s; rwa [hmm] at this)) ?_
            clear hS; rintro _ w ⟨rfl, s⟩
            have hS : (fun w => BlkIs g21 [.int .i64 1, .int .i64 6, .int .i64 0, .slice A2 U.length c2] w ∧ Reads w 1 (some bd) l2.length (ints l2) ∧ True) w := ⟨s.blkIs 0 rfl, (hr2 _ s.sat.tail.tail.tail.tail), trivial⟩
            refine ⟨_, rfl, hS, ?_⟩; clear ha; intro a ha
            refine hd_val (i := 7) (.int .i64 ((97 + mm : Nat) : Int)) ha rfl (by kernel_rfl) (fun _ _ _ h => h) (by kernel_rfl) (fun w hS => (run_arith ((97 : Int) + ((mm : Nat) : Int)) ((97 + mm : Nat) : Int) rfl (by kernel_rfl) (by kernel_rfl) (.inl ⟨rfl, rfl⟩) (by rw [wrap64_in (by omega)]; omega) _)) hS ?_
            clear ha; intro a ha
            refine hd_val (i := 8) (.int .u8 (((UInt8.ofNat (97 + mm)).toNat : Nat) : Int)) ha rfl (by kernel_rfl) (fun _ _ _ h => h) (by kernel_rfl) (fun w hS => (run_conv (p := ((97 + mm : Nat) : Int)) (((UInt8.ofNat (97 + mm)).toNat : Nat) : Int) rfl (by kernel_rfl) Tryd.underlying3 Tryd.underlying5 (conv_u8 _ (by omega)) _)) hS ?_
            clear ha; intro a ha
            refine hd_ex (i := 9) ha rfl (by kernel_rfl) (by kernel_rfl) (ex_buildSlice elt33 _ zs33 [.int .u8 (((UInt8.ofNat (97 + mm)).toNat : Nat) : Int)] s rfl (by kernel_rfl) (by decide)) ?_
            clear hS; rintro _ w ⟨g22, rfl, s⟩
            have hS : (fun w => BlkIs g21 [.int .i64 1, .int .i64 6, .int .i64 0, .slice A2 U.length c2] w ∧ Reads w 1 (some bd) l2.length (ints l2) ∧ True) w := ⟨s.blkIs 1 rfl, (hr2 _ s.sat.tail.tail.tail.tail.tail), trivial⟩
            refine ⟨hS, ?_⟩; clear ha; intro a ha
            refine hd_ex (i := 10) ha rfl (by kernel_rfl) (by kernel_rfl) (ex_bstr (b := UInt8.ofNat (97 + mm)) (c := 1) 0 s rfl rfl (by kernel_rfl) Tryd.underlying33 Tryd.underlying5 Tryd.underlying9) ?_
            clear hS; rintro _ w ⟨rfl, s⟩
            replace s : St W (.blk g22 [.int .u8 (((UInt8.ofNat (97 + mm)).toNat : Nat) : Int)] 5 :: .blk g21 [.int .i64 1, .int .i64 6, .int .i64 0, .slice A2 U.length c2] 29 :: Own 39 7 A2 U.length c2 (dvs (dl U)) :: .blk g1 [.int .i64 2, .int .i64 5, .int .i64 0, .slice A1 o.T.length c1] 29 :: Own 39 7 A1 o.T.length c1 (dvs (dl o.T)) :: L) w := s
            have hS : (fun w => BlkIs g21 [.int .i64 1, .int .i64 6, .int .i64 0, .slice A2 U.length c2] w ∧ Reads w 1 (some bd) l2.length (ints l2) ∧ True) w := ⟨s.blkIs 1 rfl, (hr2 _ s.sat.tail.tail.tail.tail.tail), trivial⟩
            refine ⟨hS, ?_⟩; clear ha; intro a ha
            refine hd_call (i := 11) ha rfl (by kernel_rfl) (by kernel_rfl) (by kernel_rfl) (put_any W _ w [UInt8.ofNat (97 + mm)] [122] s) ?_
            clear hS; rintro _ w ⟨rfl, s⟩
            have hS : (fun w => BlkIs g21 [.int .i64 1, .int .i64 6, .int .i64 0, .slice A2 U.length c2] w ∧ Reads w 1 (some bd) l2.length (ints l2) ∧ True) w := ⟨s.blkIs 1 rfl, (hr2 _ s.sat.tail.tail.tail.tail.tail), trivial⟩
            refine ⟨_, rfl, hS, ?_⟩; clear ha; intro a ha
            refine hd_ex (i := 12) ha rfl (by kernel_rfl) (by kernel_rfl) (ex_buildSlice elt27 _ zs27 [.int .i64 3, .string (str [UInt8.ofNat (97 + mm)]), .string (str [122]), .string (str []), .string (str []), .bool false, .slice none 0 0] s rfl (by kernel_rfl) (by decide)) ?_
            clear hS; rintro _ w ⟨g23, rfl, s⟩
            have hS : (fun w => BlkIs g21 [.int .i64 1, .int .i64 6, .int .i64 0, .slice A2 U.length c2] w ∧ Reads w 1 (some bd) l2.length (ints l2) ∧ True) w := ⟨s.blkIs 2 rfl, (hr2 _ s.sat.tail.tail.tail.tail.tail.tail), trivial⟩
            refine ⟨hS, ?_⟩; clear ha; intro a ha
            refine Head.done (by kernel_rfl) ?_
            clear hS; simp only [List.drop_succ_cons, List.drop_zero]
            refine st_ex ha (by kernel_rfl) (ex_append (m := 1) (d' := 1) elt27 (by decide) 3 [.int .i64 3, .string (str [UInt8.ofNat (97 + mm)]), .string (str [122]), .string (str []), .string (str []), .bool false, .slice none 0 0] s rfl (by kernel_rfl) (by kernel_rfl) rfl (reads_blk (s.blkIs 0 rfl) rfl) (by simp [Value.oneCell']) (by simp only [maxLen]; omega) (by omega)) ?_
            clear ha; rintro _ w a ⟨A24, c25, rfl, hA_, s⟩ ha
            rw [show dvs (dl U) ++ [.int .i64 3, .string (str [UInt8.ofNat (97 + mm)]), .string (str [122]), .string (str []), .string (str []), .bool false, .slice none 0 0] = dvs (dl (U ++ [putT [UInt8.ofNat (97 + mm)] [122]])) from dl_snoc U (putT [UInt8.ofNat (97 + mm)] [122]) rfl] at s
            replace s : St W (.blk g23 [.int .i64 3, .string (str [UInt8.ofNat (97 + mm)]), .string (str [122]), .string (str []), .string (str []), .bool false, .slice none 0 0] 39 :: .blk g22 [.int .u8 (((UInt8.ofNat (97 + mm)).toNat : Nat) : Int)] 5 :: .blk g21 [.int .i64 1, .int .i64 6, .int .i64 0, .slice A2 U.length c2] 29 :: Own 39 7 A24 (U.length + 1) c25 (dvs (dl (U ++ [putT [UInt8.ofNat (97 + mm)] [122]]))) :: .blk g1 [.int .i64 2, .int .i64 5, .int .i64 0, .slice A1 o.T.length c1] 29 :: Own 39 7 A1 o.T.length c1 (dvs (dl o.T)) :: L) w := s
            replace s : St W (.blk g23 [.int .i64 3, .string (str [UInt8.ofNat (97 + mm)]), .string (str [122]), .string (str []), .string (str []), .bool false, .slice none 0 0] 39 :: .blk g22 [.int .u8 (((UInt8.ofNat (97 + mm)).toNat : Nat) : Int)] 5 :: .blk g21 [.int .i64 1, .int .i64 6, .int .i64 0, .slice A2 U.length c2] 29 :: Own 39 7 A24 (U.length + 1) c25 (dvs (dl (U ++ [putT [UInt8.ofNat (97 + mm)] [122]]))) :: .blk g1 [.int .i64 2, .int .i64 5, .int .i64 0, .slice A1 o.T.length c1] 29 :: Own 39 7 A1 o.T.length c1 (dvs (dl o.T)) :: L) w := s
            refine st_val (.pointer (some ⟨g21, 3, none⟩)) ha (by kernel_rfl) (by kernel_rfl) ?_
            clear ha; intro a ha
            refine st_exd ha (by kernel_rfl) (ex_store (of_ := 3) 2 [.slice A24 (U.length + 1) c25] s rfl rfl (by kernel_rfl) (by kernel_rfl) (Tryd.sizeOf27 _) rfl (by simp [Value.oneCell']) (Nat.le_of_ble_eq_true rfl)) ?_
            clear ha; rintro w a s ha
            replace s : St W (.blk g23 [.int .i64 3, .string (str [UInt8.ofNat (97 + mm)]), .string (str [122]), .string (str []), .string (str []), .bool false, .slice none 0 0] 39 :: .blk g22 [.int .u8 (((UInt8.ofNat (97 + mm)).toNat : Nat) : Int)] 5 :: .blk g21 [.int .i64 1, .int .i64 6, .int .i64 0, .slice A24 (U.length + 1) c25] 29 :: Own 39 7 A24 (U.length + 1) c25 (dvs (dl (U ++ [putT [UInt8.ofNat (97 + mm)] [122]]))) :: .blk g1 [.int .i64 2, .int .i64 5, .int .i64 0, .slice A1 o.T.length c1] 29 :: Own 39 7 A1 o.T.length c1 (dvs (dl o.T)) :: L) w := s
            refine wpList_nil ?_
            refine block_normal ?_
            refine then_normal ?_
            refine wp_region_lit ?_
            refine st_val (.int .i64 ((i : Nat) : Int)) ha (by kernel_rfl) (by kernel_rfl) ?_
            clear ha; intro a ha
            refine st_val (.int .i64 ((i + 1 : Nat) : Int)) ha (by kernel_rfl) (run_arith (((i : Nat) : Int) + (1 : Int)) ((i + 1 : Nat) : Int) rfl (by kernel_rfl) (by kernel_rfl) (.inl ⟨rfl, rfl⟩) (by rw [wrap64_in (by omega)]; try omega) _) ?_
            clear ha; intro a ha
            refine st_val (.int .i64 ((i + 1 : Nat) : Int)) ha (by kernel_rfl) (by kernel_rfl) ?_
            clear ha; intro a ha
            refine wpList_nil ?_
            refine then_normal ?_
            replace s := (((s.at_ (j := 5) rfl).at_ (j := 5) rfl).at_ (j := 5) rfl).at_ (j := 5) rfl
            replace s : St W (.blk g21 [.int .i64 1, .int .i64 6, .int .i64 0, .slice A24 (U.length + 1) c25] 29 :: Own 39 7 A24 (U.length + 1) c25 (dvs (dl (U ++ [putT [UInt8.ofNat (97 + mm)] [122]]))) :: .blk g1 [.int .i64 2, .int .i64 5, .int .i64 0, .slice A1 o.T.length c1] 29 :: Own 39 7 A1 o.T.length c1 (dvs (dl o.T)) :: L) w := s.keep 4 2
            rw [show U.length + 1 = (U ++ [putT [UInt8.ofNat (97 + mm)] [122]]).length from by simp] at s
            exact ⟨(i + 1, (U ++ [putT [UInt8.ofNat (97 + mm)] [122]]), A24, c25), (show l2.length - (i + 1) < l2.length - i by omega), (Has.cons ha (by kernel_rfl) (by kernel_rfl) (Has.cons ha (by kernel_rfl) (by kernel_rfl) (Has.cons ha (by kernel_rfl) (by kernel_rfl) (Has.cons ha (by kernel_rfl) (by kernel_rfl) (Has.cons ha (by kernel_rfl) (by kernel_rfl) (Has.nil ha)))))), s, (show i + 1 ≤ l2.length ∧ i + 1 ≤ 20 by omega), (by rw [List.length_append]; simp; omega), (fun d hd => by rcases List.mem_append.1 hd with hd | hd; exact hp.2.2.1 d hd; rw [List.mem_singleton] at hd; subst hd; rfl), (fun t ht => by rcases List.mem_append.1 ht with ht | ht; exact hp.2.2.2 t ht; rw [List.mem_singleton] at ht; subst ht; exact ⟨rfl, Nat.le_refl _⟩)⟩
          · rw [hb] at ha; replace hb : ¬ (((i : Nat) : Int) < (20 : Int)) := of_decide_eq_false hb
            refine wp_exit ?_
            refine then_exit ?_
            refine then_exit ?_
            refine block_hit ?_
            refine then_normal ?_
            refine wp_seq ?_
            refine wp_region_lit ?_
            refine st_val (.agg #[.int .i64 1, .int .i64 6, .int .i64 0, .slice A2 U.length c2]) ha (by kernel_rfl) (run_loadN (of_ := 0) [.int .i64 1, .int .i64 6, .int .i64 0, .slice A2 U.length c2] (s.blkIs 0 rfl) rfl (by kernel_rfl) Tryd.isAgg29 Tryd.sizeOf29 rfl (Nat.le_of_ble_eq_true rfl)) ?_
            clear ha; intro a ha
            refine st_val (.agg #[.int .i64 2, .int .i64 5, .int .i64 0, .slice A1 o.T.length c1]) ha (by kernel_rfl) (run_loadN (of_ := 0) [.int .i64 2, .int .i64 5, .int .i64 0, .slice A1 o.T.length c1] (s.blkIs 2 rfl) rfl (by kernel_rfl) Tryd.isAgg29 Tryd.sizeOf29 rfl (Nat.le_of_ble_eq_true rfl)) ?_
            clear ha; intro a ha
            refine st_ex ha (by kernel_rfl) (ex_buildSlice elt43 _ zs43 [.int .i64 1, .int .i64 6, .int .i64 0, .slice A2 U.length c2, .int .i64 2, .int .i64 5, .int .i64 0, .slice A1 o.T.length c1] s rfl (by kernel_rfl) (by decide)) ?_
            clear ha; rintro _ w a ⟨g26, rfl, s⟩ ha
            rw [show ([.int .i64 1, .int .i64 6, .int .i64 0, .slice A2 U.length c2, .int .i64 2, .int .i64 5, .int .i64 0, .slice A1 o.T.length c1] : List Value) = nvs ([⟨1, 6, 0, A2, c2, dl U⟩, ⟨2, 5, 0, A1, c1, dl o.T⟩]) from by simp only [nvs, nv, List.flatMap_cons, List.flatMap_nil, List.cons_append, List.nil_append, List.append_nil, dl_len]] at s
            replace s : St W (.blk g26 (nvs ([⟨1, 6, 0, A2, c2, dl U⟩, ⟨2, 5, 0, A1, c1, dl o.T⟩])) 29 :: .blk g21 [.int .i64 1, .int .i64 6, .int .i64 0, .slice A2 U.length c2] 29 :: Own 39 7 A2 U.length c2 (dvs (dl U)) :: .blk g1 [.int .i64 2, .int .i64 5, .int .i64 0, .slice A1 o.T.length c1] 29 :: Own 39 7 A1 o.T.length c1 (dvs (dl o.T)) :: L) w := s
            have hol := hp0.2.2.1
            have htT : tns ([⟨1, 6, 0, A2, c2, dl U⟩, ⟨2, 5, 0, A1, c1, dl o.T⟩] : List Dn) = [⟨1, 6, 0, U⟩, ⟨2, 5, 0, o.T⟩] := by simp only [List.map_cons, List.map_nil, Dn.t, dl_t]
            have hlaw := own_law hp0.2.1.well hp.2.2.1 ⟨hol.1, by omega⟩ (by omega : U.length ≤ 1000)
            have hkn : Knows (.blk g26 (nvs ([⟨1, 6, 0, A2, c2, dl U⟩, ⟨2, 5, 0, A1, c1, dl o.T⟩])) 29 :: .blk g21 [.int .i64 1, .int .i64 6, .int .i64 0, .slice A2 U.length c2] 29 :: Own 39 7 A2 U.length c2 (dvs (dl U)) :: .blk g1 [.int .i64 2, .int .i64 5, .int .i64 0, .slice A1 o.T.length c1] 29 :: Own 39 7 A1 o.T.length c1 (dvs (dl o.T)) :: L) (DonesIn (some ⟨g26, 0, none⟩) [⟨1, 6, 0, A2, c2, dl U⟩, ⟨2, 5, 0, A1, c1, dl o.T⟩]) := fun w s => by
              refine ⟨Knows.reads_blk (j := 0) (k := 4) (n := 2) (cs := nvs ([⟨1, 6, 0, A2, c2, dl U⟩, ⟨2, 5, 0, A1, c1, dl o.T⟩])) rfl rfl w s, fun d hd => ?_⟩
              simp only [List.mem_cons, List.not_mem_nil, or_false] at hd
              rcases hd with rfl | rfl
              · exact dl_in (j := 2) hp.2.2.2 rfl w s
              · exact dl_in (j := 4) hp0.2.2.2 rfl w s
            have hbn : Bn ([⟨1, 6, 0, A2, c2, dl U⟩, ⟨2, 5, 0, A1, c1, dl o.T⟩] : List Dn) := ⟨by simp, fun d hd => by
              simp only [List.mem_cons, List.not_mem_nil, or_false] at hd
              rcases hd with rfl | rfl
              · exact dl_bl hp.2.2.2 (by omega)
              · exact dl_bl hp0.2.2.2 (by omega)⟩
            refine st_call ha (by kernel_rfl) (by kernel_rfl) (finds_true W hW _ w (some ⟨g26, 0, none⟩) 2 [⟨1, 6, 0, A2, c2, dl U⟩, ⟨2, 5, 0, A1, c1, dl o.T⟩] hkn hbn 0 0 false (by rw [htT]; exact hlaw.1) (fun o ho => by rw [htT] at ho ⊢; rw [hlaw.2 o ho]; exact ⟨rfl, rfl, rfl⟩) s) ?_
            rintro _ w ⟨rfl, s⟩
            refine ⟨_, rfl, ?_⟩; clear ha; intro a ha
            refine st_val (.bool true) ha (by kernel_rfl) (by kernel_rfl) ?_
            clear ha; intro a ha
            refine wpList_nil ?_
            refine then_normal ?_
            refine wp_ret ?_
            refine ret_with (v := .bool true) ha (results_1 rfl ha (res_tmp (by kernel_rfl) (by kernel_rfl))) ?_
            replace s := s.tail.tail.tail.tail.tail
            replace s : St W (L) w := s
            exact ⟨rfl, s⟩
        · rw [hb] at ha; replace hb : ¬ (((i : Nat) : Int) < ((l2.length : Nat) : Int)) := of_decide_eq_false hb
          refine st_pass ha (by kernel_rfl) ?_
          clear ha; intro a ha
          refine st_pass ha (by kernel_rfl) ?_
          clear ha; intro a ha
          refine st_val (.bool false) ha (by kernel_rfl) (by kernel_rfl) ?_
          clear ha; intro a ha
          refine wpList_nil ?_
          refine then_normal ?_
          refine wp_false ha rfl (by kernel_rfl) ?_
          refine wp_exit ?_
          refine then_exit ?_
          refine then_exit ?_
          refine block_hit ?_
          refine then_normal ?_
          refine wp_seq ?_
          refine wp_region_lit ?_
          refine st_val (.agg #[.int .i64 1, .int .i64 6, .int .i64 0, .slice A2 U.length c2]) ha (by kernel_rfl) (run_loadN (of_ := 0) [.int .i64 1, .int .i64 6, .int .i64 0, .slice A2 U.length c2] (s.blkIs 0 rfl) rfl (by kernel_rfl) Tryd.isAgg29 Tryd.sizeOf29 rfl (Nat.le_of_ble_eq_true rfl)) ?_
          clear ha; intro a ha
          refine st_val (.agg #[.int .i64 2, .int .i64 5, .int .i64 0, .slice A1 o.T.length c1]) ha (by kernel_rfl) (run_loadN (of_ := 0) [.int .i64 2, .int .i64 5, .int .i64 0, .slice A1 o.T.length c1] (s.blkIs 2 rfl) rfl (by kernel_rfl) Tryd.isAgg29 Tryd.sizeOf29 rfl (Nat.le_of_ble_eq_true rfl)) ?_
          clear ha; intro a ha
          refine st_ex ha (by kernel_rfl) (ex_buildSlice elt43 _ zs43 [.int .i64 1, .int .i64 6, .int .i64 0, .slice A2 U.length c2, .int .i64 2, .int .i64 5, .int .i64 0, .slice A1 o.T.length c1] s rfl (by kernel_rfl) (by decide)) ?_
          clear ha; rintro _ w a ⟨g27, rfl, s⟩ ha
          rw [show ([.int .i64 1, .int .i64 6, .int .i64 0, .slice A2 U.length c2, .int .i64 2, .int .i64 5, .int .i64 0, .slice A1 o.T.length c1] : List Value) = nvs ([⟨1, 6, 0, A2, c2, dl U⟩, ⟨2, 5, 0, A1, c1, dl o.T⟩]) from by simp only [nvs, nv, List.flatMap_cons, List.flatMap_nil, List.cons_append, List.nil_append, List.append_nil, dl_len]] at s
          replace s : St W (.blk g27 (nvs ([⟨1, 6, 0, A2, c2, dl U⟩, ⟨2, 5, 0, A1, c1, dl o.T⟩])) 29 :: .blk g21 [.int .i64 1, .int .i64 6, .int .i64 0, .slice A2 U.length c2] 29 :: Own 39 7 A2 U.length c2 (dvs (dl U)) :: .blk g1 [.int .i64 2, .int .i64 5, .int .i64 0, .slice A1 o.T.length c1] 29 :: Own 39 7 A1 o.T.length c1 (dvs (dl o.T)) :: L) w := s
          have hol := hp0.2.2.1
          have htT : tns ([⟨1, 6, 0, A2, c2, dl U⟩, ⟨2, 5, 0, A1, c1, dl o.T⟩] : List Dn) = [⟨1, 6, 0, U⟩, ⟨2, 5, 0, o.T⟩] := by simp only [List.map_cons, List.map_nil, Dn.t, dl_t]
          have hlaw := own_law hp0.2.1.well hp.2.2.1 ⟨hol.1, by omega⟩ (by omega : U.length ≤ 1000)
          have hkn : Knows (.blk g27 (nvs ([⟨1, 6, 0, A2, c2, dl U⟩, ⟨2, 5, 0, A1, c1, dl o.T⟩])) 29 :: .blk g21 [.int .i64 1, .int .i64 6, .int .i64 0, .slice A2 U.length c2] 29 :: Own 39 7 A2 U.length c2 (dvs (dl U)) :: .blk g1 [.int .i64 2, .int .i64 5, .int .i64 0, .slice A1 o.T.length c1] 29 :: Own 39 7 A1 o.T.length c1 (dvs (dl o.T)) :: L) (DonesIn (some ⟨g27, 0, none⟩) [⟨1, 6, 0, A2, c2, dl U⟩, ⟨2, 5, 0, A1, c1, dl o.T⟩]) := fun w s => by
            refine ⟨Knows.reads_blk (j := 0) (k := 4) (n := 2) (cs := nvs ([⟨1, 6, 0, A2, c2, dl U⟩, ⟨2, 5, 0, A1, c1, dl o.T⟩])) rfl rfl w s, fun d hd => ?_⟩
            simp only [List.mem_cons, List.not_mem_nil, or_false] at hd
            rcases hd with rfl | rfl
            · exact dl_in (j := 2) hp.2.2.2 rfl w s
            · exact dl_in (j := 4) hp0.2.2.2 rfl w s
          have hbn : Bn ([⟨1, 6, 0, A2, c2, dl U⟩, ⟨2, 5, 0, A1, c1, dl o.T⟩] : List Dn) := ⟨by simp, fun d hd => by
            simp only [List.mem_cons, List.not_mem_nil, or_false] at hd
            rcases hd with rfl | rfl
            · exact dl_bl hp.2.2.2 (by omega)
            · exact dl_bl hp0.2.2.2 (by omega)⟩
          refine st_call ha (by kernel_rfl) (by kernel_rfl) (finds_true W hW _ w (some ⟨g27, 0, none⟩) 2 [⟨1, 6, 0, A2, c2, dl U⟩, ⟨2, 5, 0, A1, c1, dl o.T⟩] hkn hbn 0 0 false (by rw [htT]; exact hlaw.1) (fun o ho => by rw [htT] at ho ⊢; rw [hlaw.2 o ho]; exact ⟨rfl, rfl, rfl⟩) s) ?_
          rintro _ w ⟨rfl, s⟩
          refine ⟨_, rfl, ?_⟩; clear ha; intro a ha
          refine st_val (.bool true) ha (by kernel_rfl) (by kernel_rfl) ?_
          clear ha; intro a ha
          refine wpList_nil ?_
          refine then_normal ?_
          refine wp_ret ?_
          refine ret_with (v := .bool true) ha (results_1 rfl ha (res_tmp (by kernel_rfl) (by kernel_rfl))) ?_
          replace s := s.tail.tail.tail.tail.tail
          replace s : St W (L) w := s
          exact ⟨rfl, s⟩

end Go.Proofs.YtidfniglnmfphaaDoor.B
