import Derived.Test.YtfcbjcohepkkfaaJ12
namespace Go.Proofs.Ytfcbjcohepkkfaa.B
open Go.RowKit Go.Maps Go.Sort Go.Shelf Go.Proofs.Ytfcbjcohepkkfaa.Sep Go.Proofs.Ytfcbjcohepkkfaa.P
set_option linter.unusedVariables false
set_option linter.unusedSimpArgs false
/-! ### Find, whole -/
theorem lateI_some {o : Option Nat} (h : 0 ≤ lateI o) : ∃ i, o = some i := by cases o with | none => simp [lateI] at h | some i => exact ⟨i, rfl⟩
theorem lateI_none {o : Option Nat} (h : ¬ 0 ≤ lateI o) : o = none := by cases o with | none => rfl | some i => simp [lateI] at h
theorem fst_some (t d : Nat) : fst (some (t, d)) = t := rfl
theorem snd_some (t d : Nat) : snd (some (t, d)) = d := rfl
theorem resF_rule {l : List Ev} {p : Nat × Nat} (h : findL (startL l) l 0 = some p) (well : Bool) (o : List Nat) : resF l well o = p := by unfold resF; rw [h]
theorem resF_not {l : List Ev} (h : findL (startL l) l 0 = none) (o : List Nat) : resF l false o = (0, 0) := by unfold resF; rw [h]; rfl
theorem resF_seven {l : List Ev} (h : findL (startL l) l 0 = none) {o : List Nat} {t d : Nat} (h0 : code (tnsP (ordL (txsL l) l)) = 0) (hf : found (tnsP (ordL (txsL l) l)) o = some (t, d)) : resF l true o = (7, placeOf (ordL (txsL l) l) t d) := by
  unfold resF; rw [h]; simp only [if_true]; unfold wellF; rw [if_pos h0, hf]
theorem resF_late {l : List Ev} (h : findL (startL l) l 0 = none) {o : List Nat} (h0 : code (tnsP (ordL (txsL l) l)) = 0 → found (tnsP (ordL (txsL l) l)) o = none) : resF l true o = match lateL (knF (dnsP (ordL (txsL l) l))) [] l 0 with | some i => (8, i) | none => (0, 0) := by
  unfold resF; rw [h]; simp only [if_true]; unfold wellF
  by_cases e : code (tnsP (ordL (txsL l) l)) = 0
  · rw [if_pos e, h0 e]; rfl
  · rw [if_neg e]; rfl

set_option maxRecDepth 100000 in
set_option maxHeartbeats 4000000 in
theorem find_any (W : World) (hW : W.drawn = 0) (L : List Chunk) (w : World) (A : Option Addr) (ca : Nat) (l : List Ev) (hr : Knows L (EvsIn A l)) (hn : l.length ≤ 5000) (well : Bool) (hi : well = true → ∀ x ∈ l, -9223372036854775808 ≤ x.id ∧ x.id ≤ 9223372036854775807) (hbe : well = true → Be l) (s : St W L w) :
    Calls Try.prog 7 #[.slice A l.length ca, .bool well] w fun e w' => ∃ o, (code (tnsP (ordL (txsL l) l)) = 0 → well = true → findL (startL l) l 0 = none → IsOrd (tnsP (ordL (txsL l) l)) o) ∧ e = .returned (resV (resF l well o)) ∧ St W L w' := by
  refine enter_args (l := [.slice A l.length ca, .bool well]) Try.func7 rfl rfl (Nat.le_of_ble_eq_true rfl) ?_
  intro a ha; replace ha : Has a 96 [(0, .slice A l.length ca), (1, .bool well)] := ha
  refine wp_seq ?_
  refine wp_region_lit ?_
  refine st_val (.int .i64 0) ha (by kernel_rfl) (by kernel_rfl) ?_
  clear ha; intro a ha
  refine st_val (.int .i64 0) ha (by kernel_rfl) (by kernel_rfl) ?_
  clear ha; intro a ha
  refine st_val (.int .i64 0) ha (by kernel_rfl) (by kernel_rfl) ?_
  clear ha; intro a ha
  refine wpList_nil ?_
  refine then_normal ?_
  refine wp_seq ?_
  refine wp_seq ?_
  refine wp_region_lit ?_
  refine st_val (.slice A l.length ca) ha (by kernel_rfl) (by kernel_rfl) ?_
  clear ha; intro a ha
  refine st_val (.int .i64 ((l.length : Nat) : Int)) ha (by kernel_rfl) (by kernel_rfl) ?_
  clear ha; intro a ha
  refine st_val (.bool false) ha (by kernel_rfl) (run_known (show (decide (((l.length : Nat) : Int) > (5000 : Int))) = false from decide_eq_false (by omega)) (by kernel_rfl)) ?_
  clear ha; intro a ha
  refine wpList_nil ?_
  refine then_normal ?_
  refine wp_false ha rfl (by kernel_rfl) ?_
  refine wp_skip ?_
  refine then_normal ?_
  refine wp_seq ?_
  refine wp_region_lit ?_
  refine st_ex ha (by kernel_rfl) (ex_makeMap Try.prog 3 encI s rfl) ?_
  clear ha; rintro _ w a ⟨g1, rfl, s⟩ ha
  refine st_ex ha (by kernel_rfl) (ex_makeMap Try.prog 3 encI s rfl) ?_
  clear ha; rintro _ w a ⟨g2, rfl, s⟩ ha
  refine st_val (.agg #[.int .i64 0, .int .i64 0, .map (some g1), .map (some g2)]) ha (by kernel_rfl) (by kernel_rfl) ?_
  clear ha; intro a ha
  refine st_ex ha (by kernel_rfl) (ex_box [.int .i64 0, .int .i64 0, .map (some g1), .map (some g2)] s rfl (by kernel_rfl)) ?_
  clear ha; rintro _ w a ⟨g3, rfl, s⟩ ha
  refine st_val (.pointer (some ⟨g3, 0, none⟩)) ha (by kernel_rfl) (by kernel_rfl) ?_
  clear ha; intro a ha
  refine wpList_nil ?_
  refine then_normal ?_
  refine wp_between (fun a w => Has a 96 [(0, .slice A l.length ca), (1, .bool well), (7, .pointer (some ⟨g3, 0, none⟩))] ∧ St W (.blk g3 [.int .i64 ((startL l).ti), .int .i64 0, .map (some g1), .map (some g2)] 48 :: MapT Try.prog 3 encI g1 [] :: MapT Try.prog 3 encI g2 [] :: L) w) ?_ ?_
  · skip
    refine wp_seq ?_
    refine wp_region_lit ?_
    refine st_val (.slice A l.length ca) ha (by kernel_rfl) (by kernel_rfl) ?_
    clear ha; intro a ha
    refine st_val (.int .i64 ((l.length : Nat) : Int)) ha (by kernel_rfl) (by kernel_rfl) ?_
    clear ha; intro a ha
    refine st_val (.bool (decide (((l.length : Nat) : Int) > (0 : Int)))) ha (by kernel_rfl) (by kernel_rfl) ?_
    clear ha; intro a ha
    refine wpList_nil ?_
    refine then_normal ?_
    refine wp_part (decide (((l.length : Nat) : Int) > (0 : Int))) ha rfl (by kernel_rfl) (fun hb => ?_) (fun hb => ?_)
    · rw [hb] at ha; replace hb : (((l.length : Nat) : Int) > (0 : Int)) := of_decide_eq_true hb
      obtain ⟨x0, hx0⟩ : ∃ x0, l[0]? = some x0 := ⟨_, List.getElem?_eq_getElem (by omega)⟩
      have hst : (startL l).ti = x0.ti := by unfold startL; rw [List.head?_eq_getElem?, hx0]; rfl
      obtain ⟨ad, hA⟩ := Reads.addr (hr _ s.sat.tail.tail.tail).1 (by omega)
      subst hA
      refine wp_region_lit ?_
      refine st_val (.pointer (some ⟨g3, 0, none⟩)) ha (by kernel_rfl) (by kernel_rfl) ?_
      clear ha; intro a ha
      refine st_val (.slice (some ad) l.length ca) ha (by kernel_rfl) (by kernel_rfl) ?_
      clear ha; intro a ha
      refine st_val (.pointer (some (ad.add (0 * 16)))) ha (by kernel_rfl) (run_indexAddr' (kd := .i64) (i := 0) (n := l.length) (c := ca) 0 rfl Try.underlying22 Try.sizeOf36 (by kernel_rfl) (by kernel_rfl) rfl (by first | assumption | omega) _) ?_
      clear ha; intro a ha
      refine st_val (.pointer (some (ad.add (0 * 16 + 0)))) ha (by kernel_rfl) (run_fieldAddr_at (i := 0 * 16) (off := 0) rfl Try.underlying36 rfl Try.sizeOf3 (by kernel_rfl) _) ?_
      clear ha; intro a ha
      refine st_val (.int .i64 x0.ti) ha (by kernel_rfl) (run_loadAt1 (i := 0 * 16 + 0) ((hr _ s.sat.tail.tail.tail).1) rfl (by kernel_rfl) Try.isAgg3 (by rw [evs_at hx0 (by omega)]; rfl)) ?_
      clear ha; intro a ha
      refine st_val (.pointer (some ⟨g3, 0, none⟩)) ha (by kernel_rfl) (by kernel_rfl) ?_
      clear ha; intro a ha
      refine st_val (.pointer (some ⟨g3, 0, none⟩)) ha (by kernel_rfl) (by kernel_rfl) ?_
      clear ha; intro a ha
      refine st_exd ha (by kernel_rfl) (ex_store (of_ := 0) 0 [.int .i64 x0.ti] s rfl rfl (by kernel_rfl) (by kernel_rfl) (Try.sizeOf3 _) rfl (by simp [Value.oneCell']) (Nat.le_of_ble_eq_true rfl)) ?_
      clear ha; rintro w a s ha
      replace s : St W (.blk g3 [.int .i64 x0.ti, .int .i64 0, .map (some g1), .map (some g2)] 48 :: MapT Try.prog 3 encI g2 [] :: MapT Try.prog 3 encI g1 [] :: L) w := s
      refine wpList_nil ?_
      refine then_normal ?_
      replace s := ((s.at_ (j := 1) rfl).at_ (j := 2) rfl).at_ (j := 2) rfl
      replace s : St W (.blk g3 [.int .i64 x0.ti, .int .i64 0, .map (some g1), .map (some g2)] 48 :: MapT Try.prog 3 encI g1 [] :: MapT Try.prog 3 encI g2 [] :: L) w := s
      exact ⟨(Has.cons ha (by kernel_rfl) (by kernel_rfl) (Has.cons ha (by kernel_rfl) (by kernel_rfl) (Has.cons ha (by kernel_rfl) (by kernel_rfl) (Has.nil ha)))), by rw [hst]; exact s⟩
    · rw [hb] at ha; replace hb : ¬ (((l.length : Nat) : Int) > (0 : Int)) := of_decide_eq_false hb
      have hst : (startL l).ti = 0 := by rw [List.length_eq_zero_iff.1 (by omega : l.length = 0)]; rfl
      refine wp_skip ?_
      refine then_normal ?_
      replace s := ((s.at_ (j := 1) rfl).at_ (j := 2) rfl).at_ (j := 2) rfl
      replace s : St W (.blk g3 [.int .i64 0, .int .i64 0, .map (some g1), .map (some g2)] 48 :: MapT Try.prog 3 encI g1 [] :: MapT Try.prog 3 encI g2 [] :: L) w := s
      exact ⟨(Has.cons ha (by kernel_rfl) (by kernel_rfl) (Has.cons ha (by kernel_rfl) (by kernel_rfl) (Has.cons ha (by kernel_rfl) (by kernel_rfl) (Has.nil ha)))), by rw [hst]; exact s⟩
  · clear ha s; rintro a w ⟨ha, s⟩
    refine wp_seq ?_
    refine wp_region_lit ?_
    refine st_val (.agg #[.func (.func 16) #[] #[], .func (.func 17) #[] #[], .func (.func 18) #[] #[], .func (.func 19) #[] #[], .func (.func 20) #[] #[], .func (.func 21) #[] #[]]) ha (by kernel_rfl) (by kernel_rfl) ?_
    clear ha; intro a ha
    refine st_ex ha (by kernel_rfl) (ex_alloc [.nilFunc, .nilFunc, .nilFunc, .nilFunc, .nilFunc, .nilFunc] s rfl (Try.zeroValue51 _) (by kernel_rfl)) ?_
    clear ha; rintro _ w a ⟨g4, rfl, s⟩ ha
    refine st_exd ha (by kernel_rfl) (ex_store (of_ := 0) 0 [.func (.func 16) #[] #[], .func (.func 17) #[] #[], .func (.func 18) #[] #[], .func (.func 19) #[] #[], .func (.func 20) #[] #[], .func (.func 21) #[] #[]] s rfl rfl (by kernel_rfl) (by kernel_rfl) (Try.sizeOf51 _) rfl (by simp [Value.oneCell']) (Nat.le_of_ble_eq_true rfl)) ?_
    clear ha; rintro w a s ha
    replace s : St W (.blk g4 [.func (.func 16) #[] #[], .func (.func 17) #[] #[], .func (.func 18) #[] #[], .func (.func 19) #[] #[], .func (.func 20) #[] #[], .func (.func 21) #[] #[]] 51 :: .blk g3 [.int .i64 ((startL l).ti), .int .i64 0, .map (some g1), .map (some g2)] 48 :: MapT Try.prog 3 encI g1 [] :: MapT Try.prog 3 encI g2 [] :: L) w := s
    refine wpList_nil ?_
    refine then_normal ?_
    refine wp_seq ?_
    refine wp_seq ?_
    refine wp_region_lit ?_
    refine st_val (.slice A l.length ca) ha (by kernel_rfl) (by kernel_rfl) ?_
    clear ha; intro a ha
    refine st_val (.int .i64 ((l.length : Nat) : Int)) ha (by kernel_rfl) (by kernel_rfl) ?_
    clear ha; intro a ha
    refine st_val (.int .i64 0) ha (by kernel_rfl) (by kernel_rfl) ?_
    clear ha; intro a ha
    refine wpList_nil ?_
    refine then_normal ?_
    refine wp_block ?_
    replace s := Blks.nil s
    replace s : St W (Blks [] :: .blk g4 [.func (.func 16) #[] #[], .func (.func 17) #[] #[], .func (.func 18) #[] #[], .func (.func 19) #[] #[], .func (.func 20) #[] #[], .func (.func 21) #[] #[]] 51 :: .blk g3 [.int .i64 ((startL l).ti), .int .i64 0, .map (some g1), .map (some g2)] 48 :: MapT Try.prog 3 encI g1 [] :: MapT Try.prog 3 encI g2 [] :: L) w := s
    replace s := ((((s.at_ (j := 1) rfl).at_ (j := 1) rfl).at_ (j := 4) rfl).at_ (j := 4) rfl).at_ (j := 4) rfl
    replace s : St W (.blk g3 [.int .i64 ((startL l).ti), .int .i64 0, .map (some g1), .map (some g2)] 48 :: MapT Try.prog 3 encI g1 [] :: MapT Try.prog 3 encI g2 [] :: Blks [] :: .blk g4 [.func (.func 16) #[] #[], .func (.func 17) #[] #[], .func (.func 18) #[] #[], .func (.func 19) #[] #[], .func (.func 20) #[] #[], .func (.func 21) #[] #[]] 51 :: L) w := s
    refine wp_loopG (G := (Nat × Look × List (Int × Value) × List (Int × Nat × Tx))) (fun ⟨i, k, Dd, T⟩ a w => Has a 96 [(0, .slice A l.length ca), (1, .bool well), (7, .pointer (some ⟨g3, 0, none⟩)), (8, .pointer (some ⟨g4, 0, none⟩)), (38, .slice A l.length ca), (39, .int .i64 ((l.length : Nat) : Int)), (40, .int .i64 ((i : Nat) : Int))] ∧ St W (.blk g3 [.int .i64 k.ti, .int .i64 k.most, .map (some g1), .map (some g2)] 48 :: MapT Try.prog 3 encI g1 Dd :: MapT Try.prog 3 encI g2 (T.map ent) :: Blks T :: .blk g4 [.func (.func 16) #[] #[], .func (.func 17) #[] #[], .func (.func 18) #[] #[], .func (.func 19) #[] #[], .func (.func 20) #[] #[], .func (.func 21) #[] #[]] 51 :: L) w ∧ (i ≤ l.length ∧ k = (l.take i).foldl seeL (startL l) ∧ findL (startL l) (l.take i) 0 = none ∧ LkOk k Dd T (6 * i))) (fun ⟨i, k, Dd, T⟩ => l.length - i) (0, startL l, [], []) ?_ ?_
    · exact ⟨(Has.cons ha (by kernel_rfl) (by kernel_rfl) (Has.cons ha (by kernel_rfl) (by kernel_rfl) (Has.cons ha (by kernel_rfl) (by kernel_rfl) (Has.cons ha (by kernel_rfl) (by kernel_rfl) (Has.cons ha (by kernel_rfl) (by kernel_rfl) (Has.cons ha (by kernel_rfl) (by kernel_rfl) (Has.cons ha (by kernel_rfl) (by kernel_rfl) (Has.nil ha)))))))), (by first | exact s | (rw [hst]; exact s)), ⟨Nat.zero_le _, rfl, rfl, LkOk.start l⟩⟩
    · clear ha s; rintro ⟨i, k, Dd, T⟩ a w ⟨ha, s, hp⟩
      refine wp_seq ?_
      refine wp_region_lit ?_
      refine st_val (.bool (decide (((i : Nat) : Int) < ((l.length : Nat) : Int)))) ha (by kernel_rfl) (by kernel_rfl) ?_
      clear ha; intro a ha
      refine wpList_nil ?_
      refine then_normal ?_
      refine wp_seq ?_
      refine wp_part (decide (((i : Nat) : Int) < ((l.length : Nat) : Int))) ha rfl (by kernel_rfl) (fun hb => ?_) (fun hb => ?_)
      · rw [hb] at ha; replace hb : (((i : Nat) : Int) < ((l.length : Nat) : Int)) := of_decide_eq_true hb
        have hk := hp.2.2.2
        obtain ⟨x, hx⟩ : ∃ x, l[i]? = some x := ⟨_, List.getElem?_eq_getElem (by omega)⟩
        obtain ⟨ad, hA⟩ := Reads.addr (hr _ s.sat.tail.tail.tail.tail.tail).1 (by omega)
        subst hA
        refine wp_skip ?_
        refine then_normal ?_
        refine wp_seq ?_
        refine wp_block ?_
        refine wp_seq ?_
        refine wp_region_lit ?_
        refine st_val (.int .i64 ((i : Nat) : Int)) ha (by kernel_rfl) (by kernel_rfl) ?_
        clear ha; intro a ha
        refine st_val (.pointer (some (ad.add (i * 16)))) ha (by kernel_rfl) (run_indexAddr' (kd := .i64) (i := ((i : Nat) : Int)) (n := l.length) (c := ca) i rfl Try.underlying22 Try.sizeOf36 (by kernel_rfl) (by kernel_rfl) rfl (by first | assumption | omega) _) ?_
        clear ha; intro a ha
        refine st_val (.agg (evv x).toArray) ha (by kernel_rfl) (run_loadAtN (i := i * 16) (evv x) ((hr _ s.sat.tail.tail.tail.tail.tail).1) rfl (by kernel_rfl) Try.isAgg36 Try.sizeOf36 (fun q_ hq_ => evs_at hx hq_) rfl) ?_
        clear ha; intro a ha
        refine st_ex ha (by kernel_rfl) (ex_alloc [.int .i64 0, .int .i64 0, .int .i64 0, .int .i64 0, .int .i64 0, .int .i64 0, .string (str []), .string (str []), .string (str []), .string (str []), .bool false, .slice none 0 0, .int .i64 0, .int .i64 0, .int .i64 0, .int .i64 0] s rfl (Try.zeroValue36 _) (by kernel_rfl)) ?_
        clear ha; rintro _ w a ⟨g5, rfl, s⟩ ha
        refine st_val (.int .i64 ((i : Nat) : Int)) ha (by kernel_rfl) (by kernel_rfl) ?_
        clear ha; intro a ha
        refine st_exd ha (by kernel_rfl) (ex_store (of_ := 0) 0 (evv x) s rfl rfl (by kernel_rfl) (by kernel_rfl) (Try.sizeOf36 _) rfl (by simp [evv, txv, Value.oneCell']) (Nat.le_of_ble_eq_true rfl)) ?_
        clear ha; rintro w a s ha
        replace s : St W (.blk g5 (evv x) 36 :: .blk g3 [.int .i64 k.ti, .int .i64 k.most, .map (some g1), .map (some g2)] 48 :: MapT Try.prog 3 encI g1 Dd :: MapT Try.prog 3 encI g2 (T.map ent) :: Blks T :: .blk g4 [.func (.func 16) #[] #[], .func (.func 17) #[] #[], .func (.func 18) #[] #[], .func (.func 19) #[] #[], .func (.func 20) #[] #[], .func (.func 21) #[] #[]] 51 :: L) w := s
        refine wpList_nil ?_
        refine then_normal ?_
        refine wp_seq ?_
        refine wp_seq ?_
        refine wp_region_lit ?_
        refine st_val (.agg #[.func (.func 16) #[] #[], .func (.func 17) #[] #[], .func (.func 18) #[] #[], .func (.func 19) #[] #[], .func (.func 20) #[] #[], .func (.func 21) #[] #[]]) ha (by kernel_rfl) (run_loadN (of_ := 0) [.func (.func 16) #[] #[], .func (.func 17) #[] #[], .func (.func 18) #[] #[], .func (.func 19) #[] #[], .func (.func 20) #[] #[], .func (.func 21) #[] #[]] (s.blkIs 5 rfl) rfl (by kernel_rfl) Try.isAgg51 Try.sizeOf51 rfl (Nat.le_of_ble_eq_true rfl)) ?_
        clear ha; intro a ha
        refine st_val (.int .i64 0) ha (by kernel_rfl) (by kernel_rfl) ?_
        clear ha; intro a ha
        refine wpList_nil ?_
        refine then_normal ?_
        refine wp_block ?_
        refine wp_loop_rounds 7 ?_
        show Code.rounds _ _ _ 7 _ _
        rw [rounds_succ]
        refine wp_seq ?_
        refine wp_region_lit ?_
        refine st_val (.bool true) ha (by kernel_rfl) (by kernel_rfl) ?_
        clear ha; intro a ha
        refine wpList_nil ?_
        refine then_normal ?_
        refine wp_seq ?_
        refine wp_true ha rfl (by kernel_rfl) ?_
        refine wp_skip ?_
        refine then_normal ?_
        refine wp_seq ?_
        refine wp_block ?_
        refine wp_seq ?_
        refine wp_region_lit ?_
        refine st_val (.int .i64 0) ha (by kernel_rfl) (by kernel_rfl) ?_
        clear ha; intro a ha
        refine st_val (.func (.func 16) #[] #[]) ha (by kernel_rfl) (by kernel_rfl) ?_
        clear ha; intro a ha
        refine st_val (.int .i64 0) ha (by kernel_rfl) (by kernel_rfl) ?_
        clear ha; intro a ha
        refine st_val (.func (.func 16) #[] #[]) ha (by kernel_rfl) (by kernel_rfl) ?_
        clear ha; intro a ha
        refine wpList_nil ?_
        refine then_normal ?_
        refine wp_seq ?_
        refine wp_region_lit ?_
        refine st_val (.func (.func 16) #[] #[]) ha (by kernel_rfl) (by kernel_rfl) ?_
        clear ha; intro a ha
        refine st_val (.pointer (some ⟨g3, 0, none⟩)) ha (by kernel_rfl) (by kernel_rfl) ?_
        clear ha; intro a ha
        refine st_val (.agg (evv x).toArray) ha (by kernel_rfl) (run_loadN (of_ := 0) (evv x) (s.blkIs 0 rfl) rfl (by kernel_rfl) Try.isAgg36 Try.sizeOf36 rfl (Nat.le_of_ble_eq_true rfl)) ?_
        clear ha; intro a ha
        replace s := (((s.at_ (j := 4) rfl).at_ (j := 4) rfl).at_ (j := 4) rfl).at_ (j := 4) rfl
        replace s : St W (.blk g3 [.int .i64 k.ti, .int .i64 k.most, .map (some g1), .map (some g2)] 48 :: MapT Try.prog 3 encI g1 Dd :: MapT Try.prog 3 encI g2 (T.map ent) :: Blks T :: .blk g5 (evv x) 36 :: .blk g4 [.func (.func 16) #[] #[], .func (.func 17) #[] #[], .func (.func 18) #[] #[], .func (.func 19) #[] #[], .func (.func 20) #[] #[], .func (.func 21) #[] #[]] 51 :: L) w := s
        refine st_call ha (by kernel_rfl) (by kernel_rfl) (may_any W _ w g3 g1 g2 k Dd T (6 * i) hk (by omega) x s) ?_
        rintro _ w ⟨rfl, s⟩
        refine ⟨_, rfl, ?_⟩; clear ha; intro a ha
        refine st_val (.bool (!(mayB k.ti x))) ha (by kernel_rfl) (by kernel_rfl) ?_
        clear ha; intro a ha
        refine wpList_nil ?_
        refine then_normal ?_
        refine wp_part (!(mayB k.ti x)) ha rfl (by kernel_rfl) (fun hb => ?_) (fun hb => ?_)
        · rw [hb] at ha; skip
          have hb7 : (mayB k.ti x) = false := by simpa using hb
          have hrl : ruleL k x = 1 := by unfold ruleL; simp [hb7]
          refine wp_seq ?_
          refine wp_region_lit ?_
          refine st_val (.int .i64 0) ha (by kernel_rfl) (by kernel_rfl) ?_
          clear ha; intro a ha
          refine st_val (.int .i64 1) ha (by kernel_rfl) (by kernel_rfl) ?_
          clear ha; intro a ha
          refine st_val (.int .i64 ((i : Nat) : Int)) ha (by kernel_rfl) (by kernel_rfl) ?_
          clear ha; intro a ha
          refine st_val (.int .i64 1) ha (by kernel_rfl) (by kernel_rfl) ?_
          clear ha; intro a ha
          refine st_val (.int .i64 ((i : Nat) : Int)) ha (by kernel_rfl) (by kernel_rfl) ?_
          clear ha; intro a ha
          refine st_val (.int .i64 0) ha (by kernel_rfl) (by kernel_rfl) ?_
          clear ha; intro a ha
          refine wpList_nil ?_
          refine then_normal ?_
          refine wp_ret ?_
          refine block_ret ?_
          refine then_ret ?_
          refine then_ret ?_
          refine block_ret ?_
          refine then_ret ?_
          refine block_ret ?_
          refine then_ret ?_
          refine then_ret ?_
          refine block_ret ?_
          refine then_ret ?_
          refine ret_with (v := .tuple #[.int .i64 1, .int .i64 ((i : Nat) : Int), .int .i64 0]) ha (results_3 rfl ha (res_tmp (by kernel_rfl) (by kernel_rfl)) (res_tmp (by kernel_rfl) (by kernel_rfl)) (res_tmp (by kernel_rfl) (by kernel_rfl))) ?_
          replace s := s.tail.tail.tail.tail.tail.tail
          replace s : St W (L) w := s
          rw [hp.2.1] at hrl
          have hff := find_at hp.2.2.1 hx hrl (by decide)
          exact ⟨[], fun _ _ h => (by rw [hff] at h; cases h), by rw [resF_rule hff]; rfl, s⟩
        · rw [hb] at ha; skip
          have h1 : (mayB k.ti x) = true := by simpa using hb
          refine wp_skip ?_
          refine block_normal ?_
          refine then_normal ?_
          refine wp_region_lit ?_
          refine st_val (.int .i64 1) ha (by kernel_rfl) (by kernel_rfl) ?_
          clear ha; intro a ha
          refine st_val (.int .i64 1) ha (by kernel_rfl) (by kernel_rfl) ?_
          clear ha; intro a ha
          refine wpList_nil ?_
          refine then_normal ?_
          show Code.rounds _ _ _ 6 _ _
          rw [rounds_succ]
          refine wp_seq ?_
          refine wp_region_lit ?_
          refine st_val (.bool true) ha (by kernel_rfl) (by kernel_rfl) ?_
          clear ha; intro a ha
          refine wpList_nil ?_
          refine then_normal ?_
          refine wp_seq ?_
          refine wp_true ha rfl (by kernel_rfl) ?_
          refine wp_skip ?_
          refine then_normal ?_
          refine wp_seq ?_
          refine wp_block ?_
          refine wp_seq ?_
          refine wp_region_lit ?_
          refine st_val (.int .i64 1) ha (by kernel_rfl) (by kernel_rfl) ?_
          clear ha; intro a ha
          refine st_val (.func (.func 17) #[] #[]) ha (by kernel_rfl) (by kernel_rfl) ?_
          clear ha; intro a ha
          refine st_val (.int .i64 1) ha (by kernel_rfl) (by kernel_rfl) ?_
          clear ha; intro a ha
          refine st_val (.func (.func 17) #[] #[]) ha (by kernel_rfl) (by kernel_rfl) ?_
          clear ha; intro a ha
          refine wpList_nil ?_
          refine then_normal ?_
          refine wp_seq ?_
          refine wp_region_lit ?_
          refine st_val (.func (.func 17) #[] #[]) ha (by kernel_rfl) (by kernel_rfl) ?_
          clear ha; intro a ha
          refine st_val (.pointer (some ⟨g3, 0, none⟩)) ha (by kernel_rfl) (by kernel_rfl) ?_
          clear ha; intro a ha
          refine st_val (.agg (evv x).toArray) ha (by kernel_rfl) (run_loadN (of_ := 0) (evv x) (s.blkIs 4 rfl) rfl (by kernel_rfl) Try.isAgg36 Try.sizeOf36 rfl (Nat.le_of_ble_eq_true rfl)) ?_
          clear ha; intro a ha
          refine st_call ha (by kernel_rfl) (by kernel_rfl) (nodes_any W _ w g3 g1 g2 k Dd T (6 * i) hk (by omega) x (may_node h1).2.2.2 s) ?_
          rintro _ w ⟨rfl, s⟩
          refine ⟨_, rfl, ?_⟩; clear ha; intro a ha
          refine st_val (.bool (!(nodesB k.dn x))) ha (by kernel_rfl) (by kernel_rfl) ?_
          clear ha; intro a ha
          refine wpList_nil ?_
          refine then_normal ?_
          refine wp_part (!(nodesB k.dn x)) ha rfl (by kernel_rfl) (fun hb => ?_) (fun hb => ?_)
          · rw [hb] at ha; skip
            have hb7 : (nodesB k.dn x) = false := by simpa using hb
            have hrl : ruleL k x = 2 := by unfold ruleL; simp [h1, hb7]
            refine wp_seq ?_
            refine wp_region_lit ?_
            refine st_val (.int .i64 1) ha (by kernel_rfl) (by kernel_rfl) ?_
            clear ha; intro a ha
            refine st_val (.int .i64 2) ha (by kernel_rfl) (by kernel_rfl) ?_
            clear ha; intro a ha
            refine st_val (.int .i64 ((i : Nat) : Int)) ha (by kernel_rfl) (by kernel_rfl) ?_
            clear ha; intro a ha
            refine st_val (.int .i64 2) ha (by kernel_rfl) (by kernel_rfl) ?_
            clear ha; intro a ha
            refine st_val (.int .i64 ((i : Nat) : Int)) ha (by kernel_rfl) (by kernel_rfl) ?_
            clear ha; intro a ha
            refine st_val (.int .i64 0) ha (by kernel_rfl) (by kernel_rfl) ?_
            clear ha; intro a ha
            refine wpList_nil ?_
            refine then_normal ?_
            refine wp_ret ?_
            refine block_ret ?_
            refine then_ret ?_
            refine then_ret ?_
            refine block_ret ?_
            refine then_ret ?_
            refine block_ret ?_
            refine then_ret ?_
            refine then_ret ?_
            refine block_ret ?_
            refine then_ret ?_
            refine ret_with (v := .tuple #[.int .i64 2, .int .i64 ((i : Nat) : Int), .int .i64 0]) ha (results_3 rfl ha (res_tmp (by kernel_rfl) (by kernel_rfl)) (res_tmp (by kernel_rfl) (by kernel_rfl)) (res_tmp (by kernel_rfl) (by kernel_rfl))) ?_
            replace s := s.tail.tail.tail.tail.tail.tail
            replace s : St W (L) w := s
            rw [hp.2.1] at hrl
            have hff := find_at hp.2.2.1 hx hrl (by decide)
            exact ⟨[], fun _ _ h => (by rw [hff] at h; cases h), by rw [resF_rule hff]; rfl, s⟩
          · rw [hb] at ha; skip
            have h2 : (nodesB k.dn x) = true := by simpa using hb
            refine wp_skip ?_
            refine block_normal ?_
            refine then_normal ?_
            refine wp_region_lit ?_
            refine st_val (.int .i64 2) ha (by kernel_rfl) (by kernel_rfl) ?_
            clear ha; intro a ha
            refine st_val (.int .i64 2) ha (by kernel_rfl) (by kernel_rfl) ?_
            clear ha; intro a ha
            refine wpList_nil ?_
            refine then_normal ?_
            show Code.rounds _ _ _ 5 _ _
            rw [rounds_succ]
            refine wp_seq ?_
            refine wp_region_lit ?_
            refine st_val (.bool true) ha (by kernel_rfl) (by kernel_rfl) ?_
            clear ha; intro a ha
            refine wpList_nil ?_
            refine then_normal ?_
            refine wp_seq ?_
            refine wp_true ha rfl (by kernel_rfl) ?_
            refine wp_skip ?_
            refine then_normal ?_
            refine wp_seq ?_
            refine wp_block ?_
            refine wp_seq ?_
            refine wp_region_lit ?_
            refine st_val (.int .i64 2) ha (by kernel_rfl) (by kernel_rfl) ?_
            clear ha; intro a ha
            refine st_val (.func (.func 18) #[] #[]) ha (by kernel_rfl) (by kernel_rfl) ?_
            clear ha; intro a ha
            refine st_val (.int .i64 2) ha (by kernel_rfl) (by kernel_rfl) ?_
            clear ha; intro a ha
            refine st_val (.func (.func 18) #[] #[]) ha (by kernel_rfl) (by kernel_rfl) ?_
            clear ha; intro a ha
            refine wpList_nil ?_
            refine then_normal ?_
            refine wp_seq ?_
            refine wp_region_lit ?_
            refine st_val (.func (.func 18) #[] #[]) ha (by kernel_rfl) (by kernel_rfl) ?_
            clear ha; intro a ha
            refine st_val (.pointer (some ⟨g3, 0, none⟩)) ha (by kernel_rfl) (by kernel_rfl) ?_
            clear ha; intro a ha
            refine st_val (.agg (evv x).toArray) ha (by kernel_rfl) (run_loadN (of_ := 0) (evv x) (s.blkIs 4 rfl) rfl (by kernel_rfl) Try.isAgg36 Try.sizeOf36 rfl (Nat.le_of_ble_eq_true rfl)) ?_
            clear ha; intro a ha
            refine st_call ha (by kernel_rfl) (by kernel_rfl) (begins_any W _ w g3 g1 g2 k Dd T (6 * i) hk (by omega) x s) ?_
            rintro _ w ⟨rfl, s⟩
            refine ⟨_, rfl, ?_⟩; clear ha; intro a ha
            refine st_val (.bool (!(beginsB k.most x))) ha (by kernel_rfl) (by kernel_rfl) ?_
            clear ha; intro a ha
            refine wpList_nil ?_
            refine then_normal ?_
            refine wp_part (!(beginsB k.most x)) ha rfl (by kernel_rfl) (fun hb => ?_) (fun hb => ?_)
            · rw [hb] at ha; skip
              have hb7 : (beginsB k.most x) = false := by simpa using hb
              have hrl : ruleL k x = 3 := by unfold ruleL; simp [h1, h2, hb7]
              refine wp_seq ?_
              refine wp_region_lit ?_
              refine st_val (.int .i64 2) ha (by kernel_rfl) (by kernel_rfl) ?_
              clear ha; intro a ha
              refine st_val (.int .i64 3) ha (by kernel_rfl) (by kernel_rfl) ?_
              clear ha; intro a ha
              refine st_val (.int .i64 ((i : Nat) : Int)) ha (by kernel_rfl) (by kernel_rfl) ?_
              clear ha; intro a ha
              refine st_val (.int .i64 3) ha (by kernel_rfl) (by kernel_rfl) ?_
              clear ha; intro a ha
              refine st_val (.int .i64 ((i : Nat) : Int)) ha (by kernel_rfl) (by kernel_rfl) ?_
              clear ha; intro a ha
              refine st_val (.int .i64 0) ha (by kernel_rfl) (by kernel_rfl) ?_
              clear ha; intro a ha
              refine wpList_nil ?_
              refine then_normal ?_
              refine wp_ret ?_
              refine block_ret ?_
              refine then_ret ?_
              refine then_ret ?_
              refine block_ret ?_
              refine then_ret ?_
              refine block_ret ?_
              refine then_ret ?_
              refine then_ret ?_
              refine block_ret ?_
              refine then_ret ?_
              refine ret_with (v := .tuple #[.int .i64 3, .int .i64 ((i : Nat) : Int), .int .i64 0]) ha (results_3 rfl ha (res_tmp (by kernel_rfl) (by kernel_rfl)) (res_tmp (by kernel_rfl) (by kernel_rfl)) (res_tmp (by kernel_rfl) (by kernel_rfl))) ?_
              replace s := s.tail.tail.tail.tail.tail.tail
              replace s : St W (L) w := s
              rw [hp.2.1] at hrl
              have hff := find_at hp.2.2.1 hx hrl (by decide)
              exact ⟨[], fun _ _ h => (by rw [hff] at h; cases h), by rw [resF_rule hff]; rfl, s⟩
            · rw [hb] at ha; skip
              have h3 : (beginsB k.most x) = true := by simpa using hb
              refine wp_skip ?_
              refine block_normal ?_
              refine then_normal ?_
              refine wp_region_lit ?_
              refine st_val (.int .i64 3) ha (by kernel_rfl) (by kernel_rfl) ?_
              clear ha; intro a ha
              refine st_val (.int .i64 3) ha (by kernel_rfl) (by kernel_rfl) ?_
              clear ha; intro a ha
              refine wpList_nil ?_
              refine then_normal ?_
              show Code.rounds _ _ _ 4 _ _
              rw [rounds_succ]
              refine wp_seq ?_
              refine wp_region_lit ?_
              refine st_val (.bool true) ha (by kernel_rfl) (by kernel_rfl) ?_
              clear ha; intro a ha
              refine wpList_nil ?_
              refine then_normal ?_
              refine wp_seq ?_
              refine wp_true ha rfl (by kernel_rfl) ?_
              refine wp_skip ?_
              refine then_normal ?_
              refine wp_seq ?_
              refine wp_block ?_
              refine wp_seq ?_
              refine wp_region_lit ?_
              refine st_val (.int .i64 3) ha (by kernel_rfl) (by kernel_rfl) ?_
              clear ha; intro a ha
              refine st_val (.func (.func 19) #[] #[]) ha (by kernel_rfl) (by kernel_rfl) ?_
              clear ha; intro a ha
              refine st_val (.int .i64 3) ha (by kernel_rfl) (by kernel_rfl) ?_
              clear ha; intro a ha
              refine st_val (.func (.func 19) #[] #[]) ha (by kernel_rfl) (by kernel_rfl) ?_
              clear ha; intro a ha
              refine wpList_nil ?_
              refine then_normal ?_
              refine wp_seq ?_
              refine wp_region_lit ?_
              refine st_val (.func (.func 19) #[] #[]) ha (by kernel_rfl) (by kernel_rfl) ?_
              clear ha; intro a ha
              refine st_val (.pointer (some ⟨g3, 0, none⟩)) ha (by kernel_rfl) (by kernel_rfl) ?_
              clear ha; intro a ha
              refine st_val (.agg (evv x).toArray) ha (by kernel_rfl) (run_loadN (of_ := 0) (evv x) (s.blkIs 4 rfl) rfl (by kernel_rfl) Try.isAgg36 Try.sizeOf36 rfl (Nat.le_of_ble_eq_true rfl)) ?_
              clear ha; intro a ha
              refine st_call ha (by kernel_rfl) (by kernel_rfl) (asks_any W _ w g3 g1 g2 k Dd T (6 * i) hk (by omega) x h1 s) ?_
              rintro _ w ⟨T, rfl, hk, s⟩
              refine ⟨_, rfl, ?_⟩; clear ha; intro a ha
              refine st_val (.bool (!(asksB (k.tx x.id) x))) ha (by kernel_rfl) (by kernel_rfl) ?_
              clear ha; intro a ha
              refine wpList_nil ?_
              refine then_normal ?_
              refine wp_part (!(asksB (k.tx x.id) x)) ha rfl (by kernel_rfl) (fun hb => ?_) (fun hb => ?_)
              · rw [hb] at ha; skip
                have hb7 : (asksB (k.tx x.id) x) = false := by simpa using hb
                have hrl : ruleL k x = 4 := by unfold ruleL; simp [h1, h2, h3, hb7]
                refine wp_seq ?_
                refine wp_region_lit ?_
                refine st_val (.int .i64 3) ha (by kernel_rfl) (by kernel_rfl) ?_
                clear ha; intro a ha
                refine st_val (.int .i64 4) ha (by kernel_rfl) (by kernel_rfl) ?_
                clear ha; intro a ha
                refine st_val (.int .i64 ((i : Nat) : Int)) ha (by kernel_rfl) (by kernel_rfl) ?_
                clear ha; intro a ha
                refine st_val (.int .i64 4) ha (by kernel_rfl) (by kernel_rfl) ?_
                clear ha; intro a ha
                refine st_val (.int .i64 ((i : Nat) : Int)) ha (by kernel_rfl) (by kernel_rfl) ?_
                clear ha; intro a ha
                refine st_val (.int .i64 0) ha (by kernel_rfl) (by kernel_rfl) ?_
                clear ha; intro a ha
                refine wpList_nil ?_
                refine then_normal ?_
                refine wp_ret ?_
                refine block_ret ?_
                refine then_ret ?_
                refine then_ret ?_
                refine block_ret ?_
                refine then_ret ?_
                refine block_ret ?_
                refine then_ret ?_
                refine then_ret ?_
                refine block_ret ?_
                refine then_ret ?_
                refine ret_with (v := .tuple #[.int .i64 4, .int .i64 ((i : Nat) : Int), .int .i64 0]) ha (results_3 rfl ha (res_tmp (by kernel_rfl) (by kernel_rfl)) (res_tmp (by kernel_rfl) (by kernel_rfl)) (res_tmp (by kernel_rfl) (by kernel_rfl))) ?_
                replace s := s.tail.tail.tail.tail.tail.tail
                replace s : St W (L) w := s
                rw [hp.2.1] at hrl
                have hff := find_at hp.2.2.1 hx hrl (by decide)
                exact ⟨[], fun _ _ h => (by rw [hff] at h; cases h), by rw [resF_rule hff]; rfl, s⟩
              · rw [hb] at ha; skip
                have h4 : (asksB (k.tx x.id) x) = true := by simpa using hb
                refine wp_skip ?_
                refine block_normal ?_
                refine then_normal ?_
                refine wp_region_lit ?_
                refine st_val (.int .i64 4) ha (by kernel_rfl) (by kernel_rfl) ?_
                clear ha; intro a ha
                refine st_val (.int .i64 4) ha (by kernel_rfl) (by kernel_rfl) ?_
                clear ha; intro a ha
                refine wpList_nil ?_
                refine then_normal ?_
                show Code.rounds _ _ _ 3 _ _
                rw [rounds_succ]
                refine wp_seq ?_
                refine wp_region_lit ?_
                refine st_val (.bool true) ha (by kernel_rfl) (by kernel_rfl) ?_
                clear ha; intro a ha
                refine wpList_nil ?_
                refine then_normal ?_
                refine wp_seq ?_
                refine wp_true ha rfl (by kernel_rfl) ?_
                refine wp_skip ?_
                refine then_normal ?_
                refine wp_seq ?_
                refine wp_block ?_
                refine wp_seq ?_
                refine wp_region_lit ?_
                refine st_val (.int .i64 4) ha (by kernel_rfl) (by kernel_rfl) ?_
                clear ha; intro a ha
                refine st_val (.func (.func 20) #[] #[]) ha (by kernel_rfl) (by kernel_rfl) ?_
                clear ha; intro a ha
                refine st_val (.int .i64 4) ha (by kernel_rfl) (by kernel_rfl) ?_
                clear ha; intro a ha
                refine st_val (.func (.func 20) #[] #[]) ha (by kernel_rfl) (by kernel_rfl) ?_
                clear ha; intro a ha
                refine wpList_nil ?_
                refine then_normal ?_
                refine wp_seq ?_
                refine wp_region_lit ?_
                refine st_val (.func (.func 20) #[] #[]) ha (by kernel_rfl) (by kernel_rfl) ?_
                clear ha; intro a ha
                refine st_val (.pointer (some ⟨g3, 0, none⟩)) ha (by kernel_rfl) (by kernel_rfl) ?_
                clear ha; intro a ha
                refine st_val (.agg (evv x).toArray) ha (by kernel_rfl) (run_loadN (of_ := 0) (evv x) (s.blkIs 4 rfl) rfl (by kernel_rfl) Try.isAgg36 Try.sizeOf36 rfl (Nat.le_of_ble_eq_true rfl)) ?_
                clear ha; intro a ha
                refine st_call ha (by kernel_rfl) (by kernel_rfl) (answers_any W _ w g3 g1 g2 k Dd T (6 * i + 1) hk (by omega) x h1 s) ?_
                rintro _ w ⟨T, rfl, hk, s⟩
                refine ⟨_, rfl, ?_⟩; clear ha; intro a ha
                refine st_val (.bool (!(answersB (k.tx x.id) x))) ha (by kernel_rfl) (by kernel_rfl) ?_
                clear ha; intro a ha
                refine wpList_nil ?_
                refine then_normal ?_
                refine wp_part (!(answersB (k.tx x.id) x)) ha rfl (by kernel_rfl) (fun hb => ?_) (fun hb => ?_)
                · rw [hb] at ha; skip
                  have hb7 : (answersB (k.tx x.id) x) = false := by simpa using hb
                  have hrl : ruleL k x = 5 := by unfold ruleL; simp [h1, h2, h3, h4, hb7]
                  refine wp_seq ?_
                  refine wp_region_lit ?_
                  refine st_val (.int .i64 4) ha (by kernel_rfl) (by kernel_rfl) ?_
                  clear ha; intro a ha
                  refine st_val (.int .i64 5) ha (by kernel_rfl) (by kernel_rfl) ?_
                  clear ha; intro a ha
                  refine st_val (.int .i64 ((i : Nat) : Int)) ha (by kernel_rfl) (by kernel_rfl) ?_
                  clear ha; intro a ha
                  refine st_val (.int .i64 5) ha (by kernel_rfl) (by kernel_rfl) ?_
                  clear ha; intro a ha
                  refine st_val (.int .i64 ((i : Nat) : Int)) ha (by kernel_rfl) (by kernel_rfl) ?_
                  clear ha; intro a ha
                  refine st_val (.int .i64 0) ha (by kernel_rfl) (by kernel_rfl) ?_
                  clear ha; intro a ha
                  refine wpList_nil ?_
                  refine then_normal ?_
                  refine wp_ret ?_
                  refine block_ret ?_
                  refine then_ret ?_
                  refine then_ret ?_
                  refine block_ret ?_
                  refine then_ret ?_
                  refine block_ret ?_
                  refine then_ret ?_
                  refine then_ret ?_
                  refine block_ret ?_
                  refine then_ret ?_
                  refine ret_with (v := .tuple #[.int .i64 5, .int .i64 ((i : Nat) : Int), .int .i64 0]) ha (results_3 rfl ha (res_tmp (by kernel_rfl) (by kernel_rfl)) (res_tmp (by kernel_rfl) (by kernel_rfl)) (res_tmp (by kernel_rfl) (by kernel_rfl))) ?_
                  replace s := s.tail.tail.tail.tail.tail.tail
                  replace s : St W (L) w := s
                  rw [hp.2.1] at hrl
                  have hff := find_at hp.2.2.1 hx hrl (by decide)
                  exact ⟨[], fun _ _ h => (by rw [hff] at h; cases h), by rw [resF_rule hff]; rfl, s⟩
                · rw [hb] at ha; skip
                  have h5 : (answersB (k.tx x.id) x) = true := by simpa using hb
                  refine wp_skip ?_
                  refine block_normal ?_
                  refine then_normal ?_
                  refine wp_region_lit ?_
                  refine st_val (.int .i64 5) ha (by kernel_rfl) (by kernel_rfl) ?_
                  clear ha; intro a ha
                  refine st_val (.int .i64 5) ha (by kernel_rfl) (by kernel_rfl) ?_
                  clear ha; intro a ha
                  refine wpList_nil ?_
                  refine then_normal ?_
                  show Code.rounds _ _ _ 2 _ _
                  rw [rounds_succ]
                  refine wp_seq ?_
                  refine wp_region_lit ?_
                  refine st_val (.bool true) ha (by kernel_rfl) (by kernel_rfl) ?_
                  clear ha; intro a ha
                  refine wpList_nil ?_
                  refine then_normal ?_
                  refine wp_seq ?_
                  refine wp_true ha rfl (by kernel_rfl) ?_
                  refine wp_skip ?_
                  refine then_normal ?_
                  refine wp_seq ?_
                  refine wp_block ?_
                  refine wp_seq ?_
                  refine wp_region_lit ?_
                  refine st_val (.int .i64 5) ha (by kernel_rfl) (by kernel_rfl) ?_
                  clear ha; intro a ha
                  refine st_val (.func (.func 21) #[] #[]) ha (by kernel_rfl) (by kernel_rfl) ?_
                  clear ha; intro a ha
                  refine st_val (.int .i64 5) ha (by kernel_rfl) (by kernel_rfl) ?_
                  clear ha; intro a ha
                  refine st_val (.func (.func 21) #[] #[]) ha (by kernel_rfl) (by kernel_rfl) ?_
                  clear ha; intro a ha
                  refine wpList_nil ?_
                  refine then_normal ?_
                  refine wp_seq ?_
                  refine wp_region_lit ?_
                  refine st_val (.func (.func 21) #[] #[]) ha (by kernel_rfl) (by kernel_rfl) ?_
                  clear ha; intro a ha
                  refine st_val (.pointer (some ⟨g3, 0, none⟩)) ha (by kernel_rfl) (by kernel_rfl) ?_
                  clear ha; intro a ha
                  refine st_val (.agg (evv x).toArray) ha (by kernel_rfl) (run_loadN (of_ := 0) (evv x) (s.blkIs 4 rfl) rfl (by kernel_rfl) Try.isAgg36 Try.sizeOf36 rfl (Nat.le_of_ble_eq_true rfl)) ?_
                  clear ha; intro a ha
                  refine st_call ha (by kernel_rfl) (by kernel_rfl) (agrees_any W _ w g3 g1 g2 k Dd T (6 * i + 1 + 1) hk (by omega) x h1 s) ?_
                  rintro _ w ⟨T, rfl, hk, s⟩
                  refine ⟨_, rfl, ?_⟩; clear ha; intro a ha
                  refine st_val (.bool (!(agreesB (k.tx x.id) x))) ha (by kernel_rfl) (by kernel_rfl) ?_
                  clear ha; intro a ha
                  refine wpList_nil ?_
                  refine then_normal ?_
                  refine wp_part (!(agreesB (k.tx x.id) x)) ha rfl (by kernel_rfl) (fun hb => ?_) (fun hb => ?_)
                  · rw [hb] at ha; skip
                    have hb7 : (agreesB (k.tx x.id) x) = false := by simpa using hb
                    have hrl : ruleL k x = 6 := by unfold ruleL; simp [h1, h2, h3, h4, h5, hb7]
                    refine wp_seq ?_
                    refine wp_region_lit ?_
                    refine st_val (.int .i64 5) ha (by kernel_rfl) (by kernel_rfl) ?_
                    clear ha; intro a ha
                    refine st_val (.int .i64 6) ha (by kernel_rfl) (by kernel_rfl) ?_
                    clear ha; intro a ha
                    refine st_val (.int .i64 ((i : Nat) : Int)) ha (by kernel_rfl) (by kernel_rfl) ?_
                    clear ha; intro a ha
                    refine st_val (.int .i64 6) ha (by kernel_rfl) (by kernel_rfl) ?_
                    clear ha; intro a ha
                    refine st_val (.int .i64 ((i : Nat) : Int)) ha (by kernel_rfl) (by kernel_rfl) ?_
                    clear ha; intro a ha
                    refine st_val (.int .i64 0) ha (by kernel_rfl) (by kernel_rfl) ?_
                    clear ha; intro a ha
                    refine wpList_nil ?_
                    refine then_normal ?_
                    refine wp_ret ?_
                    refine block_ret ?_
                    refine then_ret ?_
                    refine then_ret ?_
                    refine block_ret ?_
                    refine then_ret ?_
                    refine block_ret ?_
                    refine then_ret ?_
                    refine then_ret ?_
                    refine block_ret ?_
                    refine then_ret ?_
                    refine ret_with (v := .tuple #[.int .i64 6, .int .i64 ((i : Nat) : Int), .int .i64 0]) ha (results_3 rfl ha (res_tmp (by kernel_rfl) (by kernel_rfl)) (res_tmp (by kernel_rfl) (by kernel_rfl)) (res_tmp (by kernel_rfl) (by kernel_rfl))) ?_
                    replace s := s.tail.tail.tail.tail.tail.tail
                    replace s : St W (L) w := s
                    rw [hp.2.1] at hrl
                    have hff := find_at hp.2.2.1 hx hrl (by decide)
                    exact ⟨[], fun _ _ h => (by rw [hff] at h; cases h), by rw [resF_rule hff]; rfl, s⟩
                  · rw [hb] at ha; skip
                    have h6 : (agreesB (k.tx x.id) x) = true := by simpa using hb
                    refine wp_skip ?_
                    refine block_normal ?_
                    refine then_normal ?_
                    refine wp_region_lit ?_
                    refine st_val (.int .i64 6) ha (by kernel_rfl) (by kernel_rfl) ?_
                    clear ha; intro a ha
                    refine st_val (.int .i64 6) ha (by kernel_rfl) (by kernel_rfl) ?_
                    clear ha; intro a ha
                    refine wpList_nil ?_
                    refine then_normal ?_
                    show Code.rounds _ _ _ 1 _ _
                    rw [rounds_succ]
                    refine wp_seq ?_
                    refine wp_region_lit ?_
                    refine st_val (.bool false) ha (by kernel_rfl) (by kernel_rfl) ?_
                    clear ha; intro a ha
                    refine wpList_nil ?_
                    refine then_normal ?_
                    refine wp_seq ?_
                    refine wp_false ha rfl (by kernel_rfl) ?_
                    refine wp_exit ?_
                    refine then_exit ?_
                    refine then_exit ?_
                    refine block_hit ?_
                    refine then_normal ?_
                    refine wp_region_lit ?_
                    refine st_val (.pointer (some ⟨g3, 0, none⟩)) ha (by kernel_rfl) (by kernel_rfl) ?_
                    clear ha; intro a ha
                    refine st_val (.agg (evv x).toArray) ha (by kernel_rfl) (run_loadN (of_ := 0) (evv x) (s.blkIs 4 rfl) rfl (by kernel_rfl) Try.isAgg36 Try.sizeOf36 rfl (Nat.le_of_ble_eq_true rfl)) ?_
                    clear ha; intro a ha
                    refine st_call ha (by kernel_rfl) (by kernel_rfl) (see_any W _ w g3 g1 g2 k Dd T (6 * i + 1 + 1 + 1) hk (by omega) x h1 s) ?_
                    rintro _ w ⟨Dd, T, rfl, hk, s⟩
                    refine ⟨_, rfl, ?_⟩; clear ha; intro a ha
                    refine wpList_nil ?_
                    refine block_normal ?_
                    refine then_normal ?_
                    refine wp_region_lit ?_
                    refine st_val (.int .i64 ((i + 1 : Nat) : Int)) ha (by kernel_rfl) (run_arith (((i : Nat) : Int) + (1 : Int)) ((i + 1 : Nat) : Int) rfl (by kernel_rfl) (by kernel_rfl) (.inl ⟨rfl, rfl⟩) (by rw [wrap64_in (by omega)]; try omega) _) ?_
                    clear ha; intro a ha
                    refine st_val (.int .i64 ((i + 1 : Nat) : Int)) ha (by kernel_rfl) (by kernel_rfl) ?_
                    clear ha; intro a ha
                    refine wpList_nil ?_
                    refine then_normal ?_
                    replace s := ((((s.at_ (j := 5) rfl).at_ (j := 4) rfl).at_ (j := 4) rfl).at_ (j := 4) rfl).at_ (j := 4) rfl
                    replace s : St W (.blk g3 [.int .i64 ((seeL k x).ti), .int .i64 ((seeL k x).most), .map (some g1), .map (some g2)] 48 :: MapT Try.prog 3 encI g1 Dd :: MapT Try.prog 3 encI g2 (T.map ent) :: Blks T :: .blk g4 [.func (.func 16) #[] #[], .func (.func 17) #[] #[], .func (.func 18) #[] #[], .func (.func 19) #[] #[], .func (.func 20) #[] #[], .func (.func 21) #[] #[]] 51 :: L) w := s.keep 5 1
                    have hr0 : ruleL k x = 0 := by unfold ruleL; simp [h1, h2, h3, h4, h5, h6]
                    have hpk := hp.2.1
                    rw [hpk] at hr0
                    exact ⟨(i + 1, seeL k x, Dd, T), (show l.length - (i + 1) < l.length - i by omega), (Has.cons ha (by kernel_rfl) (by kernel_rfl) (Has.cons ha (by kernel_rfl) (by kernel_rfl) (Has.cons ha (by kernel_rfl) (by kernel_rfl) (Has.cons ha (by kernel_rfl) (by kernel_rfl) (Has.cons ha (by kernel_rfl) (by kernel_rfl) (Has.cons ha (by kernel_rfl) (by kernel_rfl) (Has.cons ha (by kernel_rfl) (by kernel_rfl) (Has.nil ha)))))))), s, (show i + 1 ≤ l.length by omega), by rw [fold_step hx, ← hpk], find_step hp.2.2.1 hx hr0, hk.up (by omega)⟩
      · rw [hb] at ha; replace hb : ¬ (((i : Nat) : Int) < ((l.length : Nat) : Int)) := of_decide_eq_false hb
        refine wp_exit ?_
        refine then_exit ?_
        refine then_exit ?_
        refine block_hit ?_
        refine then_normal ?_
        refine wp_seq ?_
        refine wp_seq ?_
        refine wp_region_lit ?_
        refine st_val (.bool well) ha (by kernel_rfl) (by kernel_rfl) ?_
        clear ha; intro a ha
        refine st_val (.bool (!well)) ha (by kernel_rfl) (by kernel_rfl) ?_
        clear ha; intro a ha
        refine wpList_nil ?_
        refine then_normal ?_
        refine wp_part (!well) ha rfl (by kernel_rfl) (fun hb => ?_) (fun hb => ?_)
        · rw [hb] at ha; skip
          have hwl : well = false := by simpa using hb
          refine wp_seq ?_
          refine wp_region_lit ?_
          refine st_val (.int .i64 0) ha (by kernel_rfl) (by kernel_rfl) ?_
          clear ha; intro a ha
          refine st_val (.int .i64 0) ha (by kernel_rfl) (by kernel_rfl) ?_
          clear ha; intro a ha
          refine st_val (.int .i64 0) ha (by kernel_rfl) (by kernel_rfl) ?_
          clear ha; intro a ha
          refine wpList_nil ?_
          refine then_normal ?_
          refine wp_ret ?_
          refine then_ret ?_
          refine ret_with (v := .tuple #[.int .i64 0, .int .i64 0, .int .i64 0]) ha (results_3 rfl ha (res_tmp (by kernel_rfl) (by kernel_rfl)) (res_tmp (by kernel_rfl) (by kernel_rfl)) (res_tmp (by kernel_rfl) (by kernel_rfl))) ?_
          replace s := s.tail.tail.tail.tail.tail
          replace s : St W (L) w := s
          have hfn := hp.2.2.1
          rw [List.take_of_length_le (by omega)] at hfn
          exact ⟨[], fun _ h _ => (by rw [hwl] at h; cases h), by rw [hwl, resF_not hfn]; rfl, s⟩
        · rw [hb] at ha; skip
          have hwl : well = true := by simpa using hb
          replace hi := hi hwl
          replace hbe := hbe hwl
          refine wp_skip ?_
          refine then_normal ?_
          refine wp_seq ?_
          refine wp_region_lit ?_
          refine st_val (.pointer (some ⟨g3, 0, none⟩)) ha (by kernel_rfl) (by kernel_rfl) ?_
          clear ha; intro a ha
          refine st_val (.slice A l.length ca) ha (by kernel_rfl) (by kernel_rfl) ?_
          clear ha; intro a ha
          replace s : St W (.blk g3 [.int .i64 k.ti, .int .i64 k.most, .map (some g1), .map (some g2)] 48 :: MapT Try.prog 3 encI g1 Dd :: MapT Try.prog 3 encI g2 (T.map ent) :: Blks T :: L) w := s.keep 4 1
          have hfn := hp.2.2.1
          rw [List.take_of_length_le (by omega)] at hfn
          have hkt : k.tx = txsL l := by have h := hp.2.1; rw [List.take_of_length_le (by omega)] at h; rw [h]; rfl
          have hok : ∀ x ∈ l, hasB x = true → 1 ≤ x.id ∧ x.id ≤ 9007199254740991 := fun x hx hh => by obtain ⟨ti, h⟩ := findL_may hfn x hx; exact may_has h hh
          have hlk := hp.2.2.2
          refine st_call ha (by kernel_rfl) (by kernel_rfl) (order_any W _ w g3 g1 g2 k Dd T (6 * i) hlk (by omega) A ca l hr hn (by omega) hok s) ?_
          rintro _ w ⟨T2, A1, c1, ds, B1, c2, rs, D, rfl, hk2, ho, s⟩
          rw [hkt] at ho
          replace s : St W (Own 72 4 A1 ds.length c1 (nvs ds) :: Inn 74 ds :: Own 59 1 B1 rs.length c2 (ats rs) :: InnA rs :: .blk g3 [.int .i64 k.ti, .int .i64 k.most, .map (some g1), .map (some g2)] 48 :: MapT Try.prog 3 encI g1 Dd :: MapT Try.prog 3 encI g2 (T2.map ent) :: Blks T2 :: L) w := s
          have hkn : Knows (Own 72 4 A1 ds.length c1 (nvs ds) :: Inn 74 ds :: Own 59 1 B1 rs.length c2 (ats rs) :: InnA rs :: .blk g3 [.int .i64 k.ti, .int .i64 k.most, .map (some g1), .map (some g2)] 48 :: MapT Try.prog 3 encI g1 Dd :: MapT Try.prog 3 encI g2 (T2.map ent) :: Blks T2 :: L) (DonesIn A1 ds) := ord_knows ho fun w s => hr w s.tail.tail.tail.tail.tail.tail
          have hbn := ho.bn hn hbe
          have htn := ho.tns
          have hdl := ho.len.1
          have hdl2 := ordL_len (txsL l) l
          refine ⟨_, rfl, ?_⟩; clear ha; intro a ha
          refine st_val (.tuple #[.slice A1 ds.length c1, .slice B1 rs.length c2]) ha (by kernel_rfl) (by kernel_rfl) ?_
          clear ha; intro a ha
          refine st_val (.slice A1 ds.length c1) ha (by kernel_rfl) (by kernel_rfl) ?_
          clear ha; intro a ha
          refine st_val (.slice B1 rs.length c2) ha (by kernel_rfl) (by kernel_rfl) ?_
          clear ha; intro a ha
          refine st_val (.slice A1 ds.length c1) ha (by kernel_rfl) (by kernel_rfl) ?_
          clear ha; intro a ha
          refine st_val (.slice B1 rs.length c2) ha (by kernel_rfl) (by kernel_rfl) ?_
          clear ha; intro a ha
          refine wpList_nil ?_
          refine then_normal ?_
          refine wp_seq ?_
          refine wp_seq ?_
          refine wp_region_lit ?_
          refine st_val (.slice A1 ds.length c1) ha (by kernel_rfl) (by kernel_rfl) ?_
          clear ha; intro a ha
          by_cases h0 : code (tns ds) = 0
          · skip
            refine st_call ha (by kernel_rfl) (by kernel_rfl) (check_ok W hW _ w A1 c1 ds hkn hbn h0 s) ?_
            rintro _ w ⟨o, rfl, hord, s⟩
            refine ⟨_, rfl, ?_⟩; clear ha; intro a ha
            refine st_val (.tuple #[.int .i64 ((fst (found (tns ds) o) : Nat) : Int), .int .i64 ((snd (found (tns ds) o) : Nat) : Int), .bool ((found (tns ds) o).isSome), .int .i64 0]) ha (by kernel_rfl) (by kernel_rfl) ?_
            clear ha; intro a ha
            refine st_val (.int .i64 ((fst (found (tns ds) o) : Nat) : Int)) ha (by kernel_rfl) (by kernel_rfl) ?_
            clear ha; intro a ha
            refine st_val (.int .i64 ((snd (found (tns ds) o) : Nat) : Int)) ha (by kernel_rfl) (by kernel_rfl) ?_
            clear ha; intro a ha
            refine st_val (.bool ((found (tns ds) o).isSome)) ha (by kernel_rfl) (by kernel_rfl) ?_
            clear ha; intro a ha
            refine st_val (.int .i64 0) ha (by kernel_rfl) (by kernel_rfl) ?_
            clear ha; intro a ha
            refine st_val (.int .i64 ((fst (found (tns ds) o) : Nat) : Int)) ha (by kernel_rfl) (by kernel_rfl) ?_
            clear ha; intro a ha
            refine st_val (.int .i64 ((snd (found (tns ds) o) : Nat) : Int)) ha (by kernel_rfl) (by kernel_rfl) ?_
            clear ha; intro a ha
            refine st_val (.bool ((found (tns ds) o).isSome)) ha (by kernel_rfl) (by kernel_rfl) ?_
            clear ha; intro a ha
            refine st_val (.int .i64 0) ha (by kernel_rfl) (by kernel_rfl) ?_
            clear ha; intro a ha
            refine wpList_nil ?_
            refine then_normal ?_
            refine wp_seq ?_
            refine wp_region_lit ?_
            refine st_val (.int .i64 0) ha (by kernel_rfl) (by kernel_rfl) ?_
            clear ha; intro a ha
            refine st_val (.bool true) ha (by kernel_rfl) (by kernel_rfl) ?_
            clear ha; intro a ha
            refine st_val (.bool true) ha (by kernel_rfl) (by kernel_rfl) ?_
            clear ha; intro a ha
            refine st_val (.bool ((found (tns ds) o).isSome)) ha (by kernel_rfl) (by kernel_rfl) ?_
            clear ha; intro a ha
            refine st_val (.bool ((found (tns ds) o).isSome)) ha (by kernel_rfl) (by kernel_rfl) ?_
            clear ha; intro a ha
            refine wpList_nil ?_
            refine then_normal ?_
            refine wp_part ((found (tns ds) o).isSome) ha rfl (by kernel_rfl) (fun hb => ?_) (fun hb => ?_)
            · rw [hb] at ha; skip
              obtain ⟨⟨ft, fd⟩, hf⟩ := Option.isSome_iff_exists.1 hb
              obtain ⟨a0, ha0, hpl⟩ := ord_place ho hf hord
              rw [hf, fst_some, snd_some] at ha
              have hm2 : ft < rs.length := (List.getElem?_eq_some_iff.1 ha0).1
              have hm3 : fd < a0.l.length := (List.getElem?_eq_some_iff.1 hpl).1
              replace s := (s.at_ (j := 3) rfl).at_ (j := 3) rfl
              replace s : St W (Own 59 1 B1 rs.length c2 (ats rs) :: InnA rs :: L) w := s.keep 2 6
              obtain ⟨b1, hB1⟩ := Reads.addr (Own.reads s.1) (by omega)
              subst hB1
              replace s := s.at_ (j := 1) rfl
              replace s : St W (InnA rs :: Own 59 1 (some b1) rs.length c2 (ats rs) :: L) w := s
              replace s := star_open ha0 s
              replace s : St W (Own 3 1 a0.A a0.l.length a0.c (nats a0.l) :: star ((rs.map fun a : At => Own 3 1 a.A a.l.length a.c (nats a.l)).eraseIdx ft) :: Own 59 1 (some b1) rs.length c2 (ats rs) :: L) w := s
              obtain ⟨b3, hB3⟩ := Reads.addr (Own.reads s.1) (by omega)
              rw [hB3] at s
              replace s : St W (Own 3 1 (some b3) a0.l.length a0.c (nats a0.l) :: star ((rs.map fun a : At => Own 3 1 a.A a.l.length a.c (nats a.l)).eraseIdx ft) :: Own 59 1 (some b1) rs.length c2 (ats rs) :: L) w := s
              refine wp_seq ?_
              refine wp_region_head 8 (fun w => Reads w 1 (some b1) rs.length (ats rs) ∧ Reads w 1 (some b3) a0.l.length (nats a0.l) ∧ True) (by kernel_rfl) (by decide) ?_
              replace s := s.drew; generalize _root_.Go.World.drew _ = w at s ⊢
              have hS : (fun w => Reads w 1 (some b1) rs.length (ats rs) ∧ Reads w 1 (some b3) a0.l.length (nats a0.l) ∧ True) w := ⟨(Own.reads (s.at_ (j := 2) rfl).1), (Own.reads (s.at_ (j := 0) rfl).1), trivial⟩
              refine hd_val (i := 0) (.slice (some b1) rs.length c2) ha rfl (by kernel_rfl) (fun _ _ _ h => h) (by kernel_rfl) (fun w hS => (by kernel_rfl)) hS ?_
              clear ha; intro a ha
              refine hd_val (i := 1) (.int .i64 ((ft : Nat) : Int)) ha rfl (by kernel_rfl) (fun _ _ _ h => h) (by kernel_rfl) (fun w hS => (by kernel_rfl)) hS ?_
              clear ha; intro a ha
              refine hd_val (i := 2) (.pointer (some (b1.add (ft * 1)))) ha rfl (by kernel_rfl) (fun _ _ _ h => h) (by kernel_rfl) (fun w hS => (run_indexAddr' (kd := .i64) (i := ((ft : Nat) : Int)) (n := rs.length) (c := c2) ft rfl Try.underlying54 Try.sizeOf59 (by kernel_rfl) (by kernel_rfl) rfl (by first | assumption | omega) _)) hS ?_
              clear ha; intro a ha
              refine hd_val (i := 3) (.slice (some b3) a0.l.length a0.c) ha rfl (by kernel_rfl) (fun _ _ _ h => h) (by kernel_rfl) (fun w hS => run_loadRow1 (m := ft) hS.1 rfl (by kernel_rfl) Try.isAgg59 (by rw [ats_at ha0, hB3])) hS ?_
              clear ha; intro a ha
              refine hd_val (i := 4) (.int .i64 ((fd : Nat) : Int)) ha rfl (by kernel_rfl) (fun _ _ _ h => h) (by kernel_rfl) (fun w hS => (by kernel_rfl)) hS ?_
              clear ha; intro a ha
              refine hd_val (i := 5) (.pointer (some (b3.add (fd * 1)))) ha rfl (by kernel_rfl) (fun _ _ _ h => h) (by kernel_rfl) (fun w hS => (run_indexAddr' (kd := .i64) (i := ((fd : Nat) : Int)) (n := a0.l.length) (c := a0.c) fd rfl Try.underlying59 Try.sizeOf3 (by kernel_rfl) (by kernel_rfl) rfl (by first | assumption | omega) _)) hS ?_
              clear ha; intro a ha
              refine hd_val (i := 6) (.int .i64 ((placeOf (ordL (txsL l) l) ft fd : Nat) : Int)) ha rfl (by kernel_rfl) (fun _ _ _ h => h) (by kernel_rfl) (fun w hS => run_loadRow1 (m := fd) hS.2.1 rfl (by kernel_rfl) Try.isAgg3 (by simp [nats, hpl])) hS ?_
              clear ha; intro a ha
              refine hd_val (i := 7) (.int .i64 7) ha rfl (by kernel_rfl) (fun _ _ _ h => h) (by kernel_rfl) (fun w hS => (by kernel_rfl)) hS ?_
              clear ha; intro a ha
              refine Head.done (by kernel_rfl) ?_
              clear hS; simp only [List.drop_succ_cons, List.drop_zero]
              refine st_val (.int .i64 ((placeOf (ordL (txsL l) l) ft fd : Nat) : Int)) ha (by kernel_rfl) (by kernel_rfl) ?_
              clear ha; intro a ha
              refine st_val (.int .i64 0) ha (by kernel_rfl) (by kernel_rfl) ?_
              clear ha; intro a ha
              refine wpList_nil ?_
              refine then_normal ?_
              refine wp_ret ?_
              refine then_ret ?_
              refine ret_with (v := .tuple #[.int .i64 7, .int .i64 ((placeOf (ordL (txsL l) l) ft fd : Nat) : Int), .int .i64 0]) ha (results_3 rfl ha (res_tmp (by kernel_rfl) (by kernel_rfl)) (res_tmp (by kernel_rfl) (by kernel_rfl)) (res_tmp (by kernel_rfl) (by kernel_rfl))) ?_
              replace s := s.tail.tail.tail
              replace s : St W (L) w := s
              refine ⟨o, fun h _ _ => htn ▸ hord, ?_, s⟩
              rw [hwl, resF_seven hfn (htn ▸ h0) (htn ▸ hf)]; rfl
            · rw [hb] at ha; skip
              have hno : code (tnsP (ordL (txsL l) l)) = 0 → found (tnsP (ordL (txsL l) l)) o = none := fun _ => by rw [← htn]; simpa using hb
              refine wp_skip ?_
              refine then_normal ?_
              refine wp_seq ?_
              refine wp_seq ?_
              have hord2 : code (tnsP (ordL (txsL l) l)) = 0 → IsOrd (tnsP (ordL (txsL l) l)) o := fun h => htn ▸ hord
              refine wp_region_lit ?_
              refine st_val (.slice A l.length ca) ha (by kernel_rfl) (by kernel_rfl) ?_
              clear ha; intro a ha
              refine st_val (.slice A1 ds.length c1) ha (by kernel_rfl) (by kernel_rfl) ?_
              clear ha; intro a ha
              refine st_call ha (by kernel_rfl) (by kernel_rfl) (late_any W _ w A ca l (fun w s => hr w s.tail.tail.tail.tail.tail.tail.tail.tail) hn hi A1 c1 ds hkn hbn (by omega) (fun d hd => by obtain ⟨x, hx, e⟩ := (ho.did hd).2.1; rw [e]; exact hi x hx) s) ?_
              rintro _ w ⟨rfl, s⟩
              refine ⟨_, rfl, ?_⟩; clear ha; intro a ha
              refine st_val (.int .i64 (lateI (lateL (knF ds) [] l 0))) ha (by kernel_rfl) (by kernel_rfl) ?_
              clear ha; intro a ha
              refine wpList_nil ?_
              refine then_normal ?_
              refine wp_seq ?_
              refine wp_region_lit ?_
              refine st_val (.int .i64 (lateI (lateL (knF ds) [] l 0))) ha (by kernel_rfl) (by kernel_rfl) ?_
              clear ha; intro a ha
              refine st_val (.bool (decide ((lateI (lateL (knF ds) [] l 0)) ≥ (0 : Int)))) ha (by kernel_rfl) (by kernel_rfl) ?_
              clear ha; intro a ha
              refine wpList_nil ?_
              refine then_normal ?_
              refine wp_part (decide ((lateI (lateL (knF ds) [] l 0)) ≥ (0 : Int))) ha rfl (by kernel_rfl) (fun hb => ?_) (fun hb => ?_)
              · rw [hb] at ha; replace hb : ((lateI (lateL (knF ds) [] l 0)) ≥ (0 : Int)) := of_decide_eq_true hb
                have hlt := hb
                refine wp_seq ?_
                refine wp_region_lit ?_
                refine st_val (.int .i64 (lateI (lateL (knF ds) [] l 0))) ha (by kernel_rfl) (by kernel_rfl) ?_
                clear ha; intro a ha
                refine st_val (.int .i64 8) ha (by kernel_rfl) (by kernel_rfl) ?_
                clear ha; intro a ha
                refine st_val (.int .i64 (lateI (lateL (knF ds) [] l 0))) ha (by kernel_rfl) (by kernel_rfl) ?_
                clear ha; intro a ha
                refine st_val (.int .i64 0) ha (by kernel_rfl) (by kernel_rfl) ?_
                clear ha; intro a ha
                refine wpList_nil ?_
                refine then_normal ?_
                refine wp_ret ?_
                refine then_ret ?_
                refine ret_with (v := .tuple #[.int .i64 8, .int .i64 (lateI (lateL (knF ds) [] l 0)), .int .i64 0]) ha (results_3 rfl ha (res_tmp (by kernel_rfl) (by kernel_rfl)) (res_tmp (by kernel_rfl) (by kernel_rfl)) (res_tmp (by kernel_rfl) (by kernel_rfl))) ?_
                replace s := s.tail.tail.tail.tail.tail.tail.tail.tail
                replace s : St W (L) w := s
                refine ⟨o, fun h _ _ => hord2 h, ?_, s⟩
                rw [late_ord ho] at hlt ⊢
                obtain ⟨z, hz⟩ := lateI_some hlt
                rw [hwl, resF_late hfn hno, hz]; rfl
              · rw [hb] at ha; replace hb : ¬ ((lateI (lateL (knF ds) [] l 0)) ≥ (0 : Int)) := of_decide_eq_false hb
                have hlt := hb
                refine wp_skip ?_
                refine then_normal ?_
                refine wp_seq ?_
                refine wp_region_lit ?_
                refine st_val (.int .i64 0) ha (by kernel_rfl) (by kernel_rfl) ?_
                clear ha; intro a ha
                refine st_val (.int .i64 0) ha (by kernel_rfl) (by kernel_rfl) ?_
                clear ha; intro a ha
                refine st_val (.int .i64 0) ha (by kernel_rfl) (by kernel_rfl) ?_
                clear ha; intro a ha
                refine wpList_nil ?_
                refine then_normal ?_
                refine wp_ret ?_
                refine ret_with (v := .tuple #[.int .i64 0, .int .i64 0, .int .i64 0]) ha (results_3 rfl ha (res_tmp (by kernel_rfl) (by kernel_rfl)) (res_tmp (by kernel_rfl) (by kernel_rfl)) (res_tmp (by kernel_rfl) (by kernel_rfl))) ?_
                replace s := s.tail.tail.tail.tail.tail.tail.tail.tail
                replace s : St W (L) w := s
                refine ⟨o, fun h _ _ => hord2 h, ?_, s⟩
                rw [late_ord ho] at hlt
                rw [hwl, resF_late hfn hno, lateI_none hlt]; rfl
          · skip
            refine st_call ha (by kernel_rfl) (by kernel_rfl) (check_no W hW _ w A1 c1 ds hkn hbn h0 s) ?_
            rintro _ w ⟨rfl, s⟩
            refine ⟨_, rfl, ?_⟩; clear ha; intro a ha
            refine st_val (.tuple #[.int .i64 0, .int .i64 0, .bool false, .int .i64 (code (tns ds))]) ha (by kernel_rfl) (by kernel_rfl) ?_
            clear ha; intro a ha
            refine st_val (.int .i64 0) ha (by kernel_rfl) (by kernel_rfl) ?_
            clear ha; intro a ha
            refine st_val (.int .i64 0) ha (by kernel_rfl) (by kernel_rfl) ?_
            clear ha; intro a ha
            refine st_val (.bool false) ha (by kernel_rfl) (by kernel_rfl) ?_
            clear ha; intro a ha
            refine st_val (.int .i64 (code (tns ds))) ha (by kernel_rfl) (by kernel_rfl) ?_
            clear ha; intro a ha
            refine st_val (.int .i64 0) ha (by kernel_rfl) (by kernel_rfl) ?_
            clear ha; intro a ha
            refine st_val (.int .i64 0) ha (by kernel_rfl) (by kernel_rfl) ?_
            clear ha; intro a ha
            refine st_val (.bool false) ha (by kernel_rfl) (by kernel_rfl) ?_
            clear ha; intro a ha
            refine st_val (.int .i64 (code (tns ds))) ha (by kernel_rfl) (by kernel_rfl) ?_
            clear ha; intro a ha
            refine wpList_nil ?_
            refine then_normal ?_
            refine wp_seq ?_
            refine wp_region_lit ?_
            refine st_val (.int .i64 (code (tns ds))) ha (by kernel_rfl) (by kernel_rfl) ?_
            clear ha; intro a ha
            refine st_val (.bool ((code (tns ds)) == (0 : Int))) ha (by kernel_rfl) (by kernel_rfl) ?_
            clear ha; intro a ha
            refine st_val (.bool ((code (tns ds)) == (0 : Int))) ha (by kernel_rfl) (by kernel_rfl) ?_
            clear ha; intro a ha
            rcases Bool.eq_false_or_eq_true ((code (tns ds)) == (0 : Int)) with hb | hb
            · rw [hb] at ha; have hb_ := hb; replace hb := eq_of_beq hb
              refine st_val (.bool false) ha (by kernel_rfl) (by kernel_rfl) ?_
              clear ha; intro a ha
              refine st_val (.bool false) ha (by kernel_rfl) (by kernel_rfl) ?_
              clear ha; intro a ha
              refine wpList_nil ?_
              refine then_normal ?_
              refine wp_false ha rfl (by kernel_rfl) ?_
              refine wp_skip ?_
              refine then_normal ?_
              refine wp_seq ?_
              refine wp_seq ?_
              obtain ⟨o, ho0⟩ : ∃ o : List Nat, o = [] := ⟨_, rfl⟩
              have hno : code (tnsP (ordL (txsL l) l)) = 0 → found (tnsP (ordL (txsL l) l)) o = none := fun h => absurd (htn ▸ h) h0
              have hord2 : code (tnsP (ordL (txsL l) l)) = 0 → IsOrd (tnsP (ordL (txsL l) l)) o := fun h => absurd (htn ▸ h) h0
              refine wp_region_lit ?_
              refine st_val (.slice A l.length ca) ha (by kernel_rfl) (by kernel_rfl) ?_
              clear ha; intro a ha
              refine st_val (.slice A1 ds.length c1) ha (by kernel_rfl) (by kernel_rfl) ?_
              clear ha; intro a ha
              refine st_call ha (by kernel_rfl) (by kernel_rfl) (late_any W _ w A ca l (fun w s => hr w s.tail.tail.tail.tail.tail.tail.tail.tail) hn hi A1 c1 ds hkn hbn (by omega) (fun d hd => by obtain ⟨x, hx, e⟩ := (ho.did hd).2.1; rw [e]; exact hi x hx) s) ?_
              rintro _ w ⟨rfl, s⟩
              refine ⟨_, rfl, ?_⟩; clear ha; intro a ha
              refine st_val (.int .i64 (lateI (lateL (knF ds) [] l 0))) ha (by kernel_rfl) (by kernel_rfl) ?_
              clear ha; intro a ha
              refine wpList_nil ?_
              refine then_normal ?_
              refine wp_seq ?_
              refine wp_region_lit ?_
              refine st_val (.int .i64 (lateI (lateL (knF ds) [] l 0))) ha (by kernel_rfl) (by kernel_rfl) ?_
              clear ha; intro a ha
              refine st_val (.bool (decide ((lateI (lateL (knF ds) [] l 0)) ≥ (0 : Int)))) ha (by kernel_rfl) (by kernel_rfl) ?_
              clear ha; intro a ha
              refine wpList_nil ?_
              refine then_normal ?_
              refine wp_part (decide ((lateI (lateL (knF ds) [] l 0)) ≥ (0 : Int))) ha rfl (by kernel_rfl) (fun hb => ?_) (fun hb => ?_)
              · rw [hb] at ha; replace hb : ((lateI (lateL (knF ds) [] l 0)) ≥ (0 : Int)) := of_decide_eq_true hb
                have hlt := hb
                refine wp_seq ?_
                refine wp_region_lit ?_
                refine st_val (.int .i64 (lateI (lateL (knF ds) [] l 0))) ha (by kernel_rfl) (by kernel_rfl) ?_
                clear ha; intro a ha
                refine st_val (.int .i64 8) ha (by kernel_rfl) (by kernel_rfl) ?_
                clear ha; intro a ha
                refine st_val (.int .i64 (lateI (lateL (knF ds) [] l 0))) ha (by kernel_rfl) (by kernel_rfl) ?_
                clear ha; intro a ha
                refine st_val (.int .i64 0) ha (by kernel_rfl) (by kernel_rfl) ?_
                clear ha; intro a ha
                refine wpList_nil ?_
                refine then_normal ?_
                refine wp_ret ?_
                refine then_ret ?_
                refine ret_with (v := .tuple #[.int .i64 8, .int .i64 (lateI (lateL (knF ds) [] l 0)), .int .i64 0]) ha (results_3 rfl ha (res_tmp (by kernel_rfl) (by kernel_rfl)) (res_tmp (by kernel_rfl) (by kernel_rfl)) (res_tmp (by kernel_rfl) (by kernel_rfl))) ?_
                replace s := s.tail.tail.tail.tail.tail.tail.tail.tail
                replace s : St W (L) w := s
                refine ⟨o, fun h _ _ => hord2 h, ?_, s⟩
                rw [late_ord ho] at hlt ⊢
                obtain ⟨z, hz⟩ := lateI_some hlt
                rw [hwl, resF_late hfn hno, hz]; rfl
              · rw [hb] at ha; replace hb : ¬ ((lateI (lateL (knF ds) [] l 0)) ≥ (0 : Int)) := of_decide_eq_false hb
                have hlt := hb
                refine wp_skip ?_
                refine then_normal ?_
                refine wp_seq ?_
                refine wp_region_lit ?_
                refine st_val (.int .i64 0) ha (by kernel_rfl) (by kernel_rfl) ?_
                clear ha; intro a ha
                refine st_val (.int .i64 0) ha (by kernel_rfl) (by kernel_rfl) ?_
                clear ha; intro a ha
                refine st_val (.int .i64 0) ha (by kernel_rfl) (by kernel_rfl) ?_
                clear ha; intro a ha
                refine wpList_nil ?_
                refine then_normal ?_
                refine wp_ret ?_
                refine ret_with (v := .tuple #[.int .i64 0, .int .i64 0, .int .i64 0]) ha (results_3 rfl ha (res_tmp (by kernel_rfl) (by kernel_rfl)) (res_tmp (by kernel_rfl) (by kernel_rfl)) (res_tmp (by kernel_rfl) (by kernel_rfl))) ?_
                replace s := s.tail.tail.tail.tail.tail.tail.tail.tail
                replace s : St W (L) w := s
                refine ⟨o, fun h _ _ => hord2 h, ?_, s⟩
                rw [late_ord ho] at hlt
                rw [hwl, resF_late hfn hno, lateI_none hlt]; rfl
            · rw [hb] at ha; have hb_ := hb; replace hb := ne_of_beq_false hb
              refine st_pass ha (by kernel_rfl) ?_
              clear ha; intro a ha
              refine st_val (.bool false) ha (by kernel_rfl) (by kernel_rfl) ?_
              clear ha; intro a ha
              refine wpList_nil ?_
              refine then_normal ?_
              refine wp_false ha rfl (by kernel_rfl) ?_
              refine wp_skip ?_
              refine then_normal ?_
              refine wp_seq ?_
              refine wp_seq ?_
              obtain ⟨o, ho0⟩ : ∃ o : List Nat, o = [] := ⟨_, rfl⟩
              have hno : code (tnsP (ordL (txsL l) l)) = 0 → found (tnsP (ordL (txsL l) l)) o = none := fun h => absurd (htn ▸ h) h0
              have hord2 : code (tnsP (ordL (txsL l) l)) = 0 → IsOrd (tnsP (ordL (txsL l) l)) o := fun h => absurd (htn ▸ h) h0
              refine wp_region_lit ?_
              refine st_val (.slice A l.length ca) ha (by kernel_rfl) (by kernel_rfl) ?_
              clear ha; intro a ha
              refine st_val (.slice A1 ds.length c1) ha (by kernel_rfl) (by kernel_rfl) ?_
              clear ha; intro a ha
              refine st_call ha (by kernel_rfl) (by kernel_rfl) (late_any W _ w A ca l (fun w s => hr w s.tail.tail.tail.tail.tail.tail.tail.tail) hn hi A1 c1 ds hkn hbn (by omega) (fun d hd => by obtain ⟨x, hx, e⟩ := (ho.did hd).2.1; rw [e]; exact hi x hx) s) ?_
              rintro _ w ⟨rfl, s⟩
              refine ⟨_, rfl, ?_⟩; clear ha; intro a ha
              refine st_val (.int .i64 (lateI (lateL (knF ds) [] l 0))) ha (by kernel_rfl) (by kernel_rfl) ?_
              clear ha; intro a ha
              refine wpList_nil ?_
              refine then_normal ?_
              refine wp_seq ?_
              refine wp_region_lit ?_
              refine st_val (.int .i64 (lateI (lateL (knF ds) [] l 0))) ha (by kernel_rfl) (by kernel_rfl) ?_
              clear ha; intro a ha
              refine st_val (.bool (decide ((lateI (lateL (knF ds) [] l 0)) ≥ (0 : Int)))) ha (by kernel_rfl) (by kernel_rfl) ?_
              clear ha; intro a ha
              refine wpList_nil ?_
              refine then_normal ?_
              refine wp_part (decide ((lateI (lateL (knF ds) [] l 0)) ≥ (0 : Int))) ha rfl (by kernel_rfl) (fun hb => ?_) (fun hb => ?_)
              · rw [hb] at ha; replace hb : ((lateI (lateL (knF ds) [] l 0)) ≥ (0 : Int)) := of_decide_eq_true hb
                have hlt := hb
                refine wp_seq ?_
                refine wp_region_lit ?_
                refine st_val (.int .i64 (lateI (lateL (knF ds) [] l 0))) ha (by kernel_rfl) (by kernel_rfl) ?_
                clear ha; intro a ha
                refine st_val (.int .i64 8) ha (by kernel_rfl) (by kernel_rfl) ?_
                clear ha; intro a ha
                refine st_val (.int .i64 (lateI (lateL (knF ds) [] l 0))) ha (by kernel_rfl) (by kernel_rfl) ?_
                clear ha; intro a ha
                refine st_val (.int .i64 0) ha (by kernel_rfl) (by kernel_rfl) ?_
                clear ha; intro a ha
                refine wpList_nil ?_
                refine then_normal ?_
                refine wp_ret ?_
                refine then_ret ?_
                refine ret_with (v := .tuple #[.int .i64 8, .int .i64 (lateI (lateL (knF ds) [] l 0)), .int .i64 0]) ha (results_3 rfl ha (res_tmp (by kernel_rfl) (by kernel_rfl)) (res_tmp (by kernel_rfl) (by kernel_rfl)) (res_tmp (by kernel_rfl) (by kernel_rfl))) ?_
                replace s := s.tail.tail.tail.tail.tail.tail.tail.tail
                replace s : St W (L) w := s
                refine ⟨o, fun h _ _ => hord2 h, ?_, s⟩
                rw [late_ord ho] at hlt ⊢
                obtain ⟨z, hz⟩ := lateI_some hlt
                rw [hwl, resF_late hfn hno, hz]; rfl
              · rw [hb] at ha; replace hb : ¬ ((lateI (lateL (knF ds) [] l 0)) ≥ (0 : Int)) := of_decide_eq_false hb
                have hlt := hb
                refine wp_skip ?_
                refine then_normal ?_
                refine wp_seq ?_
                refine wp_region_lit ?_
                refine st_val (.int .i64 0) ha (by kernel_rfl) (by kernel_rfl) ?_
                clear ha; intro a ha
                refine st_val (.int .i64 0) ha (by kernel_rfl) (by kernel_rfl) ?_
                clear ha; intro a ha
                refine st_val (.int .i64 0) ha (by kernel_rfl) (by kernel_rfl) ?_
                clear ha; intro a ha
                refine wpList_nil ?_
                refine then_normal ?_
                refine wp_ret ?_
                refine ret_with (v := .tuple #[.int .i64 0, .int .i64 0, .int .i64 0]) ha (results_3 rfl ha (res_tmp (by kernel_rfl) (by kernel_rfl)) (res_tmp (by kernel_rfl) (by kernel_rfl)) (res_tmp (by kernel_rfl) (by kernel_rfl))) ?_
                replace s := s.tail.tail.tail.tail.tail.tail.tail.tail
                replace s : St W (L) w := s
                refine ⟨o, fun h _ _ => hord2 h, ?_, s⟩
                rw [late_ord ho] at hlt
                rw [hwl, resF_late hfn hno, lateI_none hlt]; rfl

theorem find_limit (W : World) (L : List Chunk) (w : World) (A : Option Addr) (n ca : Nat) (hn : 5000 < n) (well : Bool) (s : St W L w) :
    Calls Try.prog 7 #[.slice A n ca, .bool well] w fun e w' => e = .returned (.tuple #[.int .i64 0, .int .i64 0, .int .i64 5]) ∧ St W L w' := by
  refine enter_args (l := [.slice A n ca, .bool well]) Try.func7 rfl rfl (Nat.le_of_ble_eq_true rfl) ?_
  intro a ha; replace ha : Has a 96 [(0, .slice A n ca), (1, .bool well)] := ha
  refine wp_seq ?_
  refine wp_region_lit ?_
  refine st_val (.int .i64 0) ha (by kernel_rfl) (by kernel_rfl) ?_
  clear ha; intro a ha
  refine st_val (.int .i64 0) ha (by kernel_rfl) (by kernel_rfl) ?_
  clear ha; intro a ha
  refine st_val (.int .i64 0) ha (by kernel_rfl) (by kernel_rfl) ?_
  clear ha; intro a ha
  refine wpList_nil ?_
  refine then_normal ?_
  refine wp_seq ?_
  refine wp_seq ?_
  refine wp_region_lit ?_
  refine st_val (.slice A n ca) ha (by kernel_rfl) (by kernel_rfl) ?_
  clear ha; intro a ha
  refine st_val (.int .i64 ((n : Nat) : Int)) ha (by kernel_rfl) (by kernel_rfl) ?_
  clear ha; intro a ha
  refine st_val (.bool true) ha (by kernel_rfl) (run_known (show (decide (((n : Nat) : Int) > (5000 : Int))) = true from decide_eq_true (by omega)) (by kernel_rfl)) ?_
  clear ha; intro a ha
  refine wpList_nil ?_
  refine then_normal ?_
  refine wp_true ha rfl (by kernel_rfl) ?_
  refine wp_seq ?_
  refine wp_region_lit ?_
  refine st_val (.int .i64 0) ha (by kernel_rfl) (by kernel_rfl) ?_
  clear ha; intro a ha
  refine st_val (.int .i64 0) ha (by kernel_rfl) (by kernel_rfl) ?_
  clear ha; intro a ha
  refine st_val (.int .i64 5) ha (by kernel_rfl) (by kernel_rfl) ?_
  clear ha; intro a ha
  refine wpList_nil ?_
  refine then_normal ?_
  refine wp_ret ?_
  refine then_ret ?_
  refine ret_with (v := .tuple #[.int .i64 0, .int .i64 0, .int .i64 5]) ha (results_3 rfl ha (res_tmp (by kernel_rfl) (by kernel_rfl)) (res_tmp (by kernel_rfl) (by kernel_rfl)) (res_tmp (by kernel_rfl) (by kernel_rfl))) ?_
  exact ⟨rfl, s⟩

end Go.Proofs.Ytfcbjcohepkkfaa.B
