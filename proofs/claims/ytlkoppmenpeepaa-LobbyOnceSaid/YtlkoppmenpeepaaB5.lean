import Derived.Test.YtlkoppmenpeepaaB4
import Derived.ChangeKeysEq
namespace Go.Proofs.Ytlkoppmenpeepaa.B
open Go.RowKit Go.Maps Go.Sort Go.Shelf Go.Proofs.Ytlkoppmenpeepaa.Sep Go.Proofs.Ytlkoppmenpeepaa.P
set_option linter.unusedVariables false
set_option linter.unusedSimpArgs false
theorem eqP (x y : Pr) (w : World) : (Op.equalIn 10000 51 (.agg #[.int .i64 x.1, .int .i64 x.2]) (.agg #[.int .i64 y.1, .int .i64 y.2])).run Try.prog w = .ok (decide (x = y)) w := by
  obtain ⟨i, hi⟩ : ∃ i, Try.prog.info? 3 = some i := Option.isSome_iff_exists.1 (by kernel_rfl)
  rw [show (10000 : Nat) = 9999 + 1 from rfl, run_equalIn_array w 9999 _ _ Try.underlying51 hi]
  have u3 := Try.underlying3
  have hc : Try.prog.cellsOf 3 = 1 := by kernel_rfl
  simp [Op.eqItems, List.range, List.range.loop, hc]
  have a3 := Try.isAgg3
  have e : decide (x = y) = (decide (x.1 = y.1) && decide (x.2 = y.2)) := by
    by_cases h1 : x.1 = y.1 <;> by_cases h2 : x.2 = y.2 <;> simp [Prod.ext_iff, h1, h2]
  rw [e]
  by_cases h1 : x.1 = y.1 <;> by_cases h2 : x.2 = y.2 <;> simp [part, a3, Result.andThen, run_equalIn_int _ _ _ _ _ _ _ u3, h1, h2]
theorem run_pr {o : Oper} {E : Env} {op : BinOp} {a b : Operand} {x y : Pr} (hop : op = .eql ∨ op = .neq) (ho : o.op = .binOp op 51 a b 51) (hx : evalE E a = .agg #[.int .i64 x.1, .int .i64 x.2]) (hy : evalE E b = .agg #[.int .i64 y.1, .int .i64 y.2]) :
    ∀ w, (execOp (evalE E) o).run Try.prog w = .ok (.value (.bool (if op = .eql then decide (x = y) else decide (x ≠ y)))) w := by
  intro w
  have hm : Try.prog.eqGuardType Try.prog.depth 51 = false := by kernel_rfl
  have g : ∀ op a b u v, (eqGuard op 51 a b (.agg u) (.agg v)).run Try.prog w = .ok () w := fun op a b u v => run_eqGuard_agg w op 51 a b _ _ hm
  rcases hop with rfl | rfl
  · simp [execOp, ho, hx, hy, run_eql_struct, eqP, g]
  · simp [execOp, ho, hx, hy, run_neq_struct, eqP, g]
theorem ltOfP (x y : Pr) : Go.Proofs.ltOf cmpP x y = decide (ltP x y) := by
  unfold Go.Proofs.ltOf cmpP cmpI ltP
  congr 1
  apply propext
  by_cases h1 : x.1 < y.1
  · simp [h1]
  · by_cases h2 : x.1 > y.1
    · simp [h1, h2]; omega
    · have h3 : x.1 = y.1 := by omega
      by_cases h4 : x.2 < y.2
      · simp [h3, h4]
      · by_cases h5 : x.2 > y.2
        · simp [h3, h4, h5]
        · simp [h3, h4, h5]
theorem swoP : Go.Sort.SWO (Go.Proofs.ltOf cmpP) := by
  refine ⟨fun x => ?_, fun x y z h1 h2 => ?_, fun x y z h1 h2 => ?_⟩
  · rw [ltOfP]; exact decide_eq_false (ltP.irrefl x)
  · rw [ltOfP] at *; simp only [decide_eq_true_eq] at *; exact h1.trans h2
  · rw [ltOfP] at *; simp only [decide_eq_false_iff_not] at *; unfold ltP at *; omega
theorem sort_pairs (W : World) (L : List Chunk) (w : World) (A : Option Addr) (n c c0 : Nat) (d : List Pr) (hn : n = d.length) (hsz : n ≤ 1000000) (hnd : d.Nodup) (s : St W (Own 51 2 A n c (pcs d) :: L) w) :
    Calls Try.prog 47 #[.slice A n c0, .func (.func 40) #[] #[]] w fun e w' => e = .returned (.tuple #[]) ∧ ∃ d' : List Pr, d'.Perm d ∧ d'.Pairwise ltP ∧ d'.length = n ∧ St W (Own 51 2 A n c (pcs d') :: L) w' := by
  by_cases hne : d = []
  · subst hne
    have : n = 0 := hn
    subst this
    refine (Go.Proofs.AnyF.slices_SortFunc_none Try.sortPair A c0 _ w).mono ?_
    rintro e w' ⟨rfl, rfl⟩
    exact ⟨rfl, [], List.Perm.nil, List.Pairwise.nil, rfl, s⟩
  · have con := sort_own Try.sortPair (e := 51) (k := 2) (by omega) Try.isAgg51 Try.sizeOf51 pc (fun _ => rfl) (fun x v hv => by simp [pc] at hv; rcases hv with rfl | rfl <;> rfl) cmpP swoP 40 (enters_of Try.func40 (by kernel_rfl) rfl)
      (fun V x y => pair_any V [Old V] V x y (Old.start V)) (cap := c0) hn hne (by omega) s
    refine con.mono ?_
    rintro e w' ⟨rfl, d', hp, hs, hl, s⟩
    refine ⟨rfl, d', hp, ?_, by omega, s⟩
    have hnd' : d'.Nodup := hp.nodup_iff.2 hnd
    refine (hs.and hnd').imp ?_
    rintro x y ⟨h, hxy⟩
    rw [ltOfP] at h
    simp only [decide_eq_false_iff_not] at h
    exact (ltP.total hxy).resolve_right h
theorem lt_of_blkIs {b : Nat} {v : Value} {w : World} (h : BlkIs b [v] w) : b < w.heap.size := by
  have h0 := h 0
  unfold World.cell? at h0
  simp only [List.getElem?_cons_zero] at h0
  cases e : w.heap[b]? with
  | none => rw [e] at h0; cases h0
  | some o => exact lt_of_blk e
theorem collect_ok (W : World) (hW : W.drawn = 0) (L : List Chunk) (w : World) (b g : Nat) (D : List (Pr × Value)) (hb : Knows L (BlkIs b [.map (some g)])) (hg : Knows L (MapIs Try.prog 51 encP g D)) (hn : D.length ≤ 1000) (s : St W L w) :
    Calls Try.prog 46 #[.func (.func 48) #[] #[.pointer (some ⟨b, 0, none⟩)]] w fun e w' => ∃ A c ss, e = .returned (.slice A ss.length c) ∧ ss.Perm (D.map (·.1)) ∧ St W (Own 51 2 A ss.length c (pcs ss) :: L) w' := by
  have hbw := hb w s.1
  have hm := hg w s.1
  have hgl : g < w.heap.size := by obtain ⟨es, c, h, _⟩ := hm; exact lt_of_blk h
  refine (collect_keys w b g D (lt_of_blkIs hbw) hgl (hbw 0) hm (by omega)).mono ?_
  rintro e w' ⟨v, ss, rfl, hp, hrow, hbel⟩
  obtain ⟨A, c, rfl, s2⟩ := St.of_row hW s hbel hrow
  exact ⟨A, c, ss, rfl, hp, s2⟩
theorem keys_ok (W : World) (L : List Chunk) (w : World) (g : Nat) (s : St W L w) :
    Calls Try.prog 39 #[.map (some g)] w fun e w' => ∃ b, e = .returned (.func (.func 48) #[] #[.pointer (some ⟨b, 0, none⟩)]) ∧ St W (.blk b [.map (some g)] 70 :: L) w' := by
  refine (keys_any (some g) w).mono ?_
  rintro e w' ⟨rfl, rfl⟩
  exact ⟨_, rfl, s.alloc [.map (some g)] 70⟩
/-- The keys of a map whose keys are the pairs so far. -/
def PairsOf (l : List Wt) (D : List (Pr × Value)) : Prop := ∀ p, (mget D p).isSome = true ↔ ∃ w ∈ l, pr w = p
theorem PairsOf.nil : PairsOf [] [] := fun p => by simp [mget]
theorem PairsOf.put {l : List Wt} {D : List (Pr × Value)} {k : Nat} {x : Wt} (h : PairsOf (l.take k) D) (hx : l[k]? = some x) (v : Value) : PairsOf (l.take (k + 1)) (mput D (pr x) v) := fun p => by
  rw [mget_mput, take_snoc hx]
  by_cases hp : p = pr x
  · rw [if_pos hp]
    exact ⟨fun _ => ⟨x, by simp, hp.symm⟩, fun _ => rfl⟩
  · rw [if_neg hp, h p]
    constructor
    · rintro ⟨w, hw, e⟩; exact ⟨w, by simp [hw], e⟩
    · rintro ⟨w, hw, e⟩
      rcases List.mem_append.1 hw with hw | hw
      · exact ⟨w, hw, e⟩
      · have : w = x := by simpa using hw
        subst this; exact absurd e.symm hp
theorem okW_fits {w : Wt} (h : okW w) : fits (pr w) := by
  obtain ⟨_, h2, h3, _⟩ := h
  have a := isIdB_iff.1 h2
  have b := isIdB_iff.1 h3
  unfold fits pr
  simp only
  omega
theorem edges_of {l : List Wt} {D : List (Pr × Value)} {ss d : List Pr} (h : PairsOf l D) (h1 : ss.Perm (D.map (·.1))) (h2 : d.Perm ss) (h3 : d.Pairwise ltP) : EdgesOf l d :=
  ⟨h3, fun p => by rw [h2.mem_iff, h1.mem_iff, ← h p, mget_isSome]⟩

theorem sorted_any (W : World) (hW : W.drawn = 0) (L : List Chunk) (w : World) (b g : Nat) (D : List (Pr × Value)) (hb : Knows L (BlkIs b [.map (some g)])) (hg : Knows L (MapIs Try.prog 51 encP g D)) (hnd : (D.map (·.1)).Nodup) (hn : D.length ≤ 1000) (s : St W L w) :
    Calls Try.prog 38 #[.func (.func 48) #[] #[.pointer (some ⟨b, 0, none⟩)], .func (.func 40) #[] #[]] w fun e w' => ∃ A c ss d, e = .returned (.slice A d.length c) ∧ ss.Perm (D.map (·.1)) ∧ d.Perm ss ∧ d.Pairwise ltP ∧ St W (Own 51 2 A d.length c (pcs d) :: L) w' := by
  refine enter_args (l := [.func (.func 48) #[] #[.pointer (some ⟨b, 0, none⟩)], .func (.func 40) #[] #[]]) Try.func38 rfl rfl (Nat.le_of_ble_eq_true rfl) ?_
  intro a ha; replace ha : Has a 12 [(0, .func (.func 48) #[] #[.pointer (some ⟨b, 0, none⟩)]), (1, .func (.func 40) #[] #[])] := ha
  refine wp_seq ?_
  refine wp_region_lit ?_
  refine st_val (.slice none 0 0) ha (by kernel_rfl) (by kernel_rfl) ?_
  clear ha; intro a ha
  refine wpList_nil ?_
  refine then_normal ?_
  refine wp_seq ?_
  refine wp_region_lit ?_
  refine st_val (.func (.func 48) #[] #[.pointer (some ⟨b, 0, none⟩)]) ha (by kernel_rfl) (by kernel_rfl) ?_
  clear ha; intro a ha
  refine st_call ha (by kernel_rfl) (by kernel_rfl) (collect_ok W hW _ w b g D hb hg hn s) ?_
  rintro _ w ⟨A1, c2, ss, rfl, hperm, s⟩
  replace s : St W (Own 51 2 A1 ss.length c2 (pcs ss) :: L) w := s
  refine ⟨_, rfl, ?_⟩; clear ha; intro a ha
  refine st_val (.slice A1 ss.length c2) ha (by kernel_rfl) (by kernel_rfl) ?_
  clear ha; intro a ha
  refine wpList_nil ?_
  refine then_normal ?_
  refine wp_seq ?_
  refine wp_region_lit ?_
  refine st_val (.slice A1 ss.length c2) ha (by kernel_rfl) (by kernel_rfl) ?_
  clear ha; intro a ha
  refine st_val (.func (.func 40) #[] #[]) ha (by kernel_rfl) (by kernel_rfl) ?_
  clear ha; intro a ha
  have hssl : ss.length ≤ 1000 := by rw [hperm.length_eq, List.length_map]; exact hn
  refine st_call ha (by kernel_rfl) (by kernel_rfl) (sort_pairs W _ w A1 ss.length c2 c2 ss rfl (by omega) (hperm.nodup_iff.2 hnd) s) ?_
  rintro _ w ⟨rfl, d, hpd, hup, hdl, s⟩
  replace s : St W (Own 51 2 A1 ss.length c2 (pcs d) :: L) w := s
  refine ⟨_, rfl, ?_⟩; clear ha; intro a ha
  refine wpList_nil ?_
  refine then_normal ?_
  refine wp_seq ?_
  refine wp_region_lit ?_
  refine st_val (.slice A1 ss.length c2) ha (by kernel_rfl) (by kernel_rfl) ?_
  clear ha; intro a ha
  refine st_val (.slice A1 ss.length c2) ha (by kernel_rfl) (by kernel_rfl) ?_
  clear ha; intro a ha
  refine wpList_nil ?_
  refine then_normal ?_
  refine wp_ret ?_
  refine ret_with (v := .slice A1 ss.length c2) ha (results_1 rfl ha (res_tmp (by kernel_rfl) (by kernel_rfl))) ?_
  rw [← hdl] at s
  exact ⟨_, _, ss, d, by rw [hdl], hperm, hpd, hup, s⟩

theorem edges_made (W : World) (hW : W.drawn = 0) (L : List Chunk) (w : World) (g : Nat) (A : Option Addr) (n c : Nat) (l : List Wt) (hl : l.length = n) (hn : n ≤ 100) (hfine : ∀ w ∈ l, okW w) (s : St W (.blk g [.bool true, .slice A n c] 62 :: Own 28 4 A n c (ws l) :: L) w) :
    Calls Try.prog 20 #[.pointer (some ⟨g, 0, none⟩)] w fun e w' => ∃ A' c' d, e = .returned (.slice A' d.length c') ∧ EdgesOf l d ∧ St W (Own 51 2 A' d.length c' (pcs d) :: .blk g [.bool true, .slice A n c] 62 :: Own 28 4 A n c (ws l) :: L) w' := by
  refine enter_args (l := [.pointer (some ⟨g, 0, none⟩)]) Try.func20 rfl rfl (Nat.le_of_ble_eq_true rfl) ?_
  intro a ha; replace ha : Has a 28 [(0, .pointer (some ⟨g, 0, none⟩))] := ha
  refine wp_seq ?_
  refine wp_region_lit ?_
  refine st_val (.slice none 0 0) ha (by kernel_rfl) (by kernel_rfl) ?_
  clear ha; intro a ha
  refine wpList_nil ?_
  refine then_normal ?_
  refine wp_seq ?_
  refine wp_seq ?_
  refine wp_region_lit ?_
  refine st_val (.pointer (some ⟨g, 0, none⟩)) ha (by kernel_rfl) (by kernel_rfl) ?_
  clear ha; intro a ha
  refine st_call ha (by kernel_rfl) (by kernel_rfl) (none_any W _ w g true A n c s) ?_
  rintro _ w ⟨rfl, s⟩
  replace s : St W (.blk g [.bool true, .slice A n c] 62 :: Own 28 4 A n c (ws l) :: L) w := s
  refine ⟨_, rfl, ?_⟩; clear ha; intro a ha
  refine wpList_nil ?_
  refine then_normal ?_
  refine wp_false ha rfl (by kernel_rfl) ?_
  refine wp_skip ?_
  refine then_normal ?_
  refine wp_seq ?_
  refine wp_region_lit ?_
  refine st_ex ha (by kernel_rfl) (ex_makeMap Try.prog 51 encP s rfl) ?_
  clear ha; rintro _ w a ⟨g1, rfl, s⟩ ha
  replace s : St W (MapT Try.prog 51 encP g1 [] :: .blk g [.bool true, .slice A n c] 62 :: Own 28 4 A n c (ws l) :: L) w := s
  refine st_val (.map (some g1)) ha (by kernel_rfl) (by kernel_rfl) ?_
  clear ha; intro a ha
  refine wpList_nil ?_
  refine then_normal ?_
  refine wp_seq ?_
  refine wp_seq ?_
  refine wp_region_lit ?_
  refine st_val (.pointer (some ⟨g, 0, none⟩)) ha (by kernel_rfl) (by kernel_rfl) ?_
  clear ha; intro a ha
  refine st_val (.pointer (some ⟨g, 0, none⟩)) ha (by kernel_rfl) (by kernel_rfl) ?_
  clear ha; intro a ha
  refine st_val (.pointer (some ⟨g, 1, none⟩)) ha (by kernel_rfl) (by kernel_rfl) ?_
  clear ha; intro a ha
  refine st_val (.slice A n c) ha (by kernel_rfl) (run_load1 (of_ := 1) (s.blkIs 1 rfl) rfl (by kernel_rfl) Try.isAgg37 rfl) ?_
  clear ha; intro a ha
  refine st_val (.int .i64 ((n : Nat) : Int)) ha (by kernel_rfl) (by kernel_rfl) ?_
  clear ha; intro a ha
  refine st_val (.int .i64 0) ha (by kernel_rfl) (by kernel_rfl) ?_
  clear ha; intro a ha
  refine wpList_nil ?_
  refine then_normal ?_
  refine wp_block ?_
  refine wp_loopG (G := (Nat × List (Pr × Value))) (fun ⟨k, D⟩ a w => Has a 28 [(0, .pointer (some ⟨g, 0, none⟩)), (3, .map (some g1)), (12, .slice A n c), (13, .int .i64 ((n : Nat) : Int)), (14, .int .i64 ((k : Nat) : Int))] ∧ St W (MapT Try.prog 51 encP g1 D :: .blk g [.bool true, .slice A n c] 62 :: Own 28 4 A n c (ws l) :: L) w ∧ (k ≤ n ∧ PairsOf (l.take k) D ∧ D.length ≤ k)) (fun ⟨k, D⟩ => n - k) (0, []) ?_ ?_
  · exact ⟨(Has.cons ha (by kernel_rfl) (by kernel_rfl) (Has.cons ha (by kernel_rfl) (by kernel_rfl) (Has.cons ha (by kernel_rfl) (by kernel_rfl) (Has.cons ha (by kernel_rfl) (by kernel_rfl) (Has.cons ha (by kernel_rfl) (by kernel_rfl) (Has.nil ha)))))), s, ⟨Nat.zero_le _, PairsOf.nil, Nat.le_refl _⟩⟩
  · clear ha s; rintro ⟨k, D⟩ a w ⟨ha, s, hp⟩
    refine wp_seq ?_
    refine wp_region_lit ?_
    refine st_val (.bool (decide (((k : Nat) : Int) < ((n : Nat) : Int)))) ha (by kernel_rfl) (by kernel_rfl) ?_
    clear ha; intro a ha
    refine wpList_nil ?_
    refine then_normal ?_
    refine wp_seq ?_
    refine wp_part (decide (((k : Nat) : Int) < ((n : Nat) : Int))) ha rfl (by kernel_rfl) (fun hb => ?_) (fun hb => ?_)
    · rw [hb] at ha; replace hb : (((k : Nat) : Int) < ((n : Nat) : Int)) := of_decide_eq_true hb
      obtain ⟨v, hv⟩ : ∃ v, l[k]? = some v := ⟨_, List.getElem?_eq_getElem (by omega)⟩
      obtain ⟨lk, hlk⟩ := key51 (okW_fits (hfine v (List.mem_of_getElem? hv)))
      have hDl := hp.2.2
      obtain ⟨ad, hA⟩ := Own.addr (s.at_ (j := 2) rfl) (by omega)
      subst hA
      refine wp_skip ?_
      refine then_normal ?_
      refine wp_seq ?_
      refine wp_block ?_
      refine wp_seq ?_
      refine wp_region_lit ?_
      refine st_val (.pointer (some (ad.add (k * 4)))) ha (by kernel_rfl) (run_indexAddr' (kd := .i64) (i := ((k : Nat) : Int)) (n := n) (c := c) k rfl Try.underlying37 Try.sizeOf28 (by kernel_rfl) (by kernel_rfl) rfl (by first | assumption | omega) _) ?_
      clear ha; intro a ha
      refine st_val (.agg #[.int .i64 v.num, .string (str v.key), .int .i64 v.waiter, .int .i64 v.holder]) ha (by kernel_rfl) (run_loadAtN (i := k * 4) [.int .i64 v.num, .string (str v.key), .int .i64 v.waiter, .int .i64 v.holder] ((Own.reads (s.at_ (j := 2) rfl).1)) rfl (by kernel_rfl) Try.isAgg28 Try.sizeOf28 (fun q_ hq_ => ws_at hv hq_) rfl) ?_
      clear ha; intro a ha
      refine st_ex ha (by kernel_rfl) (ex_alloc [.int .i64 0, .string (str []), .int .i64 0, .int .i64 0] s rfl (Try.zeroValue28 _) (by kernel_rfl)) ?_
      clear ha; rintro _ w a ⟨g2, rfl, s⟩ ha
      replace s : St W (.blk g2 [.int .i64 0, .string (str []), .int .i64 0, .int .i64 0] 28 :: MapT Try.prog 51 encP g1 D :: .blk g [.bool true, .slice (some ad) n c] 62 :: Own 28 4 (some ad) n c (ws l) :: L) w := s
      refine st_exd ha (by kernel_rfl) (ex_store (of_ := 0) 0 [.int .i64 v.num, .string (str v.key), .int .i64 v.waiter, .int .i64 v.holder] s rfl rfl (by kernel_rfl) (by kernel_rfl) (Try.sizeOf28 _) rfl (by simp [Value.oneCell']) (Nat.le_of_ble_eq_true rfl)) ?_
      clear ha; rintro w a s ha
      replace s : St W (.blk g2 [.int .i64 v.num, .string (str v.key), .int .i64 v.waiter, .int .i64 v.holder] 28 :: MapT Try.prog 51 encP g1 D :: .blk g [.bool true, .slice (some ad) n c] 62 :: Own 28 4 (some ad) n c (ws l) :: L) w := s
      refine wpList_nil ?_
      refine then_normal ?_
      refine wp_region_lit ?_
      refine st_val (.map (some g1)) ha (by kernel_rfl) (by kernel_rfl) ?_
      clear ha; intro a ha
      refine st_val (.pointer (some ⟨g2, 2, none⟩)) ha (by kernel_rfl) (by kernel_rfl) ?_
      clear ha; intro a ha
      refine st_val (.int .i64 v.waiter) ha (by kernel_rfl) (run_load1 (of_ := 2) (s.blkIs 0 rfl) rfl (by kernel_rfl) Try.isAgg3 rfl) ?_
      clear ha; intro a ha
      refine st_val (.pointer (some ⟨g2, 3, none⟩)) ha (by kernel_rfl) (by kernel_rfl) ?_
      clear ha; intro a ha
      refine st_val (.int .i64 v.holder) ha (by kernel_rfl) (run_load1 (of_ := 3) (s.blkIs 0 rfl) rfl (by kernel_rfl) Try.isAgg3 rfl) ?_
      clear ha; intro a ha
      refine st_val (.agg #[.int .i64 v.waiter, .int .i64 v.holder]) ha (by kernel_rfl) (by kernel_rfl) ?_
      clear ha; intro a ha
      refine st_exd ha (by kernel_rfl) (ex_mapUpdate (a := (pr v)) 1 (.int .i64 1) s rfl rfl (by kernel_rfl) (by kernel_rfl) (by kernel_rfl) encP_inj keyed51 Try.underlying70 hlk (by simp only [maxLen]; omega)) ?_
      clear ha; rintro w a s ha
      replace s : St W (.blk g2 [.int .i64 v.num, .string (str v.key), .int .i64 v.waiter, .int .i64 v.holder] 28 :: MapT Try.prog 51 encP g1 (mput D (pr v) (.int .i64 1)) :: .blk g [.bool true, .slice (some ad) n c] 62 :: Own 28 4 (some ad) n c (ws l) :: L) w := s
      refine wpList_nil ?_
      refine block_normal ?_
      refine then_normal ?_
      refine wp_region_lit ?_
      refine st_val (.int .i64 ((k + 1 : Nat) : Int)) ha (by kernel_rfl) (run_arith (((k : Nat) : Int) + (1 : Int)) ((k + 1 : Nat) : Int) rfl (by kernel_rfl) (by kernel_rfl) (.inl ⟨rfl, rfl⟩) (by rw [wrap64_in (by omega)]; try omega) _) ?_
      clear ha; intro a ha
      refine st_val (.int .i64 ((k + 1 : Nat) : Int)) ha (by kernel_rfl) (by kernel_rfl) ?_
      clear ha; intro a ha
      refine wpList_nil ?_
      refine then_normal ?_
      replace s := s.at_ (j := 3) rfl
      replace s : St W (Own 28 4 (some ad) n c (ws l) :: .blk g2 [.int .i64 v.num, .string (str v.key), .int .i64 v.waiter, .int .i64 v.holder] 28 :: MapT Try.prog 51 encP g1 (mput D (pr v) (.int .i64 1)) :: .blk g [.bool true, .slice (some ad) n c] 62 :: L) w := s
      replace s := s.at_ (j := 3) rfl
      replace s : St W (.blk g [.bool true, .slice (some ad) n c] 62 :: Own 28 4 (some ad) n c (ws l) :: .blk g2 [.int .i64 v.num, .string (str v.key), .int .i64 v.waiter, .int .i64 v.holder] 28 :: MapT Try.prog 51 encP g1 (mput D (pr v) (.int .i64 1)) :: L) w := s
      replace s := s.at_ (j := 3) rfl
      replace s : St W (MapT Try.prog 51 encP g1 (mput D (pr v) (.int .i64 1)) :: .blk g [.bool true, .slice (some ad) n c] 62 :: Own 28 4 (some ad) n c (ws l) :: .blk g2 [.int .i64 v.num, .string (str v.key), .int .i64 v.waiter, .int .i64 v.holder] 28 :: L) w := s
      replace s : St W (MapT Try.prog 51 encP g1 (mput D (pr v) (.int .i64 1)) :: .blk g [.bool true, .slice (some ad) n c] 62 :: Own 28 4 (some ad) n c (ws l) :: L) w := St.mid (A := [MapT Try.prog 51 encP g1 (mput D (pr v) (.int .i64 1)), .blk g [.bool true, .slice (some ad) n c] 62, Own 28 4 (some ad) n c (ws l)]) (B := [.blk g2 [.int .i64 v.num, .string (str v.key), .int .i64 v.waiter, .int .i64 v.holder] 28]) s
      exact ⟨(k + 1, mput D (pr v) (.int .i64 1)), (show n - (k + 1) < n - k by omega), (Has.cons ha (by kernel_rfl) (by kernel_rfl) (Has.cons ha (by kernel_rfl) (by kernel_rfl) (Has.cons ha (by kernel_rfl) (by kernel_rfl) (Has.cons ha (by kernel_rfl) (by kernel_rfl) (Has.cons ha (by kernel_rfl) (by kernel_rfl) (Has.nil ha)))))), s, (show k + 1 ≤ n by omega), hp.2.1.put hv _, (by have := mput_length_le D (pr v) (.int .i64 1); have := hp.2.2; omega)⟩
    · rw [hb] at ha; replace hb : ¬ (((k : Nat) : Int) < ((n : Nat) : Int)) := of_decide_eq_false hb
      have hPO : PairsOf l D := by have := hp.2.1; rwa [List.take_of_length_le (by omega)] at this
      have hDl := hp.2.2
      have hnd := (s.mapIs 0 rfl).nodup
      refine wp_exit ?_
      refine then_exit ?_
      refine then_exit ?_
      refine block_hit ?_
      refine then_normal ?_
      refine wp_seq ?_
      refine wp_region_lit ?_
      refine st_val (.map (some g1)) ha (by kernel_rfl) (by kernel_rfl) ?_
      clear ha; intro a ha
      refine st_call ha (by kernel_rfl) (by kernel_rfl) (keys_ok W _ w g1 s) ?_
      rintro _ w ⟨b3, rfl, s⟩
      replace s : St W (.blk b3 [.map (some g1)] 70 :: MapT Try.prog 51 encP g1 D :: .blk g [.bool true, .slice A n c] 62 :: Own 28 4 A n c (ws l) :: L) w := s
      refine ⟨_, rfl, ?_⟩; clear ha; intro a ha
      refine st_call ha (by kernel_rfl) (by kernel_rfl) (sorted_any W hW _ w b3 g1 D (Knows.cells (j := 0) rfl) (Knows.mapIs (j := 1) rfl) hnd (by omega) s) ?_
      rintro _ w ⟨A4, c5, ss, d, rfl, hperm, hpd, hup, s⟩
      replace s : St W (Own 51 2 A4 d.length c5 (pcs d) :: .blk b3 [.map (some g1)] 70 :: MapT Try.prog 51 encP g1 D :: .blk g [.bool true, .slice A n c] 62 :: Own 28 4 A n c (ws l) :: L) w := s
      refine ⟨_, rfl, ?_⟩; clear ha; intro a ha
      refine st_val (.slice A4 d.length c5) ha (by kernel_rfl) (by kernel_rfl) ?_
      clear ha; intro a ha
      refine wpList_nil ?_
      refine then_normal ?_
      refine wp_ret ?_
      refine ret_with (v := .slice A4 d.length c5) ha (results_1 rfl ha (res_tmp (by kernel_rfl) (by kernel_rfl))) ?_
      replace s := s.at_ (j := 4) rfl
      replace s : St W (Own 28 4 A n c (ws l) :: Own 51 2 A4 d.length c5 (pcs d) :: .blk b3 [.map (some g1)] 70 :: MapT Try.prog 51 encP g1 D :: .blk g [.bool true, .slice A n c] 62 :: L) w := s
      replace s := s.at_ (j := 4) rfl
      replace s : St W (.blk g [.bool true, .slice A n c] 62 :: Own 28 4 A n c (ws l) :: Own 51 2 A4 d.length c5 (pcs d) :: .blk b3 [.map (some g1)] 70 :: MapT Try.prog 51 encP g1 D :: L) w := s
      replace s := s.at_ (j := 2) rfl
      replace s : St W (Own 51 2 A4 d.length c5 (pcs d) :: .blk g [.bool true, .slice A n c] 62 :: Own 28 4 A n c (ws l) :: .blk b3 [.map (some g1)] 70 :: MapT Try.prog 51 encP g1 D :: L) w := s
      replace s : St W (Own 51 2 A4 d.length c5 (pcs d) :: .blk g [.bool true, .slice A n c] 62 :: Own 28 4 A n c (ws l) :: L) w := St.mid (A := [Own 51 2 A4 d.length c5 (pcs d), .blk g [.bool true, .slice A n c] 62, Own 28 4 A n c (ws l)]) (B := [.blk b3 [.map (some g1)] 70, MapT Try.prog 51 encP g1 D]) s
      exact ⟨_, _, d, rfl, edges_of hPO hperm hpd hup, s⟩

end Go.Proofs.Ytlkoppmenpeepaa.B
