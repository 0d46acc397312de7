import Derived.Test.YtlkoppmenpeepaaB8
namespace Go.Proofs.Ytlkoppmenpeepaa.B
open Go.RowKit Go.Maps Go.Sort Go.Shelf Go.Proofs.Ytlkoppmenpeepaa.Sep Go.Proofs.Ytlkoppmenpeepaa.P
set_option linter.unusedVariables false
set_option linter.unusedSimpArgs false
/-- A deed of the laws'. -/
structure Dd where
  k : Int
  w : Wt
def Dd.cells (d : Dd) : List Value := .int .i64 d.k :: wc d.w
def deeds (ds : List Dd) : List Value := (ds.map Dd.cells).flatten
theorem deeds_at {ds : List Dd} {k : Nat} {d : Dd} (h : ds[k]? = some d) {j : Nat} (hj : j < 5) : (deeds ds)[k * 5 + j]? = d.cells[j]? :=
  flatten_at (k := 5) (fun r hr => by obtain ⟨x, _, rfl⟩ := List.mem_map.1 hr; rfl) (by rw [List.getElem?_map, h]; rfl) hj
set_option maxRecDepth 100000 in
theorem open_deed {W : World} {r : List Value} (hl : r.length = 5) (h : Came Try.prog W 30 r) : ∃ d : Dd, r = d.cells ∧ True := by
  obtain ⟨_, h⟩ := Came.struct Try.underlying30 h
  have h0 := h 0 _ rfl
  have h1 := h 1 _ rfl
  obtain ⟨l2, h2⟩ := Came.struct Try.underlying28 h1
  have h3 := h2 0 _ rfl
  have h4 := h2 1 _ rfl
  have h5 := h2 2 _ rfl
  have h6 := h2 3 _ rfl
  clear h h2 l2 h1
  match r, hl with
  | [r0, r1, r2, r3, r4], _ =>
    obtain ⟨z0, e0, _⟩ := Came.int Try.underlying3 h0
    obtain ⟨z1, e1, _⟩ := Came.int Try.underlying3 h3
    obtain ⟨k, e2, _⟩ := Came.string Try.underlying9 h4
    obtain ⟨z3, e3, _⟩ := Came.int Try.underlying3 h5
    obtain ⟨z4, e4, _⟩ := Came.int Try.underlying3 h6
    have q0 : r0 = .int .i64 z0 := (List.cons.inj (show [r0] = [_] from e0)).1
    have q1 : r1 = .int .i64 z1 := (List.cons.inj (show [r1] = [_] from e1)).1
    have q2 : r2 = .string k := (List.cons.inj (show [r2] = [_] from e2)).1
    have q3 : r3 = .int .i64 z3 := (List.cons.inj (show [r3] = [_] from e3)).1
    have q4 : r4 = .int .i64 z4 := (List.cons.inj (show [r4] = [_] from e4)).1
    exact ⟨⟨z0, ⟨z1, k.data.toList, z3, z4⟩⟩, by rw [q0, q1, q2, q3, q4, str_of k]; rfl, trivial⟩
theorem open_deeds {W : World} {cs : List Value} (h : Came Try.prog W 22 cs) : ∃ A n c ds, cs = [.slice A n c] ∧ ds.length = n ∧ n ≤ c ∧ n ≤ 140737488351232 ∧ Reads W 5 A n (deeds ds) := by
  obtain ⟨A, n, c, rfl, h1, h2, rows, h3, h4, h5⟩ := Came.slice (k := 5) (B := 48) Try.underlying22 (by kernel_rfl) (by kernel_rfl) h
  obtain ⟨ds, rfl, hg⟩ := spelt (f := Dd.cells) (p := fun _ => True) fun r hr => open_deed (h5 r hr).1 (h5 r hr).2
  exact ⟨A, n, c, ds, rfl, by simpa using h3, h1, by omega, h4⟩
theorem like_is (W : World) (L : List Chunk) (w : World) (A B : Option Addr) (n m ca cb : Nat) (la : List Wt) (hra : Knows L fun w => Reads w 4 A n (ws la)) (hrb : Knows L fun w => Reads w 4 B m (ws la)) (hal : la.length = n) (hbl : la.length = m) (hm : m ≤ 140737488351232) (s : St W L w) :
    Calls Try.prog 15 #[.slice A n ca, .slice B m cb] w fun e w' => e = .returned (.bool true) ∧ St W L w' :=
  (like_any W L w A B n m ca cb la la hra hrb hal hbl hm s).mono fun e w' ⟨h, s⟩ => ⟨by rw [h, decide_eq_true rfl], s⟩
theorem same_self (W : World) (L : List Chunk) (w : World) (A B : Option Addr) (n m ca cb : Nat) (la : List Pr) (hra : Knows L fun w => Reads w 2 A n (pcs la)) (hrb : Knows L fun w => Reads w 2 B m (pcs la)) (hal : la.length = n) (hbl : la.length = m) (hm : m ≤ 140737488351232) (s : St W L w) :
    Calls Try.prog 21 #[.slice A n ca, .slice B m cb] w fun e w' => e = .returned (.bool true) ∧ St W L w' :=
  (same_edges W L w A B n m ca cb la la hra hrb hal hbl hm s).mono fun e w' ⟨h, s⟩ => ⟨by rw [h, decide_eq_true rfl], s⟩
theorem redges_is (W : World) (L : List Chunk) (w : World) (g : Nat) (l : List Wt) (d : List Pr) (hE : EdgesOf l d) (hf : Fine l) (s : St W (RLob g l :: L) w) :
    Calls Try.prog 22 #[.pointer (some ⟨g, 0, none⟩)] w fun e w' => ∃ A' c', e = .returned (.slice A' d.length c') ∧ St W (Own 51 2 A' d.length c' (pcs d) :: RLob g l :: L) w' := by
  refine (redges_lob W L w g l hf s).mono ?_
  rintro e w' ⟨A, c, d2, rfl, h2, s⟩
  obtain rfl := h2.unique hE
  exact ⟨A, c, rfl, s⟩

set_option maxRecDepth 100000 in
set_option maxHeartbeats 4000000 in
theorem does_true (W : World) (hW : W.drawn = 0) (L : List Chunk) (w : World) (A : Option Addr) (n c : Nat) (ds : List Dd) (hr : Knows L fun w => Reads w 5 A n (deeds ds)) (hl : ds.length = n) (hn : n ≤ 140737488351232) (s : St W L w) :
    Calls Try.prog 3 #[.slice A n c] w fun e w' => e = .returned (.bool true) ∧ St W L w' := by
  refine enter_args (l := [.slice A n c]) Try.func3 rfl rfl (Nat.le_of_ble_eq_true rfl) ?_
  intro a ha; replace ha : Has a 150 [(0, .slice A n c)] := ha
  refine wp_seq ?_
  refine wp_region_lit ?_
  refine st_val (.bool false) ha (by kernel_rfl) (by kernel_rfl) ?_
  clear ha; intro a ha
  refine wpList_nil ?_
  refine then_normal ?_
  refine wp_seq ?_
  refine wp_region_lit ?_
  refine st_call ha (by kernel_rfl) (by kernel_rfl) (new_lob W _ w s) ?_
  rintro _ w ⟨g1, rfl, s⟩
  replace s : St W (Lob g1 [] :: L) w := s
  refine ⟨_, rfl, ?_⟩; clear ha; intro a ha
  refine st_call ha (by kernel_rfl) (by kernel_rfl) (rnew_lob W _ w s) ?_
  rintro _ w ⟨g2, rfl, s⟩
  replace s : St W (RLob g2 [] :: Lob g1 [] :: L) w := s
  refine ⟨_, rfl, ?_⟩; clear ha; intro a ha
  refine st_val (.pointer (some ⟨g1, 0, none⟩)) ha (by kernel_rfl) (by kernel_rfl) ?_
  clear ha; intro a ha
  refine st_val (.pointer (some ⟨g2, 0, none⟩)) ha (by kernel_rfl) (by kernel_rfl) ?_
  clear ha; intro a ha
  refine wpList_nil ?_
  refine then_normal ?_
  refine wp_seq ?_
  refine wp_seq ?_
  refine wp_region_lit ?_
  refine st_val (.int .i64 0) ha (by kernel_rfl) (by kernel_rfl) ?_
  clear ha; intro a ha
  refine wpList_nil ?_
  refine then_normal ?_
  refine wp_block ?_
  replace s := s.at_ (j := 1) rfl
  replace s : St W (Lob g1 [] :: RLob g2 [] :: L) w := s
  refine wp_loopG (G := (Nat × List Wt)) (fun ⟨k, l⟩ a w => Has a 150 [(0, .slice A n c), (3, .pointer (some ⟨g1, 0, none⟩)), (4, .pointer (some ⟨g2, 0, none⟩)), (5, .int .i64 ((k : Nat) : Int))] ∧ St W (Lob g1 l :: RLob g2 l :: L) w ∧ (k ≤ 200 ∧ Fine l)) (fun ⟨k, l⟩ => 200 - k) (0, []) ?_ ?_
  · exact ⟨(Has.cons ha (by kernel_rfl) (by kernel_rfl) (Has.cons ha (by kernel_rfl) (by kernel_rfl) (Has.cons ha (by kernel_rfl) (by kernel_rfl) (Has.cons ha (by kernel_rfl) (by kernel_rfl) (Has.nil ha))))), s, ⟨Nat.zero_le _, Fine.nil⟩⟩
  · clear ha s; rintro ⟨k, l⟩ a w ⟨ha, s, hp⟩
    refine wp_seq ?_
    refine wp_seq ?_
    refine wp_region_lit ?_
    refine st_val (.int .i64 ((k : Nat) : Int)) ha (by kernel_rfl) (by kernel_rfl) ?_
    clear ha; intro a ha
    refine st_val (.slice A n c) ha (by kernel_rfl) (by kernel_rfl) ?_
    clear ha; intro a ha
    refine st_val (.int .i64 ((n : Nat) : Int)) ha (by kernel_rfl) (by kernel_rfl) ?_
    clear ha; intro a ha
    refine st_val (.bool (decide (((k : Nat) : Int) < ((n : Nat) : Int)))) ha (by kernel_rfl) (by kernel_rfl) ?_
    clear ha; intro a ha
    refine st_val (.bool (decide (((k : Nat) : Int) < ((n : Nat) : Int)))) ha (by kernel_rfl) (by kernel_rfl) ?_
    clear ha; intro a ha
    rcases Bool.eq_false_or_eq_true (decide (((k : Nat) : Int) < ((n : Nat) : Int))) with hb | hb
    · rw [hb] at ha; replace hb : (((k : Nat) : Int) < ((n : Nat) : Int)) := of_decide_eq_true hb
      have ok := hp.2
      obtain ⟨d, hdd⟩ : ∃ d, ds[k]? = some d := ⟨_, List.getElem?_eq_getElem (by omega)⟩
      obtain ⟨ad, hA⟩ := Reads.addr (hr _ s.sat.tail.tail) (by omega)
      subst hA
      refine st_val (.int .i64 ((k : Nat) : Int)) ha (by kernel_rfl) (by kernel_rfl) ?_
      clear ha; intro a ha
      refine st_val (.bool (decide (((k : Nat) : Int) < (200 : Int)))) ha (by kernel_rfl) (by kernel_rfl) ?_
      clear ha; intro a ha
      refine st_val (.bool (decide (((k : Nat) : Int) < (200 : Int)))) ha (by kernel_rfl) (by kernel_rfl) ?_
      clear ha; intro a ha
      refine wpList_nil ?_
      refine then_normal ?_
      refine wp_part (decide (((k : Nat) : Int) < (200 : Int))) ha rfl (by kernel_rfl) (fun hb => ?_) (fun hb => ?_)
      · rw [hb] at ha; replace hb : (((k : Nat) : Int) < (200 : Int)) := of_decide_eq_true hb
        refine wp_skip ?_
        refine then_normal ?_
        refine wp_seq ?_
        refine wp_block ?_
        refine wp_seq ?_
        refine wp_region_lit ?_
        refine st_val (.slice (some ad) n c) ha (by kernel_rfl) (by kernel_rfl) ?_
        clear ha; intro a ha
        refine st_val (.int .i64 ((k : Nat) : Int)) ha (by kernel_rfl) (by kernel_rfl) ?_
        clear ha; intro a ha
        refine st_val (.pointer (some (ad.add (k * 5)))) ha (by kernel_rfl) (run_indexAddr' (kd := .i64) (i := ((k : Nat) : Int)) (n := n) (c := c) k rfl Try.underlying22 Try.sizeOf30 (by kernel_rfl) (by kernel_rfl) rfl (by first | assumption | omega) _) ?_
        clear ha; intro a ha
        refine st_val (.pointer (some (ad.add (k * 5 + 1)))) ha (by kernel_rfl) (run_fieldAddr_at (i := k * 5) (off := 1) rfl Try.underlying30 rfl Try.sizeOf28 (by kernel_rfl) _) ?_
        clear ha; intro a ha
        refine st_val (.agg #[.int .i64 d.w.num, .string (str d.w.key), .int .i64 d.w.waiter, .int .i64 d.w.holder]) ha (by kernel_rfl) (run_loadAtN (i := k * 5 + 1) [.int .i64 d.w.num, .string (str d.w.key), .int .i64 d.w.waiter, .int .i64 d.w.holder] ((hr _ s.sat.tail.tail)) rfl (by kernel_rfl) Try.isAgg28 Try.sizeOf28 (fun q_ hq_ => by rw [Nat.add_assoc, deeds_at hdd (by omega)]; match q_, hq_ with | 0, _ => rfl | 1, _ => rfl | 2, _ => rfl | 3, _ => rfl) rfl) ?_
        clear ha; intro a ha
        refine st_ex ha (by kernel_rfl) (ex_alloc [.int .i64 0, .string (str []), .int .i64 0, .int .i64 0] s rfl (Try.zeroValue28 _) (by kernel_rfl)) ?_
        clear ha; rintro _ w a ⟨g3, rfl, s⟩ ha
        replace s : St W (.blk g3 [.int .i64 0, .string (str []), .int .i64 0, .int .i64 0] 28 :: Lob g1 l :: RLob g2 l :: L) w := s
        refine st_exd ha (by kernel_rfl) (ex_store (of_ := 0) 0 [.int .i64 d.w.num, .string (str d.w.key), .int .i64 d.w.waiter, .int .i64 d.w.holder] s rfl rfl (by kernel_rfl) (by kernel_rfl) (Try.sizeOf28 _) rfl (by simp [Value.oneCell']) (Nat.le_of_ble_eq_true rfl)) ?_
        clear ha; rintro w a s ha
        replace s : St W (.blk g3 [.int .i64 d.w.num, .string (str d.w.key), .int .i64 d.w.waiter, .int .i64 d.w.holder] 28 :: Lob g1 l :: RLob g2 l :: L) w := s
        refine wpList_nil ?_
        refine then_normal ?_
        refine wp_seq ?_
        refine wp_seq ?_
        refine wp_region_lit ?_
        refine st_val (.slice (some ad) n c) ha (by kernel_rfl) (by kernel_rfl) ?_
        clear ha; intro a ha
        refine st_val (.int .i64 ((k : Nat) : Int)) ha (by kernel_rfl) (by kernel_rfl) ?_
        clear ha; intro a ha
        refine st_val (.pointer (some (ad.add (k * 5)))) ha (by kernel_rfl) (run_indexAddr' (kd := .i64) (i := ((k : Nat) : Int)) (n := n) (c := c) k rfl Try.underlying22 Try.sizeOf30 (by kernel_rfl) (by kernel_rfl) rfl (by first | assumption | omega) _) ?_
        clear ha; intro a ha
        refine st_val (.pointer (some (ad.add (k * 5 + 0)))) ha (by kernel_rfl) (run_fieldAddr_at (i := k * 5) (off := 0) rfl Try.underlying30 rfl Try.sizeOf3 (by kernel_rfl) _) ?_
        clear ha; intro a ha
        refine st_val (.int .i64 d.k) ha (by kernel_rfl) (run_loadAt1 (i := k * 5 + 0) ((hr _ s.sat.tail.tail.tail)) rfl (by kernel_rfl) Try.isAgg3 (by rw [deeds_at hdd (by omega)]; rfl)) ?_
        clear ha; intro a ha
        refine st_call ha (by kernel_rfl) (by kernel_rfl) (bring_pos W _ w d.k 8 (by omega) (by omega) s) ?_
        rintro _ w ⟨rfl, s⟩
        replace s : St W (.blk g3 [.int .i64 d.w.num, .string (str d.w.key), .int .i64 d.w.waiter, .int .i64 d.w.holder] 28 :: Lob g1 l :: RLob g2 l :: L) w := s
        refine ⟨_, rfl, ?_⟩; clear ha; intro a ha
        refine wpList_nil ?_
        refine then_normal ?_
        refine wp_block ?_
        refine wp_seq ?_
        refine wp_region_lit ?_
        refine st_val (.bool ((d.k % 8) == (5 : Int))) ha (by kernel_rfl) (by kernel_rfl) ?_
        clear ha; intro a ha
        refine st_val (.bool ((d.k % 8) == (5 : Int))) ha (by kernel_rfl) (by kernel_rfl) ?_
        clear ha; intro a ha
        refine wpList_nil ?_
        refine then_normal ?_
        refine wp_part ((d.k % 8) == (5 : Int)) ha rfl (by kernel_rfl) (fun hb => ?_) (fun hb => ?_)
        · rw [hb] at ha; have hb_ := hb; replace hb := eq_of_beq hb
          refine wp_seq ?_
          refine wp_region_lit ?_
          refine st_val (.pointer (some ⟨g1, 0, none⟩)) ha (by kernel_rfl) (by kernel_rfl) ?_
          clear ha; intro a ha
          refine st_val (.pointer (some ⟨g3, 0, none⟩)) ha (by kernel_rfl) (by kernel_rfl) ?_
          clear ha; intro a ha
          refine st_val (.int .i64 d.w.num) ha (by kernel_rfl) (run_load1 (of_ := 0) (s.blkIs 0 rfl) rfl (by kernel_rfl) Try.isAgg3 rfl) ?_
          clear ha; intro a ha
          replace s := s.at_ (j := 1) rfl
          replace s : St W (Lob g1 l :: .blk g3 [.int .i64 d.w.num, .string (str d.w.key), .int .i64 d.w.waiter, .int .i64 d.w.holder] 28 :: RLob g2 l :: L) w := s
          refine st_call ha (by kernel_rfl) (by kernel_rfl) (take_lob W _ w g1 l d.w.num ok s) ?_
          rintro _ w ⟨rfl, s⟩
          replace s : St W (Lob g1 (left (byNum d.w.num) l) :: .blk g3 [.int .i64 d.w.num, .string (str d.w.key), .int .i64 d.w.waiter, .int .i64 d.w.holder] 28 :: RLob g2 l :: L) w := s
          refine ⟨_, rfl, ?_⟩; clear ha; intro a ha
          refine st_val (.tuple #[.agg #[.int .i64 ((hd (out (byNum d.w.num) l)).num), .string (str (hd (out (byNum d.w.num) l)).key), .int .i64 ((hd (out (byNum d.w.num) l)).waiter), .int .i64 ((hd (out (byNum d.w.num) l)).holder)], .bool (!(out (byNum d.w.num) l).isEmpty)]) ha (by kernel_rfl) (by kernel_rfl) ?_
          clear ha; intro a ha
          refine st_val (.agg #[.int .i64 ((hd (out (byNum d.w.num) l)).num), .string (str (hd (out (byNum d.w.num) l)).key), .int .i64 ((hd (out (byNum d.w.num) l)).waiter), .int .i64 ((hd (out (byNum d.w.num) l)).holder)]) ha (by kernel_rfl) (by kernel_rfl) ?_
          clear ha; intro a ha
          refine st_val (.bool (!(out (byNum d.w.num) l).isEmpty)) ha (by kernel_rfl) (by kernel_rfl) ?_
          clear ha; intro a ha
          refine st_ex ha (by kernel_rfl) (ex_alloc [.int .i64 0, .string (str []), .int .i64 0, .int .i64 0] s rfl (Try.zeroValue28 _) (by kernel_rfl)) ?_
          clear ha; rintro _ w a ⟨g5, rfl, s⟩ ha
          replace s : St W (.blk g5 [.int .i64 0, .string (str []), .int .i64 0, .int .i64 0] 28 :: Lob g1 (left (byNum d.w.num) l) :: .blk g3 [.int .i64 d.w.num, .string (str d.w.key), .int .i64 d.w.waiter, .int .i64 d.w.holder] 28 :: RLob g2 l :: L) w := s
          refine st_exd ha (by kernel_rfl) (ex_store (of_ := 0) 0 [.int .i64 ((hd (out (byNum d.w.num) l)).num), .string (str (hd (out (byNum d.w.num) l)).key), .int .i64 ((hd (out (byNum d.w.num) l)).waiter), .int .i64 ((hd (out (byNum d.w.num) l)).holder)] s rfl rfl (by kernel_rfl) (by kernel_rfl) (Try.sizeOf28 _) rfl (by simp [Value.oneCell']) (Nat.le_of_ble_eq_true rfl)) ?_
          clear ha; rintro w a s ha
          replace s : St W (.blk g5 [.int .i64 ((hd (out (byNum d.w.num) l)).num), .string (str (hd (out (byNum d.w.num) l)).key), .int .i64 ((hd (out (byNum d.w.num) l)).waiter), .int .i64 ((hd (out (byNum d.w.num) l)).holder)] 28 :: Lob g1 (left (byNum d.w.num) l) :: .blk g3 [.int .i64 d.w.num, .string (str d.w.key), .int .i64 d.w.waiter, .int .i64 d.w.holder] 28 :: RLob g2 l :: L) w := s
          refine st_val (.bool (!(out (byNum d.w.num) l).isEmpty)) ha (by kernel_rfl) (by kernel_rfl) ?_
          clear ha; intro a ha
          refine wpList_nil ?_
          refine then_normal ?_
          refine wp_seq ?_
          refine wp_region_lit ?_
          refine st_val (.pointer (some ⟨g2, 0, none⟩)) ha (by kernel_rfl) (by kernel_rfl) ?_
          clear ha; intro a ha
          refine st_val (.pointer (some ⟨g3, 0, none⟩)) ha (by kernel_rfl) (by kernel_rfl) ?_
          clear ha; intro a ha
          refine st_val (.int .i64 d.w.num) ha (by kernel_rfl) (run_load1 (of_ := 0) (s.blkIs 2 rfl) rfl (by kernel_rfl) Try.isAgg3 rfl) ?_
          clear ha; intro a ha
          replace s := s.at_ (j := 3) rfl
          replace s : St W (RLob g2 l :: .blk g5 [.int .i64 ((hd (out (byNum d.w.num) l)).num), .string (str (hd (out (byNum d.w.num) l)).key), .int .i64 ((hd (out (byNum d.w.num) l)).waiter), .int .i64 ((hd (out (byNum d.w.num) l)).holder)] 28 :: Lob g1 (left (byNum d.w.num) l) :: .blk g3 [.int .i64 d.w.num, .string (str d.w.key), .int .i64 d.w.waiter, .int .i64 d.w.holder] 28 :: L) w := s
          refine st_call ha (by kernel_rfl) (by kernel_rfl) (rtake_lob W _ w g2 l d.w.num ok s) ?_
          rintro _ w ⟨rfl, s⟩
          replace s : St W (RLob g2 (left (byNum d.w.num) l) :: .blk g5 [.int .i64 ((hd (out (byNum d.w.num) l)).num), .string (str (hd (out (byNum d.w.num) l)).key), .int .i64 ((hd (out (byNum d.w.num) l)).waiter), .int .i64 ((hd (out (byNum d.w.num) l)).holder)] 28 :: Lob g1 (left (byNum d.w.num) l) :: .blk g3 [.int .i64 d.w.num, .string (str d.w.key), .int .i64 d.w.waiter, .int .i64 d.w.holder] 28 :: L) w := s
          refine ⟨_, rfl, ?_⟩; clear ha; intro a ha
          refine st_val (.tuple #[.agg #[.int .i64 ((hd (out (byNum d.w.num) l)).num), .string (str (hd (out (byNum d.w.num) l)).key), .int .i64 ((hd (out (byNum d.w.num) l)).waiter), .int .i64 ((hd (out (byNum d.w.num) l)).holder)], .bool (!(out (byNum d.w.num) l).isEmpty)]) ha (by kernel_rfl) (by kernel_rfl) ?_
          clear ha; intro a ha
          refine st_val (.agg #[.int .i64 ((hd (out (byNum d.w.num) l)).num), .string (str (hd (out (byNum d.w.num) l)).key), .int .i64 ((hd (out (byNum d.w.num) l)).waiter), .int .i64 ((hd (out (byNum d.w.num) l)).holder)]) ha (by kernel_rfl) (by kernel_rfl) ?_
          clear ha; intro a ha
          refine st_val (.bool (!(out (byNum d.w.num) l).isEmpty)) ha (by kernel_rfl) (by kernel_rfl) ?_
          clear ha; intro a ha
          refine st_ex ha (by kernel_rfl) (ex_alloc [.int .i64 0, .string (str []), .int .i64 0, .int .i64 0] s rfl (Try.zeroValue34 _) (by kernel_rfl)) ?_
          clear ha; rintro _ w a ⟨g6, rfl, s⟩ ha
          replace s : St W (.blk g6 [.int .i64 0, .string (str []), .int .i64 0, .int .i64 0] 34 :: RLob g2 (left (byNum d.w.num) l) :: .blk g5 [.int .i64 ((hd (out (byNum d.w.num) l)).num), .string (str (hd (out (byNum d.w.num) l)).key), .int .i64 ((hd (out (byNum d.w.num) l)).waiter), .int .i64 ((hd (out (byNum d.w.num) l)).holder)] 28 :: Lob g1 (left (byNum d.w.num) l) :: .blk g3 [.int .i64 d.w.num, .string (str d.w.key), .int .i64 d.w.waiter, .int .i64 d.w.holder] 28 :: L) w := s
          refine st_exd ha (by kernel_rfl) (ex_store (of_ := 0) 0 [.int .i64 ((hd (out (byNum d.w.num) l)).num), .string (str (hd (out (byNum d.w.num) l)).key), .int .i64 ((hd (out (byNum d.w.num) l)).waiter), .int .i64 ((hd (out (byNum d.w.num) l)).holder)] s rfl rfl (by kernel_rfl) (by kernel_rfl) (Try.sizeOf34 _) rfl (by simp [Value.oneCell']) (Nat.le_of_ble_eq_true rfl)) ?_
          clear ha; rintro w a s ha
          replace s : St W (.blk g6 [.int .i64 ((hd (out (byNum d.w.num) l)).num), .string (str (hd (out (byNum d.w.num) l)).key), .int .i64 ((hd (out (byNum d.w.num) l)).waiter), .int .i64 ((hd (out (byNum d.w.num) l)).holder)] 34 :: RLob g2 (left (byNum d.w.num) l) :: .blk g5 [.int .i64 ((hd (out (byNum d.w.num) l)).num), .string (str (hd (out (byNum d.w.num) l)).key), .int .i64 ((hd (out (byNum d.w.num) l)).waiter), .int .i64 ((hd (out (byNum d.w.num) l)).holder)] 28 :: Lob g1 (left (byNum d.w.num) l) :: .blk g3 [.int .i64 d.w.num, .string (str d.w.key), .int .i64 d.w.waiter, .int .i64 d.w.holder] 28 :: L) w := s
          refine st_val (.bool (!(out (byNum d.w.num) l).isEmpty)) ha (by kernel_rfl) (by kernel_rfl) ?_
          clear ha; intro a ha
          refine wpList_nil ?_
          refine then_normal ?_
          refine wp_seq ?_
          refine wp_region_lit ?_
          refine st_val (.agg #[.int .i64 ((hd (out (byNum d.w.num) l)).num), .string (str (hd (out (byNum d.w.num) l)).key), .int .i64 ((hd (out (byNum d.w.num) l)).waiter), .int .i64 ((hd (out (byNum d.w.num) l)).holder)]) ha (by kernel_rfl) (run_loadN (of_ := 0) [.int .i64 ((hd (out (byNum d.w.num) l)).num), .string (str (hd (out (byNum d.w.num) l)).key), .int .i64 ((hd (out (byNum d.w.num) l)).waiter), .int .i64 ((hd (out (byNum d.w.num) l)).holder)] (s.blkIs 2 rfl) rfl (by kernel_rfl) Try.isAgg28 Try.sizeOf28 rfl (Nat.le_of_ble_eq_true rfl)) ?_
          clear ha; intro a ha
          refine st_val (.agg #[.int .i64 ((hd (out (byNum d.w.num) l)).num), .string (str (hd (out (byNum d.w.num) l)).key), .int .i64 ((hd (out (byNum d.w.num) l)).waiter), .int .i64 ((hd (out (byNum d.w.num) l)).holder)]) ha (by kernel_rfl) (run_loadN (of_ := 0) [.int .i64 ((hd (out (byNum d.w.num) l)).num), .string (str (hd (out (byNum d.w.num) l)).key), .int .i64 ((hd (out (byNum d.w.num) l)).waiter), .int .i64 ((hd (out (byNum d.w.num) l)).holder)] (s.blkIs 0 rfl) rfl (by kernel_rfl) Try.isAgg34 Try.sizeOf34 rfl (Nat.le_of_ble_eq_true rfl)) ?_
          clear ha; intro a ha
          refine st_val (.bool false) ha (by kernel_rfl) (run_known (show (if BinOp.neq = .eql then decide ((hd (out (byNum d.w.num) l)) = (hd (out (byNum d.w.num) l))) else decide ((hd (out (byNum d.w.num) l)) ≠ (hd (out (byNum d.w.num) l)))) = false from by simp) (run_wt (x := (hd (out (byNum d.w.num) l))) (y := (hd (out (byNum d.w.num) l))) (.inr rfl) rfl (by kernel_rfl) (by kernel_rfl) _)) ?_
          clear ha; intro a ha
          refine st_val (.bool false) ha (by kernel_rfl) (by kernel_rfl) ?_
          clear ha; intro a ha
          refine st_val (.bool (!(out (byNum d.w.num) l).isEmpty)) ha (by kernel_rfl) (by kernel_rfl) ?_
          clear ha; intro a ha
          refine st_val (.bool (!(out (byNum d.w.num) l).isEmpty)) ha (by kernel_rfl) (by kernel_rfl) ?_
          clear ha; intro a ha
          refine st_val (.bool false) ha (by kernel_rfl) (run_known (bne_self_eq_false _) (show (execOp (evalE _) _).run _ _ = .ok (.value (.bool ((!(out (byNum d.w.num) l).isEmpty) != (!(out (byNum d.w.num) l).isEmpty)))) _ from by kernel_rfl)) ?_
          clear ha; intro a ha
          refine st_val (.bool false) ha (by kernel_rfl) (by kernel_rfl) ?_
          clear ha; intro a ha
          refine wpList_nil ?_
          refine then_normal ?_
          refine wp_false ha rfl (by kernel_rfl) ?_
          refine wp_skip ?_
          refine block_normal ?_
          refine then_normal ?_
          refine wp_seq ?_
          refine wp_region_lit ?_
          refine st_val (.pointer (some ⟨g1, 0, none⟩)) ha (by kernel_rfl) (by kernel_rfl) ?_
          clear ha; intro a ha
          replace s := s.at_ (j := 3) rfl
          replace s : St W (Lob g1 (left (byNum d.w.num) l) :: .blk g6 [.int .i64 ((hd (out (byNum d.w.num) l)).num), .string (str (hd (out (byNum d.w.num) l)).key), .int .i64 ((hd (out (byNum d.w.num) l)).waiter), .int .i64 ((hd (out (byNum d.w.num) l)).holder)] 34 :: RLob g2 (left (byNum d.w.num) l) :: .blk g5 [.int .i64 ((hd (out (byNum d.w.num) l)).num), .string (str (hd (out (byNum d.w.num) l)).key), .int .i64 ((hd (out (byNum d.w.num) l)).waiter), .int .i64 ((hd (out (byNum d.w.num) l)).holder)] 28 :: .blk g3 [.int .i64 d.w.num, .string (str d.w.key), .int .i64 d.w.waiter, .int .i64 d.w.holder] 28 :: L) w := s
          refine st_call ha (by kernel_rfl) (by kernel_rfl) (edges_lob W hW _ w g1 (left (byNum d.w.num) l) (ok.left (byNum d.w.num)) s) ?_
          rintro _ w ⟨A7, c8, d9, rfl, hd9, s⟩
          have hd9l := hd9.len_le
          have hfl_ := ((ok.left (byNum d.w.num))).2
          replace s : St W (Own 51 2 A7 d9.length c8 (pcs d9) :: Lob g1 (left (byNum d.w.num) l) :: .blk g6 [.int .i64 ((hd (out (byNum d.w.num) l)).num), .string (str (hd (out (byNum d.w.num) l)).key), .int .i64 ((hd (out (byNum d.w.num) l)).waiter), .int .i64 ((hd (out (byNum d.w.num) l)).holder)] 34 :: RLob g2 (left (byNum d.w.num) l) :: .blk g5 [.int .i64 ((hd (out (byNum d.w.num) l)).num), .string (str (hd (out (byNum d.w.num) l)).key), .int .i64 ((hd (out (byNum d.w.num) l)).waiter), .int .i64 ((hd (out (byNum d.w.num) l)).holder)] 28 :: .blk g3 [.int .i64 d.w.num, .string (str d.w.key), .int .i64 d.w.waiter, .int .i64 d.w.holder] 28 :: L) w := s
          refine ⟨_, rfl, ?_⟩; clear ha; intro a ha
          refine st_val (.slice A7 d9.length c8) ha (by kernel_rfl) (by kernel_rfl) ?_
          clear ha; intro a ha
          refine wpList_nil ?_
          refine then_normal ?_
          refine wp_seq ?_
          refine wp_seq ?_
          refine wp_region_lit ?_
          refine st_val (.slice A7 d9.length c8) ha (by kernel_rfl) (by kernel_rfl) ?_
          clear ha; intro a ha
          refine st_val (.pointer (some ⟨g2, 0, none⟩)) ha (by kernel_rfl) (by kernel_rfl) ?_
          clear ha; intro a ha
          replace s := s.at_ (j := 3) rfl
          replace s : St W (RLob g2 (left (byNum d.w.num) l) :: Own 51 2 A7 d9.length c8 (pcs d9) :: Lob g1 (left (byNum d.w.num) l) :: .blk g6 [.int .i64 ((hd (out (byNum d.w.num) l)).num), .string (str (hd (out (byNum d.w.num) l)).key), .int .i64 ((hd (out (byNum d.w.num) l)).waiter), .int .i64 ((hd (out (byNum d.w.num) l)).holder)] 34 :: .blk g5 [.int .i64 ((hd (out (byNum d.w.num) l)).num), .string (str (hd (out (byNum d.w.num) l)).key), .int .i64 ((hd (out (byNum d.w.num) l)).waiter), .int .i64 ((hd (out (byNum d.w.num) l)).holder)] 28 :: .blk g3 [.int .i64 d.w.num, .string (str d.w.key), .int .i64 d.w.waiter, .int .i64 d.w.holder] 28 :: L) w := s
          refine st_call ha (by kernel_rfl) (by kernel_rfl) (redges_is W _ w g2 (left (byNum d.w.num) l) d9 hd9 (ok.left (byNum d.w.num)) s) ?_
          rintro _ w ⟨A10, c11, rfl, s⟩
          replace s : St W (Own 51 2 A10 d9.length c11 (pcs d9) :: RLob g2 (left (byNum d.w.num) l) :: Own 51 2 A7 d9.length c8 (pcs d9) :: Lob g1 (left (byNum d.w.num) l) :: .blk g6 [.int .i64 ((hd (out (byNum d.w.num) l)).num), .string (str (hd (out (byNum d.w.num) l)).key), .int .i64 ((hd (out (byNum d.w.num) l)).waiter), .int .i64 ((hd (out (byNum d.w.num) l)).holder)] 34 :: .blk g5 [.int .i64 ((hd (out (byNum d.w.num) l)).num), .string (str (hd (out (byNum d.w.num) l)).key), .int .i64 ((hd (out (byNum d.w.num) l)).waiter), .int .i64 ((hd (out (byNum d.w.num) l)).holder)] 28 :: .blk g3 [.int .i64 d.w.num, .string (str d.w.key), .int .i64 d.w.waiter, .int .i64 d.w.holder] 28 :: L) w := s
          refine ⟨_, rfl, ?_⟩; clear ha; intro a ha
          refine st_call ha (by kernel_rfl) (by kernel_rfl) (same_self W _ w A7 A10 d9.length d9.length c8 c11 d9 (Knows.own (j := 2) rfl) (Knows.own (j := 0) rfl) rfl rfl (by omega) s) ?_
          rintro _ w ⟨rfl, s⟩
          replace s : St W (Own 51 2 A10 d9.length c11 (pcs d9) :: RLob g2 (left (byNum d.w.num) l) :: Own 51 2 A7 d9.length c8 (pcs d9) :: Lob g1 (left (byNum d.w.num) l) :: .blk g6 [.int .i64 ((hd (out (byNum d.w.num) l)).num), .string (str (hd (out (byNum d.w.num) l)).key), .int .i64 ((hd (out (byNum d.w.num) l)).waiter), .int .i64 ((hd (out (byNum d.w.num) l)).holder)] 34 :: .blk g5 [.int .i64 ((hd (out (byNum d.w.num) l)).num), .string (str (hd (out (byNum d.w.num) l)).key), .int .i64 ((hd (out (byNum d.w.num) l)).waiter), .int .i64 ((hd (out (byNum d.w.num) l)).holder)] 28 :: .blk g3 [.int .i64 d.w.num, .string (str d.w.key), .int .i64 d.w.waiter, .int .i64 d.w.holder] 28 :: L) w := s
          refine ⟨_, rfl, ?_⟩; clear ha; intro a ha
          refine st_val (.bool false) ha (by kernel_rfl) (by kernel_rfl) ?_
          clear ha; intro a ha
          refine st_val (.bool false) ha (by kernel_rfl) (by kernel_rfl) ?_
          clear ha; intro a ha
          refine st_val (.pointer (some ⟨g1, 0, none⟩)) ha (by kernel_rfl) (by kernel_rfl) ?_
          clear ha; intro a ha
          replace s := s.at_ (j := 3) rfl
          replace s : St W (Lob g1 (left (byNum d.w.num) l) :: Own 51 2 A10 d9.length c11 (pcs d9) :: RLob g2 (left (byNum d.w.num) l) :: Own 51 2 A7 d9.length c8 (pcs d9) :: .blk g6 [.int .i64 ((hd (out (byNum d.w.num) l)).num), .string (str (hd (out (byNum d.w.num) l)).key), .int .i64 ((hd (out (byNum d.w.num) l)).waiter), .int .i64 ((hd (out (byNum d.w.num) l)).holder)] 34 :: .blk g5 [.int .i64 ((hd (out (byNum d.w.num) l)).num), .string (str (hd (out (byNum d.w.num) l)).key), .int .i64 ((hd (out (byNum d.w.num) l)).waiter), .int .i64 ((hd (out (byNum d.w.num) l)).holder)] 28 :: .blk g3 [.int .i64 d.w.num, .string (str d.w.key), .int .i64 d.w.waiter, .int .i64 d.w.holder] 28 :: L) w := s
          refine st_call ha (by kernel_rfl) (by kernel_rfl) (len_lob W _ w g1 (left (byNum d.w.num) l) (ok.left (byNum d.w.num)) s) ?_
          rintro _ w ⟨rfl, s⟩
          replace s : St W (Lob g1 (left (byNum d.w.num) l) :: Own 51 2 A10 d9.length c11 (pcs d9) :: RLob g2 (left (byNum d.w.num) l) :: Own 51 2 A7 d9.length c8 (pcs d9) :: .blk g6 [.int .i64 ((hd (out (byNum d.w.num) l)).num), .string (str (hd (out (byNum d.w.num) l)).key), .int .i64 ((hd (out (byNum d.w.num) l)).waiter), .int .i64 ((hd (out (byNum d.w.num) l)).holder)] 34 :: .blk g5 [.int .i64 ((hd (out (byNum d.w.num) l)).num), .string (str (hd (out (byNum d.w.num) l)).key), .int .i64 ((hd (out (byNum d.w.num) l)).waiter), .int .i64 ((hd (out (byNum d.w.num) l)).holder)] 28 :: .blk g3 [.int .i64 d.w.num, .string (str d.w.key), .int .i64 d.w.waiter, .int .i64 d.w.holder] 28 :: L) w := s
          refine ⟨_, rfl, ?_⟩; clear ha; intro a ha
          refine st_val (.pointer (some ⟨g2, 0, none⟩)) ha (by kernel_rfl) (by kernel_rfl) ?_
          clear ha; intro a ha
          replace s := s.at_ (j := 2) rfl
          replace s : St W (RLob g2 (left (byNum d.w.num) l) :: Lob g1 (left (byNum d.w.num) l) :: Own 51 2 A10 d9.length c11 (pcs d9) :: Own 51 2 A7 d9.length c8 (pcs d9) :: .blk g6 [.int .i64 ((hd (out (byNum d.w.num) l)).num), .string (str (hd (out (byNum d.w.num) l)).key), .int .i64 ((hd (out (byNum d.w.num) l)).waiter), .int .i64 ((hd (out (byNum d.w.num) l)).holder)] 34 :: .blk g5 [.int .i64 ((hd (out (byNum d.w.num) l)).num), .string (str (hd (out (byNum d.w.num) l)).key), .int .i64 ((hd (out (byNum d.w.num) l)).waiter), .int .i64 ((hd (out (byNum d.w.num) l)).holder)] 28 :: .blk g3 [.int .i64 d.w.num, .string (str d.w.key), .int .i64 d.w.waiter, .int .i64 d.w.holder] 28 :: L) w := s
          refine st_call ha (by kernel_rfl) (by kernel_rfl) (rlen_lob W _ w g2 (left (byNum d.w.num) l) (ok.left (byNum d.w.num)) s) ?_
          rintro _ w ⟨rfl, s⟩
          replace s : St W (RLob g2 (left (byNum d.w.num) l) :: Lob g1 (left (byNum d.w.num) l) :: Own 51 2 A10 d9.length c11 (pcs d9) :: Own 51 2 A7 d9.length c8 (pcs d9) :: .blk g6 [.int .i64 ((hd (out (byNum d.w.num) l)).num), .string (str (hd (out (byNum d.w.num) l)).key), .int .i64 ((hd (out (byNum d.w.num) l)).waiter), .int .i64 ((hd (out (byNum d.w.num) l)).holder)] 34 :: .blk g5 [.int .i64 ((hd (out (byNum d.w.num) l)).num), .string (str (hd (out (byNum d.w.num) l)).key), .int .i64 ((hd (out (byNum d.w.num) l)).waiter), .int .i64 ((hd (out (byNum d.w.num) l)).holder)] 28 :: .blk g3 [.int .i64 d.w.num, .string (str d.w.key), .int .i64 d.w.waiter, .int .i64 d.w.holder] 28 :: L) w := s
          refine ⟨_, rfl, ?_⟩; clear ha; intro a ha
          refine st_val (.bool false) ha (by kernel_rfl) (run_known (bne_self_eq_false _) (show (execOp (evalE _) _).run _ _ = .ok (.value (.bool ((((left (byNum d.w.num) l).length : Nat) : Int) != (((left (byNum d.w.num) l).length : Nat) : Int)))) _ from by kernel_rfl)) ?_
          clear ha; intro a ha
          refine st_val (.bool false) ha (by kernel_rfl) (by kernel_rfl) ?_
          clear ha; intro a ha
          refine wpList_nil ?_
          refine then_normal ?_
          refine wp_false ha rfl (by kernel_rfl) ?_
          refine wp_skip ?_
          refine then_normal ?_
          refine wp_seq ?_
          refine wp_region_lit ?_
          refine st_val (.int .i64 0) ha (by kernel_rfl) (by kernel_rfl) ?_
          clear ha; intro a ha
          refine wpList_nil ?_
          refine then_normal ?_
          refine wp_block ?_
          replace s := s.at_ (j := 1) rfl
          replace s : St W (Lob g1 (left (byNum d.w.num) l) :: RLob g2 (left (byNum d.w.num) l) :: Own 51 2 A10 d9.length c11 (pcs d9) :: Own 51 2 A7 d9.length c8 (pcs d9) :: .blk g6 [.int .i64 ((hd (out (byNum d.w.num) l)).num), .string (str (hd (out (byNum d.w.num) l)).key), .int .i64 ((hd (out (byNum d.w.num) l)).waiter), .int .i64 ((hd (out (byNum d.w.num) l)).holder)] 34 :: .blk g5 [.int .i64 ((hd (out (byNum d.w.num) l)).num), .string (str (hd (out (byNum d.w.num) l)).key), .int .i64 ((hd (out (byNum d.w.num) l)).waiter), .int .i64 ((hd (out (byNum d.w.num) l)).holder)] 28 :: .blk g3 [.int .i64 d.w.num, .string (str d.w.key), .int .i64 d.w.waiter, .int .i64 d.w.holder] 28 :: L) w := s
          replace s := s.at_ (j := 3) rfl
          replace s : St W (Own 51 2 A7 d9.length c8 (pcs d9) :: Lob g1 (left (byNum d.w.num) l) :: RLob g2 (left (byNum d.w.num) l) :: Own 51 2 A10 d9.length c11 (pcs d9) :: .blk g6 [.int .i64 ((hd (out (byNum d.w.num) l)).num), .string (str (hd (out (byNum d.w.num) l)).key), .int .i64 ((hd (out (byNum d.w.num) l)).waiter), .int .i64 ((hd (out (byNum d.w.num) l)).holder)] 34 :: .blk g5 [.int .i64 ((hd (out (byNum d.w.num) l)).num), .string (str (hd (out (byNum d.w.num) l)).key), .int .i64 ((hd (out (byNum d.w.num) l)).waiter), .int .i64 ((hd (out (byNum d.w.num) l)).holder)] 28 :: .blk g3 [.int .i64 d.w.num, .string (str d.w.key), .int .i64 d.w.waiter, .int .i64 d.w.holder] 28 :: L) w := s
          replace s : St W (Own 51 2 A7 d9.length c8 (pcs d9) :: Lob g1 (left (byNum d.w.num) l) :: RLob g2 (left (byNum d.w.num) l) :: L) w := St.mid (A := [Own 51 2 A7 d9.length c8 (pcs d9), Lob g1 (left (byNum d.w.num) l), RLob g2 (left (byNum d.w.num) l)]) (B := [Own 51 2 A10 d9.length c11 (pcs d9), .blk g6 [.int .i64 ((hd (out (byNum d.w.num) l)).num), .string (str (hd (out (byNum d.w.num) l)).key), .int .i64 ((hd (out (byNum d.w.num) l)).waiter), .int .i64 ((hd (out (byNum d.w.num) l)).holder)] 34, .blk g5 [.int .i64 ((hd (out (byNum d.w.num) l)).num), .string (str (hd (out (byNum d.w.num) l)).key), .int .i64 ((hd (out (byNum d.w.num) l)).waiter), .int .i64 ((hd (out (byNum d.w.num) l)).holder)] 28, .blk g3 [.int .i64 d.w.num, .string (str d.w.key), .int .i64 d.w.waiter, .int .i64 d.w.holder] 28]) s
          refine wp_loopG (G := (Nat × List Value)) (fun ⟨m, X⟩ a w => Has a 150 [(0, .slice (some ad) n c), (3, .pointer (some ⟨g1, 0, none⟩)), (4, .pointer (some ⟨g2, 0, none⟩)), (5, .int .i64 ((k : Nat) : Int)), (14, .slice A7 d9.length c8), (15, .int .i64 ((m : Nat) : Int))] ∧ St W (Own 51 2 A7 d9.length c8 X :: Lob g1 (left (byNum d.w.num) l) :: RLob g2 (left (byNum d.w.num) l) :: L) w ∧ (m ≤ d9.length)) (fun ⟨m, X⟩ => d9.length - m) (0, pcs d9) ?_ ?_
          · exact ⟨(Has.cons ha (by kernel_rfl) (by kernel_rfl) (Has.cons ha (by kernel_rfl) (by kernel_rfl) (Has.cons ha (by kernel_rfl) (by kernel_rfl) (Has.cons ha (by kernel_rfl) (by kernel_rfl) (Has.cons ha (by kernel_rfl) (by kernel_rfl) (Has.cons ha (by kernel_rfl) (by kernel_rfl) (Has.nil ha))))))), s, Nat.zero_le _⟩
          · clear ha s; rintro ⟨m, X⟩ a w ⟨ha, s, hp⟩
            refine wp_seq ?_
            refine wp_seq ?_
            refine wp_region_lit ?_
            refine st_val (.int .i64 ((m : Nat) : Int)) ha (by kernel_rfl) (by kernel_rfl) ?_
            clear ha; intro a ha
            refine st_val (.slice A7 d9.length c8) ha (by kernel_rfl) (by kernel_rfl) ?_
            clear ha; intro a ha
            refine st_val (.int .i64 ((d9.length : Nat) : Int)) ha (by kernel_rfl) (by kernel_rfl) ?_
            clear ha; intro a ha
            refine st_val (.bool (decide (((m : Nat) : Int) < ((d9.length : Nat) : Int)))) ha (by kernel_rfl) (by kernel_rfl) ?_
            clear ha; intro a ha
            refine wpList_nil ?_
            refine then_normal ?_
            refine wp_part (decide (((m : Nat) : Int) < ((d9.length : Nat) : Int))) ha rfl (by kernel_rfl) (fun hb => ?_) (fun hb => ?_)
            · rw [hb] at ha; replace hb : (((m : Nat) : Int) < ((d9.length : Nat) : Int)) := of_decide_eq_true hb
              obtain ⟨ax12, hX⟩ := Own.addr (s.at_ (j := 0) rfl) (by omega)
              subst hX
              have hXl := (Own.facts (s.at_ (j := 0) rfl).1).1
              refine wp_skip ?_
              refine then_normal ?_
              refine wp_seq ?_
              refine wp_block ?_
              refine wp_region_lit ?_
              refine st_val (.slice (some ax12) d9.length c8) ha (by kernel_rfl) (by kernel_rfl) ?_
              clear ha; intro a ha
              refine st_val (.int .i64 ((m : Nat) : Int)) ha (by kernel_rfl) (by kernel_rfl) ?_
              clear ha; intro a ha
              refine st_val (.agg #[.int .i64 0, .int .i64 0]) ha (by kernel_rfl) (by kernel_rfl) ?_
              clear ha; intro a ha
              refine st_val (.pointer (some (ax12.add (m * 2)))) ha (by kernel_rfl) (run_indexAddr' (kd := .i64) (i := ((m : Nat) : Int)) (n := d9.length) (c := c8) m rfl Try.underlying47 Try.sizeOf51 (by kernel_rfl) (by kernel_rfl) rfl (by first | assumption | omega) _) ?_
              clear ha; intro a ha
              refine st_exd ha (by kernel_rfl) (ex_store_own (i := m * 2) 0 [.int .i64 0, .int .i64 0] s rfl rfl rfl (by kernel_rfl) (by kernel_rfl) (Try.sizeOf51 _) rfl (by simp [Value.oneCell']) (by simp) (by rw [hXl]; simp only [List.length_cons, List.length_nil]; omega)) ?_
              clear ha; rintro w a s ha
              replace s : St W (Own 51 2 (some ax12) d9.length c8 (putAt X (m * 2) [.int .i64 0, .int .i64 0]) :: Lob g1 (left (byNum d.w.num) l) :: RLob g2 (left (byNum d.w.num) l) :: L) w := s
              refine wpList_nil ?_
              refine block_normal ?_
              refine then_normal ?_
              refine wp_region_lit ?_
              refine st_val (.int .i64 ((m : Nat) : Int)) ha (by kernel_rfl) (by kernel_rfl) ?_
              clear ha; intro a ha
              refine st_val (.int .i64 ((m + 1 : Nat) : Int)) ha (by kernel_rfl) (run_arith (((m : Nat) : Int) + (1 : Int)) ((m + 1 : Nat) : Int) rfl (by kernel_rfl) (by kernel_rfl) (.inl ⟨rfl, rfl⟩) (by rw [wrap64_in (by omega)]; try omega) _) ?_
              clear ha; intro a ha
              refine st_val (.int .i64 ((m + 1 : Nat) : Int)) ha (by kernel_rfl) (by kernel_rfl) ?_
              clear ha; intro a ha
              refine wpList_nil ?_
              refine then_normal ?_
              exact ⟨(m + 1, putAt X (m * 2) [.int .i64 0, .int .i64 0]), (show d9.length - (m + 1) < d9.length - m by omega), (Has.cons ha (by kernel_rfl) (by kernel_rfl) (Has.cons ha (by kernel_rfl) (by kernel_rfl) (Has.cons ha (by kernel_rfl) (by kernel_rfl) (Has.cons ha (by kernel_rfl) (by kernel_rfl) (Has.cons ha (by kernel_rfl) (by kernel_rfl) (Has.cons ha (by kernel_rfl) (by kernel_rfl) (Has.nil ha))))))), s, (show m + 1 ≤ d9.length by omega)⟩
            · rw [hb] at ha; replace hb : ¬ (((m : Nat) : Int) < ((d9.length : Nat) : Int)) := of_decide_eq_false hb
              refine wp_exit ?_
              refine then_exit ?_
              refine then_exit ?_
              refine block_hit ?_
              refine block_normal ?_
              refine then_normal ?_
              refine wp_region_lit ?_
              refine st_val (.int .i64 ((k : Nat) : Int)) ha (by kernel_rfl) (by kernel_rfl) ?_
              clear ha; intro a ha
              refine st_val (.int .i64 ((k + 1 : Nat) : Int)) ha (by kernel_rfl) (run_arith (((k : Nat) : Int) + (1 : Int)) ((k + 1 : Nat) : Int) rfl (by kernel_rfl) (by kernel_rfl) (.inl ⟨rfl, rfl⟩) (by rw [wrap64_in (by omega)]; try omega) _) ?_
              clear ha; intro a ha
              refine st_val (.int .i64 ((k + 1 : Nat) : Int)) ha (by kernel_rfl) (by kernel_rfl) ?_
              clear ha; intro a ha
              refine wpList_nil ?_
              refine then_normal ?_
              replace s := s.at_ (j := 2) rfl
              replace s : St W (RLob g2 (left (byNum d.w.num) l) :: Own 51 2 A7 d9.length c8 X :: Lob g1 (left (byNum d.w.num) l) :: L) w := s
              replace s := s.at_ (j := 2) rfl
              replace s : St W (Lob g1 (left (byNum d.w.num) l) :: RLob g2 (left (byNum d.w.num) l) :: Own 51 2 A7 d9.length c8 X :: L) w := s
              replace s : St W (Lob g1 (left (byNum d.w.num) l) :: RLob g2 (left (byNum d.w.num) l) :: L) w := St.mid (A := [Lob g1 (left (byNum d.w.num) l), RLob g2 (left (byNum d.w.num) l)]) (B := [Own 51 2 A7 d9.length c8 X]) s
              exact ⟨(k + 1, left (byNum d.w.num) l), (show 200 - (k + 1) < 200 - k by omega), (Has.cons ha (by kernel_rfl) (by kernel_rfl) (Has.cons ha (by kernel_rfl) (by kernel_rfl) (Has.cons ha (by kernel_rfl) (by kernel_rfl) (Has.cons ha (by kernel_rfl) (by kernel_rfl) (Has.nil ha))))), s, (show k + 1 ≤ 200 by omega), (ok.left (byNum d.w.num))⟩
        · rw [hb] at ha; have hb_ := hb; replace hb := ne_of_beq_false hb
          refine wp_seq ?_
          refine wp_seq ?_
          refine wp_region_lit ?_
          refine st_val (.bool ((d.k % 8) == (6 : Int))) ha (by kernel_rfl) (by kernel_rfl) ?_
          clear ha; intro a ha
          refine st_val (.bool ((d.k % 8) == (6 : Int))) ha (by kernel_rfl) (by kernel_rfl) ?_
          clear ha; intro a ha
          refine wpList_nil ?_
          refine then_normal ?_
          refine wp_part ((d.k % 8) == (6 : Int)) ha rfl (by kernel_rfl) (fun hb => ?_) (fun hb => ?_)
          · rw [hb] at ha; have hb_ := hb; replace hb := eq_of_beq hb
            refine wp_skip ?_
            refine then_normal ?_
            refine wp_true ha rfl (by kernel_rfl) ?_
            refine wp_seq ?_
            refine wp_region_head 11 (fun w => BlkIs g3 [.int .i64 d.w.num, .string (str d.w.key), .int .i64 d.w.waiter, .int .i64 d.w.holder] w ∧ True) (by kernel_rfl) (by decide) ?_
            replace s := s.drew; generalize _root_.Go.World.drew _ = w at s ⊢
            have hS : (fun w => BlkIs g3 [.int .i64 d.w.num, .string (str d.w.key), .int .i64 d.w.waiter, .int .i64 d.w.holder] w ∧ True) w := ⟨s.blkIs 0 rfl, trivial⟩
            refine hd_val (i := 0) (.pointer (some ⟨g1, 0, none⟩)) ha rfl (by kernel_rfl) (fun _ _ _ h => h) (by kernel_rfl) (fun w hS => (by kernel_rfl)) hS ?_
            clear ha; intro a ha
            refine hd_val (i := 1) (.pointer (some ⟨g3, 1, none⟩)) ha rfl (by kernel_rfl) (fun _ _ _ h => h) (by kernel_rfl) (fun w hS => (by kernel_rfl)) hS ?_
            clear ha; intro a ha
            refine hd_val (i := 2) (.string (str d.w.key)) ha rfl (by kernel_rfl) (fun _ _ _ h => h) (by kernel_rfl) (fun w hS => run_load1 (of_ := 1) hS.1 rfl (by kernel_rfl) Try.isAgg9 rfl) hS ?_
            clear ha; intro a ha
            refine hd_val (i := 3) (.pointer (some ⟨g3, 3, none⟩)) ha rfl (by kernel_rfl) (fun _ _ _ h => h) (by kernel_rfl) (fun w hS => (by kernel_rfl)) hS ?_
            clear ha; intro a ha
            refine hd_val (i := 4) (.int .i64 d.w.holder) ha rfl (by kernel_rfl) (fun _ _ _ h => h) (by kernel_rfl) (fun w hS => run_load1 (of_ := 3) hS.1 rfl (by kernel_rfl) Try.isAgg3 rfl) hS ?_
            clear ha; intro a ha
            refine hd_val (i := 6) (.pointer (some ⟨g2, 0, none⟩)) ha rfl (by kernel_rfl) (fun _ _ _ h => h) (by kernel_rfl) (fun w hS => (by kernel_rfl)) hS ?_
            clear ha; intro a ha
            refine hd_val (i := 7) (.pointer (some ⟨g3, 1, none⟩)) ha rfl (by kernel_rfl) (fun _ _ _ h => h) (by kernel_rfl) (fun w hS => (by kernel_rfl)) hS ?_
            clear ha; intro a ha
            refine hd_val (i := 8) (.string (str d.w.key)) ha rfl (by kernel_rfl) (fun _ _ _ h => h) (by kernel_rfl) (fun w hS => run_load1 (of_ := 1) hS.1 rfl (by kernel_rfl) Try.isAgg9 rfl) hS ?_
            clear ha; intro a ha
            refine hd_val (i := 9) (.pointer (some ⟨g3, 3, none⟩)) ha rfl (by kernel_rfl) (fun _ _ _ h => h) (by kernel_rfl) (fun w hS => (by kernel_rfl)) hS ?_
            clear ha; intro a ha
            refine hd_val (i := 10) (.int .i64 d.w.holder) ha rfl (by kernel_rfl) (fun _ _ _ h => h) (by kernel_rfl) (fun w hS => run_load1 (of_ := 3) hS.1 rfl (by kernel_rfl) Try.isAgg3 rfl) hS ?_
            clear ha; intro a ha
            replace s := s.at_ (j := 1) rfl
            replace s : St W (Lob g1 l :: .blk g3 [.int .i64 d.w.num, .string (str d.w.key), .int .i64 d.w.waiter, .int .i64 d.w.holder] 28 :: RLob g2 l :: L) w := s
            refine hd_call (i := 5) ha rfl (by kernel_rfl) (by kernel_rfl) (by kernel_rfl) (at_lob W _ w g1 l d.w.key d.w.holder ok s) ?_
            clear hS; rintro _ w ⟨A13, c14, rfl, s⟩
            replace s : St W (Own 28 4 A13 ((out (byKey d.w.key d.w.holder) l).length) c14 (ws (out (byKey d.w.key d.w.holder) l)) :: Lob g1 (left (byKey d.w.key d.w.holder) l) :: .blk g3 [.int .i64 d.w.num, .string (str d.w.key), .int .i64 d.w.waiter, .int .i64 d.w.holder] 28 :: RLob g2 l :: L) w := s
            have hS : (fun w => BlkIs g3 [.int .i64 d.w.num, .string (str d.w.key), .int .i64 d.w.waiter, .int .i64 d.w.holder] w ∧ True) w := ⟨s.blkIs 2 rfl, trivial⟩
            refine ⟨_, rfl, hS, ?_⟩; clear ha; intro a ha
            refine Head.done (by kernel_rfl) ?_
            clear hS; simp only [List.drop_succ_cons, List.drop_zero]
            replace s := s.at_ (j := 3) rfl
            replace s : St W (RLob g2 l :: Own 28 4 A13 ((out (byKey d.w.key d.w.holder) l).length) c14 (ws (out (byKey d.w.key d.w.holder) l)) :: Lob g1 (left (byKey d.w.key d.w.holder) l) :: .blk g3 [.int .i64 d.w.num, .string (str d.w.key), .int .i64 d.w.waiter, .int .i64 d.w.holder] 28 :: L) w := s
            refine st_call ha (by kernel_rfl) (by kernel_rfl) (rat_lob W _ w g2 l d.w.key d.w.holder ok s) ?_
            rintro _ w ⟨A15, c16, rfl, s⟩
            replace s : St W (Own 34 4 A15 ((out (byKey d.w.key d.w.holder) l).length) c16 (ws (out (byKey d.w.key d.w.holder) l)) :: RLob g2 (left (byKey d.w.key d.w.holder) l) :: Own 28 4 A13 ((out (byKey d.w.key d.w.holder) l).length) c14 (ws (out (byKey d.w.key d.w.holder) l)) :: Lob g1 (left (byKey d.w.key d.w.holder) l) :: .blk g3 [.int .i64 d.w.num, .string (str d.w.key), .int .i64 d.w.waiter, .int .i64 d.w.holder] 28 :: L) w := s
            refine ⟨_, rfl, ?_⟩; clear ha; intro a ha
            refine st_val (.slice A13 ((out (byKey d.w.key d.w.holder) l).length) c14) ha (by kernel_rfl) (by kernel_rfl) ?_
            clear ha; intro a ha
            refine st_val (.slice A15 ((out (byKey d.w.key d.w.holder) l).length) c16) ha (by kernel_rfl) (by kernel_rfl) ?_
            clear ha; intro a ha
            refine wpList_nil ?_
            refine then_normal ?_
            refine wp_seq ?_
            refine wp_seq ?_
            refine wp_region_lit ?_
            refine st_val (.slice A13 ((out (byKey d.w.key d.w.holder) l).length) c14) ha (by kernel_rfl) (by kernel_rfl) ?_
            clear ha; intro a ha
            refine st_val (.slice A15 ((out (byKey d.w.key d.w.holder) l).length) c16) ha (by kernel_rfl) (by kernel_rfl) ?_
            clear ha; intro a ha
            have hol_ : (out (byKey d.w.key d.w.holder) l).length ≤ 64 := Nat.le_trans (out_le _ _) (ok).2
            refine st_call ha (by kernel_rfl) (by kernel_rfl) (like_is W _ w A13 A15 _ _ c14 c16 (out (byKey d.w.key d.w.holder) l) (Knows.own (j := 2) rfl) (Knows.own (j := 0) rfl) rfl rfl (by omega) s) ?_
            rintro _ w ⟨rfl, s⟩
            replace s : St W (Own 34 4 A15 ((out (byKey d.w.key d.w.holder) l).length) c16 (ws (out (byKey d.w.key d.w.holder) l)) :: RLob g2 (left (byKey d.w.key d.w.holder) l) :: Own 28 4 A13 ((out (byKey d.w.key d.w.holder) l).length) c14 (ws (out (byKey d.w.key d.w.holder) l)) :: Lob g1 (left (byKey d.w.key d.w.holder) l) :: .blk g3 [.int .i64 d.w.num, .string (str d.w.key), .int .i64 d.w.waiter, .int .i64 d.w.holder] 28 :: L) w := s
            refine ⟨_, rfl, ?_⟩; clear ha; intro a ha
            refine st_val (.bool false) ha (by kernel_rfl) (by kernel_rfl) ?_
            clear ha; intro a ha
            refine wpList_nil ?_
            refine then_normal ?_
            refine wp_false ha rfl (by kernel_rfl) ?_
            refine wp_skip ?_
            refine then_normal ?_
            refine wp_seq ?_
            refine wp_seq ?_
            refine wp_region_head 15 (fun w => Reads w 5 (some ad) n (deeds ds) ∧ BlkIs g3 [.int .i64 d.w.num, .string (str d.w.key), .int .i64 d.w.waiter, .int .i64 d.w.holder] w ∧ True) (by kernel_rfl) (by decide) ?_
            replace s := s.drew; generalize _root_.Go.World.drew _ = w at s ⊢
            have hS : (fun w => Reads w 5 (some ad) n (deeds ds) ∧ BlkIs g3 [.int .i64 d.w.num, .string (str d.w.key), .int .i64 d.w.waiter, .int .i64 d.w.holder] w ∧ True) w := ⟨(hr _ s.sat.tail.tail.tail.tail.tail), s.blkIs 4 rfl, trivial⟩
            refine hd_val (i := 0) (.slice (some ad) n c) ha rfl (by kernel_rfl) (fun _ _ _ h => h) (by kernel_rfl) (fun w hS => (by kernel_rfl)) hS ?_
            clear ha; intro a ha
            refine hd_val (i := 1) (.int .i64 ((k : Nat) : Int)) ha rfl (by kernel_rfl) (fun _ _ _ h => h) (by kernel_rfl) (fun w hS => (by kernel_rfl)) hS ?_
            clear ha; intro a ha
            refine hd_val (i := 2) (.pointer (some (ad.add (k * 5)))) ha rfl (by kernel_rfl) (fun _ _ _ h => h) (by kernel_rfl) (fun w hS => (run_indexAddr' (kd := .i64) (i := ((k : Nat) : Int)) (n := n) (c := c) k rfl Try.underlying22 Try.sizeOf30 (by kernel_rfl) (by kernel_rfl) rfl (by first | assumption | omega) _)) hS ?_
            clear ha; intro a ha
            refine hd_val (i := 3) (.pointer (some (ad.add (k * 5 + 0)))) ha rfl (by kernel_rfl) (fun _ _ _ h => h) (by kernel_rfl) (fun w hS => (run_fieldAddr_at (i := k * 5) (off := 0) rfl Try.underlying30 rfl Try.sizeOf3 (by kernel_rfl) _)) hS ?_
            clear ha; intro a ha
            refine hd_val (i := 4) (.int .i64 d.k) ha rfl (by kernel_rfl) (fun _ _ _ h => h) (by kernel_rfl) (fun w hS => run_loadAt1 (i := k * 5 + 0) hS.1 rfl (by kernel_rfl) Try.isAgg3 (by rw [deeds_at hdd (by omega)]; rfl)) hS ?_
            clear ha; intro a ha
            refine hd_call (i := 5) ha rfl (by kernel_rfl) (by kernel_rfl) (by kernel_rfl) (bring_pos W _ w d.k 8 (by omega) (by omega) s) ?_
            clear hS; rintro _ w ⟨rfl, s⟩
            replace s : St W (Own 34 4 A15 ((out (byKey d.w.key d.w.holder) l).length) c16 (ws (out (byKey d.w.key d.w.holder) l)) :: RLob g2 (left (byKey d.w.key d.w.holder) l) :: Own 28 4 A13 ((out (byKey d.w.key d.w.holder) l).length) c14 (ws (out (byKey d.w.key d.w.holder) l)) :: Lob g1 (left (byKey d.w.key d.w.holder) l) :: .blk g3 [.int .i64 d.w.num, .string (str d.w.key), .int .i64 d.w.waiter, .int .i64 d.w.holder] 28 :: L) w := s
            have hS : (fun w => Reads w 5 (some ad) n (deeds ds) ∧ BlkIs g3 [.int .i64 d.w.num, .string (str d.w.key), .int .i64 d.w.waiter, .int .i64 d.w.holder] w ∧ True) w := ⟨(hr _ s.sat.tail.tail.tail.tail.tail), s.blkIs 4 rfl, trivial⟩
            refine ⟨_, rfl, hS, ?_⟩; clear ha; intro a ha
            refine hd_val (i := 6) (.bool ((d.k % 8) == (6 : Int))) ha rfl (by kernel_rfl) (fun _ _ _ h => h) (by kernel_rfl) (fun w hS => (by kernel_rfl)) hS ?_
            clear ha; intro a ha
            refine hd_val (i := 7) (.bool ((d.k % 8) == (6 : Int))) ha rfl (by kernel_rfl) (fun _ _ _ h => h) (by kernel_rfl) (fun w hS => (by kernel_rfl)) hS ?_
            clear ha; intro a ha
            rcases Bool.eq_false_or_eq_true ((d.k % 8) == (6 : Int)) with hb | hb
            · rw [hb] at ha; have hb_ := hb; replace hb := eq_of_beq hb
              refine hd_val (i := 8) (.pointer (some ⟨g1, 0, none⟩)) ha rfl (by kernel_rfl) (fun _ _ _ h => h) (by kernel_rfl) (fun w hS => (by kernel_rfl)) hS ?_
              clear ha; intro a ha
              refine hd_val (i := 9) (.pointer (some ⟨g3, 3, none⟩)) ha rfl (by kernel_rfl) (fun _ _ _ h => h) (by kernel_rfl) (fun w hS => (by kernel_rfl)) hS ?_
              clear ha; intro a ha
              refine hd_val (i := 10) (.int .i64 d.w.holder) ha rfl (by kernel_rfl) (fun _ _ _ h => h) (by kernel_rfl) (fun w hS => run_load1 (of_ := 3) hS.2.1 rfl (by kernel_rfl) Try.isAgg3 rfl) hS ?_
              clear ha; intro a ha
              refine hd_val (i := 12) (.pointer (some ⟨g2, 0, none⟩)) ha rfl (by kernel_rfl) (fun _ _ _ h => h) (by kernel_rfl) (fun w hS => (by kernel_rfl)) hS ?_
              clear ha; intro a ha
              refine hd_val (i := 13) (.pointer (some ⟨g3, 3, none⟩)) ha rfl (by kernel_rfl) (fun _ _ _ h => h) (by kernel_rfl) (fun w hS => (by kernel_rfl)) hS ?_
              clear ha; intro a ha
              refine hd_val (i := 14) (.int .i64 d.w.holder) ha rfl (by kernel_rfl) (fun _ _ _ h => h) (by kernel_rfl) (fun w hS => run_load1 (of_ := 3) hS.2.1 rfl (by kernel_rfl) Try.isAgg3 rfl) hS ?_
              clear ha; intro a ha
              replace s := s.at_ (j := 3) rfl
              replace s : St W (Lob g1 (left (byKey d.w.key d.w.holder) l) :: Own 34 4 A15 ((out (byKey d.w.key d.w.holder) l).length) c16 (ws (out (byKey d.w.key d.w.holder) l)) :: RLob g2 (left (byKey d.w.key d.w.holder) l) :: Own 28 4 A13 ((out (byKey d.w.key d.w.holder) l).length) c14 (ws (out (byKey d.w.key d.w.holder) l)) :: .blk g3 [.int .i64 d.w.num, .string (str d.w.key), .int .i64 d.w.waiter, .int .i64 d.w.holder] 28 :: L) w := s
              refine hd_call (i := 11) ha rfl (by kernel_rfl) (by kernel_rfl) (by kernel_rfl) (free_lob W _ w g1 (left (byKey d.w.key d.w.holder) l) d.w.holder (ok.left (byKey d.w.key d.w.holder)) s) ?_
              clear hS; rintro _ w ⟨A18, c19, rfl, s⟩
              replace s : St W (Own 28 4 A18 ((out (byHolder d.w.holder) (left (byKey d.w.key d.w.holder) l)).length) c19 (ws (out (byHolder d.w.holder) (left (byKey d.w.key d.w.holder) l))) :: Lob g1 (left (byHolder d.w.holder) (left (byKey d.w.key d.w.holder) l)) :: Own 34 4 A15 ((out (byKey d.w.key d.w.holder) l).length) c16 (ws (out (byKey d.w.key d.w.holder) l)) :: RLob g2 (left (byKey d.w.key d.w.holder) l) :: Own 28 4 A13 ((out (byKey d.w.key d.w.holder) l).length) c14 (ws (out (byKey d.w.key d.w.holder) l)) :: .blk g3 [.int .i64 d.w.num, .string (str d.w.key), .int .i64 d.w.waiter, .int .i64 d.w.holder] 28 :: L) w := s
              have hS : (fun w => Reads w 5 (some ad) n (deeds ds) ∧ BlkIs g3 [.int .i64 d.w.num, .string (str d.w.key), .int .i64 d.w.waiter, .int .i64 d.w.holder] w ∧ True) w := ⟨(hr _ s.sat.tail.tail.tail.tail.tail.tail), s.blkIs 5 rfl, trivial⟩
              refine ⟨_, rfl, hS, ?_⟩; clear ha; intro a ha
              refine Head.done (by kernel_rfl) ?_
              clear hS; simp only [List.drop_succ_cons, List.drop_zero]
              replace s := s.at_ (j := 3) rfl
              replace s : St W (RLob g2 (left (byKey d.w.key d.w.holder) l) :: Own 28 4 A18 ((out (byHolder d.w.holder) (left (byKey d.w.key d.w.holder) l)).length) c19 (ws (out (byHolder d.w.holder) (left (byKey d.w.key d.w.holder) l))) :: Lob g1 (left (byHolder d.w.holder) (left (byKey d.w.key d.w.holder) l)) :: Own 34 4 A15 ((out (byKey d.w.key d.w.holder) l).length) c16 (ws (out (byKey d.w.key d.w.holder) l)) :: Own 28 4 A13 ((out (byKey d.w.key d.w.holder) l).length) c14 (ws (out (byKey d.w.key d.w.holder) l)) :: .blk g3 [.int .i64 d.w.num, .string (str d.w.key), .int .i64 d.w.waiter, .int .i64 d.w.holder] 28 :: L) w := s
              refine st_call ha (by kernel_rfl) (by kernel_rfl) (rfree_lob W _ w g2 (left (byKey d.w.key d.w.holder) l) d.w.holder (ok.left (byKey d.w.key d.w.holder)) s) ?_
              rintro _ w ⟨A20, c21, rfl, s⟩
              replace s : St W (Own 34 4 A20 ((out (byHolder d.w.holder) (left (byKey d.w.key d.w.holder) l)).length) c21 (ws (out (byHolder d.w.holder) (left (byKey d.w.key d.w.holder) l))) :: RLob g2 (left (byHolder d.w.holder) (left (byKey d.w.key d.w.holder) l)) :: Own 28 4 A18 ((out (byHolder d.w.holder) (left (byKey d.w.key d.w.holder) l)).length) c19 (ws (out (byHolder d.w.holder) (left (byKey d.w.key d.w.holder) l))) :: Lob g1 (left (byHolder d.w.holder) (left (byKey d.w.key d.w.holder) l)) :: Own 34 4 A15 ((out (byKey d.w.key d.w.holder) l).length) c16 (ws (out (byKey d.w.key d.w.holder) l)) :: Own 28 4 A13 ((out (byKey d.w.key d.w.holder) l).length) c14 (ws (out (byKey d.w.key d.w.holder) l)) :: .blk g3 [.int .i64 d.w.num, .string (str d.w.key), .int .i64 d.w.waiter, .int .i64 d.w.holder] 28 :: L) w := s
              refine ⟨_, rfl, ?_⟩; clear ha; intro a ha
              have hol_ : (out (byHolder d.w.holder) (left (byKey d.w.key d.w.holder) l)).length ≤ 64 := Nat.le_trans (out_le _ _) ((ok.left (byKey d.w.key d.w.holder))).2
              refine st_call ha (by kernel_rfl) (by kernel_rfl) (like_is W _ w A18 A20 _ _ c19 c21 (out (byHolder d.w.holder) (left (byKey d.w.key d.w.holder) l)) (Knows.own (j := 2) rfl) (Knows.own (j := 0) rfl) rfl rfl (by omega) s) ?_
              rintro _ w ⟨rfl, s⟩
              replace s : St W (Own 34 4 A20 ((out (byHolder d.w.holder) (left (byKey d.w.key d.w.holder) l)).length) c21 (ws (out (byHolder d.w.holder) (left (byKey d.w.key d.w.holder) l))) :: RLob g2 (left (byHolder d.w.holder) (left (byKey d.w.key d.w.holder) l)) :: Own 28 4 A18 ((out (byHolder d.w.holder) (left (byKey d.w.key d.w.holder) l)).length) c19 (ws (out (byHolder d.w.holder) (left (byKey d.w.key d.w.holder) l))) :: Lob g1 (left (byHolder d.w.holder) (left (byKey d.w.key d.w.holder) l)) :: Own 34 4 A15 ((out (byKey d.w.key d.w.holder) l).length) c16 (ws (out (byKey d.w.key d.w.holder) l)) :: Own 28 4 A13 ((out (byKey d.w.key d.w.holder) l).length) c14 (ws (out (byKey d.w.key d.w.holder) l)) :: .blk g3 [.int .i64 d.w.num, .string (str d.w.key), .int .i64 d.w.waiter, .int .i64 d.w.holder] 28 :: L) w := s
              refine ⟨_, rfl, ?_⟩; clear ha; intro a ha
              refine st_val (.bool false) ha (by kernel_rfl) (by kernel_rfl) ?_
              clear ha; intro a ha
              refine st_val (.bool false) ha (by kernel_rfl) (by kernel_rfl) ?_
              clear ha; intro a ha
              refine wpList_nil ?_
              refine then_normal ?_
              refine wp_false ha rfl (by kernel_rfl) ?_
              refine wp_skip ?_
              refine then_normal ?_
              refine wp_seq ?_
              refine wp_region_lit ?_
              refine st_val (.int .i64 0) ha (by kernel_rfl) (by kernel_rfl) ?_
              clear ha; intro a ha
              refine wpList_nil ?_
              refine then_normal ?_
              refine wp_block ?_
              replace s := s.at_ (j := 1) rfl
              replace s : St W (RLob g2 (left (byHolder d.w.holder) (left (byKey d.w.key d.w.holder) l)) :: Own 34 4 A20 ((out (byHolder d.w.holder) (left (byKey d.w.key d.w.holder) l)).length) c21 (ws (out (byHolder d.w.holder) (left (byKey d.w.key d.w.holder) l))) :: Own 28 4 A18 ((out (byHolder d.w.holder) (left (byKey d.w.key d.w.holder) l)).length) c19 (ws (out (byHolder d.w.holder) (left (byKey d.w.key d.w.holder) l))) :: Lob g1 (left (byHolder d.w.holder) (left (byKey d.w.key d.w.holder) l)) :: Own 34 4 A15 ((out (byKey d.w.key d.w.holder) l).length) c16 (ws (out (byKey d.w.key d.w.holder) l)) :: Own 28 4 A13 ((out (byKey d.w.key d.w.holder) l).length) c14 (ws (out (byKey d.w.key d.w.holder) l)) :: .blk g3 [.int .i64 d.w.num, .string (str d.w.key), .int .i64 d.w.waiter, .int .i64 d.w.holder] 28 :: L) w := s
              replace s := s.at_ (j := 3) rfl
              replace s : St W (Lob g1 (left (byHolder d.w.holder) (left (byKey d.w.key d.w.holder) l)) :: RLob g2 (left (byHolder d.w.holder) (left (byKey d.w.key d.w.holder) l)) :: Own 34 4 A20 ((out (byHolder d.w.holder) (left (byKey d.w.key d.w.holder) l)).length) c21 (ws (out (byHolder d.w.holder) (left (byKey d.w.key d.w.holder) l))) :: Own 28 4 A18 ((out (byHolder d.w.holder) (left (byKey d.w.key d.w.holder) l)).length) c19 (ws (out (byHolder d.w.holder) (left (byKey d.w.key d.w.holder) l))) :: Own 34 4 A15 ((out (byKey d.w.key d.w.holder) l).length) c16 (ws (out (byKey d.w.key d.w.holder) l)) :: Own 28 4 A13 ((out (byKey d.w.key d.w.holder) l).length) c14 (ws (out (byKey d.w.key d.w.holder) l)) :: .blk g3 [.int .i64 d.w.num, .string (str d.w.key), .int .i64 d.w.waiter, .int .i64 d.w.holder] 28 :: L) w := s
              replace s := s.at_ (j := 5) rfl
              replace s : St W (Own 28 4 A13 ((out (byKey d.w.key d.w.holder) l).length) c14 (ws (out (byKey d.w.key d.w.holder) l)) :: Lob g1 (left (byHolder d.w.holder) (left (byKey d.w.key d.w.holder) l)) :: RLob g2 (left (byHolder d.w.holder) (left (byKey d.w.key d.w.holder) l)) :: Own 34 4 A20 ((out (byHolder d.w.holder) (left (byKey d.w.key d.w.holder) l)).length) c21 (ws (out (byHolder d.w.holder) (left (byKey d.w.key d.w.holder) l))) :: Own 28 4 A18 ((out (byHolder d.w.holder) (left (byKey d.w.key d.w.holder) l)).length) c19 (ws (out (byHolder d.w.holder) (left (byKey d.w.key d.w.holder) l))) :: Own 34 4 A15 ((out (byKey d.w.key d.w.holder) l).length) c16 (ws (out (byKey d.w.key d.w.holder) l)) :: .blk g3 [.int .i64 d.w.num, .string (str d.w.key), .int .i64 d.w.waiter, .int .i64 d.w.holder] 28 :: L) w := s
              replace s : St W (Own 28 4 A13 ((out (byKey d.w.key d.w.holder) l).length) c14 (ws (out (byKey d.w.key d.w.holder) l)) :: Lob g1 (left (byHolder d.w.holder) (left (byKey d.w.key d.w.holder) l)) :: RLob g2 (left (byHolder d.w.holder) (left (byKey d.w.key d.w.holder) l)) :: L) w := St.mid (A := [Own 28 4 A13 ((out (byKey d.w.key d.w.holder) l).length) c14 (ws (out (byKey d.w.key d.w.holder) l)), Lob g1 (left (byHolder d.w.holder) (left (byKey d.w.key d.w.holder) l)), RLob g2 (left (byHolder d.w.holder) (left (byKey d.w.key d.w.holder) l))]) (B := [Own 34 4 A20 ((out (byHolder d.w.holder) (left (byKey d.w.key d.w.holder) l)).length) c21 (ws (out (byHolder d.w.holder) (left (byKey d.w.key d.w.holder) l))), Own 28 4 A18 ((out (byHolder d.w.holder) (left (byKey d.w.key d.w.holder) l)).length) c19 (ws (out (byHolder d.w.holder) (left (byKey d.w.key d.w.holder) l))), Own 34 4 A15 ((out (byKey d.w.key d.w.holder) l).length) c16 (ws (out (byKey d.w.key d.w.holder) l)), .blk g3 [.int .i64 d.w.num, .string (str d.w.key), .int .i64 d.w.waiter, .int .i64 d.w.holder] 28]) s
              refine wp_loopG (G := (Nat × List Value)) (fun ⟨m, X⟩ a w => Has a 150 [(0, .slice (some ad) n c), (3, .pointer (some ⟨g1, 0, none⟩)), (4, .pointer (some ⟨g2, 0, none⟩)), (5, .int .i64 ((k : Nat) : Int)), (11, .slice A13 ((out (byKey d.w.key d.w.holder) l).length) c14), (13, .int .i64 ((m : Nat) : Int))] ∧ St W (Own 28 4 A13 ((out (byKey d.w.key d.w.holder) l).length) c14 X :: Lob g1 (left (byHolder d.w.holder) (left (byKey d.w.key d.w.holder) l)) :: RLob g2 (left (byHolder d.w.holder) (left (byKey d.w.key d.w.holder) l)) :: L) w ∧ (m ≤ (out (byKey d.w.key d.w.holder) l).length)) (fun ⟨m, X⟩ => (out (byKey d.w.key d.w.holder) l).length - m) (0, ws (out (byKey d.w.key d.w.holder) l)) ?_ ?_
              · exact ⟨(Has.cons ha (by kernel_rfl) (by kernel_rfl) (Has.cons ha (by kernel_rfl) (by kernel_rfl) (Has.cons ha (by kernel_rfl) (by kernel_rfl) (Has.cons ha (by kernel_rfl) (by kernel_rfl) (Has.cons ha (by kernel_rfl) (by kernel_rfl) (Has.cons ha (by kernel_rfl) (by kernel_rfl) (Has.nil ha))))))), s, Nat.zero_le _⟩
              · clear ha s; rintro ⟨m, X⟩ a w ⟨ha, s, hp⟩
                refine wp_seq ?_
                refine wp_seq ?_
                refine wp_region_lit ?_
                refine st_val (.int .i64 ((m : Nat) : Int)) ha (by kernel_rfl) (by kernel_rfl) ?_
                clear ha; intro a ha
                refine st_val (.slice A13 ((out (byKey d.w.key d.w.holder) l).length) c14) ha (by kernel_rfl) (by kernel_rfl) ?_
                clear ha; intro a ha
                refine st_val (.int .i64 (((out (byKey d.w.key d.w.holder) l).length : Nat) : Int)) ha (by kernel_rfl) (by kernel_rfl) ?_
                clear ha; intro a ha
                refine st_val (.bool (decide (((m : Nat) : Int) < (((out (byKey d.w.key d.w.holder) l).length : Nat) : Int)))) ha (by kernel_rfl) (by kernel_rfl) ?_
                clear ha; intro a ha
                refine wpList_nil ?_
                refine then_normal ?_
                refine wp_part (decide (((m : Nat) : Int) < (((out (byKey d.w.key d.w.holder) l).length : Nat) : Int))) ha rfl (by kernel_rfl) (fun hb => ?_) (fun hb => ?_)
                · rw [hb] at ha; replace hb : (((m : Nat) : Int) < (((out (byKey d.w.key d.w.holder) l).length : Nat) : Int)) := of_decide_eq_true hb
                  obtain ⟨ax22, hX⟩ := Own.addr (s.at_ (j := 0) rfl) (by omega)
                  subst hX
                  have hXl := (Own.facts (s.at_ (j := 0) rfl).1).1
                  refine wp_skip ?_
                  refine then_normal ?_
                  refine wp_seq ?_
                  refine wp_block ?_
                  refine wp_region_lit ?_
                  refine st_val (.slice (some ax22) ((out (byKey d.w.key d.w.holder) l).length) c14) ha (by kernel_rfl) (by kernel_rfl) ?_
                  clear ha; intro a ha
                  refine st_val (.int .i64 ((m : Nat) : Int)) ha (by kernel_rfl) (by kernel_rfl) ?_
                  clear ha; intro a ha
                  refine st_val (.pointer (some (ax22.add (m * 4)))) ha (by kernel_rfl) (run_indexAddr' (kd := .i64) (i := ((m : Nat) : Int)) (n := ((out (byKey d.w.key d.w.holder) l).length)) (c := c14) m rfl Try.underlying37 Try.sizeOf28 (by kernel_rfl) (by kernel_rfl) rfl (by first | assumption | omega) _) ?_
                  clear ha; intro a ha
                  refine st_val (.pointer (some (ax22.add (m * 4 + 0)))) ha (by kernel_rfl) (run_fieldAddr_at (i := m * 4) (off := 0) rfl Try.underlying28 rfl Try.sizeOf3 (by kernel_rfl) _) ?_
                  clear ha; intro a ha
                  refine st_exd ha (by kernel_rfl) (ex_store_own (i := m * 4 + 0) 0 [.int .i64 (-1)] s rfl rfl rfl (by kernel_rfl) (by kernel_rfl) (Try.sizeOf3 _) rfl (by simp [Value.oneCell']) (by simp) (by rw [hXl]; simp only [List.length_cons, List.length_nil]; omega)) ?_
                  clear ha; rintro w a s ha
                  replace s : St W (Own 28 4 (some ax22) ((out (byKey d.w.key d.w.holder) l).length) c14 (putAt X (m * 4 + 0) [.int .i64 (-1)]) :: Lob g1 (left (byHolder d.w.holder) (left (byKey d.w.key d.w.holder) l)) :: RLob g2 (left (byHolder d.w.holder) (left (byKey d.w.key d.w.holder) l)) :: L) w := s
                  refine wpList_nil ?_
                  refine block_normal ?_
                  refine then_normal ?_
                  refine wp_region_lit ?_
                  refine st_val (.int .i64 ((m : Nat) : Int)) ha (by kernel_rfl) (by kernel_rfl) ?_
                  clear ha; intro a ha
                  refine st_val (.int .i64 ((m + 1 : Nat) : Int)) ha (by kernel_rfl) (run_arith (((m : Nat) : Int) + (1 : Int)) ((m + 1 : Nat) : Int) rfl (by kernel_rfl) (by kernel_rfl) (.inl ⟨rfl, rfl⟩) (by rw [wrap64_in (by omega)]; try omega) _) ?_
                  clear ha; intro a ha
                  refine st_val (.int .i64 ((m + 1 : Nat) : Int)) ha (by kernel_rfl) (by kernel_rfl) ?_
                  clear ha; intro a ha
                  refine wpList_nil ?_
                  refine then_normal ?_
                  exact ⟨(m + 1, putAt X (m * 4 + 0) [.int .i64 (-1)]), (show (out (byKey d.w.key d.w.holder) l).length - (m + 1) < (out (byKey d.w.key d.w.holder) l).length - m by omega), (Has.cons ha (by kernel_rfl) (by kernel_rfl) (Has.cons ha (by kernel_rfl) (by kernel_rfl) (Has.cons ha (by kernel_rfl) (by kernel_rfl) (Has.cons ha (by kernel_rfl) (by kernel_rfl) (Has.cons ha (by kernel_rfl) (by kernel_rfl) (Has.cons ha (by kernel_rfl) (by kernel_rfl) (Has.nil ha))))))), s, (show m + 1 ≤ (out (byKey d.w.key d.w.holder) l).length by omega)⟩
                · rw [hb] at ha; replace hb : ¬ (((m : Nat) : Int) < (((out (byKey d.w.key d.w.holder) l).length : Nat) : Int)) := of_decide_eq_false hb
                  refine wp_exit ?_
                  refine then_exit ?_
                  refine then_exit ?_
                  refine block_hit ?_
                  refine block_normal ?_
                  refine then_normal ?_
                  refine wp_seq ?_
                  refine wp_region_lit ?_
                  refine st_val (.pointer (some ⟨g1, 0, none⟩)) ha (by kernel_rfl) (by kernel_rfl) ?_
                  clear ha; intro a ha
                  replace s := s.at_ (j := 1) rfl
                  replace s : St W (Lob g1 (left (byHolder d.w.holder) (left (byKey d.w.key d.w.holder) l)) :: Own 28 4 A13 ((out (byKey d.w.key d.w.holder) l).length) c14 X :: RLob g2 (left (byHolder d.w.holder) (left (byKey d.w.key d.w.holder) l)) :: L) w := s
                  refine st_call ha (by kernel_rfl) (by kernel_rfl) (edges_lob W hW _ w g1 (left (byHolder d.w.holder) (left (byKey d.w.key d.w.holder) l)) ((ok.left (byKey d.w.key d.w.holder)).left (byHolder d.w.holder)) s) ?_
                  rintro _ w ⟨A23, c24, d25, rfl, hd25, s⟩
                  have hd25l := hd25.len_le
                  have hfl_ := (((ok.left (byKey d.w.key d.w.holder)).left (byHolder d.w.holder))).2
                  replace s : St W (Own 51 2 A23 d25.length c24 (pcs d25) :: Lob g1 (left (byHolder d.w.holder) (left (byKey d.w.key d.w.holder) l)) :: Own 28 4 A13 ((out (byKey d.w.key d.w.holder) l).length) c14 X :: RLob g2 (left (byHolder d.w.holder) (left (byKey d.w.key d.w.holder) l)) :: L) w := s
                  refine ⟨_, rfl, ?_⟩; clear ha; intro a ha
                  refine st_val (.slice A23 d25.length c24) ha (by kernel_rfl) (by kernel_rfl) ?_
                  clear ha; intro a ha
                  refine wpList_nil ?_
                  refine then_normal ?_
                  refine wp_seq ?_
                  refine wp_seq ?_
                  refine wp_region_lit ?_
                  refine st_val (.slice A23 d25.length c24) ha (by kernel_rfl) (by kernel_rfl) ?_
                  clear ha; intro a ha
                  refine st_val (.pointer (some ⟨g2, 0, none⟩)) ha (by kernel_rfl) (by kernel_rfl) ?_
                  clear ha; intro a ha
                  replace s := s.at_ (j := 3) rfl
                  replace s : St W (RLob g2 (left (byHolder d.w.holder) (left (byKey d.w.key d.w.holder) l)) :: Own 51 2 A23 d25.length c24 (pcs d25) :: Lob g1 (left (byHolder d.w.holder) (left (byKey d.w.key d.w.holder) l)) :: Own 28 4 A13 ((out (byKey d.w.key d.w.holder) l).length) c14 X :: L) w := s
                  refine st_call ha (by kernel_rfl) (by kernel_rfl) (redges_is W _ w g2 (left (byHolder d.w.holder) (left (byKey d.w.key d.w.holder) l)) d25 hd25 ((ok.left (byKey d.w.key d.w.holder)).left (byHolder d.w.holder)) s) ?_
                  rintro _ w ⟨A26, c27, rfl, s⟩
                  replace s : St W (Own 51 2 A26 d25.length c27 (pcs d25) :: RLob g2 (left (byHolder d.w.holder) (left (byKey d.w.key d.w.holder) l)) :: Own 51 2 A23 d25.length c24 (pcs d25) :: Lob g1 (left (byHolder d.w.holder) (left (byKey d.w.key d.w.holder) l)) :: Own 28 4 A13 ((out (byKey d.w.key d.w.holder) l).length) c14 X :: L) w := s
                  refine ⟨_, rfl, ?_⟩; clear ha; intro a ha
                  refine st_call ha (by kernel_rfl) (by kernel_rfl) (same_self W _ w A23 A26 d25.length d25.length c24 c27 d25 (Knows.own (j := 2) rfl) (Knows.own (j := 0) rfl) rfl rfl (by omega) s) ?_
                  rintro _ w ⟨rfl, s⟩
                  replace s : St W (Own 51 2 A26 d25.length c27 (pcs d25) :: RLob g2 (left (byHolder d.w.holder) (left (byKey d.w.key d.w.holder) l)) :: Own 51 2 A23 d25.length c24 (pcs d25) :: Lob g1 (left (byHolder d.w.holder) (left (byKey d.w.key d.w.holder) l)) :: Own 28 4 A13 ((out (byKey d.w.key d.w.holder) l).length) c14 X :: L) w := s
                  refine ⟨_, rfl, ?_⟩; clear ha; intro a ha
                  refine st_val (.bool false) ha (by kernel_rfl) (by kernel_rfl) ?_
                  clear ha; intro a ha
                  refine st_val (.bool false) ha (by kernel_rfl) (by kernel_rfl) ?_
                  clear ha; intro a ha
                  refine st_val (.pointer (some ⟨g1, 0, none⟩)) ha (by kernel_rfl) (by kernel_rfl) ?_
                  clear ha; intro a ha
                  replace s := s.at_ (j := 3) rfl
                  replace s : St W (Lob g1 (left (byHolder d.w.holder) (left (byKey d.w.key d.w.holder) l)) :: Own 51 2 A26 d25.length c27 (pcs d25) :: RLob g2 (left (byHolder d.w.holder) (left (byKey d.w.key d.w.holder) l)) :: Own 51 2 A23 d25.length c24 (pcs d25) :: Own 28 4 A13 ((out (byKey d.w.key d.w.holder) l).length) c14 X :: L) w := s
                  refine st_call ha (by kernel_rfl) (by kernel_rfl) (len_lob W _ w g1 (left (byHolder d.w.holder) (left (byKey d.w.key d.w.holder) l)) ((ok.left (byKey d.w.key d.w.holder)).left (byHolder d.w.holder)) s) ?_
                  rintro _ w ⟨rfl, s⟩
                  replace s : St W (Lob g1 (left (byHolder d.w.holder) (left (byKey d.w.key d.w.holder) l)) :: Own 51 2 A26 d25.length c27 (pcs d25) :: RLob g2 (left (byHolder d.w.holder) (left (byKey d.w.key d.w.holder) l)) :: Own 51 2 A23 d25.length c24 (pcs d25) :: Own 28 4 A13 ((out (byKey d.w.key d.w.holder) l).length) c14 X :: L) w := s
                  refine ⟨_, rfl, ?_⟩; clear ha; intro a ha
                  refine st_val (.pointer (some ⟨g2, 0, none⟩)) ha (by kernel_rfl) (by kernel_rfl) ?_
                  clear ha; intro a ha
                  replace s := s.at_ (j := 2) rfl
                  replace s : St W (RLob g2 (left (byHolder d.w.holder) (left (byKey d.w.key d.w.holder) l)) :: Lob g1 (left (byHolder d.w.holder) (left (byKey d.w.key d.w.holder) l)) :: Own 51 2 A26 d25.length c27 (pcs d25) :: Own 51 2 A23 d25.length c24 (pcs d25) :: Own 28 4 A13 ((out (byKey d.w.key d.w.holder) l).length) c14 X :: L) w := s
                  refine st_call ha (by kernel_rfl) (by kernel_rfl) (rlen_lob W _ w g2 (left (byHolder d.w.holder) (left (byKey d.w.key d.w.holder) l)) ((ok.left (byKey d.w.key d.w.holder)).left (byHolder d.w.holder)) s) ?_
                  rintro _ w ⟨rfl, s⟩
                  replace s : St W (RLob g2 (left (byHolder d.w.holder) (left (byKey d.w.key d.w.holder) l)) :: Lob g1 (left (byHolder d.w.holder) (left (byKey d.w.key d.w.holder) l)) :: Own 51 2 A26 d25.length c27 (pcs d25) :: Own 51 2 A23 d25.length c24 (pcs d25) :: Own 28 4 A13 ((out (byKey d.w.key d.w.holder) l).length) c14 X :: L) w := s
                  refine ⟨_, rfl, ?_⟩; clear ha; intro a ha
                  refine st_val (.bool false) ha (by kernel_rfl) (run_known (bne_self_eq_false _) (show (execOp (evalE _) _).run _ _ = .ok (.value (.bool ((((left (byHolder d.w.holder) (left (byKey d.w.key d.w.holder) l)).length : Nat) : Int) != (((left (byHolder d.w.holder) (left (byKey d.w.key d.w.holder) l)).length : Nat) : Int)))) _ from by kernel_rfl)) ?_
                  clear ha; intro a ha
                  refine st_val (.bool false) ha (by kernel_rfl) (by kernel_rfl) ?_
                  clear ha; intro a ha
                  refine wpList_nil ?_
                  refine then_normal ?_
                  refine wp_false ha rfl (by kernel_rfl) ?_
                  refine wp_skip ?_
                  refine then_normal ?_
                  refine wp_seq ?_
                  refine wp_region_lit ?_
                  refine st_val (.int .i64 0) ha (by kernel_rfl) (by kernel_rfl) ?_
                  clear ha; intro a ha
                  refine wpList_nil ?_
                  refine then_normal ?_
                  refine wp_block ?_
                  replace s := s.at_ (j := 1) rfl
                  replace s : St W (Lob g1 (left (byHolder d.w.holder) (left (byKey d.w.key d.w.holder) l)) :: RLob g2 (left (byHolder d.w.holder) (left (byKey d.w.key d.w.holder) l)) :: Own 51 2 A26 d25.length c27 (pcs d25) :: Own 51 2 A23 d25.length c24 (pcs d25) :: Own 28 4 A13 ((out (byKey d.w.key d.w.holder) l).length) c14 X :: L) w := s
                  replace s := s.at_ (j := 3) rfl
                  replace s : St W (Own 51 2 A23 d25.length c24 (pcs d25) :: Lob g1 (left (byHolder d.w.holder) (left (byKey d.w.key d.w.holder) l)) :: RLob g2 (left (byHolder d.w.holder) (left (byKey d.w.key d.w.holder) l)) :: Own 51 2 A26 d25.length c27 (pcs d25) :: Own 28 4 A13 ((out (byKey d.w.key d.w.holder) l).length) c14 X :: L) w := s
                  replace s : St W (Own 51 2 A23 d25.length c24 (pcs d25) :: Lob g1 (left (byHolder d.w.holder) (left (byKey d.w.key d.w.holder) l)) :: RLob g2 (left (byHolder d.w.holder) (left (byKey d.w.key d.w.holder) l)) :: L) w := St.mid (A := [Own 51 2 A23 d25.length c24 (pcs d25), Lob g1 (left (byHolder d.w.holder) (left (byKey d.w.key d.w.holder) l)), RLob g2 (left (byHolder d.w.holder) (left (byKey d.w.key d.w.holder) l))]) (B := [Own 51 2 A26 d25.length c27 (pcs d25), Own 28 4 A13 ((out (byKey d.w.key d.w.holder) l).length) c14 X]) s
                  refine wp_loopG (G := (Nat × List Value)) (fun ⟨m, X⟩ a w => Has a 150 [(0, .slice (some ad) n c), (3, .pointer (some ⟨g1, 0, none⟩)), (4, .pointer (some ⟨g2, 0, none⟩)), (5, .int .i64 ((k : Nat) : Int)), (14, .slice A23 d25.length c24), (15, .int .i64 ((m : Nat) : Int))] ∧ St W (Own 51 2 A23 d25.length c24 X :: Lob g1 (left (byHolder d.w.holder) (left (byKey d.w.key d.w.holder) l)) :: RLob g2 (left (byHolder d.w.holder) (left (byKey d.w.key d.w.holder) l)) :: L) w ∧ (m ≤ d25.length)) (fun ⟨m, X⟩ => d25.length - m) (0, pcs d25) ?_ ?_
                  · exact ⟨(Has.cons ha (by kernel_rfl) (by kernel_rfl) (Has.cons ha (by kernel_rfl) (by kernel_rfl) (Has.cons ha (by kernel_rfl) (by kernel_rfl) (Has.cons ha (by kernel_rfl) (by kernel_rfl) (Has.cons ha (by kernel_rfl) (by kernel_rfl) (Has.cons ha (by kernel_rfl) (by kernel_rfl) (Has.nil ha))))))), s, Nat.zero_le _⟩
                  · clear ha s; rintro ⟨m, X⟩ a w ⟨ha, s, hp⟩
                    refine wp_seq ?_
                    refine wp_seq ?_
                    refine wp_region_lit ?_
                    refine st_val (.int .i64 ((m : Nat) : Int)) ha (by kernel_rfl) (by kernel_rfl) ?_
                    clear ha; intro a ha
                    refine st_val (.slice A23 d25.length c24) ha (by kernel_rfl) (by kernel_rfl) ?_
                    clear ha; intro a ha
                    refine st_val (.int .i64 ((d25.length : Nat) : Int)) ha (by kernel_rfl) (by kernel_rfl) ?_
                    clear ha; intro a ha
                    refine st_val (.bool (decide (((m : Nat) : Int) < ((d25.length : Nat) : Int)))) ha (by kernel_rfl) (by kernel_rfl) ?_
                    clear ha; intro a ha
                    refine wpList_nil ?_
                    refine then_normal ?_
                    refine wp_part (decide (((m : Nat) : Int) < ((d25.length : Nat) : Int))) ha rfl (by kernel_rfl) (fun hb => ?_) (fun hb => ?_)
                    · rw [hb] at ha; replace hb : (((m : Nat) : Int) < ((d25.length : Nat) : Int)) := of_decide_eq_true hb
                      obtain ⟨ax28, hX⟩ := Own.addr (s.at_ (j := 0) rfl) (by omega)
                      subst hX
                      have hXl := (Own.facts (s.at_ (j := 0) rfl).1).1
                      refine wp_skip ?_
                      refine then_normal ?_
                      refine wp_seq ?_
                      refine wp_block ?_
                      refine wp_region_lit ?_
                      refine st_val (.slice (some ax28) d25.length c24) ha (by kernel_rfl) (by kernel_rfl) ?_
                      clear ha; intro a ha
                      refine st_val (.int .i64 ((m : Nat) : Int)) ha (by kernel_rfl) (by kernel_rfl) ?_
                      clear ha; intro a ha
                      refine st_val (.agg #[.int .i64 0, .int .i64 0]) ha (by kernel_rfl) (by kernel_rfl) ?_
                      clear ha; intro a ha
                      refine st_val (.pointer (some (ax28.add (m * 2)))) ha (by kernel_rfl) (run_indexAddr' (kd := .i64) (i := ((m : Nat) : Int)) (n := d25.length) (c := c24) m rfl Try.underlying47 Try.sizeOf51 (by kernel_rfl) (by kernel_rfl) rfl (by first | assumption | omega) _) ?_
                      clear ha; intro a ha
                      refine st_exd ha (by kernel_rfl) (ex_store_own (i := m * 2) 0 [.int .i64 0, .int .i64 0] s rfl rfl rfl (by kernel_rfl) (by kernel_rfl) (Try.sizeOf51 _) rfl (by simp [Value.oneCell']) (by simp) (by rw [hXl]; simp only [List.length_cons, List.length_nil]; omega)) ?_
                      clear ha; rintro w a s ha
                      replace s : St W (Own 51 2 (some ax28) d25.length c24 (putAt X (m * 2) [.int .i64 0, .int .i64 0]) :: Lob g1 (left (byHolder d.w.holder) (left (byKey d.w.key d.w.holder) l)) :: RLob g2 (left (byHolder d.w.holder) (left (byKey d.w.key d.w.holder) l)) :: L) w := s
                      refine wpList_nil ?_
                      refine block_normal ?_
                      refine then_normal ?_
                      refine wp_region_lit ?_
                      refine st_val (.int .i64 ((m : Nat) : Int)) ha (by kernel_rfl) (by kernel_rfl) ?_
                      clear ha; intro a ha
                      refine st_val (.int .i64 ((m + 1 : Nat) : Int)) ha (by kernel_rfl) (run_arith (((m : Nat) : Int) + (1 : Int)) ((m + 1 : Nat) : Int) rfl (by kernel_rfl) (by kernel_rfl) (.inl ⟨rfl, rfl⟩) (by rw [wrap64_in (by omega)]; try omega) _) ?_
                      clear ha; intro a ha
                      refine st_val (.int .i64 ((m + 1 : Nat) : Int)) ha (by kernel_rfl) (by kernel_rfl) ?_
                      clear ha; intro a ha
                      refine wpList_nil ?_
                      refine then_normal ?_
                      exact ⟨(m + 1, putAt X (m * 2) [.int .i64 0, .int .i64 0]), (show d25.length - (m + 1) < d25.length - m by omega), (Has.cons ha (by kernel_rfl) (by kernel_rfl) (Has.cons ha (by kernel_rfl) (by kernel_rfl) (Has.cons ha (by kernel_rfl) (by kernel_rfl) (Has.cons ha (by kernel_rfl) (by kernel_rfl) (Has.cons ha (by kernel_rfl) (by kernel_rfl) (Has.cons ha (by kernel_rfl) (by kernel_rfl) (Has.nil ha))))))), s, (show m + 1 ≤ d25.length by omega)⟩
                    · rw [hb] at ha; replace hb : ¬ (((m : Nat) : Int) < ((d25.length : Nat) : Int)) := of_decide_eq_false hb
                      refine wp_exit ?_
                      refine then_exit ?_
                      refine then_exit ?_
                      refine block_hit ?_
                      refine block_normal ?_
                      refine then_normal ?_
                      refine wp_region_lit ?_
                      refine st_val (.int .i64 ((k : Nat) : Int)) ha (by kernel_rfl) (by kernel_rfl) ?_
                      clear ha; intro a ha
                      refine st_val (.int .i64 ((k + 1 : Nat) : Int)) ha (by kernel_rfl) (run_arith (((k : Nat) : Int) + (1 : Int)) ((k + 1 : Nat) : Int) rfl (by kernel_rfl) (by kernel_rfl) (.inl ⟨rfl, rfl⟩) (by rw [wrap64_in (by omega)]; try omega) _) ?_
                      clear ha; intro a ha
                      refine st_val (.int .i64 ((k + 1 : Nat) : Int)) ha (by kernel_rfl) (by kernel_rfl) ?_
                      clear ha; intro a ha
                      refine wpList_nil ?_
                      refine then_normal ?_
                      replace s := s.at_ (j := 2) rfl
                      replace s : St W (RLob g2 (left (byHolder d.w.holder) (left (byKey d.w.key d.w.holder) l)) :: Own 51 2 A23 d25.length c24 X :: Lob g1 (left (byHolder d.w.holder) (left (byKey d.w.key d.w.holder) l)) :: L) w := s
                      replace s := s.at_ (j := 2) rfl
                      replace s : St W (Lob g1 (left (byHolder d.w.holder) (left (byKey d.w.key d.w.holder) l)) :: RLob g2 (left (byHolder d.w.holder) (left (byKey d.w.key d.w.holder) l)) :: Own 51 2 A23 d25.length c24 X :: L) w := s
                      replace s : St W (Lob g1 (left (byHolder d.w.holder) (left (byKey d.w.key d.w.holder) l)) :: RLob g2 (left (byHolder d.w.holder) (left (byKey d.w.key d.w.holder) l)) :: L) w := St.mid (A := [Lob g1 (left (byHolder d.w.holder) (left (byKey d.w.key d.w.holder) l)), RLob g2 (left (byHolder d.w.holder) (left (byKey d.w.key d.w.holder) l))]) (B := [Own 51 2 A23 d25.length c24 X]) s
                      exact ⟨(k + 1, left (byHolder d.w.holder) (left (byKey d.w.key d.w.holder) l)), (show 200 - (k + 1) < 200 - k by omega), (Has.cons ha (by kernel_rfl) (by kernel_rfl) (Has.cons ha (by kernel_rfl) (by kernel_rfl) (Has.cons ha (by kernel_rfl) (by kernel_rfl) (Has.cons ha (by kernel_rfl) (by kernel_rfl) (Has.nil ha))))), s, (show k + 1 ≤ 200 by omega), ((ok.left (byKey d.w.key d.w.holder)).left (byHolder d.w.holder))⟩
            · rw [hb] at ha; have hb_ := hb; replace hb := ne_of_beq_false hb
              refine hd_pass (i := 8) ha rfl (by kernel_rfl) (fun _ _ _ h => h) (by kernel_rfl) hS ?_
              clear ha; intro a ha
              refine hd_pass (i := 9) ha rfl (by kernel_rfl) (fun _ _ _ h => h) (by kernel_rfl) hS ?_
              clear ha; intro a ha
              refine hd_pass (i := 10) ha rfl (by kernel_rfl) (fun _ _ _ h => h) (by kernel_rfl) hS ?_
              clear ha; intro a ha
              refine hd_pass (i := 12) ha rfl (by kernel_rfl) (fun _ _ _ h => h) (by kernel_rfl) hS ?_
              clear ha; intro a ha
              refine hd_pass (i := 13) ha rfl (by kernel_rfl) (fun _ _ _ h => h) (by kernel_rfl) hS ?_
              clear ha; intro a ha
              refine hd_pass (i := 14) ha rfl (by kernel_rfl) (fun _ _ _ h => h) (by kernel_rfl) hS ?_
              clear ha; intro a ha
              refine hd_pass (i := 11) ha rfl (by kernel_rfl) (fun _ _ _ h => h) (by kernel_rfl) hS ?_
              clear ha; intro a ha
              refine Head.done (by kernel_rfl) ?_
              clear hS; simp only [List.drop_succ_cons, List.drop_zero]
              refine st_pass ha (by kernel_rfl) ?_
              clear ha; intro a ha
              refine st_pass ha (by kernel_rfl) ?_
              clear ha; intro a ha
              refine st_pass ha (by kernel_rfl) ?_
              clear ha; intro a ha
              refine st_val (.bool false) ha (by kernel_rfl) (by kernel_rfl) ?_
              clear ha; intro a ha
              refine wpList_nil ?_
              refine then_normal ?_
              refine wp_false ha rfl (by kernel_rfl) ?_
              refine wp_skip ?_
              refine then_normal ?_
              refine wp_seq ?_
              refine wp_region_lit ?_
              refine st_val (.int .i64 0) ha (by kernel_rfl) (by kernel_rfl) ?_
              clear ha; intro a ha
              refine wpList_nil ?_
              refine then_normal ?_
              refine wp_block ?_
              replace s := s.at_ (j := 1) rfl
              replace s : St W (RLob g2 (left (byKey d.w.key d.w.holder) l) :: Own 34 4 A15 ((out (byKey d.w.key d.w.holder) l).length) c16 (ws (out (byKey d.w.key d.w.holder) l)) :: Own 28 4 A13 ((out (byKey d.w.key d.w.holder) l).length) c14 (ws (out (byKey d.w.key d.w.holder) l)) :: Lob g1 (left (byKey d.w.key d.w.holder) l) :: .blk g3 [.int .i64 d.w.num, .string (str d.w.key), .int .i64 d.w.waiter, .int .i64 d.w.holder] 28 :: L) w := s
              replace s := s.at_ (j := 3) rfl
              replace s : St W (Lob g1 (left (byKey d.w.key d.w.holder) l) :: RLob g2 (left (byKey d.w.key d.w.holder) l) :: Own 34 4 A15 ((out (byKey d.w.key d.w.holder) l).length) c16 (ws (out (byKey d.w.key d.w.holder) l)) :: Own 28 4 A13 ((out (byKey d.w.key d.w.holder) l).length) c14 (ws (out (byKey d.w.key d.w.holder) l)) :: .blk g3 [.int .i64 d.w.num, .string (str d.w.key), .int .i64 d.w.waiter, .int .i64 d.w.holder] 28 :: L) w := s
              replace s := s.at_ (j := 3) rfl
              replace s : St W (Own 28 4 A13 ((out (byKey d.w.key d.w.holder) l).length) c14 (ws (out (byKey d.w.key d.w.holder) l)) :: Lob g1 (left (byKey d.w.key d.w.holder) l) :: RLob g2 (left (byKey d.w.key d.w.holder) l) :: Own 34 4 A15 ((out (byKey d.w.key d.w.holder) l).length) c16 (ws (out (byKey d.w.key d.w.holder) l)) :: .blk g3 [.int .i64 d.w.num, .string (str d.w.key), .int .i64 d.w.waiter, .int .i64 d.w.holder] 28 :: L) w := s
              replace s : St W (Own 28 4 A13 ((out (byKey d.w.key d.w.holder) l).length) c14 (ws (out (byKey d.w.key d.w.holder) l)) :: Lob g1 (left (byKey d.w.key d.w.holder) l) :: RLob g2 (left (byKey d.w.key d.w.holder) l) :: L) w := St.mid (A := [Own 28 4 A13 ((out (byKey d.w.key d.w.holder) l).length) c14 (ws (out (byKey d.w.key d.w.holder) l)), Lob g1 (left (byKey d.w.key d.w.holder) l), RLob g2 (left (byKey d.w.key d.w.holder) l)]) (B := [Own 34 4 A15 ((out (byKey d.w.key d.w.holder) l).length) c16 (ws (out (byKey d.w.key d.w.holder) l)), .blk g3 [.int .i64 d.w.num, .string (str d.w.key), .int .i64 d.w.waiter, .int .i64 d.w.holder] 28]) s
              refine wp_loopG (G := (Nat × List Value)) (fun ⟨m, X⟩ a w => Has a 150 [(0, .slice (some ad) n c), (3, .pointer (some ⟨g1, 0, none⟩)), (4, .pointer (some ⟨g2, 0, none⟩)), (5, .int .i64 ((k : Nat) : Int)), (11, .slice A13 ((out (byKey d.w.key d.w.holder) l).length) c14), (13, .int .i64 ((m : Nat) : Int))] ∧ St W (Own 28 4 A13 ((out (byKey d.w.key d.w.holder) l).length) c14 X :: Lob g1 (left (byKey d.w.key d.w.holder) l) :: RLob g2 (left (byKey d.w.key d.w.holder) l) :: L) w ∧ (m ≤ (out (byKey d.w.key d.w.holder) l).length)) (fun ⟨m, X⟩ => (out (byKey d.w.key d.w.holder) l).length - m) (0, ws (out (byKey d.w.key d.w.holder) l)) ?_ ?_
              · exact ⟨(Has.cons ha (by kernel_rfl) (by kernel_rfl) (Has.cons ha (by kernel_rfl) (by kernel_rfl) (Has.cons ha (by kernel_rfl) (by kernel_rfl) (Has.cons ha (by kernel_rfl) (by kernel_rfl) (Has.cons ha (by kernel_rfl) (by kernel_rfl) (Has.cons ha (by kernel_rfl) (by kernel_rfl) (Has.nil ha))))))), s, Nat.zero_le _⟩
              · clear ha s; rintro ⟨m, X⟩ a w ⟨ha, s, hp⟩
                refine wp_seq ?_
                refine wp_seq ?_
                refine wp_region_lit ?_
                refine st_val (.int .i64 ((m : Nat) : Int)) ha (by kernel_rfl) (by kernel_rfl) ?_
                clear ha; intro a ha
                refine st_val (.slice A13 ((out (byKey d.w.key d.w.holder) l).length) c14) ha (by kernel_rfl) (by kernel_rfl) ?_
                clear ha; intro a ha
                refine st_val (.int .i64 (((out (byKey d.w.key d.w.holder) l).length : Nat) : Int)) ha (by kernel_rfl) (by kernel_rfl) ?_
                clear ha; intro a ha
                refine st_val (.bool (decide (((m : Nat) : Int) < (((out (byKey d.w.key d.w.holder) l).length : Nat) : Int)))) ha (by kernel_rfl) (by kernel_rfl) ?_
                clear ha; intro a ha
                refine wpList_nil ?_
                refine then_normal ?_
                refine wp_part (decide (((m : Nat) : Int) < (((out (byKey d.w.key d.w.holder) l).length : Nat) : Int))) ha rfl (by kernel_rfl) (fun hb => ?_) (fun hb => ?_)
                · rw [hb] at ha; replace hb : (((m : Nat) : Int) < (((out (byKey d.w.key d.w.holder) l).length : Nat) : Int)) := of_decide_eq_true hb
                  obtain ⟨ax29, hX⟩ := Own.addr (s.at_ (j := 0) rfl) (by omega)
                  subst hX
                  have hXl := (Own.facts (s.at_ (j := 0) rfl).1).1
                  refine wp_skip ?_
                  refine then_normal ?_
                  refine wp_seq ?_
                  refine wp_block ?_
                  refine wp_region_lit ?_
                  refine st_val (.slice (some ax29) ((out (byKey d.w.key d.w.holder) l).length) c14) ha (by kernel_rfl) (by kernel_rfl) ?_
                  clear ha; intro a ha
                  refine st_val (.int .i64 ((m : Nat) : Int)) ha (by kernel_rfl) (by kernel_rfl) ?_
                  clear ha; intro a ha
                  refine st_val (.pointer (some (ax29.add (m * 4)))) ha (by kernel_rfl) (run_indexAddr' (kd := .i64) (i := ((m : Nat) : Int)) (n := ((out (byKey d.w.key d.w.holder) l).length)) (c := c14) m rfl Try.underlying37 Try.sizeOf28 (by kernel_rfl) (by kernel_rfl) rfl (by first | assumption | omega) _) ?_
                  clear ha; intro a ha
                  refine st_val (.pointer (some (ax29.add (m * 4 + 0)))) ha (by kernel_rfl) (run_fieldAddr_at (i := m * 4) (off := 0) rfl Try.underlying28 rfl Try.sizeOf3 (by kernel_rfl) _) ?_
                  clear ha; intro a ha
                  refine st_exd ha (by kernel_rfl) (ex_store_own (i := m * 4 + 0) 0 [.int .i64 (-1)] s rfl rfl rfl (by kernel_rfl) (by kernel_rfl) (Try.sizeOf3 _) rfl (by simp [Value.oneCell']) (by simp) (by rw [hXl]; simp only [List.length_cons, List.length_nil]; omega)) ?_
                  clear ha; rintro w a s ha
                  replace s : St W (Own 28 4 (some ax29) ((out (byKey d.w.key d.w.holder) l).length) c14 (putAt X (m * 4 + 0) [.int .i64 (-1)]) :: Lob g1 (left (byKey d.w.key d.w.holder) l) :: RLob g2 (left (byKey d.w.key d.w.holder) l) :: L) w := s
                  refine wpList_nil ?_
                  refine block_normal ?_
                  refine then_normal ?_
                  refine wp_region_lit ?_
                  refine st_val (.int .i64 ((m : Nat) : Int)) ha (by kernel_rfl) (by kernel_rfl) ?_
                  clear ha; intro a ha
                  refine st_val (.int .i64 ((m + 1 : Nat) : Int)) ha (by kernel_rfl) (run_arith (((m : Nat) : Int) + (1 : Int)) ((m + 1 : Nat) : Int) rfl (by kernel_rfl) (by kernel_rfl) (.inl ⟨rfl, rfl⟩) (by rw [wrap64_in (by omega)]; try omega) _) ?_
                  clear ha; intro a ha
                  refine st_val (.int .i64 ((m + 1 : Nat) : Int)) ha (by kernel_rfl) (by kernel_rfl) ?_
                  clear ha; intro a ha
                  refine wpList_nil ?_
                  refine then_normal ?_
                  exact ⟨(m + 1, putAt X (m * 4 + 0) [.int .i64 (-1)]), (show (out (byKey d.w.key d.w.holder) l).length - (m + 1) < (out (byKey d.w.key d.w.holder) l).length - m by omega), (Has.cons ha (by kernel_rfl) (by kernel_rfl) (Has.cons ha (by kernel_rfl) (by kernel_rfl) (Has.cons ha (by kernel_rfl) (by kernel_rfl) (Has.cons ha (by kernel_rfl) (by kernel_rfl) (Has.cons ha (by kernel_rfl) (by kernel_rfl) (Has.cons ha (by kernel_rfl) (by kernel_rfl) (Has.nil ha))))))), s, (show m + 1 ≤ (out (byKey d.w.key d.w.holder) l).length by omega)⟩
                · rw [hb] at ha; replace hb : ¬ (((m : Nat) : Int) < (((out (byKey d.w.key d.w.holder) l).length : Nat) : Int)) := of_decide_eq_false hb
                  refine wp_exit ?_
                  refine then_exit ?_
                  refine then_exit ?_
                  refine block_hit ?_
                  refine block_normal ?_
                  refine then_normal ?_
                  refine wp_seq ?_
                  refine wp_region_lit ?_
                  refine st_val (.pointer (some ⟨g1, 0, none⟩)) ha (by kernel_rfl) (by kernel_rfl) ?_
                  clear ha; intro a ha
                  replace s := s.at_ (j := 1) rfl
                  replace s : St W (Lob g1 (left (byKey d.w.key d.w.holder) l) :: Own 28 4 A13 ((out (byKey d.w.key d.w.holder) l).length) c14 X :: RLob g2 (left (byKey d.w.key d.w.holder) l) :: L) w := s
                  refine st_call ha (by kernel_rfl) (by kernel_rfl) (edges_lob W hW _ w g1 (left (byKey d.w.key d.w.holder) l) (ok.left (byKey d.w.key d.w.holder)) s) ?_
                  rintro _ w ⟨A30, c31, d32, rfl, hd32, s⟩
                  have hd32l := hd32.len_le
                  have hfl_ := ((ok.left (byKey d.w.key d.w.holder))).2
                  replace s : St W (Own 51 2 A30 d32.length c31 (pcs d32) :: Lob g1 (left (byKey d.w.key d.w.holder) l) :: Own 28 4 A13 ((out (byKey d.w.key d.w.holder) l).length) c14 X :: RLob g2 (left (byKey d.w.key d.w.holder) l) :: L) w := s
                  refine ⟨_, rfl, ?_⟩; clear ha; intro a ha
                  refine st_val (.slice A30 d32.length c31) ha (by kernel_rfl) (by kernel_rfl) ?_
                  clear ha; intro a ha
                  refine wpList_nil ?_
                  refine then_normal ?_
                  refine wp_seq ?_
                  refine wp_seq ?_
                  refine wp_region_lit ?_
                  refine st_val (.slice A30 d32.length c31) ha (by kernel_rfl) (by kernel_rfl) ?_
                  clear ha; intro a ha
                  refine st_val (.pointer (some ⟨g2, 0, none⟩)) ha (by kernel_rfl) (by kernel_rfl) ?_
                  clear ha; intro a ha
                  replace s := s.at_ (j := 3) rfl
                  replace s : St W (RLob g2 (left (byKey d.w.key d.w.holder) l) :: Own 51 2 A30 d32.length c31 (pcs d32) :: Lob g1 (left (byKey d.w.key d.w.holder) l) :: Own 28 4 A13 ((out (byKey d.w.key d.w.holder) l).length) c14 X :: L) w := s
                  refine st_call ha (by kernel_rfl) (by kernel_rfl) (redges_is W _ w g2 (left (byKey d.w.key d.w.holder) l) d32 hd32 (ok.left (byKey d.w.key d.w.holder)) s) ?_
                  rintro _ w ⟨A33, c34, rfl, s⟩
                  replace s : St W (Own 51 2 A33 d32.length c34 (pcs d32) :: RLob g2 (left (byKey d.w.key d.w.holder) l) :: Own 51 2 A30 d32.length c31 (pcs d32) :: Lob g1 (left (byKey d.w.key d.w.holder) l) :: Own 28 4 A13 ((out (byKey d.w.key d.w.holder) l).length) c14 X :: L) w := s
                  refine ⟨_, rfl, ?_⟩; clear ha; intro a ha
                  refine st_call ha (by kernel_rfl) (by kernel_rfl) (same_self W _ w A30 A33 d32.length d32.length c31 c34 d32 (Knows.own (j := 2) rfl) (Knows.own (j := 0) rfl) rfl rfl (by omega) s) ?_
                  rintro _ w ⟨rfl, s⟩
                  replace s : St W (Own 51 2 A33 d32.length c34 (pcs d32) :: RLob g2 (left (byKey d.w.key d.w.holder) l) :: Own 51 2 A30 d32.length c31 (pcs d32) :: Lob g1 (left (byKey d.w.key d.w.holder) l) :: Own 28 4 A13 ((out (byKey d.w.key d.w.holder) l).length) c14 X :: L) w := s
                  refine ⟨_, rfl, ?_⟩; clear ha; intro a ha
                  refine st_val (.bool false) ha (by kernel_rfl) (by kernel_rfl) ?_
                  clear ha; intro a ha
                  refine st_val (.bool false) ha (by kernel_rfl) (by kernel_rfl) ?_
                  clear ha; intro a ha
                  refine st_val (.pointer (some ⟨g1, 0, none⟩)) ha (by kernel_rfl) (by kernel_rfl) ?_
                  clear ha; intro a ha
                  replace s := s.at_ (j := 3) rfl
                  replace s : St W (Lob g1 (left (byKey d.w.key d.w.holder) l) :: Own 51 2 A33 d32.length c34 (pcs d32) :: RLob g2 (left (byKey d.w.key d.w.holder) l) :: Own 51 2 A30 d32.length c31 (pcs d32) :: Own 28 4 A13 ((out (byKey d.w.key d.w.holder) l).length) c14 X :: L) w := s
                  refine st_call ha (by kernel_rfl) (by kernel_rfl) (len_lob W _ w g1 (left (byKey d.w.key d.w.holder) l) (ok.left (byKey d.w.key d.w.holder)) s) ?_
                  rintro _ w ⟨rfl, s⟩
                  replace s : St W (Lob g1 (left (byKey d.w.key d.w.holder) l) :: Own 51 2 A33 d32.length c34 (pcs d32) :: RLob g2 (left (byKey d.w.key d.w.holder) l) :: Own 51 2 A30 d32.length c31 (pcs d32) :: Own 28 4 A13 ((out (byKey d.w.key d.w.holder) l).length) c14 X :: L) w := s
                  refine ⟨_, rfl, ?_⟩; clear ha; intro a ha
                  refine st_val (.pointer (some ⟨g2, 0, none⟩)) ha (by kernel_rfl) (by kernel_rfl) ?_
                  clear ha; intro a ha
                  replace s := s.at_ (j := 2) rfl
                  replace s : St W (RLob g2 (left (byKey d.w.key d.w.holder) l) :: Lob g1 (left (byKey d.w.key d.w.holder) l) :: Own 51 2 A33 d32.length c34 (pcs d32) :: Own 51 2 A30 d32.length c31 (pcs d32) :: Own 28 4 A13 ((out (byKey d.w.key d.w.holder) l).length) c14 X :: L) w := s
                  refine st_call ha (by kernel_rfl) (by kernel_rfl) (rlen_lob W _ w g2 (left (byKey d.w.key d.w.holder) l) (ok.left (byKey d.w.key d.w.holder)) s) ?_
                  rintro _ w ⟨rfl, s⟩
                  replace s : St W (RLob g2 (left (byKey d.w.key d.w.holder) l) :: Lob g1 (left (byKey d.w.key d.w.holder) l) :: Own 51 2 A33 d32.length c34 (pcs d32) :: Own 51 2 A30 d32.length c31 (pcs d32) :: Own 28 4 A13 ((out (byKey d.w.key d.w.holder) l).length) c14 X :: L) w := s
                  refine ⟨_, rfl, ?_⟩; clear ha; intro a ha
                  refine st_val (.bool false) ha (by kernel_rfl) (run_known (bne_self_eq_false _) (show (execOp (evalE _) _).run _ _ = .ok (.value (.bool ((((left (byKey d.w.key d.w.holder) l).length : Nat) : Int) != (((left (byKey d.w.key d.w.holder) l).length : Nat) : Int)))) _ from by kernel_rfl)) ?_
                  clear ha; intro a ha
                  refine st_val (.bool false) ha (by kernel_rfl) (by kernel_rfl) ?_
                  clear ha; intro a ha
                  refine wpList_nil ?_
                  refine then_normal ?_
                  refine wp_false ha rfl (by kernel_rfl) ?_
                  refine wp_skip ?_
                  refine then_normal ?_
                  refine wp_seq ?_
                  refine wp_region_lit ?_
                  refine st_val (.int .i64 0) ha (by kernel_rfl) (by kernel_rfl) ?_
                  clear ha; intro a ha
                  refine wpList_nil ?_
                  refine then_normal ?_
                  refine wp_block ?_
                  replace s := s.at_ (j := 1) rfl
                  replace s : St W (Lob g1 (left (byKey d.w.key d.w.holder) l) :: RLob g2 (left (byKey d.w.key d.w.holder) l) :: Own 51 2 A33 d32.length c34 (pcs d32) :: Own 51 2 A30 d32.length c31 (pcs d32) :: Own 28 4 A13 ((out (byKey d.w.key d.w.holder) l).length) c14 X :: L) w := s
                  replace s := s.at_ (j := 3) rfl
                  replace s : St W (Own 51 2 A30 d32.length c31 (pcs d32) :: Lob g1 (left (byKey d.w.key d.w.holder) l) :: RLob g2 (left (byKey d.w.key d.w.holder) l) :: Own 51 2 A33 d32.length c34 (pcs d32) :: Own 28 4 A13 ((out (byKey d.w.key d.w.holder) l).length) c14 X :: L) w := s
                  replace s : St W (Own 51 2 A30 d32.length c31 (pcs d32) :: Lob g1 (left (byKey d.w.key d.w.holder) l) :: RLob g2 (left (byKey d.w.key d.w.holder) l) :: L) w := St.mid (A := [Own 51 2 A30 d32.length c31 (pcs d32), Lob g1 (left (byKey d.w.key d.w.holder) l), RLob g2 (left (byKey d.w.key d.w.holder) l)]) (B := [Own 51 2 A33 d32.length c34 (pcs d32), Own 28 4 A13 ((out (byKey d.w.key d.w.holder) l).length) c14 X]) s
                  refine wp_loopG (G := (Nat × List Value)) (fun ⟨m, X⟩ a w => Has a 150 [(0, .slice (some ad) n c), (3, .pointer (some ⟨g1, 0, none⟩)), (4, .pointer (some ⟨g2, 0, none⟩)), (5, .int .i64 ((k : Nat) : Int)), (14, .slice A30 d32.length c31), (15, .int .i64 ((m : Nat) : Int))] ∧ St W (Own 51 2 A30 d32.length c31 X :: Lob g1 (left (byKey d.w.key d.w.holder) l) :: RLob g2 (left (byKey d.w.key d.w.holder) l) :: L) w ∧ (m ≤ d32.length)) (fun ⟨m, X⟩ => d32.length - m) (0, pcs d32) ?_ ?_
                  · exact ⟨(Has.cons ha (by kernel_rfl) (by kernel_rfl) (Has.cons ha (by kernel_rfl) (by kernel_rfl) (Has.cons ha (by kernel_rfl) (by kernel_rfl) (Has.cons ha (by kernel_rfl) (by kernel_rfl) (Has.cons ha (by kernel_rfl) (by kernel_rfl) (Has.cons ha (by kernel_rfl) (by kernel_rfl) (Has.nil ha))))))), s, Nat.zero_le _⟩
                  · clear ha s; rintro ⟨m, X⟩ a w ⟨ha, s, hp⟩
                    refine wp_seq ?_
                    refine wp_seq ?_
                    refine wp_region_lit ?_
                    refine st_val (.int .i64 ((m : Nat) : Int)) ha (by kernel_rfl) (by kernel_rfl) ?_
                    clear ha; intro a ha
                    refine st_val (.slice A30 d32.length c31) ha (by kernel_rfl) (by kernel_rfl) ?_
                    clear ha; intro a ha
                    refine st_val (.int .i64 ((d32.length : Nat) : Int)) ha (by kernel_rfl) (by kernel_rfl) ?_
                    clear ha; intro a ha
                    refine st_val (.bool (decide (((m : Nat) : Int) < ((d32.length : Nat) : Int)))) ha (by kernel_rfl) (by kernel_rfl) ?_
                    clear ha; intro a ha
                    refine wpList_nil ?_
                    refine then_normal ?_
                    refine wp_part (decide (((m : Nat) : Int) < ((d32.length : Nat) : Int))) ha rfl (by kernel_rfl) (fun hb => ?_) (fun hb => ?_)
                    · rw [hb] at ha; replace hb : (((m : Nat) : Int) < ((d32.length : Nat) : Int)) := of_decide_eq_true hb
                      obtain ⟨ax35, hX⟩ := Own.addr (s.at_ (j := 0) rfl) (by omega)
                      subst hX
                      have hXl := (Own.facts (s.at_ (j := 0) rfl).1).1
                      refine wp_skip ?_
                      refine then_normal ?_
                      refine wp_seq ?_
                      refine wp_block ?_
                      refine wp_region_lit ?_
                      refine st_val (.slice (some ax35) d32.length c31) ha (by kernel_rfl) (by kernel_rfl) ?_
                      clear ha; intro a ha
                      refine st_val (.int .i64 ((m : Nat) : Int)) ha (by kernel_rfl) (by kernel_rfl) ?_
                      clear ha; intro a ha
                      refine st_val (.agg #[.int .i64 0, .int .i64 0]) ha (by kernel_rfl) (by kernel_rfl) ?_
                      clear ha; intro a ha
                      refine st_val (.pointer (some (ax35.add (m * 2)))) ha (by kernel_rfl) (run_indexAddr' (kd := .i64) (i := ((m : Nat) : Int)) (n := d32.length) (c := c31) m rfl Try.underlying47 Try.sizeOf51 (by kernel_rfl) (by kernel_rfl) rfl (by first | assumption | omega) _) ?_
                      clear ha; intro a ha
                      refine st_exd ha (by kernel_rfl) (ex_store_own (i := m * 2) 0 [.int .i64 0, .int .i64 0] s rfl rfl rfl (by kernel_rfl) (by kernel_rfl) (Try.sizeOf51 _) rfl (by simp [Value.oneCell']) (by simp) (by rw [hXl]; simp only [List.length_cons, List.length_nil]; omega)) ?_
                      clear ha; rintro w a s ha
                      replace s : St W (Own 51 2 (some ax35) d32.length c31 (putAt X (m * 2) [.int .i64 0, .int .i64 0]) :: Lob g1 (left (byKey d.w.key d.w.holder) l) :: RLob g2 (left (byKey d.w.key d.w.holder) l) :: L) w := s
                      refine wpList_nil ?_
                      refine block_normal ?_
                      refine then_normal ?_
                      refine wp_region_lit ?_
                      refine st_val (.int .i64 ((m : Nat) : Int)) ha (by kernel_rfl) (by kernel_rfl) ?_
                      clear ha; intro a ha
                      refine st_val (.int .i64 ((m + 1 : Nat) : Int)) ha (by kernel_rfl) (run_arith (((m : Nat) : Int) + (1 : Int)) ((m + 1 : Nat) : Int) rfl (by kernel_rfl) (by kernel_rfl) (.inl ⟨rfl, rfl⟩) (by rw [wrap64_in (by omega)]; try omega) _) ?_
                      clear ha; intro a ha
                      refine st_val (.int .i64 ((m + 1 : Nat) : Int)) ha (by kernel_rfl) (by kernel_rfl) ?_
                      clear ha; intro a ha
                      refine wpList_nil ?_
                      refine then_normal ?_
                      exact ⟨(m + 1, putAt X (m * 2) [.int .i64 0, .int .i64 0]), (show d32.length - (m + 1) < d32.length - m by omega), (Has.cons ha (by kernel_rfl) (by kernel_rfl) (Has.cons ha (by kernel_rfl) (by kernel_rfl) (Has.cons ha (by kernel_rfl) (by kernel_rfl) (Has.cons ha (by kernel_rfl) (by kernel_rfl) (Has.cons ha (by kernel_rfl) (by kernel_rfl) (Has.cons ha (by kernel_rfl) (by kernel_rfl) (Has.nil ha))))))), s, (show m + 1 ≤ d32.length by omega)⟩
                    · rw [hb] at ha; replace hb : ¬ (((m : Nat) : Int) < ((d32.length : Nat) : Int)) := of_decide_eq_false hb
                      refine wp_exit ?_
                      refine then_exit ?_
                      refine then_exit ?_
                      refine block_hit ?_
                      refine block_normal ?_
                      refine then_normal ?_
                      refine wp_region_lit ?_
                      refine st_val (.int .i64 ((k : Nat) : Int)) ha (by kernel_rfl) (by kernel_rfl) ?_
                      clear ha; intro a ha
                      refine st_val (.int .i64 ((k + 1 : Nat) : Int)) ha (by kernel_rfl) (run_arith (((k : Nat) : Int) + (1 : Int)) ((k + 1 : Nat) : Int) rfl (by kernel_rfl) (by kernel_rfl) (.inl ⟨rfl, rfl⟩) (by rw [wrap64_in (by omega)]; try omega) _) ?_
                      clear ha; intro a ha
                      refine st_val (.int .i64 ((k + 1 : Nat) : Int)) ha (by kernel_rfl) (by kernel_rfl) ?_
                      clear ha; intro a ha
                      refine wpList_nil ?_
                      refine then_normal ?_
                      replace s := s.at_ (j := 2) rfl
                      replace s : St W (RLob g2 (left (byKey d.w.key d.w.holder) l) :: Own 51 2 A30 d32.length c31 X :: Lob g1 (left (byKey d.w.key d.w.holder) l) :: L) w := s
                      replace s := s.at_ (j := 2) rfl
                      replace s : St W (Lob g1 (left (byKey d.w.key d.w.holder) l) :: RLob g2 (left (byKey d.w.key d.w.holder) l) :: Own 51 2 A30 d32.length c31 X :: L) w := s
                      replace s : St W (Lob g1 (left (byKey d.w.key d.w.holder) l) :: RLob g2 (left (byKey d.w.key d.w.holder) l) :: L) w := St.mid (A := [Lob g1 (left (byKey d.w.key d.w.holder) l), RLob g2 (left (byKey d.w.key d.w.holder) l)]) (B := [Own 51 2 A30 d32.length c31 X]) s
                      exact ⟨(k + 1, left (byKey d.w.key d.w.holder) l), (show 200 - (k + 1) < 200 - k by omega), (Has.cons ha (by kernel_rfl) (by kernel_rfl) (Has.cons ha (by kernel_rfl) (by kernel_rfl) (Has.cons ha (by kernel_rfl) (by kernel_rfl) (Has.cons ha (by kernel_rfl) (by kernel_rfl) (Has.nil ha))))), s, (show k + 1 ≤ 200 by omega), (ok.left (byKey d.w.key d.w.holder))⟩
          · rw [hb] at ha; have hb_ := hb; replace hb := ne_of_beq_false hb
            refine wp_region_lit ?_
            refine st_val (.bool ((d.k % 8) == (7 : Int))) ha (by kernel_rfl) (by kernel_rfl) ?_
            clear ha; intro a ha
            refine st_val (.bool ((d.k % 8) == (7 : Int))) ha (by kernel_rfl) (by kernel_rfl) ?_
            clear ha; intro a ha
            refine wpList_nil ?_
            refine then_normal ?_
            refine wp_part ((d.k % 8) == (7 : Int)) ha rfl (by kernel_rfl) (fun hb => ?_) (fun hb => ?_)
            · rw [hb] at ha; have hb_ := hb; replace hb := eq_of_beq hb
              refine wp_seq ?_
              refine wp_region_head 11 (fun w => BlkIs g3 [.int .i64 d.w.num, .string (str d.w.key), .int .i64 d.w.waiter, .int .i64 d.w.holder] w ∧ True) (by kernel_rfl) (by decide) ?_
              replace s := s.drew; generalize _root_.Go.World.drew _ = w at s ⊢
              have hS : (fun w => BlkIs g3 [.int .i64 d.w.num, .string (str d.w.key), .int .i64 d.w.waiter, .int .i64 d.w.holder] w ∧ True) w := ⟨s.blkIs 0 rfl, trivial⟩
              refine hd_val (i := 0) (.pointer (some ⟨g1, 0, none⟩)) ha rfl (by kernel_rfl) (fun _ _ _ h => h) (by kernel_rfl) (fun w hS => (by kernel_rfl)) hS ?_
              clear ha; intro a ha
              refine hd_val (i := 1) (.pointer (some ⟨g3, 1, none⟩)) ha rfl (by kernel_rfl) (fun _ _ _ h => h) (by kernel_rfl) (fun w hS => (by kernel_rfl)) hS ?_
              clear ha; intro a ha
              refine hd_val (i := 2) (.string (str d.w.key)) ha rfl (by kernel_rfl) (fun _ _ _ h => h) (by kernel_rfl) (fun w hS => run_load1 (of_ := 1) hS.1 rfl (by kernel_rfl) Try.isAgg9 rfl) hS ?_
              clear ha; intro a ha
              refine hd_val (i := 3) (.pointer (some ⟨g3, 3, none⟩)) ha rfl (by kernel_rfl) (fun _ _ _ h => h) (by kernel_rfl) (fun w hS => (by kernel_rfl)) hS ?_
              clear ha; intro a ha
              refine hd_val (i := 4) (.int .i64 d.w.holder) ha rfl (by kernel_rfl) (fun _ _ _ h => h) (by kernel_rfl) (fun w hS => run_load1 (of_ := 3) hS.1 rfl (by kernel_rfl) Try.isAgg3 rfl) hS ?_
              clear ha; intro a ha
              refine hd_val (i := 6) (.pointer (some ⟨g2, 0, none⟩)) ha rfl (by kernel_rfl) (fun _ _ _ h => h) (by kernel_rfl) (fun w hS => (by kernel_rfl)) hS ?_
              clear ha; intro a ha
              refine hd_val (i := 7) (.pointer (some ⟨g3, 1, none⟩)) ha rfl (by kernel_rfl) (fun _ _ _ h => h) (by kernel_rfl) (fun w hS => (by kernel_rfl)) hS ?_
              clear ha; intro a ha
              refine hd_val (i := 8) (.string (str d.w.key)) ha rfl (by kernel_rfl) (fun _ _ _ h => h) (by kernel_rfl) (fun w hS => run_load1 (of_ := 1) hS.1 rfl (by kernel_rfl) Try.isAgg9 rfl) hS ?_
              clear ha; intro a ha
              refine hd_val (i := 9) (.pointer (some ⟨g3, 3, none⟩)) ha rfl (by kernel_rfl) (fun _ _ _ h => h) (by kernel_rfl) (fun w hS => (by kernel_rfl)) hS ?_
              clear ha; intro a ha
              refine hd_val (i := 10) (.int .i64 d.w.holder) ha rfl (by kernel_rfl) (fun _ _ _ h => h) (by kernel_rfl) (fun w hS => run_load1 (of_ := 3) hS.1 rfl (by kernel_rfl) Try.isAgg3 rfl) hS ?_
              clear ha; intro a ha
              replace s := s.at_ (j := 1) rfl
              replace s : St W (Lob g1 l :: .blk g3 [.int .i64 d.w.num, .string (str d.w.key), .int .i64 d.w.waiter, .int .i64 d.w.holder] 28 :: RLob g2 l :: L) w := s
              refine hd_call (i := 5) ha rfl (by kernel_rfl) (by kernel_rfl) (by kernel_rfl) (at_lob W _ w g1 l d.w.key d.w.holder ok s) ?_
              clear hS; rintro _ w ⟨A36, c37, rfl, s⟩
              replace s : St W (Own 28 4 A36 ((out (byKey d.w.key d.w.holder) l).length) c37 (ws (out (byKey d.w.key d.w.holder) l)) :: Lob g1 (left (byKey d.w.key d.w.holder) l) :: .blk g3 [.int .i64 d.w.num, .string (str d.w.key), .int .i64 d.w.waiter, .int .i64 d.w.holder] 28 :: RLob g2 l :: L) w := s
              have hS : (fun w => BlkIs g3 [.int .i64 d.w.num, .string (str d.w.key), .int .i64 d.w.waiter, .int .i64 d.w.holder] w ∧ True) w := ⟨s.blkIs 2 rfl, trivial⟩
              refine ⟨_, rfl, hS, ?_⟩; clear ha; intro a ha
              refine Head.done (by kernel_rfl) ?_
              clear hS; simp only [List.drop_succ_cons, List.drop_zero]
              replace s := s.at_ (j := 3) rfl
              replace s : St W (RLob g2 l :: Own 28 4 A36 ((out (byKey d.w.key d.w.holder) l).length) c37 (ws (out (byKey d.w.key d.w.holder) l)) :: Lob g1 (left (byKey d.w.key d.w.holder) l) :: .blk g3 [.int .i64 d.w.num, .string (str d.w.key), .int .i64 d.w.waiter, .int .i64 d.w.holder] 28 :: L) w := s
              refine st_call ha (by kernel_rfl) (by kernel_rfl) (rat_lob W _ w g2 l d.w.key d.w.holder ok s) ?_
              rintro _ w ⟨A38, c39, rfl, s⟩
              replace s : St W (Own 34 4 A38 ((out (byKey d.w.key d.w.holder) l).length) c39 (ws (out (byKey d.w.key d.w.holder) l)) :: RLob g2 (left (byKey d.w.key d.w.holder) l) :: Own 28 4 A36 ((out (byKey d.w.key d.w.holder) l).length) c37 (ws (out (byKey d.w.key d.w.holder) l)) :: Lob g1 (left (byKey d.w.key d.w.holder) l) :: .blk g3 [.int .i64 d.w.num, .string (str d.w.key), .int .i64 d.w.waiter, .int .i64 d.w.holder] 28 :: L) w := s
              refine ⟨_, rfl, ?_⟩; clear ha; intro a ha
              refine st_val (.slice A36 ((out (byKey d.w.key d.w.holder) l).length) c37) ha (by kernel_rfl) (by kernel_rfl) ?_
              clear ha; intro a ha
              refine st_val (.slice A38 ((out (byKey d.w.key d.w.holder) l).length) c39) ha (by kernel_rfl) (by kernel_rfl) ?_
              clear ha; intro a ha
              refine wpList_nil ?_
              refine then_normal ?_
              refine wp_seq ?_
              refine wp_seq ?_
              refine wp_region_lit ?_
              refine st_val (.slice A36 ((out (byKey d.w.key d.w.holder) l).length) c37) ha (by kernel_rfl) (by kernel_rfl) ?_
              clear ha; intro a ha
              refine st_val (.slice A38 ((out (byKey d.w.key d.w.holder) l).length) c39) ha (by kernel_rfl) (by kernel_rfl) ?_
              clear ha; intro a ha
              have hol_ : (out (byKey d.w.key d.w.holder) l).length ≤ 64 := Nat.le_trans (out_le _ _) (ok).2
              refine st_call ha (by kernel_rfl) (by kernel_rfl) (like_is W _ w A36 A38 _ _ c37 c39 (out (byKey d.w.key d.w.holder) l) (Knows.own (j := 2) rfl) (Knows.own (j := 0) rfl) rfl rfl (by omega) s) ?_
              rintro _ w ⟨rfl, s⟩
              replace s : St W (Own 34 4 A38 ((out (byKey d.w.key d.w.holder) l).length) c39 (ws (out (byKey d.w.key d.w.holder) l)) :: RLob g2 (left (byKey d.w.key d.w.holder) l) :: Own 28 4 A36 ((out (byKey d.w.key d.w.holder) l).length) c37 (ws (out (byKey d.w.key d.w.holder) l)) :: Lob g1 (left (byKey d.w.key d.w.holder) l) :: .blk g3 [.int .i64 d.w.num, .string (str d.w.key), .int .i64 d.w.waiter, .int .i64 d.w.holder] 28 :: L) w := s
              refine ⟨_, rfl, ?_⟩; clear ha; intro a ha
              refine st_val (.bool false) ha (by kernel_rfl) (by kernel_rfl) ?_
              clear ha; intro a ha
              refine wpList_nil ?_
              refine then_normal ?_
              refine wp_false ha rfl (by kernel_rfl) ?_
              refine wp_skip ?_
              refine then_normal ?_
              refine wp_seq ?_
              refine wp_seq ?_
              refine wp_region_head 15 (fun w => Reads w 5 (some ad) n (deeds ds) ∧ BlkIs g3 [.int .i64 d.w.num, .string (str d.w.key), .int .i64 d.w.waiter, .int .i64 d.w.holder] w ∧ True) (by kernel_rfl) (by decide) ?_
              replace s := s.drew; generalize _root_.Go.World.drew _ = w at s ⊢
              have hS : (fun w => Reads w 5 (some ad) n (deeds ds) ∧ BlkIs g3 [.int .i64 d.w.num, .string (str d.w.key), .int .i64 d.w.waiter, .int .i64 d.w.holder] w ∧ True) w := ⟨(hr _ s.sat.tail.tail.tail.tail.tail), s.blkIs 4 rfl, trivial⟩
              refine hd_val (i := 0) (.slice (some ad) n c) ha rfl (by kernel_rfl) (fun _ _ _ h => h) (by kernel_rfl) (fun w hS => (by kernel_rfl)) hS ?_
              clear ha; intro a ha
              refine hd_val (i := 1) (.int .i64 ((k : Nat) : Int)) ha rfl (by kernel_rfl) (fun _ _ _ h => h) (by kernel_rfl) (fun w hS => (by kernel_rfl)) hS ?_
              clear ha; intro a ha
              refine hd_val (i := 2) (.pointer (some (ad.add (k * 5)))) ha rfl (by kernel_rfl) (fun _ _ _ h => h) (by kernel_rfl) (fun w hS => (run_indexAddr' (kd := .i64) (i := ((k : Nat) : Int)) (n := n) (c := c) k rfl Try.underlying22 Try.sizeOf30 (by kernel_rfl) (by kernel_rfl) rfl (by first | assumption | omega) _)) hS ?_
              clear ha; intro a ha
              refine hd_val (i := 3) (.pointer (some (ad.add (k * 5 + 0)))) ha rfl (by kernel_rfl) (fun _ _ _ h => h) (by kernel_rfl) (fun w hS => (run_fieldAddr_at (i := k * 5) (off := 0) rfl Try.underlying30 rfl Try.sizeOf3 (by kernel_rfl) _)) hS ?_
              clear ha; intro a ha
              refine hd_val (i := 4) (.int .i64 d.k) ha rfl (by kernel_rfl) (fun _ _ _ h => h) (by kernel_rfl) (fun w hS => run_loadAt1 (i := k * 5 + 0) hS.1 rfl (by kernel_rfl) Try.isAgg3 (by rw [deeds_at hdd (by omega)]; rfl)) hS ?_
              clear ha; intro a ha
              refine hd_call (i := 5) ha rfl (by kernel_rfl) (by kernel_rfl) (by kernel_rfl) (bring_pos W _ w d.k 8 (by omega) (by omega) s) ?_
              clear hS; rintro _ w ⟨rfl, s⟩
              replace s : St W (Own 34 4 A38 ((out (byKey d.w.key d.w.holder) l).length) c39 (ws (out (byKey d.w.key d.w.holder) l)) :: RLob g2 (left (byKey d.w.key d.w.holder) l) :: Own 28 4 A36 ((out (byKey d.w.key d.w.holder) l).length) c37 (ws (out (byKey d.w.key d.w.holder) l)) :: Lob g1 (left (byKey d.w.key d.w.holder) l) :: .blk g3 [.int .i64 d.w.num, .string (str d.w.key), .int .i64 d.w.waiter, .int .i64 d.w.holder] 28 :: L) w := s
              have hS : (fun w => Reads w 5 (some ad) n (deeds ds) ∧ BlkIs g3 [.int .i64 d.w.num, .string (str d.w.key), .int .i64 d.w.waiter, .int .i64 d.w.holder] w ∧ True) w := ⟨(hr _ s.sat.tail.tail.tail.tail.tail), s.blkIs 4 rfl, trivial⟩
              refine ⟨_, rfl, hS, ?_⟩; clear ha; intro a ha
              refine hd_val (i := 6) (.bool ((d.k % 8) == (6 : Int))) ha rfl (by kernel_rfl) (fun _ _ _ h => h) (by kernel_rfl) (fun w hS => (by kernel_rfl)) hS ?_
              clear ha; intro a ha
              refine hd_val (i := 7) (.bool ((d.k % 8) == (6 : Int))) ha rfl (by kernel_rfl) (fun _ _ _ h => h) (by kernel_rfl) (fun w hS => (by kernel_rfl)) hS ?_
              clear ha; intro a ha
              rcases Bool.eq_false_or_eq_true ((d.k % 8) == (6 : Int)) with hb | hb
              · rw [hb] at ha; have hb_ := hb; replace hb := eq_of_beq hb
                refine hd_val (i := 8) (.pointer (some ⟨g1, 0, none⟩)) ha rfl (by kernel_rfl) (fun _ _ _ h => h) (by kernel_rfl) (fun w hS => (by kernel_rfl)) hS ?_
                clear ha; intro a ha
                refine hd_val (i := 9) (.pointer (some ⟨g3, 3, none⟩)) ha rfl (by kernel_rfl) (fun _ _ _ h => h) (by kernel_rfl) (fun w hS => (by kernel_rfl)) hS ?_
                clear ha; intro a ha
                refine hd_val (i := 10) (.int .i64 d.w.holder) ha rfl (by kernel_rfl) (fun _ _ _ h => h) (by kernel_rfl) (fun w hS => run_load1 (of_ := 3) hS.2.1 rfl (by kernel_rfl) Try.isAgg3 rfl) hS ?_
                clear ha; intro a ha
                refine hd_val (i := 12) (.pointer (some ⟨g2, 0, none⟩)) ha rfl (by kernel_rfl) (fun _ _ _ h => h) (by kernel_rfl) (fun w hS => (by kernel_rfl)) hS ?_
                clear ha; intro a ha
                refine hd_val (i := 13) (.pointer (some ⟨g3, 3, none⟩)) ha rfl (by kernel_rfl) (fun _ _ _ h => h) (by kernel_rfl) (fun w hS => (by kernel_rfl)) hS ?_
                clear ha; intro a ha
                refine hd_val (i := 14) (.int .i64 d.w.holder) ha rfl (by kernel_rfl) (fun _ _ _ h => h) (by kernel_rfl) (fun w hS => run_load1 (of_ := 3) hS.2.1 rfl (by kernel_rfl) Try.isAgg3 rfl) hS ?_
                clear ha; intro a ha
                replace s := s.at_ (j := 3) rfl
                replace s : St W (Lob g1 (left (byKey d.w.key d.w.holder) l) :: Own 34 4 A38 ((out (byKey d.w.key d.w.holder) l).length) c39 (ws (out (byKey d.w.key d.w.holder) l)) :: RLob g2 (left (byKey d.w.key d.w.holder) l) :: Own 28 4 A36 ((out (byKey d.w.key d.w.holder) l).length) c37 (ws (out (byKey d.w.key d.w.holder) l)) :: .blk g3 [.int .i64 d.w.num, .string (str d.w.key), .int .i64 d.w.waiter, .int .i64 d.w.holder] 28 :: L) w := s
                refine hd_call (i := 11) ha rfl (by kernel_rfl) (by kernel_rfl) (by kernel_rfl) (free_lob W _ w g1 (left (byKey d.w.key d.w.holder) l) d.w.holder (ok.left (byKey d.w.key d.w.holder)) s) ?_
                clear hS; rintro _ w ⟨A41, c42, rfl, s⟩
                replace s : St W (Own 28 4 A41 ((out (byHolder d.w.holder) (left (byKey d.w.key d.w.holder) l)).length) c42 (ws (out (byHolder d.w.holder) (left (byKey d.w.key d.w.holder) l))) :: Lob g1 (left (byHolder d.w.holder) (left (byKey d.w.key d.w.holder) l)) :: Own 34 4 A38 ((out (byKey d.w.key d.w.holder) l).length) c39 (ws (out (byKey d.w.key d.w.holder) l)) :: RLob g2 (left (byKey d.w.key d.w.holder) l) :: Own 28 4 A36 ((out (byKey d.w.key d.w.holder) l).length) c37 (ws (out (byKey d.w.key d.w.holder) l)) :: .blk g3 [.int .i64 d.w.num, .string (str d.w.key), .int .i64 d.w.waiter, .int .i64 d.w.holder] 28 :: L) w := s
                have hS : (fun w => Reads w 5 (some ad) n (deeds ds) ∧ BlkIs g3 [.int .i64 d.w.num, .string (str d.w.key), .int .i64 d.w.waiter, .int .i64 d.w.holder] w ∧ True) w := ⟨(hr _ s.sat.tail.tail.tail.tail.tail.tail), s.blkIs 5 rfl, trivial⟩
                refine ⟨_, rfl, hS, ?_⟩; clear ha; intro a ha
                refine Head.done (by kernel_rfl) ?_
                clear hS; simp only [List.drop_succ_cons, List.drop_zero]
                replace s := s.at_ (j := 3) rfl
                replace s : St W (RLob g2 (left (byKey d.w.key d.w.holder) l) :: Own 28 4 A41 ((out (byHolder d.w.holder) (left (byKey d.w.key d.w.holder) l)).length) c42 (ws (out (byHolder d.w.holder) (left (byKey d.w.key d.w.holder) l))) :: Lob g1 (left (byHolder d.w.holder) (left (byKey d.w.key d.w.holder) l)) :: Own 34 4 A38 ((out (byKey d.w.key d.w.holder) l).length) c39 (ws (out (byKey d.w.key d.w.holder) l)) :: Own 28 4 A36 ((out (byKey d.w.key d.w.holder) l).length) c37 (ws (out (byKey d.w.key d.w.holder) l)) :: .blk g3 [.int .i64 d.w.num, .string (str d.w.key), .int .i64 d.w.waiter, .int .i64 d.w.holder] 28 :: L) w := s
                refine st_call ha (by kernel_rfl) (by kernel_rfl) (rfree_lob W _ w g2 (left (byKey d.w.key d.w.holder) l) d.w.holder (ok.left (byKey d.w.key d.w.holder)) s) ?_
                rintro _ w ⟨A43, c44, rfl, s⟩
                replace s : St W (Own 34 4 A43 ((out (byHolder d.w.holder) (left (byKey d.w.key d.w.holder) l)).length) c44 (ws (out (byHolder d.w.holder) (left (byKey d.w.key d.w.holder) l))) :: RLob g2 (left (byHolder d.w.holder) (left (byKey d.w.key d.w.holder) l)) :: Own 28 4 A41 ((out (byHolder d.w.holder) (left (byKey d.w.key d.w.holder) l)).length) c42 (ws (out (byHolder d.w.holder) (left (byKey d.w.key d.w.holder) l))) :: Lob g1 (left (byHolder d.w.holder) (left (byKey d.w.key d.w.holder) l)) :: Own 34 4 A38 ((out (byKey d.w.key d.w.holder) l).length) c39 (ws (out (byKey d.w.key d.w.holder) l)) :: Own 28 4 A36 ((out (byKey d.w.key d.w.holder) l).length) c37 (ws (out (byKey d.w.key d.w.holder) l)) :: .blk g3 [.int .i64 d.w.num, .string (str d.w.key), .int .i64 d.w.waiter, .int .i64 d.w.holder] 28 :: L) w := s
                refine ⟨_, rfl, ?_⟩; clear ha; intro a ha
                have hol_ : (out (byHolder d.w.holder) (left (byKey d.w.key d.w.holder) l)).length ≤ 64 := Nat.le_trans (out_le _ _) ((ok.left (byKey d.w.key d.w.holder))).2
                refine st_call ha (by kernel_rfl) (by kernel_rfl) (like_is W _ w A41 A43 _ _ c42 c44 (out (byHolder d.w.holder) (left (byKey d.w.key d.w.holder) l)) (Knows.own (j := 2) rfl) (Knows.own (j := 0) rfl) rfl rfl (by omega) s) ?_
                rintro _ w ⟨rfl, s⟩
                replace s : St W (Own 34 4 A43 ((out (byHolder d.w.holder) (left (byKey d.w.key d.w.holder) l)).length) c44 (ws (out (byHolder d.w.holder) (left (byKey d.w.key d.w.holder) l))) :: RLob g2 (left (byHolder d.w.holder) (left (byKey d.w.key d.w.holder) l)) :: Own 28 4 A41 ((out (byHolder d.w.holder) (left (byKey d.w.key d.w.holder) l)).length) c42 (ws (out (byHolder d.w.holder) (left (byKey d.w.key d.w.holder) l))) :: Lob g1 (left (byHolder d.w.holder) (left (byKey d.w.key d.w.holder) l)) :: Own 34 4 A38 ((out (byKey d.w.key d.w.holder) l).length) c39 (ws (out (byKey d.w.key d.w.holder) l)) :: Own 28 4 A36 ((out (byKey d.w.key d.w.holder) l).length) c37 (ws (out (byKey d.w.key d.w.holder) l)) :: .blk g3 [.int .i64 d.w.num, .string (str d.w.key), .int .i64 d.w.waiter, .int .i64 d.w.holder] 28 :: L) w := s
                refine ⟨_, rfl, ?_⟩; clear ha; intro a ha
                refine st_val (.bool false) ha (by kernel_rfl) (by kernel_rfl) ?_
                clear ha; intro a ha
                refine st_val (.bool false) ha (by kernel_rfl) (by kernel_rfl) ?_
                clear ha; intro a ha
                refine wpList_nil ?_
                refine then_normal ?_
                refine wp_false ha rfl (by kernel_rfl) ?_
                refine wp_skip ?_
                refine then_normal ?_
                refine wp_seq ?_
                refine wp_region_lit ?_
                refine st_val (.int .i64 0) ha (by kernel_rfl) (by kernel_rfl) ?_
                clear ha; intro a ha
                refine wpList_nil ?_
                refine then_normal ?_
                refine wp_block ?_
                replace s := s.at_ (j := 1) rfl
                replace s : St W (RLob g2 (left (byHolder d.w.holder) (left (byKey d.w.key d.w.holder) l)) :: Own 34 4 A43 ((out (byHolder d.w.holder) (left (byKey d.w.key d.w.holder) l)).length) c44 (ws (out (byHolder d.w.holder) (left (byKey d.w.key d.w.holder) l))) :: Own 28 4 A41 ((out (byHolder d.w.holder) (left (byKey d.w.key d.w.holder) l)).length) c42 (ws (out (byHolder d.w.holder) (left (byKey d.w.key d.w.holder) l))) :: Lob g1 (left (byHolder d.w.holder) (left (byKey d.w.key d.w.holder) l)) :: Own 34 4 A38 ((out (byKey d.w.key d.w.holder) l).length) c39 (ws (out (byKey d.w.key d.w.holder) l)) :: Own 28 4 A36 ((out (byKey d.w.key d.w.holder) l).length) c37 (ws (out (byKey d.w.key d.w.holder) l)) :: .blk g3 [.int .i64 d.w.num, .string (str d.w.key), .int .i64 d.w.waiter, .int .i64 d.w.holder] 28 :: L) w := s
                replace s := s.at_ (j := 3) rfl
                replace s : St W (Lob g1 (left (byHolder d.w.holder) (left (byKey d.w.key d.w.holder) l)) :: RLob g2 (left (byHolder d.w.holder) (left (byKey d.w.key d.w.holder) l)) :: Own 34 4 A43 ((out (byHolder d.w.holder) (left (byKey d.w.key d.w.holder) l)).length) c44 (ws (out (byHolder d.w.holder) (left (byKey d.w.key d.w.holder) l))) :: Own 28 4 A41 ((out (byHolder d.w.holder) (left (byKey d.w.key d.w.holder) l)).length) c42 (ws (out (byHolder d.w.holder) (left (byKey d.w.key d.w.holder) l))) :: Own 34 4 A38 ((out (byKey d.w.key d.w.holder) l).length) c39 (ws (out (byKey d.w.key d.w.holder) l)) :: Own 28 4 A36 ((out (byKey d.w.key d.w.holder) l).length) c37 (ws (out (byKey d.w.key d.w.holder) l)) :: .blk g3 [.int .i64 d.w.num, .string (str d.w.key), .int .i64 d.w.waiter, .int .i64 d.w.holder] 28 :: L) w := s
                replace s := s.at_ (j := 5) rfl
                replace s : St W (Own 28 4 A36 ((out (byKey d.w.key d.w.holder) l).length) c37 (ws (out (byKey d.w.key d.w.holder) l)) :: Lob g1 (left (byHolder d.w.holder) (left (byKey d.w.key d.w.holder) l)) :: RLob g2 (left (byHolder d.w.holder) (left (byKey d.w.key d.w.holder) l)) :: Own 34 4 A43 ((out (byHolder d.w.holder) (left (byKey d.w.key d.w.holder) l)).length) c44 (ws (out (byHolder d.w.holder) (left (byKey d.w.key d.w.holder) l))) :: Own 28 4 A41 ((out (byHolder d.w.holder) (left (byKey d.w.key d.w.holder) l)).length) c42 (ws (out (byHolder d.w.holder) (left (byKey d.w.key d.w.holder) l))) :: Own 34 4 A38 ((out (byKey d.w.key d.w.holder) l).length) c39 (ws (out (byKey d.w.key d.w.holder) l)) :: .blk g3 [.int .i64 d.w.num, .string (str d.w.key), .int .i64 d.w.waiter, .int .i64 d.w.holder] 28 :: L) w := s
                replace s : St W (Own 28 4 A36 ((out (byKey d.w.key d.w.holder) l).length) c37 (ws (out (byKey d.w.key d.w.holder) l)) :: Lob g1 (left (byHolder d.w.holder) (left (byKey d.w.key d.w.holder) l)) :: RLob g2 (left (byHolder d.w.holder) (left (byKey d.w.key d.w.holder) l)) :: L) w := St.mid (A := [Own 28 4 A36 ((out (byKey d.w.key d.w.holder) l).length) c37 (ws (out (byKey d.w.key d.w.holder) l)), Lob g1 (left (byHolder d.w.holder) (left (byKey d.w.key d.w.holder) l)), RLob g2 (left (byHolder d.w.holder) (left (byKey d.w.key d.w.holder) l))]) (B := [Own 34 4 A43 ((out (byHolder d.w.holder) (left (byKey d.w.key d.w.holder) l)).length) c44 (ws (out (byHolder d.w.holder) (left (byKey d.w.key d.w.holder) l))), Own 28 4 A41 ((out (byHolder d.w.holder) (left (byKey d.w.key d.w.holder) l)).length) c42 (ws (out (byHolder d.w.holder) (left (byKey d.w.key d.w.holder) l))), Own 34 4 A38 ((out (byKey d.w.key d.w.holder) l).length) c39 (ws (out (byKey d.w.key d.w.holder) l)), .blk g3 [.int .i64 d.w.num, .string (str d.w.key), .int .i64 d.w.waiter, .int .i64 d.w.holder] 28]) s
                refine wp_loopG (G := (Nat × List Value)) (fun ⟨m, X⟩ a w => Has a 150 [(0, .slice (some ad) n c), (3, .pointer (some ⟨g1, 0, none⟩)), (4, .pointer (some ⟨g2, 0, none⟩)), (5, .int .i64 ((k : Nat) : Int)), (11, .slice A36 ((out (byKey d.w.key d.w.holder) l).length) c37), (13, .int .i64 ((m : Nat) : Int))] ∧ St W (Own 28 4 A36 ((out (byKey d.w.key d.w.holder) l).length) c37 X :: Lob g1 (left (byHolder d.w.holder) (left (byKey d.w.key d.w.holder) l)) :: RLob g2 (left (byHolder d.w.holder) (left (byKey d.w.key d.w.holder) l)) :: L) w ∧ (m ≤ (out (byKey d.w.key d.w.holder) l).length)) (fun ⟨m, X⟩ => (out (byKey d.w.key d.w.holder) l).length - m) (0, ws (out (byKey d.w.key d.w.holder) l)) ?_ ?_
                · exact ⟨(Has.cons ha (by kernel_rfl) (by kernel_rfl) (Has.cons ha (by kernel_rfl) (by kernel_rfl) (Has.cons ha (by kernel_rfl) (by kernel_rfl) (Has.cons ha (by kernel_rfl) (by kernel_rfl) (Has.cons ha (by kernel_rfl) (by kernel_rfl) (Has.cons ha (by kernel_rfl) (by kernel_rfl) (Has.nil ha))))))), s, Nat.zero_le _⟩
                · clear ha s; rintro ⟨m, X⟩ a w ⟨ha, s, hp⟩
                  refine wp_seq ?_
                  refine wp_seq ?_
                  refine wp_region_lit ?_
                  refine st_val (.int .i64 ((m : Nat) : Int)) ha (by kernel_rfl) (by kernel_rfl) ?_
                  clear ha; intro a ha
                  refine st_val (.slice A36 ((out (byKey d.w.key d.w.holder) l).length) c37) ha (by kernel_rfl) (by kernel_rfl) ?_
                  clear ha; intro a ha
                  refine st_val (.int .i64 (((out (byKey d.w.key d.w.holder) l).length : Nat) : Int)) ha (by kernel_rfl) (by kernel_rfl) ?_
                  clear ha; intro a ha
                  refine st_val (.bool (decide (((m : Nat) : Int) < (((out (byKey d.w.key d.w.holder) l).length : Nat) : Int)))) ha (by kernel_rfl) (by kernel_rfl) ?_
                  clear ha; intro a ha
                  refine wpList_nil ?_
                  refine then_normal ?_
                  refine wp_part (decide (((m : Nat) : Int) < (((out (byKey d.w.key d.w.holder) l).length : Nat) : Int))) ha rfl (by kernel_rfl) (fun hb => ?_) (fun hb => ?_)
                  · rw [hb] at ha; replace hb : (((m : Nat) : Int) < (((out (byKey d.w.key d.w.holder) l).length : Nat) : Int)) := of_decide_eq_true hb
                    obtain ⟨ax45, hX⟩ := Own.addr (s.at_ (j := 0) rfl) (by omega)
                    subst hX
                    have hXl := (Own.facts (s.at_ (j := 0) rfl).1).1
                    refine wp_skip ?_
                    refine then_normal ?_
                    refine wp_seq ?_
                    refine wp_block ?_
                    refine wp_region_lit ?_
                    refine st_val (.slice (some ax45) ((out (byKey d.w.key d.w.holder) l).length) c37) ha (by kernel_rfl) (by kernel_rfl) ?_
                    clear ha; intro a ha
                    refine st_val (.int .i64 ((m : Nat) : Int)) ha (by kernel_rfl) (by kernel_rfl) ?_
                    clear ha; intro a ha
                    refine st_val (.pointer (some (ax45.add (m * 4)))) ha (by kernel_rfl) (run_indexAddr' (kd := .i64) (i := ((m : Nat) : Int)) (n := ((out (byKey d.w.key d.w.holder) l).length)) (c := c37) m rfl Try.underlying37 Try.sizeOf28 (by kernel_rfl) (by kernel_rfl) rfl (by first | assumption | omega) _) ?_
                    clear ha; intro a ha
                    refine st_val (.pointer (some (ax45.add (m * 4 + 0)))) ha (by kernel_rfl) (run_fieldAddr_at (i := m * 4) (off := 0) rfl Try.underlying28 rfl Try.sizeOf3 (by kernel_rfl) _) ?_
                    clear ha; intro a ha
                    refine st_exd ha (by kernel_rfl) (ex_store_own (i := m * 4 + 0) 0 [.int .i64 (-1)] s rfl rfl rfl (by kernel_rfl) (by kernel_rfl) (Try.sizeOf3 _) rfl (by simp [Value.oneCell']) (by simp) (by rw [hXl]; simp only [List.length_cons, List.length_nil]; omega)) ?_
                    clear ha; rintro w a s ha
                    replace s : St W (Own 28 4 (some ax45) ((out (byKey d.w.key d.w.holder) l).length) c37 (putAt X (m * 4 + 0) [.int .i64 (-1)]) :: Lob g1 (left (byHolder d.w.holder) (left (byKey d.w.key d.w.holder) l)) :: RLob g2 (left (byHolder d.w.holder) (left (byKey d.w.key d.w.holder) l)) :: L) w := s
                    refine wpList_nil ?_
                    refine block_normal ?_
                    refine then_normal ?_
                    refine wp_region_lit ?_
                    refine st_val (.int .i64 ((m : Nat) : Int)) ha (by kernel_rfl) (by kernel_rfl) ?_
                    clear ha; intro a ha
                    refine st_val (.int .i64 ((m + 1 : Nat) : Int)) ha (by kernel_rfl) (run_arith (((m : Nat) : Int) + (1 : Int)) ((m + 1 : Nat) : Int) rfl (by kernel_rfl) (by kernel_rfl) (.inl ⟨rfl, rfl⟩) (by rw [wrap64_in (by omega)]; try omega) _) ?_
                    clear ha; intro a ha
                    refine st_val (.int .i64 ((m + 1 : Nat) : Int)) ha (by kernel_rfl) (by kernel_rfl) ?_
                    clear ha; intro a ha
                    refine wpList_nil ?_
                    refine then_normal ?_
                    exact ⟨(m + 1, putAt X (m * 4 + 0) [.int .i64 (-1)]), (show (out (byKey d.w.key d.w.holder) l).length - (m + 1) < (out (byKey d.w.key d.w.holder) l).length - m by omega), (Has.cons ha (by kernel_rfl) (by kernel_rfl) (Has.cons ha (by kernel_rfl) (by kernel_rfl) (Has.cons ha (by kernel_rfl) (by kernel_rfl) (Has.cons ha (by kernel_rfl) (by kernel_rfl) (Has.cons ha (by kernel_rfl) (by kernel_rfl) (Has.cons ha (by kernel_rfl) (by kernel_rfl) (Has.nil ha))))))), s, (show m + 1 ≤ (out (byKey d.w.key d.w.holder) l).length by omega)⟩
                  · rw [hb] at ha; replace hb : ¬ (((m : Nat) : Int) < (((out (byKey d.w.key d.w.holder) l).length : Nat) : Int)) := of_decide_eq_false hb
                    refine wp_exit ?_
                    refine then_exit ?_
                    refine then_exit ?_
                    refine block_hit ?_
                    refine block_normal ?_
                    refine then_normal ?_
                    refine wp_seq ?_
                    refine wp_region_lit ?_
                    refine st_val (.pointer (some ⟨g1, 0, none⟩)) ha (by kernel_rfl) (by kernel_rfl) ?_
                    clear ha; intro a ha
                    replace s := s.at_ (j := 1) rfl
                    replace s : St W (Lob g1 (left (byHolder d.w.holder) (left (byKey d.w.key d.w.holder) l)) :: Own 28 4 A36 ((out (byKey d.w.key d.w.holder) l).length) c37 X :: RLob g2 (left (byHolder d.w.holder) (left (byKey d.w.key d.w.holder) l)) :: L) w := s
                    refine st_call ha (by kernel_rfl) (by kernel_rfl) (edges_lob W hW _ w g1 (left (byHolder d.w.holder) (left (byKey d.w.key d.w.holder) l)) ((ok.left (byKey d.w.key d.w.holder)).left (byHolder d.w.holder)) s) ?_
                    rintro _ w ⟨A46, c47, d48, rfl, hd48, s⟩
                    have hd48l := hd48.len_le
                    have hfl_ := (((ok.left (byKey d.w.key d.w.holder)).left (byHolder d.w.holder))).2
                    replace s : St W (Own 51 2 A46 d48.length c47 (pcs d48) :: Lob g1 (left (byHolder d.w.holder) (left (byKey d.w.key d.w.holder) l)) :: Own 28 4 A36 ((out (byKey d.w.key d.w.holder) l).length) c37 X :: RLob g2 (left (byHolder d.w.holder) (left (byKey d.w.key d.w.holder) l)) :: L) w := s
                    refine ⟨_, rfl, ?_⟩; clear ha; intro a ha
                    refine st_val (.slice A46 d48.length c47) ha (by kernel_rfl) (by kernel_rfl) ?_
                    clear ha; intro a ha
                    refine wpList_nil ?_
                    refine then_normal ?_
                    refine wp_seq ?_
                    refine wp_seq ?_
                    refine wp_region_lit ?_
                    refine st_val (.slice A46 d48.length c47) ha (by kernel_rfl) (by kernel_rfl) ?_
                    clear ha; intro a ha
                    refine st_val (.pointer (some ⟨g2, 0, none⟩)) ha (by kernel_rfl) (by kernel_rfl) ?_
                    clear ha; intro a ha
                    replace s := s.at_ (j := 3) rfl
                    replace s : St W (RLob g2 (left (byHolder d.w.holder) (left (byKey d.w.key d.w.holder) l)) :: Own 51 2 A46 d48.length c47 (pcs d48) :: Lob g1 (left (byHolder d.w.holder) (left (byKey d.w.key d.w.holder) l)) :: Own 28 4 A36 ((out (byKey d.w.key d.w.holder) l).length) c37 X :: L) w := s
                    refine st_call ha (by kernel_rfl) (by kernel_rfl) (redges_is W _ w g2 (left (byHolder d.w.holder) (left (byKey d.w.key d.w.holder) l)) d48 hd48 ((ok.left (byKey d.w.key d.w.holder)).left (byHolder d.w.holder)) s) ?_
                    rintro _ w ⟨A49, c50, rfl, s⟩
                    replace s : St W (Own 51 2 A49 d48.length c50 (pcs d48) :: RLob g2 (left (byHolder d.w.holder) (left (byKey d.w.key d.w.holder) l)) :: Own 51 2 A46 d48.length c47 (pcs d48) :: Lob g1 (left (byHolder d.w.holder) (left (byKey d.w.key d.w.holder) l)) :: Own 28 4 A36 ((out (byKey d.w.key d.w.holder) l).length) c37 X :: L) w := s
                    refine ⟨_, rfl, ?_⟩; clear ha; intro a ha
                    refine st_call ha (by kernel_rfl) (by kernel_rfl) (same_self W _ w A46 A49 d48.length d48.length c47 c50 d48 (Knows.own (j := 2) rfl) (Knows.own (j := 0) rfl) rfl rfl (by omega) s) ?_
                    rintro _ w ⟨rfl, s⟩
                    replace s : St W (Own 51 2 A49 d48.length c50 (pcs d48) :: RLob g2 (left (byHolder d.w.holder) (left (byKey d.w.key d.w.holder) l)) :: Own 51 2 A46 d48.length c47 (pcs d48) :: Lob g1 (left (byHolder d.w.holder) (left (byKey d.w.key d.w.holder) l)) :: Own 28 4 A36 ((out (byKey d.w.key d.w.holder) l).length) c37 X :: L) w := s
                    refine ⟨_, rfl, ?_⟩; clear ha; intro a ha
                    refine st_val (.bool false) ha (by kernel_rfl) (by kernel_rfl) ?_
                    clear ha; intro a ha
                    refine st_val (.bool false) ha (by kernel_rfl) (by kernel_rfl) ?_
                    clear ha; intro a ha
                    refine st_val (.pointer (some ⟨g1, 0, none⟩)) ha (by kernel_rfl) (by kernel_rfl) ?_
                    clear ha; intro a ha
                    replace s := s.at_ (j := 3) rfl
                    replace s : St W (Lob g1 (left (byHolder d.w.holder) (left (byKey d.w.key d.w.holder) l)) :: Own 51 2 A49 d48.length c50 (pcs d48) :: RLob g2 (left (byHolder d.w.holder) (left (byKey d.w.key d.w.holder) l)) :: Own 51 2 A46 d48.length c47 (pcs d48) :: Own 28 4 A36 ((out (byKey d.w.key d.w.holder) l).length) c37 X :: L) w := s
                    refine st_call ha (by kernel_rfl) (by kernel_rfl) (len_lob W _ w g1 (left (byHolder d.w.holder) (left (byKey d.w.key d.w.holder) l)) ((ok.left (byKey d.w.key d.w.holder)).left (byHolder d.w.holder)) s) ?_
                    rintro _ w ⟨rfl, s⟩
                    replace s : St W (Lob g1 (left (byHolder d.w.holder) (left (byKey d.w.key d.w.holder) l)) :: Own 51 2 A49 d48.length c50 (pcs d48) :: RLob g2 (left (byHolder d.w.holder) (left (byKey d.w.key d.w.holder) l)) :: Own 51 2 A46 d48.length c47 (pcs d48) :: Own 28 4 A36 ((out (byKey d.w.key d.w.holder) l).length) c37 X :: L) w := s
                    refine ⟨_, rfl, ?_⟩; clear ha; intro a ha
                    refine st_val (.pointer (some ⟨g2, 0, none⟩)) ha (by kernel_rfl) (by kernel_rfl) ?_
                    clear ha; intro a ha
                    replace s := s.at_ (j := 2) rfl
                    replace s : St W (RLob g2 (left (byHolder d.w.holder) (left (byKey d.w.key d.w.holder) l)) :: Lob g1 (left (byHolder d.w.holder) (left (byKey d.w.key d.w.holder) l)) :: Own 51 2 A49 d48.length c50 (pcs d48) :: Own 51 2 A46 d48.length c47 (pcs d48) :: Own 28 4 A36 ((out (byKey d.w.key d.w.holder) l).length) c37 X :: L) w := s
                    refine st_call ha (by kernel_rfl) (by kernel_rfl) (rlen_lob W _ w g2 (left (byHolder d.w.holder) (left (byKey d.w.key d.w.holder) l)) ((ok.left (byKey d.w.key d.w.holder)).left (byHolder d.w.holder)) s) ?_
                    rintro _ w ⟨rfl, s⟩
                    replace s : St W (RLob g2 (left (byHolder d.w.holder) (left (byKey d.w.key d.w.holder) l)) :: Lob g1 (left (byHolder d.w.holder) (left (byKey d.w.key d.w.holder) l)) :: Own 51 2 A49 d48.length c50 (pcs d48) :: Own 51 2 A46 d48.length c47 (pcs d48) :: Own 28 4 A36 ((out (byKey d.w.key d.w.holder) l).length) c37 X :: L) w := s
                    refine ⟨_, rfl, ?_⟩; clear ha; intro a ha
                    refine st_val (.bool false) ha (by kernel_rfl) (run_known (bne_self_eq_false _) (show (execOp (evalE _) _).run _ _ = .ok (.value (.bool ((((left (byHolder d.w.holder) (left (byKey d.w.key d.w.holder) l)).length : Nat) : Int) != (((left (byHolder d.w.holder) (left (byKey d.w.key d.w.holder) l)).length : Nat) : Int)))) _ from by kernel_rfl)) ?_
                    clear ha; intro a ha
                    refine st_val (.bool false) ha (by kernel_rfl) (by kernel_rfl) ?_
                    clear ha; intro a ha
                    refine wpList_nil ?_
                    refine then_normal ?_
                    refine wp_false ha rfl (by kernel_rfl) ?_
                    refine wp_skip ?_
                    refine then_normal ?_
                    refine wp_seq ?_
                    refine wp_region_lit ?_
                    refine st_val (.int .i64 0) ha (by kernel_rfl) (by kernel_rfl) ?_
                    clear ha; intro a ha
                    refine wpList_nil ?_
                    refine then_normal ?_
                    refine wp_block ?_
                    replace s := s.at_ (j := 1) rfl
                    replace s : St W (Lob g1 (left (byHolder d.w.holder) (left (byKey d.w.key d.w.holder) l)) :: RLob g2 (left (byHolder d.w.holder) (left (byKey d.w.key d.w.holder) l)) :: Own 51 2 A49 d48.length c50 (pcs d48) :: Own 51 2 A46 d48.length c47 (pcs d48) :: Own 28 4 A36 ((out (byKey d.w.key d.w.holder) l).length) c37 X :: L) w := s
                    replace s := s.at_ (j := 3) rfl
                    replace s : St W (Own 51 2 A46 d48.length c47 (pcs d48) :: Lob g1 (left (byHolder d.w.holder) (left (byKey d.w.key d.w.holder) l)) :: RLob g2 (left (byHolder d.w.holder) (left (byKey d.w.key d.w.holder) l)) :: Own 51 2 A49 d48.length c50 (pcs d48) :: Own 28 4 A36 ((out (byKey d.w.key d.w.holder) l).length) c37 X :: L) w := s
                    replace s : St W (Own 51 2 A46 d48.length c47 (pcs d48) :: Lob g1 (left (byHolder d.w.holder) (left (byKey d.w.key d.w.holder) l)) :: RLob g2 (left (byHolder d.w.holder) (left (byKey d.w.key d.w.holder) l)) :: L) w := St.mid (A := [Own 51 2 A46 d48.length c47 (pcs d48), Lob g1 (left (byHolder d.w.holder) (left (byKey d.w.key d.w.holder) l)), RLob g2 (left (byHolder d.w.holder) (left (byKey d.w.key d.w.holder) l))]) (B := [Own 51 2 A49 d48.length c50 (pcs d48), Own 28 4 A36 ((out (byKey d.w.key d.w.holder) l).length) c37 X]) s
                    refine wp_loopG (G := (Nat × List Value)) (fun ⟨m, X⟩ a w => Has a 150 [(0, .slice (some ad) n c), (3, .pointer (some ⟨g1, 0, none⟩)), (4, .pointer (some ⟨g2, 0, none⟩)), (5, .int .i64 ((k : Nat) : Int)), (14, .slice A46 d48.length c47), (15, .int .i64 ((m : Nat) : Int))] ∧ St W (Own 51 2 A46 d48.length c47 X :: Lob g1 (left (byHolder d.w.holder) (left (byKey d.w.key d.w.holder) l)) :: RLob g2 (left (byHolder d.w.holder) (left (byKey d.w.key d.w.holder) l)) :: L) w ∧ (m ≤ d48.length)) (fun ⟨m, X⟩ => d48.length - m) (0, pcs d48) ?_ ?_
                    · exact ⟨(Has.cons ha (by kernel_rfl) (by kernel_rfl) (Has.cons ha (by kernel_rfl) (by kernel_rfl) (Has.cons ha (by kernel_rfl) (by kernel_rfl) (Has.cons ha (by kernel_rfl) (by kernel_rfl) (Has.cons ha (by kernel_rfl) (by kernel_rfl) (Has.cons ha (by kernel_rfl) (by kernel_rfl) (Has.nil ha))))))), s, Nat.zero_le _⟩
                    · clear ha s; rintro ⟨m, X⟩ a w ⟨ha, s, hp⟩
                      refine wp_seq ?_
                      refine wp_seq ?_
                      refine wp_region_lit ?_
                      refine st_val (.int .i64 ((m : Nat) : Int)) ha (by kernel_rfl) (by kernel_rfl) ?_
                      clear ha; intro a ha
                      refine st_val (.slice A46 d48.length c47) ha (by kernel_rfl) (by kernel_rfl) ?_
                      clear ha; intro a ha
                      refine st_val (.int .i64 ((d48.length : Nat) : Int)) ha (by kernel_rfl) (by kernel_rfl) ?_
                      clear ha; intro a ha
                      refine st_val (.bool (decide (((m : Nat) : Int) < ((d48.length : Nat) : Int)))) ha (by kernel_rfl) (by kernel_rfl) ?_
                      clear ha; intro a ha
                      refine wpList_nil ?_
                      refine then_normal ?_
                      refine wp_part (decide (((m : Nat) : Int) < ((d48.length : Nat) : Int))) ha rfl (by kernel_rfl) (fun hb => ?_) (fun hb => ?_)
                      · rw [hb] at ha; replace hb : (((m : Nat) : Int) < ((d48.length : Nat) : Int)) := of_decide_eq_true hb
                        obtain ⟨ax51, hX⟩ := Own.addr (s.at_ (j := 0) rfl) (by omega)
                        subst hX
                        have hXl := (Own.facts (s.at_ (j := 0) rfl).1).1
                        refine wp_skip ?_
                        refine then_normal ?_
                        refine wp_seq ?_
                        refine wp_block ?_
                        refine wp_region_lit ?_
                        refine st_val (.slice (some ax51) d48.length c47) ha (by kernel_rfl) (by kernel_rfl) ?_
                        clear ha; intro a ha
                        refine st_val (.int .i64 ((m : Nat) : Int)) ha (by kernel_rfl) (by kernel_rfl) ?_
                        clear ha; intro a ha
                        refine st_val (.agg #[.int .i64 0, .int .i64 0]) ha (by kernel_rfl) (by kernel_rfl) ?_
                        clear ha; intro a ha
                        refine st_val (.pointer (some (ax51.add (m * 2)))) ha (by kernel_rfl) (run_indexAddr' (kd := .i64) (i := ((m : Nat) : Int)) (n := d48.length) (c := c47) m rfl Try.underlying47 Try.sizeOf51 (by kernel_rfl) (by kernel_rfl) rfl (by first | assumption | omega) _) ?_
                        clear ha; intro a ha
                        refine st_exd ha (by kernel_rfl) (ex_store_own (i := m * 2) 0 [.int .i64 0, .int .i64 0] s rfl rfl rfl (by kernel_rfl) (by kernel_rfl) (Try.sizeOf51 _) rfl (by simp [Value.oneCell']) (by simp) (by rw [hXl]; simp only [List.length_cons, List.length_nil]; omega)) ?_
                        clear ha; rintro w a s ha
                        replace s : St W (Own 51 2 (some ax51) d48.length c47 (putAt X (m * 2) [.int .i64 0, .int .i64 0]) :: Lob g1 (left (byHolder d.w.holder) (left (byKey d.w.key d.w.holder) l)) :: RLob g2 (left (byHolder d.w.holder) (left (byKey d.w.key d.w.holder) l)) :: L) w := s
                        refine wpList_nil ?_
                        refine block_normal ?_
                        refine then_normal ?_
                        refine wp_region_lit ?_
                        refine st_val (.int .i64 ((m : Nat) : Int)) ha (by kernel_rfl) (by kernel_rfl) ?_
                        clear ha; intro a ha
                        refine st_val (.int .i64 ((m + 1 : Nat) : Int)) ha (by kernel_rfl) (run_arith (((m : Nat) : Int) + (1 : Int)) ((m + 1 : Nat) : Int) rfl (by kernel_rfl) (by kernel_rfl) (.inl ⟨rfl, rfl⟩) (by rw [wrap64_in (by omega)]; try omega) _) ?_
                        clear ha; intro a ha
                        refine st_val (.int .i64 ((m + 1 : Nat) : Int)) ha (by kernel_rfl) (by kernel_rfl) ?_
                        clear ha; intro a ha
                        refine wpList_nil ?_
                        refine then_normal ?_
                        exact ⟨(m + 1, putAt X (m * 2) [.int .i64 0, .int .i64 0]), (show d48.length - (m + 1) < d48.length - m by omega), (Has.cons ha (by kernel_rfl) (by kernel_rfl) (Has.cons ha (by kernel_rfl) (by kernel_rfl) (Has.cons ha (by kernel_rfl) (by kernel_rfl) (Has.cons ha (by kernel_rfl) (by kernel_rfl) (Has.cons ha (by kernel_rfl) (by kernel_rfl) (Has.cons ha (by kernel_rfl) (by kernel_rfl) (Has.nil ha))))))), s, (show m + 1 ≤ d48.length by omega)⟩
                      · rw [hb] at ha; replace hb : ¬ (((m : Nat) : Int) < ((d48.length : Nat) : Int)) := of_decide_eq_false hb
                        refine wp_exit ?_
                        refine then_exit ?_
                        refine then_exit ?_
                        refine block_hit ?_
                        refine block_normal ?_
                        refine then_normal ?_
                        refine wp_region_lit ?_
                        refine st_val (.int .i64 ((k : Nat) : Int)) ha (by kernel_rfl) (by kernel_rfl) ?_
                        clear ha; intro a ha
                        refine st_val (.int .i64 ((k + 1 : Nat) : Int)) ha (by kernel_rfl) (run_arith (((k : Nat) : Int) + (1 : Int)) ((k + 1 : Nat) : Int) rfl (by kernel_rfl) (by kernel_rfl) (.inl ⟨rfl, rfl⟩) (by rw [wrap64_in (by omega)]; try omega) _) ?_
                        clear ha; intro a ha
                        refine st_val (.int .i64 ((k + 1 : Nat) : Int)) ha (by kernel_rfl) (by kernel_rfl) ?_
                        clear ha; intro a ha
                        refine wpList_nil ?_
                        refine then_normal ?_
                        replace s := s.at_ (j := 2) rfl
                        replace s : St W (RLob g2 (left (byHolder d.w.holder) (left (byKey d.w.key d.w.holder) l)) :: Own 51 2 A46 d48.length c47 X :: Lob g1 (left (byHolder d.w.holder) (left (byKey d.w.key d.w.holder) l)) :: L) w := s
                        replace s := s.at_ (j := 2) rfl
                        replace s : St W (Lob g1 (left (byHolder d.w.holder) (left (byKey d.w.key d.w.holder) l)) :: RLob g2 (left (byHolder d.w.holder) (left (byKey d.w.key d.w.holder) l)) :: Own 51 2 A46 d48.length c47 X :: L) w := s
                        replace s : St W (Lob g1 (left (byHolder d.w.holder) (left (byKey d.w.key d.w.holder) l)) :: RLob g2 (left (byHolder d.w.holder) (left (byKey d.w.key d.w.holder) l)) :: L) w := St.mid (A := [Lob g1 (left (byHolder d.w.holder) (left (byKey d.w.key d.w.holder) l)), RLob g2 (left (byHolder d.w.holder) (left (byKey d.w.key d.w.holder) l))]) (B := [Own 51 2 A46 d48.length c47 X]) s
                        exact ⟨(k + 1, left (byHolder d.w.holder) (left (byKey d.w.key d.w.holder) l)), (show 200 - (k + 1) < 200 - k by omega), (Has.cons ha (by kernel_rfl) (by kernel_rfl) (Has.cons ha (by kernel_rfl) (by kernel_rfl) (Has.cons ha (by kernel_rfl) (by kernel_rfl) (Has.cons ha (by kernel_rfl) (by kernel_rfl) (Has.nil ha))))), s, (show k + 1 ≤ 200 by omega), ((ok.left (byKey d.w.key d.w.holder)).left (byHolder d.w.holder))⟩
              · rw [hb] at ha; have hb_ := hb; replace hb := ne_of_beq_false hb
                refine hd_pass (i := 8) ha rfl (by kernel_rfl) (fun _ _ _ h => h) (by kernel_rfl) hS ?_
                clear ha; intro a ha
                refine hd_pass (i := 9) ha rfl (by kernel_rfl) (fun _ _ _ h => h) (by kernel_rfl) hS ?_
                clear ha; intro a ha
                refine hd_pass (i := 10) ha rfl (by kernel_rfl) (fun _ _ _ h => h) (by kernel_rfl) hS ?_
                clear ha; intro a ha
                refine hd_pass (i := 12) ha rfl (by kernel_rfl) (fun _ _ _ h => h) (by kernel_rfl) hS ?_
                clear ha; intro a ha
                refine hd_pass (i := 13) ha rfl (by kernel_rfl) (fun _ _ _ h => h) (by kernel_rfl) hS ?_
                clear ha; intro a ha
                refine hd_pass (i := 14) ha rfl (by kernel_rfl) (fun _ _ _ h => h) (by kernel_rfl) hS ?_
                clear ha; intro a ha
                refine hd_pass (i := 11) ha rfl (by kernel_rfl) (fun _ _ _ h => h) (by kernel_rfl) hS ?_
                clear ha; intro a ha
                refine Head.done (by kernel_rfl) ?_
                clear hS; simp only [List.drop_succ_cons, List.drop_zero]
                refine st_pass ha (by kernel_rfl) ?_
                clear ha; intro a ha
                refine st_pass ha (by kernel_rfl) ?_
                clear ha; intro a ha
                refine st_pass ha (by kernel_rfl) ?_
                clear ha; intro a ha
                refine st_val (.bool false) ha (by kernel_rfl) (by kernel_rfl) ?_
                clear ha; intro a ha
                refine wpList_nil ?_
                refine then_normal ?_
                refine wp_false ha rfl (by kernel_rfl) ?_
                refine wp_skip ?_
                refine then_normal ?_
                refine wp_seq ?_
                refine wp_region_lit ?_
                refine st_val (.int .i64 0) ha (by kernel_rfl) (by kernel_rfl) ?_
                clear ha; intro a ha
                refine wpList_nil ?_
                refine then_normal ?_
                refine wp_block ?_
                replace s := s.at_ (j := 1) rfl
                replace s : St W (RLob g2 (left (byKey d.w.key d.w.holder) l) :: Own 34 4 A38 ((out (byKey d.w.key d.w.holder) l).length) c39 (ws (out (byKey d.w.key d.w.holder) l)) :: Own 28 4 A36 ((out (byKey d.w.key d.w.holder) l).length) c37 (ws (out (byKey d.w.key d.w.holder) l)) :: Lob g1 (left (byKey d.w.key d.w.holder) l) :: .blk g3 [.int .i64 d.w.num, .string (str d.w.key), .int .i64 d.w.waiter, .int .i64 d.w.holder] 28 :: L) w := s
                replace s := s.at_ (j := 3) rfl
                replace s : St W (Lob g1 (left (byKey d.w.key d.w.holder) l) :: RLob g2 (left (byKey d.w.key d.w.holder) l) :: Own 34 4 A38 ((out (byKey d.w.key d.w.holder) l).length) c39 (ws (out (byKey d.w.key d.w.holder) l)) :: Own 28 4 A36 ((out (byKey d.w.key d.w.holder) l).length) c37 (ws (out (byKey d.w.key d.w.holder) l)) :: .blk g3 [.int .i64 d.w.num, .string (str d.w.key), .int .i64 d.w.waiter, .int .i64 d.w.holder] 28 :: L) w := s
                replace s := s.at_ (j := 3) rfl
                replace s : St W (Own 28 4 A36 ((out (byKey d.w.key d.w.holder) l).length) c37 (ws (out (byKey d.w.key d.w.holder) l)) :: Lob g1 (left (byKey d.w.key d.w.holder) l) :: RLob g2 (left (byKey d.w.key d.w.holder) l) :: Own 34 4 A38 ((out (byKey d.w.key d.w.holder) l).length) c39 (ws (out (byKey d.w.key d.w.holder) l)) :: .blk g3 [.int .i64 d.w.num, .string (str d.w.key), .int .i64 d.w.waiter, .int .i64 d.w.holder] 28 :: L) w := s
                replace s : St W (Own 28 4 A36 ((out (byKey d.w.key d.w.holder) l).length) c37 (ws (out (byKey d.w.key d.w.holder) l)) :: Lob g1 (left (byKey d.w.key d.w.holder) l) :: RLob g2 (left (byKey d.w.key d.w.holder) l) :: L) w := St.mid (A := [Own 28 4 A36 ((out (byKey d.w.key d.w.holder) l).length) c37 (ws (out (byKey d.w.key d.w.holder) l)), Lob g1 (left (byKey d.w.key d.w.holder) l), RLob g2 (left (byKey d.w.key d.w.holder) l)]) (B := [Own 34 4 A38 ((out (byKey d.w.key d.w.holder) l).length) c39 (ws (out (byKey d.w.key d.w.holder) l)), .blk g3 [.int .i64 d.w.num, .string (str d.w.key), .int .i64 d.w.waiter, .int .i64 d.w.holder] 28]) s
                refine wp_loopG (G := (Nat × List Value)) (fun ⟨m, X⟩ a w => Has a 150 [(0, .slice (some ad) n c), (3, .pointer (some ⟨g1, 0, none⟩)), (4, .pointer (some ⟨g2, 0, none⟩)), (5, .int .i64 ((k : Nat) : Int)), (11, .slice A36 ((out (byKey d.w.key d.w.holder) l).length) c37), (13, .int .i64 ((m : Nat) : Int))] ∧ St W (Own 28 4 A36 ((out (byKey d.w.key d.w.holder) l).length) c37 X :: Lob g1 (left (byKey d.w.key d.w.holder) l) :: RLob g2 (left (byKey d.w.key d.w.holder) l) :: L) w ∧ (m ≤ (out (byKey d.w.key d.w.holder) l).length)) (fun ⟨m, X⟩ => (out (byKey d.w.key d.w.holder) l).length - m) (0, ws (out (byKey d.w.key d.w.holder) l)) ?_ ?_
                · exact ⟨(Has.cons ha (by kernel_rfl) (by kernel_rfl) (Has.cons ha (by kernel_rfl) (by kernel_rfl) (Has.cons ha (by kernel_rfl) (by kernel_rfl) (Has.cons ha (by kernel_rfl) (by kernel_rfl) (Has.cons ha (by kernel_rfl) (by kernel_rfl) (Has.cons ha (by kernel_rfl) (by kernel_rfl) (Has.nil ha))))))), s, Nat.zero_le _⟩
                · clear ha s; rintro ⟨m, X⟩ a w ⟨ha, s, hp⟩
                  refine wp_seq ?_
                  refine wp_seq ?_
                  refine wp_region_lit ?_
                  refine st_val (.int .i64 ((m : Nat) : Int)) ha (by kernel_rfl) (by kernel_rfl) ?_
                  clear ha; intro a ha
                  refine st_val (.slice A36 ((out (byKey d.w.key d.w.holder) l).length) c37) ha (by kernel_rfl) (by kernel_rfl) ?_
                  clear ha; intro a ha
                  refine st_val (.int .i64 (((out (byKey d.w.key d.w.holder) l).length : Nat) : Int)) ha (by kernel_rfl) (by kernel_rfl) ?_
                  clear ha; intro a ha
                  refine st_val (.bool (decide (((m : Nat) : Int) < (((out (byKey d.w.key d.w.holder) l).length : Nat) : Int)))) ha (by kernel_rfl) (by kernel_rfl) ?_
                  clear ha; intro a ha
                  refine wpList_nil ?_
                  refine then_normal ?_
                  refine wp_part (decide (((m : Nat) : Int) < (((out (byKey d.w.key d.w.holder) l).length : Nat) : Int))) ha rfl (by kernel_rfl) (fun hb => ?_) (fun hb => ?_)
                  · rw [hb] at ha; replace hb : (((m : Nat) : Int) < (((out (byKey d.w.key d.w.holder) l).length : Nat) : Int)) := of_decide_eq_true hb
                    obtain ⟨ax52, hX⟩ := Own.addr (s.at_ (j := 0) rfl) (by omega)
                    subst hX
                    have hXl := (Own.facts (s.at_ (j := 0) rfl).1).1
                    refine wp_skip ?_
                    refine then_normal ?_
                    refine wp_seq ?_
                    refine wp_block ?_
                    refine wp_region_lit ?_
                    refine st_val (.slice (some ax52) ((out (byKey d.w.key d.w.holder) l).length) c37) ha (by kernel_rfl) (by kernel_rfl) ?_
                    clear ha; intro a ha
                    refine st_val (.int .i64 ((m : Nat) : Int)) ha (by kernel_rfl) (by kernel_rfl) ?_
                    clear ha; intro a ha
                    refine st_val (.pointer (some (ax52.add (m * 4)))) ha (by kernel_rfl) (run_indexAddr' (kd := .i64) (i := ((m : Nat) : Int)) (n := ((out (byKey d.w.key d.w.holder) l).length)) (c := c37) m rfl Try.underlying37 Try.sizeOf28 (by kernel_rfl) (by kernel_rfl) rfl (by first | assumption | omega) _) ?_
                    clear ha; intro a ha
                    refine st_val (.pointer (some (ax52.add (m * 4 + 0)))) ha (by kernel_rfl) (run_fieldAddr_at (i := m * 4) (off := 0) rfl Try.underlying28 rfl Try.sizeOf3 (by kernel_rfl) _) ?_
                    clear ha; intro a ha
                    refine st_exd ha (by kernel_rfl) (ex_store_own (i := m * 4 + 0) 0 [.int .i64 (-1)] s rfl rfl rfl (by kernel_rfl) (by kernel_rfl) (Try.sizeOf3 _) rfl (by simp [Value.oneCell']) (by simp) (by rw [hXl]; simp only [List.length_cons, List.length_nil]; omega)) ?_
                    clear ha; rintro w a s ha
                    replace s : St W (Own 28 4 (some ax52) ((out (byKey d.w.key d.w.holder) l).length) c37 (putAt X (m * 4 + 0) [.int .i64 (-1)]) :: Lob g1 (left (byKey d.w.key d.w.holder) l) :: RLob g2 (left (byKey d.w.key d.w.holder) l) :: L) w := s
                    refine wpList_nil ?_
                    refine block_normal ?_
                    refine then_normal ?_
                    refine wp_region_lit ?_
                    refine st_val (.int .i64 ((m : Nat) : Int)) ha (by kernel_rfl) (by kernel_rfl) ?_
                    clear ha; intro a ha
                    refine st_val (.int .i64 ((m + 1 : Nat) : Int)) ha (by kernel_rfl) (run_arith (((m : Nat) : Int) + (1 : Int)) ((m + 1 : Nat) : Int) rfl (by kernel_rfl) (by kernel_rfl) (.inl ⟨rfl, rfl⟩) (by rw [wrap64_in (by omega)]; try omega) _) ?_
                    clear ha; intro a ha
                    refine st_val (.int .i64 ((m + 1 : Nat) : Int)) ha (by kernel_rfl) (by kernel_rfl) ?_
                    clear ha; intro a ha
                    refine wpList_nil ?_
                    refine then_normal ?_
                    exact ⟨(m + 1, putAt X (m * 4 + 0) [.int .i64 (-1)]), (show (out (byKey d.w.key d.w.holder) l).length - (m + 1) < (out (byKey d.w.key d.w.holder) l).length - m by omega), (Has.cons ha (by kernel_rfl) (by kernel_rfl) (Has.cons ha (by kernel_rfl) (by kernel_rfl) (Has.cons ha (by kernel_rfl) (by kernel_rfl) (Has.cons ha (by kernel_rfl) (by kernel_rfl) (Has.cons ha (by kernel_rfl) (by kernel_rfl) (Has.cons ha (by kernel_rfl) (by kernel_rfl) (Has.nil ha))))))), s, (show m + 1 ≤ (out (byKey d.w.key d.w.holder) l).length by omega)⟩
                  · rw [hb] at ha; replace hb : ¬ (((m : Nat) : Int) < (((out (byKey d.w.key d.w.holder) l).length : Nat) : Int)) := of_decide_eq_false hb
                    refine wp_exit ?_
                    refine then_exit ?_
                    refine then_exit ?_
                    refine block_hit ?_
                    refine block_normal ?_
                    refine then_normal ?_
                    refine wp_seq ?_
                    refine wp_region_lit ?_
                    refine st_val (.pointer (some ⟨g1, 0, none⟩)) ha (by kernel_rfl) (by kernel_rfl) ?_
                    clear ha; intro a ha
                    replace s := s.at_ (j := 1) rfl
                    replace s : St W (Lob g1 (left (byKey d.w.key d.w.holder) l) :: Own 28 4 A36 ((out (byKey d.w.key d.w.holder) l).length) c37 X :: RLob g2 (left (byKey d.w.key d.w.holder) l) :: L) w := s
                    refine st_call ha (by kernel_rfl) (by kernel_rfl) (edges_lob W hW _ w g1 (left (byKey d.w.key d.w.holder) l) (ok.left (byKey d.w.key d.w.holder)) s) ?_
                    rintro _ w ⟨A53, c54, d55, rfl, hd55, s⟩
                    have hd55l := hd55.len_le
                    have hfl_ := ((ok.left (byKey d.w.key d.w.holder))).2
                    replace s : St W (Own 51 2 A53 d55.length c54 (pcs d55) :: Lob g1 (left (byKey d.w.key d.w.holder) l) :: Own 28 4 A36 ((out (byKey d.w.key d.w.holder) l).length) c37 X :: RLob g2 (left (byKey d.w.key d.w.holder) l) :: L) w := s
                    refine ⟨_, rfl, ?_⟩; clear ha; intro a ha
                    refine st_val (.slice A53 d55.length c54) ha (by kernel_rfl) (by kernel_rfl) ?_
                    clear ha; intro a ha
                    refine wpList_nil ?_
                    refine then_normal ?_
                    refine wp_seq ?_
                    refine wp_seq ?_
                    refine wp_region_lit ?_
                    refine st_val (.slice A53 d55.length c54) ha (by kernel_rfl) (by kernel_rfl) ?_
                    clear ha; intro a ha
                    refine st_val (.pointer (some ⟨g2, 0, none⟩)) ha (by kernel_rfl) (by kernel_rfl) ?_
                    clear ha; intro a ha
                    replace s := s.at_ (j := 3) rfl
                    replace s : St W (RLob g2 (left (byKey d.w.key d.w.holder) l) :: Own 51 2 A53 d55.length c54 (pcs d55) :: Lob g1 (left (byKey d.w.key d.w.holder) l) :: Own 28 4 A36 ((out (byKey d.w.key d.w.holder) l).length) c37 X :: L) w := s
                    refine st_call ha (by kernel_rfl) (by kernel_rfl) (redges_is W _ w g2 (left (byKey d.w.key d.w.holder) l) d55 hd55 (ok.left (byKey d.w.key d.w.holder)) s) ?_
                    rintro _ w ⟨A56, c57, rfl, s⟩
                    replace s : St W (Own 51 2 A56 d55.length c57 (pcs d55) :: RLob g2 (left (byKey d.w.key d.w.holder) l) :: Own 51 2 A53 d55.length c54 (pcs d55) :: Lob g1 (left (byKey d.w.key d.w.holder) l) :: Own 28 4 A36 ((out (byKey d.w.key d.w.holder) l).length) c37 X :: L) w := s
                    refine ⟨_, rfl, ?_⟩; clear ha; intro a ha
                    refine st_call ha (by kernel_rfl) (by kernel_rfl) (same_self W _ w A53 A56 d55.length d55.length c54 c57 d55 (Knows.own (j := 2) rfl) (Knows.own (j := 0) rfl) rfl rfl (by omega) s) ?_
                    rintro _ w ⟨rfl, s⟩
                    replace s : St W (Own 51 2 A56 d55.length c57 (pcs d55) :: RLob g2 (left (byKey d.w.key d.w.holder) l) :: Own 51 2 A53 d55.length c54 (pcs d55) :: Lob g1 (left (byKey d.w.key d.w.holder) l) :: Own 28 4 A36 ((out (byKey d.w.key d.w.holder) l).length) c37 X :: L) w := s
                    refine ⟨_, rfl, ?_⟩; clear ha; intro a ha
                    refine st_val (.bool false) ha (by kernel_rfl) (by kernel_rfl) ?_
                    clear ha; intro a ha
                    refine st_val (.bool false) ha (by kernel_rfl) (by kernel_rfl) ?_
                    clear ha; intro a ha
                    refine st_val (.pointer (some ⟨g1, 0, none⟩)) ha (by kernel_rfl) (by kernel_rfl) ?_
                    clear ha; intro a ha
                    replace s := s.at_ (j := 3) rfl
                    replace s : St W (Lob g1 (left (byKey d.w.key d.w.holder) l) :: Own 51 2 A56 d55.length c57 (pcs d55) :: RLob g2 (left (byKey d.w.key d.w.holder) l) :: Own 51 2 A53 d55.length c54 (pcs d55) :: Own 28 4 A36 ((out (byKey d.w.key d.w.holder) l).length) c37 X :: L) w := s
                    refine st_call ha (by kernel_rfl) (by kernel_rfl) (len_lob W _ w g1 (left (byKey d.w.key d.w.holder) l) (ok.left (byKey d.w.key d.w.holder)) s) ?_
                    rintro _ w ⟨rfl, s⟩
                    replace s : St W (Lob g1 (left (byKey d.w.key d.w.holder) l) :: Own 51 2 A56 d55.length c57 (pcs d55) :: RLob g2 (left (byKey d.w.key d.w.holder) l) :: Own 51 2 A53 d55.length c54 (pcs d55) :: Own 28 4 A36 ((out (byKey d.w.key d.w.holder) l).length) c37 X :: L) w := s
                    refine ⟨_, rfl, ?_⟩; clear ha; intro a ha
                    refine st_val (.pointer (some ⟨g2, 0, none⟩)) ha (by kernel_rfl) (by kernel_rfl) ?_
                    clear ha; intro a ha
                    replace s := s.at_ (j := 2) rfl
                    replace s : St W (RLob g2 (left (byKey d.w.key d.w.holder) l) :: Lob g1 (left (byKey d.w.key d.w.holder) l) :: Own 51 2 A56 d55.length c57 (pcs d55) :: Own 51 2 A53 d55.length c54 (pcs d55) :: Own 28 4 A36 ((out (byKey d.w.key d.w.holder) l).length) c37 X :: L) w := s
                    refine st_call ha (by kernel_rfl) (by kernel_rfl) (rlen_lob W _ w g2 (left (byKey d.w.key d.w.holder) l) (ok.left (byKey d.w.key d.w.holder)) s) ?_
                    rintro _ w ⟨rfl, s⟩
                    replace s : St W (RLob g2 (left (byKey d.w.key d.w.holder) l) :: Lob g1 (left (byKey d.w.key d.w.holder) l) :: Own 51 2 A56 d55.length c57 (pcs d55) :: Own 51 2 A53 d55.length c54 (pcs d55) :: Own 28 4 A36 ((out (byKey d.w.key d.w.holder) l).length) c37 X :: L) w := s
                    refine ⟨_, rfl, ?_⟩; clear ha; intro a ha
                    refine st_val (.bool false) ha (by kernel_rfl) (run_known (bne_self_eq_false _) (show (execOp (evalE _) _).run _ _ = .ok (.value (.bool ((((left (byKey d.w.key d.w.holder) l).length : Nat) : Int) != (((left (byKey d.w.key d.w.holder) l).length : Nat) : Int)))) _ from by kernel_rfl)) ?_
                    clear ha; intro a ha
                    refine st_val (.bool false) ha (by kernel_rfl) (by kernel_rfl) ?_
                    clear ha; intro a ha
                    refine wpList_nil ?_
                    refine then_normal ?_
                    refine wp_false ha rfl (by kernel_rfl) ?_
                    refine wp_skip ?_
                    refine then_normal ?_
                    refine wp_seq ?_
                    refine wp_region_lit ?_
                    refine st_val (.int .i64 0) ha (by kernel_rfl) (by kernel_rfl) ?_
                    clear ha; intro a ha
                    refine wpList_nil ?_
                    refine then_normal ?_
                    refine wp_block ?_
                    replace s := s.at_ (j := 1) rfl
                    replace s : St W (Lob g1 (left (byKey d.w.key d.w.holder) l) :: RLob g2 (left (byKey d.w.key d.w.holder) l) :: Own 51 2 A56 d55.length c57 (pcs d55) :: Own 51 2 A53 d55.length c54 (pcs d55) :: Own 28 4 A36 ((out (byKey d.w.key d.w.holder) l).length) c37 X :: L) w := s
                    replace s := s.at_ (j := 3) rfl
                    replace s : St W (Own 51 2 A53 d55.length c54 (pcs d55) :: Lob g1 (left (byKey d.w.key d.w.holder) l) :: RLob g2 (left (byKey d.w.key d.w.holder) l) :: Own 51 2 A56 d55.length c57 (pcs d55) :: Own 28 4 A36 ((out (byKey d.w.key d.w.holder) l).length) c37 X :: L) w := s
                    replace s : St W (Own 51 2 A53 d55.length c54 (pcs d55) :: Lob g1 (left (byKey d.w.key d.w.holder) l) :: RLob g2 (left (byKey d.w.key d.w.holder) l) :: L) w := St.mid (A := [Own 51 2 A53 d55.length c54 (pcs d55), Lob g1 (left (byKey d.w.key d.w.holder) l), RLob g2 (left (byKey d.w.key d.w.holder) l)]) (B := [Own 51 2 A56 d55.length c57 (pcs d55), Own 28 4 A36 ((out (byKey d.w.key d.w.holder) l).length) c37 X]) s
                    refine wp_loopG (G := (Nat × List Value)) (fun ⟨m, X⟩ a w => Has a 150 [(0, .slice (some ad) n c), (3, .pointer (some ⟨g1, 0, none⟩)), (4, .pointer (some ⟨g2, 0, none⟩)), (5, .int .i64 ((k : Nat) : Int)), (14, .slice A53 d55.length c54), (15, .int .i64 ((m : Nat) : Int))] ∧ St W (Own 51 2 A53 d55.length c54 X :: Lob g1 (left (byKey d.w.key d.w.holder) l) :: RLob g2 (left (byKey d.w.key d.w.holder) l) :: L) w ∧ (m ≤ d55.length)) (fun ⟨m, X⟩ => d55.length - m) (0, pcs d55) ?_ ?_
                    · exact ⟨(Has.cons ha (by kernel_rfl) (by kernel_rfl) (Has.cons ha (by kernel_rfl) (by kernel_rfl) (Has.cons ha (by kernel_rfl) (by kernel_rfl) (Has.cons ha (by kernel_rfl) (by kernel_rfl) (Has.cons ha (by kernel_rfl) (by kernel_rfl) (Has.cons ha (by kernel_rfl) (by kernel_rfl) (Has.nil ha))))))), s, Nat.zero_le _⟩
                    · clear ha s; rintro ⟨m, X⟩ a w ⟨ha, s, hp⟩
                      refine wp_seq ?_
                      refine wp_seq ?_
                      refine wp_region_lit ?_
                      refine st_val (.int .i64 ((m : Nat) : Int)) ha (by kernel_rfl) (by kernel_rfl) ?_
                      clear ha; intro a ha
                      refine st_val (.slice A53 d55.length c54) ha (by kernel_rfl) (by kernel_rfl) ?_
                      clear ha; intro a ha
                      refine st_val (.int .i64 ((d55.length : Nat) : Int)) ha (by kernel_rfl) (by kernel_rfl) ?_
                      clear ha; intro a ha
                      refine st_val (.bool (decide (((m : Nat) : Int) < ((d55.length : Nat) : Int)))) ha (by kernel_rfl) (by kernel_rfl) ?_
                      clear ha; intro a ha
                      refine wpList_nil ?_
                      refine then_normal ?_
                      refine wp_part (decide (((m : Nat) : Int) < ((d55.length : Nat) : Int))) ha rfl (by kernel_rfl) (fun hb => ?_) (fun hb => ?_)
                      · rw [hb] at ha; replace hb : (((m : Nat) : Int) < ((d55.length : Nat) : Int)) := of_decide_eq_true hb
                        obtain ⟨ax58, hX⟩ := Own.addr (s.at_ (j := 0) rfl) (by omega)
                        subst hX
                        have hXl := (Own.facts (s.at_ (j := 0) rfl).1).1
                        refine wp_skip ?_
                        refine then_normal ?_
                        refine wp_seq ?_
                        refine wp_block ?_
                        refine wp_region_lit ?_
                        refine st_val (.slice (some ax58) d55.length c54) ha (by kernel_rfl) (by kernel_rfl) ?_
                        clear ha; intro a ha
                        refine st_val (.int .i64 ((m : Nat) : Int)) ha (by kernel_rfl) (by kernel_rfl) ?_
                        clear ha; intro a ha
                        refine st_val (.agg #[.int .i64 0, .int .i64 0]) ha (by kernel_rfl) (by kernel_rfl) ?_
                        clear ha; intro a ha
                        refine st_val (.pointer (some (ax58.add (m * 2)))) ha (by kernel_rfl) (run_indexAddr' (kd := .i64) (i := ((m : Nat) : Int)) (n := d55.length) (c := c54) m rfl Try.underlying47 Try.sizeOf51 (by kernel_rfl) (by kernel_rfl) rfl (by first | assumption | omega) _) ?_
                        clear ha; intro a ha
                        refine st_exd ha (by kernel_rfl) (ex_store_own (i := m * 2) 0 [.int .i64 0, .int .i64 0] s rfl rfl rfl (by kernel_rfl) (by kernel_rfl) (Try.sizeOf51 _) rfl (by simp [Value.oneCell']) (by simp) (by rw [hXl]; simp only [List.length_cons, List.length_nil]; omega)) ?_
                        clear ha; rintro w a s ha
                        replace s : St W (Own 51 2 (some ax58) d55.length c54 (putAt X (m * 2) [.int .i64 0, .int .i64 0]) :: Lob g1 (left (byKey d.w.key d.w.holder) l) :: RLob g2 (left (byKey d.w.key d.w.holder) l) :: L) w := s
                        refine wpList_nil ?_
                        refine block_normal ?_
                        refine then_normal ?_
                        refine wp_region_lit ?_
                        refine st_val (.int .i64 ((m : Nat) : Int)) ha (by kernel_rfl) (by kernel_rfl) ?_
                        clear ha; intro a ha
                        refine st_val (.int .i64 ((m + 1 : Nat) : Int)) ha (by kernel_rfl) (run_arith (((m : Nat) : Int) + (1 : Int)) ((m + 1 : Nat) : Int) rfl (by kernel_rfl) (by kernel_rfl) (.inl ⟨rfl, rfl⟩) (by rw [wrap64_in (by omega)]; try omega) _) ?_
                        clear ha; intro a ha
                        refine st_val (.int .i64 ((m + 1 : Nat) : Int)) ha (by kernel_rfl) (by kernel_rfl) ?_
                        clear ha; intro a ha
                        refine wpList_nil ?_
                        refine then_normal ?_
                        exact ⟨(m + 1, putAt X (m * 2) [.int .i64 0, .int .i64 0]), (show d55.length - (m + 1) < d55.length - m by omega), (Has.cons ha (by kernel_rfl) (by kernel_rfl) (Has.cons ha (by kernel_rfl) (by kernel_rfl) (Has.cons ha (by kernel_rfl) (by kernel_rfl) (Has.cons ha (by kernel_rfl) (by kernel_rfl) (Has.cons ha (by kernel_rfl) (by kernel_rfl) (Has.cons ha (by kernel_rfl) (by kernel_rfl) (Has.nil ha))))))), s, (show m + 1 ≤ d55.length by omega)⟩
                      · rw [hb] at ha; replace hb : ¬ (((m : Nat) : Int) < ((d55.length : Nat) : Int)) := of_decide_eq_false hb
                        refine wp_exit ?_
                        refine then_exit ?_
                        refine then_exit ?_
                        refine block_hit ?_
                        refine block_normal ?_
                        refine then_normal ?_
                        refine wp_region_lit ?_
                        refine st_val (.int .i64 ((k : Nat) : Int)) ha (by kernel_rfl) (by kernel_rfl) ?_
                        clear ha; intro a ha
                        refine st_val (.int .i64 ((k + 1 : Nat) : Int)) ha (by kernel_rfl) (run_arith (((k : Nat) : Int) + (1 : Int)) ((k + 1 : Nat) : Int) rfl (by kernel_rfl) (by kernel_rfl) (.inl ⟨rfl, rfl⟩) (by rw [wrap64_in (by omega)]; try omega) _) ?_
                        clear ha; intro a ha
                        refine st_val (.int .i64 ((k + 1 : Nat) : Int)) ha (by kernel_rfl) (by kernel_rfl) ?_
                        clear ha; intro a ha
                        refine wpList_nil ?_
                        refine then_normal ?_
                        replace s := s.at_ (j := 2) rfl
                        replace s : St W (RLob g2 (left (byKey d.w.key d.w.holder) l) :: Own 51 2 A53 d55.length c54 X :: Lob g1 (left (byKey d.w.key d.w.holder) l) :: L) w := s
                        replace s := s.at_ (j := 2) rfl
                        replace s : St W (Lob g1 (left (byKey d.w.key d.w.holder) l) :: RLob g2 (left (byKey d.w.key d.w.holder) l) :: Own 51 2 A53 d55.length c54 X :: L) w := s
                        replace s : St W (Lob g1 (left (byKey d.w.key d.w.holder) l) :: RLob g2 (left (byKey d.w.key d.w.holder) l) :: L) w := St.mid (A := [Lob g1 (left (byKey d.w.key d.w.holder) l), RLob g2 (left (byKey d.w.key d.w.holder) l)]) (B := [Own 51 2 A53 d55.length c54 X]) s
                        exact ⟨(k + 1, left (byKey d.w.key d.w.holder) l), (show 200 - (k + 1) < 200 - k by omega), (Has.cons ha (by kernel_rfl) (by kernel_rfl) (Has.cons ha (by kernel_rfl) (by kernel_rfl) (Has.cons ha (by kernel_rfl) (by kernel_rfl) (Has.cons ha (by kernel_rfl) (by kernel_rfl) (Has.nil ha))))), s, (show k + 1 ≤ 200 by omega), (ok.left (byKey d.w.key d.w.holder))⟩
            · rw [hb] at ha; have hb_ := hb; replace hb := ne_of_beq_false hb
              refine wp_seq ?_
              refine wp_region_head 5 (fun w => BlkIs g3 [.int .i64 d.w.num, .string (str d.w.key), .int .i64 d.w.waiter, .int .i64 d.w.holder] w ∧ True) (by kernel_rfl) (by decide) ?_
              replace s := s.drew; generalize _root_.Go.World.drew _ = w at s ⊢
              have hS : (fun w => BlkIs g3 [.int .i64 d.w.num, .string (str d.w.key), .int .i64 d.w.waiter, .int .i64 d.w.holder] w ∧ True) w := ⟨s.blkIs 0 rfl, trivial⟩
              refine hd_val (i := 0) (.pointer (some ⟨g1, 0, none⟩)) ha rfl (by kernel_rfl) (fun _ _ _ h => h) (by kernel_rfl) (fun w hS => (by kernel_rfl)) hS ?_
              clear ha; intro a ha
              refine hd_val (i := 1) (.agg #[.int .i64 d.w.num, .string (str d.w.key), .int .i64 d.w.waiter, .int .i64 d.w.holder]) ha rfl (by kernel_rfl) (fun _ _ _ h => h) (by kernel_rfl) (fun w hS => run_loadN (of_ := 0) [.int .i64 d.w.num, .string (str d.w.key), .int .i64 d.w.waiter, .int .i64 d.w.holder] hS.1 rfl (by kernel_rfl) Try.isAgg28 Try.sizeOf28 rfl (Nat.le_of_ble_eq_true rfl)) hS ?_
              clear ha; intro a ha
              refine hd_val (i := 3) (.pointer (some ⟨g2, 0, none⟩)) ha rfl (by kernel_rfl) (fun _ _ _ h => h) (by kernel_rfl) (fun w hS => (by kernel_rfl)) hS ?_
              clear ha; intro a ha
              refine hd_val (i := 4) (.agg #[.int .i64 d.w.num, .string (str d.w.key), .int .i64 d.w.waiter, .int .i64 d.w.holder]) ha rfl (by kernel_rfl) (fun _ _ _ h => h) (by kernel_rfl) (fun w hS => run_loadN (of_ := 0) [.int .i64 d.w.num, .string (str d.w.key), .int .i64 d.w.waiter, .int .i64 d.w.holder] hS.1 rfl (by kernel_rfl) Try.isAgg28 Try.sizeOf28 rfl (Nat.le_of_ble_eq_true rfl)) hS ?_
              clear ha; intro a ha
              replace s := s.at_ (j := 1) rfl
              replace s : St W (Lob g1 l :: .blk g3 [.int .i64 d.w.num, .string (str d.w.key), .int .i64 d.w.waiter, .int .i64 d.w.holder] 28 :: RLob g2 l :: L) w := s
              refine hd_call (i := 2) ha rfl (by kernel_rfl) (by kernel_rfl) (by kernel_rfl) (add_lob W _ w g1 l d.w ok s) ?_
              clear hS; rintro _ w ⟨rfl, s⟩
              replace s : St W (Lob g1 (add d.w l) :: .blk g3 [.int .i64 d.w.num, .string (str d.w.key), .int .i64 d.w.waiter, .int .i64 d.w.holder] 28 :: RLob g2 l :: L) w := s
              have hS : (fun w => BlkIs g3 [.int .i64 d.w.num, .string (str d.w.key), .int .i64 d.w.waiter, .int .i64 d.w.holder] w ∧ True) w := ⟨s.blkIs 1 rfl, trivial⟩
              refine ⟨_, rfl, hS, ?_⟩; clear ha; intro a ha
              refine Head.done (by kernel_rfl) ?_
              clear hS; simp only [List.drop_succ_cons, List.drop_zero]
              replace s := s.at_ (j := 2) rfl
              replace s : St W (RLob g2 l :: Lob g1 (add d.w l) :: .blk g3 [.int .i64 d.w.num, .string (str d.w.key), .int .i64 d.w.waiter, .int .i64 d.w.holder] 28 :: L) w := s
              refine st_call ha (by kernel_rfl) (by kernel_rfl) (radd_lob W _ w g2 l d.w ok s) ?_
              rintro _ w ⟨rfl, s⟩
              replace s : St W (RLob g2 (add d.w l) :: Lob g1 (add d.w l) :: .blk g3 [.int .i64 d.w.num, .string (str d.w.key), .int .i64 d.w.waiter, .int .i64 d.w.holder] 28 :: L) w := s
              refine ⟨_, rfl, ?_⟩; clear ha; intro a ha
              refine st_val (.bool false) ha (by kernel_rfl) (run_known (bne_self_eq_false _) (show (execOp (evalE _) _).run _ _ = .ok (.value (.bool ((addCode d.w l) != (addCode d.w l)))) _ from by kernel_rfl)) ?_
              clear ha; intro a ha
              refine wpList_nil ?_
              refine then_normal ?_
              refine wp_false ha rfl (by kernel_rfl) ?_
              refine wp_skip ?_
              refine block_normal ?_
              refine then_normal ?_
              refine wp_seq ?_
              refine wp_region_lit ?_
              refine st_val (.pointer (some ⟨g1, 0, none⟩)) ha (by kernel_rfl) (by kernel_rfl) ?_
              clear ha; intro a ha
              replace s := s.at_ (j := 1) rfl
              replace s : St W (Lob g1 (add d.w l) :: RLob g2 (add d.w l) :: .blk g3 [.int .i64 d.w.num, .string (str d.w.key), .int .i64 d.w.waiter, .int .i64 d.w.holder] 28 :: L) w := s
              refine st_call ha (by kernel_rfl) (by kernel_rfl) (edges_lob W hW _ w g1 (add d.w l) (ok.add d.w) s) ?_
              rintro _ w ⟨A59, c60, d61, rfl, hd61, s⟩
              have hd61l := hd61.len_le
              have hfl_ := ((ok.add d.w)).2
              replace s : St W (Own 51 2 A59 d61.length c60 (pcs d61) :: Lob g1 (add d.w l) :: RLob g2 (add d.w l) :: .blk g3 [.int .i64 d.w.num, .string (str d.w.key), .int .i64 d.w.waiter, .int .i64 d.w.holder] 28 :: L) w := s
              refine ⟨_, rfl, ?_⟩; clear ha; intro a ha
              refine st_val (.slice A59 d61.length c60) ha (by kernel_rfl) (by kernel_rfl) ?_
              clear ha; intro a ha
              refine wpList_nil ?_
              refine then_normal ?_
              refine wp_seq ?_
              refine wp_seq ?_
              refine wp_region_lit ?_
              refine st_val (.slice A59 d61.length c60) ha (by kernel_rfl) (by kernel_rfl) ?_
              clear ha; intro a ha
              refine st_val (.pointer (some ⟨g2, 0, none⟩)) ha (by kernel_rfl) (by kernel_rfl) ?_
              clear ha; intro a ha
              replace s := s.at_ (j := 2) rfl
              replace s : St W (RLob g2 (add d.w l) :: Own 51 2 A59 d61.length c60 (pcs d61) :: Lob g1 (add d.w l) :: .blk g3 [.int .i64 d.w.num, .string (str d.w.key), .int .i64 d.w.waiter, .int .i64 d.w.holder] 28 :: L) w := s
              refine st_call ha (by kernel_rfl) (by kernel_rfl) (redges_is W _ w g2 (add d.w l) d61 hd61 (ok.add d.w) s) ?_
              rintro _ w ⟨A62, c63, rfl, s⟩
              replace s : St W (Own 51 2 A62 d61.length c63 (pcs d61) :: RLob g2 (add d.w l) :: Own 51 2 A59 d61.length c60 (pcs d61) :: Lob g1 (add d.w l) :: .blk g3 [.int .i64 d.w.num, .string (str d.w.key), .int .i64 d.w.waiter, .int .i64 d.w.holder] 28 :: L) w := s
              refine ⟨_, rfl, ?_⟩; clear ha; intro a ha
              refine st_call ha (by kernel_rfl) (by kernel_rfl) (same_self W _ w A59 A62 d61.length d61.length c60 c63 d61 (Knows.own (j := 2) rfl) (Knows.own (j := 0) rfl) rfl rfl (by omega) s) ?_
              rintro _ w ⟨rfl, s⟩
              replace s : St W (Own 51 2 A62 d61.length c63 (pcs d61) :: RLob g2 (add d.w l) :: Own 51 2 A59 d61.length c60 (pcs d61) :: Lob g1 (add d.w l) :: .blk g3 [.int .i64 d.w.num, .string (str d.w.key), .int .i64 d.w.waiter, .int .i64 d.w.holder] 28 :: L) w := s
              refine ⟨_, rfl, ?_⟩; clear ha; intro a ha
              refine st_val (.bool false) ha (by kernel_rfl) (by kernel_rfl) ?_
              clear ha; intro a ha
              refine st_val (.bool false) ha (by kernel_rfl) (by kernel_rfl) ?_
              clear ha; intro a ha
              refine st_val (.pointer (some ⟨g1, 0, none⟩)) ha (by kernel_rfl) (by kernel_rfl) ?_
              clear ha; intro a ha
              replace s := s.at_ (j := 3) rfl
              replace s : St W (Lob g1 (add d.w l) :: Own 51 2 A62 d61.length c63 (pcs d61) :: RLob g2 (add d.w l) :: Own 51 2 A59 d61.length c60 (pcs d61) :: .blk g3 [.int .i64 d.w.num, .string (str d.w.key), .int .i64 d.w.waiter, .int .i64 d.w.holder] 28 :: L) w := s
              refine st_call ha (by kernel_rfl) (by kernel_rfl) (len_lob W _ w g1 (add d.w l) (ok.add d.w) s) ?_
              rintro _ w ⟨rfl, s⟩
              replace s : St W (Lob g1 (add d.w l) :: Own 51 2 A62 d61.length c63 (pcs d61) :: RLob g2 (add d.w l) :: Own 51 2 A59 d61.length c60 (pcs d61) :: .blk g3 [.int .i64 d.w.num, .string (str d.w.key), .int .i64 d.w.waiter, .int .i64 d.w.holder] 28 :: L) w := s
              refine ⟨_, rfl, ?_⟩; clear ha; intro a ha
              refine st_val (.pointer (some ⟨g2, 0, none⟩)) ha (by kernel_rfl) (by kernel_rfl) ?_
              clear ha; intro a ha
              replace s := s.at_ (j := 2) rfl
              replace s : St W (RLob g2 (add d.w l) :: Lob g1 (add d.w l) :: Own 51 2 A62 d61.length c63 (pcs d61) :: Own 51 2 A59 d61.length c60 (pcs d61) :: .blk g3 [.int .i64 d.w.num, .string (str d.w.key), .int .i64 d.w.waiter, .int .i64 d.w.holder] 28 :: L) w := s
              refine st_call ha (by kernel_rfl) (by kernel_rfl) (rlen_lob W _ w g2 (add d.w l) (ok.add d.w) s) ?_
              rintro _ w ⟨rfl, s⟩
              replace s : St W (RLob g2 (add d.w l) :: Lob g1 (add d.w l) :: Own 51 2 A62 d61.length c63 (pcs d61) :: Own 51 2 A59 d61.length c60 (pcs d61) :: .blk g3 [.int .i64 d.w.num, .string (str d.w.key), .int .i64 d.w.waiter, .int .i64 d.w.holder] 28 :: L) w := s
              refine ⟨_, rfl, ?_⟩; clear ha; intro a ha
              refine st_val (.bool false) ha (by kernel_rfl) (run_known (bne_self_eq_false _) (show (execOp (evalE _) _).run _ _ = .ok (.value (.bool ((((add d.w l).length : Nat) : Int) != (((add d.w l).length : Nat) : Int)))) _ from by kernel_rfl)) ?_
              clear ha; intro a ha
              refine st_val (.bool false) ha (by kernel_rfl) (by kernel_rfl) ?_
              clear ha; intro a ha
              refine wpList_nil ?_
              refine then_normal ?_
              refine wp_false ha rfl (by kernel_rfl) ?_
              refine wp_skip ?_
              refine then_normal ?_
              refine wp_seq ?_
              refine wp_region_lit ?_
              refine st_val (.int .i64 0) ha (by kernel_rfl) (by kernel_rfl) ?_
              clear ha; intro a ha
              refine wpList_nil ?_
              refine then_normal ?_
              refine wp_block ?_
              replace s := s.at_ (j := 1) rfl
              replace s : St W (Lob g1 (add d.w l) :: RLob g2 (add d.w l) :: Own 51 2 A62 d61.length c63 (pcs d61) :: Own 51 2 A59 d61.length c60 (pcs d61) :: .blk g3 [.int .i64 d.w.num, .string (str d.w.key), .int .i64 d.w.waiter, .int .i64 d.w.holder] 28 :: L) w := s
              replace s := s.at_ (j := 3) rfl
              replace s : St W (Own 51 2 A59 d61.length c60 (pcs d61) :: Lob g1 (add d.w l) :: RLob g2 (add d.w l) :: Own 51 2 A62 d61.length c63 (pcs d61) :: .blk g3 [.int .i64 d.w.num, .string (str d.w.key), .int .i64 d.w.waiter, .int .i64 d.w.holder] 28 :: L) w := s
              replace s : St W (Own 51 2 A59 d61.length c60 (pcs d61) :: Lob g1 (add d.w l) :: RLob g2 (add d.w l) :: L) w := St.mid (A := [Own 51 2 A59 d61.length c60 (pcs d61), Lob g1 (add d.w l), RLob g2 (add d.w l)]) (B := [Own 51 2 A62 d61.length c63 (pcs d61), .blk g3 [.int .i64 d.w.num, .string (str d.w.key), .int .i64 d.w.waiter, .int .i64 d.w.holder] 28]) s
              refine wp_loopG (G := (Nat × List Value)) (fun ⟨m, X⟩ a w => Has a 150 [(0, .slice (some ad) n c), (3, .pointer (some ⟨g1, 0, none⟩)), (4, .pointer (some ⟨g2, 0, none⟩)), (5, .int .i64 ((k : Nat) : Int)), (14, .slice A59 d61.length c60), (15, .int .i64 ((m : Nat) : Int))] ∧ St W (Own 51 2 A59 d61.length c60 X :: Lob g1 (add d.w l) :: RLob g2 (add d.w l) :: L) w ∧ (m ≤ d61.length)) (fun ⟨m, X⟩ => d61.length - m) (0, pcs d61) ?_ ?_
              · exact ⟨(Has.cons ha (by kernel_rfl) (by kernel_rfl) (Has.cons ha (by kernel_rfl) (by kernel_rfl) (Has.cons ha (by kernel_rfl) (by kernel_rfl) (Has.cons ha (by kernel_rfl) (by kernel_rfl) (Has.cons ha (by kernel_rfl) (by kernel_rfl) (Has.cons ha (by kernel_rfl) (by kernel_rfl) (Has.nil ha))))))), s, Nat.zero_le _⟩
              · clear ha s; rintro ⟨m, X⟩ a w ⟨ha, s, hp⟩
                refine wp_seq ?_
                refine wp_seq ?_
                refine wp_region_lit ?_
                refine st_val (.int .i64 ((m : Nat) : Int)) ha (by kernel_rfl) (by kernel_rfl) ?_
                clear ha; intro a ha
                refine st_val (.slice A59 d61.length c60) ha (by kernel_rfl) (by kernel_rfl) ?_
                clear ha; intro a ha
                refine st_val (.int .i64 ((d61.length : Nat) : Int)) ha (by kernel_rfl) (by kernel_rfl) ?_
                clear ha; intro a ha
                refine st_val (.bool (decide (((m : Nat) : Int) < ((d61.length : Nat) : Int)))) ha (by kernel_rfl) (by kernel_rfl) ?_
                clear ha; intro a ha
                refine wpList_nil ?_
                refine then_normal ?_
                refine wp_part (decide (((m : Nat) : Int) < ((d61.length : Nat) : Int))) ha rfl (by kernel_rfl) (fun hb => ?_) (fun hb => ?_)
                · rw [hb] at ha; replace hb : (((m : Nat) : Int) < ((d61.length : Nat) : Int)) := of_decide_eq_true hb
                  obtain ⟨ax64, hX⟩ := Own.addr (s.at_ (j := 0) rfl) (by omega)
                  subst hX
                  have hXl := (Own.facts (s.at_ (j := 0) rfl).1).1
                  refine wp_skip ?_
                  refine then_normal ?_
                  refine wp_seq ?_
                  refine wp_block ?_
                  refine wp_region_lit ?_
                  refine st_val (.slice (some ax64) d61.length c60) ha (by kernel_rfl) (by kernel_rfl) ?_
                  clear ha; intro a ha
                  refine st_val (.int .i64 ((m : Nat) : Int)) ha (by kernel_rfl) (by kernel_rfl) ?_
                  clear ha; intro a ha
                  refine st_val (.agg #[.int .i64 0, .int .i64 0]) ha (by kernel_rfl) (by kernel_rfl) ?_
                  clear ha; intro a ha
                  refine st_val (.pointer (some (ax64.add (m * 2)))) ha (by kernel_rfl) (run_indexAddr' (kd := .i64) (i := ((m : Nat) : Int)) (n := d61.length) (c := c60) m rfl Try.underlying47 Try.sizeOf51 (by kernel_rfl) (by kernel_rfl) rfl (by first | assumption | omega) _) ?_
                  clear ha; intro a ha
                  refine st_exd ha (by kernel_rfl) (ex_store_own (i := m * 2) 0 [.int .i64 0, .int .i64 0] s rfl rfl rfl (by kernel_rfl) (by kernel_rfl) (Try.sizeOf51 _) rfl (by simp [Value.oneCell']) (by simp) (by rw [hXl]; simp only [List.length_cons, List.length_nil]; omega)) ?_
                  clear ha; rintro w a s ha
                  replace s : St W (Own 51 2 (some ax64) d61.length c60 (putAt X (m * 2) [.int .i64 0, .int .i64 0]) :: Lob g1 (add d.w l) :: RLob g2 (add d.w l) :: L) w := s
                  refine wpList_nil ?_
                  refine block_normal ?_
                  refine then_normal ?_
                  refine wp_region_lit ?_
                  refine st_val (.int .i64 ((m : Nat) : Int)) ha (by kernel_rfl) (by kernel_rfl) ?_
                  clear ha; intro a ha
                  refine st_val (.int .i64 ((m + 1 : Nat) : Int)) ha (by kernel_rfl) (run_arith (((m : Nat) : Int) + (1 : Int)) ((m + 1 : Nat) : Int) rfl (by kernel_rfl) (by kernel_rfl) (.inl ⟨rfl, rfl⟩) (by rw [wrap64_in (by omega)]; try omega) _) ?_
                  clear ha; intro a ha
                  refine st_val (.int .i64 ((m + 1 : Nat) : Int)) ha (by kernel_rfl) (by kernel_rfl) ?_
                  clear ha; intro a ha
                  refine wpList_nil ?_
                  refine then_normal ?_
                  exact ⟨(m + 1, putAt X (m * 2) [.int .i64 0, .int .i64 0]), (show d61.length - (m + 1) < d61.length - m by omega), (Has.cons ha (by kernel_rfl) (by kernel_rfl) (Has.cons ha (by kernel_rfl) (by kernel_rfl) (Has.cons ha (by kernel_rfl) (by kernel_rfl) (Has.cons ha (by kernel_rfl) (by kernel_rfl) (Has.cons ha (by kernel_rfl) (by kernel_rfl) (Has.cons ha (by kernel_rfl) (by kernel_rfl) (Has.nil ha))))))), s, (show m + 1 ≤ d61.length by omega)⟩
                · rw [hb] at ha; replace hb : ¬ (((m : Nat) : Int) < ((d61.length : Nat) : Int)) := of_decide_eq_false hb
                  refine wp_exit ?_
                  refine then_exit ?_
                  refine then_exit ?_
                  refine block_hit ?_
                  refine block_normal ?_
                  refine then_normal ?_
                  refine wp_region_lit ?_
                  refine st_val (.int .i64 ((k : Nat) : Int)) ha (by kernel_rfl) (by kernel_rfl) ?_
                  clear ha; intro a ha
                  refine st_val (.int .i64 ((k + 1 : Nat) : Int)) ha (by kernel_rfl) (run_arith (((k : Nat) : Int) + (1 : Int)) ((k + 1 : Nat) : Int) rfl (by kernel_rfl) (by kernel_rfl) (.inl ⟨rfl, rfl⟩) (by rw [wrap64_in (by omega)]; try omega) _) ?_
                  clear ha; intro a ha
                  refine st_val (.int .i64 ((k + 1 : Nat) : Int)) ha (by kernel_rfl) (by kernel_rfl) ?_
                  clear ha; intro a ha
                  refine wpList_nil ?_
                  refine then_normal ?_
                  replace s := s.at_ (j := 2) rfl
                  replace s : St W (RLob g2 (add d.w l) :: Own 51 2 A59 d61.length c60 X :: Lob g1 (add d.w l) :: L) w := s
                  replace s := s.at_ (j := 2) rfl
                  replace s : St W (Lob g1 (add d.w l) :: RLob g2 (add d.w l) :: Own 51 2 A59 d61.length c60 X :: L) w := s
                  replace s : St W (Lob g1 (add d.w l) :: RLob g2 (add d.w l) :: L) w := St.mid (A := [Lob g1 (add d.w l), RLob g2 (add d.w l)]) (B := [Own 51 2 A59 d61.length c60 X]) s
                  exact ⟨(k + 1, add d.w l), (show 200 - (k + 1) < 200 - k by omega), (Has.cons ha (by kernel_rfl) (by kernel_rfl) (Has.cons ha (by kernel_rfl) (by kernel_rfl) (Has.cons ha (by kernel_rfl) (by kernel_rfl) (Has.cons ha (by kernel_rfl) (by kernel_rfl) (Has.nil ha))))), s, (show k + 1 ≤ 200 by omega), (ok.add d.w)⟩
      · rw [hb] at ha; replace hb : ¬ (((k : Nat) : Int) < (200 : Int)) := of_decide_eq_false hb
        refine wp_exit ?_
        refine then_exit ?_
        refine then_exit ?_
        refine block_hit ?_
        refine then_normal ?_
        refine wp_seq ?_
        refine wp_region_lit ?_
        refine st_val (.pointer (some ⟨g1, 0, none⟩)) ha (by kernel_rfl) (by kernel_rfl) ?_
        clear ha; intro a ha
        refine st_call ha (by kernel_rfl) (by kernel_rfl) (edges_lob W hW _ w g1 l ok s) ?_
        rintro _ w ⟨A65, c66, d67, rfl, hd67, s⟩
        have hd67l := hd67.len_le
        have hfl_ := (ok).2
        replace s : St W (Own 51 2 A65 d67.length c66 (pcs d67) :: Lob g1 l :: RLob g2 l :: L) w := s
        refine ⟨_, rfl, ?_⟩; clear ha; intro a ha
        refine st_val (.pointer (some ⟨g2, 0, none⟩)) ha (by kernel_rfl) (by kernel_rfl) ?_
        clear ha; intro a ha
        replace s := s.at_ (j := 2) rfl
        replace s : St W (RLob g2 l :: Own 51 2 A65 d67.length c66 (pcs d67) :: Lob g1 l :: L) w := s
        refine st_call ha (by kernel_rfl) (by kernel_rfl) (redges_is W _ w g2 l d67 hd67 ok s) ?_
        rintro _ w ⟨A68, c69, rfl, s⟩
        replace s : St W (Own 51 2 A68 d67.length c69 (pcs d67) :: RLob g2 l :: Own 51 2 A65 d67.length c66 (pcs d67) :: Lob g1 l :: L) w := s
        refine ⟨_, rfl, ?_⟩; clear ha; intro a ha
        refine st_call ha (by kernel_rfl) (by kernel_rfl) (same_self W _ w A65 A68 d67.length d67.length c66 c69 d67 (Knows.own (j := 2) rfl) (Knows.own (j := 0) rfl) rfl rfl (by omega) s) ?_
        rintro _ w ⟨rfl, s⟩
        replace s : St W (Own 51 2 A68 d67.length c69 (pcs d67) :: RLob g2 l :: Own 51 2 A65 d67.length c66 (pcs d67) :: Lob g1 l :: L) w := s
        refine ⟨_, rfl, ?_⟩; clear ha; intro a ha
        refine st_val (.bool true) ha (by kernel_rfl) (by kernel_rfl) ?_
        clear ha; intro a ha
        refine st_call ha (by kernel_rfl) (by kernel_rfl) (works_true W hW _ w s) ?_
        rintro _ w ⟨rfl, s⟩
        replace s : St W (Own 51 2 A68 d67.length c69 (pcs d67) :: RLob g2 l :: Own 51 2 A65 d67.length c66 (pcs d67) :: Lob g1 l :: L) w := s
        refine ⟨_, rfl, ?_⟩; clear ha; intro a ha
        refine st_val (.bool true) ha (by kernel_rfl) (by kernel_rfl) ?_
        clear ha; intro a ha
        refine st_val (.bool true) ha (by kernel_rfl) (by kernel_rfl) ?_
        clear ha; intro a ha
        refine wpList_nil ?_
        refine then_normal ?_
        refine wp_ret ?_
        refine ret_with (v := .bool true) ha (results_1 rfl ha (res_tmp (by kernel_rfl) (by kernel_rfl))) ?_
        replace s := s.tail.tail.tail.tail
        replace s : St W (L) w := s
        exact ⟨rfl, s⟩
    · rw [hb] at ha; replace hb : ¬ (((k : Nat) : Int) < ((n : Nat) : Int)) := of_decide_eq_false hb
      have ok := hp.2
      refine st_pass ha (by kernel_rfl) ?_
      clear ha; intro a ha
      refine st_pass ha (by kernel_rfl) ?_
      clear ha; intro a ha
      refine st_val (.bool false) ha (by kernel_rfl) (by kernel_rfl) ?_
      clear ha; intro a ha
      refine wpList_nil ?_
      refine then_normal ?_
      refine wp_false ha rfl (by kernel_rfl) ?_
      refine wp_exit ?_
      refine then_exit ?_
      refine then_exit ?_
      refine block_hit ?_
      refine then_normal ?_
      refine wp_seq ?_
      refine wp_region_lit ?_
      refine st_val (.pointer (some ⟨g1, 0, none⟩)) ha (by kernel_rfl) (by kernel_rfl) ?_
      clear ha; intro a ha
      refine st_call ha (by kernel_rfl) (by kernel_rfl) (edges_lob W hW _ w g1 l ok s) ?_
      rintro _ w ⟨A70, c71, d72, rfl, hd72, s⟩
      have hd72l := hd72.len_le
      have hfl_ := (ok).2
      replace s : St W (Own 51 2 A70 d72.length c71 (pcs d72) :: Lob g1 l :: RLob g2 l :: L) w := s
      refine ⟨_, rfl, ?_⟩; clear ha; intro a ha
      refine st_val (.pointer (some ⟨g2, 0, none⟩)) ha (by kernel_rfl) (by kernel_rfl) ?_
      clear ha; intro a ha
      replace s := s.at_ (j := 2) rfl
      replace s : St W (RLob g2 l :: Own 51 2 A70 d72.length c71 (pcs d72) :: Lob g1 l :: L) w := s
      refine st_call ha (by kernel_rfl) (by kernel_rfl) (redges_is W _ w g2 l d72 hd72 ok s) ?_
      rintro _ w ⟨A73, c74, rfl, s⟩
      replace s : St W (Own 51 2 A73 d72.length c74 (pcs d72) :: RLob g2 l :: Own 51 2 A70 d72.length c71 (pcs d72) :: Lob g1 l :: L) w := s
      refine ⟨_, rfl, ?_⟩; clear ha; intro a ha
      refine st_call ha (by kernel_rfl) (by kernel_rfl) (same_self W _ w A70 A73 d72.length d72.length c71 c74 d72 (Knows.own (j := 2) rfl) (Knows.own (j := 0) rfl) rfl rfl (by omega) s) ?_
      rintro _ w ⟨rfl, s⟩
      replace s : St W (Own 51 2 A73 d72.length c74 (pcs d72) :: RLob g2 l :: Own 51 2 A70 d72.length c71 (pcs d72) :: Lob g1 l :: L) w := s
      refine ⟨_, rfl, ?_⟩; clear ha; intro a ha
      refine st_val (.bool true) ha (by kernel_rfl) (by kernel_rfl) ?_
      clear ha; intro a ha
      refine st_call ha (by kernel_rfl) (by kernel_rfl) (works_true W hW _ w s) ?_
      rintro _ w ⟨rfl, s⟩
      replace s : St W (Own 51 2 A73 d72.length c74 (pcs d72) :: RLob g2 l :: Own 51 2 A70 d72.length c71 (pcs d72) :: Lob g1 l :: L) w := s
      refine ⟨_, rfl, ?_⟩; clear ha; intro a ha
      refine st_val (.bool true) ha (by kernel_rfl) (by kernel_rfl) ?_
      clear ha; intro a ha
      refine st_val (.bool true) ha (by kernel_rfl) (by kernel_rfl) ?_
      clear ha; intro a ha
      refine wpList_nil ?_
      refine then_normal ?_
      refine wp_ret ?_
      refine ret_with (v := .bool true) ha (results_1 rfl ha (res_tmp (by kernel_rfl) (by kernel_rfl))) ?_
      replace s := s.tail.tail.tail.tail
      replace s : St W (L) w := s
      exact ⟨rfl, s⟩

end Go.Proofs.Ytlkoppmenpeepaa.B
