import Derived.Test.YtlkoppmenpeepaaB7
namespace Go.Proofs.Ytlkoppmenpeepaa.B
open Go.RowKit Go.Maps Go.Sort Go.Shelf Go.Proofs.Ytlkoppmenpeepaa.Sep Go.Proofs.Ytlkoppmenpeepaa.P
set_option linter.unusedVariables false
set_option linter.unusedSimpArgs false
theorem edges_by {l : List Wt} {d : List Pr} (h1 : d.Pairwise ltP) (h2 : ∀ p ∈ d, p ∈ l.map pr) (h3 : ∀ p ∈ l.map pr, p ∈ d) : EdgesOf l d :=
  ⟨h1, fun p => ⟨fun h => List.mem_map.1 (h2 p h), fun h => h3 p (List.mem_map.2 h)⟩⟩
section
variable (W : World) (L : List Chunk) (w : World) (g : Nat) (l : List Wt)
theorem add_is (x : Wt) (z : Int) (l' : List Wt) (hz : addCode x l = z) (hl : add x l = l') (hf : Fine l) (s : St W (Lob g l :: L) w) :
    Calls Try.prog 18 #[.pointer (some ⟨g, 0, none⟩), .agg #[.int .i64 x.num, .string (str x.key), .int .i64 x.waiter, .int .i64 x.holder]] w fun e w' => e = .returned (.int .i64 z) ∧ St W (Lob g l' :: L) w' := by
  subst hz hl; exact add_lob W L w g l x hf s
theorem edges_is (hW : W.drawn = 0) (d : List Pr) (hE : EdgesOf l d) (hf : Fine l) (s : St W (Lob g l :: L) w) :
    Calls Try.prog 20 #[.pointer (some ⟨g, 0, none⟩)] w fun e w' => ∃ A' c', e = .returned (.slice A' d.length c') ∧ St W (Own 51 2 A' d.length c' (pcs d) :: Lob g l :: L) w' := by
  refine (edges_lob W hW L w g l hf s).mono ?_
  rintro e w' ⟨A, c, d2, rfl, h2, s⟩
  obtain rfl := h2.unique hE
  exact ⟨A, c, rfl, s⟩
theorem at_is (k : List UInt8) (m : Int) (o l' : List Wt) (ho : out (byKey k m) l = o) (hl : left (byKey k m) l = l') (hf : Fine l) (s : St W (Lob g l :: L) w) :
    Calls Try.prog 13 #[.pointer (some ⟨g, 0, none⟩), .string (str k), .int .i64 m] w fun e w' => ∃ A' c', e = .returned (.slice A' o.length c') ∧ St W (Own 28 4 A' o.length c' (ws o) :: Lob g l' :: L) w' := by
  subst ho hl; exact at_lob W L w g l k m hf s
theorem free_is (m : Int) (o l' : List Wt) (ho : out (byHolder m) l = o) (hl : left (byHolder m) l = l') (hf : Fine l) (s : St W (Lob g l :: L) w) :
    Calls Try.prog 16 #[.pointer (some ⟨g, 0, none⟩), .int .i64 m] w fun e w' => ∃ A' c', e = .returned (.slice A' o.length c') ∧ St W (Own 28 4 A' o.length c' (ws o) :: Lob g l' :: L) w' := by
  subst ho hl; exact free_lob W L w g l m hf s
theorem take_is (m : Int) (z : Wt) (b : Bool) (l' : List Wt) (hz : hd (out (byNum m) l) = z) (hb : (!(out (byNum m) l).isEmpty) = b) (hl : left (byNum m) l = l') (hf : Fine l) (s : St W (Lob g l :: L) w) :
    Calls Try.prog 11 #[.pointer (some ⟨g, 0, none⟩), .int .i64 m] w fun e w' => e = .returned (.tuple #[.agg #[.int .i64 z.num, .string (str z.key), .int .i64 z.waiter, .int .i64 z.holder], .bool b]) ∧ St W (Lob g l' :: L) w' := by
  subst hz hb hl; exact take_lob W L w g l m hf s
theorem len_is (n : Nat) (hn : l.length = n) (hf : Fine l) (s : St W (Lob g l :: L) w) :
    Calls Try.prog 23 #[.pointer (some ⟨g, 0, none⟩)] w fun e w' => e = .returned (.int .i64 ((n : Nat) : Int)) ∧ St W (Lob g l :: L) w' := by
  subst hn; exact len_lob W L w g l hf s
end
theorem same_is (W : World) (L : List Chunk) (w : World) (A B : Option Addr) (n m ca cb : Nat) (la lb : List Pr) (v : Bool) (hv : decide (la = lb) = v) (hra : Knows L fun w => Reads w 2 A n (pcs la)) (hrb : Knows L fun w => Reads w 2 B m (pcs lb)) (hal : la.length = n) (hbl : lb.length = m) (hm : m ≤ 140737488351232) (s : St W L w) :
    Calls Try.prog 21 #[.slice A n ca, .slice B m cb] w fun e w' => e = .returned (.bool v) ∧ St W L w' := by
  subst hv; exact same_edges W L w A B n m ca cb la lb hra hrb hal hbl hm s
theorem Knows.blk {L : List Chunk} {j g k n : Nat} {cs : List Value} {t : TypeId} (h : L[j]? = some (.blk g cs t)) (hn : cs.length = n * k) : Knows L fun w => Reads w k (some ⟨g, 0, none⟩) n cs := fun w s => reads_blk ((s.perm (perm_at h)).cell) hn

set_option maxRecDepth 100000 in
set_option maxHeartbeats 4000000 in
theorem works_true (W : World) (hW : W.drawn = 0) (L : List Chunk) (w : World) (s : St W L w) :
    Calls Try.prog 25 #[] w fun e w' => e = .returned (.bool true) ∧ St W L w' := by
  refine enter_args (l := []) Try.func25 rfl rfl (Nat.le_of_ble_eq_true rfl) ?_
  intro a ha; replace ha : Has a 107 [] := ha
  refine wp_seq ?_
  refine wp_region_lit ?_
  refine st_val (.bool false) ha (by kernel_rfl) (by kernel_rfl) ?_
  clear ha; intro a ha
  refine wpList_nil ?_
  refine then_normal ?_
  refine wp_seq ?_
  refine wp_region_lit ?_
  refine st_call ha (by kernel_rfl) (by kernel_rfl) (new_lob W _ w s) ?_
  rintro _ w ⟨g1, rfl, s⟩
  replace s : St W (Lob g1 [] :: L) w := s
  refine ⟨_, rfl, ?_⟩; clear ha; intro a ha
  refine st_val (.pointer (some ⟨g1, 0, none⟩)) ha (by kernel_rfl) (by kernel_rfl) ?_
  clear ha; intro a ha
  refine wpList_nil ?_
  refine then_normal ?_
  refine wp_seq ?_
  refine wp_region_lit ?_
  refine st_val (.pointer (some ⟨g1, 0, none⟩)) ha (by kernel_rfl) (by kernel_rfl) ?_
  clear ha; intro a ha
  refine st_call ha (by kernel_rfl) (by kernel_rfl) (wait_any W _ w 1 5 9 [97] s) ?_
  rintro _ w ⟨rfl, s⟩
  replace s : St W (Lob g1 [] :: L) w := s
  refine ⟨_, rfl, ?_⟩; clear ha; intro a ha
  refine st_call ha (by kernel_rfl) (by kernel_rfl) (add_is W _ w g1 [] ⟨1, [97], 5, 9⟩ 0 [⟨1, [97], 5, 9⟩] (by decide) (by decide) ⟨by decide, by decide⟩ s) ?_
  rintro _ w ⟨rfl, s⟩
  replace s : St W (Lob g1 [⟨1, [97], 5, 9⟩] :: L) w := s
  refine ⟨_, rfl, ?_⟩; clear ha; intro a ha
  refine st_val (.bool true) ha (by kernel_rfl) (by kernel_rfl) ?_
  clear ha; intro a ha
  refine st_val (.bool true) ha (by kernel_rfl) (by kernel_rfl) ?_
  clear ha; intro a ha
  refine st_val (.pointer (some ⟨g1, 0, none⟩)) ha (by kernel_rfl) (by kernel_rfl) ?_
  clear ha; intro a ha
  refine st_call ha (by kernel_rfl) (by kernel_rfl) (wait_any W _ w 2 6 9 [98] s) ?_
  rintro _ w ⟨rfl, s⟩
  replace s : St W (Lob g1 [⟨1, [97], 5, 9⟩] :: L) w := s
  refine ⟨_, rfl, ?_⟩; clear ha; intro a ha
  refine st_call ha (by kernel_rfl) (by kernel_rfl) (add_is W _ w g1 [⟨1, [97], 5, 9⟩] ⟨2, [98], 6, 9⟩ 0 [⟨1, [97], 5, 9⟩, ⟨2, [98], 6, 9⟩] (by decide) (by decide) ⟨by decide, by decide⟩ s) ?_
  rintro _ w ⟨rfl, s⟩
  replace s : St W (Lob g1 [⟨1, [97], 5, 9⟩, ⟨2, [98], 6, 9⟩] :: L) w := s
  refine ⟨_, rfl, ?_⟩; clear ha; intro a ha
  refine st_val (.bool true) ha (by kernel_rfl) (by kernel_rfl) ?_
  clear ha; intro a ha
  refine st_val (.bool true) ha (by kernel_rfl) (by kernel_rfl) ?_
  clear ha; intro a ha
  refine st_val (.bool true) ha (by kernel_rfl) (by kernel_rfl) ?_
  clear ha; intro a ha
  refine st_val (.pointer (some ⟨g1, 0, none⟩)) ha (by kernel_rfl) (by kernel_rfl) ?_
  clear ha; intro a ha
  refine st_call ha (by kernel_rfl) (by kernel_rfl) (wait_any W _ w 3 7 5 [97] s) ?_
  rintro _ w ⟨rfl, s⟩
  replace s : St W (Lob g1 [⟨1, [97], 5, 9⟩, ⟨2, [98], 6, 9⟩] :: L) w := s
  refine ⟨_, rfl, ?_⟩; clear ha; intro a ha
  refine st_call ha (by kernel_rfl) (by kernel_rfl) (add_is W _ w g1 [⟨1, [97], 5, 9⟩, ⟨2, [98], 6, 9⟩] ⟨3, [97], 7, 5⟩ 0 [⟨1, [97], 5, 9⟩, ⟨2, [98], 6, 9⟩, ⟨3, [97], 7, 5⟩] (by decide) (by decide) ⟨by decide, by decide⟩ s) ?_
  rintro _ w ⟨rfl, s⟩
  replace s : St W (Lob g1 [⟨1, [97], 5, 9⟩, ⟨2, [98], 6, 9⟩, ⟨3, [97], 7, 5⟩] :: L) w := s
  refine ⟨_, rfl, ?_⟩; clear ha; intro a ha
  refine st_val (.bool true) ha (by kernel_rfl) (by kernel_rfl) ?_
  clear ha; intro a ha
  refine st_val (.bool true) ha (by kernel_rfl) (by kernel_rfl) ?_
  clear ha; intro a ha
  refine st_val (.bool true) ha (by kernel_rfl) (by kernel_rfl) ?_
  clear ha; intro a ha
  refine st_val (.pointer (some ⟨g1, 0, none⟩)) ha (by kernel_rfl) (by kernel_rfl) ?_
  clear ha; intro a ha
  refine st_call ha (by kernel_rfl) (by kernel_rfl) (wait_any W _ w 2 8 9 [99] s) ?_
  rintro _ w ⟨rfl, s⟩
  replace s : St W (Lob g1 [⟨1, [97], 5, 9⟩, ⟨2, [98], 6, 9⟩, ⟨3, [97], 7, 5⟩] :: L) w := s
  refine ⟨_, rfl, ?_⟩; clear ha; intro a ha
  refine st_call ha (by kernel_rfl) (by kernel_rfl) (add_is W _ w g1 [⟨1, [97], 5, 9⟩, ⟨2, [98], 6, 9⟩, ⟨3, [97], 7, 5⟩] ⟨2, [99], 8, 9⟩ 2 [⟨1, [97], 5, 9⟩, ⟨2, [98], 6, 9⟩, ⟨3, [97], 7, 5⟩] (by decide) (by decide) ⟨by decide, by decide⟩ s) ?_
  rintro _ w ⟨rfl, s⟩
  replace s : St W (Lob g1 [⟨1, [97], 5, 9⟩, ⟨2, [98], 6, 9⟩, ⟨3, [97], 7, 5⟩] :: L) w := s
  refine ⟨_, rfl, ?_⟩; clear ha; intro a ha
  refine st_val (.bool true) ha (by kernel_rfl) (by kernel_rfl) ?_
  clear ha; intro a ha
  refine st_val (.bool true) ha (by kernel_rfl) (by kernel_rfl) ?_
  clear ha; intro a ha
  refine st_val (.bool true) ha (by kernel_rfl) (by kernel_rfl) ?_
  clear ha; intro a ha
  refine st_val (.pointer (some ⟨g1, 0, none⟩)) ha (by kernel_rfl) (by kernel_rfl) ?_
  clear ha; intro a ha
  refine st_call ha (by kernel_rfl) (by kernel_rfl) (wait_any W _ w 4 5 5 [97] s) ?_
  rintro _ w ⟨rfl, s⟩
  replace s : St W (Lob g1 [⟨1, [97], 5, 9⟩, ⟨2, [98], 6, 9⟩, ⟨3, [97], 7, 5⟩] :: L) w := s
  refine ⟨_, rfl, ?_⟩; clear ha; intro a ha
  refine st_call ha (by kernel_rfl) (by kernel_rfl) (add_is W _ w g1 [⟨1, [97], 5, 9⟩, ⟨2, [98], 6, 9⟩, ⟨3, [97], 7, 5⟩] ⟨4, [97], 5, 5⟩ 2 [⟨1, [97], 5, 9⟩, ⟨2, [98], 6, 9⟩, ⟨3, [97], 7, 5⟩] (by decide) (by decide) ⟨by decide, by decide⟩ s) ?_
  rintro _ w ⟨rfl, s⟩
  replace s : St W (Lob g1 [⟨1, [97], 5, 9⟩, ⟨2, [98], 6, 9⟩, ⟨3, [97], 7, 5⟩] :: L) w := s
  refine ⟨_, rfl, ?_⟩; clear ha; intro a ha
  refine st_val (.bool true) ha (by kernel_rfl) (by kernel_rfl) ?_
  clear ha; intro a ha
  refine st_val (.bool true) ha (by kernel_rfl) (by kernel_rfl) ?_
  clear ha; intro a ha
  refine st_val (.bool true) ha (by kernel_rfl) (by kernel_rfl) ?_
  clear ha; intro a ha
  refine wpList_nil ?_
  refine then_normal ?_
  refine wp_seq ?_
  refine wp_region_lit ?_
  refine st_val (.pointer (some ⟨g1, 0, none⟩)) ha (by kernel_rfl) (by kernel_rfl) ?_
  clear ha; intro a ha
  refine st_call ha (by kernel_rfl) (by kernel_rfl) (edges_is W _ w g1 [⟨1, [97], 5, 9⟩, ⟨2, [98], 6, 9⟩, ⟨3, [97], 7, 5⟩] hW [(5, 9), (6, 9), (7, 5)] (edges_by (by decide) (by decide) (by decide)) ⟨by decide, by decide⟩ s) ?_
  rintro _ w ⟨A2, c3, rfl, s⟩
  replace s : St W (Own 51 2 A2 3 c3 (pcs [(5, 9), (6, 9), (7, 5)]) :: Lob g1 [⟨1, [97], 5, 9⟩, ⟨2, [98], 6, 9⟩, ⟨3, [97], 7, 5⟩] :: L) w := s
  refine ⟨_, rfl, ?_⟩; clear ha; intro a ha
  refine st_val (.agg #[.int .i64 5, .int .i64 9]) ha (by kernel_rfl) (by kernel_rfl) ?_
  clear ha; intro a ha
  refine st_val (.agg #[.int .i64 6, .int .i64 9]) ha (by kernel_rfl) (by kernel_rfl) ?_
  clear ha; intro a ha
  refine st_val (.agg #[.int .i64 7, .int .i64 5]) ha (by kernel_rfl) (by kernel_rfl) ?_
  clear ha; intro a ha
  refine st_ex ha (by kernel_rfl) (ex_buildSlice elt47 _ zs47 [.int .i64 5, .int .i64 9, .int .i64 6, .int .i64 9, .int .i64 7, .int .i64 5] s rfl (by kernel_rfl) (by decide)) ?_
  clear ha; rintro _ w a ⟨g4, rfl, s⟩ ha
  replace s : St W (.blk g4 [.int .i64 5, .int .i64 9, .int .i64 6, .int .i64 9, .int .i64 7, .int .i64 5] 51 :: Own 51 2 A2 3 c3 (pcs [(5, 9), (6, 9), (7, 5)]) :: Lob g1 [⟨1, [97], 5, 9⟩, ⟨2, [98], 6, 9⟩, ⟨3, [97], 7, 5⟩] :: L) w := s
  refine st_call ha (by kernel_rfl) (by kernel_rfl) (same_is W _ w A2 (some ⟨g4, 0, none⟩) 3 3 c3 3 [(5, 9), (6, 9), (7, 5)] [(5, 9), (6, 9), (7, 5)] true (by decide) (Knows.own (j := 1) rfl) (Knows.blk (j := 0) rfl rfl) rfl rfl (by omega) s) ?_
  rintro _ w ⟨rfl, s⟩
  replace s : St W (.blk g4 [.int .i64 5, .int .i64 9, .int .i64 6, .int .i64 9, .int .i64 7, .int .i64 5] 51 :: Own 51 2 A2 3 c3 (pcs [(5, 9), (6, 9), (7, 5)]) :: Lob g1 [⟨1, [97], 5, 9⟩, ⟨2, [98], 6, 9⟩, ⟨3, [97], 7, 5⟩] :: L) w := s
  refine ⟨_, rfl, ?_⟩; clear ha; intro a ha
  refine st_val (.bool true) ha (by kernel_rfl) (by kernel_rfl) ?_
  clear ha; intro a ha
  refine wpList_nil ?_
  refine then_normal ?_
  refine wp_seq ?_
  refine wp_region_lit ?_
  refine st_val (.pointer (some ⟨g1, 0, none⟩)) ha (by kernel_rfl) (by kernel_rfl) ?_
  clear ha; intro a ha
  replace s := s.at_ (j := 2) rfl
  replace s : St W (Lob g1 [⟨1, [97], 5, 9⟩, ⟨2, [98], 6, 9⟩, ⟨3, [97], 7, 5⟩] :: .blk g4 [.int .i64 5, .int .i64 9, .int .i64 6, .int .i64 9, .int .i64 7, .int .i64 5] 51 :: Own 51 2 A2 3 c3 (pcs [(5, 9), (6, 9), (7, 5)]) :: L) w := s
  refine st_call ha (by kernel_rfl) (by kernel_rfl) (at_is W _ w g1 [⟨1, [97], 5, 9⟩, ⟨2, [98], 6, 9⟩, ⟨3, [97], 7, 5⟩] [97] 9 [⟨1, [97], 5, 9⟩] [⟨2, [98], 6, 9⟩, ⟨3, [97], 7, 5⟩] (by decide) (by decide) ⟨by decide, by decide⟩ s) ?_
  rintro _ w ⟨A5, c6, rfl, s⟩
  obtain ⟨ad7, hA⟩ := Own.addr s (by decide)
  subst hA
  replace s : St W (Own 28 4 (some ad7) 1 c6 (ws [⟨1, [97], 5, 9⟩]) :: Lob g1 [⟨2, [98], 6, 9⟩, ⟨3, [97], 7, 5⟩] :: .blk g4 [.int .i64 5, .int .i64 9, .int .i64 6, .int .i64 9, .int .i64 7, .int .i64 5] 51 :: Own 51 2 A2 3 c3 (pcs [(5, 9), (6, 9), (7, 5)]) :: L) w := s
  refine ⟨_, rfl, ?_⟩; clear ha; intro a ha
  refine st_val (.pointer (some ⟨g1, 0, none⟩)) ha (by kernel_rfl) (by kernel_rfl) ?_
  clear ha; intro a ha
  replace s := s.at_ (j := 1) rfl
  replace s : St W (Lob g1 [⟨2, [98], 6, 9⟩, ⟨3, [97], 7, 5⟩] :: Own 28 4 (some ad7) 1 c6 (ws [⟨1, [97], 5, 9⟩]) :: .blk g4 [.int .i64 5, .int .i64 9, .int .i64 6, .int .i64 9, .int .i64 7, .int .i64 5] 51 :: Own 51 2 A2 3 c3 (pcs [(5, 9), (6, 9), (7, 5)]) :: L) w := s
  refine st_call ha (by kernel_rfl) (by kernel_rfl) (free_is W _ w g1 [⟨2, [98], 6, 9⟩, ⟨3, [97], 7, 5⟩] 9 [⟨2, [98], 6, 9⟩] [⟨3, [97], 7, 5⟩] (by decide) (by decide) ⟨by decide, by decide⟩ s) ?_
  rintro _ w ⟨A8, c9, rfl, s⟩
  obtain ⟨ad10, hA⟩ := Own.addr s (by decide)
  subst hA
  replace s : St W (Own 28 4 (some ad10) 1 c9 (ws [⟨2, [98], 6, 9⟩]) :: Lob g1 [⟨3, [97], 7, 5⟩] :: Own 28 4 (some ad7) 1 c6 (ws [⟨1, [97], 5, 9⟩]) :: .blk g4 [.int .i64 5, .int .i64 9, .int .i64 6, .int .i64 9, .int .i64 7, .int .i64 5] 51 :: Own 51 2 A2 3 c3 (pcs [(5, 9), (6, 9), (7, 5)]) :: L) w := s
  refine ⟨_, rfl, ?_⟩; clear ha; intro a ha
  refine st_val (.slice (some ad7) 1 c6) ha (by kernel_rfl) (by kernel_rfl) ?_
  clear ha; intro a ha
  refine st_val (.slice (some ad10) 1 c9) ha (by kernel_rfl) (by kernel_rfl) ?_
  clear ha; intro a ha
  refine wpList_nil ?_
  refine then_normal ?_
  refine wp_seq ?_
  refine wp_region_lit ?_
  refine st_val (.pointer (some ⟨g1, 0, none⟩)) ha (by kernel_rfl) (by kernel_rfl) ?_
  clear ha; intro a ha
  replace s := s.at_ (j := 1) rfl
  replace s : St W (Lob g1 [⟨3, [97], 7, 5⟩] :: Own 28 4 (some ad10) 1 c9 (ws [⟨2, [98], 6, 9⟩]) :: Own 28 4 (some ad7) 1 c6 (ws [⟨1, [97], 5, 9⟩]) :: .blk g4 [.int .i64 5, .int .i64 9, .int .i64 6, .int .i64 9, .int .i64 7, .int .i64 5] 51 :: Own 51 2 A2 3 c3 (pcs [(5, 9), (6, 9), (7, 5)]) :: L) w := s
  refine st_call ha (by kernel_rfl) (by kernel_rfl) (len_is W _ w g1 [⟨3, [97], 7, 5⟩] 1 rfl ⟨by decide, by decide⟩ s) ?_
  rintro _ w ⟨rfl, s⟩
  replace s : St W (Lob g1 [⟨3, [97], 7, 5⟩] :: Own 28 4 (some ad10) 1 c9 (ws [⟨2, [98], 6, 9⟩]) :: Own 28 4 (some ad7) 1 c6 (ws [⟨1, [97], 5, 9⟩]) :: .blk g4 [.int .i64 5, .int .i64 9, .int .i64 6, .int .i64 9, .int .i64 7, .int .i64 5] 51 :: Own 51 2 A2 3 c3 (pcs [(5, 9), (6, 9), (7, 5)]) :: L) w := s
  refine ⟨_, rfl, ?_⟩; clear ha; intro a ha
  refine st_val (.int .i64 1) ha (by kernel_rfl) (by kernel_rfl) ?_
  clear ha; intro a ha
  refine wpList_nil ?_
  refine then_normal ?_
  refine wp_seq ?_
  refine wp_region_lit ?_
  refine st_val (.pointer (some ⟨g1, 0, none⟩)) ha (by kernel_rfl) (by kernel_rfl) ?_
  clear ha; intro a ha
  refine st_call ha (by kernel_rfl) (by kernel_rfl) (take_is W _ w g1 [⟨3, [97], 7, 5⟩] 3 ⟨3, [97], 7, 5⟩ true [] (by decide) (by decide) (by decide) ⟨by decide, by decide⟩ s) ?_
  rintro _ w ⟨rfl, s⟩
  replace s : St W (Lob g1 [] :: Own 28 4 (some ad10) 1 c9 (ws [⟨2, [98], 6, 9⟩]) :: Own 28 4 (some ad7) 1 c6 (ws [⟨1, [97], 5, 9⟩]) :: .blk g4 [.int .i64 5, .int .i64 9, .int .i64 6, .int .i64 9, .int .i64 7, .int .i64 5] 51 :: Own 51 2 A2 3 c3 (pcs [(5, 9), (6, 9), (7, 5)]) :: L) w := s
  refine ⟨_, rfl, ?_⟩; clear ha; intro a ha
  refine st_val (.tuple #[.agg #[.int .i64 3, .string (str [97]), .int .i64 7, .int .i64 5], .bool true]) ha (by kernel_rfl) (by kernel_rfl) ?_
  clear ha; intro a ha
  refine st_val (.agg #[.int .i64 3, .string (str [97]), .int .i64 7, .int .i64 5]) ha (by kernel_rfl) (by kernel_rfl) ?_
  clear ha; intro a ha
  refine st_val (.bool true) ha (by kernel_rfl) (by kernel_rfl) ?_
  clear ha; intro a ha
  refine st_ex ha (by kernel_rfl) (ex_alloc [.int .i64 0, .string (str []), .int .i64 0, .int .i64 0] s rfl (Try.zeroValue28 _) (by kernel_rfl)) ?_
  clear ha; rintro _ w a ⟨g11, rfl, s⟩ ha
  replace s : St W (.blk g11 [.int .i64 0, .string (str []), .int .i64 0, .int .i64 0] 28 :: Lob g1 [] :: Own 28 4 (some ad10) 1 c9 (ws [⟨2, [98], 6, 9⟩]) :: Own 28 4 (some ad7) 1 c6 (ws [⟨1, [97], 5, 9⟩]) :: .blk g4 [.int .i64 5, .int .i64 9, .int .i64 6, .int .i64 9, .int .i64 7, .int .i64 5] 51 :: Own 51 2 A2 3 c3 (pcs [(5, 9), (6, 9), (7, 5)]) :: L) w := s
  refine st_exd ha (by kernel_rfl) (ex_store (of_ := 0) 0 [.int .i64 3, .string (str [97]), .int .i64 7, .int .i64 5] s rfl rfl (by kernel_rfl) (by kernel_rfl) (Try.sizeOf28 _) rfl (by simp [Value.oneCell']) (Nat.le_of_ble_eq_true rfl)) ?_
  clear ha; rintro w a s ha
  replace s : St W (.blk g11 [.int .i64 3, .string (str [97]), .int .i64 7, .int .i64 5] 28 :: Lob g1 [] :: Own 28 4 (some ad10) 1 c9 (ws [⟨2, [98], 6, 9⟩]) :: Own 28 4 (some ad7) 1 c6 (ws [⟨1, [97], 5, 9⟩]) :: .blk g4 [.int .i64 5, .int .i64 9, .int .i64 6, .int .i64 9, .int .i64 7, .int .i64 5] 51 :: Own 51 2 A2 3 c3 (pcs [(5, 9), (6, 9), (7, 5)]) :: L) w := s
  refine st_val (.bool true) ha (by kernel_rfl) (by kernel_rfl) ?_
  clear ha; intro a ha
  refine wpList_nil ?_
  refine then_normal ?_
  refine wp_seq ?_
  refine wp_region_lit ?_
  refine st_val (.pointer (some ⟨g1, 0, none⟩)) ha (by kernel_rfl) (by kernel_rfl) ?_
  clear ha; intro a ha
  replace s := s.at_ (j := 1) rfl
  replace s : St W (Lob g1 [] :: .blk g11 [.int .i64 3, .string (str [97]), .int .i64 7, .int .i64 5] 28 :: Own 28 4 (some ad10) 1 c9 (ws [⟨2, [98], 6, 9⟩]) :: Own 28 4 (some ad7) 1 c6 (ws [⟨1, [97], 5, 9⟩]) :: .blk g4 [.int .i64 5, .int .i64 9, .int .i64 6, .int .i64 9, .int .i64 7, .int .i64 5] 51 :: Own 51 2 A2 3 c3 (pcs [(5, 9), (6, 9), (7, 5)]) :: L) w := s
  refine st_call ha (by kernel_rfl) (by kernel_rfl) (take_is W _ w g1 [] 3 ⟨0, [], 0, 0⟩ false [] (by decide) (by decide) (by decide) ⟨by decide, by decide⟩ s) ?_
  rintro _ w ⟨rfl, s⟩
  replace s : St W (Lob g1 [] :: .blk g11 [.int .i64 3, .string (str [97]), .int .i64 7, .int .i64 5] 28 :: Own 28 4 (some ad10) 1 c9 (ws [⟨2, [98], 6, 9⟩]) :: Own 28 4 (some ad7) 1 c6 (ws [⟨1, [97], 5, 9⟩]) :: .blk g4 [.int .i64 5, .int .i64 9, .int .i64 6, .int .i64 9, .int .i64 7, .int .i64 5] 51 :: Own 51 2 A2 3 c3 (pcs [(5, 9), (6, 9), (7, 5)]) :: L) w := s
  refine ⟨_, rfl, ?_⟩; clear ha; intro a ha
  refine st_val (.tuple #[.agg #[.int .i64 0, .string (str []), .int .i64 0, .int .i64 0], .bool false]) ha (by kernel_rfl) (by kernel_rfl) ?_
  clear ha; intro a ha
  refine st_val (.agg #[.int .i64 0, .string (str []), .int .i64 0, .int .i64 0]) ha (by kernel_rfl) (by kernel_rfl) ?_
  clear ha; intro a ha
  refine st_val (.bool false) ha (by kernel_rfl) (by kernel_rfl) ?_
  clear ha; intro a ha
  refine st_ex ha (by kernel_rfl) (ex_alloc [.int .i64 0, .string (str []), .int .i64 0, .int .i64 0] s rfl (Try.zeroValue28 _) (by kernel_rfl)) ?_
  clear ha; rintro _ w a ⟨g12, rfl, s⟩ ha
  replace s : St W (.blk g12 [.int .i64 0, .string (str []), .int .i64 0, .int .i64 0] 28 :: Lob g1 [] :: .blk g11 [.int .i64 3, .string (str [97]), .int .i64 7, .int .i64 5] 28 :: Own 28 4 (some ad10) 1 c9 (ws [⟨2, [98], 6, 9⟩]) :: Own 28 4 (some ad7) 1 c6 (ws [⟨1, [97], 5, 9⟩]) :: .blk g4 [.int .i64 5, .int .i64 9, .int .i64 6, .int .i64 9, .int .i64 7, .int .i64 5] 51 :: Own 51 2 A2 3 c3 (pcs [(5, 9), (6, 9), (7, 5)]) :: L) w := s
  refine st_exd ha (by kernel_rfl) (ex_store (of_ := 0) 0 [.int .i64 0, .string (str []), .int .i64 0, .int .i64 0] s rfl rfl (by kernel_rfl) (by kernel_rfl) (Try.sizeOf28 _) rfl (by simp [Value.oneCell']) (Nat.le_of_ble_eq_true rfl)) ?_
  clear ha; rintro w a s ha
  replace s : St W (.blk g12 [.int .i64 0, .string (str []), .int .i64 0, .int .i64 0] 28 :: Lob g1 [] :: .blk g11 [.int .i64 3, .string (str [97]), .int .i64 7, .int .i64 5] 28 :: Own 28 4 (some ad10) 1 c9 (ws [⟨2, [98], 6, 9⟩]) :: Own 28 4 (some ad7) 1 c6 (ws [⟨1, [97], 5, 9⟩]) :: .blk g4 [.int .i64 5, .int .i64 9, .int .i64 6, .int .i64 9, .int .i64 7, .int .i64 5] 51 :: Own 51 2 A2 3 c3 (pcs [(5, 9), (6, 9), (7, 5)]) :: L) w := s
  refine st_val (.bool false) ha (by kernel_rfl) (by kernel_rfl) ?_
  clear ha; intro a ha
  refine wpList_nil ?_
  refine then_normal ?_
  refine wp_seq ?_
  refine wp_region_head 14 (fun w => Reads w 4 (some ad7) 1 (ws [⟨1, [97], 5, 9⟩]) ∧ True) (by kernel_rfl) (by decide) ?_
  replace s := s.drew; generalize _root_.Go.World.drew _ = w at s ⊢
  have hS : (fun w => Reads w 4 (some ad7) 1 (ws [⟨1, [97], 5, 9⟩]) ∧ True) w := ⟨(Own.reads (s.at_ (j := 4) rfl).1), trivial⟩
  refine hd_val (i := 0) (.bool true) ha rfl (by kernel_rfl) (fun _ _ _ h => h) (by kernel_rfl) (fun w hS => (by kernel_rfl)) hS ?_
  clear ha; intro a ha
  refine hd_val (i := 1) (.bool true) ha rfl (by kernel_rfl) (fun _ _ _ h => h) (by kernel_rfl) (fun w hS => (by kernel_rfl)) hS ?_
  clear ha; intro a ha
  refine hd_val (i := 2) (.bool true) ha rfl (by kernel_rfl) (fun _ _ _ h => h) (by kernel_rfl) (fun w hS => (by kernel_rfl)) hS ?_
  clear ha; intro a ha
  refine hd_val (i := 3) (.bool true) ha rfl (by kernel_rfl) (fun _ _ _ h => h) (by kernel_rfl) (fun w hS => (by kernel_rfl)) hS ?_
  clear ha; intro a ha
  refine hd_val (i := 4) (.bool true) ha rfl (by kernel_rfl) (fun _ _ _ h => h) (by kernel_rfl) (fun w hS => (by kernel_rfl)) hS ?_
  clear ha; intro a ha
  refine hd_val (i := 5) (.slice (some ad7) 1 c6) ha rfl (by kernel_rfl) (fun _ _ _ h => h) (by kernel_rfl) (fun w hS => (by kernel_rfl)) hS ?_
  clear ha; intro a ha
  refine hd_val (i := 6) (.int .i64 1) ha rfl (by kernel_rfl) (fun _ _ _ h => h) (by kernel_rfl) (fun w hS => (by kernel_rfl)) hS ?_
  clear ha; intro a ha
  refine hd_val (i := 7) (.bool true) ha rfl (by kernel_rfl) (fun _ _ _ h => h) (by kernel_rfl) (fun w hS => (by kernel_rfl)) hS ?_
  clear ha; intro a ha
  refine hd_val (i := 8) (.bool true) ha rfl (by kernel_rfl) (fun _ _ _ h => h) (by kernel_rfl) (fun w hS => (by kernel_rfl)) hS ?_
  clear ha; intro a ha
  refine hd_val (i := 9) (.bool true) ha rfl (by kernel_rfl) (fun _ _ _ h => h) (by kernel_rfl) (fun w hS => (by kernel_rfl)) hS ?_
  clear ha; intro a ha
  refine hd_val (i := 10) (.slice (some ad7) 1 c6) ha rfl (by kernel_rfl) (fun _ _ _ h => h) (by kernel_rfl) (fun w hS => (by kernel_rfl)) hS ?_
  clear ha; intro a ha
  refine hd_val (i := 11) (.pointer (some (ad7.add (0 * 4)))) ha rfl (by kernel_rfl) (fun _ _ _ h => h) (by kernel_rfl) (fun w hS => (run_indexAddr' (kd := .i64) (i := 0) (n := 1) (c := c6) 0 rfl Try.underlying37 Try.sizeOf28 (by kernel_rfl) (by kernel_rfl) rfl (by first | assumption | omega) _)) hS ?_
  clear ha; intro a ha
  refine hd_val (i := 12) (.agg #[.int .i64 1, .string (str [97]), .int .i64 5, .int .i64 9]) ha rfl (by kernel_rfl) (fun _ _ _ h => h) (by kernel_rfl) (fun w hS => run_loadAtN (i := 0 * 4) [.int .i64 1, .string (str [97]), .int .i64 5, .int .i64 9] hS.1 rfl (by kernel_rfl) Try.isAgg28 Try.sizeOf28 (fun q_ hq_ => ws_at (show ([⟨1, [97], 5, 9⟩] : List Wt)[0]? = some ⟨1, [97], 5, 9⟩ from rfl) hq_) rfl) hS ?_
  clear ha; intro a ha
  refine hd_call (i := 13) ha rfl (by kernel_rfl) (by kernel_rfl) (by kernel_rfl) (wait_any W _ w 1 5 9 [97] s) ?_
  clear hS; rintro _ w ⟨rfl, s⟩
  replace s : St W (.blk g12 [.int .i64 0, .string (str []), .int .i64 0, .int .i64 0] 28 :: Lob g1 [] :: .blk g11 [.int .i64 3, .string (str [97]), .int .i64 7, .int .i64 5] 28 :: Own 28 4 (some ad10) 1 c9 (ws [⟨2, [98], 6, 9⟩]) :: Own 28 4 (some ad7) 1 c6 (ws [⟨1, [97], 5, 9⟩]) :: .blk g4 [.int .i64 5, .int .i64 9, .int .i64 6, .int .i64 9, .int .i64 7, .int .i64 5] 51 :: Own 51 2 A2 3 c3 (pcs [(5, 9), (6, 9), (7, 5)]) :: L) w := s
  have hS : (fun w => Reads w 4 (some ad7) 1 (ws [⟨1, [97], 5, 9⟩]) ∧ True) w := ⟨(Own.reads (s.at_ (j := 4) rfl).1), trivial⟩
  refine ⟨_, rfl, hS, ?_⟩; clear ha; intro a ha
  refine Head.done (by kernel_rfl) ?_
  clear hS; simp only [List.drop_succ_cons, List.drop_zero]
  refine st_val (.bool true) ha (by kernel_rfl) (run_known (show (if BinOp.eql = .eql then decide ((⟨1, [97], 5, 9⟩ : Wt) = ⟨1, [97], 5, 9⟩) else decide ((⟨1, [97], 5, 9⟩ : Wt) ≠ ⟨1, [97], 5, 9⟩)) = true from by decide) (run_wt (x := ⟨1, [97], 5, 9⟩) (y := ⟨1, [97], 5, 9⟩) (.inl rfl) rfl (by kernel_rfl) (by kernel_rfl) _)) ?_
  clear ha; intro a ha
  refine st_val (.bool true) ha (by kernel_rfl) (by kernel_rfl) ?_
  clear ha; intro a ha
  refine st_val (.bool true) ha (by kernel_rfl) (by kernel_rfl) ?_
  clear ha; intro a ha
  refine st_val (.slice (some ad10) 1 c9) ha (by kernel_rfl) (by kernel_rfl) ?_
  clear ha; intro a ha
  refine st_val (.int .i64 1) ha (by kernel_rfl) (by kernel_rfl) ?_
  clear ha; intro a ha
  refine st_val (.bool true) ha (by kernel_rfl) (by kernel_rfl) ?_
  clear ha; intro a ha
  refine st_val (.bool true) ha (by kernel_rfl) (by kernel_rfl) ?_
  clear ha; intro a ha
  refine st_val (.bool true) ha (by kernel_rfl) (by kernel_rfl) ?_
  clear ha; intro a ha
  refine st_val (.slice (some ad10) 1 c9) ha (by kernel_rfl) (by kernel_rfl) ?_
  clear ha; intro a ha
  refine st_val (.pointer (some (ad10.add (0 * 4)))) ha (by kernel_rfl) (run_indexAddr' (kd := .i64) (i := 0) (n := 1) (c := c9) 0 rfl Try.underlying37 Try.sizeOf28 (by kernel_rfl) (by kernel_rfl) rfl (by first | assumption | omega) _) ?_
  clear ha; intro a ha
  refine st_val (.pointer (some (ad10.add (0 * 4 + 0)))) ha (by kernel_rfl) (run_fieldAddr_at (i := 0 * 4) (off := 0) rfl Try.underlying28 rfl Try.sizeOf3 (by kernel_rfl) _) ?_
  clear ha; intro a ha
  refine st_val (.int .i64 2) ha (by kernel_rfl) (run_loadAt1 (i := 0 * 4 + 0) ((Own.reads (s.at_ (j := 3) rfl).1)) rfl (by kernel_rfl) Try.isAgg3 (by rw [ws_at (show ([⟨2, [98], 6, 9⟩] : List Wt)[0]? = some ⟨2, [98], 6, 9⟩ from rfl) (by omega)]; rfl)) ?_
  clear ha; intro a ha
  refine st_val (.bool true) ha (by kernel_rfl) (by kernel_rfl) ?_
  clear ha; intro a ha
  refine st_val (.bool true) ha (by kernel_rfl) (by kernel_rfl) ?_
  clear ha; intro a ha
  refine st_val (.bool true) ha (by kernel_rfl) (by kernel_rfl) ?_
  clear ha; intro a ha
  refine st_val (.int .i64 1) ha (by kernel_rfl) (by kernel_rfl) ?_
  clear ha; intro a ha
  refine st_val (.bool true) ha (by kernel_rfl) (by kernel_rfl) ?_
  clear ha; intro a ha
  refine st_val (.bool true) ha (by kernel_rfl) (by kernel_rfl) ?_
  clear ha; intro a ha
  refine st_val (.bool true) ha (by kernel_rfl) (by kernel_rfl) ?_
  clear ha; intro a ha
  refine st_val (.bool true) ha (by kernel_rfl) (by kernel_rfl) ?_
  clear ha; intro a ha
  refine st_val (.bool true) ha (by kernel_rfl) (by kernel_rfl) ?_
  clear ha; intro a ha
  refine st_val (.bool true) ha (by kernel_rfl) (by kernel_rfl) ?_
  clear ha; intro a ha
  refine st_val (.pointer (some ⟨g11, 2, none⟩)) ha (by kernel_rfl) (by kernel_rfl) ?_
  clear ha; intro a ha
  refine st_val (.int .i64 7) ha (by kernel_rfl) (run_load1 (of_ := 2) (s.blkIs 2 rfl) rfl (by kernel_rfl) Try.isAgg3 rfl) ?_
  clear ha; intro a ha
  refine st_val (.bool true) ha (by kernel_rfl) (by kernel_rfl) ?_
  clear ha; intro a ha
  refine st_val (.bool true) ha (by kernel_rfl) (by kernel_rfl) ?_
  clear ha; intro a ha
  refine st_val (.bool true) ha (by kernel_rfl) (by kernel_rfl) ?_
  clear ha; intro a ha
  refine st_val (.bool false) ha (by kernel_rfl) (by kernel_rfl) ?_
  clear ha; intro a ha
  refine st_val (.bool true) ha (by kernel_rfl) (by kernel_rfl) ?_
  clear ha; intro a ha
  refine st_val (.bool true) ha (by kernel_rfl) (by kernel_rfl) ?_
  clear ha; intro a ha
  refine st_val (.bool true) ha (by kernel_rfl) (by kernel_rfl) ?_
  clear ha; intro a ha
  refine wpList_nil ?_
  refine then_normal ?_
  refine wp_ret ?_
  refine ret_with (v := .bool true) ha (results_1 rfl ha (res_tmp (by kernel_rfl) (by kernel_rfl))) ?_
  replace s := s.tail.tail.tail.tail.tail.tail.tail
  replace s : St W (L) w := s
  exact ⟨rfl, s⟩

end Go.Proofs.Ytlkoppmenpeepaa.B
