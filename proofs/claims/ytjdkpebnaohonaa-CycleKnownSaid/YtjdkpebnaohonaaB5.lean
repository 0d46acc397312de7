import Derived.Test.YtjdkpebnaohonaaB4
namespace Go.Proofs.Ytjdkpebnaohonaa.B
open Go.RowKit Go.Maps Go.Proofs.Ytjdkpebnaohonaa.Sep Go.Proofs.Ytjdkpebnaohonaa.P
set_option linter.unusedVariables false
set_option linter.unusedSimpArgs false
theorem Knows.blk {L : List Chunk} {j g k n : Nat} {cs : List Value} {t : TypeId} (h : L[j]? = some (.blk g cs t)) (hl : cs.length = n * k) : Knows L fun w => Reads w k (some ⟨g, 0, none⟩) n cs :=
  fun w s => reads_blk (s.perm (perm_at h)).cell hl
theorem way_rank {E : List Arc} {R : List Int} {r : Int → Nat} (h : ∀ e ∈ E, r e.1 ≤ r e.2 ∧ (e.1 ∉ R → r e.1 < r e.2)) {a b : Int} (w : P.Way E a b) : r a ≤ r b ∧ (a ∉ R → r a < r b) := by
  induction w with
  | one e => exact h _ e
  | step e _ ih =>
    have := h _ e
    exact ⟨Nat.le_trans this.1 ih.1, fun hn => Nat.lt_of_lt_of_le (this.2 hn) ih.1⟩
/-- A list is the rings', if each of it is in one, and all others rise. -/
theorem rings_cert {E : List Arc} {R : List Int} (r : Int → Nat) (h1 : R.Pairwise (· < ·)) (h2 : ∀ a ∈ R, P.Way E a a) (h3 : ∀ e ∈ E, r e.1 ≤ r e.2 ∧ (e.1 ∉ R → r e.1 < r e.2)) : RingsOf E R := by
  refine ⟨h1, fun a => ⟨h2 a, fun hw => ?_⟩⟩
  by_cases ha : a ∈ R
  · exact ha
  · have := (way_rank h3 hw).2 ha
    omega
instance (x : Arc) : Decidable (okA x) := by unfold okA; infer_instance
instance (l : List Arc) : Decidable (whoOk l) := by unfold whoOk; infer_instance
theorem rings_ok_of {E : List Arc} {R : List Int} (h1 : E.length ≤ 1000) (h2 : ∀ x ∈ E, okA x) (h3 : RingsOf E R) : RingsRes E 0 R := .inr (.inr ⟨h1, h2, rfl, h3⟩)
theorem rings_is (W : World) (hW : W.drawn = 0) (L : List Chunk) (w : World) (A : Option Addr) (n c : Nat) (E : List Arc) (er : Int) (R : List Int) (h : RingsRes E er R) (hr : Knows L fun w => Reads w 2 A n (egs E)) (hl : E.length = n) (hn : n ≤ 140737488351232) (s : St W L w) :
    Calls Try.prog 10 #[.slice A n c] w fun e w' => ∃ A' c', e = .returned (.tuple #[.slice A' R.length c', .int .i64 er]) ∧ St W (Own 3 1 A' R.length c' (ints R) :: L) w' := by
  refine (rings_any W hW L w A n c E hr hl hn s).mono ?_
  rintro e w' ⟨A', c', R', er', rfl, hres, s⟩
  obtain ⟨rfl, rfl⟩ := hres.unique h
  exact ⟨A', c', rfl, s⟩
theorem eqInts_is (W : World) (L : List Chunk) (w : World) (A : Option Addr) (n ca : Nat) (la : List Int) (hra : Knows L fun w => Reads w 1 A n (ints la)) (hral : la.length = n) (hran : n ≤ 140737488351232) (B : Option Addr) (m cb : Nat) (lb : List Int) (hrb : Knows L fun w => Reads w 1 B m (ints lb)) (hrbl : lb.length = m) (hrbn : m ≤ 140737488351232) (b : Bool) (h : decide (la = lb) = b) (s : St W L w) :
    Calls Try.prog 14 #[.slice A n ca, .slice B m cb] w fun e w' => e = .returned (.bool b) ∧ St W L w' := by
  subst h; exact eqInts_any W L w A n ca la hra hral hran B m cb lb hrb hrbl hrbn s
theorem has_is (W : World) (L : List Chunk) (w : World) (A : Option Addr) (n ca : Nat) (la : List Int) (hra : Knows L fun w => Reads w 1 A n (ints la)) (hral : la.length = n) (hran : n ≤ 140737488351232) (q : Int) (b : Bool) (h : decide (q ∈ la) = b) (s : St W L w) :
    Calls Try.prog 16 #[.slice A n ca, .int .i64 q] w fun e w' => e = .returned (.bool b) ∧ St W L w' := by
  subst h; exact has_any W L w A n ca la hra hral hran q s
def E1 : List Arc := [(1, 2), (2, 3), (3, 1), (4, 1)]
def E2 : List Arc := [(1, 2), (2, 3)]
def E3 : List Arc := [(1, 1)]
def E4 : List Arc := [(1, 2), (2, 1)]
theorem E1_rings : RingsRes E1 0 [1, 2, 3] := rings_ok_of (by decide) (by decide) (rings_cert (fun x => if x = 4 then 0 else 1) (by decide) (by
  have w12 : P.Way E1 1 2 := .one (by decide)
  have w23 : P.Way E1 2 3 := .one (by decide)
  have w31 : P.Way E1 3 1 := .one (by decide)
  intro a ha
  simp at ha
  rcases ha with rfl | rfl | rfl
  · exact w12.trans (w23.trans w31)
  · exact w23.trans (w31.trans w12)
  · exact w31.trans (w12.trans w23)) (by decide))
theorem E2_rings : RingsRes E2 0 [] := rings_ok_of (by decide) (by decide) (rings_cert (fun x => x.toNat) (by decide) (by simp) (by decide))
theorem E3_rings : RingsRes E3 2 [] := .inr (.inl ⟨by decide, by decide, rfl, rfl⟩)
theorem E4_rings : RingsRes E4 0 [1, 2] := rings_ok_of (by decide) (by decide) (rings_cert (fun x => 0) (by decide) (by
  have w12 : P.Way E4 1 2 := .one (by decide)
  have w21 : P.Way E4 2 1 := .one (by decide)
  intro a ha
  simp at ha
  rcases ha with rfl | rfl
  · exact w12.trans w21
  · exact w21.trans w12) (by decide))
theorem E0_rings : RingsRes [] 0 [] := rings_ok_of (by decide) (by decide) (rings_cert (fun x => 0) (by decide) (by simp) (by decide))
theorem vic_yes {E l : List Arc} {R : List Int} {id : Int} (h : RingsRes E 0 R) (h1 : l.length ≤ 1000) (h2 : whoOk l) (h3 : R ≠ []) (h4 : IsMin (prio l) R id) : VictimRes E l id true 0 := ⟨R, 0, h, .inr ⟨rfl, .inr (.inr ⟨h1, h2, rfl, .inr ⟨h3, rfl, h4⟩⟩)⟩⟩
theorem vic_no {E l : List Arc} (h : RingsRes E 0 []) (h1 : l.length ≤ 1000) (h2 : whoOk l) : VictimRes E l 0 false 0 := ⟨[], 0, h, .inr ⟨rfl, .inr (.inr ⟨h1, h2, rfl, .inl ⟨rfl, rfl, rfl⟩⟩)⟩⟩
theorem V1 : VictimRes E4 [(1, 5), (2, 3)] 2 true 0 := vic_yes E4_rings (by decide) (by decide) (by decide) ⟨by decide, by decide⟩
theorem V2 : VictimRes E4 [] 1 true 0 := vic_yes E4_rings (by decide) (by decide) (by decide) ⟨by decide, by decide⟩
theorem V3 : VictimRes E4 [(1, 5)] 2 true 0 := vic_yes E4_rings (by decide) (by decide) (by decide) ⟨by decide, by decide⟩
theorem V4 : VictimRes [] [] 0 false 0 := vic_no E0_rings (by decide) (by decide)

set_option maxRecDepth 100000 in
theorem works_true (W : World) (hW : W.drawn = 0) (L : List Chunk) (w : World) (s : St W L w) :
    Calls Try.prog 9 #[] w fun e w' => e = .returned (.bool true) ∧ St W L w' := by
  refine enter_args (l := []) Try.func9 rfl rfl (Nat.le_of_ble_eq_true rfl) ?_
  intro a ha; replace ha : Has a 73 [] := ha
  refine wp_seq ?_
  refine wp_region_lit ?_
  refine st_val (.bool false) ha (by kernel_rfl) (by kernel_rfl) ?_
  clear ha; intro a ha
  refine wpList_nil ?_
  refine then_normal ?_
  refine wp_seq ?_
  refine wp_region_lit ?_
  refine st_val (.agg #[.int .i64 1, .int .i64 2]) ha (by kernel_rfl) (by kernel_rfl) ?_
  clear ha; intro a ha
  refine st_val (.agg #[.int .i64 2, .int .i64 3]) ha (by kernel_rfl) (by kernel_rfl) ?_
  clear ha; intro a ha
  refine st_val (.agg #[.int .i64 3, .int .i64 1]) ha (by kernel_rfl) (by kernel_rfl) ?_
  clear ha; intro a ha
  refine st_val (.agg #[.int .i64 4, .int .i64 1]) ha (by kernel_rfl) (by kernel_rfl) ?_
  clear ha; intro a ha
  refine st_ex ha (by kernel_rfl) (ex_buildSlice elt22 _ zs22 [.int .i64 1, .int .i64 2, .int .i64 2, .int .i64 3, .int .i64 3, .int .i64 1, .int .i64 4, .int .i64 1] s rfl (by kernel_rfl) (by decide)) ?_
  clear ha; rintro _ w a ⟨g1, rfl, s⟩ ha
  replace s : St W (.blk g1 [.int .i64 1, .int .i64 2, .int .i64 2, .int .i64 3, .int .i64 3, .int .i64 1, .int .i64 4, .int .i64 1] 37 :: L) w := s
  refine st_call ha (by kernel_rfl) (by kernel_rfl) (rings_is W hW _ w (some ⟨g1, 0, none⟩) 4 4 [(1, 2), (2, 3), (3, 1), (4, 1)] 0 [1, 2, 3] E1_rings (Knows.blk (j := 0) (cs := egs [(1, 2), (2, 3), (3, 1), (4, 1)]) rfl rfl) rfl (by omega) s) ?_
  rintro _ w ⟨A2, c3, rfl, s⟩
  replace s : St W (Own 3 1 A2 3 c3 (ints [1, 2, 3]) :: .blk g1 [.int .i64 1, .int .i64 2, .int .i64 2, .int .i64 3, .int .i64 3, .int .i64 1, .int .i64 4, .int .i64 1] 37 :: L) w := s
  refine ⟨_, rfl, ?_⟩; clear ha; intro a ha
  refine st_val (.tuple #[.slice A2 3 c3, .int .i64 0]) ha (by kernel_rfl) (by kernel_rfl) ?_
  clear ha; intro a ha
  refine st_val (.slice A2 3 c3) ha (by kernel_rfl) (by kernel_rfl) ?_
  clear ha; intro a ha
  refine st_val (.int .i64 0) ha (by kernel_rfl) (by kernel_rfl) ?_
  clear ha; intro a ha
  refine st_val (.slice A2 3 c3) ha (by kernel_rfl) (by kernel_rfl) ?_
  clear ha; intro a ha
  refine st_val (.int .i64 0) ha (by kernel_rfl) (by kernel_rfl) ?_
  clear ha; intro a ha
  refine wpList_nil ?_
  refine then_normal ?_
  refine wp_seq ?_
  refine wp_region_lit ?_
  refine st_val (.agg #[.int .i64 1, .int .i64 2]) ha (by kernel_rfl) (by kernel_rfl) ?_
  clear ha; intro a ha
  refine st_val (.agg #[.int .i64 2, .int .i64 3]) ha (by kernel_rfl) (by kernel_rfl) ?_
  clear ha; intro a ha
  refine st_ex ha (by kernel_rfl) (ex_buildSlice elt22 _ zs22 [.int .i64 1, .int .i64 2, .int .i64 2, .int .i64 3] s rfl (by kernel_rfl) (by decide)) ?_
  clear ha; rintro _ w a ⟨g4, rfl, s⟩ ha
  replace s : St W (.blk g4 [.int .i64 1, .int .i64 2, .int .i64 2, .int .i64 3] 37 :: Own 3 1 A2 3 c3 (ints [1, 2, 3]) :: .blk g1 [.int .i64 1, .int .i64 2, .int .i64 2, .int .i64 3, .int .i64 3, .int .i64 1, .int .i64 4, .int .i64 1] 37 :: L) w := s
  refine st_call ha (by kernel_rfl) (by kernel_rfl) (rings_is W hW _ w (some ⟨g4, 0, none⟩) 2 2 [(1, 2), (2, 3)] 0 [] E2_rings (Knows.blk (j := 0) (cs := egs [(1, 2), (2, 3)]) rfl rfl) rfl (by omega) s) ?_
  rintro _ w ⟨A5, c6, rfl, s⟩
  replace s : St W (Own 3 1 A5 0 c6 (ints []) :: .blk g4 [.int .i64 1, .int .i64 2, .int .i64 2, .int .i64 3] 37 :: Own 3 1 A2 3 c3 (ints [1, 2, 3]) :: .blk g1 [.int .i64 1, .int .i64 2, .int .i64 2, .int .i64 3, .int .i64 3, .int .i64 1, .int .i64 4, .int .i64 1] 37 :: L) w := s
  refine ⟨_, rfl, ?_⟩; clear ha; intro a ha
  refine st_val (.tuple #[.slice A5 0 c6, .int .i64 0]) ha (by kernel_rfl) (by kernel_rfl) ?_
  clear ha; intro a ha
  refine st_val (.slice A5 0 c6) ha (by kernel_rfl) (by kernel_rfl) ?_
  clear ha; intro a ha
  refine st_val (.int .i64 0) ha (by kernel_rfl) (by kernel_rfl) ?_
  clear ha; intro a ha
  refine st_val (.slice A5 0 c6) ha (by kernel_rfl) (by kernel_rfl) ?_
  clear ha; intro a ha
  refine st_val (.int .i64 0) ha (by kernel_rfl) (by kernel_rfl) ?_
  clear ha; intro a ha
  refine wpList_nil ?_
  refine then_normal ?_
  refine wp_seq ?_
  refine wp_region_lit ?_
  refine st_val (.agg #[.int .i64 1, .int .i64 1]) ha (by kernel_rfl) (by kernel_rfl) ?_
  clear ha; intro a ha
  refine st_ex ha (by kernel_rfl) (ex_buildSlice elt22 _ zs22 [.int .i64 1, .int .i64 1] s rfl (by kernel_rfl) (by decide)) ?_
  clear ha; rintro _ w a ⟨g7, rfl, s⟩ ha
  replace s : St W (.blk g7 [.int .i64 1, .int .i64 1] 37 :: Own 3 1 A5 0 c6 (ints []) :: .blk g4 [.int .i64 1, .int .i64 2, .int .i64 2, .int .i64 3] 37 :: Own 3 1 A2 3 c3 (ints [1, 2, 3]) :: .blk g1 [.int .i64 1, .int .i64 2, .int .i64 2, .int .i64 3, .int .i64 3, .int .i64 1, .int .i64 4, .int .i64 1] 37 :: L) w := s
  refine st_call ha (by kernel_rfl) (by kernel_rfl) (rings_is W hW _ w (some ⟨g7, 0, none⟩) 1 1 [(1, 1)] 2 [] E3_rings (Knows.blk (j := 0) (cs := egs [(1, 1)]) rfl rfl) rfl (by omega) s) ?_
  rintro _ w ⟨A8, c9, rfl, s⟩
  replace s : St W (Own 3 1 A8 0 c9 (ints []) :: .blk g7 [.int .i64 1, .int .i64 1] 37 :: Own 3 1 A5 0 c6 (ints []) :: .blk g4 [.int .i64 1, .int .i64 2, .int .i64 2, .int .i64 3] 37 :: Own 3 1 A2 3 c3 (ints [1, 2, 3]) :: .blk g1 [.int .i64 1, .int .i64 2, .int .i64 2, .int .i64 3, .int .i64 3, .int .i64 1, .int .i64 4, .int .i64 1] 37 :: L) w := s
  refine ⟨_, rfl, ?_⟩; clear ha; intro a ha
  refine st_val (.tuple #[.slice A8 0 c9, .int .i64 2]) ha (by kernel_rfl) (by kernel_rfl) ?_
  clear ha; intro a ha
  refine st_val (.slice A8 0 c9) ha (by kernel_rfl) (by kernel_rfl) ?_
  clear ha; intro a ha
  refine st_val (.int .i64 2) ha (by kernel_rfl) (by kernel_rfl) ?_
  clear ha; intro a ha
  refine st_val (.slice A8 0 c9) ha (by kernel_rfl) (by kernel_rfl) ?_
  clear ha; intro a ha
  refine st_val (.int .i64 2) ha (by kernel_rfl) (by kernel_rfl) ?_
  clear ha; intro a ha
  refine wpList_nil ?_
  refine then_normal ?_
  refine wp_seq ?_
  refine wp_region_lit ?_
  refine st_val (.agg #[.int .i64 1, .int .i64 2]) ha (by kernel_rfl) (by kernel_rfl) ?_
  clear ha; intro a ha
  refine st_val (.agg #[.int .i64 2, .int .i64 1]) ha (by kernel_rfl) (by kernel_rfl) ?_
  clear ha; intro a ha
  refine st_ex ha (by kernel_rfl) (ex_buildSlice elt22 _ zs22 [.int .i64 1, .int .i64 2, .int .i64 2, .int .i64 1] s rfl (by kernel_rfl) (by decide)) ?_
  clear ha; rintro _ w a ⟨g10, rfl, s⟩ ha
  replace s : St W (.blk g10 [.int .i64 1, .int .i64 2, .int .i64 2, .int .i64 1] 37 :: Own 3 1 A8 0 c9 (ints []) :: .blk g7 [.int .i64 1, .int .i64 1] 37 :: Own 3 1 A5 0 c6 (ints []) :: .blk g4 [.int .i64 1, .int .i64 2, .int .i64 2, .int .i64 3] 37 :: Own 3 1 A2 3 c3 (ints [1, 2, 3]) :: .blk g1 [.int .i64 1, .int .i64 2, .int .i64 2, .int .i64 3, .int .i64 3, .int .i64 1, .int .i64 4, .int .i64 1] 37 :: L) w := s
  refine st_val (.slice (some ⟨g10, 0, none⟩) 2 2) ha (by kernel_rfl) (by kernel_rfl) ?_
  clear ha; intro a ha
  refine wpList_nil ?_
  refine then_normal ?_
  refine wp_seq ?_
  refine wp_region_lit ?_
  refine st_val (.int .i64 0) ha (by kernel_rfl) (by kernel_rfl) ?_
  clear ha; intro a ha
  refine st_val (.bool true) ha (by kernel_rfl) (by kernel_rfl) ?_
  clear ha; intro a ha
  refine st_val (.bool true) ha (by kernel_rfl) (by kernel_rfl) ?_
  clear ha; intro a ha
  refine st_val (.slice A2 3 c3) ha (by kernel_rfl) (by kernel_rfl) ?_
  clear ha; intro a ha
  refine st_ex ha (by kernel_rfl) (ex_buildSlice elt25 _ zs25 [.int .i64 1, .int .i64 2, .int .i64 3] s rfl (by kernel_rfl) (by decide)) ?_
  clear ha; rintro _ w a ⟨g11, rfl, s⟩ ha
  replace s : St W (.blk g11 [.int .i64 1, .int .i64 2, .int .i64 3] 3 :: .blk g10 [.int .i64 1, .int .i64 2, .int .i64 2, .int .i64 1] 37 :: Own 3 1 A8 0 c9 (ints []) :: .blk g7 [.int .i64 1, .int .i64 1] 37 :: Own 3 1 A5 0 c6 (ints []) :: .blk g4 [.int .i64 1, .int .i64 2, .int .i64 2, .int .i64 3] 37 :: Own 3 1 A2 3 c3 (ints [1, 2, 3]) :: .blk g1 [.int .i64 1, .int .i64 2, .int .i64 2, .int .i64 3, .int .i64 3, .int .i64 1, .int .i64 4, .int .i64 1] 37 :: L) w := s
  refine st_call ha (by kernel_rfl) (by kernel_rfl) (eqInts_is W _ w A2 3 c3 [1, 2, 3] (Knows.own (j := 6) rfl) rfl (by omega) (some ⟨g11, 0, none⟩) 3 3 [1, 2, 3] (Knows.blk (j := 0) (cs := ints [1, 2, 3]) rfl rfl) rfl (by omega) true (by decide) s) ?_
  rintro _ w ⟨rfl, s⟩
  replace s : St W (.blk g11 [.int .i64 1, .int .i64 2, .int .i64 3] 3 :: .blk g10 [.int .i64 1, .int .i64 2, .int .i64 2, .int .i64 1] 37 :: Own 3 1 A8 0 c9 (ints []) :: .blk g7 [.int .i64 1, .int .i64 1] 37 :: Own 3 1 A5 0 c6 (ints []) :: .blk g4 [.int .i64 1, .int .i64 2, .int .i64 2, .int .i64 3] 37 :: Own 3 1 A2 3 c3 (ints [1, 2, 3]) :: .blk g1 [.int .i64 1, .int .i64 2, .int .i64 2, .int .i64 3, .int .i64 3, .int .i64 1, .int .i64 4, .int .i64 1] 37 :: L) w := s
  refine ⟨_, rfl, ?_⟩; clear ha; intro a ha
  refine st_val (.bool true) ha (by kernel_rfl) (by kernel_rfl) ?_
  clear ha; intro a ha
  refine st_val (.bool true) ha (by kernel_rfl) (by kernel_rfl) ?_
  clear ha; intro a ha
  refine st_val (.int .i64 0) ha (by kernel_rfl) (by kernel_rfl) ?_
  clear ha; intro a ha
  refine st_val (.bool true) ha (by kernel_rfl) (by kernel_rfl) ?_
  clear ha; intro a ha
  refine st_val (.bool true) ha (by kernel_rfl) (by kernel_rfl) ?_
  clear ha; intro a ha
  refine st_val (.bool true) ha (by kernel_rfl) (by kernel_rfl) ?_
  clear ha; intro a ha
  refine st_val (.slice A5 0 c6) ha (by kernel_rfl) (by kernel_rfl) ?_
  clear ha; intro a ha
  refine st_val (.int .i64 0) ha (by kernel_rfl) (by kernel_rfl) ?_
  clear ha; intro a ha
  refine st_val (.bool true) ha (by kernel_rfl) (by kernel_rfl) ?_
  clear ha; intro a ha
  refine st_val (.bool true) ha (by kernel_rfl) (by kernel_rfl) ?_
  clear ha; intro a ha
  refine st_val (.bool true) ha (by kernel_rfl) (by kernel_rfl) ?_
  clear ha; intro a ha
  refine st_val (.int .i64 2) ha (by kernel_rfl) (by kernel_rfl) ?_
  clear ha; intro a ha
  refine st_val (.bool true) ha (by kernel_rfl) (by kernel_rfl) ?_
  clear ha; intro a ha
  refine st_val (.bool true) ha (by kernel_rfl) (by kernel_rfl) ?_
  clear ha; intro a ha
  refine st_val (.bool true) ha (by kernel_rfl) (by kernel_rfl) ?_
  clear ha; intro a ha
  refine st_val (.slice (some ⟨g10, 0, none⟩) 2 2) ha (by kernel_rfl) (by kernel_rfl) ?_
  clear ha; intro a ha
  refine st_val (.agg #[.int .i64 1, .int .i64 5]) ha (by kernel_rfl) (by kernel_rfl) ?_
  clear ha; intro a ha
  refine st_val (.agg #[.int .i64 2, .int .i64 3]) ha (by kernel_rfl) (by kernel_rfl) ?_
  clear ha; intro a ha
  refine st_ex ha (by kernel_rfl) (ex_buildSlice elt23 _ zs23 [.int .i64 1, .int .i64 5, .int .i64 2, .int .i64 3] s rfl (by kernel_rfl) (by decide)) ?_
  clear ha; rintro _ w a ⟨g12, rfl, s⟩ ha
  replace s : St W (.blk g12 [.int .i64 1, .int .i64 5, .int .i64 2, .int .i64 3] 34 :: .blk g11 [.int .i64 1, .int .i64 2, .int .i64 3] 3 :: .blk g10 [.int .i64 1, .int .i64 2, .int .i64 2, .int .i64 1] 37 :: Own 3 1 A8 0 c9 (ints []) :: .blk g7 [.int .i64 1, .int .i64 1] 37 :: Own 3 1 A5 0 c6 (ints []) :: .blk g4 [.int .i64 1, .int .i64 2, .int .i64 2, .int .i64 3] 37 :: Own 3 1 A2 3 c3 (ints [1, 2, 3]) :: .blk g1 [.int .i64 1, .int .i64 2, .int .i64 2, .int .i64 3, .int .i64 3, .int .i64 1, .int .i64 4, .int .i64 1] 37 :: L) w := s
  refine st_call ha (by kernel_rfl) (by kernel_rfl) (victimIs_any W hW _ w (some ⟨g10, 0, none⟩) 2 2 [(1, 2), (2, 1)] (Knows.blk (j := 2) (cs := egs [(1, 2), (2, 1)]) rfl rfl) rfl (by omega) (some ⟨g12, 0, none⟩) 2 2 [(1, 5), (2, 3)] (Knows.blk (j := 0) (cs := egs [(1, 5), (2, 3)]) rfl rfl) rfl (by omega) (by decide) 2 2 true V1 (by decide) rfl s) ?_
  rintro _ w ⟨rfl, s⟩
  replace s : St W (.blk g12 [.int .i64 1, .int .i64 5, .int .i64 2, .int .i64 3] 34 :: .blk g11 [.int .i64 1, .int .i64 2, .int .i64 3] 3 :: .blk g10 [.int .i64 1, .int .i64 2, .int .i64 2, .int .i64 1] 37 :: Own 3 1 A8 0 c9 (ints []) :: .blk g7 [.int .i64 1, .int .i64 1] 37 :: Own 3 1 A5 0 c6 (ints []) :: .blk g4 [.int .i64 1, .int .i64 2, .int .i64 2, .int .i64 3] 37 :: Own 3 1 A2 3 c3 (ints [1, 2, 3]) :: .blk g1 [.int .i64 1, .int .i64 2, .int .i64 2, .int .i64 3, .int .i64 3, .int .i64 1, .int .i64 4, .int .i64 1] 37 :: L) w := s
  refine ⟨_, rfl, ?_⟩; clear ha; intro a ha
  refine st_val (.bool true) ha (by kernel_rfl) (by kernel_rfl) ?_
  clear ha; intro a ha
  refine st_val (.bool true) ha (by kernel_rfl) (by kernel_rfl) ?_
  clear ha; intro a ha
  refine st_val (.slice (some ⟨g10, 0, none⟩) 2 2) ha (by kernel_rfl) (by kernel_rfl) ?_
  clear ha; intro a ha
  refine st_call ha (by kernel_rfl) (by kernel_rfl) (victimIs_any W hW _ w (some ⟨g10, 0, none⟩) 2 2 [(1, 2), (2, 1)] (Knows.blk (j := 2) (cs := egs [(1, 2), (2, 1)]) rfl rfl) rfl (by omega) none 0 0 [] (Knows.reads_none _ _) rfl (by omega) (by decide) 1 1 true V2 (by decide) rfl s) ?_
  rintro _ w ⟨rfl, s⟩
  replace s : St W (.blk g12 [.int .i64 1, .int .i64 5, .int .i64 2, .int .i64 3] 34 :: .blk g11 [.int .i64 1, .int .i64 2, .int .i64 3] 3 :: .blk g10 [.int .i64 1, .int .i64 2, .int .i64 2, .int .i64 1] 37 :: Own 3 1 A8 0 c9 (ints []) :: .blk g7 [.int .i64 1, .int .i64 1] 37 :: Own 3 1 A5 0 c6 (ints []) :: .blk g4 [.int .i64 1, .int .i64 2, .int .i64 2, .int .i64 3] 37 :: Own 3 1 A2 3 c3 (ints [1, 2, 3]) :: .blk g1 [.int .i64 1, .int .i64 2, .int .i64 2, .int .i64 3, .int .i64 3, .int .i64 1, .int .i64 4, .int .i64 1] 37 :: L) w := s
  refine ⟨_, rfl, ?_⟩; clear ha; intro a ha
  refine st_val (.bool true) ha (by kernel_rfl) (by kernel_rfl) ?_
  clear ha; intro a ha
  refine st_val (.bool true) ha (by kernel_rfl) (by kernel_rfl) ?_
  clear ha; intro a ha
  refine st_val (.slice (some ⟨g10, 0, none⟩) 2 2) ha (by kernel_rfl) (by kernel_rfl) ?_
  clear ha; intro a ha
  refine st_val (.agg #[.int .i64 1, .int .i64 5]) ha (by kernel_rfl) (by kernel_rfl) ?_
  clear ha; intro a ha
  refine st_ex ha (by kernel_rfl) (ex_buildSlice elt23 _ zs23 [.int .i64 1, .int .i64 5] s rfl (by kernel_rfl) (by decide)) ?_
  clear ha; rintro _ w a ⟨g13, rfl, s⟩ ha
  replace s : St W (.blk g13 [.int .i64 1, .int .i64 5] 34 :: .blk g12 [.int .i64 1, .int .i64 5, .int .i64 2, .int .i64 3] 34 :: .blk g11 [.int .i64 1, .int .i64 2, .int .i64 3] 3 :: .blk g10 [.int .i64 1, .int .i64 2, .int .i64 2, .int .i64 1] 37 :: Own 3 1 A8 0 c9 (ints []) :: .blk g7 [.int .i64 1, .int .i64 1] 37 :: Own 3 1 A5 0 c6 (ints []) :: .blk g4 [.int .i64 1, .int .i64 2, .int .i64 2, .int .i64 3] 37 :: Own 3 1 A2 3 c3 (ints [1, 2, 3]) :: .blk g1 [.int .i64 1, .int .i64 2, .int .i64 2, .int .i64 3, .int .i64 3, .int .i64 1, .int .i64 4, .int .i64 1] 37 :: L) w := s
  refine st_call ha (by kernel_rfl) (by kernel_rfl) (victimIs_any W hW _ w (some ⟨g10, 0, none⟩) 2 2 [(1, 2), (2, 1)] (Knows.blk (j := 3) (cs := egs [(1, 2), (2, 1)]) rfl rfl) rfl (by omega) (some ⟨g13, 0, none⟩) 1 1 [(1, 5)] (Knows.blk (j := 0) (cs := egs [(1, 5)]) rfl rfl) rfl (by omega) (by decide) 2 2 true V3 (by decide) rfl s) ?_
  rintro _ w ⟨rfl, s⟩
  replace s : St W (.blk g13 [.int .i64 1, .int .i64 5] 34 :: .blk g12 [.int .i64 1, .int .i64 5, .int .i64 2, .int .i64 3] 34 :: .blk g11 [.int .i64 1, .int .i64 2, .int .i64 3] 3 :: .blk g10 [.int .i64 1, .int .i64 2, .int .i64 2, .int .i64 1] 37 :: Own 3 1 A8 0 c9 (ints []) :: .blk g7 [.int .i64 1, .int .i64 1] 37 :: Own 3 1 A5 0 c6 (ints []) :: .blk g4 [.int .i64 1, .int .i64 2, .int .i64 2, .int .i64 3] 37 :: Own 3 1 A2 3 c3 (ints [1, 2, 3]) :: .blk g1 [.int .i64 1, .int .i64 2, .int .i64 2, .int .i64 3, .int .i64 3, .int .i64 1, .int .i64 4, .int .i64 1] 37 :: L) w := s
  refine ⟨_, rfl, ?_⟩; clear ha; intro a ha
  refine st_val (.bool true) ha (by kernel_rfl) (by kernel_rfl) ?_
  clear ha; intro a ha
  refine st_val (.bool true) ha (by kernel_rfl) (by kernel_rfl) ?_
  clear ha; intro a ha
  refine st_call ha (by kernel_rfl) (by kernel_rfl) (victimIs_any W hW _ w none 0 0 [] (Knows.reads_none _ _) rfl (by omega) none 0 0 [] (Knows.reads_none _ _) rfl (by omega) (by decide) 0 0 false V4 (by decide) rfl s) ?_
  rintro _ w ⟨rfl, s⟩
  replace s : St W (.blk g13 [.int .i64 1, .int .i64 5] 34 :: .blk g12 [.int .i64 1, .int .i64 5, .int .i64 2, .int .i64 3] 34 :: .blk g11 [.int .i64 1, .int .i64 2, .int .i64 3] 3 :: .blk g10 [.int .i64 1, .int .i64 2, .int .i64 2, .int .i64 1] 37 :: Own 3 1 A8 0 c9 (ints []) :: .blk g7 [.int .i64 1, .int .i64 1] 37 :: Own 3 1 A5 0 c6 (ints []) :: .blk g4 [.int .i64 1, .int .i64 2, .int .i64 2, .int .i64 3] 37 :: Own 3 1 A2 3 c3 (ints [1, 2, 3]) :: .blk g1 [.int .i64 1, .int .i64 2, .int .i64 2, .int .i64 3, .int .i64 3, .int .i64 1, .int .i64 4, .int .i64 1] 37 :: L) w := s
  refine ⟨_, rfl, ?_⟩; clear ha; intro a ha
  refine st_val (.bool true) ha (by kernel_rfl) (by kernel_rfl) ?_
  clear ha; intro a ha
  refine st_val (.bool true) ha (by kernel_rfl) (by kernel_rfl) ?_
  clear ha; intro a ha
  refine wpList_nil ?_
  refine then_normal ?_
  refine wp_ret ?_
  refine ret_with (v := .bool true) ha (results_1 rfl ha (res_tmp (by kernel_rfl) (by kernel_rfl))) ?_
  replace s := s.tail.tail.tail.tail.tail.tail.tail.tail.tail.tail
  replace s : St W (L) w := s
  exact ⟨rfl, s⟩

end Go.Proofs.Ytjdkpebnaohonaa.B
