import Derived.Test.YtjdkpebnaohonaaB6
namespace Go.Proofs.Ytjdkpebnaohonaa.B
open Go.RowKit Go.Maps Go.Proofs.Ytjdkpebnaohonaa.Sep Go.Proofs.Ytjdkpebnaohonaa.P
set_option linter.unusedVariables false
set_option linter.unusedSimpArgs false
/-- Nine by nine truths, as cells. -/
def bm (f : Nat → Nat → Bool) : List Value := (List.range 81).map fun q => .bool (f (q / 9) (q % 9))
theorem bm_len (f : Nat → Nat → Bool) : (bm f).length = 81 := by simp [bm]
theorem bm_at {f : Nat → Nat → Bool} {m j : Nat} (hm : m < 9) (hj : j < 9) : (bm f)[0 + m * 9 + j * 1]? = some (.bool (f m j)) := by
  have h1 : 0 + m * 9 + j * 1 < 81 := by omega
  simp only [bm, List.getElem?_map, List.getElem?_range h1, Option.map_some]
  rw [show (0 + m * 9 + j * 1) / 9 = m by omega, show (0 + m * 9 + j * 1) % 9 = j by omega]
def upd (f : Nat → Nat → Bool) (m j : Nat) : Nat → Nat → Bool := fun a b => if a = m ∧ b = j then true else f a b
theorem bm_put {f : Nat → Nat → Bool} {m j : Nat} (hm : m < 9) (hj : j < 9) : putAt (bm f) (0 + m * 9 + j * 1) [.bool true] = bm (upd f m j) := by
  apply List.ext_getElem?
  intro i
  simp only [putAt, List.getElem?_set, bm_len]
  by_cases hi : i < 81
  · simp only [bm, List.getElem?_map, List.getElem?_range hi, Option.map_some, upd]
    by_cases h : 0 + m * 9 + j * 1 = i
    · subst h
      rw [if_pos rfl, if_pos (by simp; omega), if_pos (by omega)]
    · rw [if_neg h, if_neg (by omega)]
  · have h1 : (bm f)[i]? = none := List.getElem?_eq_none (by rw [bm_len]; omega)
    have h2 : (bm (upd f m j))[i]? = none := List.getElem?_eq_none (by rw [bm_len]; omega)
    rw [if_neg (by omega), h1, h2]
theorem bm_over (f g : Nat → Nat → Bool) : putAt (bm f) 0 (bm g) = bm g := by
  rw [putAt_eq _ _ _ (by rw [bm_len, bm_len]; omega), bm_len]
  simp [List.drop_of_length_le, bm_len]
theorem bm_all (f : Nat → Nat → Bool) : (bm f).extract 0 (0 + 81) = bm f := by
  rw [List.extract_eq_take_drop, List.drop_zero, List.take_of_length_le (by rw [bm_len]; omega)]
theorem bm_one (f : Nat → Nat → Bool) : ∀ v ∈ bm f, v.oneCell' = true := by
  intro v hv
  obtain ⟨q, _, rfl⟩ := List.mem_map.1 hv
  rfl
theorem zero41 (w : World) : (zeroValue 41).run Try.prog w = .ok (.agg (bm (fun _ _ => false)).toArray) w := by kernel_rfl
/-- Ways of a length. -/
inductive WN (E : List Arc) : Nat → Int → Int → Prop
  | one {a b : Int} : (a, b) ∈ E → WN E 1 a b
  | snoc {k : Nat} {a b c : Int} : WN E k a b → (b, c) ∈ E → WN E (k + 1) a c
theorem WN.way {E : List Arc} {k : Nat} {a b : Int} (h : WN E k a b) : P.Way E a b := by
  induction h with
  | one e => exact .one e
  | snoc _ e ih => exact ih.snoc e
theorem WN.of_way {E : List Arc} {a b : Int} (h : P.Way E a b) : ∃ k, WN E k a b := by
  have key : ∀ {b c : Int}, P.Way E b c → ∀ {k : Nat} {a : Int}, WN E k a b → ∃ k, WN E k a c := by
    intro b c h
    induction h with
    | one e => exact fun w => ⟨_, w.snoc e⟩
    | step e _ ih => exact fun w => ih (w.snoc e)
  cases h with
  | one e => exact ⟨1, .one e⟩
  | step e h => exact key h (.one e)
def Upto (E : List Arc) (a : Int) (n : Nat) (j : Int) : Prop := ∃ k, 1 ≤ k ∧ k ≤ n ∧ WN E k a j
theorem WN.pos {E : List Arc} {k : Nat} {a b : Int} (h : WN E k a b) : 1 ≤ k := by cases h <;> omega
theorem Upto.step {E : List Arc} {a : Int} {n : Nat} {b c : Int} (h : Upto E a n b) (e : (b, c) ∈ E) : Upto E a (n + 1) c := by
  obtain ⟨k, h1, h2, h3⟩ := h
  exact ⟨k + 1, by omega, by omega, h3.snoc e⟩
def Still (E : List Arc) (a : Int) (n : Nat) : Prop := ∀ j, Upto E a (n + 1) j → Upto E a n j
theorem Still.next {E : List Arc} {a : Int} {n : Nat} (hn : 1 ≤ n) (h : Still E a n) : Still E a (n + 1) := by
  rintro j ⟨k, h1, h2, h3⟩
  cases h3 with
  | one e => exact ⟨1, by omega, by omega, .one e⟩
  | snoc w e =>
    rename_i k b
    exact (h b ⟨k, w.pos, by omega, w⟩).step e
theorem Still.all {E : List Arc} {a : Int} {n : Nat} (hn : 1 ≤ n) (h : Still E a n) {k : Nat} {j : Int} (w : WN E k a j) : Upto E a n j := by
  induction w with
  | one e => exact ⟨1, by omega, hn, .one e⟩
  | snoc _ e ih => exact h _ ((ih h).step e)
section
open Classical
noncomputable def reach (E : List Arc) (a : Int) (n : Nat) : List Int := [1, 2, 3, 4, 5, 6, 7, 8].filter fun j => decide (Upto E a n j)
theorem reach_or {E : List Arc} (hs : ∀ x ∈ E, 1 ≤ x.1 ∧ x.1 ≤ 8 ∧ 1 ≤ x.2 ∧ x.2 ≤ 8) (a : Int) : ∀ n, 1 ≤ n → n ≤ (reach E a n).length + 1 ∨ Still E a n := by
  intro n hn
  induction n with
  | zero => omega
  | succ n ih =>
    by_cases h0 : n = 0
    · subst h0; left; omega
    · rcases ih (by omega) with h | h
      · by_cases hst : Still E a n
        · exact .inr (hst.next (by omega))
        · left
          have : ∃ j, Upto E a (n + 1) j ∧ ¬ Upto E a n j := by
            by_cases hc : ∃ j, Upto E a (n + 1) j ∧ ¬ Upto E a n j
            · exact hc
            · exact absurd (fun j hj => Classical.byContradiction fun hn => hc ⟨j, hj, hn⟩) hst
          obtain ⟨j, h1, h2⟩ := this
          have hjb : 1 ≤ j ∧ j ≤ 8 := by obtain ⟨k, _, _, w⟩ := h1; exact way_small hs w.way
          have hm : j ∈ ([1, 2, 3, 4, 5, 6, 7, 8] : List Int) := by simp; omega
          have hnd : ([1, 2, 3, 4, 5, 6, 7, 8] : List Int).Nodup := by decide
          have := nodup_len (l := j :: reach E a n) (m := reach E a (n + 1)) (List.nodup_cons.2 ⟨fun hc => h2 (of_decide_eq_true (List.mem_filter.1 hc).2), hnd.filter _⟩) (by
            intro x hx
            rcases List.mem_cons.1 hx with rfl | hx
            · exact List.mem_filter.2 ⟨hm, decide_eq_true h1⟩
            · obtain ⟨q1, q2⟩ := List.mem_filter.1 hx
              obtain ⟨k, r1, r2, r3⟩ := of_decide_eq_true q2
              exact List.mem_filter.2 ⟨q1, decide_eq_true ⟨k, r1, by omega, r3⟩⟩)
          simp at this
          omega
      · exact .inr (h.next (by omega))
/-- Of eight ids, nine edges tell all ways. -/
theorem way_nine {E : List Arc} (hs : ∀ x ∈ E, 1 ≤ x.1 ∧ x.1 ≤ 8 ∧ 1 ≤ x.2 ∧ x.2 ≤ 8) {a b : Int} (w : P.Way E a b) : Upto E a 9 b := by
  have hlen : (reach E a 9).length ≤ 8 := List.length_filter_le _ _
  obtain ⟨k, hk⟩ := WN.of_way w
  rcases reach_or hs a 9 (by omega) with h | h
  · -- all are reached
    have hall : ∀ j ∈ ([1, 2, 3, 4, 5, 6, 7, 8] : List Int), Upto E a 9 j := by
      have : (reach E a 9).length = ([1, 2, 3, 4, 5, 6, 7, 8] : List Int).length := by simp at hlen ⊢; omega
      intro j hj
      exact of_decide_eq_true (List.length_filter_eq_length_iff.1 this j hj)
    have := way_small hs w
    exact hall b (by simp; omega)
  · exact h.all (by omega) hk
end
/-- What is known of ways of at most r + 1 edges. -/
structure Far (E : List Arc) (r : Nat) (f : Nat → Nat → Bool) : Prop where
  sound : ∀ m j : Nat, m < 9 → j < 9 → f m j = true → P.Way E m j
  full : ∀ (k m j : Nat), m < 9 → j < 9 → k ≤ r + 1 → WN E k m j → f m j = true
structure Near (E : List Arc) (f : Nat → Nat → Bool) : Prop where
  is : ∀ m j : Nat, m < 9 → j < 9 → (f m j = true ↔ ((m : Int), (j : Int)) ∈ E)
theorem Near.start (f : Nat → Nat → Bool) (h : ∀ m j, f m j = false) : Near [] f := ⟨fun m j _ _ => by simp [h]⟩
theorem Near.step {E : List Arc} {i : Nat} {v : Arc} {f : Nat → Nat → Bool} (h : Near (E.take i) f) (hv : E[i]? = some v) (hb : 1 ≤ v.1 ∧ v.1 ≤ 8 ∧ 1 ≤ v.2 ∧ v.2 ≤ 8) : Near (E.take (i + 1)) (upd f v.1.toNat v.2.toNat) := by
  obtain ⟨hk, rfl⟩ := List.getElem?_eq_some_iff.1 hv
  refine ⟨fun m j hm hj => ?_⟩
  rw [List.take_succ_eq_append_getElem hk, List.mem_append, ← h.is m j hm hj, upd]
  by_cases hc : m = E[i].1.toNat ∧ j = E[i].2.toNat
  · rw [if_pos hc]
    simp only [true_iff]
    right
    have : E[i] = ((m : Int), (j : Int)) := Prod.ext (by simp only; omega) (by simp only; omega)
    simp [this]
  · rw [if_neg hc]
    refine ⟨.inl, fun h => h.resolve_right fun he => hc ?_⟩
    have : ((m : Int), (j : Int)) = E[i] := by simpa using he
    have h1 := congrArg Prod.fst this
    have h2 := congrArg Prod.snd this
    simp only at h1 h2
    omega
theorem Near.far {E : List Arc} {f : Nat → Nat → Bool} (h : Near E f) : Far E 0 f := by
  refine ⟨fun m j hm hj e => .one ((h.is m j hm hj).1 e), fun k m j hm hj hk w => ?_⟩
  have := w.pos
  obtain rfl : k = 1 := by omega
  cases w with
  | one e => exact (h.is m j hm hj).2 e
  | snoc w e => have := w.pos; omega
/-- The next ones, while they are made: a, b, c are what comes. -/
structure Nx (E : List Arc) (f g h : Nat → Nat → Bool) (a b c : Nat) : Prop where
  sound : ∀ m j : Nat, m < 9 → j < 9 → h m j = true → P.Way E m j
  keeps : ∀ m j : Nat, f m j = true → h m j = true
  done_ : ∀ x y z : Nat, 1 ≤ x → x ≤ 8 → 1 ≤ y → y ≤ 8 → 1 ≤ z → z ≤ 8 → (x < a ∨ (x = a ∧ (y < b ∨ (y = b ∧ z < c)))) → f x y = true → g y z = true → h x z = true
theorem Nx.start {E : List Arc} {r : Nat} {f : Nat → Nat → Bool} (hf : Far E r f) (g : Nat → Nat → Bool) : Nx E f g f 1 1 1 := ⟨hf.sound, fun _ _ h => h, fun x y z _ _ _ _ _ _ h => by omega⟩
theorem Nx.no {E : List Arc} {f g h : Nat → Nat → Bool} {a b c : Nat} (n : Nx E f g h a b c) (hc : ¬ (f a b = true ∧ g b c = true)) : Nx E f g h a b (c + 1) := by
  refine ⟨n.sound, n.keeps, fun x y z h1 h2 h3 h4 h5 h6 h7 h8 h9 => ?_⟩
  by_cases he : x = a ∧ y = b ∧ z = c
  · obtain ⟨rfl, rfl, rfl⟩ := he
    exact absurd ⟨h8, h9⟩ hc
  · exact n.done_ x y z h1 h2 h3 h4 h5 h6 (by omega) h8 h9
theorem Nx.yes {E : List Arc} {r : Nat} {f g h : Nat → Nat → Bool} {a b c : Nat} (n : Nx E f g h a b c) (hf : Far E r f) (hg : Near E g) (ha : a < 9) (hb : b < 9) (hcc : c < 9) (h1 : f a b = true) (h2 : g b c = true) : Nx E f g (upd h a c) a b (c + 1) := by
  refine ⟨fun m j hm hj hh => ?_, fun m j hh => ?_, fun x y z q1 q2 q3 q4 q5 q6 q7 q8 q9 => ?_⟩
  · unfold upd at hh
    by_cases hc : m = a ∧ j = c
    · obtain ⟨rfl, rfl⟩ := hc
      exact (hf.sound m b ha hb h1).snoc ((hg.is b j hb hcc).1 h2)
    · rw [if_neg hc] at hh; exact n.sound m j hm hj hh
  · unfold upd; split
    · rfl
    · exact n.keeps m j hh
  · unfold upd
    by_cases hc : x = a ∧ z = c
    · rw [if_pos hc]
    · rw [if_neg hc]
      exact n.done_ x y z q1 q2 q3 q4 q5 q6 (by omega) q8 q9
theorem Nx.cdone {E : List Arc} {f g h : Nat → Nat → Bool} {a b : Nat} (n : Nx E f g h a b 9) : Nx E f g h a (b + 1) 1 := ⟨n.sound, n.keeps, fun x y z h1 h2 h3 h4 h5 h6 h7 => n.done_ x y z h1 h2 h3 h4 h5 h6 (by omega)⟩
theorem Nx.bdone {E : List Arc} {f g h : Nat → Nat → Bool} {a : Nat} (n : Nx E f g h a 9 1) : Nx E f g h (a + 1) 1 1 := ⟨n.sound, n.keeps, fun x y z h1 h2 h3 h4 h5 h6 h7 => n.done_ x y z h1 h2 h3 h4 h5 h6 (by omega)⟩
theorem Nx.adone {E : List Arc} {r : Nat} {f g h : Nat → Nat → Bool} (n : Nx E f g h 9 1 1) (hs : ∀ x ∈ E, 1 ≤ x.1 ∧ x.1 ≤ 8 ∧ 1 ≤ x.2 ∧ x.2 ≤ 8) (hf : Far E r f) (hg : Near E g) : Far E (r + 1) h := by
  refine ⟨n.sound, fun k m j hm hj hk w => ?_⟩
  by_cases hk2 : k ≤ r + 1
  · exact n.keeps m j (hf.full k m j hm hj hk2 w)
  · obtain rfl : k = r + 2 := by omega
    cases w with
    | snoc w e =>
      rename_i b
      have hb := way_small hs w.way
      have hjb := (hs _ e)
      obtain ⟨c, hc⟩ := w.way.first
      have hm2 := hs _ hc
      simp only at hjb hm2
      have eb : b = ((b.toNat : Nat) : Int) := by omega
      rw [eb] at w e
      exact n.done_ m b.toNat j (by omega) (by omega) (by omega) (by omega) (by omega) (by omega) (by omega) (hf.full (r + 1) m b.toNat hm (by omega) (by omega) w) ((hg.is b.toNat j (by omega) hj).2 e)
theorem Far.diag {E : List Arc} {R : List Int} {f : Nat → Nat → Bool} (hf : Far E 8 f) (hs : ∀ x ∈ E, 1 ≤ x.1 ∧ x.1 ≤ 8 ∧ 1 ≤ x.2 ∧ x.2 ≤ 8) (hR : RingsOf E R) {a : Nat} (ha : a < 9) : decide ((a : Int) ∈ R) = f a a := by
  rw [Bool.eq_iff_iff, decide_eq_true_eq, hR.mem]
  constructor
  · intro w
    obtain ⟨k, _, h2, h3⟩ := way_nine hs w
    exact hf.full k a a ha ha (by omega) h3
  · exact hf.sound a a ha ha

set_option maxRecDepth 100000 in
set_option maxHeartbeats 4000000 in
theorem ways_any (W : World) (hW : W.drawn = 0) (L : List Chunk) (w : World) (A : Option Addr) (n ca : Nat) (l : List Int) (hra : Knows L fun w => Reads w 1 A n (ints l)) (hl : l.length = n) (hn : n ≤ 140737488351232) (s : St W L w) :
    Calls Try.prog 4 #[.slice A n ca] w fun e w' => e = .returned (.bool true) ∧ St W L w' := by
  have hE60 : (arcs l).length ≤ 60 := by rw [arcs_len]; omega
  refine enter_args (l := [.slice A n ca]) Try.func4 rfl rfl (Nat.le_of_ble_eq_true rfl) ?_
  intro a ha; replace ha : Has a 127 [(0, .slice A n ca)] := ha
  refine wp_seq ?_
  refine wp_region_lit ?_
  refine st_val (.bool false) ha (by kernel_rfl) (by kernel_rfl) ?_
  clear ha; intro a ha
  refine wpList_nil ?_
  refine then_normal ?_
  refine wp_seq ?_
  refine wp_seq ?_
  refine wp_region_lit ?_
  refine st_call ha (by kernel_rfl) (by kernel_rfl) (works_true W hW _ w s) ?_
  rintro _ w ⟨rfl, s⟩
  replace s : St W (L) w := s
  refine ⟨_, rfl, ?_⟩; clear ha; intro a ha
  refine st_val (.bool false) ha (by kernel_rfl) (by kernel_rfl) ?_
  clear ha; intro a ha
  refine wpList_nil ?_
  refine then_normal ?_
  refine wp_false ha rfl (by kernel_rfl) ?_
  refine wp_skip ?_
  refine then_normal ?_
  refine wp_seq ?_
  refine wp_region_lit ?_
  refine st_val (.slice A n ca) ha (by kernel_rfl) (by kernel_rfl) ?_
  clear ha; intro a ha
  refine st_call ha (by kernel_rfl) (by kernel_rfl) (edges_any W _ w A n ca l (fun w s => hra w (Sat.drops (A := []) s)) hl hn s) ?_
  rintro _ w ⟨A1, c2, rfl, s⟩
  replace s : St W (Own 37 2 A1 ((arcs l).length) c2 (egs (arcs l)) :: L) w := s
  refine ⟨_, rfl, ?_⟩; clear ha; intro a ha
  refine st_val (.slice A1 ((arcs l).length) c2) ha (by kernel_rfl) (by kernel_rfl) ?_
  clear ha; intro a ha
  refine wpList_nil ?_
  refine then_normal ?_
  refine wp_seq ?_
  refine wp_region_lit ?_
  refine st_val (.slice A1 ((arcs l).length) c2) ha (by kernel_rfl) (by kernel_rfl) ?_
  clear ha; intro a ha
  refine st_call ha (by kernel_rfl) (by kernel_rfl) (rings_good W hW _ w A1 (arcs l).length c2 (arcs l) (by rw [arcs_len]; omega) arcs_ok (Knows.own (j := 0) rfl) rfl s) ?_
  rintro _ w ⟨A3, c4, R, rfl, hR, hRl, s⟩
  replace s : St W (Own 3 1 A3 R.length c4 (ints R) :: Own 37 2 A1 ((arcs l).length) c2 (egs (arcs l)) :: L) w := s
  refine ⟨_, rfl, ?_⟩; clear ha; intro a ha
  refine st_val (.tuple #[.slice A3 R.length c4, .int .i64 0]) ha (by kernel_rfl) (by kernel_rfl) ?_
  clear ha; intro a ha
  refine st_val (.slice A3 R.length c4) ha (by kernel_rfl) (by kernel_rfl) ?_
  clear ha; intro a ha
  refine st_val (.int .i64 0) ha (by kernel_rfl) (by kernel_rfl) ?_
  clear ha; intro a ha
  refine st_val (.slice A3 R.length c4) ha (by kernel_rfl) (by kernel_rfl) ?_
  clear ha; intro a ha
  refine st_val (.int .i64 0) ha (by kernel_rfl) (by kernel_rfl) ?_
  clear ha; intro a ha
  refine wpList_nil ?_
  refine then_normal ?_
  refine wp_seq ?_
  refine wp_region_lit ?_
  refine st_ex ha (by kernel_rfl) (ex_alloc (bm (fun _ _ => false)) s rfl (zero41 _) rfl) ?_
  clear ha; rintro _ w a ⟨g5, rfl, s⟩ ha
  replace s : St W (.blk g5 (bm (fun _ _ => false)) 41 :: Own 3 1 A3 R.length c4 (ints R) :: Own 37 2 A1 ((arcs l).length) c2 (egs (arcs l)) :: L) w := s
  refine st_ex ha (by kernel_rfl) (ex_alloc (bm (fun _ _ => false)) s rfl (zero41 _) rfl) ?_
  clear ha; rintro _ w a ⟨g6, rfl, s⟩ ha
  replace s : St W (.blk g6 (bm (fun _ _ => false)) 41 :: .blk g5 (bm (fun _ _ => false)) 41 :: Own 3 1 A3 R.length c4 (ints R) :: Own 37 2 A1 ((arcs l).length) c2 (egs (arcs l)) :: L) w := s
  refine wpList_nil ?_
  refine then_normal ?_
  refine wp_seq ?_
  refine wp_seq ?_
  refine wp_region_lit ?_
  refine st_val (.int .i64 0) ha (by kernel_rfl) (by kernel_rfl) ?_
  clear ha; intro a ha
  refine wpList_nil ?_
  refine then_normal ?_
  refine wp_block ?_
  replace s := s.at_ (j := 2) rfl
  replace s : St W (Own 3 1 A3 R.length c4 (ints R) :: .blk g6 (bm (fun _ _ => false)) 41 :: .blk g5 (bm (fun _ _ => false)) 41 :: Own 37 2 A1 ((arcs l).length) c2 (egs (arcs l)) :: L) w := s
  replace s := s.at_ (j := 3) rfl
  replace s : St W (Own 37 2 A1 ((arcs l).length) c2 (egs (arcs l)) :: Own 3 1 A3 R.length c4 (ints R) :: .blk g6 (bm (fun _ _ => false)) 41 :: .blk g5 (bm (fun _ _ => false)) 41 :: L) w := s
  replace s := s.at_ (j := 2) rfl
  replace s : St W (.blk g6 (bm (fun _ _ => false)) 41 :: Own 37 2 A1 ((arcs l).length) c2 (egs (arcs l)) :: Own 3 1 A3 R.length c4 (ints R) :: .blk g5 (bm (fun _ _ => false)) 41 :: L) w := s
  replace s := s.at_ (j := 3) rfl
  replace s : St W (.blk g5 (bm (fun _ _ => false)) 41 :: .blk g6 (bm (fun _ _ => false)) 41 :: Own 37 2 A1 ((arcs l).length) c2 (egs (arcs l)) :: Own 3 1 A3 R.length c4 (ints R) :: L) w := s
  refine wp_loopG (G := (Nat × (Nat → Nat → Bool) × Option Addr)) (fun ⟨i, f, Ae⟩ a w => Has a 127 [(4, .slice A3 R.length c4), (5, .int .i64 0), (6, .pointer (some ⟨g5, 0, none⟩)), (7, .pointer (some ⟨g6, 0, none⟩)), (3, .slice Ae ((arcs l).length) c2), (8, .int .i64 ((i : Nat) : Int))] ∧ St W (.blk g5 (bm f) 41 :: .blk g6 (bm (fun _ _ => false)) 41 :: Own 37 2 Ae ((arcs l).length) c2 (egs (arcs l)) :: Own 3 1 A3 R.length c4 (ints R) :: L) w ∧ (i ≤ (arcs l).length ∧ Near ((arcs l).take i) f)) (fun ⟨i, f, Ae⟩ => (arcs l).length - i) (0, (fun _ _ => false), A1) ?_ ?_
  · exact ⟨(Has.cons ha (by kernel_rfl) (by kernel_rfl) (Has.cons ha (by kernel_rfl) (by kernel_rfl) (Has.cons ha (by kernel_rfl) (by kernel_rfl) (Has.cons ha (by kernel_rfl) (by kernel_rfl) (Has.cons ha (by kernel_rfl) (by kernel_rfl) (Has.cons ha (by kernel_rfl) (by kernel_rfl) (Has.nil ha))))))), s, ⟨Nat.zero_le _, Near.start _ fun _ _ => rfl⟩⟩
  · clear ha s; rintro ⟨i, f, Ae⟩ a w ⟨ha, s, hp⟩
    refine wp_seq ?_
    refine wp_seq ?_
    refine wp_region_lit ?_
    refine st_val (.int .i64 ((i : Nat) : Int)) ha (by kernel_rfl) (by kernel_rfl) ?_
    clear ha; intro a ha
    refine st_val (.slice Ae ((arcs l).length) c2) ha (by kernel_rfl) (by kernel_rfl) ?_
    clear ha; intro a ha
    refine st_val (.int .i64 (((arcs l).length : Nat) : Int)) ha (by kernel_rfl) (by kernel_rfl) ?_
    clear ha; intro a ha
    refine st_val (.bool (decide (((i : Nat) : Int) < (((arcs l).length : Nat) : Int)))) ha (by kernel_rfl) (by kernel_rfl) ?_
    clear ha; intro a ha
    refine wpList_nil ?_
    refine then_normal ?_
    refine wp_part (decide (((i : Nat) : Int) < (((arcs l).length : Nat) : Int))) ha rfl (by kernel_rfl) (fun hb => ?_) (fun hb => ?_)
    · rw [hb] at ha; replace hb : (((i : Nat) : Int) < (((arcs l).length : Nat) : Int)) := of_decide_eq_true hb
      obtain ⟨v, hv⟩ : ∃ v, (arcs l)[i]? = some v := ⟨_, List.getElem?_eq_getElem (by omega)⟩
      have hvb := arcs_small v (List.mem_of_getElem? hv)
      obtain ⟨ade, hA_ade⟩ := Own.addr (s.at_ (j := 2) rfl) (by omega)
      subst hA_ade
      refine wp_skip ?_
      refine then_normal ?_
      refine wp_seq ?_
      refine wp_block ?_
      refine wp_region_head 11 (fun w => Reads w 2 (some ade) ((arcs l).length) (egs (arcs l)) ∧ True) (by kernel_rfl) (by decide) ?_
      replace s := s.drew; generalize _root_.Go.World.drew _ = w at s ⊢
      have hS : (fun w => Reads w 2 (some ade) ((arcs l).length) (egs (arcs l)) ∧ True) w := ⟨(Knows.own (j := 2) rfl) _ s.sat, trivial⟩
      refine hd_val (i := 0) (.slice (some ade) ((arcs l).length) c2) ha rfl (by kernel_rfl) (fun _ _ _ h => h) (by kernel_rfl) (fun w hS => (by kernel_rfl)) hS ?_
      clear ha; intro a ha
      refine hd_val (i := 1) (.int .i64 ((i : Nat) : Int)) ha rfl (by kernel_rfl) (fun _ _ _ h => h) (by kernel_rfl) (fun w hS => (by kernel_rfl)) hS ?_
      clear ha; intro a ha
      refine hd_val (i := 2) (.pointer (some (ade.add (i * 2)))) ha rfl (by kernel_rfl) (fun _ _ _ h => h) (by kernel_rfl) (fun w hS => (run_indexAddr' (kd := .i64) (i := ((i : Nat) : Int)) (n := ((arcs l).length)) (c := c2) i rfl Try.underlying22 Try.sizeOf37 (by kernel_rfl) (by kernel_rfl) rfl (by first | assumption | omega) _)) hS ?_
      clear ha; intro a ha
      refine hd_val (i := 3) (.pointer (some (ade.add (i * 2 + 0 * 1)))) ha rfl (by kernel_rfl) (fun _ _ _ h => h) (by kernel_rfl) (fun w hS => (run_indexArr_at (kd := .i64) (i := i * 2) (z := 0) 0 rfl Try.underlying37 Try.sizeOf3 (by kernel_rfl) (by kernel_rfl) rfl (by first | assumption | omega) _)) hS ?_
      clear ha; intro a ha
      refine hd_val (i := 4) (.int .i64 v.1) ha rfl (by kernel_rfl) (fun _ _ _ h => h) (by kernel_rfl) (fun w hS => run_loadAt1 (i := i * 2 + 0 * 1) hS.1 rfl (by kernel_rfl) Try.isAgg3 (by rw [Nat.mul_one]; rw [egs_at hv (by omega)]; rfl)) hS ?_
      clear ha; intro a ha
      refine hd_val (i := 5) (.slice (some ade) ((arcs l).length) c2) ha rfl (by kernel_rfl) (fun _ _ _ h => h) (by kernel_rfl) (fun w hS => (by kernel_rfl)) hS ?_
      clear ha; intro a ha
      refine hd_val (i := 6) (.int .i64 ((i : Nat) : Int)) ha rfl (by kernel_rfl) (fun _ _ _ h => h) (by kernel_rfl) (fun w hS => (by kernel_rfl)) hS ?_
      clear ha; intro a ha
      refine hd_val (i := 7) (.pointer (some (ade.add (i * 2)))) ha rfl (by kernel_rfl) (fun _ _ _ h => h) (by kernel_rfl) (fun w hS => (run_indexAddr' (kd := .i64) (i := ((i : Nat) : Int)) (n := ((arcs l).length)) (c := c2) i rfl Try.underlying22 Try.sizeOf37 (by kernel_rfl) (by kernel_rfl) rfl (by first | assumption | omega) _)) hS ?_
      clear ha; intro a ha
      refine hd_val (i := 8) (.pointer (some (ade.add (i * 2 + 1 * 1)))) ha rfl (by kernel_rfl) (fun _ _ _ h => h) (by kernel_rfl) (fun w hS => (run_indexArr_at (kd := .i64) (i := i * 2) (z := 1) 1 rfl Try.underlying37 Try.sizeOf3 (by kernel_rfl) (by kernel_rfl) rfl (by first | assumption | omega) _)) hS ?_
      clear ha; intro a ha
      refine hd_val (i := 9) (.int .i64 v.2) ha rfl (by kernel_rfl) (fun _ _ _ h => h) (by kernel_rfl) (fun w hS => run_loadAt1 (i := i * 2 + 1 * 1) hS.1 rfl (by kernel_rfl) Try.isAgg3 (by rw [Nat.mul_one]; rw [egs_at hv (by omega)]; rfl)) hS ?_
      clear ha; intro a ha
      refine hd_val (i := 10) (.pointer (some ⟨g5, 0 + v.1.toNat * 9, none⟩)) ha rfl (by kernel_rfl) (fun _ _ _ h => h) (by kernel_rfl) (fun w hS => (run_indexArrO (kd := .i64) (of_ := 0) (z := v.1) v.1.toNat rfl Try.underlying41 Try.sizeOf40 (by kernel_rfl) (by kernel_rfl) (by omega) (by first | assumption | omega) _)) hS ?_
      clear ha; intro a ha
      refine Head.done (by kernel_rfl) ?_
      clear hS; simp only [List.drop_succ_cons, List.drop_zero]
      refine st_val (.pointer (some ⟨g5, 0 + v.1.toNat * 9 + v.2.toNat * 1, none⟩)) ha (by kernel_rfl) (run_indexArrO (kd := .i64) (of_ := 0 + v.1.toNat * 9) (z := v.2) v.2.toNat rfl Try.underlying40 Try.sizeOf4 (by kernel_rfl) (by kernel_rfl) (by omega) (by first | assumption | omega) _) ?_
      clear ha; intro a ha
      refine st_exd ha (by kernel_rfl) (ex_store_to (of_ := 0 + v.1.toNat * 9 + v.2.toNat * 1) 0 [.bool true] s (bm_put (by omega) (by omega)) rfl rfl (by kernel_rfl) (by kernel_rfl) (Try.sizeOf4 _) rfl (by simp [Value.oneCell']) (by rw [bm_len]; simp only [List.length_cons, List.length_nil]; omega)) ?_
      clear ha; rintro w a s ha
      replace s : St W (.blk g5 (bm (upd f v.1.toNat v.2.toNat)) 41 :: .blk g6 (bm (fun _ _ => false)) 41 :: Own 37 2 (some ade) ((arcs l).length) c2 (egs (arcs l)) :: Own 3 1 A3 R.length c4 (ints R) :: L) w := s
      refine wpList_nil ?_
      refine block_normal ?_
      refine then_normal ?_
      refine wp_region_lit ?_
      refine st_val (.int .i64 ((i : Nat) : Int)) ha (by kernel_rfl) (by kernel_rfl) ?_
      clear ha; intro a ha
      refine st_val (.int .i64 ((i + 1 : Nat) : Int)) ha (by kernel_rfl) (run_arith (((i : Nat) : Int) + (1 : Int)) ((i + 1 : Nat) : Int) rfl (by kernel_rfl) (by kernel_rfl) (.inl ⟨rfl, rfl⟩) (by rw [wrap64_in (by omega)]; try omega) _) ?_
      clear ha; intro a ha
      refine st_val (.int .i64 ((i + 1 : Nat) : Int)) ha (by kernel_rfl) (by kernel_rfl) ?_
      clear ha; intro a ha
      refine wpList_nil ?_
      refine then_normal ?_
      exact ⟨(i + 1, upd f v.1.toNat v.2.toNat, (some ade)), (show (arcs l).length - (i + 1) < (arcs l).length - i by omega), (Has.cons ha (by kernel_rfl) (by kernel_rfl) (Has.cons ha (by kernel_rfl) (by kernel_rfl) (Has.cons ha (by kernel_rfl) (by kernel_rfl) (Has.cons ha (by kernel_rfl) (by kernel_rfl) (Has.cons ha (by kernel_rfl) (by kernel_rfl) (Has.cons ha (by kernel_rfl) (by kernel_rfl) (Has.nil ha))))))), s, by omega, hp.2.step hv hvb⟩
    · rw [hb] at ha; replace hb : ¬ (((i : Nat) : Int) < (((arcs l).length : Nat) : Int)) := of_decide_eq_false hb
      have hN : Near (arcs l) f := by have := hp.2; rwa [List.take_of_length_le (by omega)] at this
      generalize hgf : f = gN at hN s; clear hgf
      refine wp_exit ?_
      refine then_exit ?_
      refine then_exit ?_
      refine block_hit ?_
      refine then_normal ?_
      refine wp_seq ?_
      refine wp_region_lit ?_
      refine st_val (.agg (bm gN).toArray) ha (by kernel_rfl) (run_loadN (of_ := 0) (bm gN) (s.blkIs 0 rfl) rfl (by kernel_rfl) Try.isAgg41 Try.sizeOf41 (bm_all _) (by rw [bm_len]; omega)) ?_
      clear ha; intro a ha
      refine st_exd ha (by kernel_rfl) (ex_store_to (of_ := 0) 1 (bm gN) s (bm_over _ _) rfl rfl (by kernel_rfl) (by kernel_rfl) (Try.sizeOf41 _) (bm_len _) (bm_one _) (by rw [bm_len, bm_len]; omega)) ?_
      clear ha; rintro w a s ha
      replace s : St W (.blk g5 (bm gN) 41 :: .blk g6 (bm gN) 41 :: Own 37 2 Ae ((arcs l).length) c2 (egs (arcs l)) :: Own 3 1 A3 R.length c4 (ints R) :: L) w := s
      refine wpList_nil ?_
      refine then_normal ?_
      refine wp_seq ?_
      refine wp_seq ?_
      refine wp_region_lit ?_
      refine st_val (.int .i64 0) ha (by kernel_rfl) (by kernel_rfl) ?_
      clear ha; intro a ha
      refine wpList_nil ?_
      refine then_normal ?_
      refine wp_block ?_
      replace s := s.at_ (j := 3) rfl
      replace s : St W (Own 3 1 A3 R.length c4 (ints R) :: .blk g5 (bm gN) 41 :: .blk g6 (bm gN) 41 :: Own 37 2 Ae ((arcs l).length) c2 (egs (arcs l)) :: L) w := s
      replace s := s.at_ (j := 2) rfl
      replace s : St W (.blk g6 (bm gN) 41 :: Own 3 1 A3 R.length c4 (ints R) :: .blk g5 (bm gN) 41 :: Own 37 2 Ae ((arcs l).length) c2 (egs (arcs l)) :: L) w := s
      replace s := s.at_ (j := 2) rfl
      replace s : St W (.blk g5 (bm gN) 41 :: .blk g6 (bm gN) 41 :: Own 3 1 A3 R.length c4 (ints R) :: Own 37 2 Ae ((arcs l).length) c2 (egs (arcs l)) :: L) w := s
      replace s : St W (.blk g5 (bm gN) 41 :: .blk g6 (bm gN) 41 :: Own 3 1 A3 R.length c4 (ints R) :: L) w := St.mid (A := [.blk g5 (bm gN) 41, .blk g6 (bm gN) 41, Own 3 1 A3 R.length c4 (ints R)]) (B := [Own 37 2 Ae ((arcs l).length) c2 (egs (arcs l))]) s
      refine wp_loopG (G := (Nat × (Nat → Nat → Bool))) (fun ⟨r, f⟩ a w => Has a 127 [(4, .slice A3 R.length c4), (5, .int .i64 0), (6, .pointer (some ⟨g5, 0, none⟩)), (7, .pointer (some ⟨g6, 0, none⟩)), (9, .int .i64 ((r : Nat) : Int))] ∧ St W (.blk g5 (bm gN) 41 :: .blk g6 (bm f) 41 :: Own 3 1 A3 R.length c4 (ints R) :: L) w ∧ (r ≤ 8 ∧ Far (arcs l) r f)) (fun ⟨r, f⟩ => 8 - r) (0, gN) ?_ ?_
      · exact ⟨(Has.cons ha (by kernel_rfl) (by kernel_rfl) (Has.cons ha (by kernel_rfl) (by kernel_rfl) (Has.cons ha (by kernel_rfl) (by kernel_rfl) (Has.cons ha (by kernel_rfl) (by kernel_rfl) (Has.cons ha (by kernel_rfl) (by kernel_rfl) (Has.nil ha)))))), s, ⟨Nat.zero_le _, hN.far⟩⟩
      · clear ha s; rintro ⟨r, f⟩ a w ⟨ha, s, hp⟩
        refine wp_seq ?_
        refine wp_seq ?_
        refine wp_region_lit ?_
        refine st_val (.int .i64 ((r : Nat) : Int)) ha (by kernel_rfl) (by kernel_rfl) ?_
        clear ha; intro a ha
        refine st_val (.bool (decide (((r : Nat) : Int) < (8 : Int)))) ha (by kernel_rfl) (by kernel_rfl) ?_
        clear ha; intro a ha
        refine wpList_nil ?_
        refine then_normal ?_
        refine wp_part (decide (((r : Nat) : Int) < (8 : Int))) ha rfl (by kernel_rfl) (fun hb => ?_) (fun hb => ?_)
        · rw [hb] at ha; replace hb : (((r : Nat) : Int) < (8 : Int)) := of_decide_eq_true hb
          refine wp_skip ?_
          refine then_normal ?_
          refine wp_seq ?_
          refine wp_block ?_
          refine wp_seq ?_
          refine wp_region_lit ?_
          refine st_val (.agg (bm f).toArray) ha (by kernel_rfl) (run_loadN (of_ := 0) (bm f) (s.blkIs 1 rfl) rfl (by kernel_rfl) Try.isAgg41 Try.sizeOf41 (bm_all _) (by rw [bm_len]; omega)) ?_
          clear ha; intro a ha
          refine st_ex ha (by kernel_rfl) (ex_alloc (bm (fun _ _ => false)) s rfl (zero41 _) rfl) ?_
          clear ha; rintro _ w a ⟨g7, rfl, s⟩ ha
          replace s : St W (.blk g7 (bm (fun _ _ => false)) 41 :: .blk g5 (bm gN) 41 :: .blk g6 (bm f) 41 :: Own 3 1 A3 R.length c4 (ints R) :: L) w := s
          refine st_exd ha (by kernel_rfl) (ex_store_to (of_ := 0) 0 (bm f) s (bm_over _ _) rfl rfl (by kernel_rfl) (by kernel_rfl) (Try.sizeOf41 _) (bm_len _) (bm_one _) (by rw [bm_len, bm_len]; omega)) ?_
          clear ha; rintro w a s ha
          replace s : St W (.blk g7 (bm f) 41 :: .blk g5 (bm gN) 41 :: .blk g6 (bm f) 41 :: Own 3 1 A3 R.length c4 (ints R) :: L) w := s
          refine wpList_nil ?_
          refine then_normal ?_
          refine wp_seq ?_
          refine wp_seq ?_
          refine wp_region_lit ?_
          refine st_val (.int .i64 1) ha (by kernel_rfl) (by kernel_rfl) ?_
          clear ha; intro a ha
          refine wpList_nil ?_
          refine then_normal ?_
          refine wp_block ?_
          replace s := s.at_ (j := 3) rfl
          replace s : St W (Own 3 1 A3 R.length c4 (ints R) :: .blk g7 (bm f) 41 :: .blk g5 (bm gN) 41 :: .blk g6 (bm f) 41 :: L) w := s
          replace s := s.at_ (j := 1) rfl
          replace s : St W (.blk g7 (bm f) 41 :: Own 3 1 A3 R.length c4 (ints R) :: .blk g5 (bm gN) 41 :: .blk g6 (bm f) 41 :: L) w := s
          replace s := s.at_ (j := 3) rfl
          replace s : St W (.blk g6 (bm f) 41 :: .blk g7 (bm f) 41 :: Own 3 1 A3 R.length c4 (ints R) :: .blk g5 (bm gN) 41 :: L) w := s
          replace s := s.at_ (j := 3) rfl
          replace s : St W (.blk g5 (bm gN) 41 :: .blk g6 (bm f) 41 :: .blk g7 (bm f) 41 :: Own 3 1 A3 R.length c4 (ints R) :: L) w := s
          have hpr := hp; clear hp
          refine wp_loopG (G := (Nat × (Nat → Nat → Bool))) (fun ⟨aa, h⟩ a w => Has a 127 [(4, .slice A3 R.length c4), (5, .int .i64 0), (6, .pointer (some ⟨g5, 0, none⟩)), (7, .pointer (some ⟨g6, 0, none⟩)), (9, .int .i64 ((r : Nat) : Int)), (10, .pointer (some ⟨g7, 0, none⟩)), (11, .int .i64 ((aa : Nat) : Int))] ∧ St W (.blk g5 (bm gN) 41 :: .blk g6 (bm f) 41 :: .blk g7 (bm h) 41 :: Own 3 1 A3 R.length c4 (ints R) :: L) w ∧ ((1 ≤ aa ∧ aa ≤ 9) ∧ Nx (arcs l) f gN h aa 1 1)) (fun ⟨aa, h⟩ => 9 - aa) (1, f) ?_ ?_
          · exact ⟨(Has.cons ha (by kernel_rfl) (by kernel_rfl) (Has.cons ha (by kernel_rfl) (by kernel_rfl) (Has.cons ha (by kernel_rfl) (by kernel_rfl) (Has.cons ha (by kernel_rfl) (by kernel_rfl) (Has.cons ha (by kernel_rfl) (by kernel_rfl) (Has.cons ha (by kernel_rfl) (by kernel_rfl) (Has.cons ha (by kernel_rfl) (by kernel_rfl) (Has.nil ha)))))))), s, ⟨by omega, Nx.start hpr.2 gN⟩⟩
          · clear ha s; rintro ⟨aa, h⟩ a w ⟨ha, s, hp⟩
            refine wp_seq ?_
            refine wp_seq ?_
            refine wp_region_lit ?_
            refine st_val (.int .i64 ((aa : Nat) : Int)) ha (by kernel_rfl) (by kernel_rfl) ?_
            clear ha; intro a ha
            refine st_val (.bool (decide (((aa : Nat) : Int) < (9 : Int)))) ha (by kernel_rfl) (by kernel_rfl) ?_
            clear ha; intro a ha
            refine wpList_nil ?_
            refine then_normal ?_
            refine wp_part (decide (((aa : Nat) : Int) < (9 : Int))) ha rfl (by kernel_rfl) (fun hb => ?_) (fun hb => ?_)
            · rw [hb] at ha; replace hb : (((aa : Nat) : Int) < (9 : Int)) := of_decide_eq_true hb
              refine wp_skip ?_
              refine then_normal ?_
              refine wp_seq ?_
              refine wp_block ?_
              refine wp_seq ?_
              refine wp_region_lit ?_
              refine st_val (.int .i64 1) ha (by kernel_rfl) (by kernel_rfl) ?_
              clear ha; intro a ha
              refine wpList_nil ?_
              refine then_normal ?_
              refine wp_block ?_
              have hpa := hp; clear hp
              refine wp_loopG (G := (Nat × (Nat → Nat → Bool))) (fun ⟨bb, h⟩ a w => Has a 127 [(4, .slice A3 R.length c4), (5, .int .i64 0), (6, .pointer (some ⟨g5, 0, none⟩)), (7, .pointer (some ⟨g6, 0, none⟩)), (9, .int .i64 ((r : Nat) : Int)), (10, .pointer (some ⟨g7, 0, none⟩)), (11, .int .i64 ((aa : Nat) : Int)), (12, .int .i64 ((bb : Nat) : Int))] ∧ St W (.blk g5 (bm gN) 41 :: .blk g6 (bm f) 41 :: .blk g7 (bm h) 41 :: Own 3 1 A3 R.length c4 (ints R) :: L) w ∧ ((1 ≤ bb ∧ bb ≤ 9) ∧ Nx (arcs l) f gN h aa bb 1)) (fun ⟨bb, h⟩ => 9 - bb) (1, h) ?_ ?_
              · exact ⟨(Has.cons ha (by kernel_rfl) (by kernel_rfl) (Has.cons ha (by kernel_rfl) (by kernel_rfl) (Has.cons ha (by kernel_rfl) (by kernel_rfl) (Has.cons ha (by kernel_rfl) (by kernel_rfl) (Has.cons ha (by kernel_rfl) (by kernel_rfl) (Has.cons ha (by kernel_rfl) (by kernel_rfl) (Has.cons ha (by kernel_rfl) (by kernel_rfl) (Has.cons ha (by kernel_rfl) (by kernel_rfl) (Has.nil ha))))))))), s, ⟨by omega, hpa.2⟩⟩
              · clear ha s; rintro ⟨bb, h⟩ a w ⟨ha, s, hp⟩
                refine wp_seq ?_
                refine wp_seq ?_
                refine wp_region_lit ?_
                refine st_val (.int .i64 ((bb : Nat) : Int)) ha (by kernel_rfl) (by kernel_rfl) ?_
                clear ha; intro a ha
                refine st_val (.bool (decide (((bb : Nat) : Int) < (9 : Int)))) ha (by kernel_rfl) (by kernel_rfl) ?_
                clear ha; intro a ha
                refine wpList_nil ?_
                refine then_normal ?_
                refine wp_part (decide (((bb : Nat) : Int) < (9 : Int))) ha rfl (by kernel_rfl) (fun hb => ?_) (fun hb => ?_)
                · rw [hb] at ha; replace hb : (((bb : Nat) : Int) < (9 : Int)) := of_decide_eq_true hb
                  refine wp_skip ?_
                  refine then_normal ?_
                  refine wp_seq ?_
                  refine wp_block ?_
                  refine wp_seq ?_
                  refine wp_region_lit ?_
                  refine st_val (.int .i64 1) ha (by kernel_rfl) (by kernel_rfl) ?_
                  clear ha; intro a ha
                  refine wpList_nil ?_
                  refine then_normal ?_
                  refine wp_block ?_
                  have hpb := hp; clear hp
                  refine wp_loopG (G := (Nat × (Nat → Nat → Bool))) (fun ⟨cc, h⟩ a w => Has a 127 [(4, .slice A3 R.length c4), (5, .int .i64 0), (6, .pointer (some ⟨g5, 0, none⟩)), (7, .pointer (some ⟨g6, 0, none⟩)), (9, .int .i64 ((r : Nat) : Int)), (10, .pointer (some ⟨g7, 0, none⟩)), (11, .int .i64 ((aa : Nat) : Int)), (12, .int .i64 ((bb : Nat) : Int)), (13, .int .i64 ((cc : Nat) : Int))] ∧ St W (.blk g5 (bm gN) 41 :: .blk g6 (bm f) 41 :: .blk g7 (bm h) 41 :: Own 3 1 A3 R.length c4 (ints R) :: L) w ∧ ((1 ≤ cc ∧ cc ≤ 9) ∧ Nx (arcs l) f gN h aa bb cc)) (fun ⟨cc, h⟩ => 9 - cc) (1, h) ?_ ?_
                  · exact ⟨(Has.cons ha (by kernel_rfl) (by kernel_rfl) (Has.cons ha (by kernel_rfl) (by kernel_rfl) (Has.cons ha (by kernel_rfl) (by kernel_rfl) (Has.cons ha (by kernel_rfl) (by kernel_rfl) (Has.cons ha (by kernel_rfl) (by kernel_rfl) (Has.cons ha (by kernel_rfl) (by kernel_rfl) (Has.cons ha (by kernel_rfl) (by kernel_rfl) (Has.cons ha (by kernel_rfl) (by kernel_rfl) (Has.cons ha (by kernel_rfl) (by kernel_rfl) (Has.nil ha)))))))))), s, ⟨by omega, hpb.2⟩⟩
                  · clear ha s; rintro ⟨cc, h⟩ a w ⟨ha, s, hp⟩
                    refine wp_seq ?_
                    refine wp_seq ?_
                    refine wp_region_lit ?_
                    refine st_val (.int .i64 ((cc : Nat) : Int)) ha (by kernel_rfl) (by kernel_rfl) ?_
                    clear ha; intro a ha
                    refine st_val (.bool (decide (((cc : Nat) : Int) < (9 : Int)))) ha (by kernel_rfl) (by kernel_rfl) ?_
                    clear ha; intro a ha
                    refine wpList_nil ?_
                    refine then_normal ?_
                    refine wp_part (decide (((cc : Nat) : Int) < (9 : Int))) ha rfl (by kernel_rfl) (fun hb => ?_) (fun hb => ?_)
                    · rw [hb] at ha; replace hb : (((cc : Nat) : Int) < (9 : Int)) := of_decide_eq_true hb
                      refine wp_skip ?_
                      refine then_normal ?_
                      refine wp_seq ?_
                      refine wp_block ?_
                      refine wp_seq ?_
                      refine wp_region_lit ?_
                      refine st_val (.int .i64 ((aa : Nat) : Int)) ha (by kernel_rfl) (by kernel_rfl) ?_
                      clear ha; intro a ha
                      refine st_val (.int .i64 ((bb : Nat) : Int)) ha (by kernel_rfl) (by kernel_rfl) ?_
                      clear ha; intro a ha
                      refine st_val (.pointer (some ⟨g6, 0 + aa * 9, none⟩)) ha (by kernel_rfl) (run_indexArrO (kd := .i64) (of_ := 0) (z := ((aa : Nat) : Int)) aa rfl Try.underlying41 Try.sizeOf40 (by kernel_rfl) (by kernel_rfl) rfl (by first | assumption | omega) _) ?_
                      clear ha; intro a ha
                      refine st_val (.pointer (some ⟨g6, 0 + aa * 9 + bb * 1, none⟩)) ha (by kernel_rfl) (run_indexArrO (kd := .i64) (of_ := 0 + aa * 9) (z := ((bb : Nat) : Int)) bb rfl Try.underlying40 Try.sizeOf4 (by kernel_rfl) (by kernel_rfl) rfl (by first | assumption | omega) _) ?_
                      clear ha; intro a ha
                      refine st_val (.bool (f aa bb)) ha (by kernel_rfl) (run_load1 (of_ := 0 + aa * 9 + bb * 1) (s.blkIs 1 rfl) rfl (by kernel_rfl) Try.isAgg4 (bm_at (by omega) (by omega))) ?_
                      clear ha; intro a ha
                      refine st_val (.bool (f aa bb)) ha (by kernel_rfl) (by kernel_rfl) ?_
                      clear ha; intro a ha
                      rcases Bool.eq_false_or_eq_true (f aa bb) with hb | hb
                      · rw [hb] at ha; skip
                        have hfab := hb
                        refine st_val (.int .i64 ((bb : Nat) : Int)) ha (by kernel_rfl) (by kernel_rfl) ?_
                        clear ha; intro a ha
                        refine st_val (.int .i64 ((cc : Nat) : Int)) ha (by kernel_rfl) (by kernel_rfl) ?_
                        clear ha; intro a ha
                        refine st_val (.pointer (some ⟨g5, 0 + bb * 9, none⟩)) ha (by kernel_rfl) (run_indexArrO (kd := .i64) (of_ := 0) (z := ((bb : Nat) : Int)) bb rfl Try.underlying41 Try.sizeOf40 (by kernel_rfl) (by kernel_rfl) rfl (by first | assumption | omega) _) ?_
                        clear ha; intro a ha
                        refine st_val (.pointer (some ⟨g5, 0 + bb * 9 + cc * 1, none⟩)) ha (by kernel_rfl) (run_indexArrO (kd := .i64) (of_ := 0 + bb * 9) (z := ((cc : Nat) : Int)) cc rfl Try.underlying40 Try.sizeOf4 (by kernel_rfl) (by kernel_rfl) rfl (by first | assumption | omega) _) ?_
                        clear ha; intro a ha
                        refine st_val (.bool (gN bb cc)) ha (by kernel_rfl) (run_load1 (of_ := 0 + bb * 9 + cc * 1) (s.blkIs 0 rfl) rfl (by kernel_rfl) Try.isAgg4 (bm_at (by omega) (by omega))) ?_
                        clear ha; intro a ha
                        refine st_val (.bool (gN bb cc)) ha (by kernel_rfl) (by kernel_rfl) ?_
                        clear ha; intro a ha
                        refine wpList_nil ?_
                        refine then_normal ?_
                        refine wp_part (gN bb cc) ha rfl (by kernel_rfl) (fun hb => ?_) (fun hb => ?_)
                        · rw [hb] at ha; skip
                          have hgbc := hb
                          refine wp_region_lit ?_
                          refine st_val (.int .i64 ((aa : Nat) : Int)) ha (by kernel_rfl) (by kernel_rfl) ?_
                          clear ha; intro a ha
                          refine st_val (.int .i64 ((cc : Nat) : Int)) ha (by kernel_rfl) (by kernel_rfl) ?_
                          clear ha; intro a ha
                          refine st_val (.pointer (some ⟨g7, 0 + aa * 9, none⟩)) ha (by kernel_rfl) (run_indexArrO (kd := .i64) (of_ := 0) (z := ((aa : Nat) : Int)) aa rfl Try.underlying41 Try.sizeOf40 (by kernel_rfl) (by kernel_rfl) rfl (by first | assumption | omega) _) ?_
                          clear ha; intro a ha
                          refine st_val (.pointer (some ⟨g7, 0 + aa * 9 + cc * 1, none⟩)) ha (by kernel_rfl) (run_indexArrO (kd := .i64) (of_ := 0 + aa * 9) (z := ((cc : Nat) : Int)) cc rfl Try.underlying40 Try.sizeOf4 (by kernel_rfl) (by kernel_rfl) rfl (by first | assumption | omega) _) ?_
                          clear ha; intro a ha
                          refine st_exd ha (by kernel_rfl) (ex_store_to (of_ := 0 + aa * 9 + cc * 1) 2 [.bool true] s (bm_put (by omega) (by omega)) rfl rfl (by kernel_rfl) (by kernel_rfl) (Try.sizeOf4 _) rfl (by simp [Value.oneCell']) (by rw [bm_len]; simp only [List.length_cons, List.length_nil]; omega)) ?_
                          clear ha; rintro w a s ha
                          replace s : St W (.blk g5 (bm gN) 41 :: .blk g6 (bm f) 41 :: .blk g7 (bm (upd h aa cc)) 41 :: Own 3 1 A3 R.length c4 (ints R) :: L) w := s
                          refine wpList_nil ?_
                          refine block_normal ?_
                          refine then_normal ?_
                          refine wp_region_lit ?_
                          refine st_val (.int .i64 ((cc : Nat) : Int)) ha (by kernel_rfl) (by kernel_rfl) ?_
                          clear ha; intro a ha
                          refine st_val (.int .i64 ((cc + 1 : Nat) : Int)) ha (by kernel_rfl) (run_arith (((cc : Nat) : Int) + (1 : Int)) ((cc + 1 : Nat) : Int) rfl (by kernel_rfl) (by kernel_rfl) (.inl ⟨rfl, rfl⟩) (by rw [wrap64_in (by omega)]; try omega) _) ?_
                          clear ha; intro a ha
                          refine st_val (.int .i64 ((cc + 1 : Nat) : Int)) ha (by kernel_rfl) (by kernel_rfl) ?_
                          clear ha; intro a ha
                          refine wpList_nil ?_
                          refine then_normal ?_
                          exact ⟨(cc + 1, (upd h aa cc)), (show 9 - (cc + 1) < 9 - cc by omega), (Has.cons ha (by kernel_rfl) (by kernel_rfl) (Has.cons ha (by kernel_rfl) (by kernel_rfl) (Has.cons ha (by kernel_rfl) (by kernel_rfl) (Has.cons ha (by kernel_rfl) (by kernel_rfl) (Has.cons ha (by kernel_rfl) (by kernel_rfl) (Has.cons ha (by kernel_rfl) (by kernel_rfl) (Has.cons ha (by kernel_rfl) (by kernel_rfl) (Has.cons ha (by kernel_rfl) (by kernel_rfl) (Has.cons ha (by kernel_rfl) (by kernel_rfl) (Has.nil ha)))))))))), s, by omega, hp.2.yes hpr.2 hN (by omega) (by omega) (by omega) hfab hgbc⟩
                        · rw [hb] at ha; skip
                          refine wp_skip ?_
                          refine block_normal ?_
                          refine then_normal ?_
                          refine wp_region_lit ?_
                          refine st_val (.int .i64 ((cc : Nat) : Int)) ha (by kernel_rfl) (by kernel_rfl) ?_
                          clear ha; intro a ha
                          refine st_val (.int .i64 ((cc + 1 : Nat) : Int)) ha (by kernel_rfl) (run_arith (((cc : Nat) : Int) + (1 : Int)) ((cc + 1 : Nat) : Int) rfl (by kernel_rfl) (by kernel_rfl) (.inl ⟨rfl, rfl⟩) (by rw [wrap64_in (by omega)]; try omega) _) ?_
                          clear ha; intro a ha
                          refine st_val (.int .i64 ((cc + 1 : Nat) : Int)) ha (by kernel_rfl) (by kernel_rfl) ?_
                          clear ha; intro a ha
                          refine wpList_nil ?_
                          refine then_normal ?_
                          exact ⟨(cc + 1, h), (show 9 - (cc + 1) < 9 - cc by omega), (Has.cons ha (by kernel_rfl) (by kernel_rfl) (Has.cons ha (by kernel_rfl) (by kernel_rfl) (Has.cons ha (by kernel_rfl) (by kernel_rfl) (Has.cons ha (by kernel_rfl) (by kernel_rfl) (Has.cons ha (by kernel_rfl) (by kernel_rfl) (Has.cons ha (by kernel_rfl) (by kernel_rfl) (Has.cons ha (by kernel_rfl) (by kernel_rfl) (Has.cons ha (by kernel_rfl) (by kernel_rfl) (Has.cons ha (by kernel_rfl) (by kernel_rfl) (Has.nil ha)))))))))), s, by omega, hp.2.no (by first | (rintro ⟨q1, q2⟩; rw [q1] at hb; cases hb; done) | (rintro ⟨q1, q2⟩; rw [q2] at hb; cases hb))⟩
                      · rw [hb] at ha; skip
                        refine st_pass ha (by kernel_rfl) ?_
                        clear ha; intro a ha
                        refine st_pass ha (by kernel_rfl) ?_
                        clear ha; intro a ha
                        refine st_pass ha (by kernel_rfl) ?_
                        clear ha; intro a ha
                        refine st_pass ha (by kernel_rfl) ?_
                        clear ha; intro a ha
                        refine st_pass ha (by kernel_rfl) ?_
                        clear ha; intro a ha
                        refine st_val (.bool false) ha (by kernel_rfl) (by kernel_rfl) ?_
                        clear ha; intro a ha
                        refine wpList_nil ?_
                        refine then_normal ?_
                        refine wp_false ha rfl (by kernel_rfl) ?_
                        refine wp_skip ?_
                        refine block_normal ?_
                        refine then_normal ?_
                        refine wp_region_lit ?_
                        refine st_val (.int .i64 ((cc : Nat) : Int)) ha (by kernel_rfl) (by kernel_rfl) ?_
                        clear ha; intro a ha
                        refine st_val (.int .i64 ((cc + 1 : Nat) : Int)) ha (by kernel_rfl) (run_arith (((cc : Nat) : Int) + (1 : Int)) ((cc + 1 : Nat) : Int) rfl (by kernel_rfl) (by kernel_rfl) (.inl ⟨rfl, rfl⟩) (by rw [wrap64_in (by omega)]; try omega) _) ?_
                        clear ha; intro a ha
                        refine st_val (.int .i64 ((cc + 1 : Nat) : Int)) ha (by kernel_rfl) (by kernel_rfl) ?_
                        clear ha; intro a ha
                        refine wpList_nil ?_
                        refine then_normal ?_
                        exact ⟨(cc + 1, h), (show 9 - (cc + 1) < 9 - cc by omega), (Has.cons ha (by kernel_rfl) (by kernel_rfl) (Has.cons ha (by kernel_rfl) (by kernel_rfl) (Has.cons ha (by kernel_rfl) (by kernel_rfl) (Has.cons ha (by kernel_rfl) (by kernel_rfl) (Has.cons ha (by kernel_rfl) (by kernel_rfl) (Has.cons ha (by kernel_rfl) (by kernel_rfl) (Has.cons ha (by kernel_rfl) (by kernel_rfl) (Has.cons ha (by kernel_rfl) (by kernel_rfl) (Has.cons ha (by kernel_rfl) (by kernel_rfl) (Has.nil ha)))))))))), s, by omega, hp.2.no (by first | (rintro ⟨q1, q2⟩; rw [q1] at hb; cases hb; done) | (rintro ⟨q1, q2⟩; rw [q2] at hb; cases hb))⟩
                    · rw [hb] at ha; replace hb : ¬ (((cc : Nat) : Int) < (9 : Int)) := of_decide_eq_false hb
                      have hc9 : cc = 9 := by omega
                      subst hc9
                      have hnc := hp.2
                      replace hp := hpb
                      refine wp_exit ?_
                      refine then_exit ?_
                      refine then_exit ?_
                      refine block_hit ?_
                      refine block_normal ?_
                      refine then_normal ?_
                      refine wp_region_lit ?_
                      refine st_val (.int .i64 ((bb : Nat) : Int)) ha (by kernel_rfl) (by kernel_rfl) ?_
                      clear ha; intro a ha
                      refine st_val (.int .i64 ((bb + 1 : Nat) : Int)) ha (by kernel_rfl) (run_arith (((bb : Nat) : Int) + (1 : Int)) ((bb + 1 : Nat) : Int) rfl (by kernel_rfl) (by kernel_rfl) (.inl ⟨rfl, rfl⟩) (by rw [wrap64_in (by omega)]; try omega) _) ?_
                      clear ha; intro a ha
                      refine st_val (.int .i64 ((bb + 1 : Nat) : Int)) ha (by kernel_rfl) (by kernel_rfl) ?_
                      clear ha; intro a ha
                      refine wpList_nil ?_
                      refine then_normal ?_
                      exact ⟨(bb + 1, h), (show 9 - (bb + 1) < 9 - bb by omega), (Has.cons ha (by kernel_rfl) (by kernel_rfl) (Has.cons ha (by kernel_rfl) (by kernel_rfl) (Has.cons ha (by kernel_rfl) (by kernel_rfl) (Has.cons ha (by kernel_rfl) (by kernel_rfl) (Has.cons ha (by kernel_rfl) (by kernel_rfl) (Has.cons ha (by kernel_rfl) (by kernel_rfl) (Has.cons ha (by kernel_rfl) (by kernel_rfl) (Has.cons ha (by kernel_rfl) (by kernel_rfl) (Has.nil ha))))))))), s, by omega, hnc.cdone⟩
                · rw [hb] at ha; replace hb : ¬ (((bb : Nat) : Int) < (9 : Int)) := of_decide_eq_false hb
                  have hb9 : bb = 9 := by omega
                  subst hb9
                  have hnb := hp.2
                  replace hp := hpa
                  refine wp_exit ?_
                  refine then_exit ?_
                  refine then_exit ?_
                  refine block_hit ?_
                  refine block_normal ?_
                  refine then_normal ?_
                  refine wp_region_lit ?_
                  refine st_val (.int .i64 ((aa : Nat) : Int)) ha (by kernel_rfl) (by kernel_rfl) ?_
                  clear ha; intro a ha
                  refine st_val (.int .i64 ((aa + 1 : Nat) : Int)) ha (by kernel_rfl) (run_arith (((aa : Nat) : Int) + (1 : Int)) ((aa + 1 : Nat) : Int) rfl (by kernel_rfl) (by kernel_rfl) (.inl ⟨rfl, rfl⟩) (by rw [wrap64_in (by omega)]; try omega) _) ?_
                  clear ha; intro a ha
                  refine st_val (.int .i64 ((aa + 1 : Nat) : Int)) ha (by kernel_rfl) (by kernel_rfl) ?_
                  clear ha; intro a ha
                  refine wpList_nil ?_
                  refine then_normal ?_
                  exact ⟨(aa + 1, h), (show 9 - (aa + 1) < 9 - aa by omega), (Has.cons ha (by kernel_rfl) (by kernel_rfl) (Has.cons ha (by kernel_rfl) (by kernel_rfl) (Has.cons ha (by kernel_rfl) (by kernel_rfl) (Has.cons ha (by kernel_rfl) (by kernel_rfl) (Has.cons ha (by kernel_rfl) (by kernel_rfl) (Has.cons ha (by kernel_rfl) (by kernel_rfl) (Has.cons ha (by kernel_rfl) (by kernel_rfl) (Has.nil ha)))))))), s, by omega, hnb.bdone⟩
            · rw [hb] at ha; replace hb : ¬ (((aa : Nat) : Int) < (9 : Int)) := of_decide_eq_false hb
              have ha9 : aa = 9 := by omega
              subst ha9
              have hfar := hp.2.adone arcs_small hpr.2 hN
              replace hp := hpr
              refine wp_exit ?_
              refine then_exit ?_
              refine then_exit ?_
              refine block_hit ?_
              refine then_normal ?_
              refine wp_region_lit ?_
              refine st_val (.agg (bm h).toArray) ha (by kernel_rfl) (run_loadN (of_ := 0) (bm h) (s.blkIs 2 rfl) rfl (by kernel_rfl) Try.isAgg41 Try.sizeOf41 (bm_all _) (by rw [bm_len]; omega)) ?_
              clear ha; intro a ha
              refine st_exd ha (by kernel_rfl) (ex_store_to (of_ := 0) 1 (bm h) s (bm_over _ _) rfl rfl (by kernel_rfl) (by kernel_rfl) (Try.sizeOf41 _) (bm_len _) (bm_one _) (by rw [bm_len, bm_len]; omega)) ?_
              clear ha; rintro w a s ha
              replace s : St W (.blk g5 (bm gN) 41 :: .blk g6 (bm h) 41 :: .blk g7 (bm h) 41 :: Own 3 1 A3 R.length c4 (ints R) :: L) w := s
              refine wpList_nil ?_
              refine block_normal ?_
              refine then_normal ?_
              refine wp_region_lit ?_
              refine st_val (.int .i64 ((r : Nat) : Int)) ha (by kernel_rfl) (by kernel_rfl) ?_
              clear ha; intro a ha
              refine st_val (.int .i64 ((r + 1 : Nat) : Int)) ha (by kernel_rfl) (run_arith (((r : Nat) : Int) + (1 : Int)) ((r + 1 : Nat) : Int) rfl (by kernel_rfl) (by kernel_rfl) (.inl ⟨rfl, rfl⟩) (by rw [wrap64_in (by omega)]; try omega) _) ?_
              clear ha; intro a ha
              refine st_val (.int .i64 ((r + 1 : Nat) : Int)) ha (by kernel_rfl) (by kernel_rfl) ?_
              clear ha; intro a ha
              refine wpList_nil ?_
              refine then_normal ?_
              replace s := s.at_ (j := 3) rfl
              replace s : St W (Own 3 1 A3 R.length c4 (ints R) :: .blk g5 (bm gN) 41 :: .blk g6 (bm h) 41 :: .blk g7 (bm h) 41 :: L) w := s
              replace s := s.at_ (j := 2) rfl
              replace s : St W (.blk g6 (bm h) 41 :: Own 3 1 A3 R.length c4 (ints R) :: .blk g5 (bm gN) 41 :: .blk g7 (bm h) 41 :: L) w := s
              replace s := s.at_ (j := 2) rfl
              replace s : St W (.blk g5 (bm gN) 41 :: .blk g6 (bm h) 41 :: Own 3 1 A3 R.length c4 (ints R) :: .blk g7 (bm h) 41 :: L) w := s
              replace s : St W (.blk g5 (bm gN) 41 :: .blk g6 (bm h) 41 :: Own 3 1 A3 R.length c4 (ints R) :: L) w := St.mid (A := [.blk g5 (bm gN) 41, .blk g6 (bm h) 41, Own 3 1 A3 R.length c4 (ints R)]) (B := [.blk g7 (bm h) 41]) s
              exact ⟨(r + 1, h), (show 8 - (r + 1) < 8 - r by omega), (Has.cons ha (by kernel_rfl) (by kernel_rfl) (Has.cons ha (by kernel_rfl) (by kernel_rfl) (Has.cons ha (by kernel_rfl) (by kernel_rfl) (Has.cons ha (by kernel_rfl) (by kernel_rfl) (Has.cons ha (by kernel_rfl) (by kernel_rfl) (Has.nil ha)))))), s, by omega, hfar⟩
        · rw [hb] at ha; replace hb : ¬ (((r : Nat) : Int) < (8 : Int)) := of_decide_eq_false hb
          have hr8 : r = 8 := by omega
          subst hr8
          have hfar := hp.2
          refine wp_exit ?_
          refine then_exit ?_
          refine then_exit ?_
          refine block_hit ?_
          refine then_normal ?_
          refine wp_seq ?_
          refine wp_seq ?_
          refine wp_region_lit ?_
          refine st_val (.int .i64 1) ha (by kernel_rfl) (by kernel_rfl) ?_
          clear ha; intro a ha
          refine wpList_nil ?_
          refine then_normal ?_
          refine wp_block ?_
          replace s := s.at_ (j := 2) rfl
          replace s : St W (Own 3 1 A3 R.length c4 (ints R) :: .blk g5 (bm gN) 41 :: .blk g6 (bm f) 41 :: L) w := s
          replace s := s.at_ (j := 2) rfl
          replace s : St W (.blk g6 (bm f) 41 :: Own 3 1 A3 R.length c4 (ints R) :: .blk g5 (bm gN) 41 :: L) w := s
          replace s : St W (.blk g6 (bm f) 41 :: Own 3 1 A3 R.length c4 (ints R) :: L) w := St.mid (A := [.blk g6 (bm f) 41, Own 3 1 A3 R.length c4 (ints R)]) (B := [.blk g5 (bm gN) 41]) s
          refine wp_loopG (G := Nat) (fun aa a w => Has a 127 [(4, .slice A3 R.length c4), (5, .int .i64 0), (7, .pointer (some ⟨g6, 0, none⟩)), (14, .int .i64 ((aa : Nat) : Int))] ∧ St W (.blk g6 (bm f) 41 :: Own 3 1 A3 R.length c4 (ints R) :: L) w ∧ (1 ≤ aa ∧ aa ≤ 9)) (fun aa => 9 - aa) 1 ?_ ?_
          · exact ⟨(Has.cons ha (by kernel_rfl) (by kernel_rfl) (Has.cons ha (by kernel_rfl) (by kernel_rfl) (Has.cons ha (by kernel_rfl) (by kernel_rfl) (Has.cons ha (by kernel_rfl) (by kernel_rfl) (Has.nil ha))))), s, (by omega)⟩
          · clear ha s; rintro aa a w ⟨ha, s, hp⟩
            refine wp_seq ?_
            refine wp_seq ?_
            refine wp_region_lit ?_
            refine st_val (.int .i64 ((aa : Nat) : Int)) ha (by kernel_rfl) (by kernel_rfl) ?_
            clear ha; intro a ha
            refine st_val (.bool (decide (((aa : Nat) : Int) < (9 : Int)))) ha (by kernel_rfl) (by kernel_rfl) ?_
            clear ha; intro a ha
            refine wpList_nil ?_
            refine then_normal ?_
            refine wp_part (decide (((aa : Nat) : Int) < (9 : Int))) ha rfl (by kernel_rfl) (fun hb => ?_) (fun hb => ?_)
            · rw [hb] at ha; replace hb : (((aa : Nat) : Int) < (9 : Int)) := of_decide_eq_true hb
              refine wp_skip ?_
              refine then_normal ?_
              refine wp_seq ?_
              refine wp_block ?_
              refine wp_seq ?_
              refine wp_region_head 8 (fun w => BlkIs g6 (bm f) w ∧ True) (by kernel_rfl) (by decide) ?_
              replace s := s.drew; generalize _root_.Go.World.drew _ = w at s ⊢
              have hS : (fun w => BlkIs g6 (bm f) w ∧ True) w := ⟨s.blkIs 0 rfl, trivial⟩
              refine hd_val (i := 0) (.slice A3 R.length c4) ha rfl (by kernel_rfl) (fun _ _ _ h => h) (by kernel_rfl) (fun w hS => (by kernel_rfl)) hS ?_
              clear ha; intro a ha
              refine hd_val (i := 1) (.int .i64 ((aa : Nat) : Int)) ha rfl (by kernel_rfl) (fun _ _ _ h => h) (by kernel_rfl) (fun w hS => (by kernel_rfl)) hS ?_
              clear ha; intro a ha
              refine hd_val (i := 3) (.int .i64 ((aa : Nat) : Int)) ha rfl (by kernel_rfl) (fun _ _ _ h => h) (by kernel_rfl) (fun w hS => (by kernel_rfl)) hS ?_
              clear ha; intro a ha
              refine hd_val (i := 4) (.int .i64 ((aa : Nat) : Int)) ha rfl (by kernel_rfl) (fun _ _ _ h => h) (by kernel_rfl) (fun w hS => (by kernel_rfl)) hS ?_
              clear ha; intro a ha
              refine hd_val (i := 5) (.pointer (some ⟨g6, 0 + aa * 9, none⟩)) ha rfl (by kernel_rfl) (fun _ _ _ h => h) (by kernel_rfl) (fun w hS => (run_indexArrO (kd := .i64) (of_ := 0) (z := ((aa : Nat) : Int)) aa rfl Try.underlying41 Try.sizeOf40 (by kernel_rfl) (by kernel_rfl) rfl (by first | assumption | omega) _)) hS ?_
              clear ha; intro a ha
              refine hd_val (i := 6) (.pointer (some ⟨g6, 0 + aa * 9 + aa * 1, none⟩)) ha rfl (by kernel_rfl) (fun _ _ _ h => h) (by kernel_rfl) (fun w hS => (run_indexArrO (kd := .i64) (of_ := 0 + aa * 9) (z := ((aa : Nat) : Int)) aa rfl Try.underlying40 Try.sizeOf4 (by kernel_rfl) (by kernel_rfl) rfl (by first | assumption | omega) _)) hS ?_
              clear ha; intro a ha
              refine hd_val (i := 7) (.bool (f aa aa)) ha rfl (by kernel_rfl) (fun _ _ _ h => h) (by kernel_rfl) (fun w hS => run_load1 (of_ := 0 + aa * 9 + aa * 1) hS.1 rfl (by kernel_rfl) Try.isAgg4 (bm_at (by omega) (by omega))) hS ?_
              clear ha; intro a ha
              refine hd_call (i := 2) ha rfl (by kernel_rfl) (by kernel_rfl) (by kernel_rfl) (has_is W _ w A3 R.length c4 R (Knows.own (j := 1) rfl) rfl (by omega) ((aa : Nat) : Int) (f aa aa) (hfar.diag arcs_small hR (by omega)) s) ?_
              clear hS; rintro _ w ⟨rfl, s⟩
              replace s : St W (.blk g6 (bm f) 41 :: Own 3 1 A3 R.length c4 (ints R) :: L) w := s
              have hS : (fun w => BlkIs g6 (bm f) w ∧ True) w := ⟨s.blkIs 0 rfl, trivial⟩
              refine ⟨_, rfl, hS, ?_⟩; clear ha; intro a ha
              refine Head.done (by kernel_rfl) ?_
              clear hS; simp only [List.drop_succ_cons, List.drop_zero]
              refine st_val (.bool false) ha (by kernel_rfl) (run_known (bne_self_eq_false _) (show (execOp (evalE _) _).run _ _ = .ok (.value (.bool ((f aa aa) != (f aa aa)))) _ from by kernel_rfl)) ?_
              clear ha; intro a ha
              refine wpList_nil ?_
              refine then_normal ?_
              refine wp_false ha rfl (by kernel_rfl) ?_
              refine wp_skip ?_
              refine block_normal ?_
              refine then_normal ?_
              refine wp_region_lit ?_
              refine st_val (.int .i64 ((aa : Nat) : Int)) ha (by kernel_rfl) (by kernel_rfl) ?_
              clear ha; intro a ha
              refine st_val (.int .i64 ((aa + 1 : Nat) : Int)) ha (by kernel_rfl) (run_arith (((aa : Nat) : Int) + (1 : Int)) ((aa + 1 : Nat) : Int) rfl (by kernel_rfl) (by kernel_rfl) (.inl ⟨rfl, rfl⟩) (by rw [wrap64_in (by omega)]; try omega) _) ?_
              clear ha; intro a ha
              refine st_val (.int .i64 ((aa + 1 : Nat) : Int)) ha (by kernel_rfl) (by kernel_rfl) ?_
              clear ha; intro a ha
              refine wpList_nil ?_
              refine then_normal ?_
              exact ⟨aa + 1, (show 9 - (aa + 1) < 9 - aa by omega), (Has.cons ha (by kernel_rfl) (by kernel_rfl) (Has.cons ha (by kernel_rfl) (by kernel_rfl) (Has.cons ha (by kernel_rfl) (by kernel_rfl) (Has.cons ha (by kernel_rfl) (by kernel_rfl) (Has.nil ha))))), s, (show 1 ≤ aa + 1 ∧ aa + 1 ≤ 9 by omega)⟩
            · rw [hb] at ha; replace hb : ¬ (((aa : Nat) : Int) < (9 : Int)) := of_decide_eq_false hb
              refine wp_exit ?_
              refine then_exit ?_
              refine then_exit ?_
              refine block_hit ?_
              refine then_normal ?_
              refine wp_seq ?_
              refine wp_seq ?_
              refine wp_region_lit ?_
              refine st_val (.int .i64 0) ha (by kernel_rfl) (by kernel_rfl) ?_
              clear ha; intro a ha
              refine wpList_nil ?_
              refine then_normal ?_
              refine wp_block ?_
              replace s := s.at_ (j := 1) rfl
              replace s : St W (Own 3 1 A3 R.length c4 (ints R) :: .blk g6 (bm f) 41 :: L) w := s
              replace s : St W (Own 3 1 A3 R.length c4 (ints R) :: L) w := St.mid (A := [Own 3 1 A3 R.length c4 (ints R)]) (B := [.blk g6 (bm f) 41]) s
              refine wp_loopG (G := (Nat × Option Addr)) (fun ⟨i, Ar⟩ a w => Has a 127 [(4, .slice Ar R.length c4), (5, .int .i64 0), (15, .int .i64 ((i : Nat) : Int))] ∧ St W (Own 3 1 Ar R.length c4 (ints R) :: L) w ∧ (i ≤ R.length)) (fun ⟨i, Ar⟩ => R.length - i) (0, A3) ?_ ?_
              · exact ⟨(Has.cons ha (by kernel_rfl) (by kernel_rfl) (Has.cons ha (by kernel_rfl) (by kernel_rfl) (Has.cons ha (by kernel_rfl) (by kernel_rfl) (Has.nil ha)))), s, Nat.zero_le _⟩
              · clear ha s; rintro ⟨i, Ar⟩ a w ⟨ha, s, hp⟩
                refine wp_seq ?_
                refine wp_seq ?_
                refine wp_region_lit ?_
                refine st_val (.int .i64 ((i : Nat) : Int)) ha (by kernel_rfl) (by kernel_rfl) ?_
                clear ha; intro a ha
                refine st_val (.slice Ar R.length c4) ha (by kernel_rfl) (by kernel_rfl) ?_
                clear ha; intro a ha
                refine st_val (.int .i64 ((R.length : Nat) : Int)) ha (by kernel_rfl) (by kernel_rfl) ?_
                clear ha; intro a ha
                refine st_val (.bool (decide (((i : Nat) : Int) < ((R.length : Nat) : Int)))) ha (by kernel_rfl) (by kernel_rfl) ?_
                clear ha; intro a ha
                refine wpList_nil ?_
                refine then_normal ?_
                refine wp_part (decide (((i : Nat) : Int) < ((R.length : Nat) : Int))) ha rfl (by kernel_rfl) (fun hb => ?_) (fun hb => ?_)
                · rw [hb] at ha; replace hb : (((i : Nat) : Int) < ((R.length : Nat) : Int)) := of_decide_eq_true hb
                  obtain ⟨x, hx⟩ : ∃ x, R[i]? = some x := ⟨_, List.getElem?_eq_getElem (by omega)⟩
                  have hxb := way_small arcs_small ((hR.mem x).1 (List.mem_of_getElem? hx))
                  obtain ⟨adr, hA_adr⟩ := Own.addr (s.at_ (j := 0) rfl) (by omega)
                  subst hA_adr
                  refine wp_skip ?_
                  refine then_normal ?_
                  refine wp_seq ?_
                  refine wp_block ?_
                  refine wp_seq ?_
                  refine wp_region_head 25 (fun w => Reads w 1 (some adr) R.length (ints R) ∧ True) (by kernel_rfl) (by decide) ?_
                  replace s := s.drew; generalize _root_.Go.World.drew _ = w at s ⊢
                  have hS : (fun w => Reads w 1 (some adr) R.length (ints R) ∧ True) w := ⟨(Knows.own (j := 0) rfl) _ s.sat, trivial⟩
                  refine hd_val (i := 0) (.slice (some adr) R.length c4) ha rfl (by kernel_rfl) (fun _ _ _ h => h) (by kernel_rfl) (fun w hS => (by kernel_rfl)) hS ?_
                  clear ha; intro a ha
                  refine hd_val (i := 1) (.int .i64 ((i : Nat) : Int)) ha rfl (by kernel_rfl) (fun _ _ _ h => h) (by kernel_rfl) (fun w hS => (by kernel_rfl)) hS ?_
                  clear ha; intro a ha
                  refine hd_val (i := 2) (.pointer (some (adr.add (i * 1)))) ha rfl (by kernel_rfl) (fun _ _ _ h => h) (by kernel_rfl) (fun w hS => (run_indexAddr' (kd := .i64) (i := ((i : Nat) : Int)) (n := R.length) (c := c4) i rfl Try.underlying25 Try.sizeOf3 (by kernel_rfl) (by kernel_rfl) rfl (by first | assumption | omega) _)) hS ?_
                  clear ha; intro a ha
                  refine hd_val (i := 3) (.int .i64 x) ha rfl (by kernel_rfl) (fun _ _ _ h => h) (by kernel_rfl) (fun w hS => run_loadAt1 (i := i * 1) hS.1 rfl (by kernel_rfl) Try.isAgg3 (by rw [Nat.mul_one]; exact ints_at hx)) hS ?_
                  clear ha; intro a ha
                  refine hd_val (i := 4) (.bool false) ha rfl (by kernel_rfl) (fun _ _ _ h => h) (by kernel_rfl) (fun w hS => (run_known (show (decide (x < (1 : Int))) = false from decide_eq_false (by omega)) (by kernel_rfl))) hS ?_
                  clear ha; intro a ha
                  refine hd_val (i := 5) (.bool false) ha rfl (by kernel_rfl) (fun _ _ _ h => h) (by kernel_rfl) (fun w hS => (by kernel_rfl)) hS ?_
                  clear ha; intro a ha
                  refine hd_val (i := 6) (.slice (some adr) R.length c4) ha rfl (by kernel_rfl) (fun _ _ _ h => h) (by kernel_rfl) (fun w hS => (by kernel_rfl)) hS ?_
                  clear ha; intro a ha
                  refine hd_val (i := 7) (.int .i64 ((i : Nat) : Int)) ha rfl (by kernel_rfl) (fun _ _ _ h => h) (by kernel_rfl) (fun w hS => (by kernel_rfl)) hS ?_
                  clear ha; intro a ha
                  refine hd_val (i := 8) (.pointer (some (adr.add (i * 1)))) ha rfl (by kernel_rfl) (fun _ _ _ h => h) (by kernel_rfl) (fun w hS => (run_indexAddr' (kd := .i64) (i := ((i : Nat) : Int)) (n := R.length) (c := c4) i rfl Try.underlying25 Try.sizeOf3 (by kernel_rfl) (by kernel_rfl) rfl (by first | assumption | omega) _)) hS ?_
                  clear ha; intro a ha
                  refine hd_val (i := 9) (.int .i64 x) ha rfl (by kernel_rfl) (fun _ _ _ h => h) (by kernel_rfl) (fun w hS => run_loadAt1 (i := i * 1) hS.1 rfl (by kernel_rfl) Try.isAgg3 (by rw [Nat.mul_one]; exact ints_at hx)) hS ?_
                  clear ha; intro a ha
                  refine hd_val (i := 10) (.bool false) ha rfl (by kernel_rfl) (fun _ _ _ h => h) (by kernel_rfl) (fun w hS => (run_known (show (decide (x > (8 : Int))) = false from decide_eq_false (by omega)) (by kernel_rfl))) hS ?_
                  clear ha; intro a ha
                  refine hd_val (i := 11) (.bool false) ha rfl (by kernel_rfl) (fun _ _ _ h => h) (by kernel_rfl) (fun w hS => (by kernel_rfl)) hS ?_
                  clear ha; intro a ha
                  refine hd_val (i := 12) (.bool false) ha rfl (by kernel_rfl) (fun _ _ _ h => h) (by kernel_rfl) (fun w hS => (by kernel_rfl)) hS ?_
                  clear ha; intro a ha
                  refine hd_val (i := 13) (.int .i64 ((i : Nat) : Int)) ha rfl (by kernel_rfl) (fun _ _ _ h => h) (by kernel_rfl) (fun w hS => (by kernel_rfl)) hS ?_
                  clear ha; intro a ha
                  refine hd_val (i := 14) (.bool (decide (((i : Nat) : Int) > (0 : Int)))) ha rfl (by kernel_rfl) (fun _ _ _ h => h) (by kernel_rfl) (fun w hS => (by kernel_rfl)) hS ?_
                  clear ha; intro a ha
                  refine hd_val (i := 15) (.bool (decide (((i : Nat) : Int) > (0 : Int)))) ha rfl (by kernel_rfl) (fun _ _ _ h => h) (by kernel_rfl) (fun w hS => (by kernel_rfl)) hS ?_
                  clear ha; intro a ha
                  rcases Bool.eq_false_or_eq_true (decide (((i : Nat) : Int) > (0 : Int))) with hb | hb
                  · rw [hb] at ha; replace hb : (((i : Nat) : Int) > (0 : Int)) := of_decide_eq_true hb
                    obtain ⟨y, hy⟩ : ∃ y, R[i - 1]? = some y := ⟨_, List.getElem?_eq_getElem (by omega)⟩
                    have hyx : y < x := by
                      obtain ⟨h1, rfl⟩ := List.getElem?_eq_some_iff.1 hx
                      obtain ⟨h2, rfl⟩ := List.getElem?_eq_some_iff.1 hy
                      exact List.pairwise_iff_getElem.1 hR.rise (i - 1) i h2 h1 (by omega)
                    refine hd_val (i := 16) (.slice (some adr) R.length c4) ha rfl (by kernel_rfl) (fun _ _ _ h => h) (by kernel_rfl) (fun w hS => (by kernel_rfl)) hS ?_
                    clear ha; intro a ha
                    refine hd_val (i := 17) (.int .i64 ((i : Nat) : Int)) ha rfl (by kernel_rfl) (fun _ _ _ h => h) (by kernel_rfl) (fun w hS => (by kernel_rfl)) hS ?_
                    clear ha; intro a ha
                    refine hd_val (i := 18) (.pointer (some (adr.add (i * 1)))) ha rfl (by kernel_rfl) (fun _ _ _ h => h) (by kernel_rfl) (fun w hS => (run_indexAddr' (kd := .i64) (i := ((i : Nat) : Int)) (n := R.length) (c := c4) i rfl Try.underlying25 Try.sizeOf3 (by kernel_rfl) (by kernel_rfl) rfl (by first | assumption | omega) _)) hS ?_
                    clear ha; intro a ha
                    refine hd_val (i := 19) (.int .i64 x) ha rfl (by kernel_rfl) (fun _ _ _ h => h) (by kernel_rfl) (fun w hS => run_loadAt1 (i := i * 1) hS.1 rfl (by kernel_rfl) Try.isAgg3 (by rw [Nat.mul_one]; exact ints_at hx)) hS ?_
                    clear ha; intro a ha
                    refine hd_val (i := 20) (.slice (some adr) R.length c4) ha rfl (by kernel_rfl) (fun _ _ _ h => h) (by kernel_rfl) (fun w hS => (by kernel_rfl)) hS ?_
                    clear ha; intro a ha
                    refine hd_val (i := 21) (.int .i64 ((i : Nat) : Int)) ha rfl (by kernel_rfl) (fun _ _ _ h => h) (by kernel_rfl) (fun w hS => (by kernel_rfl)) hS ?_
                    clear ha; intro a ha
                    refine hd_val (i := 22) (.int .i64 ((i - 1 : Nat) : Int)) ha rfl (by kernel_rfl) (fun _ _ _ h => h) (by kernel_rfl) (fun w hS => (run_arith (((i : Nat) : Int) - (1 : Int)) ((i - 1 : Nat) : Int) rfl (by kernel_rfl) (by kernel_rfl) (.inr (.inl ⟨rfl, rfl⟩)) (by rw [wrap64_in (by omega)]; try omega) _)) hS ?_
                    clear ha; intro a ha
                    refine hd_val (i := 23) (.pointer (some (adr.add ((i - 1) * 1)))) ha rfl (by kernel_rfl) (fun _ _ _ h => h) (by kernel_rfl) (fun w hS => (run_indexAddr' (kd := .i64) (i := ((i - 1 : Nat) : Int)) (n := R.length) (c := c4) (i - 1) rfl Try.underlying25 Try.sizeOf3 (by kernel_rfl) (by kernel_rfl) rfl (by first | assumption | omega) _)) hS ?_
                    clear ha; intro a ha
                    refine hd_val (i := 24) (.int .i64 y) ha rfl (by kernel_rfl) (fun _ _ _ h => h) (by kernel_rfl) (fun w hS => run_loadAt1 (i := (i - 1) * 1) hS.1 rfl (by kernel_rfl) Try.isAgg3 (by rw [Nat.mul_one]; exact ints_at hy)) hS ?_
                    clear ha; intro a ha
                    refine Head.done (by kernel_rfl) ?_
                    clear hS; simp only [List.drop_succ_cons, List.drop_zero]
                    refine st_val (.bool false) ha (by kernel_rfl) (run_known (show (decide (x ≤ y)) = false from decide_eq_false (by omega)) (by kernel_rfl)) ?_
                    clear ha; intro a ha
                    refine st_val (.bool false) ha (by kernel_rfl) (by kernel_rfl) ?_
                    clear ha; intro a ha
                    refine st_val (.bool false) ha (by kernel_rfl) (by kernel_rfl) ?_
                    clear ha; intro a ha
                    refine wpList_nil ?_
                    refine then_normal ?_
                    refine wp_false ha rfl (by kernel_rfl) ?_
                    refine wp_skip ?_
                    refine block_normal ?_
                    refine then_normal ?_
                    refine wp_region_lit ?_
                    refine st_val (.int .i64 ((i : Nat) : Int)) ha (by kernel_rfl) (by kernel_rfl) ?_
                    clear ha; intro a ha
                    refine st_val (.int .i64 ((i + 1 : Nat) : Int)) ha (by kernel_rfl) (run_arith (((i : Nat) : Int) + (1 : Int)) ((i + 1 : Nat) : Int) rfl (by kernel_rfl) (by kernel_rfl) (.inl ⟨rfl, rfl⟩) (by rw [wrap64_in (by omega)]; try omega) _) ?_
                    clear ha; intro a ha
                    refine st_val (.int .i64 ((i + 1 : Nat) : Int)) ha (by kernel_rfl) (by kernel_rfl) ?_
                    clear ha; intro a ha
                    refine wpList_nil ?_
                    refine then_normal ?_
                    exact ⟨(i + 1, (some adr)), (show R.length - (i + 1) < R.length - i by omega), (Has.cons ha (by kernel_rfl) (by kernel_rfl) (Has.cons ha (by kernel_rfl) (by kernel_rfl) (Has.cons ha (by kernel_rfl) (by kernel_rfl) (Has.nil ha)))), s, (show i + 1 ≤ R.length by omega)⟩
                  · rw [hb] at ha; replace hb : ¬ (((i : Nat) : Int) > (0 : Int)) := of_decide_eq_false hb
                    refine hd_pass (i := 16) ha rfl (by kernel_rfl) (fun _ _ _ h => h) (by kernel_rfl) hS ?_
                    clear ha; intro a ha
                    refine hd_pass (i := 17) ha rfl (by kernel_rfl) (fun _ _ _ h => h) (by kernel_rfl) hS ?_
                    clear ha; intro a ha
                    refine hd_pass (i := 18) ha rfl (by kernel_rfl) (fun _ _ _ h => h) (by kernel_rfl) hS ?_
                    clear ha; intro a ha
                    refine hd_pass (i := 19) ha rfl (by kernel_rfl) (fun _ _ _ h => h) (by kernel_rfl) hS ?_
                    clear ha; intro a ha
                    refine hd_pass (i := 20) ha rfl (by kernel_rfl) (fun _ _ _ h => h) (by kernel_rfl) hS ?_
                    clear ha; intro a ha
                    refine hd_pass (i := 21) ha rfl (by kernel_rfl) (fun _ _ _ h => h) (by kernel_rfl) hS ?_
                    clear ha; intro a ha
                    refine hd_pass (i := 22) ha rfl (by kernel_rfl) (fun _ _ _ h => h) (by kernel_rfl) hS ?_
                    clear ha; intro a ha
                    refine hd_pass (i := 23) ha rfl (by kernel_rfl) (fun _ _ _ h => h) (by kernel_rfl) hS ?_
                    clear ha; intro a ha
                    refine hd_pass (i := 24) ha rfl (by kernel_rfl) (fun _ _ _ h => h) (by kernel_rfl) hS ?_
                    clear ha; intro a ha
                    refine Head.done (by kernel_rfl) ?_
                    clear hS; simp only [List.drop_succ_cons, List.drop_zero]
                    refine st_pass ha (by kernel_rfl) ?_
                    clear ha; intro a ha
                    refine st_val (.bool false) ha (by kernel_rfl) (by kernel_rfl) ?_
                    clear ha; intro a ha
                    refine st_val (.bool false) ha (by kernel_rfl) (by kernel_rfl) ?_
                    clear ha; intro a ha
                    refine wpList_nil ?_
                    refine then_normal ?_
                    refine wp_false ha rfl (by kernel_rfl) ?_
                    refine wp_skip ?_
                    refine block_normal ?_
                    refine then_normal ?_
                    refine wp_region_lit ?_
                    refine st_val (.int .i64 ((i : Nat) : Int)) ha (by kernel_rfl) (by kernel_rfl) ?_
                    clear ha; intro a ha
                    refine st_val (.int .i64 ((i + 1 : Nat) : Int)) ha (by kernel_rfl) (run_arith (((i : Nat) : Int) + (1 : Int)) ((i + 1 : Nat) : Int) rfl (by kernel_rfl) (by kernel_rfl) (.inl ⟨rfl, rfl⟩) (by rw [wrap64_in (by omega)]; try omega) _) ?_
                    clear ha; intro a ha
                    refine st_val (.int .i64 ((i + 1 : Nat) : Int)) ha (by kernel_rfl) (by kernel_rfl) ?_
                    clear ha; intro a ha
                    refine wpList_nil ?_
                    refine then_normal ?_
                    exact ⟨(i + 1, (some adr)), (show R.length - (i + 1) < R.length - i by omega), (Has.cons ha (by kernel_rfl) (by kernel_rfl) (Has.cons ha (by kernel_rfl) (by kernel_rfl) (Has.cons ha (by kernel_rfl) (by kernel_rfl) (Has.nil ha)))), s, (show i + 1 ≤ R.length by omega)⟩
                · rw [hb] at ha; replace hb : ¬ (((i : Nat) : Int) < ((R.length : Nat) : Int)) := of_decide_eq_false hb
                  refine wp_exit ?_
                  refine then_exit ?_
                  refine then_exit ?_
                  refine block_hit ?_
                  refine then_normal ?_
                  refine wp_seq ?_
                  refine wp_region_lit ?_
                  refine st_val (.int .i64 0) ha (by kernel_rfl) (by kernel_rfl) ?_
                  clear ha; intro a ha
                  refine st_val (.bool true) ha (by kernel_rfl) (by kernel_rfl) ?_
                  clear ha; intro a ha
                  refine st_val (.bool true) ha (by kernel_rfl) (by kernel_rfl) ?_
                  clear ha; intro a ha
                  refine wpList_nil ?_
                  refine then_normal ?_
                  refine wp_ret ?_
                  refine ret_with (v := .bool true) ha (results_1 rfl ha (res_tmp (by kernel_rfl) (by kernel_rfl))) ?_
                  replace s := s.tail
                  replace s : St W (L) w := s
                  exact ⟨rfl, s⟩

end Go.Proofs.Ytjdkpebnaohonaa.B
