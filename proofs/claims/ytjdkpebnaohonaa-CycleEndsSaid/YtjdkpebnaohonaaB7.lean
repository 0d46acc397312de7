import Derived.Test.YtjdkpebnaohonaaB6
namespace Go.Proofs.Ytjdkpebnaohonaa.B
open Go.RowKit Go.Maps Go.Proofs.Ytjdkpebnaohonaa.Sep Go.Proofs.Ytjdkpebnaohonaa.P
set_option linter.unusedVariables false
set_option linter.unusedSimpArgs false
theorem edges30 (W : World) (L : List Chunk) (w : World) (A : Option Addr) (n ca : Nat) (l : List Int) (hra : Knows L fun w => Reads w 1 A n (ints l)) (hl : l.length = n) (hn : n ≤ 140737488351232) (s : St W L w) :
    Calls Try.prog 15 #[.slice A (min n 30) ca] w fun e w' => ∃ A' c', e = .returned (.slice A' (arcs (l.take 30)).length c') ∧ St W (Own 37 2 A' (arcs (l.take 30)).length c' (egs (arcs (l.take 30))) :: L) w' := by
  refine edges_any W L w A (min n 30) ca (l.take 30) (fun w s => ?_) (by simp; omega) (by omega) s
  have := Reads.take (hra w s) (show min n 30 ≤ n by omega)
  have e : List.take (min n 30 * 1) (ints l) = ints (l.take 30) := by
    rw [Nat.mul_one, ints, ← List.map_take]
    congr 1
    rw [← hl, List.take_eq_take_iff]
    omega
  rwa [e] at this
def turnA (l : List Arc) (r : Nat) : List Arc := (l.drop r).reverse.flatMap fun s => [s, s]
theorem turnA_step {l : List Arc} {r : Nat} {x : Arc} (h : l[r]? = some x) : turnA l r = turnA l (r + 1) ++ [x, x] := by
  obtain ⟨hr, rfl⟩ := List.getElem?_eq_some_iff.1 h
  unfold turnA
  rw [List.drop_eq_getElem_cons hr, List.reverse_cons, List.flatMap_append]
  rfl
theorem turnA_len (l : List Arc) (r : Nat) : (turnA l r).length = 2 * (l.length - r) := by
  unfold turnA
  have : ∀ m : List Arc, (m.flatMap fun s => [s, s]).length = 2 * m.length := fun m => by
    induction m with
    | nil => rfl
    | cons a m ih => rw [List.flatMap_cons, List.length_append, ih]; simp; omega
  rw [this, List.length_reverse, List.length_drop]
theorem turnA_mem {l : List Arc} {s : Arc} : s ∈ turnA l 0 ↔ s ∈ l := by
  unfold turnA
  simp [List.mem_flatMap]
theorem RingsOf.congr {E F : List Arc} {R : List Int} (h : RingsOf E R) (e : ∀ x, x ∈ E ↔ x ∈ F) : RingsOf F R :=
  ⟨h.rise, fun a => by rw [h.mem]; exact ⟨fun w => w.mono fun x hx => (e x).1 hx, fun w => w.mono fun x hx => (e x).2 hx⟩⟩
theorem ring_next {E : List Arc} {R : List Int} (h : RingsOf E R) {x : Int} (hx : x ∈ R) : ∃ e ∈ E, e.1 = x ∧ e.2 ∈ R := by
  have hw := (h.mem x).1 hx
  cases hw with
  | one e => exact ⟨_, e, rfl, hx⟩
  | step e k => exact ⟨_, e, rfl, (h.mem _).2 (k.trans (.one e))⟩
def nextB (E : List Arc) (R : List Int) (x : Int) : Bool := E.any fun e => decide (e.1 = x) && decide (e.2 ∈ R)
theorem nextB_true {E : List Arc} {R : List Int} (h : RingsOf E R) {x : Int} (hx : x ∈ R) : nextB E R x = true := by
  obtain ⟨e, he, h1, h2⟩ := ring_next h hx
  exact List.any_eq_true.2 ⟨e, he, by simp [h1, h2]⟩
theorem nextB_step {E : List Arc} {k : Nat} {v : Arc} (h : E[k]? = some v) (R : List Int) (x : Int) : nextB (E.take (k + 1)) R x = (nextB (E.take k) R x || (decide (v.1 = x) && decide (v.2 ∈ R))) := by
  obtain ⟨hk, rfl⟩ := List.getElem?_eq_some_iff.1 h
  unfold nextB
  rw [List.take_succ_eq_append_getElem hk, List.any_append]
  simp

set_option maxRecDepth 100000 in
set_option maxHeartbeats 4000000 in
theorem more_any (W : World) (hW : W.drawn = 0) (L : List Chunk) (w : World) (A B : Option Addr) (n q ca cb : Nat) (l m : List Int) (hra : Knows L fun w => Reads w 1 A n (ints l)) (hl : l.length = n) (hn : n ≤ 140737488351232) (hnc : n ≤ ca) (hrb : Knows L fun w => Reads w 1 B q (ints m)) (hm : m.length = q) (hq : q ≤ 140737488351232) (hqc : q ≤ cb) (s : St W L w) :
    Calls Try.prog 7 #[.slice A n ca, .slice B q cb] w fun e w' => e = .returned (.bool true) ∧ St W L w' := by
  have hE60 : (arcs (l.take 30)).length ≤ 30 := by rw [arcs_len]; simp; omega
  have hF60 : (arcs (m.take 30)).length ≤ 30 := by rw [arcs_len]; simp; omega
  refine enter_args (l := [.slice A n ca, .slice B q cb]) Try.func7 rfl rfl (Nat.le_of_ble_eq_true rfl) ?_
  intro a ha; replace ha : Has a 126 [(0, .slice A n ca), (1, .slice B q cb)] := ha
  refine wp_seq ?_
  refine wp_region_lit ?_
  refine st_val (.bool false) ha (by kernel_rfl) (by kernel_rfl) ?_
  clear ha; intro a ha
  refine wpList_nil ?_
  refine then_normal ?_
  refine wp_seq ?_
  refine wp_seq ?_
  refine wp_region_lit ?_
  refine st_call ha (by kernel_rfl) (by kernel_rfl) (works_true W hW _ w s) ?_
  rintro _ w ⟨rfl, s⟩
  replace s : St W (L) w := s
  refine ⟨_, rfl, ?_⟩; clear ha; intro a ha
  refine st_val (.bool false) ha (by kernel_rfl) (by kernel_rfl) ?_
  clear ha; intro a ha
  refine wpList_nil ?_
  refine then_normal ?_
  refine wp_false ha rfl (by kernel_rfl) ?_
  refine wp_skip ?_
  refine then_normal ?_
  refine wp_seq ?_
  refine wp_region_lit ?_
  refine st_val (.slice A n ca) ha (by kernel_rfl) (by kernel_rfl) ?_
  clear ha; intro a ha
  refine st_val (.slice A n ca) ha (by kernel_rfl) (by kernel_rfl) ?_
  clear ha; intro a ha
  refine st_val (.int .i64 ((n : Nat) : Int)) ha (by kernel_rfl) (by kernel_rfl) ?_
  clear ha; intro a ha
  refine st_val (.int .i64 ((min n 30 : Nat) : Int)) ha (by kernel_rfl) (run_min2 (p := ((n : Nat) : Int)) (q := (30 : Int)) ((min n 30 : Nat) : Int) rfl (by kernel_rfl) (by kernel_rfl) (by split <;> omega) _) ?_
  clear ha; intro a ha
  refine st_val (.slice A (min n 30) ca) ha (by kernel_rfl) (run_slice0 (n := n) (c := ca) (min n 30) ca rfl Try.underlying25 Try.sizeOf3 (by kernel_rfl) (fun _ => rfl) bnd_none (bnd_some .i64 (by kernel_rfl)) bnd_none (by omega) (by omega) _) ?_
  clear ha; intro a ha
  refine st_call ha (by kernel_rfl) (by kernel_rfl) (edges30 W _ w A n ca l (fun w s => hra w (Sat.drops (A := []) s)) hl hn s) ?_
  rintro _ w ⟨A1, c2, rfl, s⟩
  replace s : St W (Own 37 2 A1 ((arcs (l.take 30)).length) c2 (egs (arcs (l.take 30))) :: L) w := s
  refine ⟨_, rfl, ?_⟩; clear ha; intro a ha
  refine st_val (.slice A1 ((arcs (l.take 30)).length) c2) ha (by kernel_rfl) (by kernel_rfl) ?_
  clear ha; intro a ha
  refine wpList_nil ?_
  refine then_normal ?_
  refine wp_seq ?_
  refine wp_region_lit ?_
  refine st_val (.slice A1 ((arcs (l.take 30)).length) c2) ha (by kernel_rfl) (by kernel_rfl) ?_
  clear ha; intro a ha
  refine st_call ha (by kernel_rfl) (by kernel_rfl) (rings_good W hW _ w A1 ((arcs (l.take 30)).length) c2 (arcs (l.take 30)) (by omega) arcs_ok (Knows.own (j := 0) rfl) rfl s) ?_
  rintro _ w ⟨A3, c4, R, rfl, hR, hlR, s⟩
  replace s : St W (Own 3 1 A3 R.length c4 (ints R) :: Own 37 2 A1 ((arcs (l.take 30)).length) c2 (egs (arcs (l.take 30))) :: L) w := s
  refine ⟨_, rfl, ?_⟩; clear ha; intro a ha
  refine st_val (.tuple #[.slice A3 R.length c4, .int .i64 0]) ha (by kernel_rfl) (by kernel_rfl) ?_
  clear ha; intro a ha
  refine st_val (.slice A3 R.length c4) ha (by kernel_rfl) (by kernel_rfl) ?_
  clear ha; intro a ha
  refine st_val (.int .i64 0) ha (by kernel_rfl) (by kernel_rfl) ?_
  clear ha; intro a ha
  refine st_val (.slice A3 R.length c4) ha (by kernel_rfl) (by kernel_rfl) ?_
  clear ha; intro a ha
  refine st_val (.int .i64 0) ha (by kernel_rfl) (by kernel_rfl) ?_
  clear ha; intro a ha
  refine wpList_nil ?_
  refine then_normal ?_
  refine wp_seq ?_
  refine wp_region_lit ?_
  refine st_val (.slice B q cb) ha (by kernel_rfl) (by kernel_rfl) ?_
  clear ha; intro a ha
  refine st_val (.slice B q cb) ha (by kernel_rfl) (by kernel_rfl) ?_
  clear ha; intro a ha
  refine st_val (.int .i64 ((q : Nat) : Int)) ha (by kernel_rfl) (by kernel_rfl) ?_
  clear ha; intro a ha
  refine st_val (.int .i64 ((min q 30 : Nat) : Int)) ha (by kernel_rfl) (run_min2 (p := ((q : Nat) : Int)) (q := (30 : Int)) ((min q 30 : Nat) : Int) rfl (by kernel_rfl) (by kernel_rfl) (by split <;> omega) _) ?_
  clear ha; intro a ha
  refine st_val (.slice B (min q 30) cb) ha (by kernel_rfl) (run_slice0 (n := q) (c := cb) (min q 30) cb rfl Try.underlying25 Try.sizeOf3 (by kernel_rfl) (fun _ => rfl) bnd_none (bnd_some .i64 (by kernel_rfl)) bnd_none (by omega) (by omega) _) ?_
  clear ha; intro a ha
  refine st_call ha (by kernel_rfl) (by kernel_rfl) (edges30 W _ w B q cb m (fun w s => hrb w (Sat.drops (A := [Own 3 1 A3 R.length c4 (ints R), Own 37 2 A1 ((arcs (l.take 30)).length) c2 (egs (arcs (l.take 30)))]) s)) hm hq s) ?_
  rintro _ w ⟨A5, c6, rfl, s⟩
  replace s : St W (Own 37 2 A5 ((arcs (m.take 30)).length) c6 (egs (arcs (m.take 30))) :: Own 3 1 A3 R.length c4 (ints R) :: Own 37 2 A1 ((arcs (l.take 30)).length) c2 (egs (arcs (l.take 30))) :: L) w := s
  refine ⟨_, rfl, ?_⟩; clear ha; intro a ha
  refine st_val (.slice A1 ((arcs (l.take 30)).length) c2) ha (by kernel_rfl) (by kernel_rfl) ?_
  clear ha; intro a ha
  refine st_ex ha (by kernel_rfl) (ex_append (m := ((arcs (l.take 30)).length)) (d' := c2) elt22 (by decide) 0 (egs (arcs (l.take 30))) s rfl (by kernel_rfl) (by kernel_rfl) rfl ((Knows.own (j := 2) rfl) _ s.sat) (egs_one _) (by simp only [maxLen]; omega) (by omega)) ?_
  clear ha; rintro _ w a ⟨A7, c8, rfl, hA_, s⟩ ha
  replace s : St W (Own 37 2 A7 ((arcs (m.take 30)).length + (arcs (l.take 30)).length) c8 ((egs (arcs (m.take 30))) ++ (egs (arcs (l.take 30)))) :: Own 3 1 A3 R.length c4 (ints R) :: Own 37 2 A1 ((arcs (l.take 30)).length) c2 (egs (arcs (l.take 30))) :: L) w := s
  replace s : St W (Own 37 2 A7 ((arcs (m.take 30)).length + (arcs (l.take 30)).length) c8 (egs (arcs (m.take 30) ++ arcs (l.take 30))) :: Own 3 1 A3 R.length c4 (ints R) :: Own 37 2 A1 ((arcs (l.take 30)).length) c2 (egs (arcs (l.take 30))) :: L) w := by rw [egs_append]; exact s
  replace s : St W (Own 37 2 A7 ((arcs (m.take 30)).length + (arcs (l.take 30)).length) c8 (egs (arcs (m.take 30) ++ arcs (l.take 30))) :: Own 3 1 A3 R.length c4 (ints R) :: Own 37 2 A1 ((arcs (l.take 30)).length) c2 (egs (arcs (l.take 30))) :: L) w := s
  refine st_call ha (by kernel_rfl) (by kernel_rfl) (rings_good W hW _ w A7 ((arcs (m.take 30)).length + (arcs (l.take 30)).length) c8 (arcs (m.take 30) ++ arcs (l.take 30)) (by rw [List.length_append]; omega) (fun x hx => (List.mem_append.1 hx).elim (arcs_ok x) (arcs_ok x)) (Knows.own (j := 0) rfl) (by rw [List.length_append]) s) ?_
  rintro _ w ⟨A9, c10, Q, rfl, hQ, hlQ, s⟩
  replace s : St W (Own 3 1 A9 Q.length c10 (ints Q) :: Own 37 2 A7 ((arcs (m.take 30)).length + (arcs (l.take 30)).length) c8 (egs (arcs (m.take 30) ++ arcs (l.take 30))) :: Own 3 1 A3 R.length c4 (ints R) :: Own 37 2 A1 ((arcs (l.take 30)).length) c2 (egs (arcs (l.take 30))) :: L) w := s
  refine ⟨_, rfl, ?_⟩; clear ha; intro a ha
  refine st_val (.tuple #[.slice A9 Q.length c10, .int .i64 0]) ha (by kernel_rfl) (by kernel_rfl) ?_
  clear ha; intro a ha
  refine st_val (.slice A9 Q.length c10) ha (by kernel_rfl) (by kernel_rfl) ?_
  clear ha; intro a ha
  refine st_val (.int .i64 0) ha (by kernel_rfl) (by kernel_rfl) ?_
  clear ha; intro a ha
  refine st_val (.slice A9 Q.length c10) ha (by kernel_rfl) (by kernel_rfl) ?_
  clear ha; intro a ha
  refine st_val (.int .i64 0) ha (by kernel_rfl) (by kernel_rfl) ?_
  clear ha; intro a ha
  refine wpList_nil ?_
  refine then_normal ?_
  refine wp_seq ?_
  refine wp_region_lit ?_
  refine st_val (.slice none 0 0) ha (by kernel_rfl) (by kernel_rfl) ?_
  clear ha; intro a ha
  refine wpList_nil ?_
  refine then_normal ?_
  refine wp_seq ?_
  refine wp_seq ?_
  refine wp_region_lit ?_
  refine st_val (.slice A1 ((arcs (l.take 30)).length) c2) ha (by kernel_rfl) (by kernel_rfl) ?_
  clear ha; intro a ha
  refine st_val (.int .i64 (((arcs (l.take 30)).length : Nat) : Int)) ha (by kernel_rfl) (by kernel_rfl) ?_
  clear ha; intro a ha
  refine st_val (.int .i64 ((((arcs (l.take 30)).length : Nat) : Int) - (1 : Int))) ha (by kernel_rfl) (run_arith ((((arcs (l.take 30)).length : Nat) : Int) - (1 : Int)) ((((arcs (l.take 30)).length : Nat) : Int) - (1 : Int)) rfl (by kernel_rfl) (by kernel_rfl) (.inr (.inl ⟨rfl, rfl⟩)) (by rw [wrap64_in (by omega)]) _) ?_
  clear ha; intro a ha
  refine st_val (.int .i64 ((((arcs (l.take 30)).length : Nat) : Int) - (1 : Int))) ha (by kernel_rfl) (by kernel_rfl) ?_
  clear ha; intro a ha
  refine wpList_nil ?_
  refine then_normal ?_
  refine wp_block ?_
  replace s := Own.none_ (e := 37) (k := 2) none s
  replace s := s.at_ (j := 1) rfl
  replace s : St W (Own 3 1 A9 Q.length c10 (ints Q) :: Own 37 2 none 0 0 [] :: Own 37 2 A7 ((arcs (m.take 30)).length + (arcs (l.take 30)).length) c8 (egs (arcs (m.take 30) ++ arcs (l.take 30))) :: Own 3 1 A3 R.length c4 (ints R) :: Own 37 2 A1 ((arcs (l.take 30)).length) c2 (egs (arcs (l.take 30))) :: L) w := s
  replace s := s.at_ (j := 3) rfl
  replace s : St W (Own 3 1 A3 R.length c4 (ints R) :: Own 3 1 A9 Q.length c10 (ints Q) :: Own 37 2 none 0 0 [] :: Own 37 2 A7 ((arcs (m.take 30)).length + (arcs (l.take 30)).length) c8 (egs (arcs (m.take 30) ++ arcs (l.take 30))) :: Own 37 2 A1 ((arcs (l.take 30)).length) c2 (egs (arcs (l.take 30))) :: L) w := s
  replace s := s.at_ (j := 4) rfl
  replace s : St W (Own 37 2 A1 ((arcs (l.take 30)).length) c2 (egs (arcs (l.take 30))) :: Own 3 1 A3 R.length c4 (ints R) :: Own 3 1 A9 Q.length c10 (ints Q) :: Own 37 2 none 0 0 [] :: Own 37 2 A7 ((arcs (m.take 30)).length + (arcs (l.take 30)).length) c8 (egs (arcs (m.take 30) ++ arcs (l.take 30))) :: L) w := s
  replace s := s.at_ (j := 3) rfl
  replace s : St W (Own 37 2 none 0 0 [] :: Own 37 2 A1 ((arcs (l.take 30)).length) c2 (egs (arcs (l.take 30))) :: Own 3 1 A3 R.length c4 (ints R) :: Own 3 1 A9 Q.length c10 (ints Q) :: Own 37 2 A7 ((arcs (m.take 30)).length + (arcs (l.take 30)).length) c8 (egs (arcs (m.take 30) ++ arcs (l.take 30))) :: L) w := s
  replace s : St W (Own 37 2 none 0 0 [] :: Own 37 2 A1 ((arcs (l.take 30)).length) c2 (egs (arcs (l.take 30))) :: Own 3 1 A3 R.length c4 (ints R) :: Own 3 1 A9 Q.length c10 (ints Q) :: L) w := St.mid (A := [Own 37 2 none 0 0 [], Own 37 2 A1 ((arcs (l.take 30)).length) c2 (egs (arcs (l.take 30))), Own 3 1 A3 R.length c4 (ints R), Own 3 1 A9 Q.length c10 (ints Q)]) (B := [Own 37 2 A7 ((arcs (m.take 30)).length + (arcs (l.take 30)).length) c8 (egs (arcs (m.take 30) ++ arcs (l.take 30)))]) s
  replace s : St W (Own 37 2 none 0 0 (egs (turnA (arcs (l.take 30)) (arcs (l.take 30)).length)) :: Own 37 2 A1 ((arcs (l.take 30)).length) c2 (egs (arcs (l.take 30))) :: Own 3 1 A3 R.length c4 (ints R) :: Own 3 1 A9 Q.length c10 (ints Q) :: L) w := by rw [show turnA (arcs (l.take 30)) (arcs (l.take 30)).length = [] from by unfold turnA; rw [List.drop_of_length_le (by omega)]; rfl]; exact s
  refine wp_loopG (G := (Nat × Nat × Option Addr × Nat × Option Addr)) (fun ⟨r, m7, At, ct, Ae⟩ a w => Has a 126 [(6, .slice A3 R.length c4), (7, .int .i64 0), (8, .slice A9 Q.length c10), (9, .int .i64 0), (5, .slice Ae ((arcs (l.take 30)).length) c2), (10, .slice At m7 ct), (11, .int .i64 (((r : Nat) : Int) - 1))] ∧ St W (Own 37 2 At m7 ct (egs (turnA (arcs (l.take 30)) r)) :: Own 37 2 Ae ((arcs (l.take 30)).length) c2 (egs (arcs (l.take 30))) :: Own 3 1 A3 R.length c4 (ints R) :: Own 3 1 A9 Q.length c10 (ints Q) :: L) w ∧ (r ≤ (arcs (l.take 30)).length ∧ m7 = 2 * ((arcs (l.take 30)).length - r))) (fun ⟨r, m7, At, ct, Ae⟩ => r) ((arcs (l.take 30)).length, 0, none, 0, A1) ?_ ?_
  · exact ⟨(Has.cons ha (by kernel_rfl) (by kernel_rfl) (Has.cons ha (by kernel_rfl) (by kernel_rfl) (Has.cons ha (by kernel_rfl) (by kernel_rfl) (Has.cons ha (by kernel_rfl) (by kernel_rfl) (Has.cons ha (by kernel_rfl) (by kernel_rfl) (Has.cons ha (by kernel_rfl) (by kernel_rfl) (Has.cons ha (by kernel_rfl) (by kernel_rfl) (Has.nil ha)))))))), s, (show (arcs (l.take 30)).length ≤ (arcs (l.take 30)).length ∧ 0 = 2 * ((arcs (l.take 30)).length - (arcs (l.take 30)).length) by omega)⟩
  · clear ha s; rintro ⟨r, m7, At, ct, Ae⟩ a w ⟨ha, s, hp⟩
    refine wp_seq ?_
    refine wp_seq ?_
    refine wp_region_lit ?_
    refine st_val (.int .i64 (((r : Nat) : Int) - 1)) ha (by kernel_rfl) (by kernel_rfl) ?_
    clear ha; intro a ha
    refine st_val (.bool (decide ((((r : Nat) : Int) - 1) ≥ (0 : Int)))) ha (by kernel_rfl) (by kernel_rfl) ?_
    clear ha; intro a ha
    refine wpList_nil ?_
    refine then_normal ?_
    refine wp_part (decide ((((r : Nat) : Int) - 1) ≥ (0 : Int))) ha rfl (by kernel_rfl) (fun hb => ?_) (fun hb => ?_)
    · rw [hb] at ha; replace hb : ((((r : Nat) : Int) - 1) ≥ (0 : Int)) := of_decide_eq_true hb
      have hr1 : 1 ≤ r := by omega
      obtain ⟨v, hv⟩ : ∃ v, (arcs (l.take 30))[r - 1]? = some v := ⟨_, List.getElem?_eq_getElem (by omega)⟩
      obtain ⟨ade, hA_ade⟩ := Own.addr (s.at_ (j := 1) rfl) (by omega)
      subst hA_ade
      refine wp_skip ?_
      refine then_normal ?_
      refine wp_seq ?_
      refine wp_block ?_
      refine wp_region_head 10 (fun w => Reads w 2 (some ade) ((arcs (l.take 30)).length) (egs (arcs (l.take 30))) ∧ True) (by kernel_rfl) (by decide) ?_
      replace s := s.drew; generalize _root_.Go.World.drew _ = w at s ⊢
      have hS : (fun w => Reads w 2 (some ade) ((arcs (l.take 30)).length) (egs (arcs (l.take 30))) ∧ True) w := ⟨(Knows.own (j := 1) rfl) _ s.sat, trivial⟩
      refine hd_val (i := 0) (.slice At m7 ct) ha rfl (by kernel_rfl) (fun _ _ _ h => h) (by kernel_rfl) (fun w hS => (by kernel_rfl)) hS ?_
      clear ha; intro a ha
      refine hd_val (i := 1) (.slice (some ade) ((arcs (l.take 30)).length) c2) ha rfl (by kernel_rfl) (fun _ _ _ h => h) (by kernel_rfl) (fun w hS => (by kernel_rfl)) hS ?_
      clear ha; intro a ha
      refine hd_val (i := 2) (.int .i64 (((r : Nat) : Int) - 1)) ha rfl (by kernel_rfl) (fun _ _ _ h => h) (by kernel_rfl) (fun w hS => (by kernel_rfl)) hS ?_
      clear ha; intro a ha
      refine hd_val (i := 3) (.pointer (some (ade.add ((r - 1) * 2)))) ha rfl (by kernel_rfl) (fun _ _ _ h => h) (by kernel_rfl) (fun w hS => (run_indexAddr' (kd := .i64) (i := (((r : Nat) : Int) - 1)) (n := ((arcs (l.take 30)).length)) (c := c2) (r - 1) rfl Try.underlying22 Try.sizeOf37 (by kernel_rfl) (by kernel_rfl) (by omega) (by first | assumption | omega) _)) hS ?_
      clear ha; intro a ha
      refine hd_val (i := 4) (.agg #[.int .i64 v.1, .int .i64 v.2]) ha rfl (by kernel_rfl) (fun _ _ _ h => h) (by kernel_rfl) (fun w hS => run_loadAtN (i := (r - 1) * 2) [.int .i64 v.1, .int .i64 v.2] hS.1 rfl (by kernel_rfl) Try.isAgg37 Try.sizeOf37 (fun j hj => egs_at hv hj) rfl) hS ?_
      clear ha; intro a ha
      refine hd_val (i := 5) (.slice (some ade) ((arcs (l.take 30)).length) c2) ha rfl (by kernel_rfl) (fun _ _ _ h => h) (by kernel_rfl) (fun w hS => (by kernel_rfl)) hS ?_
      clear ha; intro a ha
      refine hd_val (i := 6) (.int .i64 (((r : Nat) : Int) - 1)) ha rfl (by kernel_rfl) (fun _ _ _ h => h) (by kernel_rfl) (fun w hS => (by kernel_rfl)) hS ?_
      clear ha; intro a ha
      refine hd_val (i := 7) (.pointer (some (ade.add ((r - 1) * 2)))) ha rfl (by kernel_rfl) (fun _ _ _ h => h) (by kernel_rfl) (fun w hS => (run_indexAddr' (kd := .i64) (i := (((r : Nat) : Int) - 1)) (n := ((arcs (l.take 30)).length)) (c := c2) (r - 1) rfl Try.underlying22 Try.sizeOf37 (by kernel_rfl) (by kernel_rfl) (by omega) (by first | assumption | omega) _)) hS ?_
      clear ha; intro a ha
      refine hd_val (i := 8) (.agg #[.int .i64 v.1, .int .i64 v.2]) ha rfl (by kernel_rfl) (fun _ _ _ h => h) (by kernel_rfl) (fun w hS => run_loadAtN (i := (r - 1) * 2) [.int .i64 v.1, .int .i64 v.2] hS.1 rfl (by kernel_rfl) Try.isAgg37 Try.sizeOf37 (fun j hj => egs_at hv hj) rfl) hS ?_
      clear ha; intro a ha
      refine hd_ex (i := 9) ha rfl (by kernel_rfl) (by kernel_rfl) (ex_buildSlice elt22 _ zs22 [.int .i64 v.1, .int .i64 v.2, .int .i64 v.1, .int .i64 v.2] s rfl (by kernel_rfl) (by decide)) ?_
      clear hS; rintro _ w ⟨g11, rfl, s⟩
      replace s : St W (.blk g11 [.int .i64 v.1, .int .i64 v.2, .int .i64 v.1, .int .i64 v.2] 37 :: Own 37 2 At m7 ct (egs (turnA (arcs (l.take 30)) r)) :: Own 37 2 (some ade) ((arcs (l.take 30)).length) c2 (egs (arcs (l.take 30))) :: Own 3 1 A3 R.length c4 (ints R) :: Own 3 1 A9 Q.length c10 (ints Q) :: L) w := s
      have hS : (fun w => Reads w 2 (some ade) ((arcs (l.take 30)).length) (egs (arcs (l.take 30))) ∧ True) w := ⟨(Knows.own (j := 2) rfl) _ s.sat, trivial⟩
      refine ⟨hS, ?_⟩; clear ha; intro a ha
      refine Head.done (by kernel_rfl) ?_
      clear hS; simp only [List.drop_succ_cons, List.drop_zero]
      refine st_ex ha (by kernel_rfl) (ex_append (m := 2) (d' := 2) elt22 (by decide) 1 [.int .i64 v.1, .int .i64 v.2, .int .i64 v.1, .int .i64 v.2] s rfl (by kernel_rfl) (by kernel_rfl) rfl (reads_blk (s.blkIs 0 rfl) rfl) (by simp [Value.oneCell']) (by simp only [maxLen]; omega) (by omega)) ?_
      clear ha; rintro _ w a ⟨A12, c13, rfl, hA_, s⟩ ha
      replace s : St W (.blk g11 [.int .i64 v.1, .int .i64 v.2, .int .i64 v.1, .int .i64 v.2] 37 :: Own 37 2 A12 (m7 + 2) c13 ((egs (turnA (arcs (l.take 30)) r)) ++ [.int .i64 v.1, .int .i64 v.2, .int .i64 v.1, .int .i64 v.2]) :: Own 37 2 (some ade) ((arcs (l.take 30)).length) c2 (egs (arcs (l.take 30))) :: Own 3 1 A3 R.length c4 (ints R) :: Own 3 1 A9 Q.length c10 (ints Q) :: L) w := s
      refine st_val (.slice A12 (m7 + 2) c13) ha (by kernel_rfl) (by kernel_rfl) ?_
      clear ha; intro a ha
      refine wpList_nil ?_
      refine block_normal ?_
      refine then_normal ?_
      refine wp_region_lit ?_
      refine st_val (.int .i64 (((r : Nat) : Int) - 1)) ha (by kernel_rfl) (by kernel_rfl) ?_
      clear ha; intro a ha
      refine st_val (.int .i64 ((((r : Nat) : Int) - 1) - (1 : Int))) ha (by kernel_rfl) (run_arith ((((r : Nat) : Int) - 1) - (1 : Int)) ((((r : Nat) : Int) - 1) - (1 : Int)) rfl (by kernel_rfl) (by kernel_rfl) (.inr (.inl ⟨rfl, rfl⟩)) (by rw [wrap64_in (by omega)]) _) ?_
      clear ha; intro a ha
      refine st_val (.int .i64 ((((r : Nat) : Int) - 1) - (1 : Int))) ha (by kernel_rfl) (by kernel_rfl) ?_
      clear ha; intro a ha
      refine wpList_nil ?_
      refine then_normal ?_
      replace s := s.at_ (j := 4) rfl
      replace s : St W (Own 3 1 A9 Q.length c10 (ints Q) :: .blk g11 [.int .i64 v.1, .int .i64 v.2, .int .i64 v.1, .int .i64 v.2] 37 :: Own 37 2 A12 (m7 + 2) c13 ((egs (turnA (arcs (l.take 30)) r)) ++ [.int .i64 v.1, .int .i64 v.2, .int .i64 v.1, .int .i64 v.2]) :: Own 37 2 (some ade) ((arcs (l.take 30)).length) c2 (egs (arcs (l.take 30))) :: Own 3 1 A3 R.length c4 (ints R) :: L) w := s
      replace s := s.at_ (j := 4) rfl
      replace s : St W (Own 3 1 A3 R.length c4 (ints R) :: Own 3 1 A9 Q.length c10 (ints Q) :: .blk g11 [.int .i64 v.1, .int .i64 v.2, .int .i64 v.1, .int .i64 v.2] 37 :: Own 37 2 A12 (m7 + 2) c13 ((egs (turnA (arcs (l.take 30)) r)) ++ [.int .i64 v.1, .int .i64 v.2, .int .i64 v.1, .int .i64 v.2]) :: Own 37 2 (some ade) ((arcs (l.take 30)).length) c2 (egs (arcs (l.take 30))) :: L) w := s
      replace s := s.at_ (j := 4) rfl
      replace s : St W (Own 37 2 (some ade) ((arcs (l.take 30)).length) c2 (egs (arcs (l.take 30))) :: Own 3 1 A3 R.length c4 (ints R) :: Own 3 1 A9 Q.length c10 (ints Q) :: .blk g11 [.int .i64 v.1, .int .i64 v.2, .int .i64 v.1, .int .i64 v.2] 37 :: Own 37 2 A12 (m7 + 2) c13 ((egs (turnA (arcs (l.take 30)) r)) ++ [.int .i64 v.1, .int .i64 v.2, .int .i64 v.1, .int .i64 v.2]) :: L) w := s
      replace s := s.at_ (j := 4) rfl
      replace s : St W (Own 37 2 A12 (m7 + 2) c13 ((egs (turnA (arcs (l.take 30)) r)) ++ [.int .i64 v.1, .int .i64 v.2, .int .i64 v.1, .int .i64 v.2]) :: Own 37 2 (some ade) ((arcs (l.take 30)).length) c2 (egs (arcs (l.take 30))) :: Own 3 1 A3 R.length c4 (ints R) :: Own 3 1 A9 Q.length c10 (ints Q) :: .blk g11 [.int .i64 v.1, .int .i64 v.2, .int .i64 v.1, .int .i64 v.2] 37 :: L) w := s
      replace s : St W (Own 37 2 A12 (m7 + 2) c13 ((egs (turnA (arcs (l.take 30)) r)) ++ [.int .i64 v.1, .int .i64 v.2, .int .i64 v.1, .int .i64 v.2]) :: Own 37 2 (some ade) ((arcs (l.take 30)).length) c2 (egs (arcs (l.take 30))) :: Own 3 1 A3 R.length c4 (ints R) :: Own 3 1 A9 Q.length c10 (ints Q) :: L) w := St.mid (A := [Own 37 2 A12 (m7 + 2) c13 ((egs (turnA (arcs (l.take 30)) r)) ++ [.int .i64 v.1, .int .i64 v.2, .int .i64 v.1, .int .i64 v.2]), Own 37 2 (some ade) ((arcs (l.take 30)).length) c2 (egs (arcs (l.take 30))), Own 3 1 A3 R.length c4 (ints R), Own 3 1 A9 Q.length c10 (ints Q)]) (B := [.blk g11 [.int .i64 v.1, .int .i64 v.2, .int .i64 v.1, .int .i64 v.2] 37]) s
      have h3 : ((r : Nat) : Int) - 1 - 1 = ((r - 1 : Nat) : Int) - 1 := by omega
      rw [h3] at ha
      replace s : St W (Own 37 2 A12 (m7 + 2) c13 (egs (turnA (arcs (l.take 30)) (r - 1))) :: Own 37 2 (some ade) ((arcs (l.take 30)).length) c2 (egs (arcs (l.take 30))) :: Own 3 1 A3 R.length c4 (ints R) :: Own 3 1 A9 Q.length c10 (ints Q) :: L) w := by rw [turnA_step hv, show r - 1 + 1 = r by omega, egs_append]; exact s
      exact ⟨(r - 1, m7 + 2, A12, c13, (some ade)), (show r - 1 < r by omega), (Has.cons ha (by kernel_rfl) (by kernel_rfl) (Has.cons ha (by kernel_rfl) (by kernel_rfl) (Has.cons ha (by kernel_rfl) (by kernel_rfl) (Has.cons ha (by kernel_rfl) (by kernel_rfl) (Has.cons ha (by kernel_rfl) (by kernel_rfl) (Has.cons ha (by kernel_rfl) (by kernel_rfl) (Has.cons ha (by kernel_rfl) (by kernel_rfl) (Has.nil ha)))))))), s, (show r - 1 ≤ (arcs (l.take 30)).length ∧ m7 + 2 = 2 * ((arcs (l.take 30)).length - (r - 1)) by omega)⟩
    · rw [hb] at ha; replace hb : ¬ ((((r : Nat) : Int) - 1) ≥ (0 : Int)) := of_decide_eq_false hb
      have hr0 : r = 0 := by omega
      have hm7 : m7 = 2 * (arcs (l.take 30)).length := by omega
      rw [hr0] at s ha
      replace s : St W (Own 37 2 At m7 ct (egs (turnA (arcs (l.take 30)) 0)) :: Own 37 2 Ae ((arcs (l.take 30)).length) c2 (egs (arcs (l.take 30))) :: Own 3 1 A3 R.length c4 (ints R) :: Own 3 1 A9 Q.length c10 (ints Q) :: L) w := s
      refine wp_exit ?_
      refine then_exit ?_
      refine then_exit ?_
      refine block_hit ?_
      refine then_normal ?_
      refine wp_seq ?_
      refine wp_region_lit ?_
      refine st_val (.slice At m7 ct) ha (by kernel_rfl) (by kernel_rfl) ?_
      clear ha; intro a ha
      refine st_call ha (by kernel_rfl) (by kernel_rfl) (rings_good W hW _ w At m7 ct (turnA (arcs (l.take 30)) 0) (by rw [turnA_len]; omega) (fun x hx => arcs_ok x (turnA_mem.1 hx)) (Knows.own (j := 0) rfl) (by rw [turnA_len]; omega) s) ?_
      rintro _ w ⟨A14, c15, R3, rfl, hR3, hlR3, s⟩
      replace s : St W (Own 3 1 A14 R3.length c15 (ints R3) :: Own 37 2 At m7 ct (egs (turnA (arcs (l.take 30)) 0)) :: Own 37 2 Ae ((arcs (l.take 30)).length) c2 (egs (arcs (l.take 30))) :: Own 3 1 A3 R.length c4 (ints R) :: Own 3 1 A9 Q.length c10 (ints Q) :: L) w := s
      refine ⟨_, rfl, ?_⟩; clear ha; intro a ha
      refine st_val (.tuple #[.slice A14 R3.length c15, .int .i64 0]) ha (by kernel_rfl) (by kernel_rfl) ?_
      clear ha; intro a ha
      refine st_val (.slice A14 R3.length c15) ha (by kernel_rfl) (by kernel_rfl) ?_
      clear ha; intro a ha
      refine st_val (.int .i64 0) ha (by kernel_rfl) (by kernel_rfl) ?_
      clear ha; intro a ha
      refine st_val (.slice A14 R3.length c15) ha (by kernel_rfl) (by kernel_rfl) ?_
      clear ha; intro a ha
      refine st_val (.int .i64 0) ha (by kernel_rfl) (by kernel_rfl) ?_
      clear ha; intro a ha
      refine wpList_nil ?_
      refine then_normal ?_
      refine wp_seq ?_
      refine wp_seq ?_
      refine wp_region_lit ?_
      refine st_val (.int .i64 0) ha (by kernel_rfl) (by kernel_rfl) ?_
      clear ha; intro a ha
      refine st_val (.bool false) ha (by kernel_rfl) (by kernel_rfl) ?_
      clear ha; intro a ha
      refine st_val (.bool false) ha (by kernel_rfl) (by kernel_rfl) ?_
      clear ha; intro a ha
      refine st_val (.int .i64 0) ha (by kernel_rfl) (by kernel_rfl) ?_
      clear ha; intro a ha
      refine st_val (.bool false) ha (by kernel_rfl) (by kernel_rfl) ?_
      clear ha; intro a ha
      refine st_val (.bool false) ha (by kernel_rfl) (by kernel_rfl) ?_
      clear ha; intro a ha
      refine st_val (.bool false) ha (by kernel_rfl) (by kernel_rfl) ?_
      clear ha; intro a ha
      refine st_val (.int .i64 0) ha (by kernel_rfl) (by kernel_rfl) ?_
      clear ha; intro a ha
      refine st_val (.bool false) ha (by kernel_rfl) (by kernel_rfl) ?_
      clear ha; intro a ha
      refine st_val (.bool false) ha (by kernel_rfl) (by kernel_rfl) ?_
      clear ha; intro a ha
      refine st_val (.bool false) ha (by kernel_rfl) (by kernel_rfl) ?_
      clear ha; intro a ha
      refine st_val (.slice A3 R.length c4) ha (by kernel_rfl) (by kernel_rfl) ?_
      clear ha; intro a ha
      refine st_val (.slice A14 R3.length c15) ha (by kernel_rfl) (by kernel_rfl) ?_
      clear ha; intro a ha
      refine st_call ha (by kernel_rfl) (by kernel_rfl) (eqInts_is W _ w A3 R.length c4 R (Knows.own (j := 3) rfl) rfl (by omega) A14 R3.length c15 R3 (Knows.own (j := 0) rfl) rfl (by omega) true (decide_eq_true (hR.unique (RingsOf.congr hR3 fun x => turnA_mem))) s) ?_
      rintro _ w ⟨rfl, s⟩
      replace s : St W (Own 3 1 A14 R3.length c15 (ints R3) :: Own 37 2 At m7 ct (egs (turnA (arcs (l.take 30)) 0)) :: Own 37 2 Ae ((arcs (l.take 30)).length) c2 (egs (arcs (l.take 30))) :: Own 3 1 A3 R.length c4 (ints R) :: Own 3 1 A9 Q.length c10 (ints Q) :: L) w := s
      refine ⟨_, rfl, ?_⟩; clear ha; intro a ha
      refine st_val (.bool false) ha (by kernel_rfl) (by kernel_rfl) ?_
      clear ha; intro a ha
      refine st_val (.bool false) ha (by kernel_rfl) (by kernel_rfl) ?_
      clear ha; intro a ha
      refine wpList_nil ?_
      refine then_normal ?_
      refine wp_false ha rfl (by kernel_rfl) ?_
      refine wp_skip ?_
      refine then_normal ?_
      refine wp_seq ?_
      refine wp_seq ?_
      refine wp_region_lit ?_
      refine st_val (.int .i64 0) ha (by kernel_rfl) (by kernel_rfl) ?_
      clear ha; intro a ha
      refine wpList_nil ?_
      refine then_normal ?_
      refine wp_block ?_
      replace s := s.at_ (j := 4) rfl
      replace s : St W (Own 3 1 A9 Q.length c10 (ints Q) :: Own 3 1 A14 R3.length c15 (ints R3) :: Own 37 2 At m7 ct (egs (turnA (arcs (l.take 30)) 0)) :: Own 37 2 Ae ((arcs (l.take 30)).length) c2 (egs (arcs (l.take 30))) :: Own 3 1 A3 R.length c4 (ints R) :: L) w := s
      replace s := s.at_ (j := 4) rfl
      replace s : St W (Own 3 1 A3 R.length c4 (ints R) :: Own 3 1 A9 Q.length c10 (ints Q) :: Own 3 1 A14 R3.length c15 (ints R3) :: Own 37 2 At m7 ct (egs (turnA (arcs (l.take 30)) 0)) :: Own 37 2 Ae ((arcs (l.take 30)).length) c2 (egs (arcs (l.take 30))) :: L) w := s
      replace s := s.at_ (j := 4) rfl
      replace s : St W (Own 37 2 Ae ((arcs (l.take 30)).length) c2 (egs (arcs (l.take 30))) :: Own 3 1 A3 R.length c4 (ints R) :: Own 3 1 A9 Q.length c10 (ints Q) :: Own 3 1 A14 R3.length c15 (ints R3) :: Own 37 2 At m7 ct (egs (turnA (arcs (l.take 30)) 0)) :: L) w := s
      replace s : St W (Own 37 2 Ae ((arcs (l.take 30)).length) c2 (egs (arcs (l.take 30))) :: Own 3 1 A3 R.length c4 (ints R) :: Own 3 1 A9 Q.length c10 (ints Q) :: L) w := St.mid (A := [Own 37 2 Ae ((arcs (l.take 30)).length) c2 (egs (arcs (l.take 30))), Own 3 1 A3 R.length c4 (ints R), Own 3 1 A9 Q.length c10 (ints Q)]) (B := [Own 3 1 A14 R3.length c15 (ints R3), Own 37 2 At m7 ct (egs (turnA (arcs (l.take 30)) 0))]) s
      refine wp_loopG (G := (Nat × Option Addr × Option Addr)) (fun ⟨i, Ae, Ar⟩ a w => Has a 126 [(5, .slice Ae ((arcs (l.take 30)).length) c2), (6, .slice Ar R.length c4), (8, .slice A9 Q.length c10), (14, .int .i64 ((i : Nat) : Int))] ∧ St W (Own 37 2 Ae ((arcs (l.take 30)).length) c2 (egs (arcs (l.take 30))) :: Own 3 1 Ar R.length c4 (ints R) :: Own 3 1 A9 Q.length c10 (ints Q) :: L) w ∧ (i ≤ R.length)) (fun ⟨i, Ae, Ar⟩ => R.length - i) (0, Ae, A3) ?_ ?_
      · exact ⟨(Has.cons ha (by kernel_rfl) (by kernel_rfl) (Has.cons ha (by kernel_rfl) (by kernel_rfl) (Has.cons ha (by kernel_rfl) (by kernel_rfl) (Has.cons ha (by kernel_rfl) (by kernel_rfl) (Has.nil ha))))), s, Nat.zero_le _⟩
      · clear ha s; rintro ⟨i, Ae, Ar⟩ a w ⟨ha, s, hp⟩
        refine wp_seq ?_
        refine wp_seq ?_
        refine wp_region_lit ?_
        refine st_val (.int .i64 ((i : Nat) : Int)) ha (by kernel_rfl) (by kernel_rfl) ?_
        clear ha; intro a ha
        refine st_val (.slice Ar R.length c4) ha (by kernel_rfl) (by kernel_rfl) ?_
        clear ha; intro a ha
        refine st_val (.int .i64 ((R.length : Nat) : Int)) ha (by kernel_rfl) (by kernel_rfl) ?_
        clear ha; intro a ha
        refine st_val (.bool (decide (((i : Nat) : Int) < ((R.length : Nat) : Int)))) ha (by kernel_rfl) (by kernel_rfl) ?_
        clear ha; intro a ha
        refine wpList_nil ?_
        refine then_normal ?_
        refine wp_part (decide (((i : Nat) : Int) < ((R.length : Nat) : Int))) ha rfl (by kernel_rfl) (fun hb => ?_) (fun hb => ?_)
        · rw [hb] at ha; replace hb : (((i : Nat) : Int) < ((R.length : Nat) : Int)) := of_decide_eq_true hb
          obtain ⟨x, hx⟩ : ∃ x, R[i]? = some x := ⟨_, List.getElem?_eq_getElem (by omega)⟩
          have hxm := List.mem_of_getElem? hx
          obtain ⟨adr, hA_adr⟩ := Own.addr (s.at_ (j := 1) rfl) (by omega)
          subst hA_adr
          refine wp_skip ?_
          refine then_normal ?_
          refine wp_seq ?_
          refine wp_block ?_
          refine wp_seq ?_
          refine wp_region_lit ?_
          refine st_val (.bool false) ha (by kernel_rfl) (by kernel_rfl) ?_
          clear ha; intro a ha
          refine wpList_nil ?_
          refine then_normal ?_
          refine wp_seq ?_
          refine wp_seq ?_
          refine wp_region_lit ?_
          refine st_val (.int .i64 0) ha (by kernel_rfl) (by kernel_rfl) ?_
          clear ha; intro a ha
          refine wpList_nil ?_
          refine then_normal ?_
          refine wp_block ?_
          have hpo := hp; clear hp
          refine wp_loopG (G := (Nat × Option Addr)) (fun ⟨k, Ae⟩ a w => Has a 126 [(5, .slice Ae ((arcs (l.take 30)).length) c2), (6, .slice (some adr) R.length c4), (8, .slice A9 Q.length c10), (14, .int .i64 ((i : Nat) : Int)), (15, .bool (nextB ((arcs (l.take 30)).take k) R x)), (16, .int .i64 ((k : Nat) : Int))] ∧ St W (Own 37 2 Ae ((arcs (l.take 30)).length) c2 (egs (arcs (l.take 30))) :: Own 3 1 (some adr) R.length c4 (ints R) :: Own 3 1 A9 Q.length c10 (ints Q) :: L) w ∧ (k ≤ (arcs (l.take 30)).length)) (fun ⟨k, Ae⟩ => (arcs (l.take 30)).length - k) (0, Ae) ?_ ?_
          · exact ⟨(Has.cons ha (by kernel_rfl) (by kernel_rfl) (Has.cons ha (by kernel_rfl) (by kernel_rfl) (Has.cons ha (by kernel_rfl) (by kernel_rfl) (Has.cons ha (by kernel_rfl) (by kernel_rfl) (Has.cons ha (by kernel_rfl) (by kernel_rfl) (Has.cons ha (by kernel_rfl) (by kernel_rfl) (Has.nil ha))))))), s, Nat.zero_le _⟩
          · clear ha s; rintro ⟨k, Ae⟩ a w ⟨ha, s, hp⟩
            refine wp_seq ?_
            refine wp_seq ?_
            refine wp_region_lit ?_
            refine st_val (.int .i64 ((k : Nat) : Int)) ha (by kernel_rfl) (by kernel_rfl) ?_
            clear ha; intro a ha
            refine st_val (.slice Ae ((arcs (l.take 30)).length) c2) ha (by kernel_rfl) (by kernel_rfl) ?_
            clear ha; intro a ha
            refine st_val (.int .i64 (((arcs (l.take 30)).length : Nat) : Int)) ha (by kernel_rfl) (by kernel_rfl) ?_
            clear ha; intro a ha
            refine st_val (.bool (decide (((k : Nat) : Int) < (((arcs (l.take 30)).length : Nat) : Int)))) ha (by kernel_rfl) (by kernel_rfl) ?_
            clear ha; intro a ha
            refine wpList_nil ?_
            refine then_normal ?_
            refine wp_part (decide (((k : Nat) : Int) < (((arcs (l.take 30)).length : Nat) : Int))) ha rfl (by kernel_rfl) (fun hb => ?_) (fun hb => ?_)
            · rw [hb] at ha; replace hb : (((k : Nat) : Int) < (((arcs (l.take 30)).length : Nat) : Int)) := of_decide_eq_true hb
              obtain ⟨v, hv⟩ : ∃ v, (arcs (l.take 30))[k]? = some v := ⟨_, List.getElem?_eq_getElem (by omega)⟩
              obtain ⟨ade, hA_ade⟩ := Own.addr (s.at_ (j := 0) rfl) (by omega)
              subst hA_ade
              refine wp_skip ?_
              refine then_normal ?_
              refine wp_seq ?_
              refine wp_block ?_
              refine wp_region_head 19 (fun w => Reads w 2 (some ade) ((arcs (l.take 30)).length) (egs (arcs (l.take 30))) ∧ Reads w 1 (some adr) R.length (ints R) ∧ True) (by kernel_rfl) (by decide) ?_
              replace s := s.drew; generalize _root_.Go.World.drew _ = w at s ⊢
              have hS : (fun w => Reads w 2 (some ade) ((arcs (l.take 30)).length) (egs (arcs (l.take 30))) ∧ Reads w 1 (some adr) R.length (ints R) ∧ True) w := ⟨(Knows.own (j := 0) rfl) _ s.sat, (Knows.own (j := 1) rfl) _ s.sat, trivial⟩
              refine hd_val (i := 0) (.bool (nextB ((arcs (l.take 30)).take k) R x)) ha rfl (by kernel_rfl) (fun _ _ _ h => h) (by kernel_rfl) (fun w hS => (by kernel_rfl)) hS ?_
              clear ha; intro a ha
              refine hd_val (i := 1) (.bool (nextB ((arcs (l.take 30)).take k) R x)) ha rfl (by kernel_rfl) (fun _ _ _ h => h) (by kernel_rfl) (fun w hS => (by kernel_rfl)) hS ?_
              clear ha; intro a ha
              rcases Bool.eq_false_or_eq_true (nextB ((arcs (l.take 30)).take k) R x) with hb | hb
              · rw [hb] at ha; skip
                refine hd_pass (i := 2) ha rfl (by kernel_rfl) (fun _ _ _ h => h) (by kernel_rfl) hS ?_
                clear ha; intro a ha
                refine hd_pass (i := 3) ha rfl (by kernel_rfl) (fun _ _ _ h => h) (by kernel_rfl) hS ?_
                clear ha; intro a ha
                refine hd_pass (i := 4) ha rfl (by kernel_rfl) (fun _ _ _ h => h) (by kernel_rfl) hS ?_
                clear ha; intro a ha
                refine hd_pass (i := 5) ha rfl (by kernel_rfl) (fun _ _ _ h => h) (by kernel_rfl) hS ?_
                clear ha; intro a ha
                refine hd_pass (i := 6) ha rfl (by kernel_rfl) (fun _ _ _ h => h) (by kernel_rfl) hS ?_
                clear ha; intro a ha
                refine hd_pass (i := 7) ha rfl (by kernel_rfl) (fun _ _ _ h => h) (by kernel_rfl) hS ?_
                clear ha; intro a ha
                refine hd_pass (i := 8) ha rfl (by kernel_rfl) (fun _ _ _ h => h) (by kernel_rfl) hS ?_
                clear ha; intro a ha
                refine hd_pass (i := 9) ha rfl (by kernel_rfl) (fun _ _ _ h => h) (by kernel_rfl) hS ?_
                clear ha; intro a ha
                refine hd_pass (i := 10) ha rfl (by kernel_rfl) (fun _ _ _ h => h) (by kernel_rfl) hS ?_
                clear ha; intro a ha
                refine hd_pass (i := 11) ha rfl (by kernel_rfl) (fun _ _ _ h => h) (by kernel_rfl) hS ?_
                clear ha; intro a ha
                refine hd_pass (i := 12) ha rfl (by kernel_rfl) (fun _ _ _ h => h) (by kernel_rfl) hS ?_
                clear ha; intro a ha
                refine hd_pass (i := 13) ha rfl (by kernel_rfl) (fun _ _ _ h => h) (by kernel_rfl) hS ?_
                clear ha; intro a ha
                refine hd_pass (i := 14) ha rfl (by kernel_rfl) (fun _ _ _ h => h) (by kernel_rfl) hS ?_
                clear ha; intro a ha
                refine hd_pass (i := 15) ha rfl (by kernel_rfl) (fun _ _ _ h => h) (by kernel_rfl) hS ?_
                clear ha; intro a ha
                refine hd_pass (i := 16) ha rfl (by kernel_rfl) (fun _ _ _ h => h) (by kernel_rfl) hS ?_
                clear ha; intro a ha
                refine hd_pass (i := 17) ha rfl (by kernel_rfl) (fun _ _ _ h => h) (by kernel_rfl) hS ?_
                clear ha; intro a ha
                refine hd_pass (i := 18) ha rfl (by kernel_rfl) (fun _ _ _ h => h) (by kernel_rfl) hS ?_
                clear ha; intro a ha
                refine Head.done (by kernel_rfl) ?_
                clear hS; simp only [List.drop_succ_cons, List.drop_zero]
                refine st_pass ha (by kernel_rfl) ?_
                clear ha; intro a ha
                refine st_pass ha (by kernel_rfl) ?_
                clear ha; intro a ha
                refine st_val (.bool true) ha (by kernel_rfl) (by kernel_rfl) ?_
                clear ha; intro a ha
                refine st_val (.bool true) ha (by kernel_rfl) (by kernel_rfl) ?_
                clear ha; intro a ha
                refine wpList_nil ?_
                refine block_normal ?_
                refine then_normal ?_
                refine wp_region_lit ?_
                refine st_val (.int .i64 ((k : Nat) : Int)) ha (by kernel_rfl) (by kernel_rfl) ?_
                clear ha; intro a ha
                refine st_val (.int .i64 ((k + 1 : Nat) : Int)) ha (by kernel_rfl) (run_arith (((k : Nat) : Int) + (1 : Int)) ((k + 1 : Nat) : Int) rfl (by kernel_rfl) (by kernel_rfl) (.inl ⟨rfl, rfl⟩) (by rw [wrap64_in (by omega)]; try omega) _) ?_
                clear ha; intro a ha
                refine st_val (.int .i64 ((k + 1 : Nat) : Int)) ha (by kernel_rfl) (by kernel_rfl) ?_
                clear ha; intro a ha
                refine wpList_nil ?_
                refine then_normal ?_
                have hacc : true = nextB ((arcs (l.take 30)).take (k + 1)) R x := by rw [nextB_step hv]; simp_all
                exact ⟨(k + 1, (some ade)), (show (arcs (l.take 30)).length - (k + 1) < (arcs (l.take 30)).length - k by omega), (Has.cons ha (by kernel_rfl) (by kernel_rfl) (Has.cons ha (by kernel_rfl) (by kernel_rfl) (Has.cons ha (by kernel_rfl) (by kernel_rfl) (Has.cons ha (by kernel_rfl) (by kernel_rfl) (Has.cons ha (by kernel_rfl) (congrArg Value.bool hacc) (Has.cons ha (by kernel_rfl) (by kernel_rfl) (Has.nil ha))))))), s, (show k + 1 ≤ (arcs (l.take 30)).length by omega)⟩
              · rw [hb] at ha; skip
                refine hd_val (i := 2) (.slice (some ade) ((arcs (l.take 30)).length) c2) ha rfl (by kernel_rfl) (fun _ _ _ h => h) (by kernel_rfl) (fun w hS => (by kernel_rfl)) hS ?_
                clear ha; intro a ha
                refine hd_val (i := 3) (.int .i64 ((k : Nat) : Int)) ha rfl (by kernel_rfl) (fun _ _ _ h => h) (by kernel_rfl) (fun w hS => (by kernel_rfl)) hS ?_
                clear ha; intro a ha
                refine hd_val (i := 4) (.pointer (some (ade.add (k * 2)))) ha rfl (by kernel_rfl) (fun _ _ _ h => h) (by kernel_rfl) (fun w hS => (run_indexAddr' (kd := .i64) (i := ((k : Nat) : Int)) (n := ((arcs (l.take 30)).length)) (c := c2) k rfl Try.underlying22 Try.sizeOf37 (by kernel_rfl) (by kernel_rfl) rfl (by first | assumption | omega) _)) hS ?_
                clear ha; intro a ha
                refine hd_val (i := 5) (.pointer (some (ade.add (k * 2 + 0 * 1)))) ha rfl (by kernel_rfl) (fun _ _ _ h => h) (by kernel_rfl) (fun w hS => (run_indexArr_at (kd := .i64) (i := k * 2) (z := 0) 0 rfl Try.underlying37 Try.sizeOf3 (by kernel_rfl) (by kernel_rfl) rfl (by first | assumption | omega) _)) hS ?_
                clear ha; intro a ha
                refine hd_val (i := 6) (.int .i64 v.1) ha rfl (by kernel_rfl) (fun _ _ _ h => h) (by kernel_rfl) (fun w hS => run_loadAt1 (i := k * 2 + 0 * 1) hS.1 rfl (by kernel_rfl) Try.isAgg3 (by rw [Nat.mul_one]; rw [egs_at hv (by omega)]; rfl)) hS ?_
                clear ha; intro a ha
                refine hd_val (i := 7) (.slice (some adr) R.length c4) ha rfl (by kernel_rfl) (fun _ _ _ h => h) (by kernel_rfl) (fun w hS => (by kernel_rfl)) hS ?_
                clear ha; intro a ha
                refine hd_val (i := 8) (.int .i64 ((i : Nat) : Int)) ha rfl (by kernel_rfl) (fun _ _ _ h => h) (by kernel_rfl) (fun w hS => (by kernel_rfl)) hS ?_
                clear ha; intro a ha
                refine hd_val (i := 9) (.pointer (some (adr.add (i * 1)))) ha rfl (by kernel_rfl) (fun _ _ _ h => h) (by kernel_rfl) (fun w hS => (run_indexAddr' (kd := .i64) (i := ((i : Nat) : Int)) (n := R.length) (c := c4) i rfl Try.underlying25 Try.sizeOf3 (by kernel_rfl) (by kernel_rfl) rfl (by first | assumption | omega) _)) hS ?_
                clear ha; intro a ha
                refine hd_val (i := 10) (.int .i64 x) ha rfl (by kernel_rfl) (fun _ _ _ h => h) (by kernel_rfl) (fun w hS => run_loadAt1 (i := i * 1) hS.2.1 rfl (by kernel_rfl) Try.isAgg3 (by rw [Nat.mul_one]; exact ints_at hx)) hS ?_
                clear ha; intro a ha
                refine hd_val (i := 11) (.bool (v.1 == x)) ha rfl (by kernel_rfl) (fun _ _ _ h => h) (by kernel_rfl) (fun w hS => (by kernel_rfl)) hS ?_
                clear ha; intro a ha
                refine hd_val (i := 12) (.bool (v.1 == x)) ha rfl (by kernel_rfl) (fun _ _ _ h => h) (by kernel_rfl) (fun w hS => (by kernel_rfl)) hS ?_
                clear ha; intro a ha
                rcases Bool.eq_false_or_eq_true (v.1 == x) with hb | hb
                · rw [hb] at ha; have hb_ := hb; replace hb := eq_of_beq hb
                  refine hd_val (i := 13) (.slice (some adr) R.length c4) ha rfl (by kernel_rfl) (fun _ _ _ h => h) (by kernel_rfl) (fun w hS => (by kernel_rfl)) hS ?_
                  clear ha; intro a ha
                  refine hd_val (i := 14) (.slice (some ade) ((arcs (l.take 30)).length) c2) ha rfl (by kernel_rfl) (fun _ _ _ h => h) (by kernel_rfl) (fun w hS => (by kernel_rfl)) hS ?_
                  clear ha; intro a ha
                  refine hd_val (i := 15) (.int .i64 ((k : Nat) : Int)) ha rfl (by kernel_rfl) (fun _ _ _ h => h) (by kernel_rfl) (fun w hS => (by kernel_rfl)) hS ?_
                  clear ha; intro a ha
                  refine hd_val (i := 16) (.pointer (some (ade.add (k * 2)))) ha rfl (by kernel_rfl) (fun _ _ _ h => h) (by kernel_rfl) (fun w hS => (run_indexAddr' (kd := .i64) (i := ((k : Nat) : Int)) (n := ((arcs (l.take 30)).length)) (c := c2) k rfl Try.underlying22 Try.sizeOf37 (by kernel_rfl) (by kernel_rfl) rfl (by first | assumption | omega) _)) hS ?_
                  clear ha; intro a ha
                  refine hd_val (i := 17) (.pointer (some (ade.add (k * 2 + 1 * 1)))) ha rfl (by kernel_rfl) (fun _ _ _ h => h) (by kernel_rfl) (fun w hS => (run_indexArr_at (kd := .i64) (i := k * 2) (z := 1) 1 rfl Try.underlying37 Try.sizeOf3 (by kernel_rfl) (by kernel_rfl) rfl (by first | assumption | omega) _)) hS ?_
                  clear ha; intro a ha
                  refine hd_val (i := 18) (.int .i64 v.2) ha rfl (by kernel_rfl) (fun _ _ _ h => h) (by kernel_rfl) (fun w hS => run_loadAt1 (i := k * 2 + 1 * 1) hS.1 rfl (by kernel_rfl) Try.isAgg3 (by rw [Nat.mul_one]; rw [egs_at hv (by omega)]; rfl)) hS ?_
                  clear ha; intro a ha
                  refine Head.done (by kernel_rfl) ?_
                  clear hS; simp only [List.drop_succ_cons, List.drop_zero]
                  refine st_call ha (by kernel_rfl) (by kernel_rfl) (has_any W _ w (some adr) R.length c4 R (Knows.own (j := 1) rfl) rfl (by omega) v.2 s) ?_
                  rintro _ w ⟨rfl, s⟩
                  replace s : St W (Own 37 2 (some ade) ((arcs (l.take 30)).length) c2 (egs (arcs (l.take 30))) :: Own 3 1 (some adr) R.length c4 (ints R) :: Own 3 1 A9 Q.length c10 (ints Q) :: L) w := s
                  refine ⟨_, rfl, ?_⟩; clear ha; intro a ha
                  refine st_val (.bool (decide (v.2 ∈ R))) ha (by kernel_rfl) (by kernel_rfl) ?_
                  clear ha; intro a ha
                  refine st_val (.bool (decide (v.2 ∈ R))) ha (by kernel_rfl) (by kernel_rfl) ?_
                  clear ha; intro a ha
                  refine st_val (.bool (decide (v.2 ∈ R))) ha (by kernel_rfl) (by kernel_rfl) ?_
                  clear ha; intro a ha
                  refine wpList_nil ?_
                  refine block_normal ?_
                  refine then_normal ?_
                  refine wp_region_lit ?_
                  refine st_val (.int .i64 ((k : Nat) : Int)) ha (by kernel_rfl) (by kernel_rfl) ?_
                  clear ha; intro a ha
                  refine st_val (.int .i64 ((k + 1 : Nat) : Int)) ha (by kernel_rfl) (run_arith (((k : Nat) : Int) + (1 : Int)) ((k + 1 : Nat) : Int) rfl (by kernel_rfl) (by kernel_rfl) (.inl ⟨rfl, rfl⟩) (by rw [wrap64_in (by omega)]; try omega) _) ?_
                  clear ha; intro a ha
                  refine st_val (.int .i64 ((k + 1 : Nat) : Int)) ha (by kernel_rfl) (by kernel_rfl) ?_
                  clear ha; intro a ha
                  refine wpList_nil ?_
                  refine then_normal ?_
                  have hacc : decide (v.2 ∈ R) = nextB ((arcs (l.take 30)).take (k + 1)) R x := by rw [nextB_step hv]; simp_all
                  exact ⟨(k + 1, (some ade)), (show (arcs (l.take 30)).length - (k + 1) < (arcs (l.take 30)).length - k by omega), (Has.cons ha (by kernel_rfl) (by kernel_rfl) (Has.cons ha (by kernel_rfl) (by kernel_rfl) (Has.cons ha (by kernel_rfl) (by kernel_rfl) (Has.cons ha (by kernel_rfl) (by kernel_rfl) (Has.cons ha (by kernel_rfl) (congrArg Value.bool hacc) (Has.cons ha (by kernel_rfl) (by kernel_rfl) (Has.nil ha))))))), s, (show k + 1 ≤ (arcs (l.take 30)).length by omega)⟩
                · rw [hb] at ha; have hb_ := hb; replace hb := ne_of_beq_false hb
                  refine hd_pass (i := 13) ha rfl (by kernel_rfl) (fun _ _ _ h => h) (by kernel_rfl) hS ?_
                  clear ha; intro a ha
                  refine hd_pass (i := 14) ha rfl (by kernel_rfl) (fun _ _ _ h => h) (by kernel_rfl) hS ?_
                  clear ha; intro a ha
                  refine hd_pass (i := 15) ha rfl (by kernel_rfl) (fun _ _ _ h => h) (by kernel_rfl) hS ?_
                  clear ha; intro a ha
                  refine hd_pass (i := 16) ha rfl (by kernel_rfl) (fun _ _ _ h => h) (by kernel_rfl) hS ?_
                  clear ha; intro a ha
                  refine hd_pass (i := 17) ha rfl (by kernel_rfl) (fun _ _ _ h => h) (by kernel_rfl) hS ?_
                  clear ha; intro a ha
                  refine hd_pass (i := 18) ha rfl (by kernel_rfl) (fun _ _ _ h => h) (by kernel_rfl) hS ?_
                  clear ha; intro a ha
                  refine Head.done (by kernel_rfl) ?_
                  clear hS; simp only [List.drop_succ_cons, List.drop_zero]
                  refine st_pass ha (by kernel_rfl) ?_
                  clear ha; intro a ha
                  refine st_val (.bool false) ha (by kernel_rfl) (by kernel_rfl) ?_
                  clear ha; intro a ha
                  refine st_val (.bool false) ha (by kernel_rfl) (by kernel_rfl) ?_
                  clear ha; intro a ha
                  refine st_val (.bool false) ha (by kernel_rfl) (by kernel_rfl) ?_
                  clear ha; intro a ha
                  refine wpList_nil ?_
                  refine block_normal ?_
                  refine then_normal ?_
                  refine wp_region_lit ?_
                  refine st_val (.int .i64 ((k : Nat) : Int)) ha (by kernel_rfl) (by kernel_rfl) ?_
                  clear ha; intro a ha
                  refine st_val (.int .i64 ((k + 1 : Nat) : Int)) ha (by kernel_rfl) (run_arith (((k : Nat) : Int) + (1 : Int)) ((k + 1 : Nat) : Int) rfl (by kernel_rfl) (by kernel_rfl) (.inl ⟨rfl, rfl⟩) (by rw [wrap64_in (by omega)]; try omega) _) ?_
                  clear ha; intro a ha
                  refine st_val (.int .i64 ((k + 1 : Nat) : Int)) ha (by kernel_rfl) (by kernel_rfl) ?_
                  clear ha; intro a ha
                  refine wpList_nil ?_
                  refine then_normal ?_
                  have hacc : false = nextB ((arcs (l.take 30)).take (k + 1)) R x := by rw [nextB_step hv]; simp_all
                  exact ⟨(k + 1, (some ade)), (show (arcs (l.take 30)).length - (k + 1) < (arcs (l.take 30)).length - k by omega), (Has.cons ha (by kernel_rfl) (by kernel_rfl) (Has.cons ha (by kernel_rfl) (by kernel_rfl) (Has.cons ha (by kernel_rfl) (by kernel_rfl) (Has.cons ha (by kernel_rfl) (by kernel_rfl) (Has.cons ha (by kernel_rfl) (congrArg Value.bool hacc) (Has.cons ha (by kernel_rfl) (by kernel_rfl) (Has.nil ha))))))), s, (show k + 1 ≤ (arcs (l.take 30)).length by omega)⟩
            · rw [hb] at ha; replace hb : ¬ (((k : Nat) : Int) < (((arcs (l.take 30)).length : Nat) : Int)) := of_decide_eq_false hb
              have hk : k = (arcs (l.take 30)).length := by omega
              rw [hk, show (arcs (l.take 30)).take (arcs (l.take 30)).length = arcs (l.take 30) from List.take_length, nextB_true hR hxm] at ha
              have hp := hpo
              refine wp_exit ?_
              refine then_exit ?_
              refine then_exit ?_
              refine block_hit ?_
              refine then_normal ?_
              refine wp_seq ?_
              refine wp_region_lit ?_
              refine st_val (.bool true) ha (by kernel_rfl) (by kernel_rfl) ?_
              clear ha; intro a ha
              refine st_val (.bool false) ha (by kernel_rfl) (by kernel_rfl) ?_
              clear ha; intro a ha
              refine st_val (.bool false) ha (by kernel_rfl) (by kernel_rfl) ?_
              clear ha; intro a ha
              refine st_val (.slice A9 Q.length c10) ha (by kernel_rfl) (by kernel_rfl) ?_
              clear ha; intro a ha
              refine st_val (.slice (some adr) R.length c4) ha (by kernel_rfl) (by kernel_rfl) ?_
              clear ha; intro a ha
              refine st_val (.int .i64 ((i : Nat) : Int)) ha (by kernel_rfl) (by kernel_rfl) ?_
              clear ha; intro a ha
              refine st_val (.pointer (some (adr.add (i * 1)))) ha (by kernel_rfl) (run_indexAddr' (kd := .i64) (i := ((i : Nat) : Int)) (n := R.length) (c := c4) i rfl Try.underlying25 Try.sizeOf3 (by kernel_rfl) (by kernel_rfl) rfl (by first | assumption | omega) _) ?_
              clear ha; intro a ha
              refine st_val (.int .i64 x) ha (by kernel_rfl) (run_loadAt1 (i := i * 1) ((Knows.own (j := 1) rfl) _ s.sat) rfl (by kernel_rfl) Try.isAgg3 (by rw [Nat.mul_one]; exact ints_at hx)) ?_
              clear ha; intro a ha
              refine st_call ha (by kernel_rfl) (by kernel_rfl) (has_is W _ w A9 Q.length c10 Q (Knows.own (j := 2) rfl) rfl (by omega) x true (decide_eq_true ((hQ.mem x).2 (((hR.mem x).1 hxm).mono fun e he => List.mem_append.2 (.inr he)))) s) ?_
              rintro _ w ⟨rfl, s⟩
              replace s : St W (Own 37 2 Ae ((arcs (l.take 30)).length) c2 (egs (arcs (l.take 30))) :: Own 3 1 (some adr) R.length c4 (ints R) :: Own 3 1 A9 Q.length c10 (ints Q) :: L) w := s
              refine ⟨_, rfl, ?_⟩; clear ha; intro a ha
              refine st_val (.bool false) ha (by kernel_rfl) (by kernel_rfl) ?_
              clear ha; intro a ha
              refine st_val (.bool false) ha (by kernel_rfl) (by kernel_rfl) ?_
              clear ha; intro a ha
              refine wpList_nil ?_
              refine then_normal ?_
              refine wp_false ha rfl (by kernel_rfl) ?_
              refine wp_skip ?_
              refine block_normal ?_
              refine then_normal ?_
              refine wp_region_lit ?_
              refine st_val (.int .i64 ((i : Nat) : Int)) ha (by kernel_rfl) (by kernel_rfl) ?_
              clear ha; intro a ha
              refine st_val (.int .i64 ((i + 1 : Nat) : Int)) ha (by kernel_rfl) (run_arith (((i : Nat) : Int) + (1 : Int)) ((i + 1 : Nat) : Int) rfl (by kernel_rfl) (by kernel_rfl) (.inl ⟨rfl, rfl⟩) (by rw [wrap64_in (by omega)]; try omega) _) ?_
              clear ha; intro a ha
              refine st_val (.int .i64 ((i + 1 : Nat) : Int)) ha (by kernel_rfl) (by kernel_rfl) ?_
              clear ha; intro a ha
              refine wpList_nil ?_
              refine then_normal ?_
              exact ⟨(i + 1, Ae, (some adr)), (show R.length - (i + 1) < R.length - i by omega), (Has.cons ha (by kernel_rfl) (by kernel_rfl) (Has.cons ha (by kernel_rfl) (by kernel_rfl) (Has.cons ha (by kernel_rfl) (by kernel_rfl) (Has.cons ha (by kernel_rfl) (by kernel_rfl) (Has.nil ha))))), s, (show i + 1 ≤ R.length by omega)⟩
        · rw [hb] at ha; replace hb : ¬ (((i : Nat) : Int) < ((R.length : Nat) : Int)) := of_decide_eq_false hb
          refine wp_exit ?_
          refine then_exit ?_
          refine then_exit ?_
          refine block_hit ?_
          refine then_normal ?_
          refine wp_seq ?_
          refine wp_region_lit ?_
          refine st_val (.bool true) ha (by kernel_rfl) (by kernel_rfl) ?_
          clear ha; intro a ha
          refine wpList_nil ?_
          refine then_normal ?_
          refine wp_ret ?_
          refine ret_with (v := .bool true) ha (results_1 rfl ha (res_tmp (by kernel_rfl) (by kernel_rfl))) ?_
          replace s := s.tail.tail.tail
          replace s : St W (L) w := s
          exact ⟨rfl, s⟩

end Go.Proofs.Ytjdkpebnaohonaa.B
