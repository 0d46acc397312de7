import Derived.Test.YtjdkpebnaohonaaB5
namespace Go.Proofs.Ytjdkpebnaohonaa.B
open Go.RowKit Go.Maps Go.Proofs.Ytjdkpebnaohonaa.Sep Go.Proofs.Ytjdkpebnaohonaa.P
set_option linter.unusedVariables false
set_option linter.unusedSimpArgs false
theorem rings_good (W : World) (hW : W.drawn = 0) (L : List Chunk) (w : World) (A : Option Addr) (n c : Nat) (E : List Arc) (h1 : E.length ≤ 1000) (h2 : ∀ x ∈ E, okA x) (hr : Knows L fun w => Reads w 2 A n (egs E)) (hl : E.length = n) (s : St W L w) :
    Calls Try.prog 10 #[.slice A n c] w fun e w' => ∃ A' c' R, e = .returned (.tuple #[.slice A' R.length c', .int .i64 0]) ∧ RingsOf E R ∧ R.length ≤ 1000 ∧ St W (Own 3 1 A' R.length c' (ints R) :: L) w' := by
  refine (rings_any W hW L w A n c E hr hl (by omega) s).mono ?_
  rintro e w' ⟨A', c', R, er, rfl, hres, s⟩
  have hl := rings_len hres
  rcases hres with ⟨h, _⟩ | ⟨_, ⟨x, hx, hb⟩, _⟩ | ⟨_, _, rfl, hR⟩
  · omega
  · exact absurd (h2 x hx) hb
  · exact ⟨A', c', R, rfl, hR, hl, s⟩
/-- What Victim answers of edges and priorities that may be, whose rings are R. -/
def Goes (l : List Arc) (R : List Int) (id : Int) (is : Bool) : Prop := (R = [] ∧ id = 0 ∧ is = false) ∨ (R ≠ [] ∧ is = true ∧ IsMin (prio l) R id)
theorem victim_good (W : World) (hW : W.drawn = 0) (L : List Chunk) (w : World) (A : Option Addr) (n ca : Nat) (E : List Arc) (h1 : E.length ≤ 1000) (h2 : ∀ x ∈ E, okA x) (hr : Knows L fun w => Reads w 2 A n (egs E)) (hl : E.length = n)
    (B : Option Addr) (m cb : Nat) (l : List Arc) (hrb : Knows L fun w => Reads w 2 B m (egs l)) (hm : l.length = m) (h3 : l.length ≤ 1000) (h4 : whoOk l) (s : St W L w) :
    Calls Try.prog 11 #[.slice A n ca, .slice B m cb] w fun e w' => ∃ id is R, e = .returned (.tuple #[.int .i64 id, .bool is, .int .i64 0]) ∧ RingsOf E R ∧ Goes l R id is ∧ St W L w' := by
  refine (victim_any W hW L w A n ca E hr hl (by omega) B m cb l hrb hm (by omega) (fun x hx => by have := isIdB_iff.1 (h4.2 x hx).1; omega) s).mono ?_
  rintro e w' ⟨id, is, er, rfl, ⟨R, e0, hres, hv⟩, s⟩
  have hres2 := hres
  rcases hres with ⟨h, _⟩ | ⟨_, ⟨x, hx, hb⟩, _⟩ | ⟨_, _, rfl, hR⟩
  · omega
  · exact absurd (h2 x hx) hb
  · rcases hv with ⟨h, _⟩ | ⟨_, ⟨h, _⟩ | ⟨_, h, _⟩ | ⟨_, _, rfl, hg⟩⟩
    · exact absurd rfl h
    · omega
    · exact absurd h4 h
    · exact ⟨id, is, R, rfl, hR, hg, s⟩
theorem nodup_len {α : Type} [DecidableEq α] : ∀ {l m : List α}, l.Nodup → (∀ x ∈ l, x ∈ m) → l.length ≤ m.length := by
  intro l
  induction l with
  | nil => intro m _ _; simp
  | cons a l ih =>
    intro m hn hm
    obtain ⟨h1, h2⟩ := List.nodup_cons.1 hn
    have ha := hm a (by simp)
    have := ih (m := m.erase a) h2 fun x hx => (List.mem_erase_of_ne (fun e => h1 (by rw [← e]; exact hx))).2 (hm x (by simp [hx]))
    rw [List.length_erase_of_mem ha] at this
    have := List.length_pos_of_mem ha
    simp; omega
/-- Of the ids from 1 to 8, k are gone from the edges. -/
structure Gone (E : List Arc) (k : Nat) : Prop where
  ok : ∀ x ∈ E, okA x
  small : ∀ x ∈ E, 1 ≤ x.1 ∧ x.1 ≤ 8 ∧ 1 ≤ x.2 ∧ x.2 ≤ 8
  len : E.length ≤ 60
  gone : ∃ g : List Int, g.Nodup ∧ g.length = k ∧ (∀ x ∈ g, 1 ≤ x ∧ x ≤ 8) ∧ ∀ e ∈ E, e.1 ∉ g ∧ e.2 ∉ g
theorem Gone.start (l : List Int) : Gone (arcs l) 0 := ⟨arcs_ok, arcs_small, by rw [arcs_len]; omega, [], by simp, rfl, by simp, by simp⟩
theorem Gone.next {E : List Arc} {k : Nat} {id : Int} (g : Gone E k) (h : P.Way E id id) : Gone (withoutP E id) (k + 1) := by
  have sub : ∀ x ∈ withoutP E id, x ∈ E := fun x hx => (List.mem_filter.1 hx).1
  obtain ⟨q, q1, q2, q3, q4⟩ := g.gone
  obtain ⟨c, hc⟩ := h.first
  refine ⟨fun x hx => g.ok x (sub x hx), fun x hx => g.small x (sub x hx), Nat.le_trans (without_len E id) g.len, id :: q, ?_, by rw [List.length_cons, q2], ?_, ?_⟩
  · exact List.nodup_cons.2 ⟨(q4 _ hc).1, q1⟩
  · intro x hx
    rcases List.mem_cons.1 hx with rfl | hx
    · have := g.small _ hc; omega
    · exact q3 x hx
  · intro e he
    obtain ⟨h1, h2⟩ := List.mem_filter.1 he
    have := q4 e h1
    simp at h2
    simp [h2, this]
theorem Gone.none {E : List Arc} (g : Gone E 8) : E = [] := by
  obtain ⟨q, q1, q2, q3, q4⟩ := g.gone
  cases E with
  | nil => rfl
  | cons e E =>
    have hs := g.small e (by simp)
    have hn := (q4 e (by simp)).1
    have := nodup_len (l := e.1 :: q) (m := [1, 2, 3, 4, 5, 6, 7, 8]) (List.nodup_cons.2 ⟨hn, q1⟩) (by
      intro x hx
      have hb : 1 ≤ x ∧ x ≤ 8 := by
        rcases List.mem_cons.1 hx with rfl | hx
        · omega
        · exact q3 x hx
      simp; omega)
    simp at this
    omega
theorem rings_nil : RingsOf [] [] := ⟨by simp, fun a => ⟨by simp, fun h => by obtain ⟨c, hc⟩ := h.first; cases hc⟩⟩
theorem p8_at (p0 p1 p2 p3 p4 p5 p6 p7 : Int) {i : Nat} (h : i < 8) : ([.int .i64 p0, .int .i64 p1, .int .i64 p2, .int .i64 p3, .int .i64 p4, .int .i64 p5, .int .i64 p6, .int .i64 p7] : List Value)[i]? = some (.int .i64 ([p0, p1, p2, p3, p4, p5, p6, p7].getD i 0)) := by
  match i, h with
  | 0, _ => rfl
  | 1, _ => rfl
  | 2, _ => rfl
  | 3, _ => rfl
  | 4, _ => rfl
  | 5, _ => rfl
  | 6, _ => rfl
  | 7, _ => rfl
theorem who_up (p0 p1 p2 p3 p4 p5 p6 p7 : Int) : whoOk [(1, p0 % 4), (2, p1 % 4), (3, p2 % 4), (4, p3 % 4), (5, p4 % 4), (6, p5 % 4), (7, p6 % 4), (8, p7 % 4)] := by
  refine ⟨(show ([1, 2, 3, 4, 5, 6, 7, 8] : List Int).Nodup by decide), fun x hx => ?_⟩
  simp only [List.mem_cons, List.not_mem_nil, or_false] at hx
  rcases hx with rfl | rfl | rfl | rfl | rfl | rfl | rfl | rfl <;> exact ⟨isIdB_iff.2 (by dsimp only; omega), by dsimp only; omega, by dsimp only; omega⟩
theorem who_dn (p0 p1 p2 p3 p4 p5 p6 p7 : Int) : whoOk [(8, p7 % 4), (7, p6 % 4), (6, p5 % 4), (5, p4 % 4), (4, p3 % 4), (3, p2 % 4), (2, p1 % 4), (1, p0 % 4)] := by
  refine ⟨(show ([8, 7, 6, 5, 4, 3, 2, 1] : List Int).Nodup by decide), fun x hx => ?_⟩
  simp only [List.mem_cons, List.not_mem_nil, or_false] at hx
  rcases hx with rfl | rfl | rfl | rfl | rfl | rfl | rfl | rfl <;> exact ⟨isIdB_iff.2 (by dsimp only; omega), by dsimp only; omega, by dsimp only; omega⟩
theorem prio_dn (p0 p1 p2 p3 p4 p5 p6 p7 : Int) {x : Int} (h : 1 ≤ x ∧ x ≤ 8) : prio [(8, p7 % 4), (7, p6 % 4), (6, p5 % 4), (5, p4 % 4), (4, p3 % 4), (3, p2 % 4), (2, p1 % 4), (1, p0 % 4)] x = [p0, p1, p2, p3, p4, p5, p6, p7].getD (x - 1).toNat 0 % 4 := by
  have : x = 1 ∨ x = 2 ∨ x = 3 ∨ x = 4 ∨ x = 5 ∨ x = 6 ∨ x = 7 ∨ x = 8 := by omega
  rcases this with rfl | rfl | rfl | rfl | rfl | rfl | rfl | rfl <;> rfl
theorem up_at (p0 p1 p2 p3 p4 p5 p6 p7 : Int) {i : Nat} (h : i < 8) : ([(1, p0 % 4), (2, p1 % 4), (3, p2 % 4), (4, p3 % 4), (5, p4 % 4), (6, p5 % 4), (7, p6 % 4), (8, p7 % 4)] : List Arc)[i]? = some (((i + 1 : Nat) : Int), [p0, p1, p2, p3, p4, p5, p6, p7].getD i 0 % 4) := by
  match i, h with
  | 0, _ => rfl
  | 1, _ => rfl
  | 2, _ => rfl
  | 3, _ => rfl
  | 4, _ => rfl
  | 5, _ => rfl
  | 6, _ => rfl
  | 7, _ => rfl
theorem dn_at (p0 p1 p2 p3 p4 p5 p6 p7 : Int) {r : Nat} (h : 1 ≤ r ∧ r ≤ 8) : ([(8, p7 % 4), (7, p6 % 4), (6, p5 % 4), (5, p4 % 4), (4, p3 % 4), (3, p2 % 4), (2, p1 % 4), (1, p0 % 4)] : List Arc)[8 - r]? = some ((r : Int) - 1 + 1, [p0, p1, p2, p3, p4, p5, p6, p7].getD (r - 1) 0 % 4) := by
  match r, h with
  | 1, _ => rfl
  | 2, _ => rfl
  | 3, _ => rfl
  | 4, _ => rfl
  | 5, _ => rfl
  | 6, _ => rfl
  | 7, _ => rfl
  | 8, _ => rfl
theorem way_small {E : List Arc} (h : ∀ x ∈ E, 1 ≤ x.1 ∧ x.1 ≤ 8 ∧ 1 ≤ x.2 ∧ x.2 ≤ 8) {a b : Int} (w : P.Way E a b) : 1 ≤ b ∧ b ≤ 8 := by
  obtain ⟨c, hc⟩ := w.last
  have := h _ hc
  omega

set_option maxRecDepth 100000 in
set_option maxHeartbeats 4000000 in
theorem ends_any (W : World) (hW : W.drawn = 0) (L : List Chunk) (w : World) (A : Option Addr) (n ca : Nat) (l : List Int) (hra : Knows L fun w => Reads w 1 A n (ints l)) (hl : l.length = n) (hn : n ≤ 140737488351232) (p0 p1 p2 p3 p4 p5 p6 p7 : Int) (s : St W L w) :
    Calls Try.prog 5 #[.slice A n ca, .agg #[.int .i64 p0, .int .i64 p1, .int .i64 p2, .int .i64 p3, .int .i64 p4, .int .i64 p5, .int .i64 p6, .int .i64 p7]] w fun e w' => e = .returned (.bool true) ∧ St W L w' := by
  refine enter_args (l := [.slice A n ca, .agg #[.int .i64 p0, .int .i64 p1, .int .i64 p2, .int .i64 p3, .int .i64 p4, .int .i64 p5, .int .i64 p6, .int .i64 p7]]) Try.func5 rfl rfl (Nat.le_of_ble_eq_true rfl) ?_
  intro a ha; replace ha : Has a 62 [(0, .slice A n ca), (1, .agg #[.int .i64 p0, .int .i64 p1, .int .i64 p2, .int .i64 p3, .int .i64 p4, .int .i64 p5, .int .i64 p6, .int .i64 p7])] := ha
  refine wp_seq ?_
  refine wp_region_lit ?_
  refine st_ex ha (by kernel_rfl) (ex_box [.int .i64 p0, .int .i64 p1, .int .i64 p2, .int .i64 p3, .int .i64 p4, .int .i64 p5, .int .i64 p6, .int .i64 p7] s rfl (by kernel_rfl)) ?_
  clear ha; rintro _ w a ⟨g1, rfl, s⟩ ha
  replace s : St W (.blk g1 [.int .i64 p0, .int .i64 p1, .int .i64 p2, .int .i64 p3, .int .i64 p4, .int .i64 p5, .int .i64 p6, .int .i64 p7] 44 :: L) w := s
  refine st_val (.bool false) ha (by kernel_rfl) (by kernel_rfl) ?_
  clear ha; intro a ha
  refine wpList_nil ?_
  refine then_normal ?_
  refine wp_seq ?_
  refine wp_seq ?_
  refine wp_region_lit ?_
  refine st_call ha (by kernel_rfl) (by kernel_rfl) (works_true W hW _ w s) ?_
  rintro _ w ⟨rfl, s⟩
  replace s : St W (.blk g1 [.int .i64 p0, .int .i64 p1, .int .i64 p2, .int .i64 p3, .int .i64 p4, .int .i64 p5, .int .i64 p6, .int .i64 p7] 44 :: L) w := s
  refine ⟨_, rfl, ?_⟩; clear ha; intro a ha
  refine st_val (.bool false) ha (by kernel_rfl) (by kernel_rfl) ?_
  clear ha; intro a ha
  refine wpList_nil ?_
  refine then_normal ?_
  refine wp_false ha rfl (by kernel_rfl) ?_
  refine wp_skip ?_
  refine then_normal ?_
  refine wp_seq ?_
  refine wp_region_lit ?_
  refine st_val (.slice none 0 0) ha (by kernel_rfl) (by kernel_rfl) ?_
  clear ha; intro a ha
  refine wpList_nil ?_
  refine then_normal ?_
  refine wp_seq ?_
  refine wp_seq ?_
  refine wp_region_lit ?_
  refine st_val (.int .i64 0) ha (by kernel_rfl) (by kernel_rfl) ?_
  clear ha; intro a ha
  refine wpList_nil ?_
  refine then_normal ?_
  refine wp_block ?_
  replace s := Own.none_ (e := 34) (k := 2) none s
  refine wp_loopG (G := (Nat × Option Addr × Nat)) (fun ⟨k, Aw, cw⟩ a w => Has a 62 [(0, .slice A n ca), (3, .pointer (some ⟨g1, 0, none⟩)), (5, .slice Aw k cw), (6, .int .i64 ((k : Nat) : Int))] ∧ St W (Own 34 2 Aw k cw (egs (List.take (k) [(1, p0 % 4), (2, p1 % 4), (3, p2 % 4), (4, p3 % 4), (5, p4 % 4), (6, p5 % 4), (7, p6 % 4), (8, p7 % 4)])) :: .blk g1 [.int .i64 p0, .int .i64 p1, .int .i64 p2, .int .i64 p3, .int .i64 p4, .int .i64 p5, .int .i64 p6, .int .i64 p7] 44 :: L) w ∧ (k ≤ 8)) (fun ⟨k, Aw, cw⟩ => 8 - k) (0, none, 0) ?_ ?_
  · exact ⟨(Has.cons ha (by kernel_rfl) (by kernel_rfl) (Has.cons ha (by kernel_rfl) (by kernel_rfl) (Has.cons ha (by kernel_rfl) (by kernel_rfl) (Has.cons ha (by kernel_rfl) (by kernel_rfl) (Has.nil ha))))), s, (by omega)⟩
  · clear ha s; rintro ⟨k, Aw, cw⟩ a w ⟨ha, s, hp⟩
    refine wp_seq ?_
    refine wp_seq ?_
    refine wp_region_lit ?_
    refine st_val (.int .i64 ((k : Nat) : Int)) ha (by kernel_rfl) (by kernel_rfl) ?_
    clear ha; intro a ha
    refine st_val (.bool (decide (((k : Nat) : Int) < (8 : Int)))) ha (by kernel_rfl) (by kernel_rfl) ?_
    clear ha; intro a ha
    refine wpList_nil ?_
    refine then_normal ?_
    refine wp_part (decide (((k : Nat) : Int) < (8 : Int))) ha rfl (by kernel_rfl) (fun hb => ?_) (fun hb => ?_)
    · rw [hb] at ha; replace hb : (((k : Nat) : Int) < (8 : Int)) := of_decide_eq_true hb
      refine wp_skip ?_
      refine then_normal ?_
      refine wp_seq ?_
      refine wp_block ?_
      refine wp_region_lit ?_
      refine st_val (.slice Aw k cw) ha (by kernel_rfl) (by kernel_rfl) ?_
      clear ha; intro a ha
      refine st_val (.int .i64 ((k : Nat) : Int)) ha (by kernel_rfl) (by kernel_rfl) ?_
      clear ha; intro a ha
      refine st_val (.int .i64 ((k + 1 : Nat) : Int)) ha (by kernel_rfl) (run_arith (((k : Nat) : Int) + (1 : Int)) ((k + 1 : Nat) : Int) rfl (by kernel_rfl) (by kernel_rfl) (.inl ⟨rfl, rfl⟩) (by rw [wrap64_in (by omega)]; try omega) _) ?_
      clear ha; intro a ha
      refine st_val (.int .i64 ((k : Nat) : Int)) ha (by kernel_rfl) (by kernel_rfl) ?_
      clear ha; intro a ha
      refine st_val (.pointer (some ⟨g1, k, none⟩)) ha (by kernel_rfl) (run_indexArr (kd := .i64) (i := ((k : Nat) : Int)) k rfl Try.underlying44 Try.sizeOf3 (by kernel_rfl) (by kernel_rfl) rfl (by first | assumption | omega) _) ?_
      clear ha; intro a ha
      refine st_val (.int .i64 ([p0, p1, p2, p3, p4, p5, p6, p7].getD k 0)) ha (by kernel_rfl) (run_load1 (of_ := k) (s.blkIs 1 rfl) rfl (by kernel_rfl) Try.isAgg3 (p8_at p0 p1 p2 p3 p4 p5 p6 p7 (by omega))) ?_
      clear ha; intro a ha
      refine st_call ha (by kernel_rfl) (by kernel_rfl) (bring_any W _ w ([p0, p1, p2, p3, p4, p5, p6, p7].getD k 0) 4 (by omega) (by omega) s) ?_
      rintro _ w ⟨rfl, s⟩
      replace s : St W (Own 34 2 Aw k cw (egs (List.take (k) [(1, p0 % 4), (2, p1 % 4), (3, p2 % 4), (4, p3 % 4), (5, p4 % 4), (6, p5 % 4), (7, p6 % 4), (8, p7 % 4)])) :: .blk g1 [.int .i64 p0, .int .i64 p1, .int .i64 p2, .int .i64 p3, .int .i64 p4, .int .i64 p5, .int .i64 p6, .int .i64 p7] 44 :: L) w := s
      refine ⟨_, rfl, ?_⟩; clear ha; intro a ha
      refine st_val (.agg #[.int .i64 ((k + 1 : Nat) : Int), .int .i64 (([p0, p1, p2, p3, p4, p5, p6, p7].getD k 0) % 4)]) ha (by kernel_rfl) (by kernel_rfl) ?_
      clear ha; intro a ha
      refine st_ex ha (by kernel_rfl) (ex_buildSlice elt23 _ zs23 [.int .i64 ((k + 1 : Nat) : Int), .int .i64 (([p0, p1, p2, p3, p4, p5, p6, p7].getD k 0) % 4)] s rfl (by kernel_rfl) (by decide)) ?_
      clear ha; rintro _ w a ⟨g2, rfl, s⟩ ha
      replace s : St W (.blk g2 [.int .i64 ((k + 1 : Nat) : Int), .int .i64 (([p0, p1, p2, p3, p4, p5, p6, p7].getD k 0) % 4)] 34 :: Own 34 2 Aw k cw (egs (List.take (k) [(1, p0 % 4), (2, p1 % 4), (3, p2 % 4), (4, p3 % 4), (5, p4 % 4), (6, p5 % 4), (7, p6 % 4), (8, p7 % 4)])) :: .blk g1 [.int .i64 p0, .int .i64 p1, .int .i64 p2, .int .i64 p3, .int .i64 p4, .int .i64 p5, .int .i64 p6, .int .i64 p7] 44 :: L) w := s
      refine st_ex ha (by kernel_rfl) (ex_append (m := 1) (d' := 1) elt23 (by decide) 1 [.int .i64 ((k + 1 : Nat) : Int), .int .i64 (([p0, p1, p2, p3, p4, p5, p6, p7].getD k 0) % 4)] s rfl (by kernel_rfl) (by kernel_rfl) rfl (reads_blk (s.blkIs 0 rfl) rfl) (by simp [Value.oneCell']) (by simp only [maxLen]; omega) (by omega)) ?_
      clear ha; rintro _ w a ⟨A3, c4, rfl, hA_, s⟩ ha
      replace s : St W (.blk g2 [.int .i64 ((k + 1 : Nat) : Int), .int .i64 (([p0, p1, p2, p3, p4, p5, p6, p7].getD k 0) % 4)] 34 :: Own 34 2 A3 (k + 1) c4 ((egs (List.take (k) [(1, p0 % 4), (2, p1 % 4), (3, p2 % 4), (4, p3 % 4), (5, p4 % 4), (6, p5 % 4), (7, p6 % 4), (8, p7 % 4)])) ++ [.int .i64 ((k + 1 : Nat) : Int), .int .i64 (([p0, p1, p2, p3, p4, p5, p6, p7].getD k 0) % 4)]) :: .blk g1 [.int .i64 p0, .int .i64 p1, .int .i64 p2, .int .i64 p3, .int .i64 p4, .int .i64 p5, .int .i64 p6, .int .i64 p7] 44 :: L) w := s
      refine st_val (.slice A3 (k + 1) c4) ha (by kernel_rfl) (by kernel_rfl) ?_
      clear ha; intro a ha
      refine wpList_nil ?_
      refine block_normal ?_
      refine then_normal ?_
      refine wp_region_lit ?_
      refine st_val (.int .i64 ((k : Nat) : Int)) ha (by kernel_rfl) (by kernel_rfl) ?_
      clear ha; intro a ha
      refine st_val (.int .i64 ((k + 1 : Nat) : Int)) ha (by kernel_rfl) (run_arith (((k : Nat) : Int) + (1 : Int)) ((k + 1 : Nat) : Int) rfl (by kernel_rfl) (by kernel_rfl) (.inl ⟨rfl, rfl⟩) (by rw [wrap64_in (by omega)]; try omega) _) ?_
      clear ha; intro a ha
      refine st_val (.int .i64 ((k + 1 : Nat) : Int)) ha (by kernel_rfl) (by kernel_rfl) ?_
      clear ha; intro a ha
      refine wpList_nil ?_
      refine then_normal ?_
      replace s := s.at_ (j := 2) rfl
      replace s : St W (.blk g1 [.int .i64 p0, .int .i64 p1, .int .i64 p2, .int .i64 p3, .int .i64 p4, .int .i64 p5, .int .i64 p6, .int .i64 p7] 44 :: .blk g2 [.int .i64 ((k + 1 : Nat) : Int), .int .i64 (([p0, p1, p2, p3, p4, p5, p6, p7].getD k 0) % 4)] 34 :: Own 34 2 A3 (k + 1) c4 ((egs (List.take (k) [(1, p0 % 4), (2, p1 % 4), (3, p2 % 4), (4, p3 % 4), (5, p4 % 4), (6, p5 % 4), (7, p6 % 4), (8, p7 % 4)])) ++ [.int .i64 ((k + 1 : Nat) : Int), .int .i64 (([p0, p1, p2, p3, p4, p5, p6, p7].getD k 0) % 4)]) :: L) w := s
      replace s := s.at_ (j := 2) rfl
      replace s : St W (Own 34 2 A3 (k + 1) c4 ((egs (List.take (k) [(1, p0 % 4), (2, p1 % 4), (3, p2 % 4), (4, p3 % 4), (5, p4 % 4), (6, p5 % 4), (7, p6 % 4), (8, p7 % 4)])) ++ [.int .i64 ((k + 1 : Nat) : Int), .int .i64 (([p0, p1, p2, p3, p4, p5, p6, p7].getD k 0) % 4)]) :: .blk g1 [.int .i64 p0, .int .i64 p1, .int .i64 p2, .int .i64 p3, .int .i64 p4, .int .i64 p5, .int .i64 p6, .int .i64 p7] 44 :: .blk g2 [.int .i64 ((k + 1 : Nat) : Int), .int .i64 (([p0, p1, p2, p3, p4, p5, p6, p7].getD k 0) % 4)] 34 :: L) w := s
      replace s : St W (Own 34 2 A3 (k + 1) c4 ((egs (List.take (k) [(1, p0 % 4), (2, p1 % 4), (3, p2 % 4), (4, p3 % 4), (5, p4 % 4), (6, p5 % 4), (7, p6 % 4), (8, p7 % 4)])) ++ [.int .i64 ((k + 1 : Nat) : Int), .int .i64 (([p0, p1, p2, p3, p4, p5, p6, p7].getD k 0) % 4)]) :: .blk g1 [.int .i64 p0, .int .i64 p1, .int .i64 p2, .int .i64 p3, .int .i64 p4, .int .i64 p5, .int .i64 p6, .int .i64 p7] 44 :: L) w := St.mid (A := [Own 34 2 A3 (k + 1) c4 ((egs (List.take (k) [(1, p0 % 4), (2, p1 % 4), (3, p2 % 4), (4, p3 % 4), (5, p4 % 4), (6, p5 % 4), (7, p6 % 4), (8, p7 % 4)])) ++ [.int .i64 ((k + 1 : Nat) : Int), .int .i64 (([p0, p1, p2, p3, p4, p5, p6, p7].getD k 0) % 4)]), .blk g1 [.int .i64 p0, .int .i64 p1, .int .i64 p2, .int .i64 p3, .int .i64 p4, .int .i64 p5, .int .i64 p6, .int .i64 p7] 44]) (B := [.blk g2 [.int .i64 ((k + 1 : Nat) : Int), .int .i64 (([p0, p1, p2, p3, p4, p5, p6, p7].getD k 0) % 4)] 34]) s
      have hat := up_at p0 p1 p2 p3 p4 p5 p6 p7 (i := k) (by omega)
      replace s : St W (Own 34 2 A3 (k + 1) c4 (egs (List.take (k + 1) [(1, p0 % 4), (2, p1 % 4), (3, p2 % 4), (4, p3 % 4), (5, p4 % 4), (6, p5 % 4), (7, p6 % 4), (8, p7 % 4)])) :: .blk g1 [.int .i64 p0, .int .i64 p1, .int .i64 p2, .int .i64 p3, .int .i64 p4, .int .i64 p5, .int .i64 p6, .int .i64 p7] 44 :: L) w := by
        rw [egs_take hat]; exact s
      exact ⟨(k + 1, A3, c4), (show 8 - (k + 1) < 8 - k by omega), (Has.cons ha (by kernel_rfl) (by kernel_rfl) (Has.cons ha (by kernel_rfl) (by kernel_rfl) (Has.cons ha (by kernel_rfl) (by kernel_rfl) (Has.cons ha (by kernel_rfl) (by kernel_rfl) (Has.nil ha))))), s, (show k + 1 ≤ 8 by omega)⟩
    · rw [hb] at ha; replace hb : ¬ (((k : Nat) : Int) < (8 : Int)) := of_decide_eq_false hb
      have hk : k = 8 := by omega
      subst hk
      replace s : St W (Own 34 2 Aw 8 cw (egs [(1, p0 % 4), (2, p1 % 4), (3, p2 % 4), (4, p3 % 4), (5, p4 % 4), (6, p5 % 4), (7, p6 % 4), (8, p7 % 4)]) :: .blk g1 [.int .i64 p0, .int .i64 p1, .int .i64 p2, .int .i64 p3, .int .i64 p4, .int .i64 p5, .int .i64 p6, .int .i64 p7] 44 :: L) w := s
      refine wp_exit ?_
      refine then_exit ?_
      refine then_exit ?_
      refine block_hit ?_
      refine then_normal ?_
      refine wp_seq ?_
      refine wp_region_lit ?_
      refine st_val (.slice A n ca) ha (by kernel_rfl) (by kernel_rfl) ?_
      clear ha; intro a ha
      refine st_call ha (by kernel_rfl) (by kernel_rfl) (edges_any W _ w A n ca l (fun w s => hra w s.tail.tail) hl hn s) ?_
      rintro _ w ⟨A5, c6, rfl, s⟩
      replace s : St W (Own 37 2 A5 ((arcs l).length) c6 (egs (arcs l)) :: Own 34 2 Aw 8 cw (egs [(1, p0 % 4), (2, p1 % 4), (3, p2 % 4), (4, p3 % 4), (5, p4 % 4), (6, p5 % 4), (7, p6 % 4), (8, p7 % 4)]) :: .blk g1 [.int .i64 p0, .int .i64 p1, .int .i64 p2, .int .i64 p3, .int .i64 p4, .int .i64 p5, .int .i64 p6, .int .i64 p7] 44 :: L) w := s
      refine ⟨_, rfl, ?_⟩; clear ha; intro a ha
      refine st_val (.slice A5 ((arcs l).length) c6) ha (by kernel_rfl) (by kernel_rfl) ?_
      clear ha; intro a ha
      refine wpList_nil ?_
      refine then_normal ?_
      refine wp_seq ?_
      refine wp_seq ?_
      refine wp_region_lit ?_
      refine st_val (.int .i64 0) ha (by kernel_rfl) (by kernel_rfl) ?_
      clear ha; intro a ha
      refine wpList_nil ?_
      refine then_normal ?_
      refine wp_block ?_
      replace s : St W (Own 37 2 A5 ((arcs l).length) c6 (egs (arcs l)) :: Own 34 2 Aw 8 cw (egs [(1, p0 % 4), (2, p1 % 4), (3, p2 % 4), (4, p3 % 4), (5, p4 % 4), (6, p5 % 4), (7, p6 % 4), (8, p7 % 4)]) :: L) w := St.mid (A := [Own 37 2 A5 ((arcs l).length) c6 (egs (arcs l)), Own 34 2 Aw 8 cw (egs [(1, p0 % 4), (2, p1 % 4), (3, p2 % 4), (4, p3 % 4), (5, p4 % 4), (6, p5 % 4), (7, p6 % 4), (8, p7 % 4)])]) (B := [.blk g1 [.int .i64 p0, .int .i64 p1, .int .i64 p2, .int .i64 p3, .int .i64 p4, .int .i64 p5, .int .i64 p6, .int .i64 p7] 44]) s
      refine wp_loopG (G := (Nat × List Arc × Option Addr × Nat)) (fun ⟨k, E, Ax, cx⟩ a w => Has a 62 [(5, .slice Aw 8 cw), (7, .slice Ax E.length cx), (8, .int .i64 ((k : Nat) : Int))] ∧ St W (Own 37 2 Ax E.length cx (egs E) :: Own 34 2 Aw 8 cw (egs [(1, p0 % 4), (2, p1 % 4), (3, p2 % 4), (4, p3 % 4), (5, p4 % 4), (6, p5 % 4), (7, p6 % 4), (8, p7 % 4)]) :: L) w ∧ (k ≤ 8 ∧ Gone E k)) (fun ⟨k, E, Ax, cx⟩ => 8 - k) (0, arcs l, A5, c6) ?_ ?_
      · exact ⟨(Has.cons ha (by kernel_rfl) (by kernel_rfl) (Has.cons ha (by kernel_rfl) (by kernel_rfl) (Has.cons ha (by kernel_rfl) (by kernel_rfl) (Has.nil ha)))), s, ⟨Nat.zero_le _, Gone.start l⟩⟩
      · clear ha s; rintro ⟨k, E, Ax, cx⟩ a w ⟨ha, s, hp⟩
        refine wp_seq ?_
        refine wp_seq ?_
        refine wp_region_lit ?_
        refine st_val (.int .i64 ((k : Nat) : Int)) ha (by kernel_rfl) (by kernel_rfl) ?_
        clear ha; intro a ha
        refine st_val (.bool (decide (((k : Nat) : Int) < (8 : Int)))) ha (by kernel_rfl) (by kernel_rfl) ?_
        clear ha; intro a ha
        refine wpList_nil ?_
        refine then_normal ?_
        refine wp_part (decide (((k : Nat) : Int) < (8 : Int))) ha rfl (by kernel_rfl) (fun hb => ?_) (fun hb => ?_)
        · rw [hb] at ha; replace hb : (((k : Nat) : Int) < (8 : Int)) := of_decide_eq_true hb
          refine wp_skip ?_
          refine then_normal ?_
          refine wp_seq ?_
          refine wp_block ?_
          refine wp_seq ?_
          refine wp_region_lit ?_
          refine st_val (.slice Ax E.length cx) ha (by kernel_rfl) (by kernel_rfl) ?_
          clear ha; intro a ha
          refine st_val (.slice Aw 8 cw) ha (by kernel_rfl) (by kernel_rfl) ?_
          clear ha; intro a ha
          refine st_call ha (by kernel_rfl) (by kernel_rfl) (victim_good W hW _ w Ax E.length cx E (by have := hp.2.len; omega) hp.2.ok (Knows.own (j := 0) rfl) rfl Aw 8 cw [(1, p0 % 4), (2, p1 % 4), (3, p2 % 4), (4, p3 % 4), (5, p4 % 4), (6, p5 % 4), (7, p6 % 4), (8, p7 % 4)] (Knows.own (j := 1) rfl) rfl (show 8 ≤ 1000 by decide) (who_up p0 p1 p2 p3 p4 p5 p6 p7) s) ?_
          rintro _ w ⟨id, is, R, rfl, hR, hG, s⟩
          replace s : St W (Own 37 2 Ax E.length cx (egs E) :: Own 34 2 Aw 8 cw (egs [(1, p0 % 4), (2, p1 % 4), (3, p2 % 4), (4, p3 % 4), (5, p4 % 4), (6, p5 % 4), (7, p6 % 4), (8, p7 % 4)]) :: L) w := s
          refine ⟨_, rfl, ?_⟩; clear ha; intro a ha
          refine st_val (.tuple #[.int .i64 id, .bool is, .int .i64 0]) ha (by kernel_rfl) (by kernel_rfl) ?_
          clear ha; intro a ha
          refine st_val (.int .i64 id) ha (by kernel_rfl) (by kernel_rfl) ?_
          clear ha; intro a ha
          refine st_val (.bool is) ha (by kernel_rfl) (by kernel_rfl) ?_
          clear ha; intro a ha
          refine st_val (.int .i64 0) ha (by kernel_rfl) (by kernel_rfl) ?_
          clear ha; intro a ha
          refine st_val (.int .i64 id) ha (by kernel_rfl) (by kernel_rfl) ?_
          clear ha; intro a ha
          refine st_val (.bool is) ha (by kernel_rfl) (by kernel_rfl) ?_
          clear ha; intro a ha
          refine st_val (.int .i64 0) ha (by kernel_rfl) (by kernel_rfl) ?_
          clear ha; intro a ha
          refine wpList_nil ?_
          refine then_normal ?_
          refine wp_seq ?_
          refine wp_seq ?_
          refine wp_region_lit ?_
          refine st_val (.int .i64 0) ha (by kernel_rfl) (by kernel_rfl) ?_
          clear ha; intro a ha
          refine st_val (.bool false) ha (by kernel_rfl) (by kernel_rfl) ?_
          clear ha; intro a ha
          refine wpList_nil ?_
          refine then_normal ?_
          refine wp_false ha rfl (by kernel_rfl) ?_
          refine wp_skip ?_
          refine then_normal ?_
          refine wp_seq ?_
          refine wp_seq ?_
          refine wp_region_lit ?_
          refine st_val (.bool is) ha (by kernel_rfl) (by kernel_rfl) ?_
          clear ha; intro a ha
          refine st_val (.bool (!is)) ha (by kernel_rfl) (by kernel_rfl) ?_
          clear ha; intro a ha
          refine wpList_nil ?_
          refine then_normal ?_
          refine wp_part (!is) ha rfl (by kernel_rfl) (fun hb => ?_) (fun hb => ?_)
          · rw [hb] at ha; skip
            have hnil : RingsOf E [] := by
              rcases hG with ⟨rfl, _⟩ | ⟨_, rfl, _⟩
              · exact hR
              · cases hb
            refine wp_exit ?_
            refine then_exit ?_
            refine block_miss (by rfl) ?_
            refine then_exit ?_
            refine then_exit ?_
            refine block_hit ?_
            refine then_normal ?_
            refine wp_seq ?_
            refine wp_region_lit ?_
            refine st_val (.slice Ax E.length cx) ha (by kernel_rfl) (by kernel_rfl) ?_
            clear ha; intro a ha
            refine st_call ha (by kernel_rfl) (by kernel_rfl) (rings_is W hW _ w Ax E.length cx E 0 [] (rings_ok_of (by have := hp.2.len; omega) hp.2.ok hnil) (Knows.own (j := 0) rfl) rfl (by have := hp.2.len; omega) s) ?_
            rintro _ w ⟨A7, c8, rfl, s⟩
            replace s : St W (Own 3 1 A7 0 c8 (ints []) :: Own 37 2 Ax E.length cx (egs E) :: Own 34 2 Aw 8 cw (egs [(1, p0 % 4), (2, p1 % 4), (3, p2 % 4), (4, p3 % 4), (5, p4 % 4), (6, p5 % 4), (7, p6 % 4), (8, p7 % 4)]) :: L) w := s
            refine ⟨_, rfl, ?_⟩; clear ha; intro a ha
            refine st_val (.tuple #[.slice A7 0 c8, .int .i64 0]) ha (by kernel_rfl) (by kernel_rfl) ?_
            clear ha; intro a ha
            refine st_val (.slice A7 0 c8) ha (by kernel_rfl) (by kernel_rfl) ?_
            clear ha; intro a ha
            refine st_val (.int .i64 0) ha (by kernel_rfl) (by kernel_rfl) ?_
            clear ha; intro a ha
            refine st_val (.slice A7 0 c8) ha (by kernel_rfl) (by kernel_rfl) ?_
            clear ha; intro a ha
            refine st_val (.int .i64 0) ha (by kernel_rfl) (by kernel_rfl) ?_
            clear ha; intro a ha
            refine wpList_nil ?_
            refine then_normal ?_
            refine wp_seq ?_
            refine wp_region_lit ?_
            refine st_val (.int .i64 0) ha (by kernel_rfl) (by kernel_rfl) ?_
            clear ha; intro a ha
            refine st_val (.bool true) ha (by kernel_rfl) (by kernel_rfl) ?_
            clear ha; intro a ha
            refine st_val (.bool true) ha (by kernel_rfl) (by kernel_rfl) ?_
            clear ha; intro a ha
            refine st_val (.slice A7 0 c8) ha (by kernel_rfl) (by kernel_rfl) ?_
            clear ha; intro a ha
            refine st_val (.int .i64 0) ha (by kernel_rfl) (by kernel_rfl) ?_
            clear ha; intro a ha
            refine st_val (.bool true) ha (by kernel_rfl) (by kernel_rfl) ?_
            clear ha; intro a ha
            refine st_val (.bool true) ha (by kernel_rfl) (by kernel_rfl) ?_
            clear ha; intro a ha
            refine st_val (.bool true) ha (by kernel_rfl) (by kernel_rfl) ?_
            clear ha; intro a ha
            refine wpList_nil ?_
            refine then_normal ?_
            refine wp_ret ?_
            refine ret_with (v := .bool true) ha (results_1 rfl ha (res_tmp (by kernel_rfl) (by kernel_rfl))) ?_
            replace s := s.tail.tail.tail
            replace s : St W (L) w := s
            exact ⟨rfl, s⟩
          · rw [hb] at ha; skip
            have hway : P.Way E id id := by
              rcases hG with ⟨_, _, rfl⟩ | ⟨_, _, hm⟩
              · cases hb
              · exact (hR.mem id).1 hm.mem
            refine wp_skip ?_
            refine then_normal ?_
            refine wp_region_lit ?_
            refine st_val (.slice Ax E.length cx) ha (by kernel_rfl) (by kernel_rfl) ?_
            clear ha; intro a ha
            refine st_val (.int .i64 id) ha (by kernel_rfl) (by kernel_rfl) ?_
            clear ha; intro a ha
            refine st_call ha (by kernel_rfl) (by kernel_rfl) (without_any W _ w Ax E.length cx E id (Knows.own (j := 0) rfl) rfl (by have := hp.2.len; omega) s) ?_
            rintro _ w ⟨A9, c10, rfl, s⟩
            replace s : St W (Own 37 2 A9 ((withoutP E id).length) c10 (egs (withoutP E id)) :: Own 37 2 Ax E.length cx (egs E) :: Own 34 2 Aw 8 cw (egs [(1, p0 % 4), (2, p1 % 4), (3, p2 % 4), (4, p3 % 4), (5, p4 % 4), (6, p5 % 4), (7, p6 % 4), (8, p7 % 4)]) :: L) w := s
            refine ⟨_, rfl, ?_⟩; clear ha; intro a ha
            refine st_val (.slice A9 ((withoutP E id).length) c10) ha (by kernel_rfl) (by kernel_rfl) ?_
            clear ha; intro a ha
            refine wpList_nil ?_
            refine block_normal ?_
            refine then_normal ?_
            refine wp_region_lit ?_
            refine st_val (.int .i64 ((k : Nat) : Int)) ha (by kernel_rfl) (by kernel_rfl) ?_
            clear ha; intro a ha
            refine st_val (.int .i64 ((k + 1 : Nat) : Int)) ha (by kernel_rfl) (run_arith (((k : Nat) : Int) + (1 : Int)) ((k + 1 : Nat) : Int) rfl (by kernel_rfl) (by kernel_rfl) (.inl ⟨rfl, rfl⟩) (by rw [wrap64_in (by omega)]; try omega) _) ?_
            clear ha; intro a ha
            refine st_val (.int .i64 ((k + 1 : Nat) : Int)) ha (by kernel_rfl) (by kernel_rfl) ?_
            clear ha; intro a ha
            refine wpList_nil ?_
            refine then_normal ?_
            replace s := s.at_ (j := 2) rfl
            replace s : St W (Own 34 2 Aw 8 cw (egs [(1, p0 % 4), (2, p1 % 4), (3, p2 % 4), (4, p3 % 4), (5, p4 % 4), (6, p5 % 4), (7, p6 % 4), (8, p7 % 4)]) :: Own 37 2 A9 ((withoutP E id).length) c10 (egs (withoutP E id)) :: Own 37 2 Ax E.length cx (egs E) :: L) w := s
            replace s := s.at_ (j := 1) rfl
            replace s : St W (Own 37 2 A9 ((withoutP E id).length) c10 (egs (withoutP E id)) :: Own 34 2 Aw 8 cw (egs [(1, p0 % 4), (2, p1 % 4), (3, p2 % 4), (4, p3 % 4), (5, p4 % 4), (6, p5 % 4), (7, p6 % 4), (8, p7 % 4)]) :: Own 37 2 Ax E.length cx (egs E) :: L) w := s
            replace s : St W (Own 37 2 A9 ((withoutP E id).length) c10 (egs (withoutP E id)) :: Own 34 2 Aw 8 cw (egs [(1, p0 % 4), (2, p1 % 4), (3, p2 % 4), (4, p3 % 4), (5, p4 % 4), (6, p5 % 4), (7, p6 % 4), (8, p7 % 4)]) :: L) w := St.mid (A := [Own 37 2 A9 ((withoutP E id).length) c10 (egs (withoutP E id)), Own 34 2 Aw 8 cw (egs [(1, p0 % 4), (2, p1 % 4), (3, p2 % 4), (4, p3 % 4), (5, p4 % 4), (6, p5 % 4), (7, p6 % 4), (8, p7 % 4)])]) (B := [Own 37 2 Ax E.length cx (egs E)]) s
            exact ⟨(k + 1, withoutP E id, A9, c10), (show 8 - (k + 1) < 8 - k by omega), (Has.cons ha (by kernel_rfl) (by kernel_rfl) (Has.cons ha (by kernel_rfl) (by kernel_rfl) (Has.cons ha (by kernel_rfl) (by kernel_rfl) (Has.nil ha)))), s, by omega, hp.2.next hway⟩
        · rw [hb] at ha; replace hb : ¬ (((k : Nat) : Int) < (8 : Int)) := of_decide_eq_false hb
          have hnil : RingsOf E [] := by
            have hk : k = 8 := by omega
            have hg := hp.2
            rw [hk] at hg
            rw [hg.none]; exact rings_nil
          refine wp_exit ?_
          refine then_exit ?_
          refine then_exit ?_
          refine block_hit ?_
          refine then_normal ?_
          refine wp_seq ?_
          refine wp_region_lit ?_
          refine st_val (.slice Ax E.length cx) ha (by kernel_rfl) (by kernel_rfl) ?_
          clear ha; intro a ha
          refine st_call ha (by kernel_rfl) (by kernel_rfl) (rings_is W hW _ w Ax E.length cx E 0 [] (rings_ok_of (by have := hp.2.len; omega) hp.2.ok hnil) (Knows.own (j := 0) rfl) rfl (by have := hp.2.len; omega) s) ?_
          rintro _ w ⟨A11, c12, rfl, s⟩
          replace s : St W (Own 3 1 A11 0 c12 (ints []) :: Own 37 2 Ax E.length cx (egs E) :: Own 34 2 Aw 8 cw (egs [(1, p0 % 4), (2, p1 % 4), (3, p2 % 4), (4, p3 % 4), (5, p4 % 4), (6, p5 % 4), (7, p6 % 4), (8, p7 % 4)]) :: L) w := s
          refine ⟨_, rfl, ?_⟩; clear ha; intro a ha
          refine st_val (.tuple #[.slice A11 0 c12, .int .i64 0]) ha (by kernel_rfl) (by kernel_rfl) ?_
          clear ha; intro a ha
          refine st_val (.slice A11 0 c12) ha (by kernel_rfl) (by kernel_rfl) ?_
          clear ha; intro a ha
          refine st_val (.int .i64 0) ha (by kernel_rfl) (by kernel_rfl) ?_
          clear ha; intro a ha
          refine st_val (.slice A11 0 c12) ha (by kernel_rfl) (by kernel_rfl) ?_
          clear ha; intro a ha
          refine st_val (.int .i64 0) ha (by kernel_rfl) (by kernel_rfl) ?_
          clear ha; intro a ha
          refine wpList_nil ?_
          refine then_normal ?_
          refine wp_seq ?_
          refine wp_region_lit ?_
          refine st_val (.int .i64 0) ha (by kernel_rfl) (by kernel_rfl) ?_
          clear ha; intro a ha
          refine st_val (.bool true) ha (by kernel_rfl) (by kernel_rfl) ?_
          clear ha; intro a ha
          refine st_val (.bool true) ha (by kernel_rfl) (by kernel_rfl) ?_
          clear ha; intro a ha
          refine st_val (.slice A11 0 c12) ha (by kernel_rfl) (by kernel_rfl) ?_
          clear ha; intro a ha
          refine st_val (.int .i64 0) ha (by kernel_rfl) (by kernel_rfl) ?_
          clear ha; intro a ha
          refine st_val (.bool true) ha (by kernel_rfl) (by kernel_rfl) ?_
          clear ha; intro a ha
          refine st_val (.bool true) ha (by kernel_rfl) (by kernel_rfl) ?_
          clear ha; intro a ha
          refine st_val (.bool true) ha (by kernel_rfl) (by kernel_rfl) ?_
          clear ha; intro a ha
          refine wpList_nil ?_
          refine then_normal ?_
          refine wp_ret ?_
          refine ret_with (v := .bool true) ha (results_1 rfl ha (res_tmp (by kernel_rfl) (by kernel_rfl))) ?_
          replace s := s.tail.tail.tail
          replace s : St W (L) w := s
          exact ⟨rfl, s⟩

set_option maxRecDepth 100000 in
set_option maxHeartbeats 4000000 in
theorem least_any (W : World) (hW : W.drawn = 0) (L : List Chunk) (w : World) (A : Option Addr) (n ca : Nat) (l : List Int) (hra : Knows L fun w => Reads w 1 A n (ints l)) (hl : l.length = n) (hn : n ≤ 140737488351232) (p0 p1 p2 p3 p4 p5 p6 p7 : Int) (s : St W L w) :
    Calls Try.prog 6 #[.slice A n ca, .agg #[.int .i64 p0, .int .i64 p1, .int .i64 p2, .int .i64 p3, .int .i64 p4, .int .i64 p5, .int .i64 p6, .int .i64 p7]] w fun e w' => e = .returned (.bool true) ∧ St W L w' := by
  refine enter_args (l := [.slice A n ca, .agg #[.int .i64 p0, .int .i64 p1, .int .i64 p2, .int .i64 p3, .int .i64 p4, .int .i64 p5, .int .i64 p6, .int .i64 p7]]) Try.func6 rfl rfl (Nat.le_of_ble_eq_true rfl) ?_
  intro a ha; replace ha : Has a 122 [(0, .slice A n ca), (1, .agg #[.int .i64 p0, .int .i64 p1, .int .i64 p2, .int .i64 p3, .int .i64 p4, .int .i64 p5, .int .i64 p6, .int .i64 p7])] := ha
  refine wp_seq ?_
  refine wp_region_lit ?_
  refine st_ex ha (by kernel_rfl) (ex_box [.int .i64 p0, .int .i64 p1, .int .i64 p2, .int .i64 p3, .int .i64 p4, .int .i64 p5, .int .i64 p6, .int .i64 p7] s rfl (by kernel_rfl)) ?_
  clear ha; rintro _ w a ⟨g1, rfl, s⟩ ha
  replace s : St W (.blk g1 [.int .i64 p0, .int .i64 p1, .int .i64 p2, .int .i64 p3, .int .i64 p4, .int .i64 p5, .int .i64 p6, .int .i64 p7] 44 :: L) w := s
  refine st_val (.bool false) ha (by kernel_rfl) (by kernel_rfl) ?_
  clear ha; intro a ha
  refine wpList_nil ?_
  refine then_normal ?_
  refine wp_seq ?_
  refine wp_seq ?_
  refine wp_region_lit ?_
  refine st_call ha (by kernel_rfl) (by kernel_rfl) (works_true W hW _ w s) ?_
  rintro _ w ⟨rfl, s⟩
  replace s : St W (.blk g1 [.int .i64 p0, .int .i64 p1, .int .i64 p2, .int .i64 p3, .int .i64 p4, .int .i64 p5, .int .i64 p6, .int .i64 p7] 44 :: L) w := s
  refine ⟨_, rfl, ?_⟩; clear ha; intro a ha
  refine st_val (.bool false) ha (by kernel_rfl) (by kernel_rfl) ?_
  clear ha; intro a ha
  refine wpList_nil ?_
  refine then_normal ?_
  refine wp_false ha rfl (by kernel_rfl) ?_
  refine wp_skip ?_
  refine then_normal ?_
  refine wp_seq ?_
  refine wp_region_lit ?_
  refine st_val (.slice none 0 0) ha (by kernel_rfl) (by kernel_rfl) ?_
  clear ha; intro a ha
  refine wpList_nil ?_
  refine then_normal ?_
  refine wp_seq ?_
  refine wp_seq ?_
  refine wp_region_lit ?_
  refine st_val (.int .i64 7) ha (by kernel_rfl) (by kernel_rfl) ?_
  clear ha; intro a ha
  refine wpList_nil ?_
  refine then_normal ?_
  refine wp_block ?_
  replace s := Own.none_ (e := 34) (k := 2) none s
  refine wp_loopG (G := (Nat × Option Addr × Nat)) (fun ⟨k, Aw, cw⟩ a w => Has a 122 [(0, .slice A n ca), (3, .pointer (some ⟨g1, 0, none⟩)), (5, .slice Aw (8 - k) cw), (6, .int .i64 (((k : Nat) : Int) - 1))] ∧ St W (Own 34 2 Aw (8 - k) cw (egs (List.take (8 - k) [(8, p7 % 4), (7, p6 % 4), (6, p5 % 4), (5, p4 % 4), (4, p3 % 4), (3, p2 % 4), (2, p1 % 4), (1, p0 % 4)])) :: .blk g1 [.int .i64 p0, .int .i64 p1, .int .i64 p2, .int .i64 p3, .int .i64 p4, .int .i64 p5, .int .i64 p6, .int .i64 p7] 44 :: L) w ∧ (k ≤ 8)) (fun ⟨k, Aw, cw⟩ => k) (8, none, 0) ?_ ?_
  · exact ⟨(Has.cons ha (by kernel_rfl) (by kernel_rfl) (Has.cons ha (by kernel_rfl) (by kernel_rfl) (Has.cons ha (by kernel_rfl) (by kernel_rfl) (Has.cons ha (by kernel_rfl) (by kernel_rfl) (Has.nil ha))))), s, (by omega)⟩
  · clear ha s; rintro ⟨k, Aw, cw⟩ a w ⟨ha, s, hp⟩
    refine wp_seq ?_
    refine wp_seq ?_
    refine wp_region_lit ?_
    refine st_val (.int .i64 (((k : Nat) : Int) - 1)) ha (by kernel_rfl) (by kernel_rfl) ?_
    clear ha; intro a ha
    refine st_val (.bool (decide ((((k : Nat) : Int) - 1) ≥ (0 : Int)))) ha (by kernel_rfl) (by kernel_rfl) ?_
    clear ha; intro a ha
    refine wpList_nil ?_
    refine then_normal ?_
    refine wp_part (decide ((((k : Nat) : Int) - 1) ≥ (0 : Int))) ha rfl (by kernel_rfl) (fun hb => ?_) (fun hb => ?_)
    · rw [hb] at ha; replace hb : ((((k : Nat) : Int) - 1) ≥ (0 : Int)) := of_decide_eq_true hb
      refine wp_skip ?_
      refine then_normal ?_
      refine wp_seq ?_
      refine wp_block ?_
      refine wp_region_lit ?_
      refine st_val (.slice Aw (8 - k) cw) ha (by kernel_rfl) (by kernel_rfl) ?_
      clear ha; intro a ha
      refine st_val (.int .i64 (((k : Nat) : Int) - 1)) ha (by kernel_rfl) (by kernel_rfl) ?_
      clear ha; intro a ha
      refine st_val (.int .i64 ((((k : Nat) : Int) - 1) + (1 : Int))) ha (by kernel_rfl) (run_arith ((((k : Nat) : Int) - 1) + (1 : Int)) ((((k : Nat) : Int) - 1) + (1 : Int)) rfl (by kernel_rfl) (by kernel_rfl) (.inl ⟨rfl, rfl⟩) (by rw [wrap64_in (by omega)]) _) ?_
      clear ha; intro a ha
      refine st_val (.int .i64 (((k : Nat) : Int) - 1)) ha (by kernel_rfl) (by kernel_rfl) ?_
      clear ha; intro a ha
      refine st_val (.pointer (some ⟨g1, (k - 1), none⟩)) ha (by kernel_rfl) (run_indexArr (kd := .i64) (i := (((k : Nat) : Int) - 1)) (k - 1) rfl Try.underlying44 Try.sizeOf3 (by kernel_rfl) (by kernel_rfl) (by omega) (by first | assumption | omega) _) ?_
      clear ha; intro a ha
      refine st_val (.int .i64 ([p0, p1, p2, p3, p4, p5, p6, p7].getD (k - 1) 0)) ha (by kernel_rfl) (run_load1 (of_ := (k - 1)) (s.blkIs 1 rfl) rfl (by kernel_rfl) Try.isAgg3 (p8_at p0 p1 p2 p3 p4 p5 p6 p7 (by omega))) ?_
      clear ha; intro a ha
      refine st_call ha (by kernel_rfl) (by kernel_rfl) (bring_any W _ w ([p0, p1, p2, p3, p4, p5, p6, p7].getD (k - 1) 0) 4 (by omega) (by omega) s) ?_
      rintro _ w ⟨rfl, s⟩
      replace s : St W (Own 34 2 Aw (8 - k) cw (egs (List.take (8 - k) [(8, p7 % 4), (7, p6 % 4), (6, p5 % 4), (5, p4 % 4), (4, p3 % 4), (3, p2 % 4), (2, p1 % 4), (1, p0 % 4)])) :: .blk g1 [.int .i64 p0, .int .i64 p1, .int .i64 p2, .int .i64 p3, .int .i64 p4, .int .i64 p5, .int .i64 p6, .int .i64 p7] 44 :: L) w := s
      refine ⟨_, rfl, ?_⟩; clear ha; intro a ha
      refine st_val (.agg #[.int .i64 ((((k : Nat) : Int) - 1) + (1 : Int)), .int .i64 (([p0, p1, p2, p3, p4, p5, p6, p7].getD (k - 1) 0) % 4)]) ha (by kernel_rfl) (by kernel_rfl) ?_
      clear ha; intro a ha
      refine st_ex ha (by kernel_rfl) (ex_buildSlice elt23 _ zs23 [.int .i64 ((((k : Nat) : Int) - 1) + (1 : Int)), .int .i64 (([p0, p1, p2, p3, p4, p5, p6, p7].getD (k - 1) 0) % 4)] s rfl (by kernel_rfl) (by decide)) ?_
      clear ha; rintro _ w a ⟨g2, rfl, s⟩ ha
      replace s : St W (.blk g2 [.int .i64 ((((k : Nat) : Int) - 1) + (1 : Int)), .int .i64 (([p0, p1, p2, p3, p4, p5, p6, p7].getD (k - 1) 0) % 4)] 34 :: Own 34 2 Aw (8 - k) cw (egs (List.take (8 - k) [(8, p7 % 4), (7, p6 % 4), (6, p5 % 4), (5, p4 % 4), (4, p3 % 4), (3, p2 % 4), (2, p1 % 4), (1, p0 % 4)])) :: .blk g1 [.int .i64 p0, .int .i64 p1, .int .i64 p2, .int .i64 p3, .int .i64 p4, .int .i64 p5, .int .i64 p6, .int .i64 p7] 44 :: L) w := s
      refine st_ex ha (by kernel_rfl) (ex_append (m := 1) (d' := 1) elt23 (by decide) 1 [.int .i64 ((((k : Nat) : Int) - 1) + (1 : Int)), .int .i64 (([p0, p1, p2, p3, p4, p5, p6, p7].getD (k - 1) 0) % 4)] s rfl (by kernel_rfl) (by kernel_rfl) rfl (reads_blk (s.blkIs 0 rfl) rfl) (by simp [Value.oneCell']) (by simp only [maxLen]; omega) (by omega)) ?_
      clear ha; rintro _ w a ⟨A3, c4, rfl, hA_, s⟩ ha
      replace s : St W (.blk g2 [.int .i64 ((((k : Nat) : Int) - 1) + (1 : Int)), .int .i64 (([p0, p1, p2, p3, p4, p5, p6, p7].getD (k - 1) 0) % 4)] 34 :: Own 34 2 A3 (8 - k + 1) c4 ((egs (List.take (8 - k) [(8, p7 % 4), (7, p6 % 4), (6, p5 % 4), (5, p4 % 4), (4, p3 % 4), (3, p2 % 4), (2, p1 % 4), (1, p0 % 4)])) ++ [.int .i64 ((((k : Nat) : Int) - 1) + (1 : Int)), .int .i64 (([p0, p1, p2, p3, p4, p5, p6, p7].getD (k - 1) 0) % 4)]) :: .blk g1 [.int .i64 p0, .int .i64 p1, .int .i64 p2, .int .i64 p3, .int .i64 p4, .int .i64 p5, .int .i64 p6, .int .i64 p7] 44 :: L) w := s
      refine st_val (.slice A3 (8 - k + 1) c4) ha (by kernel_rfl) (by kernel_rfl) ?_
      clear ha; intro a ha
      refine wpList_nil ?_
      refine block_normal ?_
      refine then_normal ?_
      refine wp_region_lit ?_
      refine st_val (.int .i64 (((k : Nat) : Int) - 1)) ha (by kernel_rfl) (by kernel_rfl) ?_
      clear ha; intro a ha
      refine st_val (.int .i64 ((((k : Nat) : Int) - 1) - (1 : Int))) ha (by kernel_rfl) (run_arith ((((k : Nat) : Int) - 1) - (1 : Int)) ((((k : Nat) : Int) - 1) - (1 : Int)) rfl (by kernel_rfl) (by kernel_rfl) (.inr (.inl ⟨rfl, rfl⟩)) (by rw [wrap64_in (by omega)]) _) ?_
      clear ha; intro a ha
      refine st_val (.int .i64 ((((k : Nat) : Int) - 1) - (1 : Int))) ha (by kernel_rfl) (by kernel_rfl) ?_
      clear ha; intro a ha
      refine wpList_nil ?_
      refine then_normal ?_
      replace s := s.at_ (j := 2) rfl
      replace s : St W (.blk g1 [.int .i64 p0, .int .i64 p1, .int .i64 p2, .int .i64 p3, .int .i64 p4, .int .i64 p5, .int .i64 p6, .int .i64 p7] 44 :: .blk g2 [.int .i64 ((((k : Nat) : Int) - 1) + (1 : Int)), .int .i64 (([p0, p1, p2, p3, p4, p5, p6, p7].getD (k - 1) 0) % 4)] 34 :: Own 34 2 A3 (8 - k + 1) c4 ((egs (List.take (8 - k) [(8, p7 % 4), (7, p6 % 4), (6, p5 % 4), (5, p4 % 4), (4, p3 % 4), (3, p2 % 4), (2, p1 % 4), (1, p0 % 4)])) ++ [.int .i64 ((((k : Nat) : Int) - 1) + (1 : Int)), .int .i64 (([p0, p1, p2, p3, p4, p5, p6, p7].getD (k - 1) 0) % 4)]) :: L) w := s
      replace s := s.at_ (j := 2) rfl
      replace s : St W (Own 34 2 A3 (8 - k + 1) c4 ((egs (List.take (8 - k) [(8, p7 % 4), (7, p6 % 4), (6, p5 % 4), (5, p4 % 4), (4, p3 % 4), (3, p2 % 4), (2, p1 % 4), (1, p0 % 4)])) ++ [.int .i64 ((((k : Nat) : Int) - 1) + (1 : Int)), .int .i64 (([p0, p1, p2, p3, p4, p5, p6, p7].getD (k - 1) 0) % 4)]) :: .blk g1 [.int .i64 p0, .int .i64 p1, .int .i64 p2, .int .i64 p3, .int .i64 p4, .int .i64 p5, .int .i64 p6, .int .i64 p7] 44 :: .blk g2 [.int .i64 ((((k : Nat) : Int) - 1) + (1 : Int)), .int .i64 (([p0, p1, p2, p3, p4, p5, p6, p7].getD (k - 1) 0) % 4)] 34 :: L) w := s
      replace s : St W (Own 34 2 A3 (8 - k + 1) c4 ((egs (List.take (8 - k) [(8, p7 % 4), (7, p6 % 4), (6, p5 % 4), (5, p4 % 4), (4, p3 % 4), (3, p2 % 4), (2, p1 % 4), (1, p0 % 4)])) ++ [.int .i64 ((((k : Nat) : Int) - 1) + (1 : Int)), .int .i64 (([p0, p1, p2, p3, p4, p5, p6, p7].getD (k - 1) 0) % 4)]) :: .blk g1 [.int .i64 p0, .int .i64 p1, .int .i64 p2, .int .i64 p3, .int .i64 p4, .int .i64 p5, .int .i64 p6, .int .i64 p7] 44 :: L) w := St.mid (A := [Own 34 2 A3 (8 - k + 1) c4 ((egs (List.take (8 - k) [(8, p7 % 4), (7, p6 % 4), (6, p5 % 4), (5, p4 % 4), (4, p3 % 4), (3, p2 % 4), (2, p1 % 4), (1, p0 % 4)])) ++ [.int .i64 ((((k : Nat) : Int) - 1) + (1 : Int)), .int .i64 (([p0, p1, p2, p3, p4, p5, p6, p7].getD (k - 1) 0) % 4)]), .blk g1 [.int .i64 p0, .int .i64 p1, .int .i64 p2, .int .i64 p3, .int .i64 p4, .int .i64 p5, .int .i64 p6, .int .i64 p7] 44]) (B := [.blk g2 [.int .i64 ((((k : Nat) : Int) - 1) + (1 : Int)), .int .i64 (([p0, p1, p2, p3, p4, p5, p6, p7].getD (k - 1) 0) % 4)] 34]) s
      have hat := dn_at p0 p1 p2 p3 p4 p5 p6 p7 (r := k) (by omega)
      replace s : St W (Own 34 2 A3 (8 - k + 1) c4 (egs (List.take (8 - (k - 1)) [(8, p7 % 4), (7, p6 % 4), (6, p5 % 4), (5, p4 % 4), (4, p3 % 4), (3, p2 % 4), (2, p1 % 4), (1, p0 % 4)])) :: .blk g1 [.int .i64 p0, .int .i64 p1, .int .i64 p2, .int .i64 p3, .int .i64 p4, .int .i64 p5, .int .i64 p6, .int .i64 p7] 44 :: L) w := by
        rw [show 8 - (k - 1) = 8 - k + 1 by omega]; rw [egs_take hat]; exact s
      have h8 : 8 - (k - 1) = 8 - k + 1 := by omega
      have h9 : ((k : Nat) : Int) - 1 - 1 = (((k - 1) : Nat) : Int) - 1 := by omega
      rw [← h8] at s ha; rw [h9] at ha
      exact ⟨((k - 1), A3, c4), (show k - 1 < k by omega), (Has.cons ha (by kernel_rfl) (by kernel_rfl) (Has.cons ha (by kernel_rfl) (by kernel_rfl) (Has.cons ha (by kernel_rfl) (by kernel_rfl) (Has.cons ha (by kernel_rfl) (by kernel_rfl) (Has.nil ha))))), s, (show (k - 1) ≤ 8 by omega)⟩
    · rw [hb] at ha; replace hb : ¬ ((((k : Nat) : Int) - 1) ≥ (0 : Int)) := of_decide_eq_false hb
      have hk : k = 0 := by omega
      subst hk
      replace s : St W (Own 34 2 Aw 8 cw (egs [(8, p7 % 4), (7, p6 % 4), (6, p5 % 4), (5, p4 % 4), (4, p3 % 4), (3, p2 % 4), (2, p1 % 4), (1, p0 % 4)]) :: .blk g1 [.int .i64 p0, .int .i64 p1, .int .i64 p2, .int .i64 p3, .int .i64 p4, .int .i64 p5, .int .i64 p6, .int .i64 p7] 44 :: L) w := s
      refine wp_exit ?_
      refine then_exit ?_
      refine then_exit ?_
      refine block_hit ?_
      refine then_normal ?_
      refine wp_seq ?_
      refine wp_region_lit ?_
      refine st_val (.slice A n ca) ha (by kernel_rfl) (by kernel_rfl) ?_
      clear ha; intro a ha
      refine st_call ha (by kernel_rfl) (by kernel_rfl) (edges_any W _ w A n ca l (fun w s => hra w s.tail.tail) hl hn s) ?_
      rintro _ w ⟨A5, c6, rfl, s⟩
      replace s : St W (Own 37 2 A5 ((arcs l).length) c6 (egs (arcs l)) :: Own 34 2 Aw 8 cw (egs [(8, p7 % 4), (7, p6 % 4), (6, p5 % 4), (5, p4 % 4), (4, p3 % 4), (3, p2 % 4), (2, p1 % 4), (1, p0 % 4)]) :: .blk g1 [.int .i64 p0, .int .i64 p1, .int .i64 p2, .int .i64 p3, .int .i64 p4, .int .i64 p5, .int .i64 p6, .int .i64 p7] 44 :: L) w := s
      refine ⟨_, rfl, ?_⟩; clear ha; intro a ha
      refine st_val (.slice A5 ((arcs l).length) c6) ha (by kernel_rfl) (by kernel_rfl) ?_
      clear ha; intro a ha
      refine wpList_nil ?_
      refine then_normal ?_
      refine wp_seq ?_
      refine wp_region_lit ?_
      refine st_val (.slice A5 ((arcs l).length) c6) ha (by kernel_rfl) (by kernel_rfl) ?_
      clear ha; intro a ha
      refine st_call ha (by kernel_rfl) (by kernel_rfl) (rings_good W hW _ w A5 (arcs l).length c6 (arcs l) (by rw [arcs_len]; omega) arcs_ok (Knows.own (j := 0) rfl) rfl s) ?_
      rintro _ w ⟨A7, c8, R, rfl, hR, hRl, s⟩
      replace s : St W (Own 3 1 A7 R.length c8 (ints R) :: Own 37 2 A5 ((arcs l).length) c6 (egs (arcs l)) :: Own 34 2 Aw 8 cw (egs [(8, p7 % 4), (7, p6 % 4), (6, p5 % 4), (5, p4 % 4), (4, p3 % 4), (3, p2 % 4), (2, p1 % 4), (1, p0 % 4)]) :: .blk g1 [.int .i64 p0, .int .i64 p1, .int .i64 p2, .int .i64 p3, .int .i64 p4, .int .i64 p5, .int .i64 p6, .int .i64 p7] 44 :: L) w := s
      refine ⟨_, rfl, ?_⟩; clear ha; intro a ha
      refine st_val (.tuple #[.slice A7 R.length c8, .int .i64 0]) ha (by kernel_rfl) (by kernel_rfl) ?_
      clear ha; intro a ha
      refine st_val (.slice A7 R.length c8) ha (by kernel_rfl) (by kernel_rfl) ?_
      clear ha; intro a ha
      refine st_val (.int .i64 0) ha (by kernel_rfl) (by kernel_rfl) ?_
      clear ha; intro a ha
      refine st_val (.slice A7 R.length c8) ha (by kernel_rfl) (by kernel_rfl) ?_
      clear ha; intro a ha
      refine st_val (.int .i64 0) ha (by kernel_rfl) (by kernel_rfl) ?_
      clear ha; intro a ha
      refine wpList_nil ?_
      refine then_normal ?_
      refine wp_seq ?_
      refine wp_region_lit ?_
      refine st_val (.slice A5 ((arcs l).length) c6) ha (by kernel_rfl) (by kernel_rfl) ?_
      clear ha; intro a ha
      refine st_val (.slice Aw 8 cw) ha (by kernel_rfl) (by kernel_rfl) ?_
      clear ha; intro a ha
      rcases Decidable.em (R = []) with hR0 | hR0
      · subst hR0
        replace s : St W (Own 3 1 A7 0 c8 (ints []) :: Own 37 2 A5 ((arcs l).length) c6 (egs (arcs l)) :: Own 34 2 Aw 8 cw (egs [(8, p7 % 4), (7, p6 % 4), (6, p5 % 4), (5, p4 % 4), (4, p3 % 4), (3, p2 % 4), (2, p1 % 4), (1, p0 % 4)]) :: .blk g1 [.int .i64 p0, .int .i64 p1, .int .i64 p2, .int .i64 p3, .int .i64 p4, .int .i64 p5, .int .i64 p6, .int .i64 p7] 44 :: L) w := s
        refine st_call ha (by kernel_rfl) (by kernel_rfl) (victim_good W hW _ w A5 (arcs l).length c6 (arcs l) (by rw [arcs_len]; omega) arcs_ok (Knows.own (j := 1) rfl) rfl Aw 8 cw [(8, p7 % 4), (7, p6 % 4), (6, p5 % 4), (5, p4 % 4), (4, p3 % 4), (3, p2 % 4), (2, p1 % 4), (1, p0 % 4)] (Knows.own (j := 2) rfl) rfl (show 8 ≤ 1000 by decide) (who_dn p0 p1 p2 p3 p4 p5 p6 p7) s) ?_
        rintro _ w ⟨id, is, R2, rfl, hR2, hG, s⟩
        obtain rfl := hR2.unique hR
        obtain ⟨_, rfl, rfl⟩ | ⟨h, _⟩ := hG; rotate_left; exact absurd rfl h
        replace s : St W (Own 3 1 A7 0 c8 (ints []) :: Own 37 2 A5 ((arcs l).length) c6 (egs (arcs l)) :: Own 34 2 Aw 8 cw (egs [(8, p7 % 4), (7, p6 % 4), (6, p5 % 4), (5, p4 % 4), (4, p3 % 4), (3, p2 % 4), (2, p1 % 4), (1, p0 % 4)]) :: .blk g1 [.int .i64 p0, .int .i64 p1, .int .i64 p2, .int .i64 p3, .int .i64 p4, .int .i64 p5, .int .i64 p6, .int .i64 p7] 44 :: L) w := s
        refine ⟨_, rfl, ?_⟩; clear ha; intro a ha
        refine st_val (.tuple #[.int .i64 0, .bool false, .int .i64 0]) ha (by kernel_rfl) (by kernel_rfl) ?_
        clear ha; intro a ha
        refine st_val (.int .i64 0) ha (by kernel_rfl) (by kernel_rfl) ?_
        clear ha; intro a ha
        refine st_val (.bool false) ha (by kernel_rfl) (by kernel_rfl) ?_
        clear ha; intro a ha
        refine st_val (.int .i64 0) ha (by kernel_rfl) (by kernel_rfl) ?_
        clear ha; intro a ha
        refine st_val (.int .i64 0) ha (by kernel_rfl) (by kernel_rfl) ?_
        clear ha; intro a ha
        refine st_val (.bool false) ha (by kernel_rfl) (by kernel_rfl) ?_
        clear ha; intro a ha
        refine st_val (.int .i64 0) ha (by kernel_rfl) (by kernel_rfl) ?_
        clear ha; intro a ha
        refine wpList_nil ?_
        refine then_normal ?_
        refine wp_seq ?_
        refine wp_seq ?_
        refine wp_region_lit ?_
        refine st_val (.int .i64 0) ha (by kernel_rfl) (by kernel_rfl) ?_
        clear ha; intro a ha
        refine st_val (.bool false) ha (by kernel_rfl) (by kernel_rfl) ?_
        clear ha; intro a ha
        refine st_val (.bool false) ha (by kernel_rfl) (by kernel_rfl) ?_
        clear ha; intro a ha
        refine st_val (.int .i64 0) ha (by kernel_rfl) (by kernel_rfl) ?_
        clear ha; intro a ha
        refine st_val (.bool false) ha (by kernel_rfl) (by kernel_rfl) ?_
        clear ha; intro a ha
        refine st_val (.bool false) ha (by kernel_rfl) (by kernel_rfl) ?_
        clear ha; intro a ha
        refine st_val (.bool false) ha (by kernel_rfl) (by kernel_rfl) ?_
        clear ha; intro a ha
        refine st_val (.bool false) ha (by kernel_rfl) (by kernel_rfl) ?_
        clear ha; intro a ha
        refine st_val (.slice A7 0 c8) ha (by kernel_rfl) (by kernel_rfl) ?_
        clear ha; intro a ha
        refine st_val (.int .i64 0) ha (by kernel_rfl) (by kernel_rfl) ?_
        clear ha; intro a ha
        refine st_val (.bool false) ha (by kernel_rfl) (by kernel_rfl) ?_
        clear ha; intro a ha
        refine st_val (.bool false) ha (by kernel_rfl) (by kernel_rfl) ?_
        clear ha; intro a ha
        refine st_val (.bool false) ha (by kernel_rfl) (by kernel_rfl) ?_
        clear ha; intro a ha
        refine wpList_nil ?_
        refine then_normal ?_
        refine wp_false ha rfl (by kernel_rfl) ?_
        refine wp_skip ?_
        refine then_normal ?_
        refine wp_seq ?_
        refine wp_seq ?_
        refine wp_region_lit ?_
        refine st_val (.bool false) ha (by kernel_rfl) (by kernel_rfl) ?_
        clear ha; intro a ha
        refine st_val (.bool true) ha (by kernel_rfl) (by kernel_rfl) ?_
        clear ha; intro a ha
        refine wpList_nil ?_
        refine then_normal ?_
        refine wp_true ha rfl (by kernel_rfl) ?_
        refine wp_seq ?_
        refine wp_region_lit ?_
        refine st_val (.int .i64 0) ha (by kernel_rfl) (by kernel_rfl) ?_
        clear ha; intro a ha
        refine st_val (.bool true) ha (by kernel_rfl) (by kernel_rfl) ?_
        clear ha; intro a ha
        refine st_val (.bool true) ha (by kernel_rfl) (by kernel_rfl) ?_
        clear ha; intro a ha
        refine wpList_nil ?_
        refine then_normal ?_
        refine wp_ret ?_
        refine then_ret ?_
        refine ret_with (v := .bool true) ha (results_1 rfl ha (res_tmp (by kernel_rfl) (by kernel_rfl))) ?_
        replace s := s.tail.tail.tail.tail
        replace s : St W (L) w := s
        exact ⟨rfl, s⟩
      · have hRp : 0 < R.length := List.length_pos_iff.2 hR0
        refine st_call ha (by kernel_rfl) (by kernel_rfl) (victim_good W hW _ w A5 (arcs l).length c6 (arcs l) (by rw [arcs_len]; omega) arcs_ok (Knows.own (j := 1) rfl) rfl Aw 8 cw [(8, p7 % 4), (7, p6 % 4), (6, p5 % 4), (5, p4 % 4), (4, p3 % 4), (3, p2 % 4), (2, p1 % 4), (1, p0 % 4)] (Knows.own (j := 2) rfl) rfl (show 8 ≤ 1000 by decide) (who_dn p0 p1 p2 p3 p4 p5 p6 p7) s) ?_
        rintro _ w ⟨id, is, R2, rfl, hR2, hG, s⟩
        obtain rfl := hR.unique hR2
        obtain ⟨h, _⟩ | ⟨_, rfl, hmin⟩ := hG; exact absurd h hR0
        have hidb := way_small arcs_small ((hR2.mem id).1 hmin.mem)
        replace s : St W (Own 3 1 A7 R.length c8 (ints R) :: Own 37 2 A5 ((arcs l).length) c6 (egs (arcs l)) :: Own 34 2 Aw 8 cw (egs [(8, p7 % 4), (7, p6 % 4), (6, p5 % 4), (5, p4 % 4), (4, p3 % 4), (3, p2 % 4), (2, p1 % 4), (1, p0 % 4)]) :: .blk g1 [.int .i64 p0, .int .i64 p1, .int .i64 p2, .int .i64 p3, .int .i64 p4, .int .i64 p5, .int .i64 p6, .int .i64 p7] 44 :: L) w := s
        refine ⟨_, rfl, ?_⟩; clear ha; intro a ha
        refine st_val (.tuple #[.int .i64 id, .bool true, .int .i64 0]) ha (by kernel_rfl) (by kernel_rfl) ?_
        clear ha; intro a ha
        refine st_val (.int .i64 id) ha (by kernel_rfl) (by kernel_rfl) ?_
        clear ha; intro a ha
        refine st_val (.bool true) ha (by kernel_rfl) (by kernel_rfl) ?_
        clear ha; intro a ha
        refine st_val (.int .i64 0) ha (by kernel_rfl) (by kernel_rfl) ?_
        clear ha; intro a ha
        refine st_val (.int .i64 id) ha (by kernel_rfl) (by kernel_rfl) ?_
        clear ha; intro a ha
        refine st_val (.bool true) ha (by kernel_rfl) (by kernel_rfl) ?_
        clear ha; intro a ha
        refine st_val (.int .i64 0) ha (by kernel_rfl) (by kernel_rfl) ?_
        clear ha; intro a ha
        refine wpList_nil ?_
        refine then_normal ?_
        refine wp_seq ?_
        refine wp_seq ?_
        refine wp_region_lit ?_
        refine st_val (.int .i64 0) ha (by kernel_rfl) (by kernel_rfl) ?_
        clear ha; intro a ha
        refine st_val (.bool false) ha (by kernel_rfl) (by kernel_rfl) ?_
        clear ha; intro a ha
        refine st_val (.bool false) ha (by kernel_rfl) (by kernel_rfl) ?_
        clear ha; intro a ha
        refine st_val (.int .i64 0) ha (by kernel_rfl) (by kernel_rfl) ?_
        clear ha; intro a ha
        refine st_val (.bool false) ha (by kernel_rfl) (by kernel_rfl) ?_
        clear ha; intro a ha
        refine st_val (.bool false) ha (by kernel_rfl) (by kernel_rfl) ?_
        clear ha; intro a ha
        refine st_val (.bool false) ha (by kernel_rfl) (by kernel_rfl) ?_
        clear ha; intro a ha
        refine st_val (.bool true) ha (by kernel_rfl) (by kernel_rfl) ?_
        clear ha; intro a ha
        refine st_val (.slice A7 R.length c8) ha (by kernel_rfl) (by kernel_rfl) ?_
        clear ha; intro a ha
        refine st_val (.int .i64 ((R.length : Nat) : Int)) ha (by kernel_rfl) (by kernel_rfl) ?_
        clear ha; intro a ha
        refine st_val (.bool true) ha (by kernel_rfl) (run_known (show (decide (((R.length : Nat) : Int) > (0 : Int))) = true from decide_eq_true (by omega)) (by kernel_rfl)) ?_
        clear ha; intro a ha
        refine st_val (.bool false) ha (by kernel_rfl) (by kernel_rfl) ?_
        clear ha; intro a ha
        refine st_val (.bool false) ha (by kernel_rfl) (by kernel_rfl) ?_
        clear ha; intro a ha
        refine wpList_nil ?_
        refine then_normal ?_
        refine wp_false ha rfl (by kernel_rfl) ?_
        refine wp_skip ?_
        refine then_normal ?_
        refine wp_seq ?_
        refine wp_seq ?_
        refine wp_region_lit ?_
        refine st_val (.bool true) ha (by kernel_rfl) (by kernel_rfl) ?_
        clear ha; intro a ha
        refine st_val (.bool false) ha (by kernel_rfl) (by kernel_rfl) ?_
        clear ha; intro a ha
        refine wpList_nil ?_
        refine then_normal ?_
        refine wp_false ha rfl (by kernel_rfl) ?_
        refine wp_skip ?_
        refine then_normal ?_
        refine wp_seq ?_
        refine wp_seq ?_
        refine wp_region_lit ?_
        refine st_val (.int .i64 id) ha (by kernel_rfl) (by kernel_rfl) ?_
        clear ha; intro a ha
        refine st_val (.bool false) ha (by kernel_rfl) (run_known (show (decide (id < (1 : Int))) = false from decide_eq_false (by omega)) (by kernel_rfl)) ?_
        clear ha; intro a ha
        refine st_val (.bool false) ha (by kernel_rfl) (by kernel_rfl) ?_
        clear ha; intro a ha
        refine st_val (.int .i64 id) ha (by kernel_rfl) (by kernel_rfl) ?_
        clear ha; intro a ha
        refine st_val (.bool false) ha (by kernel_rfl) (run_known (show (decide (id > (8 : Int))) = false from decide_eq_false (by omega)) (by kernel_rfl)) ?_
        clear ha; intro a ha
        refine st_val (.bool false) ha (by kernel_rfl) (by kernel_rfl) ?_
        clear ha; intro a ha
        refine st_val (.bool false) ha (by kernel_rfl) (by kernel_rfl) ?_
        clear ha; intro a ha
        refine st_val (.slice A7 R.length c8) ha (by kernel_rfl) (by kernel_rfl) ?_
        clear ha; intro a ha
        refine st_val (.int .i64 id) ha (by kernel_rfl) (by kernel_rfl) ?_
        clear ha; intro a ha
        refine st_call ha (by kernel_rfl) (by kernel_rfl) (has_is W _ w A7 R.length c8 R (Knows.own (j := 0) rfl) rfl (by omega) id true (decide_eq_true hmin.mem) s) ?_
        rintro _ w ⟨rfl, s⟩
        replace s : St W (Own 3 1 A7 R.length c8 (ints R) :: Own 37 2 A5 ((arcs l).length) c6 (egs (arcs l)) :: Own 34 2 Aw 8 cw (egs [(8, p7 % 4), (7, p6 % 4), (6, p5 % 4), (5, p4 % 4), (4, p3 % 4), (3, p2 % 4), (2, p1 % 4), (1, p0 % 4)]) :: .blk g1 [.int .i64 p0, .int .i64 p1, .int .i64 p2, .int .i64 p3, .int .i64 p4, .int .i64 p5, .int .i64 p6, .int .i64 p7] 44 :: L) w := s
        refine ⟨_, rfl, ?_⟩; clear ha; intro a ha
        refine st_val (.bool false) ha (by kernel_rfl) (by kernel_rfl) ?_
        clear ha; intro a ha
        refine st_val (.bool false) ha (by kernel_rfl) (by kernel_rfl) ?_
        clear ha; intro a ha
        refine wpList_nil ?_
        refine then_normal ?_
        refine wp_false ha rfl (by kernel_rfl) ?_
        refine wp_skip ?_
        refine then_normal ?_
        refine wp_seq ?_
        refine wp_seq ?_
        refine wp_region_lit ?_
        refine st_val (.int .i64 0) ha (by kernel_rfl) (by kernel_rfl) ?_
        clear ha; intro a ha
        refine wpList_nil ?_
        refine then_normal ?_
        refine wp_block ?_
        replace s := s.at_ (j := 3) rfl
        replace s : St W (.blk g1 [.int .i64 p0, .int .i64 p1, .int .i64 p2, .int .i64 p3, .int .i64 p4, .int .i64 p5, .int .i64 p6, .int .i64 p7] 44 :: Own 3 1 A7 R.length c8 (ints R) :: Own 37 2 A5 ((arcs l).length) c6 (egs (arcs l)) :: Own 34 2 Aw 8 cw (egs [(8, p7 % 4), (7, p6 % 4), (6, p5 % 4), (5, p4 % 4), (4, p3 % 4), (3, p2 % 4), (2, p1 % 4), (1, p0 % 4)]) :: L) w := s
        replace s := s.at_ (j := 1) rfl
        replace s : St W (Own 3 1 A7 R.length c8 (ints R) :: .blk g1 [.int .i64 p0, .int .i64 p1, .int .i64 p2, .int .i64 p3, .int .i64 p4, .int .i64 p5, .int .i64 p6, .int .i64 p7] 44 :: Own 37 2 A5 ((arcs l).length) c6 (egs (arcs l)) :: Own 34 2 Aw 8 cw (egs [(8, p7 % 4), (7, p6 % 4), (6, p5 % 4), (5, p4 % 4), (4, p3 % 4), (3, p2 % 4), (2, p1 % 4), (1, p0 % 4)]) :: L) w := s
        replace s : St W (Own 3 1 A7 R.length c8 (ints R) :: .blk g1 [.int .i64 p0, .int .i64 p1, .int .i64 p2, .int .i64 p3, .int .i64 p4, .int .i64 p5, .int .i64 p6, .int .i64 p7] 44 :: L) w := St.mid (A := [Own 3 1 A7 R.length c8 (ints R), .blk g1 [.int .i64 p0, .int .i64 p1, .int .i64 p2, .int .i64 p3, .int .i64 p4, .int .i64 p5, .int .i64 p6, .int .i64 p7] 44]) (B := [Own 37 2 A5 ((arcs l).length) c6 (egs (arcs l)), Own 34 2 Aw 8 cw (egs [(8, p7 % 4), (7, p6 % 4), (6, p5 % 4), (5, p4 % 4), (4, p3 % 4), (3, p2 % 4), (2, p1 % 4), (1, p0 % 4)])]) s
        refine wp_loopG (G := (Nat × Option Addr)) (fun ⟨k, Ar⟩ a w => Has a 122 [(3, .pointer (some ⟨g1, 0, none⟩)), (8, .slice Ar R.length c8), (10, .int .i64 id), (13, .int .i64 ((k : Nat) : Int))] ∧ St W (Own 3 1 Ar R.length c8 (ints R) :: .blk g1 [.int .i64 p0, .int .i64 p1, .int .i64 p2, .int .i64 p3, .int .i64 p4, .int .i64 p5, .int .i64 p6, .int .i64 p7] 44 :: L) w ∧ (k ≤ R.length)) (fun ⟨k, Ar⟩ => R.length - k) (0, A7) ?_ ?_
        · exact ⟨(Has.cons ha (by kernel_rfl) (by kernel_rfl) (Has.cons ha (by kernel_rfl) (by kernel_rfl) (Has.cons ha (by kernel_rfl) (by kernel_rfl) (Has.cons ha (by kernel_rfl) (by kernel_rfl) (Has.nil ha))))), s, Nat.zero_le _⟩
        · clear ha s; rintro ⟨k, Ar⟩ a w ⟨ha, s, hp⟩
          refine wp_seq ?_
          refine wp_seq ?_
          refine wp_region_lit ?_
          refine st_val (.int .i64 ((k : Nat) : Int)) ha (by kernel_rfl) (by kernel_rfl) ?_
          clear ha; intro a ha
          refine st_val (.slice Ar R.length c8) ha (by kernel_rfl) (by kernel_rfl) ?_
          clear ha; intro a ha
          refine st_val (.int .i64 ((R.length : Nat) : Int)) ha (by kernel_rfl) (by kernel_rfl) ?_
          clear ha; intro a ha
          refine st_val (.bool (decide (((k : Nat) : Int) < ((R.length : Nat) : Int)))) ha (by kernel_rfl) (by kernel_rfl) ?_
          clear ha; intro a ha
          refine wpList_nil ?_
          refine then_normal ?_
          refine wp_part (decide (((k : Nat) : Int) < ((R.length : Nat) : Int))) ha rfl (by kernel_rfl) (fun hb => ?_) (fun hb => ?_)
          · rw [hb] at ha; replace hb : (((k : Nat) : Int) < ((R.length : Nat) : Int)) := of_decide_eq_true hb
            obtain ⟨x, hx⟩ : ∃ x, R[k]? = some x := ⟨_, List.getElem?_eq_getElem (by omega)⟩
            have hxm := List.mem_of_getElem? hx
            have hxb := way_small arcs_small ((hR2.mem x).1 hxm)
            have hless := hmin.least x hxm
            rw [prio_dn p0 p1 p2 p3 p4 p5 p6 p7 hidb, prio_dn p0 p1 p2 p3 p4 p5 p6 p7 hxb] at hless
            obtain ⟨adr, hAr⟩ := Own.addr (s.at_ (j := 0) rfl) (by omega)
            subst hAr
            refine wp_skip ?_
            refine then_normal ?_
            refine wp_seq ?_
            refine wp_block ?_
            refine wp_seq ?_
            refine wp_seq ?_
            refine wp_region_lit ?_
            refine st_val (.slice (some adr) R.length c8) ha (by kernel_rfl) (by kernel_rfl) ?_
            clear ha; intro a ha
            refine st_val (.int .i64 ((k : Nat) : Int)) ha (by kernel_rfl) (by kernel_rfl) ?_
            clear ha; intro a ha
            refine st_val (.pointer (some (adr.add (k * 1)))) ha (by kernel_rfl) (run_indexAddr' (kd := .i64) (i := ((k : Nat) : Int)) (n := R.length) (c := c8) k rfl Try.underlying25 Try.sizeOf3 (by kernel_rfl) (by kernel_rfl) rfl (by first | assumption | omega) _) ?_
            clear ha; intro a ha
            refine st_val (.int .i64 x) ha (by kernel_rfl) (run_loadAt1 (i := k * 1) ((Knows.own (j := 0) rfl) _ s.sat) rfl (by kernel_rfl) Try.isAgg3 (by rw [Nat.mul_one]; exact ints_at hx)) ?_
            clear ha; intro a ha
            refine st_val (.bool false) ha (by kernel_rfl) (run_known (show (decide (x < (1 : Int))) = false from decide_eq_false (by omega)) (by kernel_rfl)) ?_
            clear ha; intro a ha
            refine st_val (.bool false) ha (by kernel_rfl) (by kernel_rfl) ?_
            clear ha; intro a ha
            refine st_val (.slice (some adr) R.length c8) ha (by kernel_rfl) (by kernel_rfl) ?_
            clear ha; intro a ha
            refine st_val (.int .i64 ((k : Nat) : Int)) ha (by kernel_rfl) (by kernel_rfl) ?_
            clear ha; intro a ha
            refine st_val (.pointer (some (adr.add (k * 1)))) ha (by kernel_rfl) (run_indexAddr' (kd := .i64) (i := ((k : Nat) : Int)) (n := R.length) (c := c8) k rfl Try.underlying25 Try.sizeOf3 (by kernel_rfl) (by kernel_rfl) rfl (by first | assumption | omega) _) ?_
            clear ha; intro a ha
            refine st_val (.int .i64 x) ha (by kernel_rfl) (run_loadAt1 (i := k * 1) ((Knows.own (j := 0) rfl) _ s.sat) rfl (by kernel_rfl) Try.isAgg3 (by rw [Nat.mul_one]; exact ints_at hx)) ?_
            clear ha; intro a ha
            refine st_val (.bool false) ha (by kernel_rfl) (run_known (show (decide (x > (8 : Int))) = false from decide_eq_false (by omega)) (by kernel_rfl)) ?_
            clear ha; intro a ha
            refine st_val (.bool false) ha (by kernel_rfl) (by kernel_rfl) ?_
            clear ha; intro a ha
            refine wpList_nil ?_
            refine then_normal ?_
            refine wp_false ha rfl (by kernel_rfl) ?_
            refine wp_skip ?_
            refine then_normal ?_
            refine wp_seq ?_
            refine wp_region_head 12 (fun w => Reads w 1 (some adr) R.length (ints R) ∧ BlkIs g1 [.int .i64 p0, .int .i64 p1, .int .i64 p2, .int .i64 p3, .int .i64 p4, .int .i64 p5, .int .i64 p6, .int .i64 p7] w ∧ True) (by kernel_rfl) (by decide) ?_
            replace s := s.drew; generalize _root_.Go.World.drew _ = w at s ⊢
            have hS : (fun w => Reads w 1 (some adr) R.length (ints R) ∧ BlkIs g1 [.int .i64 p0, .int .i64 p1, .int .i64 p2, .int .i64 p3, .int .i64 p4, .int .i64 p5, .int .i64 p6, .int .i64 p7] w ∧ True) w := ⟨(Knows.own (j := 0) rfl) _ s.sat, s.blkIs 1 rfl, trivial⟩
            refine hd_val (i := 0) (.slice (some adr) R.length c8) ha rfl (by kernel_rfl) (fun _ _ _ h => h) (by kernel_rfl) (fun w hS => (by kernel_rfl)) hS ?_
            clear ha; intro a ha
            refine hd_val (i := 1) (.int .i64 ((k : Nat) : Int)) ha rfl (by kernel_rfl) (fun _ _ _ h => h) (by kernel_rfl) (fun w hS => (by kernel_rfl)) hS ?_
            clear ha; intro a ha
            refine hd_val (i := 2) (.pointer (some (adr.add (k * 1)))) ha rfl (by kernel_rfl) (fun _ _ _ h => h) (by kernel_rfl) (fun w hS => (run_indexAddr' (kd := .i64) (i := ((k : Nat) : Int)) (n := R.length) (c := c8) k rfl Try.underlying25 Try.sizeOf3 (by kernel_rfl) (by kernel_rfl) rfl (by first | assumption | omega) _)) hS ?_
            clear ha; intro a ha
            refine hd_val (i := 3) (.int .i64 x) ha rfl (by kernel_rfl) (fun _ _ _ h => h) (by kernel_rfl) (fun w hS => run_loadAt1 (i := k * 1) hS.1 rfl (by kernel_rfl) Try.isAgg3 (by rw [Nat.mul_one]; exact ints_at hx)) hS ?_
            clear ha; intro a ha
            refine hd_val (i := 4) (.int .i64 (x - (1 : Int))) ha rfl (by kernel_rfl) (fun _ _ _ h => h) (by kernel_rfl) (fun w hS => (run_arith (x - (1 : Int)) (x - (1 : Int)) rfl (by kernel_rfl) (by kernel_rfl) (.inr (.inl ⟨rfl, rfl⟩)) (by rw [wrap64_in (by omega)]) _)) hS ?_
            clear ha; intro a ha
            refine hd_val (i := 5) (.pointer (some ⟨g1, (x - 1).toNat, none⟩)) ha rfl (by kernel_rfl) (fun _ _ _ h => h) (by kernel_rfl) (fun w hS => (run_indexArr (kd := .i64) (i := (x - (1 : Int))) ((x - 1).toNat) rfl Try.underlying44 Try.sizeOf3 (by kernel_rfl) (by kernel_rfl) (by omega) (by first | assumption | omega) _)) hS ?_
            clear ha; intro a ha
            refine hd_val (i := 6) (.int .i64 ([p0, p1, p2, p3, p4, p5, p6, p7].getD ((x - 1).toNat) 0)) ha rfl (by kernel_rfl) (fun _ _ _ h => h) (by kernel_rfl) (fun w hS => run_load1 (of_ := ((x - 1).toNat)) hS.2.1 rfl (by kernel_rfl) Try.isAgg3 (p8_at p0 p1 p2 p3 p4 p5 p6 p7 (by omega))) hS ?_
            clear ha; intro a ha
            refine hd_val (i := 8) (.int .i64 id) ha rfl (by kernel_rfl) (fun _ _ _ h => h) (by kernel_rfl) (fun w hS => (by kernel_rfl)) hS ?_
            clear ha; intro a ha
            refine hd_val (i := 9) (.int .i64 (id - (1 : Int))) ha rfl (by kernel_rfl) (fun _ _ _ h => h) (by kernel_rfl) (fun w hS => (run_arith (id - (1 : Int)) (id - (1 : Int)) rfl (by kernel_rfl) (by kernel_rfl) (.inr (.inl ⟨rfl, rfl⟩)) (by rw [wrap64_in (by omega)]) _)) hS ?_
            clear ha; intro a ha
            refine hd_val (i := 10) (.pointer (some ⟨g1, (id - 1).toNat, none⟩)) ha rfl (by kernel_rfl) (fun _ _ _ h => h) (by kernel_rfl) (fun w hS => (run_indexArr (kd := .i64) (i := (id - (1 : Int))) ((id - 1).toNat) rfl Try.underlying44 Try.sizeOf3 (by kernel_rfl) (by kernel_rfl) (by omega) (by first | assumption | omega) _)) hS ?_
            clear ha; intro a ha
            refine hd_val (i := 11) (.int .i64 ([p0, p1, p2, p3, p4, p5, p6, p7].getD ((id - 1).toNat) 0)) ha rfl (by kernel_rfl) (fun _ _ _ h => h) (by kernel_rfl) (fun w hS => run_load1 (of_ := ((id - 1).toNat)) hS.2.1 rfl (by kernel_rfl) Try.isAgg3 (p8_at p0 p1 p2 p3 p4 p5 p6 p7 (by omega))) hS ?_
            clear ha; intro a ha
            refine hd_call (i := 7) ha rfl (by kernel_rfl) (by kernel_rfl) (by kernel_rfl) (bring_any W _ w ([p0, p1, p2, p3, p4, p5, p6, p7].getD ((x - 1).toNat) 0) 4 (by omega) (by omega) s) ?_
            clear hS; rintro _ w ⟨rfl, s⟩
            replace s : St W (Own 3 1 (some adr) R.length c8 (ints R) :: .blk g1 [.int .i64 p0, .int .i64 p1, .int .i64 p2, .int .i64 p3, .int .i64 p4, .int .i64 p5, .int .i64 p6, .int .i64 p7] 44 :: L) w := s
            have hS : (fun w => Reads w 1 (some adr) R.length (ints R) ∧ BlkIs g1 [.int .i64 p0, .int .i64 p1, .int .i64 p2, .int .i64 p3, .int .i64 p4, .int .i64 p5, .int .i64 p6, .int .i64 p7] w ∧ True) w := ⟨(Knows.own (j := 0) rfl) _ s.sat, s.blkIs 1 rfl, trivial⟩
            refine ⟨_, rfl, hS, ?_⟩; clear ha; intro a ha
            refine Head.done (by kernel_rfl) ?_
            clear hS; simp only [List.drop_succ_cons, List.drop_zero]
            refine st_call ha (by kernel_rfl) (by kernel_rfl) (bring_any W _ w ([p0, p1, p2, p3, p4, p5, p6, p7].getD ((id - 1).toNat) 0) 4 (by omega) (by omega) s) ?_
            rintro _ w ⟨rfl, s⟩
            replace s : St W (Own 3 1 (some adr) R.length c8 (ints R) :: .blk g1 [.int .i64 p0, .int .i64 p1, .int .i64 p2, .int .i64 p3, .int .i64 p4, .int .i64 p5, .int .i64 p6, .int .i64 p7] 44 :: L) w := s
            refine ⟨_, rfl, ?_⟩; clear ha; intro a ha
            refine st_val (.int .i64 (([p0, p1, p2, p3, p4, p5, p6, p7].getD ((x - 1).toNat) 0) % 4)) ha (by kernel_rfl) (by kernel_rfl) ?_
            clear ha; intro a ha
            refine st_val (.int .i64 (([p0, p1, p2, p3, p4, p5, p6, p7].getD ((id - 1).toNat) 0) % 4)) ha (by kernel_rfl) (by kernel_rfl) ?_
            clear ha; intro a ha
            refine wpList_nil ?_
            refine then_normal ?_
            refine wp_seq ?_
            refine wp_region_lit ?_
            refine st_val (.int .i64 (([p0, p1, p2, p3, p4, p5, p6, p7].getD ((x - 1).toNat) 0) % 4)) ha (by kernel_rfl) (by kernel_rfl) ?_
            clear ha; intro a ha
            refine st_val (.int .i64 (([p0, p1, p2, p3, p4, p5, p6, p7].getD ((id - 1).toNat) 0) % 4)) ha (by kernel_rfl) (by kernel_rfl) ?_
            clear ha; intro a ha
            refine st_val (.bool false) ha (by kernel_rfl) (run_known (show (decide ((([p0, p1, p2, p3, p4, p5, p6, p7].getD ((x - 1).toNat) 0) % 4) < (([p0, p1, p2, p3, p4, p5, p6, p7].getD ((id - 1).toNat) 0) % 4))) = false from decide_eq_false (by omega)) (by kernel_rfl)) ?_
            clear ha; intro a ha
            refine st_val (.bool false) ha (by kernel_rfl) (by kernel_rfl) ?_
            clear ha; intro a ha
            refine st_val (.int .i64 (([p0, p1, p2, p3, p4, p5, p6, p7].getD ((x - 1).toNat) 0) % 4)) ha (by kernel_rfl) (by kernel_rfl) ?_
            clear ha; intro a ha
            refine st_val (.int .i64 (([p0, p1, p2, p3, p4, p5, p6, p7].getD ((id - 1).toNat) 0) % 4)) ha (by kernel_rfl) (by kernel_rfl) ?_
            clear ha; intro a ha
            refine st_val (.bool ((([p0, p1, p2, p3, p4, p5, p6, p7].getD ((x - 1).toNat) 0) % 4) == (([p0, p1, p2, p3, p4, p5, p6, p7].getD ((id - 1).toNat) 0) % 4))) ha (by kernel_rfl) (by kernel_rfl) ?_
            clear ha; intro a ha
            refine st_val (.bool ((([p0, p1, p2, p3, p4, p5, p6, p7].getD ((x - 1).toNat) 0) % 4) == (([p0, p1, p2, p3, p4, p5, p6, p7].getD ((id - 1).toNat) 0) % 4))) ha (by kernel_rfl) (by kernel_rfl) ?_
            clear ha; intro a ha
            rcases Bool.eq_false_or_eq_true ((([p0, p1, p2, p3, p4, p5, p6, p7].getD ((x - 1).toNat) 0) % 4) == (([p0, p1, p2, p3, p4, p5, p6, p7].getD ((id - 1).toNat) 0) % 4)) with hb | hb
            · rw [hb] at ha; have hb_ := hb; replace hb := eq_of_beq hb
              refine st_val (.slice (some adr) R.length c8) ha (by kernel_rfl) (by kernel_rfl) ?_
              clear ha; intro a ha
              refine st_val (.int .i64 ((k : Nat) : Int)) ha (by kernel_rfl) (by kernel_rfl) ?_
              clear ha; intro a ha
              refine st_val (.pointer (some (adr.add (k * 1)))) ha (by kernel_rfl) (run_indexAddr' (kd := .i64) (i := ((k : Nat) : Int)) (n := R.length) (c := c8) k rfl Try.underlying25 Try.sizeOf3 (by kernel_rfl) (by kernel_rfl) rfl (by first | assumption | omega) _) ?_
              clear ha; intro a ha
              refine st_val (.int .i64 x) ha (by kernel_rfl) (run_loadAt1 (i := k * 1) ((Knows.own (j := 0) rfl) _ s.sat) rfl (by kernel_rfl) Try.isAgg3 (by rw [Nat.mul_one]; exact ints_at hx)) ?_
              clear ha; intro a ha
              refine st_val (.int .i64 id) ha (by kernel_rfl) (by kernel_rfl) ?_
              clear ha; intro a ha
              refine st_val (.bool false) ha (by kernel_rfl) (run_known (show (decide (x < id)) = false from decide_eq_false (by omega)) (by kernel_rfl)) ?_
              clear ha; intro a ha
              refine st_val (.bool false) ha (by kernel_rfl) (by kernel_rfl) ?_
              clear ha; intro a ha
              refine st_val (.bool false) ha (by kernel_rfl) (by kernel_rfl) ?_
              clear ha; intro a ha
              refine wpList_nil ?_
              refine then_normal ?_
              refine wp_false ha rfl (by kernel_rfl) ?_
              refine wp_skip ?_
              refine block_normal ?_
              refine then_normal ?_
              refine wp_region_lit ?_
              refine st_val (.int .i64 ((k : Nat) : Int)) ha (by kernel_rfl) (by kernel_rfl) ?_
              clear ha; intro a ha
              refine st_val (.int .i64 ((k + 1 : Nat) : Int)) ha (by kernel_rfl) (run_arith (((k : Nat) : Int) + (1 : Int)) ((k + 1 : Nat) : Int) rfl (by kernel_rfl) (by kernel_rfl) (.inl ⟨rfl, rfl⟩) (by rw [wrap64_in (by omega)]; try omega) _) ?_
              clear ha; intro a ha
              refine st_val (.int .i64 ((k + 1 : Nat) : Int)) ha (by kernel_rfl) (by kernel_rfl) ?_
              clear ha; intro a ha
              refine wpList_nil ?_
              refine then_normal ?_
              exact ⟨(k + 1, (some adr)), (show R.length - (k + 1) < R.length - k by omega), (Has.cons ha (by kernel_rfl) (by kernel_rfl) (Has.cons ha (by kernel_rfl) (by kernel_rfl) (Has.cons ha (by kernel_rfl) (by kernel_rfl) (Has.cons ha (by kernel_rfl) (by kernel_rfl) (Has.nil ha))))), s, (show k + 1 ≤ R.length by omega)⟩
            · rw [hb] at ha; have hb_ := hb; replace hb := ne_of_beq_false hb
              refine st_pass ha (by kernel_rfl) ?_
              clear ha; intro a ha
              refine st_pass ha (by kernel_rfl) ?_
              clear ha; intro a ha
              refine st_pass ha (by kernel_rfl) ?_
              clear ha; intro a ha
              refine st_pass ha (by kernel_rfl) ?_
              clear ha; intro a ha
              refine st_pass ha (by kernel_rfl) ?_
              clear ha; intro a ha
              refine st_pass ha (by kernel_rfl) ?_
              clear ha; intro a ha
              refine st_val (.bool false) ha (by kernel_rfl) (by kernel_rfl) ?_
              clear ha; intro a ha
              refine st_val (.bool false) ha (by kernel_rfl) (by kernel_rfl) ?_
              clear ha; intro a ha
              refine wpList_nil ?_
              refine then_normal ?_
              refine wp_false ha rfl (by kernel_rfl) ?_
              refine wp_skip ?_
              refine block_normal ?_
              refine then_normal ?_
              refine wp_region_lit ?_
              refine st_val (.int .i64 ((k : Nat) : Int)) ha (by kernel_rfl) (by kernel_rfl) ?_
              clear ha; intro a ha
              refine st_val (.int .i64 ((k + 1 : Nat) : Int)) ha (by kernel_rfl) (run_arith (((k : Nat) : Int) + (1 : Int)) ((k + 1 : Nat) : Int) rfl (by kernel_rfl) (by kernel_rfl) (.inl ⟨rfl, rfl⟩) (by rw [wrap64_in (by omega)]; try omega) _) ?_
              clear ha; intro a ha
              refine st_val (.int .i64 ((k + 1 : Nat) : Int)) ha (by kernel_rfl) (by kernel_rfl) ?_
              clear ha; intro a ha
              refine wpList_nil ?_
              refine then_normal ?_
              exact ⟨(k + 1, (some adr)), (show R.length - (k + 1) < R.length - k by omega), (Has.cons ha (by kernel_rfl) (by kernel_rfl) (Has.cons ha (by kernel_rfl) (by kernel_rfl) (Has.cons ha (by kernel_rfl) (by kernel_rfl) (Has.cons ha (by kernel_rfl) (by kernel_rfl) (Has.nil ha))))), s, (show k + 1 ≤ R.length by omega)⟩
          · rw [hb] at ha; replace hb : ¬ (((k : Nat) : Int) < ((R.length : Nat) : Int)) := of_decide_eq_false hb
            refine wp_exit ?_
            refine then_exit ?_
            refine then_exit ?_
            refine block_hit ?_
            refine then_normal ?_
            refine wp_seq ?_
            refine wp_region_lit ?_
            refine st_val (.bool true) ha (by kernel_rfl) (by kernel_rfl) ?_
            clear ha; intro a ha
            refine wpList_nil ?_
            refine then_normal ?_
            refine wp_ret ?_
            refine ret_with (v := .bool true) ha (results_1 rfl ha (res_tmp (by kernel_rfl) (by kernel_rfl))) ?_
            replace s := s.tail.tail
            replace s : St W (L) w := s
            exact ⟨rfl, s⟩

end Go.Proofs.Ytjdkpebnaohonaa.B
