import Derived.Test.YtcgnhmdiedfamaaB3
import Derived.Test.YtcgnhmdiedfamaaSepD
namespace Go.Proofs.Ytcgnhmdiedfamaa.B
open Go.RowKit Go.Proofs.Ytcgnhmdiedfamaa.Sep
set_option linter.unusedVariables false
set_option linter.unusedSimpArgs false

/-- A deed of the laws', with the memory of its bytes. -/
structure Dd where
  k : Int
  i : Int
  f : Int
  t : Int
  b : List Int
  A : Option Addr
  n : Nat
  c : Nat
def Dd.cells (d : Dd) : List Value := [.int .i64 d.k, .int .i64 d.i, .int .i64 d.f, .int .i64 d.t, .slice d.A d.n d.c]
def Dd.Good (W : World) (d : Dd) : Prop := Reads W 1 d.A d.n (u8s d.b) ∧ d.b.length = d.n ∧ d.n ≤ d.c ∧ d.n ≤ 140737488351232
def deeds (ds : List Dd) : List Value := (ds.map Dd.cells).flatten
theorem deeds_at {ds : List Dd} {k : Nat} {d : Dd} (h : ds[k]? = some d) {j : Nat} (hj : j < 5) : (deeds ds)[k * 5 + j]? = d.cells[j]? :=
  flatten_at (k := 5) (fun r hr => by obtain ⟨d, _, rfl⟩ := List.mem_map.1 hr; rfl) (by rw [List.getElem?_map, h]; rfl) hj
theorem open_deed {W : World} {r : List Value} (hl : r.length = 5) (h : Came Try.prog W 32 r) : ∃ d : Dd, r = d.cells ∧ d.Good W := by
  obtain ⟨_, h⟩ := Came.struct Try.underlying32 h
  have h0 := h 0 _ rfl
  have h1 := h 1 _ rfl
  have h2 := h 2 _ rfl
  obtain ⟨l2, h2⟩ := Came.struct Try.underlying29 h2
  have h3 := h2 0 _ rfl
  have h4 := h2 1 _ rfl
  have h5 := h2 2 _ rfl
  clear h h2 l2
  match r, hl with
  | [r0, r1, r2, r3, r4], _ =>
    obtain ⟨z0, e0, _⟩ := Came.int Try.underlying3 h0
    obtain ⟨z1, e1, _⟩ := Came.int Try.underlying3 h1
    obtain ⟨z3, e3, _⟩ := Came.int Try.underlying3 h3
    obtain ⟨z4, e4, _⟩ := Came.int Try.underlying3 h4
    obtain ⟨A, n, c, e5, a1, a2, zs, a3, a4, _⟩ := Came.ints (B := 1) Try.underlying27 Try.underlying5 (by kernel_rfl) (by kernel_rfl) h5
    have q0 : r0 = .int .i64 z0 := (List.cons.inj (show [r0] = [_] from e0)).1
    have q1 : r1 = .int .i64 z1 := (List.cons.inj (show [r1] = [_] from e1)).1
    have q3 : r2 = .int .i64 z3 := (List.cons.inj (show [r2] = [_] from e3)).1
    have q4 : r3 = .int .i64 z4 := (List.cons.inj (show [r3] = [_] from e4)).1
    have q5 : r4 = .slice A n c := (List.cons.inj (show [r4] = [_] from e5)).1
    have hn : n ≤ 140737488351232 := by omega
    exact ⟨⟨z0, z1, z3, z4, zs, A, n, c⟩, by rw [q0, q1, q3, q4, q5]; rfl, a4, a3, a1, hn⟩
theorem open_deeds {W : World} {cs : List Value} (h : Came Try.prog W 22 cs) : ∃ A n c ds, cs = [.slice A n c] ∧ ds.length = n ∧ n ≤ c ∧ n ≤ 140737488351232 ∧ Reads W 5 A n (deeds ds) ∧ ∀ d ∈ ds, d.Good W := by
  obtain ⟨A, n, c, rfl, h1, h2, rows, h3, h4, h5⟩ := Came.slice (k := 5) (B := 56) Try.underlying22 (by kernel_rfl) (by kernel_rfl) h
  obtain ⟨ds, rfl, hg⟩ := spelt (f := Dd.cells) (p := Dd.Good W) fun r hr => open_deed (h5 r hr).1 (h5 r hr).2
  exact ⟨A, n, c, ds, rfl, by simpa using h3, h1, by omega, h4, hg⟩

/-! ### what each deed answers, whatever it is -/
def inn (l : List Msg) (i : Int) : Prop := 0 ≤ i ∧ i < ((l.length : Nat) : Int)
instance (l : List Msg) (i : Int) : Decidable (inn l i) := by unfold inn; infer_instance
def lookR (l : List Msg) (i : Int) : Msg × Bool := if inn l i then (l.getD i.toNat ⟨0, 0, []⟩, true) else (⟨0, 0, []⟩, false)
def takeL (l : List Msg) (i : Int) : List Msg := if inn l i then l.eraseIdx i.toNat else l
def dblR (l : List Msg) (i : Int) : Int := if inn l i then putCode (l.getD i.toNat ⟨0, 0, []⟩) l.length else 9
def dblL (l : List Msg) (i : Int) : List Msg := if inn l i then bput l (l.getD i.toNat ⟨0, 0, []⟩) else l
theorem OkBag.takeL {l : List Msg} (h : OkBag l) (i : Int) : OkBag (takeL l i) := by unfold B.takeL; split; exact h.erase _; exact h
theorem OkBag.dblL {l : List Msg} (h : OkBag l) (i : Int) : OkBag (dblL l i) := by unfold B.dblL; split; exact h.put _; exact h
theorem lookR_small {l : List Msg} (h : OkBag l) (i : Int) : (lookR l i).1.b.length ≤ 140737488351232 := by
  unfold lookR
  split
  · rename_i hi
    have : l.getD i.toNat ⟨0, 0, []⟩ ∈ l := by
      have hk : i.toNat < l.length := by have := hi.1; have := hi.2; omega
      rw [List.getD_eq_getElem?_getD, List.getElem?_eq_getElem hk]
      exact List.getElem_mem hk
    have := h.1 _ this
    simp only []; omega
  · simp
theorem lookR_in {l : List Msg} {m : Nat} (h : (m : Int) < ((l.length : Nat) : Int)) : (lookR l ((m : Nat) : Int)).2 = true := by
  unfold lookR; rw [if_pos ⟨by omega, h⟩]
theorem getD_nat {l : List Msg} {k : Nat} (h : k < l.length) : l.getD k ⟨0, 0, []⟩ = l[k] := by
  rw [List.getD_eq_getElem?_getD, List.getElem?_eq_getElem h]; rfl

theorem look_all (W : World) (L : List Chunk) (w : World) (g : Nat) (l : List Msg) (i : Int) (ok : OkBag l) (s : St W (Bag g l :: L) w) :
    Calls Try.prog 11 #[.pointer (some ⟨g, 0, none⟩), .int .i64 i] w fun e w' => ∃ A c, e = .returned (.tuple #[.agg #[.int .i64 (lookR l i).1.f, .int .i64 (lookR l i).1.t, .slice A (lookR l i).1.b.length c], .bool (lookR l i).2]) ∧ St W (Own 5 1 A (lookR l i).1.b.length c (u8s (lookR l i).1.b) :: Bag g l :: L) w' := by
  by_cases h : inn l i
  · obtain ⟨k, rfl⟩ : ∃ k : Nat, i = (k : Int) := ⟨i.toNat, by have := h.1; omega⟩
    have hk : k < l.length := by have := h.2; omega
    have e1 : lookR l (k : Int) = (l[k], true) := by unfold lookR; rw [if_pos h, Int.toNat_natCast, getD_nat hk]
    have e2 : takeL l (k : Int) = l.eraseIdx k := by unfold takeL; rw [if_pos h, Int.toNat_natCast]
    rw [e1]; try rw [e2]
    exact look_bag W L w g l k hk ok s
  · have e1 : lookR l i = (⟨0, 0, []⟩, false) := by unfold lookR; rw [if_neg h]
    have e2 : takeL l i = l := by unfold takeL; rw [if_neg h]
    rw [e1]; try rw [e2]
    refine (look_bag_out W L w g l i h s).mono fun e w' ⟨he, s⟩ => ⟨none, 0, he, Own.none_ none s⟩

theorem take_all (W : World) (L : List Chunk) (w : World) (g : Nat) (l : List Msg) (i : Int) (ok : OkBag l) (s : St W (Bag g l :: L) w) :
    Calls Try.prog 13 #[.pointer (some ⟨g, 0, none⟩), .int .i64 i] w fun e w' => ∃ A c, e = .returned (.tuple #[.agg #[.int .i64 (lookR l i).1.f, .int .i64 (lookR l i).1.t, .slice A (lookR l i).1.b.length c], .bool (lookR l i).2]) ∧ St W (Own 5 1 A (lookR l i).1.b.length c (u8s (lookR l i).1.b) :: Bag g (takeL l i) :: L) w' := by
  by_cases h : inn l i
  · obtain ⟨k, rfl⟩ : ∃ k : Nat, i = (k : Int) := ⟨i.toNat, by have := h.1; omega⟩
    have hk : k < l.length := by have := h.2; omega
    have e1 : lookR l (k : Int) = (l[k], true) := by unfold lookR; rw [if_pos h, Int.toNat_natCast, getD_nat hk]
    have e2 : takeL l (k : Int) = l.eraseIdx k := by unfold takeL; rw [if_pos h, Int.toNat_natCast]
    rw [e1]; try rw [e2]
    exact take_bag W L w g l k hk ok s
  · have e1 : lookR l i = (⟨0, 0, []⟩, false) := by unfold lookR; rw [if_neg h]
    have e2 : takeL l i = l := by unfold takeL; rw [if_neg h]
    rw [e1]; try rw [e2]
    refine (take_bag_out W L w g l i h s).mono fun e w' ⟨he, s⟩ => ⟨none, 0, he, Own.none_ none s⟩

theorem double_all (W : World) (L : List Chunk) (w : World) (g : Nat) (l : List Msg) (i : Int) (ok : OkBag l) (s : St W (Bag g l :: L) w) :
    Calls Try.prog 15 #[.pointer (some ⟨g, 0, none⟩), .int .i64 i] w fun e w' => e = .returned (.int .i64 (dblR l i)) ∧ St W (Bag g (dblL l i) :: L) w' := by
  by_cases h : inn l i
  · obtain ⟨k, rfl⟩ : ∃ k : Nat, i = (k : Int) := ⟨i.toNat, by have := h.1; omega⟩
    have hk : k < l.length := by have := h.2; omega
    have e1 : dblR l (k : Int) = putCode l[k] l.length := by unfold dblR; rw [if_pos h, Int.toNat_natCast, getD_nat hk]
    have e2 : dblL l (k : Int) = bput l l[k] := by unfold dblL; rw [if_pos h, Int.toNat_natCast, getD_nat hk]
    rw [e1, e2]
    exact double_bag W L w g l k hk ok s
  · have e1 : dblR l i = 9 := by unfold dblR; rw [if_neg h]
    have e2 : dblL l i = l := by unfold dblL; rw [if_neg h]
    rw [e1, e2]
    exact double_bag_out W L w g l i h s

theorem rlook_all (W : World) (L : List Chunk) (w : World) (g : Nat) (l : List Msg) (i : Int) (ok : OkBag l) (s : St W (RBag g l :: L) w) :
    Calls Try.prog 12 #[.pointer (some ⟨g, 0, none⟩), .int .i64 i] w fun e w' => ∃ A c, e = .returned (.tuple #[.agg #[.int .i64 (lookR l i).1.f, .int .i64 (lookR l i).1.t, .slice A (lookR l i).1.b.length c], .bool (lookR l i).2]) ∧ St W (Own 5 1 A (lookR l i).1.b.length c (u8s (lookR l i).1.b) :: RBag g l :: L) w' := by
  by_cases h : inn l i
  · obtain ⟨k, rfl⟩ : ∃ k : Nat, i = (k : Int) := ⟨i.toNat, by have := h.1; omega⟩
    have hk : k < l.length := by have := h.2; omega
    have e1 : lookR l (k : Int) = (l[k], true) := by unfold lookR; rw [if_pos h, Int.toNat_natCast, getD_nat hk]
    have e2 : takeL l (k : Int) = l.eraseIdx k := by unfold takeL; rw [if_pos h, Int.toNat_natCast]
    rw [e1]; try rw [e2]
    exact rlook_bag W L w g l k hk ok s
  · have e1 : lookR l i = (⟨0, 0, []⟩, false) := by unfold lookR; rw [if_neg h]
    have e2 : takeL l i = l := by unfold takeL; rw [if_neg h]
    rw [e1]; try rw [e2]
    refine (rlook_bag_out W L w g l i h s).mono fun e w' ⟨he, s⟩ => ⟨none, 0, he, Own.none_ none s⟩

theorem rtake_all (W : World) (L : List Chunk) (w : World) (g : Nat) (l : List Msg) (i : Int) (ok : OkBag l) (s : St W (RBag g l :: L) w) :
    Calls Try.prog 14 #[.pointer (some ⟨g, 0, none⟩), .int .i64 i] w fun e w' => ∃ A c, e = .returned (.tuple #[.agg #[.int .i64 (lookR l i).1.f, .int .i64 (lookR l i).1.t, .slice A (lookR l i).1.b.length c], .bool (lookR l i).2]) ∧ St W (Own 5 1 A (lookR l i).1.b.length c (u8s (lookR l i).1.b) :: RBag g (takeL l i) :: L) w' := by
  by_cases h : inn l i
  · obtain ⟨k, rfl⟩ : ∃ k : Nat, i = (k : Int) := ⟨i.toNat, by have := h.1; omega⟩
    have hk : k < l.length := by have := h.2; omega
    have e1 : lookR l (k : Int) = (l[k], true) := by unfold lookR; rw [if_pos h, Int.toNat_natCast, getD_nat hk]
    have e2 : takeL l (k : Int) = l.eraseIdx k := by unfold takeL; rw [if_pos h, Int.toNat_natCast]
    rw [e1]; try rw [e2]
    exact rtake_bag W L w g l k hk ok s
  · have e1 : lookR l i = (⟨0, 0, []⟩, false) := by unfold lookR; rw [if_neg h]
    have e2 : takeL l i = l := by unfold takeL; rw [if_neg h]
    rw [e1]; try rw [e2]
    refine (rtake_bag_out W L w g l i h s).mono fun e w' ⟨he, s⟩ => ⟨none, 0, he, Own.none_ none s⟩

theorem rdouble_all (W : World) (L : List Chunk) (w : World) (g : Nat) (l : List Msg) (i : Int) (ok : OkBag l) (s : St W (RBag g l :: L) w) :
    Calls Try.prog 16 #[.pointer (some ⟨g, 0, none⟩), .int .i64 i] w fun e w' => e = .returned (.int .i64 (dblR l i)) ∧ St W (RBag g (dblL l i) :: L) w' := by
  by_cases h : inn l i
  · obtain ⟨k, rfl⟩ : ∃ k : Nat, i = (k : Int) := ⟨i.toNat, by have := h.1; omega⟩
    have hk : k < l.length := by have := h.2; omega
    have e1 : dblR l (k : Int) = putCode l[k] l.length := by unfold dblR; rw [if_pos h, Int.toNat_natCast, getD_nat hk]
    have e2 : dblL l (k : Int) = bput l l[k] := by unfold dblL; rw [if_pos h, Int.toNat_natCast, getD_nat hk]
    rw [e1, e2]
    exact rdouble_bag W L w g l k hk ok s
  · have e1 : dblR l i = 9 := by unfold dblR; rw [if_neg h]
    have e2 : dblL l i = l := by unfold dblL; rw [if_neg h]
    rw [e1, e2]
    exact rdouble_bag_out W L w g l i h s

theorem copy_deed (W : World) (L : List Chunk) (w : World) (d : Dd) (hr : Knows L fun w => Reads w 1 d.A d.n (u8s d.b)) (hl : d.b.length = d.n) (hn : d.n ≤ 140737488351232) (s : St W L w) :
    Calls Try.prog 9 #[.agg #[.int .i64 d.f, .int .i64 d.t, .slice d.A d.n d.c]] w fun e w' => ∃ A c, e = .returned (.agg #[.int .i64 d.f, .int .i64 d.t, .slice A d.n c]) ∧ d.n ≤ c ∧ St W (Own 5 1 A (min d.n 2000) (min d.n 2000) (u8s (d.b.take 2000)) :: L) w' := by
  refine (copy_any W L w d.f d.t d.A d.n d.c d.b hr hn s).mono ?_
  rintro e w' ⟨A, c, rfl, s⟩
  refine ⟨A, c, rfl, (Own.facts s.1).2.1, ?_⟩
  have s := Own.cut s (Nat.min_le_left d.n 2000)
  have e1 : (u8s d.b).take (min d.n 2000 * 1) = u8s (d.b.take 2000) := by
    rw [Nat.mul_one, u8s, u8s, ← List.map_take, ← hl, Nat.min_comm, ← List.take_take, List.take_length]
  rwa [e1] at s
theorem len_take {d : Dd} (h : d.b.length = d.n) : min d.n 2000 = (d.b.take 2000).length := by rw [List.length_take, h, Nat.min_comm]

theorem bagDoes_pos (W : World) (L : List Chunk) (w : World) (ad : Addr) (n c : Nat) (ds : List Dd) (hold : Knows L fun w => ∀ k A n cs, Reads W k A n cs → Reads w k A n cs) (hr0 : Reads W 5 (some ad) n (deeds ds)) (hdn : ds.length = n) (hgood : ∀ d ∈ ds, d.Good W) (hnc : n ≤ c) (hn : n ≤ 140737488351232) (s : St W L w) :
    Calls Try.prog 3 #[.slice (some ad) n c] w fun e w' => e = .returned (.bool true) ∧ St W L w' := by
  have hr : Knows L fun w => Reads w 5 (some ad) n (deeds ds) := fun w s => hold w s _ _ _ _ hr0
  refine enter_args (l := [.slice (some ad) n c]) Try.func3 rfl rfl (Nat.le_of_ble_eq_true rfl) ?_
  intro a ha; replace ha : Has a 174 [(0, .slice (some ad) n c)] := ha
  refine wp_seq ?_
  refine wp_region_lit ?_
  refine st_val (.bool false) ha (by kernel_rfl) (by kernel_rfl) ?_
  clear ha; intro a ha
  refine wpList_nil ?_
  refine then_normal ?_
  refine wp_seq ?_
  refine wp_region_lit ?_
  refine st_call ha (by kernel_rfl) (by kernel_rfl) (new_bag W _ w s) ?_
  rintro _ w ⟨g1, rfl, s⟩
  replace s : St W (Bag g1 [] :: L) w := s
  refine ⟨_, rfl, ?_⟩; clear ha; intro a ha
  refine st_call ha (by kernel_rfl) (by kernel_rfl) (rnew_bag W _ w s) ?_
  rintro _ w ⟨g2, rfl, s⟩
  replace s : St W (RBag g2 [] :: Bag g1 [] :: L) w := s
  refine ⟨_, rfl, ?_⟩; clear ha; intro a ha
  refine st_val (.pointer (some ⟨g1, 0, none⟩)) ha (by kernel_rfl) (by kernel_rfl) ?_
  clear ha; intro a ha
  refine st_val (.pointer (some ⟨g2, 0, none⟩)) ha (by kernel_rfl) (by kernel_rfl) ?_
  clear ha; intro a ha
  refine wpList_nil ?_
  refine then_normal ?_
  refine wp_seq ?_
  refine wp_seq ?_
  refine wp_region_lit ?_
  refine st_val (.int .i64 0) ha (by kernel_rfl) (by kernel_rfl) ?_
  clear ha; intro a ha
  refine wpList_nil ?_
  refine then_normal ?_
  refine wp_block ?_
  replace s := s.at_ (j := 1) rfl
  replace s : St W (Bag g1 [] :: RBag g2 [] :: L) w := s
  refine wp_loopG (G := (Nat × List Msg)) (fun ⟨k, l⟩ a w => Has a 174 [(0, .slice (some ad) n c), (3, .pointer (some ⟨g1, 0, none⟩)), (4, .pointer (some ⟨g2, 0, none⟩)), (5, .int .i64 ((k : Nat) : Int))] ∧ St W (Bag g1 l :: RBag g2 l :: L) w ∧ (k ≤ 150 ∧ OkBag l)) (fun ⟨k, l⟩ => 150 - k) (0, []) ?_ ?_
  · exact ⟨(Has.cons ha (by kernel_rfl) (by kernel_rfl) (Has.cons ha (by kernel_rfl) (by kernel_rfl) (Has.cons ha (by kernel_rfl) (by kernel_rfl) (Has.cons ha (by kernel_rfl) (by kernel_rfl) (Has.nil ha))))), s, ⟨Nat.zero_le _, OkBag.nil⟩⟩
  · clear ha s; rintro ⟨k, l⟩ a w ⟨ha, s, hp⟩
    refine wp_seq ?_
    refine wp_seq ?_
    refine wp_region_lit ?_
    refine st_val (.int .i64 ((k : Nat) : Int)) ha (by kernel_rfl) (by kernel_rfl) ?_
    clear ha; intro a ha
    refine st_val (.slice (some ad) n c) ha (by kernel_rfl) (by kernel_rfl) ?_
    clear ha; intro a ha
    refine st_val (.int .i64 ((n : Nat) : Int)) ha (by kernel_rfl) (by kernel_rfl) ?_
    clear ha; intro a ha
    refine st_val (.bool (decide (((k : Nat) : Int) < ((n : Nat) : Int)))) ha (by kernel_rfl) (by kernel_rfl) ?_
    clear ha; intro a ha
    refine st_val (.bool (decide (((k : Nat) : Int) < ((n : Nat) : Int)))) ha (by kernel_rfl) (by kernel_rfl) ?_
    clear ha; intro a ha
    rcases Bool.eq_false_or_eq_true (decide (((k : Nat) : Int) < ((n : Nat) : Int))) with hb | hb
    · rw [hb] at ha; replace hb : (((k : Nat) : Int) < ((n : Nat) : Int)) := of_decide_eq_true hb
      have ok := hp.2
      have hkn : k < n := by omega
      obtain ⟨d, hd⟩ : ∃ d, ds[k]? = some d := ⟨_, List.getElem?_eq_getElem (by omega)⟩
      have hg := hgood d (List.mem_of_getElem? hd)
      refine st_val (.int .i64 ((k : Nat) : Int)) ha (by kernel_rfl) (by kernel_rfl) ?_
      clear ha; intro a ha
      refine st_val (.bool (decide (((k : Nat) : Int) < (150 : Int)))) ha (by kernel_rfl) (by kernel_rfl) ?_
      clear ha; intro a ha
      refine st_val (.bool (decide (((k : Nat) : Int) < (150 : Int)))) ha (by kernel_rfl) (by kernel_rfl) ?_
      clear ha; intro a ha
      refine wpList_nil ?_
      refine then_normal ?_
      refine wp_part (decide (((k : Nat) : Int) < (150 : Int))) ha rfl (by kernel_rfl) (fun hb => ?_) (fun hb => ?_)
      · rw [hb] at ha; replace hb : (((k : Nat) : Int) < (150 : Int)) := of_decide_eq_true hb
        refine wp_skip ?_
        refine then_normal ?_
        refine wp_seq ?_
        refine wp_block ?_
        refine wp_seq ?_
        refine wp_region_lit ?_
        refine st_val (.slice (some ad) n c) ha (by kernel_rfl) (by kernel_rfl) ?_
        clear ha; intro a ha
        refine st_val (.int .i64 ((k : Nat) : Int)) ha (by kernel_rfl) (by kernel_rfl) ?_
        clear ha; intro a ha
        refine st_val (.pointer (some (ad.add (k * 5)))) ha (by kernel_rfl) (run_indexAddr' (kd := .i64) (n := n) (c := c) k rfl Try.underlying22 Try.sizeOf32 (by kernel_rfl) (by kernel_rfl) rfl (by first | assumption | omega) _) ?_
        clear ha; intro a ha
        refine st_val (.pointer (some (ad.add (k * 5 + 2)))) ha (by kernel_rfl) (run_fieldAddr_at (i := k * 5) (off := 2) rfl Try.underlying32 rfl Try.sizeOf29 (by kernel_rfl) _) ?_
        clear ha; intro a ha
        refine st_val (.agg #[.int .i64 d.f, .int .i64 d.t, .slice d.A d.n d.c]) ha (by kernel_rfl) (run_loadAtN (i := k * 5 + 2) [.int .i64 d.f, .int .i64 d.t, .slice d.A d.n d.c] (hr _ (Sat.drops (A := [Bag g1 l, RBag g2 l]) s.sat)) rfl (by kernel_rfl) Try.isAgg29 Try.sizeOf29 (fun j hj => by rw [Nat.add_assoc, deeds_at hd (by omega)]; match j, hj with | 0, _ => rfl | 1, _ => rfl | 2, _ => rfl) rfl) ?_
        clear ha; intro a ha
        refine st_call ha (by kernel_rfl) (by kernel_rfl) (copy_deed W _ w d (fun w s => hold w (Sat.drops (A := [Bag g1 l, RBag g2 l]) s) _ _ _ _ hg.1) hg.2.1 hg.2.2.2 s) ?_
        rintro _ w ⟨A3, c4, rfl, hc4, s⟩
        replace s : St W (Own 5 1 A3 (min d.n 2000) (min d.n 2000) (u8s (d.b.take 2000)) :: Bag g1 l :: RBag g2 l :: L) w := s
        refine ⟨_, rfl, ?_⟩; clear ha; intro a ha
        refine st_ex ha (by kernel_rfl) (ex_alloc [.int .i64 0, .int .i64 0, .slice none 0 0] s rfl (Try.zeroValue29 _) (by kernel_rfl)) ?_
        clear ha; rintro _ w a ⟨g5, rfl, s⟩ ha
        replace s : St W (.blk g5 [.int .i64 0, .int .i64 0, .slice none 0 0] 29 :: Own 5 1 A3 (min d.n 2000) (min d.n 2000) (u8s (d.b.take 2000)) :: Bag g1 l :: RBag g2 l :: L) w := s
        refine st_exd ha (by kernel_rfl) (ex_store (of_ := 0) 0 [.int .i64 d.f, .int .i64 d.t, .slice A3 d.n c4] s rfl rfl (by kernel_rfl) (by kernel_rfl) (Try.sizeOf29 _) rfl (by simp [Value.oneCell']) (Nat.le_of_ble_eq_true rfl)) ?_
        clear ha; rintro w a s ha
        replace s : St W (.blk g5 [.int .i64 d.f, .int .i64 d.t, .slice A3 d.n c4] 29 :: Own 5 1 A3 (min d.n 2000) (min d.n 2000) (u8s (d.b.take 2000)) :: Bag g1 l :: RBag g2 l :: L) w := s
        refine wpList_nil ?_
        refine then_normal ?_
        refine wp_seq ?_
        refine wp_region_lit ?_
        refine st_val (.pointer (some ⟨g5, 2, none⟩)) ha (by kernel_rfl) (by kernel_rfl) ?_
        clear ha; intro a ha
        refine st_val (.slice A3 d.n c4) ha (by kernel_rfl) (run_load1 (of_ := 2) (s.blkIs 0 rfl) rfl (by kernel_rfl) Try.isAgg27 rfl) ?_
        clear ha; intro a ha
        refine st_val (.pointer (some ⟨g5, 2, none⟩)) ha (by kernel_rfl) (by kernel_rfl) ?_
        clear ha; intro a ha
        refine st_val (.slice A3 d.n c4) ha (by kernel_rfl) (run_load1 (of_ := 2) (s.blkIs 0 rfl) rfl (by kernel_rfl) Try.isAgg27 rfl) ?_
        clear ha; intro a ha
        refine st_val (.int .i64 ((d.n : Nat) : Int)) ha (by kernel_rfl) (by kernel_rfl) ?_
        clear ha; intro a ha
        refine st_val (.int .i64 ((min d.n 2000 : Nat) : Int)) ha (by kernel_rfl) (run_min2 (p := ((d.n : Nat) : Int)) (q := (2000 : Int)) ((min d.n 2000 : Nat) : Int) rfl (by kernel_rfl) (by kernel_rfl) (by split <;> omega) _) ?_
        clear ha; intro a ha
        refine st_val (.slice A3 (min d.n 2000) c4) ha (by kernel_rfl) (run_slice0 (n := d.n) (c := c4) (min d.n 2000) c4 rfl Try.underlying27 Try.sizeOf5 (by kernel_rfl) (fun _ => rfl) bnd_none (bnd_some .i64 (by kernel_rfl)) bnd_none (by omega) (by omega) _) ?_
        clear ha; intro a ha
        refine st_val (.pointer (some ⟨g5, 2, none⟩)) ha (by kernel_rfl) (by kernel_rfl) ?_
        clear ha; intro a ha
        refine st_exd ha (by kernel_rfl) (ex_store (of_ := 2) 0 [.slice A3 (min d.n 2000) c4] s rfl rfl (by kernel_rfl) (by kernel_rfl) (Try.sizeOf27 _) rfl (by simp [Value.oneCell']) (Nat.le_of_ble_eq_true rfl)) ?_
        clear ha; rintro w a s ha
        replace s : St W (.blk g5 [.int .i64 d.f, .int .i64 d.t, .slice A3 (min d.n 2000) c4] 29 :: Own 5 1 A3 (min d.n 2000) (min d.n 2000) (u8s (d.b.take 2000)) :: Bag g1 l :: RBag g2 l :: L) w := s
        refine wpList_nil ?_
        refine then_normal ?_
        refine wp_seq ?_
        refine wp_region_lit ?_
        refine st_val (.agg #[.int .i64 0, .int .i64 0, .slice none 0 0]) ha (by kernel_rfl) (by kernel_rfl) ?_
        clear ha; intro a ha
        refine st_val (.agg #[.int .i64 0, .int .i64 0, .slice none 0 0]) ha (by kernel_rfl) (by kernel_rfl) ?_
        clear ha; intro a ha
        refine st_ex ha (by kernel_rfl) (ex_alloc [.int .i64 0, .int .i64 0, .slice none 0 0] s rfl (Try.zeroValue29 _) (by kernel_rfl)) ?_
        clear ha; rintro _ w a ⟨g6, rfl, s⟩ ha
        replace s : St W (.blk g6 [.int .i64 0, .int .i64 0, .slice none 0 0] 29 :: .blk g5 [.int .i64 d.f, .int .i64 d.t, .slice A3 (min d.n 2000) c4] 29 :: Own 5 1 A3 (min d.n 2000) (min d.n 2000) (u8s (d.b.take 2000)) :: Bag g1 l :: RBag g2 l :: L) w := s
        refine st_ex ha (by kernel_rfl) (ex_alloc [.int .i64 0, .int .i64 0, .slice none 0 0] s rfl (Try.zeroValue29 _) (by kernel_rfl)) ?_
        clear ha; rintro _ w a ⟨g7, rfl, s⟩ ha
        replace s : St W (.blk g7 [.int .i64 0, .int .i64 0, .slice none 0 0] 29 :: .blk g6 [.int .i64 0, .int .i64 0, .slice none 0 0] 29 :: .blk g5 [.int .i64 d.f, .int .i64 d.t, .slice A3 (min d.n 2000) c4] 29 :: Own 5 1 A3 (min d.n 2000) (min d.n 2000) (u8s (d.b.take 2000)) :: Bag g1 l :: RBag g2 l :: L) w := s
        refine st_exd ha (by kernel_rfl) (ex_store (of_ := 0) 1 [.int .i64 0, .int .i64 0, .slice none 0 0] s rfl rfl (by kernel_rfl) (by kernel_rfl) (Try.sizeOf29 _) rfl (by simp [Value.oneCell']) (Nat.le_of_ble_eq_true rfl)) ?_
        clear ha; rintro w a s ha
        replace s : St W (.blk g7 [.int .i64 0, .int .i64 0, .slice none 0 0] 29 :: .blk g6 [.int .i64 0, .int .i64 0, .slice none 0 0] 29 :: .blk g5 [.int .i64 d.f, .int .i64 d.t, .slice A3 (min d.n 2000) c4] 29 :: Own 5 1 A3 (min d.n 2000) (min d.n 2000) (u8s (d.b.take 2000)) :: Bag g1 l :: RBag g2 l :: L) w := s
        refine st_exd ha (by kernel_rfl) (ex_store (of_ := 0) 0 [.int .i64 0, .int .i64 0, .slice none 0 0] s rfl rfl (by kernel_rfl) (by kernel_rfl) (Try.sizeOf29 _) rfl (by simp [Value.oneCell']) (Nat.le_of_ble_eq_true rfl)) ?_
        clear ha; rintro w a s ha
        replace s : St W (.blk g7 [.int .i64 0, .int .i64 0, .slice none 0 0] 29 :: .blk g6 [.int .i64 0, .int .i64 0, .slice none 0 0] 29 :: .blk g5 [.int .i64 d.f, .int .i64 d.t, .slice A3 (min d.n 2000) c4] 29 :: Own 5 1 A3 (min d.n 2000) (min d.n 2000) (u8s (d.b.take 2000)) :: Bag g1 l :: RBag g2 l :: L) w := s
        refine wpList_nil ?_
        refine then_normal ?_
        refine wp_seq ?_
        refine wp_region_lit ?_
        refine st_val (.bool true) ha (by kernel_rfl) (by kernel_rfl) ?_
        clear ha; intro a ha
        refine st_val (.bool true) ha (by kernel_rfl) (by kernel_rfl) ?_
        clear ha; intro a ha
        refine wpList_nil ?_
        refine then_normal ?_
        refine wp_seq ?_
        refine wp_seq ?_
        refine wp_region_lit ?_
        refine st_val (.slice (some ad) n c) ha (by kernel_rfl) (by kernel_rfl) ?_
        clear ha; intro a ha
        refine st_val (.int .i64 ((k : Nat) : Int)) ha (by kernel_rfl) (by kernel_rfl) ?_
        clear ha; intro a ha
        refine st_val (.pointer (some (ad.add (k * 5)))) ha (by kernel_rfl) (run_indexAddr' (kd := .i64) (n := n) (c := c) k rfl Try.underlying22 Try.sizeOf32 (by kernel_rfl) (by kernel_rfl) rfl (by first | assumption | omega) _) ?_
        clear ha; intro a ha
        refine st_val (.pointer (some (ad.add (k * 5 + 0)))) ha (by kernel_rfl) (run_fieldAddr_at (i := k * 5) (off := 0) rfl Try.underlying32 rfl Try.sizeOf3 (by kernel_rfl) _) ?_
        clear ha; intro a ha
        refine st_val (.int .i64 d.k) ha (by kernel_rfl) (run_loadAt1 (i := k * 5 + 0) (hr _ (Sat.drops (A := [.blk g7 [.int .i64 0, .int .i64 0, .slice none 0 0] 29, .blk g6 [.int .i64 0, .int .i64 0, .slice none 0 0] 29, .blk g5 [.int .i64 d.f, .int .i64 d.t, .slice A3 (min d.n 2000) c4] 29, Own 5 1 A3 (min d.n 2000) (min d.n 2000) (u8s (d.b.take 2000)), Bag g1 l, RBag g2 l]) s.sat)) rfl (by kernel_rfl) Try.isAgg3 (by rw [deeds_at hd (by omega)]; rfl)) ?_
        clear ha; intro a ha
        refine st_call ha (by kernel_rfl) (by kernel_rfl) (bring_pos W _ w d.k 8 (by omega) (by omega) s) ?_
        rintro _ w ⟨rfl, s⟩
        replace s : St W (.blk g7 [.int .i64 0, .int .i64 0, .slice none 0 0] 29 :: .blk g6 [.int .i64 0, .int .i64 0, .slice none 0 0] 29 :: .blk g5 [.int .i64 d.f, .int .i64 d.t, .slice A3 (min d.n 2000) c4] 29 :: Own 5 1 A3 (min d.n 2000) (min d.n 2000) (u8s (d.b.take 2000)) :: Bag g1 l :: RBag g2 l :: L) w := s
        refine ⟨_, rfl, ?_⟩; clear ha; intro a ha
        refine wpList_nil ?_
        refine then_normal ?_
        refine wp_block ?_
        refine wp_seq ?_
        refine wp_region_lit ?_
        refine st_val (.bool ((d.k % 8) == (4 : Int))) ha (by kernel_rfl) (by kernel_rfl) ?_
        clear ha; intro a ha
        refine st_val (.bool ((d.k % 8) == (4 : Int))) ha (by kernel_rfl) (by kernel_rfl) ?_
        clear ha; intro a ha
        refine wpList_nil ?_
        refine then_normal ?_
        refine wp_part ((d.k % 8) == (4 : Int)) ha rfl (by kernel_rfl) (fun hb => ?_) (fun hb => ?_)
        · rw [hb] at ha; have hb_ := hb; replace hb := eq_of_beq hb
          refine wp_seq ?_
          refine wp_region_lit ?_
          refine st_val (.pointer (some ⟨g1, 0, none⟩)) ha (by kernel_rfl) (by kernel_rfl) ?_
          clear ha; intro a ha
          refine st_val (.slice (some ad) n c) ha (by kernel_rfl) (by kernel_rfl) ?_
          clear ha; intro a ha
          refine st_val (.int .i64 ((k : Nat) : Int)) ha (by kernel_rfl) (by kernel_rfl) ?_
          clear ha; intro a ha
          refine st_val (.pointer (some (ad.add (k * 5)))) ha (by kernel_rfl) (run_indexAddr' (kd := .i64) (n := n) (c := c) k rfl Try.underlying22 Try.sizeOf32 (by kernel_rfl) (by kernel_rfl) rfl (by first | assumption | omega) _) ?_
          clear ha; intro a ha
          refine st_val (.pointer (some (ad.add (k * 5 + 1)))) ha (by kernel_rfl) (run_fieldAddr_at (i := k * 5) (off := 1) rfl Try.underlying32 rfl Try.sizeOf3 (by kernel_rfl) _) ?_
          clear ha; intro a ha
          refine st_val (.int .i64 d.i) ha (by kernel_rfl) (run_loadAt1 (i := k * 5 + 1) (hr _ (Sat.drops (A := [.blk g7 [.int .i64 0, .int .i64 0, .slice none 0 0] 29, .blk g6 [.int .i64 0, .int .i64 0, .slice none 0 0] 29, .blk g5 [.int .i64 d.f, .int .i64 d.t, .slice A3 (min d.n 2000) c4] 29, Own 5 1 A3 (min d.n 2000) (min d.n 2000) (u8s (d.b.take 2000)), Bag g1 l, RBag g2 l]) s.sat)) rfl (by kernel_rfl) Try.isAgg3 (by rw [deeds_at hd (by omega)]; rfl)) ?_
          clear ha; intro a ha
          replace s := s.at_ (j := 4) rfl
          replace s : St W (Bag g1 l :: .blk g7 [.int .i64 0, .int .i64 0, .slice none 0 0] 29 :: .blk g6 [.int .i64 0, .int .i64 0, .slice none 0 0] 29 :: .blk g5 [.int .i64 d.f, .int .i64 d.t, .slice A3 (min d.n 2000) c4] 29 :: Own 5 1 A3 (min d.n 2000) (min d.n 2000) (u8s (d.b.take 2000)) :: RBag g2 l :: L) w := s
          refine st_call ha (by kernel_rfl) (by kernel_rfl) (look_all W _ w g1 l d.i ok s) ?_
          rintro _ w ⟨A8, c9, rfl, s⟩
          replace s : St W (Own 5 1 A8 ((lookR l d.i).1.b.length) c9 (u8s (lookR l d.i).1.b) :: Bag g1 l :: .blk g7 [.int .i64 0, .int .i64 0, .slice none 0 0] 29 :: .blk g6 [.int .i64 0, .int .i64 0, .slice none 0 0] 29 :: .blk g5 [.int .i64 d.f, .int .i64 d.t, .slice A3 (min d.n 2000) c4] 29 :: Own 5 1 A3 (min d.n 2000) (min d.n 2000) (u8s (d.b.take 2000)) :: RBag g2 l :: L) w := s
          refine ⟨_, rfl, ?_⟩; clear ha; intro a ha
          refine st_val (.tuple #[.agg #[.int .i64 ((lookR l d.i).1.f), .int .i64 ((lookR l d.i).1.t), .slice A8 ((lookR l d.i).1.b.length) c9], .bool ((lookR l d.i).2)]) ha (by kernel_rfl) (by kernel_rfl) ?_
          clear ha; intro a ha
          refine st_val (.agg #[.int .i64 ((lookR l d.i).1.f), .int .i64 ((lookR l d.i).1.t), .slice A8 ((lookR l d.i).1.b.length) c9]) ha (by kernel_rfl) (by kernel_rfl) ?_
          clear ha; intro a ha
          refine st_val (.bool ((lookR l d.i).2)) ha (by kernel_rfl) (by kernel_rfl) ?_
          clear ha; intro a ha
          refine st_exd ha (by kernel_rfl) (ex_store (of_ := 0) 3 [.int .i64 ((lookR l d.i).1.f), .int .i64 ((lookR l d.i).1.t), .slice A8 ((lookR l d.i).1.b.length) c9] s rfl rfl (by kernel_rfl) (by kernel_rfl) (Try.sizeOf29 _) rfl (by simp [Value.oneCell']) (Nat.le_of_ble_eq_true rfl)) ?_
          clear ha; rintro w a s ha
          replace s : St W (Own 5 1 A8 ((lookR l d.i).1.b.length) c9 (u8s (lookR l d.i).1.b) :: Bag g1 l :: .blk g7 [.int .i64 0, .int .i64 0, .slice none 0 0] 29 :: .blk g6 [.int .i64 ((lookR l d.i).1.f), .int .i64 ((lookR l d.i).1.t), .slice A8 ((lookR l d.i).1.b.length) c9] 29 :: .blk g5 [.int .i64 d.f, .int .i64 d.t, .slice A3 (min d.n 2000) c4] 29 :: Own 5 1 A3 (min d.n 2000) (min d.n 2000) (u8s (d.b.take 2000)) :: RBag g2 l :: L) w := s
          refine st_val (.bool ((lookR l d.i).2)) ha (by kernel_rfl) (by kernel_rfl) ?_
          clear ha; intro a ha
          refine wpList_nil ?_
          refine then_normal ?_
          refine wp_region_lit ?_
          refine st_val (.pointer (some ⟨g2, 0, none⟩)) ha (by kernel_rfl) (by kernel_rfl) ?_
          clear ha; intro a ha
          refine st_val (.slice (some ad) n c) ha (by kernel_rfl) (by kernel_rfl) ?_
          clear ha; intro a ha
          refine st_val (.int .i64 ((k : Nat) : Int)) ha (by kernel_rfl) (by kernel_rfl) ?_
          clear ha; intro a ha
          refine st_val (.pointer (some (ad.add (k * 5)))) ha (by kernel_rfl) (run_indexAddr' (kd := .i64) (n := n) (c := c) k rfl Try.underlying22 Try.sizeOf32 (by kernel_rfl) (by kernel_rfl) rfl (by first | assumption | omega) _) ?_
          clear ha; intro a ha
          refine st_val (.pointer (some (ad.add (k * 5 + 1)))) ha (by kernel_rfl) (run_fieldAddr_at (i := k * 5) (off := 1) rfl Try.underlying32 rfl Try.sizeOf3 (by kernel_rfl) _) ?_
          clear ha; intro a ha
          refine st_val (.int .i64 d.i) ha (by kernel_rfl) (run_loadAt1 (i := k * 5 + 1) (hr _ (Sat.drops (A := [Own 5 1 A8 ((lookR l d.i).1.b.length) c9 (u8s (lookR l d.i).1.b), Bag g1 l, .blk g7 [.int .i64 0, .int .i64 0, .slice none 0 0] 29, .blk g6 [.int .i64 ((lookR l d.i).1.f), .int .i64 ((lookR l d.i).1.t), .slice A8 ((lookR l d.i).1.b.length) c9] 29, .blk g5 [.int .i64 d.f, .int .i64 d.t, .slice A3 (min d.n 2000) c4] 29, Own 5 1 A3 (min d.n 2000) (min d.n 2000) (u8s (d.b.take 2000)), RBag g2 l]) s.sat)) rfl (by kernel_rfl) Try.isAgg3 (by rw [deeds_at hd (by omega)]; rfl)) ?_
          clear ha; intro a ha
          replace s := s.at_ (j := 6) rfl
          replace s : St W (RBag g2 l :: Own 5 1 A8 ((lookR l d.i).1.b.length) c9 (u8s (lookR l d.i).1.b) :: Bag g1 l :: .blk g7 [.int .i64 0, .int .i64 0, .slice none 0 0] 29 :: .blk g6 [.int .i64 ((lookR l d.i).1.f), .int .i64 ((lookR l d.i).1.t), .slice A8 ((lookR l d.i).1.b.length) c9] 29 :: .blk g5 [.int .i64 d.f, .int .i64 d.t, .slice A3 (min d.n 2000) c4] 29 :: Own 5 1 A3 (min d.n 2000) (min d.n 2000) (u8s (d.b.take 2000)) :: L) w := s
          refine st_call ha (by kernel_rfl) (by kernel_rfl) (rlook_all W _ w g2 l d.i ok s) ?_
          rintro _ w ⟨A10, c11, rfl, s⟩
          replace s : St W (Own 5 1 A10 ((lookR l d.i).1.b.length) c11 (u8s (lookR l d.i).1.b) :: RBag g2 l :: Own 5 1 A8 ((lookR l d.i).1.b.length) c9 (u8s (lookR l d.i).1.b) :: Bag g1 l :: .blk g7 [.int .i64 0, .int .i64 0, .slice none 0 0] 29 :: .blk g6 [.int .i64 ((lookR l d.i).1.f), .int .i64 ((lookR l d.i).1.t), .slice A8 ((lookR l d.i).1.b.length) c9] 29 :: .blk g5 [.int .i64 d.f, .int .i64 d.t, .slice A3 (min d.n 2000) c4] 29 :: Own 5 1 A3 (min d.n 2000) (min d.n 2000) (u8s (d.b.take 2000)) :: L) w := s
          refine ⟨_, rfl, ?_⟩; clear ha; intro a ha
          refine st_val (.tuple #[.agg #[.int .i64 ((lookR l d.i).1.f), .int .i64 ((lookR l d.i).1.t), .slice A10 ((lookR l d.i).1.b.length) c11], .bool ((lookR l d.i).2)]) ha (by kernel_rfl) (by kernel_rfl) ?_
          clear ha; intro a ha
          refine st_val (.agg #[.int .i64 ((lookR l d.i).1.f), .int .i64 ((lookR l d.i).1.t), .slice A10 ((lookR l d.i).1.b.length) c11]) ha (by kernel_rfl) (by kernel_rfl) ?_
          clear ha; intro a ha
          refine st_val (.bool ((lookR l d.i).2)) ha (by kernel_rfl) (by kernel_rfl) ?_
          clear ha; intro a ha
          refine st_exd ha (by kernel_rfl) (ex_store (of_ := 0) 4 [.int .i64 ((lookR l d.i).1.f), .int .i64 ((lookR l d.i).1.t), .slice A10 ((lookR l d.i).1.b.length) c11] s rfl rfl (by kernel_rfl) (by kernel_rfl) (Try.sizeOf29 _) rfl (by simp [Value.oneCell']) (Nat.le_of_ble_eq_true rfl)) ?_
          clear ha; rintro w a s ha
          replace s : St W (Own 5 1 A10 ((lookR l d.i).1.b.length) c11 (u8s (lookR l d.i).1.b) :: RBag g2 l :: Own 5 1 A8 ((lookR l d.i).1.b.length) c9 (u8s (lookR l d.i).1.b) :: Bag g1 l :: .blk g7 [.int .i64 ((lookR l d.i).1.f), .int .i64 ((lookR l d.i).1.t), .slice A10 ((lookR l d.i).1.b.length) c11] 29 :: .blk g6 [.int .i64 ((lookR l d.i).1.f), .int .i64 ((lookR l d.i).1.t), .slice A8 ((lookR l d.i).1.b.length) c9] 29 :: .blk g5 [.int .i64 d.f, .int .i64 d.t, .slice A3 (min d.n 2000) c4] 29 :: Own 5 1 A3 (min d.n 2000) (min d.n 2000) (u8s (d.b.take 2000)) :: L) w := s
          refine st_val (.bool ((lookR l d.i).2)) ha (by kernel_rfl) (by kernel_rfl) ?_
          clear ha; intro a ha
          refine wpList_nil ?_
          refine block_normal ?_
          refine then_normal ?_
          refine wp_seq ?_
          refine wp_seq ?_
          refine wp_region_lit ?_
          refine st_val (.agg #[.int .i64 ((lookR l d.i).1.f), .int .i64 ((lookR l d.i).1.t), .slice A8 ((lookR l d.i).1.b.length) c9]) ha (by kernel_rfl) (run_loadN (of_ := 0) [.int .i64 ((lookR l d.i).1.f), .int .i64 ((lookR l d.i).1.t), .slice A8 ((lookR l d.i).1.b.length) c9] (s.blkIs 5 rfl) rfl (by kernel_rfl) Try.isAgg29 Try.sizeOf29 rfl (Nat.le_of_ble_eq_true rfl)) ?_
          clear ha; intro a ha
          refine st_val (.agg #[.int .i64 ((lookR l d.i).1.f), .int .i64 ((lookR l d.i).1.t), .slice A10 ((lookR l d.i).1.b.length) c11]) ha (by kernel_rfl) (run_loadN (of_ := 0) [.int .i64 ((lookR l d.i).1.f), .int .i64 ((lookR l d.i).1.t), .slice A10 ((lookR l d.i).1.b.length) c11] (s.blkIs 4 rfl) rfl (by kernel_rfl) Try.isAgg29 Try.sizeOf29 rfl (Nat.le_of_ble_eq_true rfl)) ?_
          clear ha; intro a ha
          refine st_call ha (by kernel_rfl) (by kernel_rfl) (same_to W _ w ((lookR l d.i).1.f) ((lookR l d.i).1.t) ((lookR l d.i).1.f) ((lookR l d.i).1.t) A8 A10 c9 c11 ((lookR l d.i).1.b.length) ((lookR l d.i).1.b.length) ((lookR l d.i).1.b) ((lookR l d.i).1.b) true rfl rfl (Knows.own (j := 2) rfl) (Knows.own (j := 0) rfl) (lookR_small ok _) (decide_eq_true ⟨rfl, rfl, rfl⟩) s) ?_
          rintro _ w ⟨rfl, s⟩
          replace s : St W (Own 5 1 A10 ((lookR l d.i).1.b.length) c11 (u8s (lookR l d.i).1.b) :: RBag g2 l :: Own 5 1 A8 ((lookR l d.i).1.b.length) c9 (u8s (lookR l d.i).1.b) :: Bag g1 l :: .blk g7 [.int .i64 ((lookR l d.i).1.f), .int .i64 ((lookR l d.i).1.t), .slice A10 ((lookR l d.i).1.b.length) c11] 29 :: .blk g6 [.int .i64 ((lookR l d.i).1.f), .int .i64 ((lookR l d.i).1.t), .slice A8 ((lookR l d.i).1.b.length) c9] 29 :: .blk g5 [.int .i64 d.f, .int .i64 d.t, .slice A3 (min d.n 2000) c4] 29 :: Own 5 1 A3 (min d.n 2000) (min d.n 2000) (u8s (d.b.take 2000)) :: L) w := s
          refine ⟨_, rfl, ?_⟩; clear ha; intro a ha
          refine st_val (.bool false) ha (by kernel_rfl) (by kernel_rfl) ?_
          clear ha; intro a ha
          refine st_val (.bool false) ha (by kernel_rfl) (by kernel_rfl) ?_
          clear ha; intro a ha
          refine st_val (.bool ((lookR l d.i).2)) ha (by kernel_rfl) (by kernel_rfl) ?_
          clear ha; intro a ha
          refine st_val (.bool ((lookR l d.i).2)) ha (by kernel_rfl) (by kernel_rfl) ?_
          clear ha; intro a ha
          refine st_val (.bool false) ha (by kernel_rfl) (run_known (bne_self_eq_false _) (show (execOp (evalE _) _).run _ _ = .ok (.value (.bool (((lookR l d.i).2) != ((lookR l d.i).2)))) _ from by kernel_rfl)) ?_
          clear ha; intro a ha
          refine st_val (.bool false) ha (by kernel_rfl) (by kernel_rfl) ?_
          clear ha; intro a ha
          refine st_val (.bool false) ha (by kernel_rfl) (by kernel_rfl) ?_
          clear ha; intro a ha
          refine st_val (.pointer (some ⟨g1, 0, none⟩)) ha (by kernel_rfl) (by kernel_rfl) ?_
          clear ha; intro a ha
          replace s := s.at_ (j := 3) rfl
          replace s : St W (Bag g1 l :: Own 5 1 A10 ((lookR l d.i).1.b.length) c11 (u8s (lookR l d.i).1.b) :: RBag g2 l :: Own 5 1 A8 ((lookR l d.i).1.b.length) c9 (u8s (lookR l d.i).1.b) :: .blk g7 [.int .i64 ((lookR l d.i).1.f), .int .i64 ((lookR l d.i).1.t), .slice A10 ((lookR l d.i).1.b.length) c11] 29 :: .blk g6 [.int .i64 ((lookR l d.i).1.f), .int .i64 ((lookR l d.i).1.t), .slice A8 ((lookR l d.i).1.b.length) c9] 29 :: .blk g5 [.int .i64 d.f, .int .i64 d.t, .slice A3 (min d.n 2000) c4] 29 :: Own 5 1 A3 (min d.n 2000) (min d.n 2000) (u8s (d.b.take 2000)) :: L) w := s
          refine st_call ha (by kernel_rfl) (by kernel_rfl) (len_to W _ w g1 l l.length rfl s) ?_
          rintro _ w ⟨rfl, s⟩
          replace s : St W (Bag g1 l :: Own 5 1 A10 ((lookR l d.i).1.b.length) c11 (u8s (lookR l d.i).1.b) :: RBag g2 l :: Own 5 1 A8 ((lookR l d.i).1.b.length) c9 (u8s (lookR l d.i).1.b) :: .blk g7 [.int .i64 ((lookR l d.i).1.f), .int .i64 ((lookR l d.i).1.t), .slice A10 ((lookR l d.i).1.b.length) c11] 29 :: .blk g6 [.int .i64 ((lookR l d.i).1.f), .int .i64 ((lookR l d.i).1.t), .slice A8 ((lookR l d.i).1.b.length) c9] 29 :: .blk g5 [.int .i64 d.f, .int .i64 d.t, .slice A3 (min d.n 2000) c4] 29 :: Own 5 1 A3 (min d.n 2000) (min d.n 2000) (u8s (d.b.take 2000)) :: L) w := s
          refine ⟨_, rfl, ?_⟩; clear ha; intro a ha
          refine st_val (.pointer (some ⟨g2, 0, none⟩)) ha (by kernel_rfl) (by kernel_rfl) ?_
          clear ha; intro a ha
          replace s := s.at_ (j := 2) rfl
          replace s : St W (RBag g2 l :: Bag g1 l :: Own 5 1 A10 ((lookR l d.i).1.b.length) c11 (u8s (lookR l d.i).1.b) :: Own 5 1 A8 ((lookR l d.i).1.b.length) c9 (u8s (lookR l d.i).1.b) :: .blk g7 [.int .i64 ((lookR l d.i).1.f), .int .i64 ((lookR l d.i).1.t), .slice A10 ((lookR l d.i).1.b.length) c11] 29 :: .blk g6 [.int .i64 ((lookR l d.i).1.f), .int .i64 ((lookR l d.i).1.t), .slice A8 ((lookR l d.i).1.b.length) c9] 29 :: .blk g5 [.int .i64 d.f, .int .i64 d.t, .slice A3 (min d.n 2000) c4] 29 :: Own 5 1 A3 (min d.n 2000) (min d.n 2000) (u8s (d.b.take 2000)) :: L) w := s
          refine st_call ha (by kernel_rfl) (by kernel_rfl) (rlen_to W _ w g2 l l.length rfl s) ?_
          rintro _ w ⟨rfl, s⟩
          replace s : St W (RBag g2 l :: Bag g1 l :: Own 5 1 A10 ((lookR l d.i).1.b.length) c11 (u8s (lookR l d.i).1.b) :: Own 5 1 A8 ((lookR l d.i).1.b.length) c9 (u8s (lookR l d.i).1.b) :: .blk g7 [.int .i64 ((lookR l d.i).1.f), .int .i64 ((lookR l d.i).1.t), .slice A10 ((lookR l d.i).1.b.length) c11] 29 :: .blk g6 [.int .i64 ((lookR l d.i).1.f), .int .i64 ((lookR l d.i).1.t), .slice A8 ((lookR l d.i).1.b.length) c9] 29 :: .blk g5 [.int .i64 d.f, .int .i64 d.t, .slice A3 (min d.n 2000) c4] 29 :: Own 5 1 A3 (min d.n 2000) (min d.n 2000) (u8s (d.b.take 2000)) :: L) w := s
          refine ⟨_, rfl, ?_⟩; clear ha; intro a ha
          refine st_val (.bool false) ha (by kernel_rfl) (run_known (bne_self_eq_false _) (show (execOp (evalE _) _).run _ _ = .ok (.value (.bool (((l.length : Nat) : Int) != ((l.length : Nat) : Int)))) _ from by kernel_rfl)) ?_
          clear ha; intro a ha
          refine st_val (.bool false) ha (by kernel_rfl) (by kernel_rfl) ?_
          clear ha; intro a ha
          refine wpList_nil ?_
          refine then_normal ?_
          refine wp_false ha rfl (by kernel_rfl) ?_
          refine wp_skip ?_
          refine then_normal ?_
          refine wp_seq ?_
          refine wp_region_lit ?_
          refine st_val (.pointer (some ⟨g6, 2, none⟩)) ha (by kernel_rfl) (by kernel_rfl) ?_
          clear ha; intro a ha
          refine st_val (.slice A8 ((lookR l d.i).1.b.length) c9) ha (by kernel_rfl) (run_load1 (of_ := 2) (s.blkIs 5 rfl) rfl (by kernel_rfl) Try.isAgg27 rfl) ?_
          clear ha; intro a ha
          replace s := s.at_ (j := 3) rfl
          replace s : St W (Own 5 1 A8 ((lookR l d.i).1.b.length) c9 (u8s (lookR l d.i).1.b) :: RBag g2 l :: Bag g1 l :: Own 5 1 A10 ((lookR l d.i).1.b.length) c11 (u8s (lookR l d.i).1.b) :: .blk g7 [.int .i64 ((lookR l d.i).1.f), .int .i64 ((lookR l d.i).1.t), .slice A10 ((lookR l d.i).1.b.length) c11] 29 :: .blk g6 [.int .i64 ((lookR l d.i).1.f), .int .i64 ((lookR l d.i).1.t), .slice A8 ((lookR l d.i).1.b.length) c9] 29 :: .blk g5 [.int .i64 d.f, .int .i64 d.t, .slice A3 (min d.n 2000) c4] 29 :: Own 5 1 A3 (min d.n 2000) (min d.n 2000) (u8s (d.b.take 2000)) :: L) w := s
          refine st_call ha (by kernel_rfl) (by kernel_rfl) (spoil_any W _ w A8 ((lookR l d.i).1.b.length) c9 c9 ((lookR l d.i).1.b) (lookR_small ok _) s) ?_
          rintro _ w ⟨rfl, s⟩
          replace s : St W (RBag g2 l :: Bag g1 l :: Own 5 1 A10 ((lookR l d.i).1.b.length) c11 (u8s (lookR l d.i).1.b) :: .blk g7 [.int .i64 ((lookR l d.i).1.f), .int .i64 ((lookR l d.i).1.t), .slice A10 ((lookR l d.i).1.b.length) c11] 29 :: .blk g6 [.int .i64 ((lookR l d.i).1.f), .int .i64 ((lookR l d.i).1.t), .slice A8 ((lookR l d.i).1.b.length) c9] 29 :: .blk g5 [.int .i64 d.f, .int .i64 d.t, .slice A3 (min d.n 2000) c4] 29 :: Own 5 1 A3 (min d.n 2000) (min d.n 2000) (u8s (d.b.take 2000)) :: L) w := s
          refine ⟨_, rfl, ?_⟩; clear ha; intro a ha
          refine wpList_nil ?_
          refine then_normal ?_
          refine wp_region_lit ?_
          refine st_val (.pointer (some ⟨g5, 2, none⟩)) ha (by kernel_rfl) (by kernel_rfl) ?_
          clear ha; intro a ha
          refine st_val (.slice A3 (min d.n 2000) c4) ha (by kernel_rfl) (run_load1 (of_ := 2) (s.blkIs 5 rfl) rfl (by kernel_rfl) Try.isAgg27 rfl) ?_
          clear ha; intro a ha
          replace s := s.at_ (j := 6) rfl
          replace s : St W (Own 5 1 A3 (min d.n 2000) (min d.n 2000) (u8s (d.b.take 2000)) :: RBag g2 l :: Bag g1 l :: Own 5 1 A10 ((lookR l d.i).1.b.length) c11 (u8s (lookR l d.i).1.b) :: .blk g7 [.int .i64 ((lookR l d.i).1.f), .int .i64 ((lookR l d.i).1.t), .slice A10 ((lookR l d.i).1.b.length) c11] 29 :: .blk g6 [.int .i64 ((lookR l d.i).1.f), .int .i64 ((lookR l d.i).1.t), .slice A8 ((lookR l d.i).1.b.length) c9] 29 :: .blk g5 [.int .i64 d.f, .int .i64 d.t, .slice A3 (min d.n 2000) c4] 29 :: L) w := s
          refine st_call ha (by kernel_rfl) (by kernel_rfl) (spoil_any W _ w A3 (min d.n 2000) (min d.n 2000) c4 (d.b.take 2000) (by omega) s) ?_
          rintro _ w ⟨rfl, s⟩
          replace s : St W (RBag g2 l :: Bag g1 l :: Own 5 1 A10 ((lookR l d.i).1.b.length) c11 (u8s (lookR l d.i).1.b) :: .blk g7 [.int .i64 ((lookR l d.i).1.f), .int .i64 ((lookR l d.i).1.t), .slice A10 ((lookR l d.i).1.b.length) c11] 29 :: .blk g6 [.int .i64 ((lookR l d.i).1.f), .int .i64 ((lookR l d.i).1.t), .slice A8 ((lookR l d.i).1.b.length) c9] 29 :: .blk g5 [.int .i64 d.f, .int .i64 d.t, .slice A3 (min d.n 2000) c4] 29 :: L) w := s
          refine ⟨_, rfl, ?_⟩; clear ha; intro a ha
          refine wpList_nil ?_
          refine block_normal ?_
          refine then_normal ?_
          refine wp_region_lit ?_
          refine st_val (.int .i64 ((k : Nat) : Int)) ha (by kernel_rfl) (by kernel_rfl) ?_
          clear ha; intro a ha
          refine st_val (.int .i64 ((k + 1 : Nat) : Int)) ha (by kernel_rfl) (run_arith (((k : Nat) : Int) + (1 : Int)) ((k + 1 : Nat) : Int) rfl (by kernel_rfl) (by kernel_rfl) (.inl ⟨rfl, rfl⟩) (by rw [wrap64_in (by omega)]; try omega) _) ?_
          clear ha; intro a ha
          refine st_val (.int .i64 ((k + 1 : Nat) : Int)) ha (by kernel_rfl) (by kernel_rfl) ?_
          clear ha; intro a ha
          refine wpList_nil ?_
          refine then_normal ?_
          replace s := s.at_ (j := 1) rfl
          replace s : St W (Bag g1 l :: RBag g2 l :: Own 5 1 A10 ((lookR l d.i).1.b.length) c11 (u8s (lookR l d.i).1.b) :: .blk g7 [.int .i64 ((lookR l d.i).1.f), .int .i64 ((lookR l d.i).1.t), .slice A10 ((lookR l d.i).1.b.length) c11] 29 :: .blk g6 [.int .i64 ((lookR l d.i).1.f), .int .i64 ((lookR l d.i).1.t), .slice A8 ((lookR l d.i).1.b.length) c9] 29 :: .blk g5 [.int .i64 d.f, .int .i64 d.t, .slice A3 (min d.n 2000) c4] 29 :: L) w := s
          replace s : St W (Bag g1 l :: RBag g2 l :: L) w := St.mid (A := [Bag g1 l, RBag g2 l]) (B := [Own 5 1 A10 ((lookR l d.i).1.b.length) c11 (u8s (lookR l d.i).1.b), .blk g7 [.int .i64 ((lookR l d.i).1.f), .int .i64 ((lookR l d.i).1.t), .slice A10 ((lookR l d.i).1.b.length) c11] 29, .blk g6 [.int .i64 ((lookR l d.i).1.f), .int .i64 ((lookR l d.i).1.t), .slice A8 ((lookR l d.i).1.b.length) c9] 29, .blk g5 [.int .i64 d.f, .int .i64 d.t, .slice A3 (min d.n 2000) c4] 29]) s
          exact ⟨(k + 1, l), (show 150 - (k + 1) < 150 - k by omega), (Has.cons ha (by kernel_rfl) (by kernel_rfl) (Has.cons ha (by kernel_rfl) (by kernel_rfl) (Has.cons ha (by kernel_rfl) (by kernel_rfl) (Has.cons ha (by kernel_rfl) (by kernel_rfl) (Has.nil ha))))), s, (show k + 1 ≤ 150 by omega), ok⟩
        · rw [hb] at ha; have hb_ := hb; replace hb := ne_of_beq_false hb
          refine wp_seq ?_
          refine wp_seq ?_
          refine wp_region_lit ?_
          refine st_val (.bool ((d.k % 8) == (5 : Int))) ha (by kernel_rfl) (by kernel_rfl) ?_
          clear ha; intro a ha
          refine st_val (.bool ((d.k % 8) == (5 : Int))) ha (by kernel_rfl) (by kernel_rfl) ?_
          clear ha; intro a ha
          refine wpList_nil ?_
          refine then_normal ?_
          refine wp_part ((d.k % 8) == (5 : Int)) ha rfl (by kernel_rfl) (fun hb => ?_) (fun hb => ?_)
          · rw [hb] at ha; have hb_ := hb; replace hb := eq_of_beq hb
            refine wp_skip ?_
            refine then_normal ?_
            refine wp_true ha rfl (by kernel_rfl) ?_
            refine wp_seq ?_
            refine wp_region_lit ?_
            refine st_val (.pointer (some ⟨g1, 0, none⟩)) ha (by kernel_rfl) (by kernel_rfl) ?_
            clear ha; intro a ha
            refine st_val (.slice (some ad) n c) ha (by kernel_rfl) (by kernel_rfl) ?_
            clear ha; intro a ha
            refine st_val (.int .i64 ((k : Nat) : Int)) ha (by kernel_rfl) (by kernel_rfl) ?_
            clear ha; intro a ha
            refine st_val (.pointer (some (ad.add (k * 5)))) ha (by kernel_rfl) (run_indexAddr' (kd := .i64) (n := n) (c := c) k rfl Try.underlying22 Try.sizeOf32 (by kernel_rfl) (by kernel_rfl) rfl (by first | assumption | omega) _) ?_
            clear ha; intro a ha
            refine st_val (.pointer (some (ad.add (k * 5 + 1)))) ha (by kernel_rfl) (run_fieldAddr_at (i := k * 5) (off := 1) rfl Try.underlying32 rfl Try.sizeOf3 (by kernel_rfl) _) ?_
            clear ha; intro a ha
            refine st_val (.int .i64 d.i) ha (by kernel_rfl) (run_loadAt1 (i := k * 5 + 1) (hr _ (Sat.drops (A := [.blk g7 [.int .i64 0, .int .i64 0, .slice none 0 0] 29, .blk g6 [.int .i64 0, .int .i64 0, .slice none 0 0] 29, .blk g5 [.int .i64 d.f, .int .i64 d.t, .slice A3 (min d.n 2000) c4] 29, Own 5 1 A3 (min d.n 2000) (min d.n 2000) (u8s (d.b.take 2000)), Bag g1 l, RBag g2 l]) s.sat)) rfl (by kernel_rfl) Try.isAgg3 (by rw [deeds_at hd (by omega)]; rfl)) ?_
            clear ha; intro a ha
            replace s := s.at_ (j := 4) rfl
            replace s : St W (Bag g1 l :: .blk g7 [.int .i64 0, .int .i64 0, .slice none 0 0] 29 :: .blk g6 [.int .i64 0, .int .i64 0, .slice none 0 0] 29 :: .blk g5 [.int .i64 d.f, .int .i64 d.t, .slice A3 (min d.n 2000) c4] 29 :: Own 5 1 A3 (min d.n 2000) (min d.n 2000) (u8s (d.b.take 2000)) :: RBag g2 l :: L) w := s
            refine st_call ha (by kernel_rfl) (by kernel_rfl) (take_all W _ w g1 l d.i ok s) ?_
            rintro _ w ⟨A12, c13, rfl, s⟩
            replace s : St W (Own 5 1 A12 ((lookR l d.i).1.b.length) c13 (u8s (lookR l d.i).1.b) :: Bag g1 (takeL l d.i) :: .blk g7 [.int .i64 0, .int .i64 0, .slice none 0 0] 29 :: .blk g6 [.int .i64 0, .int .i64 0, .slice none 0 0] 29 :: .blk g5 [.int .i64 d.f, .int .i64 d.t, .slice A3 (min d.n 2000) c4] 29 :: Own 5 1 A3 (min d.n 2000) (min d.n 2000) (u8s (d.b.take 2000)) :: RBag g2 l :: L) w := s
            refine ⟨_, rfl, ?_⟩; clear ha; intro a ha
            refine st_val (.tuple #[.agg #[.int .i64 ((lookR l d.i).1.f), .int .i64 ((lookR l d.i).1.t), .slice A12 ((lookR l d.i).1.b.length) c13], .bool ((lookR l d.i).2)]) ha (by kernel_rfl) (by kernel_rfl) ?_
            clear ha; intro a ha
            refine st_val (.agg #[.int .i64 ((lookR l d.i).1.f), .int .i64 ((lookR l d.i).1.t), .slice A12 ((lookR l d.i).1.b.length) c13]) ha (by kernel_rfl) (by kernel_rfl) ?_
            clear ha; intro a ha
            refine st_val (.bool ((lookR l d.i).2)) ha (by kernel_rfl) (by kernel_rfl) ?_
            clear ha; intro a ha
            refine st_exd ha (by kernel_rfl) (ex_store (of_ := 0) 3 [.int .i64 ((lookR l d.i).1.f), .int .i64 ((lookR l d.i).1.t), .slice A12 ((lookR l d.i).1.b.length) c13] s rfl rfl (by kernel_rfl) (by kernel_rfl) (Try.sizeOf29 _) rfl (by simp [Value.oneCell']) (Nat.le_of_ble_eq_true rfl)) ?_
            clear ha; rintro w a s ha
            replace s : St W (Own 5 1 A12 ((lookR l d.i).1.b.length) c13 (u8s (lookR l d.i).1.b) :: Bag g1 (takeL l d.i) :: .blk g7 [.int .i64 0, .int .i64 0, .slice none 0 0] 29 :: .blk g6 [.int .i64 ((lookR l d.i).1.f), .int .i64 ((lookR l d.i).1.t), .slice A12 ((lookR l d.i).1.b.length) c13] 29 :: .blk g5 [.int .i64 d.f, .int .i64 d.t, .slice A3 (min d.n 2000) c4] 29 :: Own 5 1 A3 (min d.n 2000) (min d.n 2000) (u8s (d.b.take 2000)) :: RBag g2 l :: L) w := s
            refine st_val (.bool ((lookR l d.i).2)) ha (by kernel_rfl) (by kernel_rfl) ?_
            clear ha; intro a ha
            refine wpList_nil ?_
            refine then_normal ?_
            refine wp_region_lit ?_
            refine st_val (.pointer (some ⟨g2, 0, none⟩)) ha (by kernel_rfl) (by kernel_rfl) ?_
            clear ha; intro a ha
            refine st_val (.slice (some ad) n c) ha (by kernel_rfl) (by kernel_rfl) ?_
            clear ha; intro a ha
            refine st_val (.int .i64 ((k : Nat) : Int)) ha (by kernel_rfl) (by kernel_rfl) ?_
            clear ha; intro a ha
            refine st_val (.pointer (some (ad.add (k * 5)))) ha (by kernel_rfl) (run_indexAddr' (kd := .i64) (n := n) (c := c) k rfl Try.underlying22 Try.sizeOf32 (by kernel_rfl) (by kernel_rfl) rfl (by first | assumption | omega) _) ?_
            clear ha; intro a ha
            refine st_val (.pointer (some (ad.add (k * 5 + 1)))) ha (by kernel_rfl) (run_fieldAddr_at (i := k * 5) (off := 1) rfl Try.underlying32 rfl Try.sizeOf3 (by kernel_rfl) _) ?_
            clear ha; intro a ha
            refine st_val (.int .i64 d.i) ha (by kernel_rfl) (run_loadAt1 (i := k * 5 + 1) (hr _ (Sat.drops (A := [Own 5 1 A12 ((lookR l d.i).1.b.length) c13 (u8s (lookR l d.i).1.b), Bag g1 (takeL l d.i), .blk g7 [.int .i64 0, .int .i64 0, .slice none 0 0] 29, .blk g6 [.int .i64 ((lookR l d.i).1.f), .int .i64 ((lookR l d.i).1.t), .slice A12 ((lookR l d.i).1.b.length) c13] 29, .blk g5 [.int .i64 d.f, .int .i64 d.t, .slice A3 (min d.n 2000) c4] 29, Own 5 1 A3 (min d.n 2000) (min d.n 2000) (u8s (d.b.take 2000)), RBag g2 l]) s.sat)) rfl (by kernel_rfl) Try.isAgg3 (by rw [deeds_at hd (by omega)]; rfl)) ?_
            clear ha; intro a ha
            replace s := s.at_ (j := 6) rfl
            replace s : St W (RBag g2 l :: Own 5 1 A12 ((lookR l d.i).1.b.length) c13 (u8s (lookR l d.i).1.b) :: Bag g1 (takeL l d.i) :: .blk g7 [.int .i64 0, .int .i64 0, .slice none 0 0] 29 :: .blk g6 [.int .i64 ((lookR l d.i).1.f), .int .i64 ((lookR l d.i).1.t), .slice A12 ((lookR l d.i).1.b.length) c13] 29 :: .blk g5 [.int .i64 d.f, .int .i64 d.t, .slice A3 (min d.n 2000) c4] 29 :: Own 5 1 A3 (min d.n 2000) (min d.n 2000) (u8s (d.b.take 2000)) :: L) w := s
            refine st_call ha (by kernel_rfl) (by kernel_rfl) (rtake_all W _ w g2 l d.i ok s) ?_
            rintro _ w ⟨A14, c15, rfl, s⟩
            replace s : St W (Own 5 1 A14 ((lookR l d.i).1.b.length) c15 (u8s (lookR l d.i).1.b) :: RBag g2 (takeL l d.i) :: Own 5 1 A12 ((lookR l d.i).1.b.length) c13 (u8s (lookR l d.i).1.b) :: Bag g1 (takeL l d.i) :: .blk g7 [.int .i64 0, .int .i64 0, .slice none 0 0] 29 :: .blk g6 [.int .i64 ((lookR l d.i).1.f), .int .i64 ((lookR l d.i).1.t), .slice A12 ((lookR l d.i).1.b.length) c13] 29 :: .blk g5 [.int .i64 d.f, .int .i64 d.t, .slice A3 (min d.n 2000) c4] 29 :: Own 5 1 A3 (min d.n 2000) (min d.n 2000) (u8s (d.b.take 2000)) :: L) w := s
            refine ⟨_, rfl, ?_⟩; clear ha; intro a ha
            refine st_val (.tuple #[.agg #[.int .i64 ((lookR l d.i).1.f), .int .i64 ((lookR l d.i).1.t), .slice A14 ((lookR l d.i).1.b.length) c15], .bool ((lookR l d.i).2)]) ha (by kernel_rfl) (by kernel_rfl) ?_
            clear ha; intro a ha
            refine st_val (.agg #[.int .i64 ((lookR l d.i).1.f), .int .i64 ((lookR l d.i).1.t), .slice A14 ((lookR l d.i).1.b.length) c15]) ha (by kernel_rfl) (by kernel_rfl) ?_
            clear ha; intro a ha
            refine st_val (.bool ((lookR l d.i).2)) ha (by kernel_rfl) (by kernel_rfl) ?_
            clear ha; intro a ha
            refine st_exd ha (by kernel_rfl) (ex_store (of_ := 0) 4 [.int .i64 ((lookR l d.i).1.f), .int .i64 ((lookR l d.i).1.t), .slice A14 ((lookR l d.i).1.b.length) c15] s rfl rfl (by kernel_rfl) (by kernel_rfl) (Try.sizeOf29 _) rfl (by simp [Value.oneCell']) (Nat.le_of_ble_eq_true rfl)) ?_
            clear ha; rintro w a s ha
            replace s : St W (Own 5 1 A14 ((lookR l d.i).1.b.length) c15 (u8s (lookR l d.i).1.b) :: RBag g2 (takeL l d.i) :: Own 5 1 A12 ((lookR l d.i).1.b.length) c13 (u8s (lookR l d.i).1.b) :: Bag g1 (takeL l d.i) :: .blk g7 [.int .i64 ((lookR l d.i).1.f), .int .i64 ((lookR l d.i).1.t), .slice A14 ((lookR l d.i).1.b.length) c15] 29 :: .blk g6 [.int .i64 ((lookR l d.i).1.f), .int .i64 ((lookR l d.i).1.t), .slice A12 ((lookR l d.i).1.b.length) c13] 29 :: .blk g5 [.int .i64 d.f, .int .i64 d.t, .slice A3 (min d.n 2000) c4] 29 :: Own 5 1 A3 (min d.n 2000) (min d.n 2000) (u8s (d.b.take 2000)) :: L) w := s
            refine st_val (.bool ((lookR l d.i).2)) ha (by kernel_rfl) (by kernel_rfl) ?_
            clear ha; intro a ha
            refine wpList_nil ?_
            refine block_normal ?_
            refine then_normal ?_
            refine wp_seq ?_
            refine wp_seq ?_
            refine wp_region_lit ?_
            refine st_val (.agg #[.int .i64 ((lookR l d.i).1.f), .int .i64 ((lookR l d.i).1.t), .slice A12 ((lookR l d.i).1.b.length) c13]) ha (by kernel_rfl) (run_loadN (of_ := 0) [.int .i64 ((lookR l d.i).1.f), .int .i64 ((lookR l d.i).1.t), .slice A12 ((lookR l d.i).1.b.length) c13] (s.blkIs 5 rfl) rfl (by kernel_rfl) Try.isAgg29 Try.sizeOf29 rfl (Nat.le_of_ble_eq_true rfl)) ?_
            clear ha; intro a ha
            refine st_val (.agg #[.int .i64 ((lookR l d.i).1.f), .int .i64 ((lookR l d.i).1.t), .slice A14 ((lookR l d.i).1.b.length) c15]) ha (by kernel_rfl) (run_loadN (of_ := 0) [.int .i64 ((lookR l d.i).1.f), .int .i64 ((lookR l d.i).1.t), .slice A14 ((lookR l d.i).1.b.length) c15] (s.blkIs 4 rfl) rfl (by kernel_rfl) Try.isAgg29 Try.sizeOf29 rfl (Nat.le_of_ble_eq_true rfl)) ?_
            clear ha; intro a ha
            refine st_call ha (by kernel_rfl) (by kernel_rfl) (same_to W _ w ((lookR l d.i).1.f) ((lookR l d.i).1.t) ((lookR l d.i).1.f) ((lookR l d.i).1.t) A12 A14 c13 c15 ((lookR l d.i).1.b.length) ((lookR l d.i).1.b.length) ((lookR l d.i).1.b) ((lookR l d.i).1.b) true rfl rfl (Knows.own (j := 2) rfl) (Knows.own (j := 0) rfl) (lookR_small ok _) (decide_eq_true ⟨rfl, rfl, rfl⟩) s) ?_
            rintro _ w ⟨rfl, s⟩
            replace s : St W (Own 5 1 A14 ((lookR l d.i).1.b.length) c15 (u8s (lookR l d.i).1.b) :: RBag g2 (takeL l d.i) :: Own 5 1 A12 ((lookR l d.i).1.b.length) c13 (u8s (lookR l d.i).1.b) :: Bag g1 (takeL l d.i) :: .blk g7 [.int .i64 ((lookR l d.i).1.f), .int .i64 ((lookR l d.i).1.t), .slice A14 ((lookR l d.i).1.b.length) c15] 29 :: .blk g6 [.int .i64 ((lookR l d.i).1.f), .int .i64 ((lookR l d.i).1.t), .slice A12 ((lookR l d.i).1.b.length) c13] 29 :: .blk g5 [.int .i64 d.f, .int .i64 d.t, .slice A3 (min d.n 2000) c4] 29 :: Own 5 1 A3 (min d.n 2000) (min d.n 2000) (u8s (d.b.take 2000)) :: L) w := s
            refine ⟨_, rfl, ?_⟩; clear ha; intro a ha
            refine st_val (.bool false) ha (by kernel_rfl) (by kernel_rfl) ?_
            clear ha; intro a ha
            refine st_val (.bool false) ha (by kernel_rfl) (by kernel_rfl) ?_
            clear ha; intro a ha
            refine st_val (.bool ((lookR l d.i).2)) ha (by kernel_rfl) (by kernel_rfl) ?_
            clear ha; intro a ha
            refine st_val (.bool ((lookR l d.i).2)) ha (by kernel_rfl) (by kernel_rfl) ?_
            clear ha; intro a ha
            refine st_val (.bool false) ha (by kernel_rfl) (run_known (bne_self_eq_false _) (show (execOp (evalE _) _).run _ _ = .ok (.value (.bool (((lookR l d.i).2) != ((lookR l d.i).2)))) _ from by kernel_rfl)) ?_
            clear ha; intro a ha
            refine st_val (.bool false) ha (by kernel_rfl) (by kernel_rfl) ?_
            clear ha; intro a ha
            refine st_val (.bool false) ha (by kernel_rfl) (by kernel_rfl) ?_
            clear ha; intro a ha
            refine st_val (.pointer (some ⟨g1, 0, none⟩)) ha (by kernel_rfl) (by kernel_rfl) ?_
            clear ha; intro a ha
            replace s := s.at_ (j := 3) rfl
            replace s : St W (Bag g1 (takeL l d.i) :: Own 5 1 A14 ((lookR l d.i).1.b.length) c15 (u8s (lookR l d.i).1.b) :: RBag g2 (takeL l d.i) :: Own 5 1 A12 ((lookR l d.i).1.b.length) c13 (u8s (lookR l d.i).1.b) :: .blk g7 [.int .i64 ((lookR l d.i).1.f), .int .i64 ((lookR l d.i).1.t), .slice A14 ((lookR l d.i).1.b.length) c15] 29 :: .blk g6 [.int .i64 ((lookR l d.i).1.f), .int .i64 ((lookR l d.i).1.t), .slice A12 ((lookR l d.i).1.b.length) c13] 29 :: .blk g5 [.int .i64 d.f, .int .i64 d.t, .slice A3 (min d.n 2000) c4] 29 :: Own 5 1 A3 (min d.n 2000) (min d.n 2000) (u8s (d.b.take 2000)) :: L) w := s
            refine st_call ha (by kernel_rfl) (by kernel_rfl) (len_to W _ w g1 (takeL l d.i) (takeL l d.i).length rfl s) ?_
            rintro _ w ⟨rfl, s⟩
            replace s : St W (Bag g1 (takeL l d.i) :: Own 5 1 A14 ((lookR l d.i).1.b.length) c15 (u8s (lookR l d.i).1.b) :: RBag g2 (takeL l d.i) :: Own 5 1 A12 ((lookR l d.i).1.b.length) c13 (u8s (lookR l d.i).1.b) :: .blk g7 [.int .i64 ((lookR l d.i).1.f), .int .i64 ((lookR l d.i).1.t), .slice A14 ((lookR l d.i).1.b.length) c15] 29 :: .blk g6 [.int .i64 ((lookR l d.i).1.f), .int .i64 ((lookR l d.i).1.t), .slice A12 ((lookR l d.i).1.b.length) c13] 29 :: .blk g5 [.int .i64 d.f, .int .i64 d.t, .slice A3 (min d.n 2000) c4] 29 :: Own 5 1 A3 (min d.n 2000) (min d.n 2000) (u8s (d.b.take 2000)) :: L) w := s
            refine ⟨_, rfl, ?_⟩; clear ha; intro a ha
            refine st_val (.pointer (some ⟨g2, 0, none⟩)) ha (by kernel_rfl) (by kernel_rfl) ?_
            clear ha; intro a ha
            replace s := s.at_ (j := 2) rfl
            replace s : St W (RBag g2 (takeL l d.i) :: Bag g1 (takeL l d.i) :: Own 5 1 A14 ((lookR l d.i).1.b.length) c15 (u8s (lookR l d.i).1.b) :: Own 5 1 A12 ((lookR l d.i).1.b.length) c13 (u8s (lookR l d.i).1.b) :: .blk g7 [.int .i64 ((lookR l d.i).1.f), .int .i64 ((lookR l d.i).1.t), .slice A14 ((lookR l d.i).1.b.length) c15] 29 :: .blk g6 [.int .i64 ((lookR l d.i).1.f), .int .i64 ((lookR l d.i).1.t), .slice A12 ((lookR l d.i).1.b.length) c13] 29 :: .blk g5 [.int .i64 d.f, .int .i64 d.t, .slice A3 (min d.n 2000) c4] 29 :: Own 5 1 A3 (min d.n 2000) (min d.n 2000) (u8s (d.b.take 2000)) :: L) w := s
            refine st_call ha (by kernel_rfl) (by kernel_rfl) (rlen_to W _ w g2 (takeL l d.i) (takeL l d.i).length rfl s) ?_
            rintro _ w ⟨rfl, s⟩
            replace s : St W (RBag g2 (takeL l d.i) :: Bag g1 (takeL l d.i) :: Own 5 1 A14 ((lookR l d.i).1.b.length) c15 (u8s (lookR l d.i).1.b) :: Own 5 1 A12 ((lookR l d.i).1.b.length) c13 (u8s (lookR l d.i).1.b) :: .blk g7 [.int .i64 ((lookR l d.i).1.f), .int .i64 ((lookR l d.i).1.t), .slice A14 ((lookR l d.i).1.b.length) c15] 29 :: .blk g6 [.int .i64 ((lookR l d.i).1.f), .int .i64 ((lookR l d.i).1.t), .slice A12 ((lookR l d.i).1.b.length) c13] 29 :: .blk g5 [.int .i64 d.f, .int .i64 d.t, .slice A3 (min d.n 2000) c4] 29 :: Own 5 1 A3 (min d.n 2000) (min d.n 2000) (u8s (d.b.take 2000)) :: L) w := s
            refine ⟨_, rfl, ?_⟩; clear ha; intro a ha
            refine st_val (.bool false) ha (by kernel_rfl) (run_known (bne_self_eq_false _) (show (execOp (evalE _) _).run _ _ = .ok (.value (.bool ((((takeL l d.i).length : Nat) : Int) != (((takeL l d.i).length : Nat) : Int)))) _ from by kernel_rfl)) ?_
            clear ha; intro a ha
            refine st_val (.bool false) ha (by kernel_rfl) (by kernel_rfl) ?_
            clear ha; intro a ha
            refine wpList_nil ?_
            refine then_normal ?_
            refine wp_false ha rfl (by kernel_rfl) ?_
            refine wp_skip ?_
            refine then_normal ?_
            refine wp_seq ?_
            refine wp_region_lit ?_
            refine st_val (.pointer (some ⟨g6, 2, none⟩)) ha (by kernel_rfl) (by kernel_rfl) ?_
            clear ha; intro a ha
            refine st_val (.slice A12 ((lookR l d.i).1.b.length) c13) ha (by kernel_rfl) (run_load1 (of_ := 2) (s.blkIs 5 rfl) rfl (by kernel_rfl) Try.isAgg27 rfl) ?_
            clear ha; intro a ha
            replace s := s.at_ (j := 3) rfl
            replace s : St W (Own 5 1 A12 ((lookR l d.i).1.b.length) c13 (u8s (lookR l d.i).1.b) :: RBag g2 (takeL l d.i) :: Bag g1 (takeL l d.i) :: Own 5 1 A14 ((lookR l d.i).1.b.length) c15 (u8s (lookR l d.i).1.b) :: .blk g7 [.int .i64 ((lookR l d.i).1.f), .int .i64 ((lookR l d.i).1.t), .slice A14 ((lookR l d.i).1.b.length) c15] 29 :: .blk g6 [.int .i64 ((lookR l d.i).1.f), .int .i64 ((lookR l d.i).1.t), .slice A12 ((lookR l d.i).1.b.length) c13] 29 :: .blk g5 [.int .i64 d.f, .int .i64 d.t, .slice A3 (min d.n 2000) c4] 29 :: Own 5 1 A3 (min d.n 2000) (min d.n 2000) (u8s (d.b.take 2000)) :: L) w := s
            refine st_call ha (by kernel_rfl) (by kernel_rfl) (spoil_any W _ w A12 ((lookR l d.i).1.b.length) c13 c13 ((lookR l d.i).1.b) (lookR_small ok _) s) ?_
            rintro _ w ⟨rfl, s⟩
            replace s : St W (RBag g2 (takeL l d.i) :: Bag g1 (takeL l d.i) :: Own 5 1 A14 ((lookR l d.i).1.b.length) c15 (u8s (lookR l d.i).1.b) :: .blk g7 [.int .i64 ((lookR l d.i).1.f), .int .i64 ((lookR l d.i).1.t), .slice A14 ((lookR l d.i).1.b.length) c15] 29 :: .blk g6 [.int .i64 ((lookR l d.i).1.f), .int .i64 ((lookR l d.i).1.t), .slice A12 ((lookR l d.i).1.b.length) c13] 29 :: .blk g5 [.int .i64 d.f, .int .i64 d.t, .slice A3 (min d.n 2000) c4] 29 :: Own 5 1 A3 (min d.n 2000) (min d.n 2000) (u8s (d.b.take 2000)) :: L) w := s
            refine ⟨_, rfl, ?_⟩; clear ha; intro a ha
            refine wpList_nil ?_
            refine then_normal ?_
            refine wp_region_lit ?_
            refine st_val (.pointer (some ⟨g5, 2, none⟩)) ha (by kernel_rfl) (by kernel_rfl) ?_
            clear ha; intro a ha
            refine st_val (.slice A3 (min d.n 2000) c4) ha (by kernel_rfl) (run_load1 (of_ := 2) (s.blkIs 5 rfl) rfl (by kernel_rfl) Try.isAgg27 rfl) ?_
            clear ha; intro a ha
            replace s := s.at_ (j := 6) rfl
            replace s : St W (Own 5 1 A3 (min d.n 2000) (min d.n 2000) (u8s (d.b.take 2000)) :: RBag g2 (takeL l d.i) :: Bag g1 (takeL l d.i) :: Own 5 1 A14 ((lookR l d.i).1.b.length) c15 (u8s (lookR l d.i).1.b) :: .blk g7 [.int .i64 ((lookR l d.i).1.f), .int .i64 ((lookR l d.i).1.t), .slice A14 ((lookR l d.i).1.b.length) c15] 29 :: .blk g6 [.int .i64 ((lookR l d.i).1.f), .int .i64 ((lookR l d.i).1.t), .slice A12 ((lookR l d.i).1.b.length) c13] 29 :: .blk g5 [.int .i64 d.f, .int .i64 d.t, .slice A3 (min d.n 2000) c4] 29 :: L) w := s
            refine st_call ha (by kernel_rfl) (by kernel_rfl) (spoil_any W _ w A3 (min d.n 2000) (min d.n 2000) c4 (d.b.take 2000) (by omega) s) ?_
            rintro _ w ⟨rfl, s⟩
            replace s : St W (RBag g2 (takeL l d.i) :: Bag g1 (takeL l d.i) :: Own 5 1 A14 ((lookR l d.i).1.b.length) c15 (u8s (lookR l d.i).1.b) :: .blk g7 [.int .i64 ((lookR l d.i).1.f), .int .i64 ((lookR l d.i).1.t), .slice A14 ((lookR l d.i).1.b.length) c15] 29 :: .blk g6 [.int .i64 ((lookR l d.i).1.f), .int .i64 ((lookR l d.i).1.t), .slice A12 ((lookR l d.i).1.b.length) c13] 29 :: .blk g5 [.int .i64 d.f, .int .i64 d.t, .slice A3 (min d.n 2000) c4] 29 :: L) w := s
            refine ⟨_, rfl, ?_⟩; clear ha; intro a ha
            refine wpList_nil ?_
            refine block_normal ?_
            refine then_normal ?_
            refine wp_region_lit ?_
            refine st_val (.int .i64 ((k : Nat) : Int)) ha (by kernel_rfl) (by kernel_rfl) ?_
            clear ha; intro a ha
            refine st_val (.int .i64 ((k + 1 : Nat) : Int)) ha (by kernel_rfl) (run_arith (((k : Nat) : Int) + (1 : Int)) ((k + 1 : Nat) : Int) rfl (by kernel_rfl) (by kernel_rfl) (.inl ⟨rfl, rfl⟩) (by rw [wrap64_in (by omega)]; try omega) _) ?_
            clear ha; intro a ha
            refine st_val (.int .i64 ((k + 1 : Nat) : Int)) ha (by kernel_rfl) (by kernel_rfl) ?_
            clear ha; intro a ha
            refine wpList_nil ?_
            refine then_normal ?_
            replace s := s.at_ (j := 1) rfl
            replace s : St W (Bag g1 (takeL l d.i) :: RBag g2 (takeL l d.i) :: Own 5 1 A14 ((lookR l d.i).1.b.length) c15 (u8s (lookR l d.i).1.b) :: .blk g7 [.int .i64 ((lookR l d.i).1.f), .int .i64 ((lookR l d.i).1.t), .slice A14 ((lookR l d.i).1.b.length) c15] 29 :: .blk g6 [.int .i64 ((lookR l d.i).1.f), .int .i64 ((lookR l d.i).1.t), .slice A12 ((lookR l d.i).1.b.length) c13] 29 :: .blk g5 [.int .i64 d.f, .int .i64 d.t, .slice A3 (min d.n 2000) c4] 29 :: L) w := s
            replace s : St W (Bag g1 (takeL l d.i) :: RBag g2 (takeL l d.i) :: L) w := St.mid (A := [Bag g1 (takeL l d.i), RBag g2 (takeL l d.i)]) (B := [Own 5 1 A14 ((lookR l d.i).1.b.length) c15 (u8s (lookR l d.i).1.b), .blk g7 [.int .i64 ((lookR l d.i).1.f), .int .i64 ((lookR l d.i).1.t), .slice A14 ((lookR l d.i).1.b.length) c15] 29, .blk g6 [.int .i64 ((lookR l d.i).1.f), .int .i64 ((lookR l d.i).1.t), .slice A12 ((lookR l d.i).1.b.length) c13] 29, .blk g5 [.int .i64 d.f, .int .i64 d.t, .slice A3 (min d.n 2000) c4] 29]) s
            exact ⟨(k + 1, takeL l d.i), (show 150 - (k + 1) < 150 - k by omega), (Has.cons ha (by kernel_rfl) (by kernel_rfl) (Has.cons ha (by kernel_rfl) (by kernel_rfl) (Has.cons ha (by kernel_rfl) (by kernel_rfl) (Has.cons ha (by kernel_rfl) (by kernel_rfl) (Has.nil ha))))), s, (show k + 1 ≤ 150 by omega), ok.takeL _⟩
          · rw [hb] at ha; have hb_ := hb; replace hb := ne_of_beq_false hb
            refine wp_region_lit ?_
            refine st_val (.bool ((d.k % 8) == (6 : Int))) ha (by kernel_rfl) (by kernel_rfl) ?_
            clear ha; intro a ha
            refine st_val (.bool ((d.k % 8) == (6 : Int))) ha (by kernel_rfl) (by kernel_rfl) ?_
            clear ha; intro a ha
            refine wpList_nil ?_
            refine then_normal ?_
            refine wp_part ((d.k % 8) == (6 : Int)) ha rfl (by kernel_rfl) (fun hb => ?_) (fun hb => ?_)
            · rw [hb] at ha; have hb_ := hb; replace hb := eq_of_beq hb
              refine wp_seq ?_
              refine wp_region_lit ?_
              refine st_val (.pointer (some ⟨g1, 0, none⟩)) ha (by kernel_rfl) (by kernel_rfl) ?_
              clear ha; intro a ha
              refine st_val (.slice (some ad) n c) ha (by kernel_rfl) (by kernel_rfl) ?_
              clear ha; intro a ha
              refine st_val (.int .i64 ((k : Nat) : Int)) ha (by kernel_rfl) (by kernel_rfl) ?_
              clear ha; intro a ha
              refine st_val (.pointer (some (ad.add (k * 5)))) ha (by kernel_rfl) (run_indexAddr' (kd := .i64) (n := n) (c := c) k rfl Try.underlying22 Try.sizeOf32 (by kernel_rfl) (by kernel_rfl) rfl (by first | assumption | omega) _) ?_
              clear ha; intro a ha
              refine st_val (.pointer (some (ad.add (k * 5 + 1)))) ha (by kernel_rfl) (run_fieldAddr_at (i := k * 5) (off := 1) rfl Try.underlying32 rfl Try.sizeOf3 (by kernel_rfl) _) ?_
              clear ha; intro a ha
              refine st_val (.int .i64 d.i) ha (by kernel_rfl) (run_loadAt1 (i := k * 5 + 1) (hr _ (Sat.drops (A := [.blk g7 [.int .i64 0, .int .i64 0, .slice none 0 0] 29, .blk g6 [.int .i64 0, .int .i64 0, .slice none 0 0] 29, .blk g5 [.int .i64 d.f, .int .i64 d.t, .slice A3 (min d.n 2000) c4] 29, Own 5 1 A3 (min d.n 2000) (min d.n 2000) (u8s (d.b.take 2000)), Bag g1 l, RBag g2 l]) s.sat)) rfl (by kernel_rfl) Try.isAgg3 (by rw [deeds_at hd (by omega)]; rfl)) ?_
              clear ha; intro a ha
              replace s := s.at_ (j := 4) rfl
              replace s : St W (Bag g1 l :: .blk g7 [.int .i64 0, .int .i64 0, .slice none 0 0] 29 :: .blk g6 [.int .i64 0, .int .i64 0, .slice none 0 0] 29 :: .blk g5 [.int .i64 d.f, .int .i64 d.t, .slice A3 (min d.n 2000) c4] 29 :: Own 5 1 A3 (min d.n 2000) (min d.n 2000) (u8s (d.b.take 2000)) :: RBag g2 l :: L) w := s
              refine st_call ha (by kernel_rfl) (by kernel_rfl) (take_all W _ w g1 l d.i ok s) ?_
              rintro _ w ⟨A16, c17, rfl, s⟩
              replace s : St W (Own 5 1 A16 ((lookR l d.i).1.b.length) c17 (u8s (lookR l d.i).1.b) :: Bag g1 (takeL l d.i) :: .blk g7 [.int .i64 0, .int .i64 0, .slice none 0 0] 29 :: .blk g6 [.int .i64 0, .int .i64 0, .slice none 0 0] 29 :: .blk g5 [.int .i64 d.f, .int .i64 d.t, .slice A3 (min d.n 2000) c4] 29 :: Own 5 1 A3 (min d.n 2000) (min d.n 2000) (u8s (d.b.take 2000)) :: RBag g2 l :: L) w := s
              refine ⟨_, rfl, ?_⟩; clear ha; intro a ha
              refine st_val (.tuple #[.agg #[.int .i64 ((lookR l d.i).1.f), .int .i64 ((lookR l d.i).1.t), .slice A16 ((lookR l d.i).1.b.length) c17], .bool ((lookR l d.i).2)]) ha (by kernel_rfl) (by kernel_rfl) ?_
              clear ha; intro a ha
              refine st_val (.agg #[.int .i64 ((lookR l d.i).1.f), .int .i64 ((lookR l d.i).1.t), .slice A16 ((lookR l d.i).1.b.length) c17]) ha (by kernel_rfl) (by kernel_rfl) ?_
              clear ha; intro a ha
              refine st_val (.bool ((lookR l d.i).2)) ha (by kernel_rfl) (by kernel_rfl) ?_
              clear ha; intro a ha
              refine st_exd ha (by kernel_rfl) (ex_store (of_ := 0) 3 [.int .i64 ((lookR l d.i).1.f), .int .i64 ((lookR l d.i).1.t), .slice A16 ((lookR l d.i).1.b.length) c17] s rfl rfl (by kernel_rfl) (by kernel_rfl) (Try.sizeOf29 _) rfl (by simp [Value.oneCell']) (Nat.le_of_ble_eq_true rfl)) ?_
              clear ha; rintro w a s ha
              replace s : St W (Own 5 1 A16 ((lookR l d.i).1.b.length) c17 (u8s (lookR l d.i).1.b) :: Bag g1 (takeL l d.i) :: .blk g7 [.int .i64 0, .int .i64 0, .slice none 0 0] 29 :: .blk g6 [.int .i64 ((lookR l d.i).1.f), .int .i64 ((lookR l d.i).1.t), .slice A16 ((lookR l d.i).1.b.length) c17] 29 :: .blk g5 [.int .i64 d.f, .int .i64 d.t, .slice A3 (min d.n 2000) c4] 29 :: Own 5 1 A3 (min d.n 2000) (min d.n 2000) (u8s (d.b.take 2000)) :: RBag g2 l :: L) w := s
              refine st_val (.bool ((lookR l d.i).2)) ha (by kernel_rfl) (by kernel_rfl) ?_
              clear ha; intro a ha
              refine wpList_nil ?_
              refine then_normal ?_
              refine wp_region_lit ?_
              refine st_val (.pointer (some ⟨g2, 0, none⟩)) ha (by kernel_rfl) (by kernel_rfl) ?_
              clear ha; intro a ha
              refine st_val (.slice (some ad) n c) ha (by kernel_rfl) (by kernel_rfl) ?_
              clear ha; intro a ha
              refine st_val (.int .i64 ((k : Nat) : Int)) ha (by kernel_rfl) (by kernel_rfl) ?_
              clear ha; intro a ha
              refine st_val (.pointer (some (ad.add (k * 5)))) ha (by kernel_rfl) (run_indexAddr' (kd := .i64) (n := n) (c := c) k rfl Try.underlying22 Try.sizeOf32 (by kernel_rfl) (by kernel_rfl) rfl (by first | assumption | omega) _) ?_
              clear ha; intro a ha
              refine st_val (.pointer (some (ad.add (k * 5 + 1)))) ha (by kernel_rfl) (run_fieldAddr_at (i := k * 5) (off := 1) rfl Try.underlying32 rfl Try.sizeOf3 (by kernel_rfl) _) ?_
              clear ha; intro a ha
              refine st_val (.int .i64 d.i) ha (by kernel_rfl) (run_loadAt1 (i := k * 5 + 1) (hr _ (Sat.drops (A := [Own 5 1 A16 ((lookR l d.i).1.b.length) c17 (u8s (lookR l d.i).1.b), Bag g1 (takeL l d.i), .blk g7 [.int .i64 0, .int .i64 0, .slice none 0 0] 29, .blk g6 [.int .i64 ((lookR l d.i).1.f), .int .i64 ((lookR l d.i).1.t), .slice A16 ((lookR l d.i).1.b.length) c17] 29, .blk g5 [.int .i64 d.f, .int .i64 d.t, .slice A3 (min d.n 2000) c4] 29, Own 5 1 A3 (min d.n 2000) (min d.n 2000) (u8s (d.b.take 2000)), RBag g2 l]) s.sat)) rfl (by kernel_rfl) Try.isAgg3 (by rw [deeds_at hd (by omega)]; rfl)) ?_
              clear ha; intro a ha
              replace s := s.at_ (j := 6) rfl
              replace s : St W (RBag g2 l :: Own 5 1 A16 ((lookR l d.i).1.b.length) c17 (u8s (lookR l d.i).1.b) :: Bag g1 (takeL l d.i) :: .blk g7 [.int .i64 0, .int .i64 0, .slice none 0 0] 29 :: .blk g6 [.int .i64 ((lookR l d.i).1.f), .int .i64 ((lookR l d.i).1.t), .slice A16 ((lookR l d.i).1.b.length) c17] 29 :: .blk g5 [.int .i64 d.f, .int .i64 d.t, .slice A3 (min d.n 2000) c4] 29 :: Own 5 1 A3 (min d.n 2000) (min d.n 2000) (u8s (d.b.take 2000)) :: L) w := s
              refine st_call ha (by kernel_rfl) (by kernel_rfl) (rtake_all W _ w g2 l d.i ok s) ?_
              rintro _ w ⟨A18, c19, rfl, s⟩
              replace s : St W (Own 5 1 A18 ((lookR l d.i).1.b.length) c19 (u8s (lookR l d.i).1.b) :: RBag g2 (takeL l d.i) :: Own 5 1 A16 ((lookR l d.i).1.b.length) c17 (u8s (lookR l d.i).1.b) :: Bag g1 (takeL l d.i) :: .blk g7 [.int .i64 0, .int .i64 0, .slice none 0 0] 29 :: .blk g6 [.int .i64 ((lookR l d.i).1.f), .int .i64 ((lookR l d.i).1.t), .slice A16 ((lookR l d.i).1.b.length) c17] 29 :: .blk g5 [.int .i64 d.f, .int .i64 d.t, .slice A3 (min d.n 2000) c4] 29 :: Own 5 1 A3 (min d.n 2000) (min d.n 2000) (u8s (d.b.take 2000)) :: L) w := s
              refine ⟨_, rfl, ?_⟩; clear ha; intro a ha
              refine st_val (.tuple #[.agg #[.int .i64 ((lookR l d.i).1.f), .int .i64 ((lookR l d.i).1.t), .slice A18 ((lookR l d.i).1.b.length) c19], .bool ((lookR l d.i).2)]) ha (by kernel_rfl) (by kernel_rfl) ?_
              clear ha; intro a ha
              refine st_val (.agg #[.int .i64 ((lookR l d.i).1.f), .int .i64 ((lookR l d.i).1.t), .slice A18 ((lookR l d.i).1.b.length) c19]) ha (by kernel_rfl) (by kernel_rfl) ?_
              clear ha; intro a ha
              refine st_val (.bool ((lookR l d.i).2)) ha (by kernel_rfl) (by kernel_rfl) ?_
              clear ha; intro a ha
              refine st_exd ha (by kernel_rfl) (ex_store (of_ := 0) 4 [.int .i64 ((lookR l d.i).1.f), .int .i64 ((lookR l d.i).1.t), .slice A18 ((lookR l d.i).1.b.length) c19] s rfl rfl (by kernel_rfl) (by kernel_rfl) (Try.sizeOf29 _) rfl (by simp [Value.oneCell']) (Nat.le_of_ble_eq_true rfl)) ?_
              clear ha; rintro w a s ha
              replace s : St W (Own 5 1 A18 ((lookR l d.i).1.b.length) c19 (u8s (lookR l d.i).1.b) :: RBag g2 (takeL l d.i) :: Own 5 1 A16 ((lookR l d.i).1.b.length) c17 (u8s (lookR l d.i).1.b) :: Bag g1 (takeL l d.i) :: .blk g7 [.int .i64 ((lookR l d.i).1.f), .int .i64 ((lookR l d.i).1.t), .slice A18 ((lookR l d.i).1.b.length) c19] 29 :: .blk g6 [.int .i64 ((lookR l d.i).1.f), .int .i64 ((lookR l d.i).1.t), .slice A16 ((lookR l d.i).1.b.length) c17] 29 :: .blk g5 [.int .i64 d.f, .int .i64 d.t, .slice A3 (min d.n 2000) c4] 29 :: Own 5 1 A3 (min d.n 2000) (min d.n 2000) (u8s (d.b.take 2000)) :: L) w := s
              refine st_val (.bool ((lookR l d.i).2)) ha (by kernel_rfl) (by kernel_rfl) ?_
              clear ha; intro a ha
              refine wpList_nil ?_
              refine block_normal ?_
              refine then_normal ?_
              refine wp_seq ?_
              refine wp_seq ?_
              refine wp_region_lit ?_
              refine st_val (.agg #[.int .i64 ((lookR l d.i).1.f), .int .i64 ((lookR l d.i).1.t), .slice A16 ((lookR l d.i).1.b.length) c17]) ha (by kernel_rfl) (run_loadN (of_ := 0) [.int .i64 ((lookR l d.i).1.f), .int .i64 ((lookR l d.i).1.t), .slice A16 ((lookR l d.i).1.b.length) c17] (s.blkIs 5 rfl) rfl (by kernel_rfl) Try.isAgg29 Try.sizeOf29 rfl (Nat.le_of_ble_eq_true rfl)) ?_
              clear ha; intro a ha
              refine st_val (.agg #[.int .i64 ((lookR l d.i).1.f), .int .i64 ((lookR l d.i).1.t), .slice A18 ((lookR l d.i).1.b.length) c19]) ha (by kernel_rfl) (run_loadN (of_ := 0) [.int .i64 ((lookR l d.i).1.f), .int .i64 ((lookR l d.i).1.t), .slice A18 ((lookR l d.i).1.b.length) c19] (s.blkIs 4 rfl) rfl (by kernel_rfl) Try.isAgg29 Try.sizeOf29 rfl (Nat.le_of_ble_eq_true rfl)) ?_
              clear ha; intro a ha
              refine st_call ha (by kernel_rfl) (by kernel_rfl) (same_to W _ w ((lookR l d.i).1.f) ((lookR l d.i).1.t) ((lookR l d.i).1.f) ((lookR l d.i).1.t) A16 A18 c17 c19 ((lookR l d.i).1.b.length) ((lookR l d.i).1.b.length) ((lookR l d.i).1.b) ((lookR l d.i).1.b) true rfl rfl (Knows.own (j := 2) rfl) (Knows.own (j := 0) rfl) (lookR_small ok _) (decide_eq_true ⟨rfl, rfl, rfl⟩) s) ?_
              rintro _ w ⟨rfl, s⟩
              replace s : St W (Own 5 1 A18 ((lookR l d.i).1.b.length) c19 (u8s (lookR l d.i).1.b) :: RBag g2 (takeL l d.i) :: Own 5 1 A16 ((lookR l d.i).1.b.length) c17 (u8s (lookR l d.i).1.b) :: Bag g1 (takeL l d.i) :: .blk g7 [.int .i64 ((lookR l d.i).1.f), .int .i64 ((lookR l d.i).1.t), .slice A18 ((lookR l d.i).1.b.length) c19] 29 :: .blk g6 [.int .i64 ((lookR l d.i).1.f), .int .i64 ((lookR l d.i).1.t), .slice A16 ((lookR l d.i).1.b.length) c17] 29 :: .blk g5 [.int .i64 d.f, .int .i64 d.t, .slice A3 (min d.n 2000) c4] 29 :: Own 5 1 A3 (min d.n 2000) (min d.n 2000) (u8s (d.b.take 2000)) :: L) w := s
              refine ⟨_, rfl, ?_⟩; clear ha; intro a ha
              refine st_val (.bool false) ha (by kernel_rfl) (by kernel_rfl) ?_
              clear ha; intro a ha
              refine st_val (.bool false) ha (by kernel_rfl) (by kernel_rfl) ?_
              clear ha; intro a ha
              refine st_val (.bool ((lookR l d.i).2)) ha (by kernel_rfl) (by kernel_rfl) ?_
              clear ha; intro a ha
              refine st_val (.bool ((lookR l d.i).2)) ha (by kernel_rfl) (by kernel_rfl) ?_
              clear ha; intro a ha
              refine st_val (.bool false) ha (by kernel_rfl) (run_known (bne_self_eq_false _) (show (execOp (evalE _) _).run _ _ = .ok (.value (.bool (((lookR l d.i).2) != ((lookR l d.i).2)))) _ from by kernel_rfl)) ?_
              clear ha; intro a ha
              refine st_val (.bool false) ha (by kernel_rfl) (by kernel_rfl) ?_
              clear ha; intro a ha
              refine st_val (.bool false) ha (by kernel_rfl) (by kernel_rfl) ?_
              clear ha; intro a ha
              refine st_val (.pointer (some ⟨g1, 0, none⟩)) ha (by kernel_rfl) (by kernel_rfl) ?_
              clear ha; intro a ha
              replace s := s.at_ (j := 3) rfl
              replace s : St W (Bag g1 (takeL l d.i) :: Own 5 1 A18 ((lookR l d.i).1.b.length) c19 (u8s (lookR l d.i).1.b) :: RBag g2 (takeL l d.i) :: Own 5 1 A16 ((lookR l d.i).1.b.length) c17 (u8s (lookR l d.i).1.b) :: .blk g7 [.int .i64 ((lookR l d.i).1.f), .int .i64 ((lookR l d.i).1.t), .slice A18 ((lookR l d.i).1.b.length) c19] 29 :: .blk g6 [.int .i64 ((lookR l d.i).1.f), .int .i64 ((lookR l d.i).1.t), .slice A16 ((lookR l d.i).1.b.length) c17] 29 :: .blk g5 [.int .i64 d.f, .int .i64 d.t, .slice A3 (min d.n 2000) c4] 29 :: Own 5 1 A3 (min d.n 2000) (min d.n 2000) (u8s (d.b.take 2000)) :: L) w := s
              refine st_call ha (by kernel_rfl) (by kernel_rfl) (len_to W _ w g1 (takeL l d.i) (takeL l d.i).length rfl s) ?_
              rintro _ w ⟨rfl, s⟩
              replace s : St W (Bag g1 (takeL l d.i) :: Own 5 1 A18 ((lookR l d.i).1.b.length) c19 (u8s (lookR l d.i).1.b) :: RBag g2 (takeL l d.i) :: Own 5 1 A16 ((lookR l d.i).1.b.length) c17 (u8s (lookR l d.i).1.b) :: .blk g7 [.int .i64 ((lookR l d.i).1.f), .int .i64 ((lookR l d.i).1.t), .slice A18 ((lookR l d.i).1.b.length) c19] 29 :: .blk g6 [.int .i64 ((lookR l d.i).1.f), .int .i64 ((lookR l d.i).1.t), .slice A16 ((lookR l d.i).1.b.length) c17] 29 :: .blk g5 [.int .i64 d.f, .int .i64 d.t, .slice A3 (min d.n 2000) c4] 29 :: Own 5 1 A3 (min d.n 2000) (min d.n 2000) (u8s (d.b.take 2000)) :: L) w := s
              refine ⟨_, rfl, ?_⟩; clear ha; intro a ha
              refine st_val (.pointer (some ⟨g2, 0, none⟩)) ha (by kernel_rfl) (by kernel_rfl) ?_
              clear ha; intro a ha
              replace s := s.at_ (j := 2) rfl
              replace s : St W (RBag g2 (takeL l d.i) :: Bag g1 (takeL l d.i) :: Own 5 1 A18 ((lookR l d.i).1.b.length) c19 (u8s (lookR l d.i).1.b) :: Own 5 1 A16 ((lookR l d.i).1.b.length) c17 (u8s (lookR l d.i).1.b) :: .blk g7 [.int .i64 ((lookR l d.i).1.f), .int .i64 ((lookR l d.i).1.t), .slice A18 ((lookR l d.i).1.b.length) c19] 29 :: .blk g6 [.int .i64 ((lookR l d.i).1.f), .int .i64 ((lookR l d.i).1.t), .slice A16 ((lookR l d.i).1.b.length) c17] 29 :: .blk g5 [.int .i64 d.f, .int .i64 d.t, .slice A3 (min d.n 2000) c4] 29 :: Own 5 1 A3 (min d.n 2000) (min d.n 2000) (u8s (d.b.take 2000)) :: L) w := s
              refine st_call ha (by kernel_rfl) (by kernel_rfl) (rlen_to W _ w g2 (takeL l d.i) (takeL l d.i).length rfl s) ?_
              rintro _ w ⟨rfl, s⟩
              replace s : St W (RBag g2 (takeL l d.i) :: Bag g1 (takeL l d.i) :: Own 5 1 A18 ((lookR l d.i).1.b.length) c19 (u8s (lookR l d.i).1.b) :: Own 5 1 A16 ((lookR l d.i).1.b.length) c17 (u8s (lookR l d.i).1.b) :: .blk g7 [.int .i64 ((lookR l d.i).1.f), .int .i64 ((lookR l d.i).1.t), .slice A18 ((lookR l d.i).1.b.length) c19] 29 :: .blk g6 [.int .i64 ((lookR l d.i).1.f), .int .i64 ((lookR l d.i).1.t), .slice A16 ((lookR l d.i).1.b.length) c17] 29 :: .blk g5 [.int .i64 d.f, .int .i64 d.t, .slice A3 (min d.n 2000) c4] 29 :: Own 5 1 A3 (min d.n 2000) (min d.n 2000) (u8s (d.b.take 2000)) :: L) w := s
              refine ⟨_, rfl, ?_⟩; clear ha; intro a ha
              refine st_val (.bool false) ha (by kernel_rfl) (run_known (bne_self_eq_false _) (show (execOp (evalE _) _).run _ _ = .ok (.value (.bool ((((takeL l d.i).length : Nat) : Int) != (((takeL l d.i).length : Nat) : Int)))) _ from by kernel_rfl)) ?_
              clear ha; intro a ha
              refine st_val (.bool false) ha (by kernel_rfl) (by kernel_rfl) ?_
              clear ha; intro a ha
              refine wpList_nil ?_
              refine then_normal ?_
              refine wp_false ha rfl (by kernel_rfl) ?_
              refine wp_skip ?_
              refine then_normal ?_
              refine wp_seq ?_
              refine wp_region_lit ?_
              refine st_val (.pointer (some ⟨g6, 2, none⟩)) ha (by kernel_rfl) (by kernel_rfl) ?_
              clear ha; intro a ha
              refine st_val (.slice A16 ((lookR l d.i).1.b.length) c17) ha (by kernel_rfl) (run_load1 (of_ := 2) (s.blkIs 5 rfl) rfl (by kernel_rfl) Try.isAgg27 rfl) ?_
              clear ha; intro a ha
              replace s := s.at_ (j := 3) rfl
              replace s : St W (Own 5 1 A16 ((lookR l d.i).1.b.length) c17 (u8s (lookR l d.i).1.b) :: RBag g2 (takeL l d.i) :: Bag g1 (takeL l d.i) :: Own 5 1 A18 ((lookR l d.i).1.b.length) c19 (u8s (lookR l d.i).1.b) :: .blk g7 [.int .i64 ((lookR l d.i).1.f), .int .i64 ((lookR l d.i).1.t), .slice A18 ((lookR l d.i).1.b.length) c19] 29 :: .blk g6 [.int .i64 ((lookR l d.i).1.f), .int .i64 ((lookR l d.i).1.t), .slice A16 ((lookR l d.i).1.b.length) c17] 29 :: .blk g5 [.int .i64 d.f, .int .i64 d.t, .slice A3 (min d.n 2000) c4] 29 :: Own 5 1 A3 (min d.n 2000) (min d.n 2000) (u8s (d.b.take 2000)) :: L) w := s
              refine st_call ha (by kernel_rfl) (by kernel_rfl) (spoil_any W _ w A16 ((lookR l d.i).1.b.length) c17 c17 ((lookR l d.i).1.b) (lookR_small ok _) s) ?_
              rintro _ w ⟨rfl, s⟩
              replace s : St W (RBag g2 (takeL l d.i) :: Bag g1 (takeL l d.i) :: Own 5 1 A18 ((lookR l d.i).1.b.length) c19 (u8s (lookR l d.i).1.b) :: .blk g7 [.int .i64 ((lookR l d.i).1.f), .int .i64 ((lookR l d.i).1.t), .slice A18 ((lookR l d.i).1.b.length) c19] 29 :: .blk g6 [.int .i64 ((lookR l d.i).1.f), .int .i64 ((lookR l d.i).1.t), .slice A16 ((lookR l d.i).1.b.length) c17] 29 :: .blk g5 [.int .i64 d.f, .int .i64 d.t, .slice A3 (min d.n 2000) c4] 29 :: Own 5 1 A3 (min d.n 2000) (min d.n 2000) (u8s (d.b.take 2000)) :: L) w := s
              refine ⟨_, rfl, ?_⟩; clear ha; intro a ha
              refine wpList_nil ?_
              refine then_normal ?_
              refine wp_region_lit ?_
              refine st_val (.pointer (some ⟨g5, 2, none⟩)) ha (by kernel_rfl) (by kernel_rfl) ?_
              clear ha; intro a ha
              refine st_val (.slice A3 (min d.n 2000) c4) ha (by kernel_rfl) (run_load1 (of_ := 2) (s.blkIs 5 rfl) rfl (by kernel_rfl) Try.isAgg27 rfl) ?_
              clear ha; intro a ha
              replace s := s.at_ (j := 6) rfl
              replace s : St W (Own 5 1 A3 (min d.n 2000) (min d.n 2000) (u8s (d.b.take 2000)) :: RBag g2 (takeL l d.i) :: Bag g1 (takeL l d.i) :: Own 5 1 A18 ((lookR l d.i).1.b.length) c19 (u8s (lookR l d.i).1.b) :: .blk g7 [.int .i64 ((lookR l d.i).1.f), .int .i64 ((lookR l d.i).1.t), .slice A18 ((lookR l d.i).1.b.length) c19] 29 :: .blk g6 [.int .i64 ((lookR l d.i).1.f), .int .i64 ((lookR l d.i).1.t), .slice A16 ((lookR l d.i).1.b.length) c17] 29 :: .blk g5 [.int .i64 d.f, .int .i64 d.t, .slice A3 (min d.n 2000) c4] 29 :: L) w := s
              refine st_call ha (by kernel_rfl) (by kernel_rfl) (spoil_any W _ w A3 (min d.n 2000) (min d.n 2000) c4 (d.b.take 2000) (by omega) s) ?_
              rintro _ w ⟨rfl, s⟩
              replace s : St W (RBag g2 (takeL l d.i) :: Bag g1 (takeL l d.i) :: Own 5 1 A18 ((lookR l d.i).1.b.length) c19 (u8s (lookR l d.i).1.b) :: .blk g7 [.int .i64 ((lookR l d.i).1.f), .int .i64 ((lookR l d.i).1.t), .slice A18 ((lookR l d.i).1.b.length) c19] 29 :: .blk g6 [.int .i64 ((lookR l d.i).1.f), .int .i64 ((lookR l d.i).1.t), .slice A16 ((lookR l d.i).1.b.length) c17] 29 :: .blk g5 [.int .i64 d.f, .int .i64 d.t, .slice A3 (min d.n 2000) c4] 29 :: L) w := s
              refine ⟨_, rfl, ?_⟩; clear ha; intro a ha
              refine wpList_nil ?_
              refine block_normal ?_
              refine then_normal ?_
              refine wp_region_lit ?_
              refine st_val (.int .i64 ((k : Nat) : Int)) ha (by kernel_rfl) (by kernel_rfl) ?_
              clear ha; intro a ha
              refine st_val (.int .i64 ((k + 1 : Nat) : Int)) ha (by kernel_rfl) (run_arith (((k : Nat) : Int) + (1 : Int)) ((k + 1 : Nat) : Int) rfl (by kernel_rfl) (by kernel_rfl) (.inl ⟨rfl, rfl⟩) (by rw [wrap64_in (by omega)]; try omega) _) ?_
              clear ha; intro a ha
              refine st_val (.int .i64 ((k + 1 : Nat) : Int)) ha (by kernel_rfl) (by kernel_rfl) ?_
              clear ha; intro a ha
              refine wpList_nil ?_
              refine then_normal ?_
              replace s := s.at_ (j := 1) rfl
              replace s : St W (Bag g1 (takeL l d.i) :: RBag g2 (takeL l d.i) :: Own 5 1 A18 ((lookR l d.i).1.b.length) c19 (u8s (lookR l d.i).1.b) :: .blk g7 [.int .i64 ((lookR l d.i).1.f), .int .i64 ((lookR l d.i).1.t), .slice A18 ((lookR l d.i).1.b.length) c19] 29 :: .blk g6 [.int .i64 ((lookR l d.i).1.f), .int .i64 ((lookR l d.i).1.t), .slice A16 ((lookR l d.i).1.b.length) c17] 29 :: .blk g5 [.int .i64 d.f, .int .i64 d.t, .slice A3 (min d.n 2000) c4] 29 :: L) w := s
              replace s : St W (Bag g1 (takeL l d.i) :: RBag g2 (takeL l d.i) :: L) w := St.mid (A := [Bag g1 (takeL l d.i), RBag g2 (takeL l d.i)]) (B := [Own 5 1 A18 ((lookR l d.i).1.b.length) c19 (u8s (lookR l d.i).1.b), .blk g7 [.int .i64 ((lookR l d.i).1.f), .int .i64 ((lookR l d.i).1.t), .slice A18 ((lookR l d.i).1.b.length) c19] 29, .blk g6 [.int .i64 ((lookR l d.i).1.f), .int .i64 ((lookR l d.i).1.t), .slice A16 ((lookR l d.i).1.b.length) c17] 29, .blk g5 [.int .i64 d.f, .int .i64 d.t, .slice A3 (min d.n 2000) c4] 29]) s
              exact ⟨(k + 1, takeL l d.i), (show 150 - (k + 1) < 150 - k by omega), (Has.cons ha (by kernel_rfl) (by kernel_rfl) (Has.cons ha (by kernel_rfl) (by kernel_rfl) (Has.cons ha (by kernel_rfl) (by kernel_rfl) (Has.cons ha (by kernel_rfl) (by kernel_rfl) (Has.nil ha))))), s, (show k + 1 ≤ 150 by omega), ok.takeL _⟩
            · rw [hb] at ha; have hb_ := hb; replace hb := ne_of_beq_false hb
              refine wp_seq ?_
              refine wp_region_lit ?_
              refine st_val (.bool ((d.k % 8) == (7 : Int))) ha (by kernel_rfl) (by kernel_rfl) ?_
              clear ha; intro a ha
              refine st_val (.bool ((d.k % 8) == (7 : Int))) ha (by kernel_rfl) (by kernel_rfl) ?_
              clear ha; intro a ha
              refine wpList_nil ?_
              refine then_normal ?_
              refine wp_part ((d.k % 8) == (7 : Int)) ha rfl (by kernel_rfl) (fun hb => ?_) (fun hb => ?_)
              · rw [hb] at ha; have hb_ := hb; replace hb := eq_of_beq hb
                refine wp_region_head 13 (fun w => Reads w 5 (some ad) n (deeds ds) ∧ True) (by kernel_rfl) (by decide) ?_
                replace s := s.drew; generalize _root_.Go.World.drew _ = w at s ⊢
                have hS : (fun w => Reads w 5 (some ad) n (deeds ds) ∧ True) w := ⟨hr _ (Sat.drops (A := [.blk g7 [.int .i64 0, .int .i64 0, .slice none 0 0] 29, .blk g6 [.int .i64 0, .int .i64 0, .slice none 0 0] 29, .blk g5 [.int .i64 d.f, .int .i64 d.t, .slice A3 (min d.n 2000) c4] 29, Own 5 1 A3 (min d.n 2000) (min d.n 2000) (u8s (d.b.take 2000)), Bag g1 l, RBag g2 l]) s.sat), trivial⟩
                refine hd_val (i := 0) (.pointer (some ⟨g1, 0, none⟩)) ha rfl (by kernel_rfl) (fun _ _ _ h => h) (by kernel_rfl) (fun w hS => (by kernel_rfl)) hS ?_
                clear ha; intro a ha
                refine hd_val (i := 1) (.slice (some ad) n c) ha rfl (by kernel_rfl) (fun _ _ _ h => h) (by kernel_rfl) (fun w hS => (by kernel_rfl)) hS ?_
                clear ha; intro a ha
                refine hd_val (i := 2) (.int .i64 ((k : Nat) : Int)) ha rfl (by kernel_rfl) (fun _ _ _ h => h) (by kernel_rfl) (fun w hS => (by kernel_rfl)) hS ?_
                clear ha; intro a ha
                refine hd_val (i := 3) (.pointer (some (ad.add (k * 5)))) ha rfl (by kernel_rfl) (fun _ _ _ h => h) (by kernel_rfl) (fun w hS => (run_indexAddr' (kd := .i64) (n := n) (c := c) k rfl Try.underlying22 Try.sizeOf32 (by kernel_rfl) (by kernel_rfl) rfl (by first | assumption | omega) _)) hS ?_
                clear ha; intro a ha
                refine hd_val (i := 4) (.pointer (some (ad.add (k * 5 + 1)))) ha rfl (by kernel_rfl) (fun _ _ _ h => h) (by kernel_rfl) (fun w hS => (run_fieldAddr_at (i := k * 5) (off := 1) rfl Try.underlying32 rfl Try.sizeOf3 (by kernel_rfl) _)) hS ?_
                clear ha; intro a ha
                refine hd_val (i := 5) (.int .i64 d.i) ha rfl (by kernel_rfl) (fun _ _ _ h => h) (by kernel_rfl) (fun w hS => run_loadAt1 (i := k * 5 + 1) hS.1 rfl (by kernel_rfl) Try.isAgg3 (by rw [deeds_at hd (by omega)]; rfl)) hS ?_
                clear ha; intro a ha
                refine hd_val (i := 7) (.pointer (some ⟨g2, 0, none⟩)) ha rfl (by kernel_rfl) (fun _ _ _ h => h) (by kernel_rfl) (fun w hS => (by kernel_rfl)) hS ?_
                clear ha; intro a ha
                refine hd_val (i := 8) (.slice (some ad) n c) ha rfl (by kernel_rfl) (fun _ _ _ h => h) (by kernel_rfl) (fun w hS => (by kernel_rfl)) hS ?_
                clear ha; intro a ha
                refine hd_val (i := 9) (.int .i64 ((k : Nat) : Int)) ha rfl (by kernel_rfl) (fun _ _ _ h => h) (by kernel_rfl) (fun w hS => (by kernel_rfl)) hS ?_
                clear ha; intro a ha
                refine hd_val (i := 10) (.pointer (some (ad.add (k * 5)))) ha rfl (by kernel_rfl) (fun _ _ _ h => h) (by kernel_rfl) (fun w hS => (run_indexAddr' (kd := .i64) (n := n) (c := c) k rfl Try.underlying22 Try.sizeOf32 (by kernel_rfl) (by kernel_rfl) rfl (by first | assumption | omega) _)) hS ?_
                clear ha; intro a ha
                refine hd_val (i := 11) (.pointer (some (ad.add (k * 5 + 1)))) ha rfl (by kernel_rfl) (fun _ _ _ h => h) (by kernel_rfl) (fun w hS => (run_fieldAddr_at (i := k * 5) (off := 1) rfl Try.underlying32 rfl Try.sizeOf3 (by kernel_rfl) _)) hS ?_
                clear ha; intro a ha
                refine hd_val (i := 12) (.int .i64 d.i) ha rfl (by kernel_rfl) (fun _ _ _ h => h) (by kernel_rfl) (fun w hS => run_loadAt1 (i := k * 5 + 1) hS.1 rfl (by kernel_rfl) Try.isAgg3 (by rw [deeds_at hd (by omega)]; rfl)) hS ?_
                clear ha; intro a ha
                replace s := s.at_ (j := 4) rfl
                replace s : St W (Bag g1 l :: .blk g7 [.int .i64 0, .int .i64 0, .slice none 0 0] 29 :: .blk g6 [.int .i64 0, .int .i64 0, .slice none 0 0] 29 :: .blk g5 [.int .i64 d.f, .int .i64 d.t, .slice A3 (min d.n 2000) c4] 29 :: Own 5 1 A3 (min d.n 2000) (min d.n 2000) (u8s (d.b.take 2000)) :: RBag g2 l :: L) w := s
                refine hd_call (i := 6) ha rfl (by kernel_rfl) (by kernel_rfl) (by kernel_rfl) (double_all W _ w g1 l d.i ok s) ?_
                clear hS; rintro _ w ⟨rfl, s⟩
                replace s : St W (Bag g1 (dblL l d.i) :: .blk g7 [.int .i64 0, .int .i64 0, .slice none 0 0] 29 :: .blk g6 [.int .i64 0, .int .i64 0, .slice none 0 0] 29 :: .blk g5 [.int .i64 d.f, .int .i64 d.t, .slice A3 (min d.n 2000) c4] 29 :: Own 5 1 A3 (min d.n 2000) (min d.n 2000) (u8s (d.b.take 2000)) :: RBag g2 l :: L) w := s
                have hS : (fun w => Reads w 5 (some ad) n (deeds ds) ∧ True) w := ⟨hr _ (Sat.drops (A := [Bag g1 (dblL l d.i), .blk g7 [.int .i64 0, .int .i64 0, .slice none 0 0] 29, .blk g6 [.int .i64 0, .int .i64 0, .slice none 0 0] 29, .blk g5 [.int .i64 d.f, .int .i64 d.t, .slice A3 (min d.n 2000) c4] 29, Own 5 1 A3 (min d.n 2000) (min d.n 2000) (u8s (d.b.take 2000)), RBag g2 l]) s.sat), trivial⟩
                refine ⟨_, rfl, hS, ?_⟩; clear ha; intro a ha
                refine Head.done (by kernel_rfl) ?_
                clear hS; simp only [List.drop_succ_cons, List.drop_zero]
                replace s := s.at_ (j := 5) rfl
                replace s : St W (RBag g2 l :: Bag g1 (dblL l d.i) :: .blk g7 [.int .i64 0, .int .i64 0, .slice none 0 0] 29 :: .blk g6 [.int .i64 0, .int .i64 0, .slice none 0 0] 29 :: .blk g5 [.int .i64 d.f, .int .i64 d.t, .slice A3 (min d.n 2000) c4] 29 :: Own 5 1 A3 (min d.n 2000) (min d.n 2000) (u8s (d.b.take 2000)) :: L) w := s
                refine st_call ha (by kernel_rfl) (by kernel_rfl) (rdouble_all W _ w g2 l d.i ok s) ?_
                rintro _ w ⟨rfl, s⟩
                replace s : St W (RBag g2 (dblL l d.i) :: Bag g1 (dblL l d.i) :: .blk g7 [.int .i64 0, .int .i64 0, .slice none 0 0] 29 :: .blk g6 [.int .i64 0, .int .i64 0, .slice none 0 0] 29 :: .blk g5 [.int .i64 d.f, .int .i64 d.t, .slice A3 (min d.n 2000) c4] 29 :: Own 5 1 A3 (min d.n 2000) (min d.n 2000) (u8s (d.b.take 2000)) :: L) w := s
                refine ⟨_, rfl, ?_⟩; clear ha; intro a ha
                refine st_val (.bool true) ha (by kernel_rfl) (run_known (beq_self_eq_true _) (show (execOp (evalE _) _).run _ _ = .ok (.value (.bool ((dblR l d.i) == (dblR l d.i)))) _ from by kernel_rfl)) ?_
                clear ha; intro a ha
                refine st_val (.bool true) ha (by kernel_rfl) (by kernel_rfl) ?_
                clear ha; intro a ha
                refine wpList_nil ?_
                refine block_normal ?_
                refine then_normal ?_
                refine wp_seq ?_
                refine wp_seq ?_
                refine wp_region_lit ?_
                refine st_val (.agg #[.int .i64 0, .int .i64 0, .slice none 0 0]) ha (by kernel_rfl) (run_loadN (of_ := 0) [.int .i64 0, .int .i64 0, .slice none 0 0] (s.blkIs 3 rfl) rfl (by kernel_rfl) Try.isAgg29 Try.sizeOf29 rfl (Nat.le_of_ble_eq_true rfl)) ?_
                clear ha; intro a ha
                refine st_val (.agg #[.int .i64 0, .int .i64 0, .slice none 0 0]) ha (by kernel_rfl) (run_loadN (of_ := 0) [.int .i64 0, .int .i64 0, .slice none 0 0] (s.blkIs 2 rfl) rfl (by kernel_rfl) Try.isAgg29 Try.sizeOf29 rfl (Nat.le_of_ble_eq_true rfl)) ?_
                clear ha; intro a ha
                refine st_call ha (by kernel_rfl) (by kernel_rfl) (same_to W _ w 0 0 0 0 none none 0 0 0 0 [] [] true rfl rfl (Knows.reads_none _ _) (Knows.reads_none _ _) (by omega) rfl s) ?_
                rintro _ w ⟨rfl, s⟩
                replace s : St W (RBag g2 (dblL l d.i) :: Bag g1 (dblL l d.i) :: .blk g7 [.int .i64 0, .int .i64 0, .slice none 0 0] 29 :: .blk g6 [.int .i64 0, .int .i64 0, .slice none 0 0] 29 :: .blk g5 [.int .i64 d.f, .int .i64 d.t, .slice A3 (min d.n 2000) c4] 29 :: Own 5 1 A3 (min d.n 2000) (min d.n 2000) (u8s (d.b.take 2000)) :: L) w := s
                refine ⟨_, rfl, ?_⟩; clear ha; intro a ha
                refine st_val (.bool false) ha (by kernel_rfl) (by kernel_rfl) ?_
                clear ha; intro a ha
                refine st_val (.bool false) ha (by kernel_rfl) (by kernel_rfl) ?_
                clear ha; intro a ha
                refine st_val (.bool true) ha (by kernel_rfl) (by kernel_rfl) ?_
                clear ha; intro a ha
                refine st_val (.bool true) ha (by kernel_rfl) (by kernel_rfl) ?_
                clear ha; intro a ha
                refine st_val (.bool false) ha (by kernel_rfl) (by kernel_rfl) ?_
                clear ha; intro a ha
                refine st_val (.bool false) ha (by kernel_rfl) (by kernel_rfl) ?_
                clear ha; intro a ha
                refine st_val (.bool false) ha (by kernel_rfl) (by kernel_rfl) ?_
                clear ha; intro a ha
                refine st_val (.pointer (some ⟨g1, 0, none⟩)) ha (by kernel_rfl) (by kernel_rfl) ?_
                clear ha; intro a ha
                replace s := s.at_ (j := 1) rfl
                replace s : St W (Bag g1 (dblL l d.i) :: RBag g2 (dblL l d.i) :: .blk g7 [.int .i64 0, .int .i64 0, .slice none 0 0] 29 :: .blk g6 [.int .i64 0, .int .i64 0, .slice none 0 0] 29 :: .blk g5 [.int .i64 d.f, .int .i64 d.t, .slice A3 (min d.n 2000) c4] 29 :: Own 5 1 A3 (min d.n 2000) (min d.n 2000) (u8s (d.b.take 2000)) :: L) w := s
                refine st_call ha (by kernel_rfl) (by kernel_rfl) (len_to W _ w g1 (dblL l d.i) (dblL l d.i).length rfl s) ?_
                rintro _ w ⟨rfl, s⟩
                replace s : St W (Bag g1 (dblL l d.i) :: RBag g2 (dblL l d.i) :: .blk g7 [.int .i64 0, .int .i64 0, .slice none 0 0] 29 :: .blk g6 [.int .i64 0, .int .i64 0, .slice none 0 0] 29 :: .blk g5 [.int .i64 d.f, .int .i64 d.t, .slice A3 (min d.n 2000) c4] 29 :: Own 5 1 A3 (min d.n 2000) (min d.n 2000) (u8s (d.b.take 2000)) :: L) w := s
                refine ⟨_, rfl, ?_⟩; clear ha; intro a ha
                refine st_val (.pointer (some ⟨g2, 0, none⟩)) ha (by kernel_rfl) (by kernel_rfl) ?_
                clear ha; intro a ha
                replace s := s.at_ (j := 1) rfl
                replace s : St W (RBag g2 (dblL l d.i) :: Bag g1 (dblL l d.i) :: .blk g7 [.int .i64 0, .int .i64 0, .slice none 0 0] 29 :: .blk g6 [.int .i64 0, .int .i64 0, .slice none 0 0] 29 :: .blk g5 [.int .i64 d.f, .int .i64 d.t, .slice A3 (min d.n 2000) c4] 29 :: Own 5 1 A3 (min d.n 2000) (min d.n 2000) (u8s (d.b.take 2000)) :: L) w := s
                refine st_call ha (by kernel_rfl) (by kernel_rfl) (rlen_to W _ w g2 (dblL l d.i) (dblL l d.i).length rfl s) ?_
                rintro _ w ⟨rfl, s⟩
                replace s : St W (RBag g2 (dblL l d.i) :: Bag g1 (dblL l d.i) :: .blk g7 [.int .i64 0, .int .i64 0, .slice none 0 0] 29 :: .blk g6 [.int .i64 0, .int .i64 0, .slice none 0 0] 29 :: .blk g5 [.int .i64 d.f, .int .i64 d.t, .slice A3 (min d.n 2000) c4] 29 :: Own 5 1 A3 (min d.n 2000) (min d.n 2000) (u8s (d.b.take 2000)) :: L) w := s
                refine ⟨_, rfl, ?_⟩; clear ha; intro a ha
                refine st_val (.bool false) ha (by kernel_rfl) (run_known (bne_self_eq_false _) (show (execOp (evalE _) _).run _ _ = .ok (.value (.bool ((((dblL l d.i).length : Nat) : Int) != (((dblL l d.i).length : Nat) : Int)))) _ from by kernel_rfl)) ?_
                clear ha; intro a ha
                refine st_val (.bool false) ha (by kernel_rfl) (by kernel_rfl) ?_
                clear ha; intro a ha
                refine wpList_nil ?_
                refine then_normal ?_
                refine wp_false ha rfl (by kernel_rfl) ?_
                refine wp_skip ?_
                refine then_normal ?_
                refine wp_seq ?_
                refine wp_region_lit ?_
                refine st_val (.pointer (some ⟨g6, 2, none⟩)) ha (by kernel_rfl) (by kernel_rfl) ?_
                clear ha; intro a ha
                refine st_val (.slice none 0 0) ha (by kernel_rfl) (run_load1 (of_ := 2) (s.blkIs 3 rfl) rfl (by kernel_rfl) Try.isAgg27 rfl) ?_
                clear ha; intro a ha
                refine st_call ha (by kernel_rfl) (by kernel_rfl) (spoil_zero W _ w none 0 s) ?_
                rintro _ w ⟨rfl, s⟩
                replace s : St W (RBag g2 (dblL l d.i) :: Bag g1 (dblL l d.i) :: .blk g7 [.int .i64 0, .int .i64 0, .slice none 0 0] 29 :: .blk g6 [.int .i64 0, .int .i64 0, .slice none 0 0] 29 :: .blk g5 [.int .i64 d.f, .int .i64 d.t, .slice A3 (min d.n 2000) c4] 29 :: Own 5 1 A3 (min d.n 2000) (min d.n 2000) (u8s (d.b.take 2000)) :: L) w := s
                refine ⟨_, rfl, ?_⟩; clear ha; intro a ha
                refine wpList_nil ?_
                refine then_normal ?_
                refine wp_region_lit ?_
                refine st_val (.pointer (some ⟨g5, 2, none⟩)) ha (by kernel_rfl) (by kernel_rfl) ?_
                clear ha; intro a ha
                refine st_val (.slice A3 (min d.n 2000) c4) ha (by kernel_rfl) (run_load1 (of_ := 2) (s.blkIs 4 rfl) rfl (by kernel_rfl) Try.isAgg27 rfl) ?_
                clear ha; intro a ha
                replace s := s.at_ (j := 5) rfl
                replace s : St W (Own 5 1 A3 (min d.n 2000) (min d.n 2000) (u8s (d.b.take 2000)) :: RBag g2 (dblL l d.i) :: Bag g1 (dblL l d.i) :: .blk g7 [.int .i64 0, .int .i64 0, .slice none 0 0] 29 :: .blk g6 [.int .i64 0, .int .i64 0, .slice none 0 0] 29 :: .blk g5 [.int .i64 d.f, .int .i64 d.t, .slice A3 (min d.n 2000) c4] 29 :: L) w := s
                refine st_call ha (by kernel_rfl) (by kernel_rfl) (spoil_any W _ w A3 (min d.n 2000) (min d.n 2000) c4 (d.b.take 2000) (by omega) s) ?_
                rintro _ w ⟨rfl, s⟩
                replace s : St W (RBag g2 (dblL l d.i) :: Bag g1 (dblL l d.i) :: .blk g7 [.int .i64 0, .int .i64 0, .slice none 0 0] 29 :: .blk g6 [.int .i64 0, .int .i64 0, .slice none 0 0] 29 :: .blk g5 [.int .i64 d.f, .int .i64 d.t, .slice A3 (min d.n 2000) c4] 29 :: L) w := s
                refine ⟨_, rfl, ?_⟩; clear ha; intro a ha
                refine wpList_nil ?_
                refine block_normal ?_
                refine then_normal ?_
                refine wp_region_lit ?_
                refine st_val (.int .i64 ((k : Nat) : Int)) ha (by kernel_rfl) (by kernel_rfl) ?_
                clear ha; intro a ha
                refine st_val (.int .i64 ((k + 1 : Nat) : Int)) ha (by kernel_rfl) (run_arith (((k : Nat) : Int) + (1 : Int)) ((k + 1 : Nat) : Int) rfl (by kernel_rfl) (by kernel_rfl) (.inl ⟨rfl, rfl⟩) (by rw [wrap64_in (by omega)]; try omega) _) ?_
                clear ha; intro a ha
                refine st_val (.int .i64 ((k + 1 : Nat) : Int)) ha (by kernel_rfl) (by kernel_rfl) ?_
                clear ha; intro a ha
                refine wpList_nil ?_
                refine then_normal ?_
                replace s := s.at_ (j := 1) rfl
                replace s : St W (Bag g1 (dblL l d.i) :: RBag g2 (dblL l d.i) :: .blk g7 [.int .i64 0, .int .i64 0, .slice none 0 0] 29 :: .blk g6 [.int .i64 0, .int .i64 0, .slice none 0 0] 29 :: .blk g5 [.int .i64 d.f, .int .i64 d.t, .slice A3 (min d.n 2000) c4] 29 :: L) w := s
                replace s : St W (Bag g1 (dblL l d.i) :: RBag g2 (dblL l d.i) :: L) w := St.mid (A := [Bag g1 (dblL l d.i), RBag g2 (dblL l d.i)]) (B := [.blk g7 [.int .i64 0, .int .i64 0, .slice none 0 0] 29, .blk g6 [.int .i64 0, .int .i64 0, .slice none 0 0] 29, .blk g5 [.int .i64 d.f, .int .i64 d.t, .slice A3 (min d.n 2000) c4] 29]) s
                exact ⟨(k + 1, dblL l d.i), (show 150 - (k + 1) < 150 - k by omega), (Has.cons ha (by kernel_rfl) (by kernel_rfl) (Has.cons ha (by kernel_rfl) (by kernel_rfl) (Has.cons ha (by kernel_rfl) (by kernel_rfl) (Has.cons ha (by kernel_rfl) (by kernel_rfl) (Has.nil ha))))), s, (show k + 1 ≤ 150 by omega), ok.dblL _⟩
              · rw [hb] at ha; have hb_ := hb; replace hb := ne_of_beq_false hb
                refine wp_seq ?_
                refine wp_region_lit ?_
                refine st_val (.pointer (some ⟨g2, 0, none⟩)) ha (by kernel_rfl) (by kernel_rfl) ?_
                clear ha; intro a ha
                refine st_val (.agg #[.int .i64 d.f, .int .i64 d.t, .slice A3 (min d.n 2000) c4]) ha (by kernel_rfl) (run_loadN (of_ := 0) [.int .i64 d.f, .int .i64 d.t, .slice A3 (min d.n 2000) c4] (s.blkIs 2 rfl) rfl (by kernel_rfl) Try.isAgg29 Try.sizeOf29 rfl (Nat.le_of_ble_eq_true rfl)) ?_
                clear ha; intro a ha
                replace s := s.at_ (j := 5) rfl
                replace s : St W (RBag g2 l :: .blk g7 [.int .i64 0, .int .i64 0, .slice none 0 0] 29 :: .blk g6 [.int .i64 0, .int .i64 0, .slice none 0 0] 29 :: .blk g5 [.int .i64 d.f, .int .i64 d.t, .slice A3 (min d.n 2000) c4] 29 :: Own 5 1 A3 (min d.n 2000) (min d.n 2000) (u8s (d.b.take 2000)) :: Bag g1 l :: L) w := s
                refine st_call ha (by kernel_rfl) (by kernel_rfl) (rput_to W _ w g2 l d.f d.t (d.b.take 2000) A3 (min d.n 2000) c4 (putCode ⟨d.f, d.t, d.b.take 2000⟩ l.length) (bput l ⟨d.f, d.t, d.b.take 2000⟩) (len_take hg.2.1) rfl rfl (Knows.own (j := 3) rfl) (by omega) s) ?_
                rintro _ w ⟨rfl, s⟩
                replace s : St W (RBag g2 (bput l ⟨d.f, d.t, d.b.take 2000⟩) :: .blk g7 [.int .i64 0, .int .i64 0, .slice none 0 0] 29 :: .blk g6 [.int .i64 0, .int .i64 0, .slice none 0 0] 29 :: .blk g5 [.int .i64 d.f, .int .i64 d.t, .slice A3 (min d.n 2000) c4] 29 :: Own 5 1 A3 (min d.n 2000) (min d.n 2000) (u8s (d.b.take 2000)) :: Bag g1 l :: L) w := s
                refine ⟨_, rfl, ?_⟩; clear ha; intro a ha
                refine st_val (.int .i64 (putCode ⟨d.f, d.t, d.b.take 2000⟩ l.length)) ha (by kernel_rfl) (by kernel_rfl) ?_
                clear ha; intro a ha
                refine wpList_nil ?_
                refine then_normal ?_
                refine wp_region_lit ?_
                refine st_val (.pointer (some ⟨g1, 0, none⟩)) ha (by kernel_rfl) (by kernel_rfl) ?_
                clear ha; intro a ha
                refine st_val (.agg #[.int .i64 d.f, .int .i64 d.t, .slice A3 (min d.n 2000) c4]) ha (by kernel_rfl) (run_loadN (of_ := 0) [.int .i64 d.f, .int .i64 d.t, .slice A3 (min d.n 2000) c4] (s.blkIs 3 rfl) rfl (by kernel_rfl) Try.isAgg29 Try.sizeOf29 rfl (Nat.le_of_ble_eq_true rfl)) ?_
                clear ha; intro a ha
                replace s := s.at_ (j := 5) rfl
                replace s : St W (Bag g1 l :: RBag g2 (bput l ⟨d.f, d.t, d.b.take 2000⟩) :: .blk g7 [.int .i64 0, .int .i64 0, .slice none 0 0] 29 :: .blk g6 [.int .i64 0, .int .i64 0, .slice none 0 0] 29 :: .blk g5 [.int .i64 d.f, .int .i64 d.t, .slice A3 (min d.n 2000) c4] 29 :: Own 5 1 A3 (min d.n 2000) (min d.n 2000) (u8s (d.b.take 2000)) :: L) w := s
                refine st_call ha (by kernel_rfl) (by kernel_rfl) (put_to W _ w g1 l d.f d.t (d.b.take 2000) A3 (min d.n 2000) c4 (putCode ⟨d.f, d.t, d.b.take 2000⟩ l.length) (bput l ⟨d.f, d.t, d.b.take 2000⟩) (len_take hg.2.1) rfl rfl (Knows.own (j := 4) rfl) (by omega) s) ?_
                rintro _ w ⟨rfl, s⟩
                replace s : St W (Bag g1 (bput l ⟨d.f, d.t, d.b.take 2000⟩) :: RBag g2 (bput l ⟨d.f, d.t, d.b.take 2000⟩) :: .blk g7 [.int .i64 0, .int .i64 0, .slice none 0 0] 29 :: .blk g6 [.int .i64 0, .int .i64 0, .slice none 0 0] 29 :: .blk g5 [.int .i64 d.f, .int .i64 d.t, .slice A3 (min d.n 2000) c4] 29 :: Own 5 1 A3 (min d.n 2000) (min d.n 2000) (u8s (d.b.take 2000)) :: L) w := s
                refine ⟨_, rfl, ?_⟩; clear ha; intro a ha
                refine st_val (.int .i64 (putCode ⟨d.f, d.t, d.b.take 2000⟩ l.length)) ha (by kernel_rfl) (by kernel_rfl) ?_
                clear ha; intro a ha
                refine st_val (.bool true) ha (by kernel_rfl) (run_known (beq_self_eq_true _) (show (execOp (evalE _) _).run _ _ = .ok (.value (.bool ((putCode ⟨d.f, d.t, d.b.take 2000⟩ l.length) == (putCode ⟨d.f, d.t, d.b.take 2000⟩ l.length)))) _ from by kernel_rfl)) ?_
                clear ha; intro a ha
                refine st_val (.bool true) ha (by kernel_rfl) (by kernel_rfl) ?_
                clear ha; intro a ha
                refine wpList_nil ?_
                refine block_normal ?_
                refine then_normal ?_
                refine wp_seq ?_
                refine wp_seq ?_
                refine wp_region_lit ?_
                refine st_val (.agg #[.int .i64 0, .int .i64 0, .slice none 0 0]) ha (by kernel_rfl) (run_loadN (of_ := 0) [.int .i64 0, .int .i64 0, .slice none 0 0] (s.blkIs 3 rfl) rfl (by kernel_rfl) Try.isAgg29 Try.sizeOf29 rfl (Nat.le_of_ble_eq_true rfl)) ?_
                clear ha; intro a ha
                refine st_val (.agg #[.int .i64 0, .int .i64 0, .slice none 0 0]) ha (by kernel_rfl) (run_loadN (of_ := 0) [.int .i64 0, .int .i64 0, .slice none 0 0] (s.blkIs 2 rfl) rfl (by kernel_rfl) Try.isAgg29 Try.sizeOf29 rfl (Nat.le_of_ble_eq_true rfl)) ?_
                clear ha; intro a ha
                refine st_call ha (by kernel_rfl) (by kernel_rfl) (same_to W _ w 0 0 0 0 none none 0 0 0 0 [] [] true rfl rfl (Knows.reads_none _ _) (Knows.reads_none _ _) (by omega) rfl s) ?_
                rintro _ w ⟨rfl, s⟩
                replace s : St W (Bag g1 (bput l ⟨d.f, d.t, d.b.take 2000⟩) :: RBag g2 (bput l ⟨d.f, d.t, d.b.take 2000⟩) :: .blk g7 [.int .i64 0, .int .i64 0, .slice none 0 0] 29 :: .blk g6 [.int .i64 0, .int .i64 0, .slice none 0 0] 29 :: .blk g5 [.int .i64 d.f, .int .i64 d.t, .slice A3 (min d.n 2000) c4] 29 :: Own 5 1 A3 (min d.n 2000) (min d.n 2000) (u8s (d.b.take 2000)) :: L) w := s
                refine ⟨_, rfl, ?_⟩; clear ha; intro a ha
                refine st_val (.bool false) ha (by kernel_rfl) (by kernel_rfl) ?_
                clear ha; intro a ha
                refine st_val (.bool false) ha (by kernel_rfl) (by kernel_rfl) ?_
                clear ha; intro a ha
                refine st_val (.bool true) ha (by kernel_rfl) (by kernel_rfl) ?_
                clear ha; intro a ha
                refine st_val (.bool true) ha (by kernel_rfl) (by kernel_rfl) ?_
                clear ha; intro a ha
                refine st_val (.bool false) ha (by kernel_rfl) (by kernel_rfl) ?_
                clear ha; intro a ha
                refine st_val (.bool false) ha (by kernel_rfl) (by kernel_rfl) ?_
                clear ha; intro a ha
                refine st_val (.bool false) ha (by kernel_rfl) (by kernel_rfl) ?_
                clear ha; intro a ha
                refine st_val (.pointer (some ⟨g1, 0, none⟩)) ha (by kernel_rfl) (by kernel_rfl) ?_
                clear ha; intro a ha
                refine st_call ha (by kernel_rfl) (by kernel_rfl) (len_to W _ w g1 (bput l ⟨d.f, d.t, d.b.take 2000⟩) (bput l ⟨d.f, d.t, d.b.take 2000⟩).length rfl s) ?_
                rintro _ w ⟨rfl, s⟩
                replace s : St W (Bag g1 (bput l ⟨d.f, d.t, d.b.take 2000⟩) :: RBag g2 (bput l ⟨d.f, d.t, d.b.take 2000⟩) :: .blk g7 [.int .i64 0, .int .i64 0, .slice none 0 0] 29 :: .blk g6 [.int .i64 0, .int .i64 0, .slice none 0 0] 29 :: .blk g5 [.int .i64 d.f, .int .i64 d.t, .slice A3 (min d.n 2000) c4] 29 :: Own 5 1 A3 (min d.n 2000) (min d.n 2000) (u8s (d.b.take 2000)) :: L) w := s
                refine ⟨_, rfl, ?_⟩; clear ha; intro a ha
                refine st_val (.pointer (some ⟨g2, 0, none⟩)) ha (by kernel_rfl) (by kernel_rfl) ?_
                clear ha; intro a ha
                replace s := s.at_ (j := 1) rfl
                replace s : St W (RBag g2 (bput l ⟨d.f, d.t, d.b.take 2000⟩) :: Bag g1 (bput l ⟨d.f, d.t, d.b.take 2000⟩) :: .blk g7 [.int .i64 0, .int .i64 0, .slice none 0 0] 29 :: .blk g6 [.int .i64 0, .int .i64 0, .slice none 0 0] 29 :: .blk g5 [.int .i64 d.f, .int .i64 d.t, .slice A3 (min d.n 2000) c4] 29 :: Own 5 1 A3 (min d.n 2000) (min d.n 2000) (u8s (d.b.take 2000)) :: L) w := s
                refine st_call ha (by kernel_rfl) (by kernel_rfl) (rlen_to W _ w g2 (bput l ⟨d.f, d.t, d.b.take 2000⟩) (bput l ⟨d.f, d.t, d.b.take 2000⟩).length rfl s) ?_
                rintro _ w ⟨rfl, s⟩
                replace s : St W (RBag g2 (bput l ⟨d.f, d.t, d.b.take 2000⟩) :: Bag g1 (bput l ⟨d.f, d.t, d.b.take 2000⟩) :: .blk g7 [.int .i64 0, .int .i64 0, .slice none 0 0] 29 :: .blk g6 [.int .i64 0, .int .i64 0, .slice none 0 0] 29 :: .blk g5 [.int .i64 d.f, .int .i64 d.t, .slice A3 (min d.n 2000) c4] 29 :: Own 5 1 A3 (min d.n 2000) (min d.n 2000) (u8s (d.b.take 2000)) :: L) w := s
                refine ⟨_, rfl, ?_⟩; clear ha; intro a ha
                refine st_val (.bool false) ha (by kernel_rfl) (run_known (bne_self_eq_false _) (show (execOp (evalE _) _).run _ _ = .ok (.value (.bool ((((bput l ⟨d.f, d.t, d.b.take 2000⟩).length : Nat) : Int) != (((bput l ⟨d.f, d.t, d.b.take 2000⟩).length : Nat) : Int)))) _ from by kernel_rfl)) ?_
                clear ha; intro a ha
                refine st_val (.bool false) ha (by kernel_rfl) (by kernel_rfl) ?_
                clear ha; intro a ha
                refine wpList_nil ?_
                refine then_normal ?_
                refine wp_false ha rfl (by kernel_rfl) ?_
                refine wp_skip ?_
                refine then_normal ?_
                refine wp_seq ?_
                refine wp_region_lit ?_
                refine st_val (.pointer (some ⟨g6, 2, none⟩)) ha (by kernel_rfl) (by kernel_rfl) ?_
                clear ha; intro a ha
                refine st_val (.slice none 0 0) ha (by kernel_rfl) (run_load1 (of_ := 2) (s.blkIs 3 rfl) rfl (by kernel_rfl) Try.isAgg27 rfl) ?_
                clear ha; intro a ha
                refine st_call ha (by kernel_rfl) (by kernel_rfl) (spoil_zero W _ w none 0 s) ?_
                rintro _ w ⟨rfl, s⟩
                replace s : St W (RBag g2 (bput l ⟨d.f, d.t, d.b.take 2000⟩) :: Bag g1 (bput l ⟨d.f, d.t, d.b.take 2000⟩) :: .blk g7 [.int .i64 0, .int .i64 0, .slice none 0 0] 29 :: .blk g6 [.int .i64 0, .int .i64 0, .slice none 0 0] 29 :: .blk g5 [.int .i64 d.f, .int .i64 d.t, .slice A3 (min d.n 2000) c4] 29 :: Own 5 1 A3 (min d.n 2000) (min d.n 2000) (u8s (d.b.take 2000)) :: L) w := s
                refine ⟨_, rfl, ?_⟩; clear ha; intro a ha
                refine wpList_nil ?_
                refine then_normal ?_
                refine wp_region_lit ?_
                refine st_val (.pointer (some ⟨g5, 2, none⟩)) ha (by kernel_rfl) (by kernel_rfl) ?_
                clear ha; intro a ha
                refine st_val (.slice A3 (min d.n 2000) c4) ha (by kernel_rfl) (run_load1 (of_ := 2) (s.blkIs 4 rfl) rfl (by kernel_rfl) Try.isAgg27 rfl) ?_
                clear ha; intro a ha
                replace s := s.at_ (j := 5) rfl
                replace s : St W (Own 5 1 A3 (min d.n 2000) (min d.n 2000) (u8s (d.b.take 2000)) :: RBag g2 (bput l ⟨d.f, d.t, d.b.take 2000⟩) :: Bag g1 (bput l ⟨d.f, d.t, d.b.take 2000⟩) :: .blk g7 [.int .i64 0, .int .i64 0, .slice none 0 0] 29 :: .blk g6 [.int .i64 0, .int .i64 0, .slice none 0 0] 29 :: .blk g5 [.int .i64 d.f, .int .i64 d.t, .slice A3 (min d.n 2000) c4] 29 :: L) w := s
                refine st_call ha (by kernel_rfl) (by kernel_rfl) (spoil_any W _ w A3 (min d.n 2000) (min d.n 2000) c4 (d.b.take 2000) (by omega) s) ?_
                rintro _ w ⟨rfl, s⟩
                replace s : St W (RBag g2 (bput l ⟨d.f, d.t, d.b.take 2000⟩) :: Bag g1 (bput l ⟨d.f, d.t, d.b.take 2000⟩) :: .blk g7 [.int .i64 0, .int .i64 0, .slice none 0 0] 29 :: .blk g6 [.int .i64 0, .int .i64 0, .slice none 0 0] 29 :: .blk g5 [.int .i64 d.f, .int .i64 d.t, .slice A3 (min d.n 2000) c4] 29 :: L) w := s
                refine ⟨_, rfl, ?_⟩; clear ha; intro a ha
                refine wpList_nil ?_
                refine block_normal ?_
                refine then_normal ?_
                refine wp_region_lit ?_
                refine st_val (.int .i64 ((k : Nat) : Int)) ha (by kernel_rfl) (by kernel_rfl) ?_
                clear ha; intro a ha
                refine st_val (.int .i64 ((k + 1 : Nat) : Int)) ha (by kernel_rfl) (run_arith (((k : Nat) : Int) + (1 : Int)) ((k + 1 : Nat) : Int) rfl (by kernel_rfl) (by kernel_rfl) (.inl ⟨rfl, rfl⟩) (by rw [wrap64_in (by omega)]; try omega) _) ?_
                clear ha; intro a ha
                refine st_val (.int .i64 ((k + 1 : Nat) : Int)) ha (by kernel_rfl) (by kernel_rfl) ?_
                clear ha; intro a ha
                refine wpList_nil ?_
                refine then_normal ?_
                replace s := s.at_ (j := 1) rfl
                replace s : St W (Bag g1 (bput l ⟨d.f, d.t, d.b.take 2000⟩) :: RBag g2 (bput l ⟨d.f, d.t, d.b.take 2000⟩) :: .blk g7 [.int .i64 0, .int .i64 0, .slice none 0 0] 29 :: .blk g6 [.int .i64 0, .int .i64 0, .slice none 0 0] 29 :: .blk g5 [.int .i64 d.f, .int .i64 d.t, .slice A3 (min d.n 2000) c4] 29 :: L) w := s
                replace s : St W (Bag g1 (bput l ⟨d.f, d.t, d.b.take 2000⟩) :: RBag g2 (bput l ⟨d.f, d.t, d.b.take 2000⟩) :: L) w := St.mid (A := [Bag g1 (bput l ⟨d.f, d.t, d.b.take 2000⟩), RBag g2 (bput l ⟨d.f, d.t, d.b.take 2000⟩)]) (B := [.blk g7 [.int .i64 0, .int .i64 0, .slice none 0 0] 29, .blk g6 [.int .i64 0, .int .i64 0, .slice none 0 0] 29, .blk g5 [.int .i64 d.f, .int .i64 d.t, .slice A3 (min d.n 2000) c4] 29]) s
                exact ⟨(k + 1, bput l ⟨d.f, d.t, d.b.take 2000⟩), (show 150 - (k + 1) < 150 - k by omega), (Has.cons ha (by kernel_rfl) (by kernel_rfl) (Has.cons ha (by kernel_rfl) (by kernel_rfl) (Has.cons ha (by kernel_rfl) (by kernel_rfl) (Has.cons ha (by kernel_rfl) (by kernel_rfl) (Has.nil ha))))), s, (show k + 1 ≤ 150 by omega), ok.put _⟩
      · rw [hb] at ha; replace hb : ¬ (((k : Nat) : Int) < (150 : Int)) := of_decide_eq_false hb
        refine wp_exit ?_
        refine then_exit ?_
        refine then_exit ?_
        refine block_hit ?_
        refine then_normal ?_
        refine wp_seq ?_
        refine wp_seq ?_
        refine wp_region_lit ?_
        refine st_val (.int .i64 0) ha (by kernel_rfl) (by kernel_rfl) ?_
        clear ha; intro a ha
        refine wpList_nil ?_
        refine then_normal ?_
        refine wp_block ?_
        refine wp_loopG (G := Nat) (fun m a w => Has a 174 [(3, .pointer (some ⟨g1, 0, none⟩)), (4, .pointer (some ⟨g2, 0, none⟩)), (12, .int .i64 ((m : Nat) : Int))] ∧ St W (Bag g1 l :: RBag g2 l :: L) w ∧ (m ≤ 300)) (fun m => 300 - m) 0 ?_ ?_
        · exact ⟨(Has.cons ha (by kernel_rfl) (by kernel_rfl) (Has.cons ha (by kernel_rfl) (by kernel_rfl) (Has.cons ha (by kernel_rfl) (by kernel_rfl) (Has.nil ha)))), s, Nat.zero_le _⟩
        · clear ha s; rintro m a w ⟨ha, s, hp⟩
          refine wp_seq ?_
          refine wp_seq ?_
          refine wp_region_lit ?_
          refine st_val (.int .i64 ((m : Nat) : Int)) ha (by kernel_rfl) (by kernel_rfl) ?_
          clear ha; intro a ha
          refine st_val (.pointer (some ⟨g2, 0, none⟩)) ha (by kernel_rfl) (by kernel_rfl) ?_
          clear ha; intro a ha
          replace s := s.at_ (j := 1) rfl
          replace s : St W (RBag g2 l :: Bag g1 l :: L) w := s
          refine st_call ha (by kernel_rfl) (by kernel_rfl) (rlen_to W _ w g2 l l.length rfl s) ?_
          rintro _ w ⟨rfl, s⟩
          replace s : St W (RBag g2 l :: Bag g1 l :: L) w := s
          refine ⟨_, rfl, ?_⟩; clear ha; intro a ha
          refine st_val (.bool (decide (((m : Nat) : Int) < ((l.length : Nat) : Int)))) ha (by kernel_rfl) (by kernel_rfl) ?_
          clear ha; intro a ha
          refine st_val (.bool (decide (((m : Nat) : Int) < ((l.length : Nat) : Int)))) ha (by kernel_rfl) (by kernel_rfl) ?_
          clear ha; intro a ha
          rcases Bool.eq_false_or_eq_true (decide (((m : Nat) : Int) < ((l.length : Nat) : Int))) with hb | hb
          · rw [hb] at ha; replace hb : (((m : Nat) : Int) < ((l.length : Nat) : Int)) := of_decide_eq_true hb
            refine st_val (.int .i64 ((m : Nat) : Int)) ha (by kernel_rfl) (by kernel_rfl) ?_
            clear ha; intro a ha
            refine st_val (.bool (decide (((m : Nat) : Int) < (300 : Int)))) ha (by kernel_rfl) (by kernel_rfl) ?_
            clear ha; intro a ha
            refine st_val (.bool (decide (((m : Nat) : Int) < (300 : Int)))) ha (by kernel_rfl) (by kernel_rfl) ?_
            clear ha; intro a ha
            refine wpList_nil ?_
            refine then_normal ?_
            refine wp_part (decide (((m : Nat) : Int) < (300 : Int))) ha rfl (by kernel_rfl) (fun hb => ?_) (fun hb => ?_)
            · rw [hb] at ha; replace hb : (((m : Nat) : Int) < (300 : Int)) := of_decide_eq_true hb
              refine wp_skip ?_
              refine then_normal ?_
              refine wp_seq ?_
              refine wp_block ?_
              refine wp_seq ?_
              refine wp_region_lit ?_
              refine st_val (.pointer (some ⟨g1, 0, none⟩)) ha (by kernel_rfl) (by kernel_rfl) ?_
              clear ha; intro a ha
              refine st_val (.int .i64 ((m : Nat) : Int)) ha (by kernel_rfl) (by kernel_rfl) ?_
              clear ha; intro a ha
              replace s := s.at_ (j := 1) rfl
              replace s : St W (Bag g1 l :: RBag g2 l :: L) w := s
              refine st_call ha (by kernel_rfl) (by kernel_rfl) (look_all W _ w g1 l ((m : Nat) : Int) ok s) ?_
              rintro _ w ⟨A20, c21, rfl, s⟩
              replace s : St W (Own 5 1 A20 ((lookR l ((m : Nat) : Int)).1.b.length) c21 (u8s (lookR l ((m : Nat) : Int)).1.b) :: Bag g1 l :: RBag g2 l :: L) w := s
              refine ⟨_, rfl, ?_⟩; clear ha; intro a ha
              refine st_val (.tuple #[.agg #[.int .i64 ((lookR l ((m : Nat) : Int)).1.f), .int .i64 ((lookR l ((m : Nat) : Int)).1.t), .slice A20 ((lookR l ((m : Nat) : Int)).1.b.length) c21], .bool ((lookR l ((m : Nat) : Int)).2)]) ha (by kernel_rfl) (by kernel_rfl) ?_
              clear ha; intro a ha
              refine st_val (.agg #[.int .i64 ((lookR l ((m : Nat) : Int)).1.f), .int .i64 ((lookR l ((m : Nat) : Int)).1.t), .slice A20 ((lookR l ((m : Nat) : Int)).1.b.length) c21]) ha (by kernel_rfl) (by kernel_rfl) ?_
              clear ha; intro a ha
              refine st_val (.bool true) ha (by kernel_rfl) (run_known (show ((lookR l ((m : Nat) : Int)).2) = true from lookR_in (by omega)) (by kernel_rfl)) ?_
              clear ha; intro a ha
              refine st_ex ha (by kernel_rfl) (ex_alloc [.int .i64 0, .int .i64 0, .slice none 0 0] s rfl (Try.zeroValue29 _) (by kernel_rfl)) ?_
              clear ha; rintro _ w a ⟨g22, rfl, s⟩ ha
              replace s : St W (.blk g22 [.int .i64 0, .int .i64 0, .slice none 0 0] 29 :: Own 5 1 A20 ((lookR l ((m : Nat) : Int)).1.b.length) c21 (u8s (lookR l ((m : Nat) : Int)).1.b) :: Bag g1 l :: RBag g2 l :: L) w := s
              refine st_exd ha (by kernel_rfl) (ex_store (of_ := 0) 0 [.int .i64 ((lookR l ((m : Nat) : Int)).1.f), .int .i64 ((lookR l ((m : Nat) : Int)).1.t), .slice A20 ((lookR l ((m : Nat) : Int)).1.b.length) c21] s rfl rfl (by kernel_rfl) (by kernel_rfl) (Try.sizeOf29 _) rfl (by simp [Value.oneCell']) (Nat.le_of_ble_eq_true rfl)) ?_
              clear ha; rintro w a s ha
              replace s : St W (.blk g22 [.int .i64 ((lookR l ((m : Nat) : Int)).1.f), .int .i64 ((lookR l ((m : Nat) : Int)).1.t), .slice A20 ((lookR l ((m : Nat) : Int)).1.b.length) c21] 29 :: Own 5 1 A20 ((lookR l ((m : Nat) : Int)).1.b.length) c21 (u8s (lookR l ((m : Nat) : Int)).1.b) :: Bag g1 l :: RBag g2 l :: L) w := s
              refine st_val (.bool true) ha (by kernel_rfl) (by kernel_rfl) ?_
              clear ha; intro a ha
              refine wpList_nil ?_
              refine then_normal ?_
              refine wp_seq ?_
              refine wp_region_lit ?_
              refine st_val (.pointer (some ⟨g2, 0, none⟩)) ha (by kernel_rfl) (by kernel_rfl) ?_
              clear ha; intro a ha
              refine st_val (.int .i64 ((m : Nat) : Int)) ha (by kernel_rfl) (by kernel_rfl) ?_
              clear ha; intro a ha
              replace s := s.at_ (j := 3) rfl
              replace s : St W (RBag g2 l :: .blk g22 [.int .i64 ((lookR l ((m : Nat) : Int)).1.f), .int .i64 ((lookR l ((m : Nat) : Int)).1.t), .slice A20 ((lookR l ((m : Nat) : Int)).1.b.length) c21] 29 :: Own 5 1 A20 ((lookR l ((m : Nat) : Int)).1.b.length) c21 (u8s (lookR l ((m : Nat) : Int)).1.b) :: Bag g1 l :: L) w := s
              refine st_call ha (by kernel_rfl) (by kernel_rfl) (rlook_all W _ w g2 l ((m : Nat) : Int) ok s) ?_
              rintro _ w ⟨A23, c24, rfl, s⟩
              replace s : St W (Own 5 1 A23 ((lookR l ((m : Nat) : Int)).1.b.length) c24 (u8s (lookR l ((m : Nat) : Int)).1.b) :: RBag g2 l :: .blk g22 [.int .i64 ((lookR l ((m : Nat) : Int)).1.f), .int .i64 ((lookR l ((m : Nat) : Int)).1.t), .slice A20 ((lookR l ((m : Nat) : Int)).1.b.length) c21] 29 :: Own 5 1 A20 ((lookR l ((m : Nat) : Int)).1.b.length) c21 (u8s (lookR l ((m : Nat) : Int)).1.b) :: Bag g1 l :: L) w := s
              refine ⟨_, rfl, ?_⟩; clear ha; intro a ha
              refine st_val (.tuple #[.agg #[.int .i64 ((lookR l ((m : Nat) : Int)).1.f), .int .i64 ((lookR l ((m : Nat) : Int)).1.t), .slice A23 ((lookR l ((m : Nat) : Int)).1.b.length) c24], .bool ((lookR l ((m : Nat) : Int)).2)]) ha (by kernel_rfl) (by kernel_rfl) ?_
              clear ha; intro a ha
              refine st_val (.agg #[.int .i64 ((lookR l ((m : Nat) : Int)).1.f), .int .i64 ((lookR l ((m : Nat) : Int)).1.t), .slice A23 ((lookR l ((m : Nat) : Int)).1.b.length) c24]) ha (by kernel_rfl) (by kernel_rfl) ?_
              clear ha; intro a ha
              refine st_val (.bool true) ha (by kernel_rfl) (run_known (show ((lookR l ((m : Nat) : Int)).2) = true from lookR_in (by omega)) (by kernel_rfl)) ?_
              clear ha; intro a ha
              refine st_ex ha (by kernel_rfl) (ex_alloc [.int .i64 0, .int .i64 0, .slice none 0 0] s rfl (Try.zeroValue29 _) (by kernel_rfl)) ?_
              clear ha; rintro _ w a ⟨g25, rfl, s⟩ ha
              replace s : St W (.blk g25 [.int .i64 0, .int .i64 0, .slice none 0 0] 29 :: Own 5 1 A23 ((lookR l ((m : Nat) : Int)).1.b.length) c24 (u8s (lookR l ((m : Nat) : Int)).1.b) :: RBag g2 l :: .blk g22 [.int .i64 ((lookR l ((m : Nat) : Int)).1.f), .int .i64 ((lookR l ((m : Nat) : Int)).1.t), .slice A20 ((lookR l ((m : Nat) : Int)).1.b.length) c21] 29 :: Own 5 1 A20 ((lookR l ((m : Nat) : Int)).1.b.length) c21 (u8s (lookR l ((m : Nat) : Int)).1.b) :: Bag g1 l :: L) w := s
              refine st_exd ha (by kernel_rfl) (ex_store (of_ := 0) 0 [.int .i64 ((lookR l ((m : Nat) : Int)).1.f), .int .i64 ((lookR l ((m : Nat) : Int)).1.t), .slice A23 ((lookR l ((m : Nat) : Int)).1.b.length) c24] s rfl rfl (by kernel_rfl) (by kernel_rfl) (Try.sizeOf29 _) rfl (by simp [Value.oneCell']) (Nat.le_of_ble_eq_true rfl)) ?_
              clear ha; rintro w a s ha
              replace s : St W (.blk g25 [.int .i64 ((lookR l ((m : Nat) : Int)).1.f), .int .i64 ((lookR l ((m : Nat) : Int)).1.t), .slice A23 ((lookR l ((m : Nat) : Int)).1.b.length) c24] 29 :: Own 5 1 A23 ((lookR l ((m : Nat) : Int)).1.b.length) c24 (u8s (lookR l ((m : Nat) : Int)).1.b) :: RBag g2 l :: .blk g22 [.int .i64 ((lookR l ((m : Nat) : Int)).1.f), .int .i64 ((lookR l ((m : Nat) : Int)).1.t), .slice A20 ((lookR l ((m : Nat) : Int)).1.b.length) c21] 29 :: Own 5 1 A20 ((lookR l ((m : Nat) : Int)).1.b.length) c21 (u8s (lookR l ((m : Nat) : Int)).1.b) :: Bag g1 l :: L) w := s
              refine st_val (.bool true) ha (by kernel_rfl) (by kernel_rfl) ?_
              clear ha; intro a ha
              refine wpList_nil ?_
              refine then_normal ?_
              refine wp_seq ?_
              refine wp_region_lit ?_
              refine st_val (.bool true) ha (by kernel_rfl) (by kernel_rfl) ?_
              clear ha; intro a ha
              refine st_val (.bool false) ha (by kernel_rfl) (by kernel_rfl) ?_
              clear ha; intro a ha
              refine st_val (.bool false) ha (by kernel_rfl) (by kernel_rfl) ?_
              clear ha; intro a ha
              refine st_val (.agg #[.int .i64 ((lookR l ((m : Nat) : Int)).1.f), .int .i64 ((lookR l ((m : Nat) : Int)).1.t), .slice A20 ((lookR l ((m : Nat) : Int)).1.b.length) c21]) ha (by kernel_rfl) (run_loadN (of_ := 0) [.int .i64 ((lookR l ((m : Nat) : Int)).1.f), .int .i64 ((lookR l ((m : Nat) : Int)).1.t), .slice A20 ((lookR l ((m : Nat) : Int)).1.b.length) c21] (s.blkIs 3 rfl) rfl (by kernel_rfl) Try.isAgg29 Try.sizeOf29 rfl (Nat.le_of_ble_eq_true rfl)) ?_
              clear ha; intro a ha
              refine st_val (.agg #[.int .i64 ((lookR l ((m : Nat) : Int)).1.f), .int .i64 ((lookR l ((m : Nat) : Int)).1.t), .slice A23 ((lookR l ((m : Nat) : Int)).1.b.length) c24]) ha (by kernel_rfl) (run_loadN (of_ := 0) [.int .i64 ((lookR l ((m : Nat) : Int)).1.f), .int .i64 ((lookR l ((m : Nat) : Int)).1.t), .slice A23 ((lookR l ((m : Nat) : Int)).1.b.length) c24] (s.blkIs 0 rfl) rfl (by kernel_rfl) Try.isAgg29 Try.sizeOf29 rfl (Nat.le_of_ble_eq_true rfl)) ?_
              clear ha; intro a ha
              refine st_call ha (by kernel_rfl) (by kernel_rfl) (same_to W _ w ((lookR l ((m : Nat) : Int)).1.f) ((lookR l ((m : Nat) : Int)).1.t) ((lookR l ((m : Nat) : Int)).1.f) ((lookR l ((m : Nat) : Int)).1.t) A20 A23 c21 c24 ((lookR l ((m : Nat) : Int)).1.b.length) ((lookR l ((m : Nat) : Int)).1.b.length) ((lookR l ((m : Nat) : Int)).1.b) ((lookR l ((m : Nat) : Int)).1.b) true rfl rfl (Knows.own (j := 4) rfl) (Knows.own (j := 1) rfl) (lookR_small ok _) (decide_eq_true ⟨rfl, rfl, rfl⟩) s) ?_
              rintro _ w ⟨rfl, s⟩
              replace s : St W (.blk g25 [.int .i64 ((lookR l ((m : Nat) : Int)).1.f), .int .i64 ((lookR l ((m : Nat) : Int)).1.t), .slice A23 ((lookR l ((m : Nat) : Int)).1.b.length) c24] 29 :: Own 5 1 A23 ((lookR l ((m : Nat) : Int)).1.b.length) c24 (u8s (lookR l ((m : Nat) : Int)).1.b) :: RBag g2 l :: .blk g22 [.int .i64 ((lookR l ((m : Nat) : Int)).1.f), .int .i64 ((lookR l ((m : Nat) : Int)).1.t), .slice A20 ((lookR l ((m : Nat) : Int)).1.b.length) c21] 29 :: Own 5 1 A20 ((lookR l ((m : Nat) : Int)).1.b.length) c21 (u8s (lookR l ((m : Nat) : Int)).1.b) :: Bag g1 l :: L) w := s
              refine ⟨_, rfl, ?_⟩; clear ha; intro a ha
              refine st_val (.bool false) ha (by kernel_rfl) (by kernel_rfl) ?_
              clear ha; intro a ha
              refine st_val (.bool false) ha (by kernel_rfl) (by kernel_rfl) ?_
              clear ha; intro a ha
              refine wpList_nil ?_
              refine then_normal ?_
              refine wp_false ha rfl (by kernel_rfl) ?_
              refine wp_skip ?_
              refine block_normal ?_
              refine then_normal ?_
              refine wp_region_lit ?_
              refine st_val (.int .i64 ((m : Nat) : Int)) ha (by kernel_rfl) (by kernel_rfl) ?_
              clear ha; intro a ha
              refine st_val (.int .i64 ((m + 1 : Nat) : Int)) ha (by kernel_rfl) (run_arith (((m : Nat) : Int) + (1 : Int)) ((m + 1 : Nat) : Int) rfl (by kernel_rfl) (by kernel_rfl) (.inl ⟨rfl, rfl⟩) (by rw [wrap64_in (by omega)]; try omega) _) ?_
              clear ha; intro a ha
              refine st_val (.int .i64 ((m + 1 : Nat) : Int)) ha (by kernel_rfl) (by kernel_rfl) ?_
              clear ha; intro a ha
              refine wpList_nil ?_
              refine then_normal ?_
              replace s := s.at_ (j := 2) rfl
              replace s : St W (RBag g2 l :: .blk g25 [.int .i64 ((lookR l ((m : Nat) : Int)).1.f), .int .i64 ((lookR l ((m : Nat) : Int)).1.t), .slice A23 ((lookR l ((m : Nat) : Int)).1.b.length) c24] 29 :: Own 5 1 A23 ((lookR l ((m : Nat) : Int)).1.b.length) c24 (u8s (lookR l ((m : Nat) : Int)).1.b) :: .blk g22 [.int .i64 ((lookR l ((m : Nat) : Int)).1.f), .int .i64 ((lookR l ((m : Nat) : Int)).1.t), .slice A20 ((lookR l ((m : Nat) : Int)).1.b.length) c21] 29 :: Own 5 1 A20 ((lookR l ((m : Nat) : Int)).1.b.length) c21 (u8s (lookR l ((m : Nat) : Int)).1.b) :: Bag g1 l :: L) w := s
              replace s := s.at_ (j := 5) rfl
              replace s : St W (Bag g1 l :: RBag g2 l :: .blk g25 [.int .i64 ((lookR l ((m : Nat) : Int)).1.f), .int .i64 ((lookR l ((m : Nat) : Int)).1.t), .slice A23 ((lookR l ((m : Nat) : Int)).1.b.length) c24] 29 :: Own 5 1 A23 ((lookR l ((m : Nat) : Int)).1.b.length) c24 (u8s (lookR l ((m : Nat) : Int)).1.b) :: .blk g22 [.int .i64 ((lookR l ((m : Nat) : Int)).1.f), .int .i64 ((lookR l ((m : Nat) : Int)).1.t), .slice A20 ((lookR l ((m : Nat) : Int)).1.b.length) c21] 29 :: Own 5 1 A20 ((lookR l ((m : Nat) : Int)).1.b.length) c21 (u8s (lookR l ((m : Nat) : Int)).1.b) :: L) w := s
              replace s : St W (Bag g1 l :: RBag g2 l :: L) w := St.mid (A := [Bag g1 l, RBag g2 l]) (B := [.blk g25 [.int .i64 ((lookR l ((m : Nat) : Int)).1.f), .int .i64 ((lookR l ((m : Nat) : Int)).1.t), .slice A23 ((lookR l ((m : Nat) : Int)).1.b.length) c24] 29, Own 5 1 A23 ((lookR l ((m : Nat) : Int)).1.b.length) c24 (u8s (lookR l ((m : Nat) : Int)).1.b), .blk g22 [.int .i64 ((lookR l ((m : Nat) : Int)).1.f), .int .i64 ((lookR l ((m : Nat) : Int)).1.t), .slice A20 ((lookR l ((m : Nat) : Int)).1.b.length) c21] 29, Own 5 1 A20 ((lookR l ((m : Nat) : Int)).1.b.length) c21 (u8s (lookR l ((m : Nat) : Int)).1.b)]) s
              exact ⟨m + 1, by omega, (Has.cons ha (by kernel_rfl) (by kernel_rfl) (Has.cons ha (by kernel_rfl) (by kernel_rfl) (Has.cons ha (by kernel_rfl) (by kernel_rfl) (Has.nil ha)))), s, by omega⟩
            · rw [hb] at ha; replace hb : ¬ (((m : Nat) : Int) < (300 : Int)) := of_decide_eq_false hb
              refine wp_exit ?_
              refine then_exit ?_
              refine then_exit ?_
              refine block_hit ?_
              refine then_normal ?_
              refine wp_seq ?_
              refine wp_region_lit ?_
              refine st_call ha (by kernel_rfl) (by kernel_rfl) (works_true W _ w s) ?_
              rintro _ w ⟨rfl, s⟩
              replace s : St W (RBag g2 l :: Bag g1 l :: L) w := s
              refine ⟨_, rfl, ?_⟩; clear ha; intro a ha
              refine st_val (.bool true) ha (by kernel_rfl) (by kernel_rfl) ?_
              clear ha; intro a ha
              refine wpList_nil ?_
              refine then_normal ?_
              refine wp_ret ?_
              refine ret_with (v := .bool true) ha (results_1 rfl ha (res_tmp (by kernel_rfl) (by kernel_rfl))) ?_
              replace s : St W (L) w := St.mid (A := []) (B := [RBag g2 l, Bag g1 l]) s
              exact ⟨rfl, s⟩
          · rw [hb] at ha; replace hb : ¬ (((m : Nat) : Int) < ((l.length : Nat) : Int)) := of_decide_eq_false hb
            refine st_pass ha (by kernel_rfl) ?_
            clear ha; intro a ha
            refine st_pass ha (by kernel_rfl) ?_
            clear ha; intro a ha
            refine st_val (.bool false) ha (by kernel_rfl) (by kernel_rfl) ?_
            clear ha; intro a ha
            refine wpList_nil ?_
            refine then_normal ?_
            refine wp_false ha rfl (by kernel_rfl) ?_
            refine wp_exit ?_
            refine then_exit ?_
            refine then_exit ?_
            refine block_hit ?_
            refine then_normal ?_
            refine wp_seq ?_
            refine wp_region_lit ?_
            refine st_call ha (by kernel_rfl) (by kernel_rfl) (works_true W _ w s) ?_
            rintro _ w ⟨rfl, s⟩
            replace s : St W (RBag g2 l :: Bag g1 l :: L) w := s
            refine ⟨_, rfl, ?_⟩; clear ha; intro a ha
            refine st_val (.bool true) ha (by kernel_rfl) (by kernel_rfl) ?_
            clear ha; intro a ha
            refine wpList_nil ?_
            refine then_normal ?_
            refine wp_ret ?_
            refine ret_with (v := .bool true) ha (results_1 rfl ha (res_tmp (by kernel_rfl) (by kernel_rfl))) ?_
            replace s : St W (L) w := St.mid (A := []) (B := [RBag g2 l, Bag g1 l]) s
            exact ⟨rfl, s⟩
    · rw [hb] at ha; replace hb : ¬ (((k : Nat) : Int) < ((n : Nat) : Int)) := of_decide_eq_false hb
      have ok := hp.2
      refine st_pass ha (by kernel_rfl) ?_
      clear ha; intro a ha
      refine st_pass ha (by kernel_rfl) ?_
      clear ha; intro a ha
      refine st_val (.bool false) ha (by kernel_rfl) (by kernel_rfl) ?_
      clear ha; intro a ha
      refine wpList_nil ?_
      refine then_normal ?_
      refine wp_false ha rfl (by kernel_rfl) ?_
      refine wp_exit ?_
      refine then_exit ?_
      refine then_exit ?_
      refine block_hit ?_
      refine then_normal ?_
      refine wp_seq ?_
      refine wp_seq ?_
      refine wp_region_lit ?_
      refine st_val (.int .i64 0) ha (by kernel_rfl) (by kernel_rfl) ?_
      clear ha; intro a ha
      refine wpList_nil ?_
      refine then_normal ?_
      refine wp_block ?_
      refine wp_loopG (G := Nat) (fun m a w => Has a 174 [(3, .pointer (some ⟨g1, 0, none⟩)), (4, .pointer (some ⟨g2, 0, none⟩)), (12, .int .i64 ((m : Nat) : Int))] ∧ St W (Bag g1 l :: RBag g2 l :: L) w ∧ (m ≤ 300)) (fun m => 300 - m) 0 ?_ ?_
      · exact ⟨(Has.cons ha (by kernel_rfl) (by kernel_rfl) (Has.cons ha (by kernel_rfl) (by kernel_rfl) (Has.cons ha (by kernel_rfl) (by kernel_rfl) (Has.nil ha)))), s, Nat.zero_le _⟩
      · clear ha s; rintro m a w ⟨ha, s, hp⟩
        refine wp_seq ?_
        refine wp_seq ?_
        refine wp_region_lit ?_
        refine st_val (.int .i64 ((m : Nat) : Int)) ha (by kernel_rfl) (by kernel_rfl) ?_
        clear ha; intro a ha
        refine st_val (.pointer (some ⟨g2, 0, none⟩)) ha (by kernel_rfl) (by kernel_rfl) ?_
        clear ha; intro a ha
        replace s := s.at_ (j := 1) rfl
        replace s : St W (RBag g2 l :: Bag g1 l :: L) w := s
        refine st_call ha (by kernel_rfl) (by kernel_rfl) (rlen_to W _ w g2 l l.length rfl s) ?_
        rintro _ w ⟨rfl, s⟩
        replace s : St W (RBag g2 l :: Bag g1 l :: L) w := s
        refine ⟨_, rfl, ?_⟩; clear ha; intro a ha
        refine st_val (.bool (decide (((m : Nat) : Int) < ((l.length : Nat) : Int)))) ha (by kernel_rfl) (by kernel_rfl) ?_
        clear ha; intro a ha
        refine st_val (.bool (decide (((m : Nat) : Int) < ((l.length : Nat) : Int)))) ha (by kernel_rfl) (by kernel_rfl) ?_
        clear ha; intro a ha
        rcases Bool.eq_false_or_eq_true (decide (((m : Nat) : Int) < ((l.length : Nat) : Int))) with hb | hb
        · rw [hb] at ha; replace hb : (((m : Nat) : Int) < ((l.length : Nat) : Int)) := of_decide_eq_true hb
          refine st_val (.int .i64 ((m : Nat) : Int)) ha (by kernel_rfl) (by kernel_rfl) ?_
          clear ha; intro a ha
          refine st_val (.bool (decide (((m : Nat) : Int) < (300 : Int)))) ha (by kernel_rfl) (by kernel_rfl) ?_
          clear ha; intro a ha
          refine st_val (.bool (decide (((m : Nat) : Int) < (300 : Int)))) ha (by kernel_rfl) (by kernel_rfl) ?_
          clear ha; intro a ha
          refine wpList_nil ?_
          refine then_normal ?_
          refine wp_part (decide (((m : Nat) : Int) < (300 : Int))) ha rfl (by kernel_rfl) (fun hb => ?_) (fun hb => ?_)
          · rw [hb] at ha; replace hb : (((m : Nat) : Int) < (300 : Int)) := of_decide_eq_true hb
            refine wp_skip ?_
            refine then_normal ?_
            refine wp_seq ?_
            refine wp_block ?_
            refine wp_seq ?_
            refine wp_region_lit ?_
            refine st_val (.pointer (some ⟨g1, 0, none⟩)) ha (by kernel_rfl) (by kernel_rfl) ?_
            clear ha; intro a ha
            refine st_val (.int .i64 ((m : Nat) : Int)) ha (by kernel_rfl) (by kernel_rfl) ?_
            clear ha; intro a ha
            replace s := s.at_ (j := 1) rfl
            replace s : St W (Bag g1 l :: RBag g2 l :: L) w := s
            refine st_call ha (by kernel_rfl) (by kernel_rfl) (look_all W _ w g1 l ((m : Nat) : Int) ok s) ?_
            rintro _ w ⟨A26, c27, rfl, s⟩
            replace s : St W (Own 5 1 A26 ((lookR l ((m : Nat) : Int)).1.b.length) c27 (u8s (lookR l ((m : Nat) : Int)).1.b) :: Bag g1 l :: RBag g2 l :: L) w := s
            refine ⟨_, rfl, ?_⟩; clear ha; intro a ha
            refine st_val (.tuple #[.agg #[.int .i64 ((lookR l ((m : Nat) : Int)).1.f), .int .i64 ((lookR l ((m : Nat) : Int)).1.t), .slice A26 ((lookR l ((m : Nat) : Int)).1.b.length) c27], .bool ((lookR l ((m : Nat) : Int)).2)]) ha (by kernel_rfl) (by kernel_rfl) ?_
            clear ha; intro a ha
            refine st_val (.agg #[.int .i64 ((lookR l ((m : Nat) : Int)).1.f), .int .i64 ((lookR l ((m : Nat) : Int)).1.t), .slice A26 ((lookR l ((m : Nat) : Int)).1.b.length) c27]) ha (by kernel_rfl) (by kernel_rfl) ?_
            clear ha; intro a ha
            refine st_val (.bool true) ha (by kernel_rfl) (run_known (show ((lookR l ((m : Nat) : Int)).2) = true from lookR_in (by omega)) (by kernel_rfl)) ?_
            clear ha; intro a ha
            refine st_ex ha (by kernel_rfl) (ex_alloc [.int .i64 0, .int .i64 0, .slice none 0 0] s rfl (Try.zeroValue29 _) (by kernel_rfl)) ?_
            clear ha; rintro _ w a ⟨g28, rfl, s⟩ ha
            replace s : St W (.blk g28 [.int .i64 0, .int .i64 0, .slice none 0 0] 29 :: Own 5 1 A26 ((lookR l ((m : Nat) : Int)).1.b.length) c27 (u8s (lookR l ((m : Nat) : Int)).1.b) :: Bag g1 l :: RBag g2 l :: L) w := s
            refine st_exd ha (by kernel_rfl) (ex_store (of_ := 0) 0 [.int .i64 ((lookR l ((m : Nat) : Int)).1.f), .int .i64 ((lookR l ((m : Nat) : Int)).1.t), .slice A26 ((lookR l ((m : Nat) : Int)).1.b.length) c27] s rfl rfl (by kernel_rfl) (by kernel_rfl) (Try.sizeOf29 _) rfl (by simp [Value.oneCell']) (Nat.le_of_ble_eq_true rfl)) ?_
            clear ha; rintro w a s ha
            replace s : St W (.blk g28 [.int .i64 ((lookR l ((m : Nat) : Int)).1.f), .int .i64 ((lookR l ((m : Nat) : Int)).1.t), .slice A26 ((lookR l ((m : Nat) : Int)).1.b.length) c27] 29 :: Own 5 1 A26 ((lookR l ((m : Nat) : Int)).1.b.length) c27 (u8s (lookR l ((m : Nat) : Int)).1.b) :: Bag g1 l :: RBag g2 l :: L) w := s
            refine st_val (.bool true) ha (by kernel_rfl) (by kernel_rfl) ?_
            clear ha; intro a ha
            refine wpList_nil ?_
            refine then_normal ?_
            refine wp_seq ?_
            refine wp_region_lit ?_
            refine st_val (.pointer (some ⟨g2, 0, none⟩)) ha (by kernel_rfl) (by kernel_rfl) ?_
            clear ha; intro a ha
            refine st_val (.int .i64 ((m : Nat) : Int)) ha (by kernel_rfl) (by kernel_rfl) ?_
            clear ha; intro a ha
            replace s := s.at_ (j := 3) rfl
            replace s : St W (RBag g2 l :: .blk g28 [.int .i64 ((lookR l ((m : Nat) : Int)).1.f), .int .i64 ((lookR l ((m : Nat) : Int)).1.t), .slice A26 ((lookR l ((m : Nat) : Int)).1.b.length) c27] 29 :: Own 5 1 A26 ((lookR l ((m : Nat) : Int)).1.b.length) c27 (u8s (lookR l ((m : Nat) : Int)).1.b) :: Bag g1 l :: L) w := s
            refine st_call ha (by kernel_rfl) (by kernel_rfl) (rlook_all W _ w g2 l ((m : Nat) : Int) ok s) ?_
            rintro _ w ⟨A29, c30, rfl, s⟩
            replace s : St W (Own 5 1 A29 ((lookR l ((m : Nat) : Int)).1.b.length) c30 (u8s (lookR l ((m : Nat) : Int)).1.b) :: RBag g2 l :: .blk g28 [.int .i64 ((lookR l ((m : Nat) : Int)).1.f), .int .i64 ((lookR l ((m : Nat) : Int)).1.t), .slice A26 ((lookR l ((m : Nat) : Int)).1.b.length) c27] 29 :: Own 5 1 A26 ((lookR l ((m : Nat) : Int)).1.b.length) c27 (u8s (lookR l ((m : Nat) : Int)).1.b) :: Bag g1 l :: L) w := s
            refine ⟨_, rfl, ?_⟩; clear ha; intro a ha
            refine st_val (.tuple #[.agg #[.int .i64 ((lookR l ((m : Nat) : Int)).1.f), .int .i64 ((lookR l ((m : Nat) : Int)).1.t), .slice A29 ((lookR l ((m : Nat) : Int)).1.b.length) c30], .bool ((lookR l ((m : Nat) : Int)).2)]) ha (by kernel_rfl) (by kernel_rfl) ?_
            clear ha; intro a ha
            refine st_val (.agg #[.int .i64 ((lookR l ((m : Nat) : Int)).1.f), .int .i64 ((lookR l ((m : Nat) : Int)).1.t), .slice A29 ((lookR l ((m : Nat) : Int)).1.b.length) c30]) ha (by kernel_rfl) (by kernel_rfl) ?_
            clear ha; intro a ha
            refine st_val (.bool true) ha (by kernel_rfl) (run_known (show ((lookR l ((m : Nat) : Int)).2) = true from lookR_in (by omega)) (by kernel_rfl)) ?_
            clear ha; intro a ha
            refine st_ex ha (by kernel_rfl) (ex_alloc [.int .i64 0, .int .i64 0, .slice none 0 0] s rfl (Try.zeroValue29 _) (by kernel_rfl)) ?_
            clear ha; rintro _ w a ⟨g31, rfl, s⟩ ha
            replace s : St W (.blk g31 [.int .i64 0, .int .i64 0, .slice none 0 0] 29 :: Own 5 1 A29 ((lookR l ((m : Nat) : Int)).1.b.length) c30 (u8s (lookR l ((m : Nat) : Int)).1.b) :: RBag g2 l :: .blk g28 [.int .i64 ((lookR l ((m : Nat) : Int)).1.f), .int .i64 ((lookR l ((m : Nat) : Int)).1.t), .slice A26 ((lookR l ((m : Nat) : Int)).1.b.length) c27] 29 :: Own 5 1 A26 ((lookR l ((m : Nat) : Int)).1.b.length) c27 (u8s (lookR l ((m : Nat) : Int)).1.b) :: Bag g1 l :: L) w := s
            refine st_exd ha (by kernel_rfl) (ex_store (of_ := 0) 0 [.int .i64 ((lookR l ((m : Nat) : Int)).1.f), .int .i64 ((lookR l ((m : Nat) : Int)).1.t), .slice A29 ((lookR l ((m : Nat) : Int)).1.b.length) c30] s rfl rfl (by kernel_rfl) (by kernel_rfl) (Try.sizeOf29 _) rfl (by simp [Value.oneCell']) (Nat.le_of_ble_eq_true rfl)) ?_
            clear ha; rintro w a s ha
            replace s : St W (.blk g31 [.int .i64 ((lookR l ((m : Nat) : Int)).1.f), .int .i64 ((lookR l ((m : Nat) : Int)).1.t), .slice A29 ((lookR l ((m : Nat) : Int)).1.b.length) c30] 29 :: Own 5 1 A29 ((lookR l ((m : Nat) : Int)).1.b.length) c30 (u8s (lookR l ((m : Nat) : Int)).1.b) :: RBag g2 l :: .blk g28 [.int .i64 ((lookR l ((m : Nat) : Int)).1.f), .int .i64 ((lookR l ((m : Nat) : Int)).1.t), .slice A26 ((lookR l ((m : Nat) : Int)).1.b.length) c27] 29 :: Own 5 1 A26 ((lookR l ((m : Nat) : Int)).1.b.length) c27 (u8s (lookR l ((m : Nat) : Int)).1.b) :: Bag g1 l :: L) w := s
            refine st_val (.bool true) ha (by kernel_rfl) (by kernel_rfl) ?_
            clear ha; intro a ha
            refine wpList_nil ?_
            refine then_normal ?_
            refine wp_seq ?_
            refine wp_region_lit ?_
            refine st_val (.bool true) ha (by kernel_rfl) (by kernel_rfl) ?_
            clear ha; intro a ha
            refine st_val (.bool false) ha (by kernel_rfl) (by kernel_rfl) ?_
            clear ha; intro a ha
            refine st_val (.bool false) ha (by kernel_rfl) (by kernel_rfl) ?_
            clear ha; intro a ha
            refine st_val (.agg #[.int .i64 ((lookR l ((m : Nat) : Int)).1.f), .int .i64 ((lookR l ((m : Nat) : Int)).1.t), .slice A26 ((lookR l ((m : Nat) : Int)).1.b.length) c27]) ha (by kernel_rfl) (run_loadN (of_ := 0) [.int .i64 ((lookR l ((m : Nat) : Int)).1.f), .int .i64 ((lookR l ((m : Nat) : Int)).1.t), .slice A26 ((lookR l ((m : Nat) : Int)).1.b.length) c27] (s.blkIs 3 rfl) rfl (by kernel_rfl) Try.isAgg29 Try.sizeOf29 rfl (Nat.le_of_ble_eq_true rfl)) ?_
            clear ha; intro a ha
            refine st_val (.agg #[.int .i64 ((lookR l ((m : Nat) : Int)).1.f), .int .i64 ((lookR l ((m : Nat) : Int)).1.t), .slice A29 ((lookR l ((m : Nat) : Int)).1.b.length) c30]) ha (by kernel_rfl) (run_loadN (of_ := 0) [.int .i64 ((lookR l ((m : Nat) : Int)).1.f), .int .i64 ((lookR l ((m : Nat) : Int)).1.t), .slice A29 ((lookR l ((m : Nat) : Int)).1.b.length) c30] (s.blkIs 0 rfl) rfl (by kernel_rfl) Try.isAgg29 Try.sizeOf29 rfl (Nat.le_of_ble_eq_true rfl)) ?_
            clear ha; intro a ha
            refine st_call ha (by kernel_rfl) (by kernel_rfl) (same_to W _ w ((lookR l ((m : Nat) : Int)).1.f) ((lookR l ((m : Nat) : Int)).1.t) ((lookR l ((m : Nat) : Int)).1.f) ((lookR l ((m : Nat) : Int)).1.t) A26 A29 c27 c30 ((lookR l ((m : Nat) : Int)).1.b.length) ((lookR l ((m : Nat) : Int)).1.b.length) ((lookR l ((m : Nat) : Int)).1.b) ((lookR l ((m : Nat) : Int)).1.b) true rfl rfl (Knows.own (j := 4) rfl) (Knows.own (j := 1) rfl) (lookR_small ok _) (decide_eq_true ⟨rfl, rfl, rfl⟩) s) ?_
            rintro _ w ⟨rfl, s⟩
            replace s : St W (.blk g31 [.int .i64 ((lookR l ((m : Nat) : Int)).1.f), .int .i64 ((lookR l ((m : Nat) : Int)).1.t), .slice A29 ((lookR l ((m : Nat) : Int)).1.b.length) c30] 29 :: Own 5 1 A29 ((lookR l ((m : Nat) : Int)).1.b.length) c30 (u8s (lookR l ((m : Nat) : Int)).1.b) :: RBag g2 l :: .blk g28 [.int .i64 ((lookR l ((m : Nat) : Int)).1.f), .int .i64 ((lookR l ((m : Nat) : Int)).1.t), .slice A26 ((lookR l ((m : Nat) : Int)).1.b.length) c27] 29 :: Own 5 1 A26 ((lookR l ((m : Nat) : Int)).1.b.length) c27 (u8s (lookR l ((m : Nat) : Int)).1.b) :: Bag g1 l :: L) w := s
            refine ⟨_, rfl, ?_⟩; clear ha; intro a ha
            refine st_val (.bool false) ha (by kernel_rfl) (by kernel_rfl) ?_
            clear ha; intro a ha
            refine st_val (.bool false) ha (by kernel_rfl) (by kernel_rfl) ?_
            clear ha; intro a ha
            refine wpList_nil ?_
            refine then_normal ?_
            refine wp_false ha rfl (by kernel_rfl) ?_
            refine wp_skip ?_
            refine block_normal ?_
            refine then_normal ?_
            refine wp_region_lit ?_
            refine st_val (.int .i64 ((m : Nat) : Int)) ha (by kernel_rfl) (by kernel_rfl) ?_
            clear ha; intro a ha
            refine st_val (.int .i64 ((m + 1 : Nat) : Int)) ha (by kernel_rfl) (run_arith (((m : Nat) : Int) + (1 : Int)) ((m + 1 : Nat) : Int) rfl (by kernel_rfl) (by kernel_rfl) (.inl ⟨rfl, rfl⟩) (by rw [wrap64_in (by omega)]; try omega) _) ?_
            clear ha; intro a ha
            refine st_val (.int .i64 ((m + 1 : Nat) : Int)) ha (by kernel_rfl) (by kernel_rfl) ?_
            clear ha; intro a ha
            refine wpList_nil ?_
            refine then_normal ?_
            replace s := s.at_ (j := 2) rfl
            replace s : St W (RBag g2 l :: .blk g31 [.int .i64 ((lookR l ((m : Nat) : Int)).1.f), .int .i64 ((lookR l ((m : Nat) : Int)).1.t), .slice A29 ((lookR l ((m : Nat) : Int)).1.b.length) c30] 29 :: Own 5 1 A29 ((lookR l ((m : Nat) : Int)).1.b.length) c30 (u8s (lookR l ((m : Nat) : Int)).1.b) :: .blk g28 [.int .i64 ((lookR l ((m : Nat) : Int)).1.f), .int .i64 ((lookR l ((m : Nat) : Int)).1.t), .slice A26 ((lookR l ((m : Nat) : Int)).1.b.length) c27] 29 :: Own 5 1 A26 ((lookR l ((m : Nat) : Int)).1.b.length) c27 (u8s (lookR l ((m : Nat) : Int)).1.b) :: Bag g1 l :: L) w := s
            replace s := s.at_ (j := 5) rfl
            replace s : St W (Bag g1 l :: RBag g2 l :: .blk g31 [.int .i64 ((lookR l ((m : Nat) : Int)).1.f), .int .i64 ((lookR l ((m : Nat) : Int)).1.t), .slice A29 ((lookR l ((m : Nat) : Int)).1.b.length) c30] 29 :: Own 5 1 A29 ((lookR l ((m : Nat) : Int)).1.b.length) c30 (u8s (lookR l ((m : Nat) : Int)).1.b) :: .blk g28 [.int .i64 ((lookR l ((m : Nat) : Int)).1.f), .int .i64 ((lookR l ((m : Nat) : Int)).1.t), .slice A26 ((lookR l ((m : Nat) : Int)).1.b.length) c27] 29 :: Own 5 1 A26 ((lookR l ((m : Nat) : Int)).1.b.length) c27 (u8s (lookR l ((m : Nat) : Int)).1.b) :: L) w := s
            replace s : St W (Bag g1 l :: RBag g2 l :: L) w := St.mid (A := [Bag g1 l, RBag g2 l]) (B := [.blk g31 [.int .i64 ((lookR l ((m : Nat) : Int)).1.f), .int .i64 ((lookR l ((m : Nat) : Int)).1.t), .slice A29 ((lookR l ((m : Nat) : Int)).1.b.length) c30] 29, Own 5 1 A29 ((lookR l ((m : Nat) : Int)).1.b.length) c30 (u8s (lookR l ((m : Nat) : Int)).1.b), .blk g28 [.int .i64 ((lookR l ((m : Nat) : Int)).1.f), .int .i64 ((lookR l ((m : Nat) : Int)).1.t), .slice A26 ((lookR l ((m : Nat) : Int)).1.b.length) c27] 29, Own 5 1 A26 ((lookR l ((m : Nat) : Int)).1.b.length) c27 (u8s (lookR l ((m : Nat) : Int)).1.b)]) s
            exact ⟨m + 1, by omega, (Has.cons ha (by kernel_rfl) (by kernel_rfl) (Has.cons ha (by kernel_rfl) (by kernel_rfl) (Has.cons ha (by kernel_rfl) (by kernel_rfl) (Has.nil ha)))), s, by omega⟩
          · rw [hb] at ha; replace hb : ¬ (((m : Nat) : Int) < (300 : Int)) := of_decide_eq_false hb
            refine wp_exit ?_
            refine then_exit ?_
            refine then_exit ?_
            refine block_hit ?_
            refine then_normal ?_
            refine wp_seq ?_
            refine wp_region_lit ?_
            refine st_call ha (by kernel_rfl) (by kernel_rfl) (works_true W _ w s) ?_
            rintro _ w ⟨rfl, s⟩
            replace s : St W (RBag g2 l :: Bag g1 l :: L) w := s
            refine ⟨_, rfl, ?_⟩; clear ha; intro a ha
            refine st_val (.bool true) ha (by kernel_rfl) (by kernel_rfl) ?_
            clear ha; intro a ha
            refine wpList_nil ?_
            refine then_normal ?_
            refine wp_ret ?_
            refine ret_with (v := .bool true) ha (results_1 rfl ha (res_tmp (by kernel_rfl) (by kernel_rfl))) ?_
            replace s : St W (L) w := St.mid (A := []) (B := [RBag g2 l, Bag g1 l]) s
            exact ⟨rfl, s⟩
        · rw [hb] at ha; replace hb : ¬ (((m : Nat) : Int) < ((l.length : Nat) : Int)) := of_decide_eq_false hb
          refine st_pass ha (by kernel_rfl) ?_
          clear ha; intro a ha
          refine st_pass ha (by kernel_rfl) ?_
          clear ha; intro a ha
          refine st_val (.bool false) ha (by kernel_rfl) (by kernel_rfl) ?_
          clear ha; intro a ha
          refine wpList_nil ?_
          refine then_normal ?_
          refine wp_false ha rfl (by kernel_rfl) ?_
          refine wp_exit ?_
          refine then_exit ?_
          refine then_exit ?_
          refine block_hit ?_
          refine then_normal ?_
          refine wp_seq ?_
          refine wp_region_lit ?_
          refine st_call ha (by kernel_rfl) (by kernel_rfl) (works_true W _ w s) ?_
          rintro _ w ⟨rfl, s⟩
          replace s : St W (RBag g2 l :: Bag g1 l :: L) w := s
          refine ⟨_, rfl, ?_⟩; clear ha; intro a ha
          refine st_val (.bool true) ha (by kernel_rfl) (by kernel_rfl) ?_
          clear ha; intro a ha
          refine wpList_nil ?_
          refine then_normal ?_
          refine wp_ret ?_
          refine ret_with (v := .bool true) ha (results_1 rfl ha (res_tmp (by kernel_rfl) (by kernel_rfl))) ?_
          replace s : St W (L) w := St.mid (A := []) (B := [RBag g2 l, Bag g1 l]) s
          exact ⟨rfl, s⟩

theorem bagDoes_zero (W : World) (L : List Chunk) (w : World) (A : Option Addr) (c : Nat) (s : St W L w) :
    Calls Try.prog 3 #[.slice A 0 c] w fun e w' => e = .returned (.bool true) ∧ St W L w' := by
  refine enter_args (l := [.slice A 0 c]) Try.func3 rfl rfl (Nat.le_of_ble_eq_true rfl) ?_
  intro a ha; replace ha : Has a 174 [(0, .slice A 0 c)] := ha
  refine wp_seq ?_
  refine wp_region_lit ?_
  refine st_val (.bool false) ha (by kernel_rfl) (by kernel_rfl) ?_
  clear ha; intro a ha
  refine wpList_nil ?_
  refine then_normal ?_
  refine wp_seq ?_
  refine wp_region_lit ?_
  refine st_call ha (by kernel_rfl) (by kernel_rfl) (new_bag W _ w s) ?_
  rintro _ w ⟨g1, rfl, s⟩
  replace s : St W (Bag g1 [] :: L) w := s
  refine ⟨_, rfl, ?_⟩; clear ha; intro a ha
  refine st_call ha (by kernel_rfl) (by kernel_rfl) (rnew_bag W _ w s) ?_
  rintro _ w ⟨g2, rfl, s⟩
  replace s : St W (RBag g2 [] :: Bag g1 [] :: L) w := s
  refine ⟨_, rfl, ?_⟩; clear ha; intro a ha
  refine st_val (.pointer (some ⟨g1, 0, none⟩)) ha (by kernel_rfl) (by kernel_rfl) ?_
  clear ha; intro a ha
  refine st_val (.pointer (some ⟨g2, 0, none⟩)) ha (by kernel_rfl) (by kernel_rfl) ?_
  clear ha; intro a ha
  refine wpList_nil ?_
  refine then_normal ?_
  refine wp_seq ?_
  refine wp_seq ?_
  refine wp_region_lit ?_
  refine st_val (.int .i64 0) ha (by kernel_rfl) (by kernel_rfl) ?_
  clear ha; intro a ha
  refine wpList_nil ?_
  refine then_normal ?_
  refine wp_block ?_
  refine wp_loopG (G := Unit) (fun _g a w => Has a 174 [(0, .slice A 0 c), (3, .pointer (some ⟨g1, 0, none⟩)), (4, .pointer (some ⟨g2, 0, none⟩)), (5, .int .i64 0)] ∧ St W (RBag g2 [] :: Bag g1 [] :: L) w ∧ True) (fun _g => 0) () ?_ ?_
  · exact ⟨(Has.cons ha (by kernel_rfl) (by kernel_rfl) (Has.cons ha (by kernel_rfl) (by kernel_rfl) (Has.cons ha (by kernel_rfl) (by kernel_rfl) (Has.cons ha (by kernel_rfl) (by kernel_rfl) (Has.nil ha))))), s, trivial⟩
  · clear ha s; rintro _g a w ⟨ha, s, hp⟩
    refine wp_seq ?_
    refine wp_seq ?_
    refine wp_region_lit ?_
    refine st_val (.int .i64 0) ha (by kernel_rfl) (by kernel_rfl) ?_
    clear ha; intro a ha
    refine st_val (.slice A 0 c) ha (by kernel_rfl) (by kernel_rfl) ?_
    clear ha; intro a ha
    refine st_val (.int .i64 0) ha (by kernel_rfl) (by kernel_rfl) ?_
    clear ha; intro a ha
    refine st_val (.bool false) ha (by kernel_rfl) (by kernel_rfl) ?_
    clear ha; intro a ha
    refine st_val (.bool false) ha (by kernel_rfl) (by kernel_rfl) ?_
    clear ha; intro a ha
    refine st_pass ha (by kernel_rfl) ?_
    clear ha; intro a ha
    refine st_pass ha (by kernel_rfl) ?_
    clear ha; intro a ha
    refine st_val (.bool false) ha (by kernel_rfl) (by kernel_rfl) ?_
    clear ha; intro a ha
    refine wpList_nil ?_
    refine then_normal ?_
    refine wp_false ha rfl (by kernel_rfl) ?_
    refine wp_exit ?_
    refine then_exit ?_
    refine then_exit ?_
    refine block_hit ?_
    refine then_normal ?_
    refine wp_seq ?_
    refine wp_seq ?_
    refine wp_region_lit ?_
    refine st_val (.int .i64 0) ha (by kernel_rfl) (by kernel_rfl) ?_
    clear ha; intro a ha
    refine wpList_nil ?_
    refine then_normal ?_
    refine wp_block ?_
    refine wp_loopG (G := Unit) (fun _g a w => Has a 174 [(3, .pointer (some ⟨g1, 0, none⟩)), (4, .pointer (some ⟨g2, 0, none⟩)), (12, .int .i64 0)] ∧ St W (RBag g2 [] :: Bag g1 [] :: L) w ∧ True) (fun _g => 0) () ?_ ?_
    · exact ⟨(Has.cons ha (by kernel_rfl) (by kernel_rfl) (Has.cons ha (by kernel_rfl) (by kernel_rfl) (Has.cons ha (by kernel_rfl) (by kernel_rfl) (Has.nil ha)))), s, trivial⟩
    · clear ha s; rintro _g a w ⟨ha, s, hp⟩
      refine wp_seq ?_
      refine wp_seq ?_
      refine wp_region_lit ?_
      refine st_val (.int .i64 0) ha (by kernel_rfl) (by kernel_rfl) ?_
      clear ha; intro a ha
      refine st_val (.pointer (some ⟨g2, 0, none⟩)) ha (by kernel_rfl) (by kernel_rfl) ?_
      clear ha; intro a ha
      refine st_call ha (by kernel_rfl) (by kernel_rfl) (rlen_to W _ w g2 [] 0 rfl s) ?_
      rintro _ w ⟨rfl, s⟩
      replace s : St W (RBag g2 [] :: Bag g1 [] :: L) w := s
      refine ⟨_, rfl, ?_⟩; clear ha; intro a ha
      refine st_val (.bool false) ha (by kernel_rfl) (by kernel_rfl) ?_
      clear ha; intro a ha
      refine st_val (.bool false) ha (by kernel_rfl) (by kernel_rfl) ?_
      clear ha; intro a ha
      refine st_pass ha (by kernel_rfl) ?_
      clear ha; intro a ha
      refine st_pass ha (by kernel_rfl) ?_
      clear ha; intro a ha
      refine st_val (.bool false) ha (by kernel_rfl) (by kernel_rfl) ?_
      clear ha; intro a ha
      refine wpList_nil ?_
      refine then_normal ?_
      refine wp_false ha rfl (by kernel_rfl) ?_
      refine wp_exit ?_
      refine then_exit ?_
      refine then_exit ?_
      refine block_hit ?_
      refine then_normal ?_
      refine wp_seq ?_
      refine wp_region_lit ?_
      refine st_call ha (by kernel_rfl) (by kernel_rfl) (works_true W _ w s) ?_
      rintro _ w ⟨rfl, s⟩
      replace s : St W (RBag g2 [] :: Bag g1 [] :: L) w := s
      refine ⟨_, rfl, ?_⟩; clear ha; intro a ha
      refine st_val (.bool true) ha (by kernel_rfl) (by kernel_rfl) ?_
      clear ha; intro a ha
      refine wpList_nil ?_
      refine then_normal ?_
      refine wp_ret ?_
      refine ret_with (v := .bool true) ha (results_1 rfl ha (res_tmp (by kernel_rfl) (by kernel_rfl))) ?_
      replace s : St W (L) w := St.mid (A := []) (B := [RBag g2 [], Bag g1 []]) s
      exact ⟨rfl, s⟩

theorem bagDoes_any (W : World) (L : List Chunk) (w : World) (A : Option Addr) (n c : Nat) (ds : List Dd) (hold : Knows L fun w => ∀ k A n cs, Reads W k A n cs → Reads w k A n cs) (hr0 : Reads W 5 A n (deeds ds)) (hdn : ds.length = n) (hgood : ∀ d ∈ ds, d.Good W) (hnc : n ≤ c) (hn : n ≤ 140737488351232) (s : St W L w) :
    Calls Try.prog 3 #[.slice A n c] w fun e w' => e = .returned (.bool true) ∧ St W L w' := by
  by_cases h0 : n = 0
  · subst h0; exact bagDoes_zero W L w A c s
  · cases A with
    | none => exact absurd rfl (hr0.2.1 (by omega))
    | some ad => exact bagDoes_pos W L w ad n c ds hold hr0 hdn hgood hnc hn s

end Go.Proofs.Ytcgnhmdiedfamaa.B
