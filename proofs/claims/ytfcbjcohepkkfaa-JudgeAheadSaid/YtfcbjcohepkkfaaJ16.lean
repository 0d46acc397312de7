import Derived.Test.YtfcbjcohepkkfaaJ15
import Derived.Test.YtfcbjcohepkkfaaSepD
namespace Go.Proofs.Ytfcbjcohepkkfaa.B
open Go.RowKit Go.Maps Go.Sort Go.Shelf Go.Proofs.Ytfcbjcohepkkfaa.Sep Go.Proofs.Ytfcbjcohepkkfaa.P
set_option linter.unusedVariables false
set_option linter.unusedSimpArgs false
/-! ### events that came in -/
set_option maxRecDepth 100000 in
theorem open_rw {W : World} {r : List Value} (hl : r.length = 2) (h : Came Try.prog W 92 r) : ∃ x : Rw, r = rv x ∧ True := by
  obtain ⟨_, h⟩ := Came.struct Try.underlying92 h
  have h0 := h 0 _ rfl
  have h1 := h 1 _ rfl
  match r, hl with
  | [r0, r1], _ =>
    obtain ⟨k, e0, _⟩ := Came.string Try.underlying9 h0
    obtain ⟨v, e1, _⟩ := Came.string Try.underlying9 h1
    have q0 : r0 = .string k := (List.cons.inj (show [r0] = [_] from e0)).1
    have q1 : r1 = .string v := (List.cons.inj (show [r1] = [_] from e1)).1
    exact ⟨⟨k.data.toList, v.data.toList⟩, by rw [q0, q1, str_of k, str_of v]; rfl, trivial⟩
theorem open_rws {W : World} {cs : List Value} (h : Came Try.prog W 32 cs) : ∃ A c l, cs = [.slice A l.length c] ∧ l.length ≤ 140737488351232 ∧ Reads W 2 A l.length (rws l) ∧ l.length ≤ c := by
  obtain ⟨A, n, c, rfl, h1, h2, rows, h3, h4, h5⟩ := Came.slice (k := 2) (B := 32) Try.underlying32 (by kernel_rfl) (by kernel_rfl) h
  obtain ⟨l, rfl, _⟩ := spelt (f := rv) (p := fun _ => True) fun r hr => open_rw (h5 r hr).1 (h5 r hr).2
  rw [List.length_map] at h3
  subst h3
  rw [← List.flatMap_def] at h4
  exact ⟨A, c, l, rfl, by omega, h4, h1⟩
/-- What is known of each event that came in. -/
def Eo (W : World) (x : Ev) : Prop := Reads W 2 x.A x.rows.length (rws x.rows) ∧ (x.rows.length ≤ 140737488351232 ∧ x.key.length ≤ 140737488351232) ∧ (-9223372036854775808 ≤ x.id ∧ x.id ≤ 9223372036854775807)
theorem wf_in {z : Int} (h : (Lit.int .i64 z).wf = true) : -9223372036854775808 ≤ z ∧ z ≤ 9223372036854775807 := by
  have a : IntKind.min .i64 = -9223372036854775808 := rfl
  have b : IntKind.max .i64 = 9223372036854775807 := rfl
  simp [Lit.wf] at h
  omega
set_option maxRecDepth 100000 in
set_option maxHeartbeats 1000000 in
theorem open_ev {W : World} {r : List Value} (hl : r.length = 16) (h : Came Try.prog W 36 r) : ∃ x : Ev, r = evv x ∧ Eo W x := by
  obtain ⟨_, h⟩ := Came.struct Try.underlying36 h
  have f0 := h 0 _ rfl
  have f1 := h 1 _ rfl
  have f2 := h 2 _ rfl
  have f3 := h 3 _ rfl
  have f4 := h 4 _ rfl
  have f5 := h 5 _ rfl
  have f6 := h 6 _ rfl
  have f7 := h 7 _ rfl
  have f8 := h 8 _ rfl
  have f9 := h 9 _ rfl
  have f10 := h 10 _ rfl
  have f11 := h 11 _ rfl
  have f12 := h 12 _ rfl
  have f13 := h 13 _ rfl
  obtain ⟨_, f8⟩ := Came.struct Try.underlying31 f8
  have g8 := f8 0 _ rfl
  have g9 := f8 1 _ rfl
  obtain ⟨_, f11⟩ := Came.struct Try.underlying34 f11
  have g12 := f11 0 _ rfl
  have g13 := f11 1 _ rfl
  match r, hl with
  | [r0, r1, r2, r3, r4, r5, r6, r7, r8, r9, r10, r11, r12, r13, r14, r15], _ =>
    obtain ⟨z0, e0, _⟩ := Came.int Try.underlying3 f0
    obtain ⟨z1, e1, _⟩ := Came.int Try.underlying3 f1
    obtain ⟨z2, e2, _⟩ := Came.int Try.underlying3 f2
    obtain ⟨z3, e3, w3⟩ := Came.int Try.underlying3 f3
    obtain ⟨z4, e4, _⟩ := Came.int Try.underlying3 f4
    obtain ⟨z5, e5, _⟩ := Came.int Try.underlying3 f5
    obtain ⟨k6, e6, hk⟩ := Came.string Try.underlying9 f6
    obtain ⟨k7, e7, _⟩ := Came.string Try.underlying9 f7
    obtain ⟨k8, e8, _⟩ := Came.string Try.underlying9 g8
    obtain ⟨k9, e9, _⟩ := Came.string Try.underlying9 g9
    obtain ⟨b10, e10⟩ := Came.bool Try.underlying4 f9
    obtain ⟨A, c, l, e11, hn, hR, hcap⟩ := open_rws f10
    obtain ⟨z12, e12, _⟩ := Came.int Try.underlying3 g12
    obtain ⟨z13, e13, _⟩ := Came.int Try.underlying3 g13
    obtain ⟨z14, e14, _⟩ := Came.int Try.underlying25 f12
    obtain ⟨z15, e15, _⟩ := Came.int Try.underlying3 f13
    have q0 : r0 = .int .i64 z0 := (List.cons.inj (show [r0] = [_] from e0)).1
    have q1 : r1 = .int .i64 z1 := (List.cons.inj (show [r1] = [_] from e1)).1
    have q2 : r2 = .int .i64 z2 := (List.cons.inj (show [r2] = [_] from e2)).1
    have q3 : r3 = .int .i64 z3 := (List.cons.inj (show [r3] = [_] from e3)).1
    have q4 : r4 = .int .i64 z4 := (List.cons.inj (show [r4] = [_] from e4)).1
    have q5 : r5 = .int .i64 z5 := (List.cons.inj (show [r5] = [_] from e5)).1
    have q6 : r6 = .string k6 := (List.cons.inj (show [r6] = [_] from e6)).1
    have q7 : r7 = .string k7 := (List.cons.inj (show [r7] = [_] from e7)).1
    have q8 : r8 = .string k8 := (List.cons.inj (show [r8] = [_] from e8)).1
    have q9 : r9 = .string k9 := (List.cons.inj (show [r9] = [_] from e9)).1
    have q10 : r10 = .bool b10 := (List.cons.inj (show [r10] = [_] from e10)).1
    have q11 : r11 = .slice A l.length c := (List.cons.inj (show [r11] = [_] from e11)).1
    have q12 : r12 = .int .i64 z12 := (List.cons.inj (show [r12] = [_] from e12)).1
    have q13 : r13 = .int .i64 z13 := (List.cons.inj (show [r13] = [_] from e13)).1
    have q14 : r14 = .int .i64 z14 := (List.cons.inj (show [r14] = [_] from e14)).1
    have q15 : r15 = .int .i64 z15 := (List.cons.inj (show [r15] = [_] from e15)).1
    exact ⟨⟨z0, z1, z2, z3, z4, z5, k6.data.toList, k7.data.toList, k8.data.toList, k9.data.toList, b10, l, A, c, z12, z13, z14, z15⟩, by rw [q0, q1, q2, q3, q4, q5, q6, q7, q8, q9, q10, q11, q12, q13, q14, q15, str_of k6, str_of k7, str_of k8, str_of k9]; rfl, hR, ⟨hn, hk⟩, wf_in w3⟩
theorem open_evs {W : World} {cs : List Value} (h : Came Try.prog W 22 cs) : ∃ A c l, cs = [.slice A l.length c] ∧ EvsIn A l W ∧ (l.length ≤ c ∧ l.length ≤ 140737488351232) ∧ ∀ x ∈ l, Eo W x := by
  obtain ⟨A, n, c, rfl, h1, h2, rows, h3, h4, h5⟩ := Came.slice (k := 16) (B := 176) Try.underlying22 (by kernel_rfl) (by kernel_rfl) h
  obtain ⟨l, rfl, hp⟩ := spelt (f := evv) fun r hr => open_ev (h5 r hr).1 (h5 r hr).2
  rw [List.length_map] at h3
  subst h3
  rw [← List.flatMap_def] at h4
  exact ⟨A, c, l, rfl, ⟨h4, fun x hx => (hp x hx).1⟩, ⟨h1, by omega⟩, hp⟩
theorem Old.evs {W : World} {L : List Chunk} {A : Option Addr} {l : List Ev} (h : EvsIn A l W) : Knows (Old W :: L) (EvsIn A l) := fun w s => ⟨Old.reads h.1 w s, fun x hx => Old.reads (h.2 x hx) w s⟩
theorem EvsIn.take {A : Option Addr} {l : List Ev} {w : World} (h : EvsIn A l w) {n : Nat} (hn : n ≤ l.length) : EvsIn A (l.take n) w := ⟨reads_evs_take h.1 hn, fun x hx => h.2 x (List.mem_of_mem_take hx)⟩
/-! ### what the rules 1 to 6 find -/
theorem find_not (W : World) (hW : W.drawn = 0) (L : List Chunk) (w : World) (A : Option Addr) (ca : Nat) (l : List Ev) (hr : Knows L (EvsIn A l)) (hn : l.length ≤ 5000) (p : Nat × Nat) (hp : (findL (startL l) l 0).getD (0, 0) = p) (s : St W L w) :
    Calls Try.prog 7 #[.slice A l.length ca, .bool false] w fun e w' => e = .returned (.tuple #[.int .i64 ((p.1 : Nat) : Int), .int .i64 ((p.2 : Nat) : Int), .int .i64 0]) ∧ St W L w' := by
  refine (find_any W hW L w A ca l hr hn false (fun h => by cases h) (fun h => by cases h) s).mono ?_
  rintro e w' ⟨o, ho, rfl, s⟩
  have : resF l false o = p := by
    rw [← hp]; unfold resF
    cases findL (startL l) l 0 <;> rfl
  rw [this]
  exact ⟨rfl, s⟩
theorem ahead_law {l : List Ev} {k : Nat} {p1 p2 : Nat × Nat} (h1 : (findL (startL l) l 0).getD (0, 0) = p1) (h2 : (findL (startL (l.take k)) (l.take k) 0).getD (0, 0) = p2) : (0 < p1.1 → p1.2 < k → p2 = p1) ∧ (¬ (0 < p1.1 ∧ p1.2 < k) → p2 = (0, 0)) := by
  rcases Nat.eq_zero_or_pos k with rfl | hk
  · rw [List.take_zero] at h2
    exact ⟨fun _ h => by omega, fun _ => h2.symm⟩
  · rw [startL_take l hk, findL_take] at h2
    cases e : findL (startL l) l 0 with
    | none => rw [e] at h1 h2; subst h1; subst h2; exact ⟨fun _ _ => rfl, fun _ => rfl⟩
    | some q =>
      obtain ⟨r, b⟩ := q
      rw [e] at h1 h2
      have hl := findL_lt e
      subst h1; subst h2
      refine ⟨fun _ h => ?_, fun h => ?_⟩
      · show (if b < k then some (r, b) else none).getD (0, 0) = (r, b)
        rw [if_pos (show b < k from h)]; rfl
      · show (if b < k then some (r, b) else none).getD (0, 0) = (0, 0)
        rw [if_neg (fun h3 : b < k => h ⟨hl.2.2.1, h3⟩)]; rfl

theorem ahead_true (W : World) (hW : W.drawn = 0) (L : List Chunk) (w : World) (A : Option Addr) (ca : Nat) (l : List Ev) (hr : Knows L (EvsIn A l)) (hn : l.length ≤ ca ∧ l.length ≤ 140737488351232) (many : Int) (s : St W L w) :
    Calls Try.prog 3 #[.slice A l.length ca, .int .i64 many] w fun e w' => e = .returned (.bool true) ∧ St W L w' := by
  refine enter_args (l := [.slice A l.length ca, .int .i64 many]) Try.func3 rfl rfl (Nat.le_of_ble_eq_true rfl) ?_
  intro a ha; replace ha : Has a 65 [(0, .slice A l.length ca), (1, .int .i64 many)] := ha
  refine wp_seq ?_
  refine wp_region_lit ?_
  refine st_val (.bool false) ha (by kernel_rfl) (by kernel_rfl) ?_
  clear ha; intro a ha
  refine wpList_nil ?_
  refine then_normal ?_
  refine wp_seq ?_
  refine wp_seq ?_
  refine wp_region_lit ?_
  refine st_call ha (by kernel_rfl) (by kernel_rfl) (works_true W hW _ w s) ?_
  rintro _ w ⟨rfl, s⟩
  refine ⟨_, rfl, ?_⟩; clear ha; intro a ha
  refine st_val (.bool false) ha (by kernel_rfl) (by kernel_rfl) ?_
  clear ha; intro a ha
  refine wpList_nil ?_
  refine then_normal ?_
  refine wp_false ha rfl (by kernel_rfl) ?_
  refine wp_skip ?_
  refine then_normal ?_
  refine wp_seq ?_
  refine wp_region_lit ?_
  refine st_val (.slice A l.length ca) ha (by kernel_rfl) (by kernel_rfl) ?_
  clear ha; intro a ha
  refine st_val (.slice A l.length ca) ha (by kernel_rfl) (by kernel_rfl) ?_
  clear ha; intro a ha
  refine st_val (.int .i64 ((l.length : Nat) : Int)) ha (by kernel_rfl) (by kernel_rfl) ?_
  clear ha; intro a ha
  refine st_val (.int .i64 ((min l.length 200 : Nat) : Int)) ha (by kernel_rfl) (run_min2 (p := ((l.length : Nat) : Int)) (q := (200 : Int)) ((min l.length 200 : Nat) : Int) rfl (by kernel_rfl) (by kernel_rfl) (by split <;> omega) _) ?_
  clear ha; intro a ha
  refine st_val (.slice A (min l.length 200) ca) ha (by kernel_rfl) (run_slice0 (n := l.length) (c := ca) (min l.length 200) ca rfl Try.underlying22 Try.sizeOf36 (by kernel_rfl) (fun _ => rfl) bnd_none (bnd_some .i64 (by kernel_rfl)) bnd_none (by omega) (by omega) _) ?_
  clear ha; intro a ha
  refine st_val (.slice A (min l.length 200) ca) ha (by kernel_rfl) (by kernel_rfl) ?_
  clear ha; intro a ha
  refine wpList_nil ?_
  refine then_normal ?_
  refine wp_seq ?_
  obtain ⟨l1, hl1⟩ : ∃ q, q = l.take 200 := ⟨_, rfl⟩
  have hlen : min l.length 200 = l1.length := by rw [hl1, List.length_take]; omega
  rw [hlen] at ha
  have hr1 : Knows L (EvsIn A l1) := fun w s => by rw [hl1, show l.take 200 = l.take (min 200 l.length) from by simp]; exact (hr w s).take (by omega)
  have hl200 : l1.length ≤ 200 := by omega
  obtain ⟨p1, hp1⟩ : ∃ p, (findL (startL l1) l1 0).getD (0, 0) = p := ⟨_, rfl⟩
  refine wp_region_lit ?_
  refine st_val (.int .i64 many) ha (by kernel_rfl) (by kernel_rfl) ?_
  clear ha; intro a ha
  refine st_val (.slice A l1.length ca) ha (by kernel_rfl) (by kernel_rfl) ?_
  clear ha; intro a ha
  refine st_val (.int .i64 ((l1.length : Nat) : Int)) ha (by kernel_rfl) (by kernel_rfl) ?_
  clear ha; intro a ha
  refine st_val (.int .i64 ((l1.length + 1 : Nat) : Int)) ha (by kernel_rfl) (run_arith (((l1.length : Nat) : Int) + (1 : Int)) ((l1.length + 1 : Nat) : Int) rfl (by kernel_rfl) (by kernel_rfl) (.inl ⟨rfl, rfl⟩) (by rw [wrap64_in (by omega)]; try omega) _) ?_
  clear ha; intro a ha
  obtain ⟨kk, hkk⟩ : ∃ kk : Nat, many % ((l1.length + 1 : Nat) : Int) = kk := ⟨(many % ((l1.length + 1 : Nat) : Int)).toNat, by have := Int.emod_nonneg many (show ((l1.length + 1 : Nat) : Int) ≠ 0 by omega); omega⟩
  have hkl : kk ≤ l1.length := by have := Int.emod_lt_of_pos many (show (0 : Int) < ((l1.length + 1 : Nat) : Int) by omega); omega
  obtain ⟨p2, hp2⟩ : ∃ p, (findL (startL (l1.take kk)) (l1.take kk) 0).getD (0, 0) = p := ⟨_, rfl⟩
  have hlaw := ahead_law hp1 hp2
  refine st_call ha (by kernel_rfl) (by kernel_rfl) ((by have := bring_pos W _ w many ((l1.length + 1 : Nat) : Int) (by omega) (by omega) s; rwa [hkk] at this)) ?_
  rintro _ w ⟨rfl, s⟩
  refine ⟨_, rfl, ?_⟩; clear ha; intro a ha
  refine st_val (.int .i64 ((kk : Nat) : Int)) ha (by kernel_rfl) (by kernel_rfl) ?_
  clear ha; intro a ha
  refine wpList_nil ?_
  refine then_normal ?_
  refine wp_seq ?_
  refine wp_region_lit ?_
  refine st_val (.slice A l1.length ca) ha (by kernel_rfl) (by kernel_rfl) ?_
  clear ha; intro a ha
  refine st_call ha (by kernel_rfl) (by kernel_rfl) (find_not W hW _ w A ca l1 (fun w s => hr1 w s) (by omega) p1 hp1 s) ?_
  rintro _ w ⟨rfl, s⟩
  refine ⟨_, rfl, ?_⟩; clear ha; intro a ha
  refine st_val (.tuple #[.int .i64 ((p1.1 : Nat) : Int), .int .i64 ((p1.2 : Nat) : Int), .int .i64 0]) ha (by kernel_rfl) (by kernel_rfl) ?_
  clear ha; intro a ha
  refine st_val (.int .i64 ((p1.1 : Nat) : Int)) ha (by kernel_rfl) (by kernel_rfl) ?_
  clear ha; intro a ha
  refine st_val (.int .i64 ((p1.2 : Nat) : Int)) ha (by kernel_rfl) (by kernel_rfl) ?_
  clear ha; intro a ha
  refine st_val (.int .i64 0) ha (by kernel_rfl) (by kernel_rfl) ?_
  clear ha; intro a ha
  refine st_val (.int .i64 ((p1.1 : Nat) : Int)) ha (by kernel_rfl) (by kernel_rfl) ?_
  clear ha; intro a ha
  refine st_val (.int .i64 ((p1.2 : Nat) : Int)) ha (by kernel_rfl) (by kernel_rfl) ?_
  clear ha; intro a ha
  refine st_val (.int .i64 0) ha (by kernel_rfl) (by kernel_rfl) ?_
  clear ha; intro a ha
  refine wpList_nil ?_
  refine then_normal ?_
  refine wp_seq ?_
  refine wp_region_lit ?_
  refine st_val (.slice A l1.length ca) ha (by kernel_rfl) (by kernel_rfl) ?_
  clear ha; intro a ha
  refine st_val (.int .i64 ((kk : Nat) : Int)) ha (by kernel_rfl) (by kernel_rfl) ?_
  clear ha; intro a ha
  refine st_val (.slice A kk ca) ha (by kernel_rfl) (run_slice0 (n := l1.length) (c := ca) kk ca rfl Try.underlying22 Try.sizeOf36 (by kernel_rfl) (fun _ => rfl) bnd_none (bnd_some .i64 (by kernel_rfl)) bnd_none (by omega) (by omega) _) ?_
  clear ha; intro a ha
  refine st_call ha (by kernel_rfl) (by kernel_rfl) ((by have := find_not W hW _ w A ca (l1.take kk) (fun w s => (hr1 w s).take hkl) (by rw [List.length_take]; omega) p2 hp2 s; rwa [List.length_take, Nat.min_eq_left hkl] at this)) ?_
  rintro _ w ⟨rfl, s⟩
  refine ⟨_, rfl, ?_⟩; clear ha; intro a ha
  refine st_val (.tuple #[.int .i64 ((p2.1 : Nat) : Int), .int .i64 ((p2.2 : Nat) : Int), .int .i64 0]) ha (by kernel_rfl) (by kernel_rfl) ?_
  clear ha; intro a ha
  refine st_val (.int .i64 ((p2.1 : Nat) : Int)) ha (by kernel_rfl) (by kernel_rfl) ?_
  clear ha; intro a ha
  refine st_val (.int .i64 ((p2.2 : Nat) : Int)) ha (by kernel_rfl) (by kernel_rfl) ?_
  clear ha; intro a ha
  refine st_val (.int .i64 0) ha (by kernel_rfl) (by kernel_rfl) ?_
  clear ha; intro a ha
  refine st_val (.int .i64 ((p2.1 : Nat) : Int)) ha (by kernel_rfl) (by kernel_rfl) ?_
  clear ha; intro a ha
  refine st_val (.int .i64 ((p2.2 : Nat) : Int)) ha (by kernel_rfl) (by kernel_rfl) ?_
  clear ha; intro a ha
  refine st_val (.int .i64 0) ha (by kernel_rfl) (by kernel_rfl) ?_
  clear ha; intro a ha
  refine wpList_nil ?_
  refine then_normal ?_
  refine wp_seq ?_
  refine wp_seq ?_
  refine wp_region_lit ?_
  refine st_val (.int .i64 0) ha (by kernel_rfl) (by kernel_rfl) ?_
  clear ha; intro a ha
  refine st_val (.bool false) ha (by kernel_rfl) (by kernel_rfl) ?_
  clear ha; intro a ha
  refine st_val (.bool false) ha (by kernel_rfl) (by kernel_rfl) ?_
  clear ha; intro a ha
  refine st_val (.int .i64 0) ha (by kernel_rfl) (by kernel_rfl) ?_
  clear ha; intro a ha
  refine st_val (.bool false) ha (by kernel_rfl) (by kernel_rfl) ?_
  clear ha; intro a ha
  refine st_val (.bool false) ha (by kernel_rfl) (by kernel_rfl) ?_
  clear ha; intro a ha
  refine wpList_nil ?_
  refine then_normal ?_
  refine wp_false ha rfl (by kernel_rfl) ?_
  refine wp_skip ?_
  refine then_normal ?_
  refine wp_seq ?_
  refine wp_seq ?_
  refine wp_region_lit ?_
  refine st_val (.int .i64 ((p1.1 : Nat) : Int)) ha (by kernel_rfl) (by kernel_rfl) ?_
  clear ha; intro a ha
  refine st_val (.bool (decide (((p1.1 : Nat) : Int) > (0 : Int)))) ha (by kernel_rfl) (by kernel_rfl) ?_
  clear ha; intro a ha
  refine st_val (.bool (decide (((p1.1 : Nat) : Int) > (0 : Int)))) ha (by kernel_rfl) (by kernel_rfl) ?_
  clear ha; intro a ha
  rcases Bool.eq_false_or_eq_true (decide (((p1.1 : Nat) : Int) > (0 : Int))) with hb | hb
  · rw [hb] at ha; replace hb : (((p1.1 : Nat) : Int) > (0 : Int)) := of_decide_eq_true hb
    refine st_val (.int .i64 ((p1.2 : Nat) : Int)) ha (by kernel_rfl) (by kernel_rfl) ?_
    clear ha; intro a ha
    refine st_val (.int .i64 ((kk : Nat) : Int)) ha (by kernel_rfl) (by kernel_rfl) ?_
    clear ha; intro a ha
    refine st_val (.bool (decide (((p1.2 : Nat) : Int) < ((kk : Nat) : Int)))) ha (by kernel_rfl) (by kernel_rfl) ?_
    clear ha; intro a ha
    refine st_val (.bool (decide (((p1.2 : Nat) : Int) < ((kk : Nat) : Int)))) ha (by kernel_rfl) (by kernel_rfl) ?_
    clear ha; intro a ha
    refine wpList_nil ?_
    refine then_normal ?_
    refine wp_part (decide (((p1.2 : Nat) : Int) < ((kk : Nat) : Int))) ha rfl (by kernel_rfl) (fun hb => ?_) (fun hb => ?_)
    · rw [hb] at ha; replace hb : (((p1.2 : Nat) : Int) < ((kk : Nat) : Int)) := of_decide_eq_true hb
      refine wp_seq ?_
      refine wp_region_lit ?_
      refine st_val (.int .i64 ((p2.1 : Nat) : Int)) ha (by kernel_rfl) (by kernel_rfl) ?_
      clear ha; intro a ha
      refine st_val (.int .i64 ((p1.1 : Nat) : Int)) ha (by kernel_rfl) (by kernel_rfl) ?_
      clear ha; intro a ha
      refine st_val (.bool true) ha (by kernel_rfl) (run_known (show (((p2.1 : Nat) : Int) == ((p1.1 : Nat) : Int)) = true from by rw [hlaw.1 (by omega) (by omega)]; exact beq_self_eq_true _) (by kernel_rfl)) ?_
      clear ha; intro a ha
      refine st_val (.bool true) ha (by kernel_rfl) (by kernel_rfl) ?_
      clear ha; intro a ha
      refine st_val (.int .i64 ((p2.2 : Nat) : Int)) ha (by kernel_rfl) (by kernel_rfl) ?_
      clear ha; intro a ha
      refine st_val (.int .i64 ((p1.2 : Nat) : Int)) ha (by kernel_rfl) (by kernel_rfl) ?_
      clear ha; intro a ha
      refine st_val (.bool true) ha (by kernel_rfl) (run_known (show (((p2.2 : Nat) : Int) == ((p1.2 : Nat) : Int)) = true from by rw [hlaw.1 (by omega) (by omega)]; exact beq_self_eq_true _) (by kernel_rfl)) ?_
      clear ha; intro a ha
      refine st_val (.bool true) ha (by kernel_rfl) (by kernel_rfl) ?_
      clear ha; intro a ha
      refine st_val (.bool true) ha (by kernel_rfl) (by kernel_rfl) ?_
      clear ha; intro a ha
      refine wpList_nil ?_
      refine then_normal ?_
      refine wp_ret ?_
      refine then_ret ?_
      refine ret_with (v := .bool true) ha (results_1 rfl ha (res_tmp (by kernel_rfl) (by kernel_rfl))) ?_
      exact ⟨rfl, s⟩
    · rw [hb] at ha; replace hb : ¬ (((p1.2 : Nat) : Int) < ((kk : Nat) : Int)) := of_decide_eq_false hb
      refine wp_skip ?_
      refine then_normal ?_
      refine wp_seq ?_
      refine wp_region_lit ?_
      refine st_val (.int .i64 ((p2.1 : Nat) : Int)) ha (by kernel_rfl) (by kernel_rfl) ?_
      clear ha; intro a ha
      refine st_val (.bool true) ha (by kernel_rfl) (run_known (show (((p2.1 : Nat) : Int) == (0 : Int)) = true from by rw [hlaw.2 (by omega)]; rfl) (by kernel_rfl)) ?_
      clear ha; intro a ha
      refine st_val (.bool true) ha (by kernel_rfl) (by kernel_rfl) ?_
      clear ha; intro a ha
      refine st_val (.int .i64 ((p2.2 : Nat) : Int)) ha (by kernel_rfl) (by kernel_rfl) ?_
      clear ha; intro a ha
      refine st_val (.bool true) ha (by kernel_rfl) (run_known (show (((p2.2 : Nat) : Int) == (0 : Int)) = true from by rw [hlaw.2 (by omega)]; rfl) (by kernel_rfl)) ?_
      clear ha; intro a ha
      refine st_val (.bool true) ha (by kernel_rfl) (by kernel_rfl) ?_
      clear ha; intro a ha
      refine st_val (.bool true) ha (by kernel_rfl) (by kernel_rfl) ?_
      clear ha; intro a ha
      refine wpList_nil ?_
      refine then_normal ?_
      refine wp_ret ?_
      refine ret_with (v := .bool true) ha (results_1 rfl ha (res_tmp (by kernel_rfl) (by kernel_rfl))) ?_
      exact ⟨rfl, s⟩
  · rw [hb] at ha; replace hb : ¬ (((p1.1 : Nat) : Int) > (0 : Int)) := of_decide_eq_false hb
    refine st_pass ha (by kernel_rfl) ?_
    clear ha; intro a ha
    refine st_pass ha (by kernel_rfl) ?_
    clear ha; intro a ha
    refine st_pass ha (by kernel_rfl) ?_
    clear ha; intro a ha
    refine st_val (.bool false) ha (by kernel_rfl) (by kernel_rfl) ?_
    clear ha; intro a ha
    refine wpList_nil ?_
    refine then_normal ?_
    refine wp_false ha rfl (by kernel_rfl) ?_
    refine wp_skip ?_
    refine then_normal ?_
    refine wp_seq ?_
    refine wp_region_lit ?_
    refine st_val (.int .i64 ((p2.1 : Nat) : Int)) ha (by kernel_rfl) (by kernel_rfl) ?_
    clear ha; intro a ha
    refine st_val (.bool true) ha (by kernel_rfl) (run_known (show (((p2.1 : Nat) : Int) == (0 : Int)) = true from by rw [hlaw.2 (by omega)]; rfl) (by kernel_rfl)) ?_
    clear ha; intro a ha
    refine st_val (.bool true) ha (by kernel_rfl) (by kernel_rfl) ?_
    clear ha; intro a ha
    refine st_val (.int .i64 ((p2.2 : Nat) : Int)) ha (by kernel_rfl) (by kernel_rfl) ?_
    clear ha; intro a ha
    refine st_val (.bool true) ha (by kernel_rfl) (run_known (show (((p2.2 : Nat) : Int) == (0 : Int)) = true from by rw [hlaw.2 (by omega)]; rfl) (by kernel_rfl)) ?_
    clear ha; intro a ha
    refine st_val (.bool true) ha (by kernel_rfl) (by kernel_rfl) ?_
    clear ha; intro a ha
    refine st_val (.bool true) ha (by kernel_rfl) (by kernel_rfl) ?_
    clear ha; intro a ha
    refine wpList_nil ?_
    refine then_normal ?_
    refine wp_ret ?_
    refine ret_with (v := .bool true) ha (results_1 rfl ha (res_tmp (by kernel_rfl) (by kernel_rfl))) ?_
    exact ⟨rfl, s⟩

end Go.Proofs.Ytfcbjcohepkkfaa.B
