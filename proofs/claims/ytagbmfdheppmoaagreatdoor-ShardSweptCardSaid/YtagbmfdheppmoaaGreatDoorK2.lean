import Derived.Test.YtagbmfdheppmoaaGreatDoorK1
import Derived.KernelRfl
namespace Go.Proofs.YtagbmfdheppmoaaGreatDoor.B
open Go.RowKit Go.Proofs.YtagbmfdheppmoaaGreatDoor.Sep
set_option linter.unusedVariables false
set_option linter.unusedSimpArgs false

/-- The first node at or above a key; the node of a key. -/
def nf (r : List Nd) (key : List UInt8) : Option Nd := r.find? fun x => !decide (x.k < key)
def fnd (r : List Nd) (key : List UInt8) : Option Nd := r.find? fun x => decide (x.k = key)
theorem find_at {α : Type} {p : α → Bool} : ∀ {r : List α} {n : Nat}, (∀ j x, j < n → r[j]? = some x → p x = false) → (∀ x, r[n]? = some x → p x = true) → r.find? p = r[n]?
  | [], n, _, _ => by simp
  | x :: r, 0, _, h => by simp [List.find?, h x rfl]
  | x :: r, n + 1, h, k => by
    rw [List.find?_cons_of_neg (by rw [h 0 x (by omega) rfl]; decide)]
    exact (find_at (n := n) (fun j y hj hy => h (j + 1) y (by omega) (by simpa using hy)) (fun y hy => k y (by simpa using hy))).trans (by simp)
theorem next0 {hd : Nd} {r : List Nd} (ok : SkOk (hd :: r)) {key : List UInt8} {q : Nat} (h : LastAt (hd :: r) key 0 q) : (hd :: r)[q + 1]? = nf r key ∧ canon (hd :: r) q 0 = (nf r key).map (·.g) := by
  obtain ⟨⟨x, h1, h2, h3⟩, h4⟩ := h
  have e1 : (hd :: r)[q + 1]? = nf r key := by
    refine ((find_at (α := Nd) (n := q) (p := fun x => !decide (x.k < key)) (fun j y hj hy => ?_) (fun y hy => ?_)).trans ?_).symm
    · have hy : (hd :: r)[j + 1]? = some y := by simpa using hy
      have : y.k < key := by
        rcases Nat.lt_or_ge (j + 1) q with c | c
        · exact klt_trans (ok.lt (by omega) c hy h1) (h3.resolve_left (by omega))
        · have : j + 1 = q := by omega
          subst this; rw [h1] at hy; cases hy; exact h3.resolve_left (by omega)
      simp [this]
    · have hy : (hd :: r)[q + 1]? = some y := by simpa using hy
      have := h4 (q + 1) y (by omega) hy (by have := (ok.step hy).1; omega)
      simp [this]
    · simp
  refine ⟨e1, ?_⟩
  rw [canon_at h1 h2, ← e1]
  rcases nxt_cases 0 (hd :: r) q with ⟨a, b⟩ | ⟨p, y, a, b, c, d, e⟩
  · rw [a]
    cases hh : (hd :: r)[q + 1]? with
    | none => rfl
    | some z => exact absurd (ok.step hh).1 (by have := b (q + 1) z (by omega) hh; omega)
  · rw [d]
    have : p = q + 1 := by
      rcases Nat.lt_or_ge (q + 1) p with c1 | c1
      · cases hh : (hd :: r)[q + 1]? with
        | none =>
          have h1 := (List.getElem?_eq_some_iff.1 b).1
          have h2 := List.getElem?_eq_none_iff.1 hh
          omega
        | some z => exact absurd (ok.step hh).1 (by have := e (q + 1) z (by omega) c1 hh; omega)
      · omega
    subst this
    rw [b]; rfl
theorem nf_ge {r : List Nd} {key : List UInt8} {z : Nd} (h : nf r key = some z) : ¬ z.k < key := by
  have := List.find?_some h
  simpa using this
theorem SkOk.tail_lt {hd : Nd} {r : List Nd} (ok : SkOk (hd :: r)) : r.Pairwise (fun x y => x.k < y.k) := by
  obtain ⟨a, r', e, _, h⟩ := ok.head
  cases e; exact h
theorem fnd_nf : ∀ {r : List Nd} {key : List UInt8}, r.Pairwise (fun x y => x.k < y.k) → fnd r key = (nf r key).bind fun z => if z.k = key then some z else none
  | [], _, _ => rfl
  | x :: r, key, h => by
    have h1 := List.pairwise_cons.1 h
    by_cases hx : x.k < key
    · have e : ¬ x.k = key := fun e => klt_irrefl _ (e ▸ hx)
      have := fnd_nf (key := key) h1.2
      simpa [fnd, nf, hx, e] using this
    · by_cases e : x.k = key
      · simp [fnd, nf, hx, e, klt_irrefl]
      · have hk := klt_tri hx e
        have : fnd r key = none := List.find?_eq_none.2 fun y hy => by
          have := klt_trans hk (h1.1 y hy)
          simp only [decide_eq_true_eq]
          intro e; rw [e] at this; exact klt_irrefl _ this
        have e2 : nf (x :: r) key = some x := by simp [nf, hx]
        rw [e2]
        simp only [Option.bind_some, if_neg e]
        simpa [fnd, e] using this
theorem fnd_at {hd : Nd} {r : List Nd} {key : List UInt8} {x : Nd} (h : fnd r key = some x) : ∃ p, 0 < p ∧ (hd :: r)[p]? = some x ∧ x.k = key := by
  have h1 := List.find?_some h
  obtain ⟨p, hp, e⟩ := List.getElem_of_mem (List.mem_of_find?_eq_some h)
  exact ⟨p + 1, by omega, by simp [List.getElem?_eq_getElem hp, e], by simpa using h1⟩
theorem ahead_q (W : World) (L : List Chunk) (w : World) (gl : Nat) (hd : Nd) (r : List Nd) (many : Int) (key : List UInt8) (ok : SkOk (hd :: r)) (s : St W (.blk gl [.pointer (some ⟨hd.g, 0, none⟩), .int .i64 many] 220 :: SkF (hd :: r) (canon (hd :: r)) :: L) w) :
    Calls Tryz.prog 125 #[.pointer (some ⟨gl, 0, none⟩), .string (str key)] w fun e w' => ∃ (oc : Nat → Value) (q : Nat) (y : Nd), LastAt (hd :: r) key 0 q ∧ (hd :: r)[q]? = some y ∧ e = .returned (.agg #[.pointer (some ⟨y.g, 0, none⟩), oc 1, oc 2, oc 3, oc 4, oc 5, oc 6, oc 7, oc 8, oc 9, oc 10, oc 11, oc 12, oc 13, oc 14, oc 15]) ∧ Ahead (hd :: r) key 0 oc ∧ St W (.blk gl [.pointer (some ⟨hd.g, 0, none⟩), .int .i64 many] 220 :: SkF (hd :: r) (canon (hd :: r)) :: L) w' := by
  refine (ahead_spec W L w gl hd r many key ok s).mono fun e w' ⟨oc, he, hA, s⟩ => ?_
  obtain ⟨q, y, h1, h2, h3⟩ := hA 0 (by omega) (by omega)
  exact ⟨oc, q, y, h1, h2, by rw [he, ← h3], hA, s⟩

theorem lnone_spec (W : World) (L : List Chunk) (w : World) (gl : Nat) (hd : Nd) (r : List Nd) (many : Int) (s : St W (.blk gl [.pointer (some ⟨hd.g, 0, none⟩), .int .i64 many] 220 :: SkF (hd :: r) (canon (hd :: r)) :: L) w) :
    Calls Tryz.prog 126 #[.pointer (some ⟨gl, 0, none⟩)] w fun e w' => e = .returned (.bool false) ∧ St W (.blk gl [.pointer (some ⟨hd.g, 0, none⟩), .int .i64 many] 220 :: SkF (hd :: r) (canon (hd :: r)) :: L) w' := by
  refine enter_args (l := [.pointer (some ⟨gl, 0, none⟩)]) Tryz.func126 rfl rfl (Nat.le_of_ble_eq_true rfl) ?_
  intro a ha; replace ha : Has a 12 [(0, .pointer (some ⟨gl, 0, none⟩))] := ha
  refine wp_seq ?_
  refine wp_region_lit ?_
  refine st_val (.bool false) ha (by kernel_rfl) (by kernel_rfl) ?_
  clear ha; intro a ha
  refine wpList_nil ?_
  refine then_normal ?_
  refine wp_seq ?_
  refine wp_region_lit ?_
  refine st_val (.pointer (some ⟨gl, 0, none⟩)) ha (by kernel_rfl) (by kernel_rfl) ?_
  clear ha; intro a ha
  refine st_val (.bool false) ha (by kernel_rfl) (by kernel_rfl) ?_
  clear ha; intro a ha
  refine st_val (.bool false) ha (by kernel_rfl) (by kernel_rfl) ?_
  clear ha; intro a ha
  refine st_val (.pointer (some ⟨gl, 0, none⟩)) ha (by kernel_rfl) (by kernel_rfl) ?_
  clear ha; intro a ha
  refine st_val (.pointer (some ⟨gl, 0, none⟩)) ha (by kernel_rfl) (by kernel_rfl) ?_
  clear ha; intro a ha
  refine st_val (.pointer (some ⟨gl, 0, none⟩)) ha (by kernel_rfl) (by kernel_rfl) ?_
  clear ha; intro a ha
  refine st_val (.pointer (some ⟨hd.g, 0, none⟩)) ha (by kernel_rfl) (run_load1 (of_ := 0) (s.blkIs 0 rfl) rfl (by kernel_rfl) Tryz.isAgg177 rfl) ?_
  clear ha; intro a ha
  refine st_val (.bool false) ha (by kernel_rfl) (by kernel_rfl) ?_
  clear ha; intro a ha
  refine st_val (.bool false) ha (by kernel_rfl) (by kernel_rfl) ?_
  clear ha; intro a ha
  refine st_val (.bool false) ha (by kernel_rfl) (by kernel_rfl) ?_
  clear ha; intro a ha
  refine wpList_nil ?_
  refine then_normal ?_
  refine wp_ret ?_
  refine ret_with (v := .bool false) ha (results_1 rfl ha (res_tmp (by kernel_rfl) (by kernel_rfl))) ?_
  exact ⟨rfl, s⟩

theorem find_spec (W : World) (L : List Chunk) (w : World) (gl : Nat) (hd : Nd) (r : List Nd) (many : Int) (key : List UInt8) (ok : SkOk (hd :: r)) (s : St W (.blk gl [.pointer (some ⟨hd.g, 0, none⟩), .int .i64 many] 220 :: SkF (hd :: r) (canon (hd :: r)) :: L) w) :
    Calls Tryz.prog 91 #[.pointer (some ⟨gl, 0, none⟩), .string (str key)] w fun e w' => e = .returned (ptrO ((fnd r key).map (·.g))) ∧ St W (.blk gl [.pointer (some ⟨hd.g, 0, none⟩), .int .i64 many] 220 :: SkF (hd :: r) (canon (hd :: r)) :: L) w' := by
  refine enter_args (l := [.pointer (some ⟨gl, 0, none⟩), .string (str key)]) Tryz.func91 rfl rfl (Nat.le_of_ble_eq_true rfl) ?_
  intro a ha; replace ha : Has a 27 [(0, .pointer (some ⟨gl, 0, none⟩)), (1, .string (str key))] := ha
  refine wp_seq ?_
  refine wp_region_lit ?_
  refine st_val (.pointer none) ha (by kernel_rfl) (by kernel_rfl) ?_
  clear ha; intro a ha
  refine wpList_nil ?_
  refine then_normal ?_
  refine wp_seq ?_
  refine wp_seq ?_
  refine wp_region_lit ?_
  refine st_val (.pointer (some ⟨gl, 0, none⟩)) ha (by kernel_rfl) (by kernel_rfl) ?_
  clear ha; intro a ha
  refine st_call ha (by kernel_rfl) (by kernel_rfl) (lnone_spec W _ _ gl hd r many s) ?_
  rintro _ w ⟨rfl, s⟩
  refine ⟨_, rfl, ?_⟩; clear ha; intro a ha
  refine wpList_nil ?_
  refine then_normal ?_
  refine wp_false ha rfl (by kernel_rfl) ?_
  refine wp_skip ?_
  refine then_normal ?_
  refine wp_seq ?_
  refine wp_seq ?_
  refine wp_region_lit ?_
  refine st_val (.pointer (some ⟨gl, 0, none⟩)) ha (by kernel_rfl) (by kernel_rfl) ?_
  clear ha; intro a ha
  refine st_val (.string (str key)) ha (by kernel_rfl) (by kernel_rfl) ?_
  clear ha; intro a ha
  refine st_call ha (by kernel_rfl) (by kernel_rfl) (ahead_q W _ _ gl hd r many key ok s) ?_
  rintro _ w ⟨oc, q, y, hlast, hy, rfl, hA, s⟩
  refine ⟨_, rfl, ?_⟩; clear ha; intro a ha
  refine st_val (.pointer (some ⟨y.g, 0, none⟩)) ha (by kernel_rfl) (by kernel_rfl) ?_
  clear ha; intro a ha
  refine st_val (.pointer (some ⟨y.g, 0, none⟩)) ha (by kernel_rfl) (by kernel_rfl) ?_
  clear ha; intro a ha
  refine st_val (.pointer (some ⟨y.g, 3, none⟩)) ha (by kernel_rfl) (by kernel_rfl) ?_
  clear ha; intro a ha
  refine st_val (.pointer (some ⟨y.g, 3, none⟩)) ha (by kernel_rfl) (by kernel_rfl) ?_
  clear ha; intro a ha
  cases hnf : nf r key
  · have hnx : canon (hd :: r) q 0 = none := (next0 ok hlast).2.trans (by rw [hnf]; rfl)
    refine st_val (.pointer none) ha (by kernel_rfl) (run_load1 (of_ := 3) (cs := ncF y ((canon (hd :: r)) q)) (skF_at hy (s.at_ (j := 1) rfl).1) rfl (by kernel_rfl) Tryz.isAgg177 (ld_none (i := 0) (by decide) hnx)) ?_
    clear ha; intro a ha
    refine st_val (.pointer none) ha (by kernel_rfl) (by kernel_rfl) ?_
    clear ha; intro a ha
    refine wpList_nil ?_
    refine then_normal ?_
    refine wp_seq ?_
    refine wp_region_lit ?_
    refine st_val (.pointer none) ha (by kernel_rfl) (by kernel_rfl) ?_
    clear ha; intro a ha
    refine st_val (.bool false) ha (by kernel_rfl) (by kernel_rfl) ?_
    clear ha; intro a ha
    refine st_val (.bool false) ha (by kernel_rfl) (by kernel_rfl) ?_
    clear ha; intro a ha
    refine st_pass ha (by kernel_rfl) ?_
    clear ha; intro a ha
    refine st_pass ha (by kernel_rfl) ?_
    clear ha; intro a ha
    refine st_pass ha (by kernel_rfl) ?_
    clear ha; intro a ha
    refine st_pass ha (by kernel_rfl) ?_
    clear ha; intro a ha
    refine st_pass ha (by kernel_rfl) ?_
    clear ha; intro a ha
    refine st_pass ha (by kernel_rfl) ?_
    clear ha; intro a ha
    refine st_val (.bool false) ha (by kernel_rfl) (by kernel_rfl) ?_
    clear ha; intro a ha
    refine wpList_nil ?_
    refine then_normal ?_
    refine wp_false ha rfl (by kernel_rfl) ?_
    refine wp_skip ?_
    refine then_normal ?_
    refine wp_seq ?_
    refine wp_region_lit ?_
    refine st_val (.pointer none) ha (by kernel_rfl) (by kernel_rfl) ?_
    clear ha; intro a ha
    refine wpList_nil ?_
    refine then_normal ?_
    refine wp_ret ?_
    refine ret_with (v := .pointer none) ha (results_1 rfl ha (res_tmp (by kernel_rfl) (by kernel_rfl))) ?_
    refine ⟨?_, s⟩
    rw [fnd_nf ok.tail_lt, hnf]
    simp [ptrO]
  · rename_i z
    have hnx : canon (hd :: r) q 0 = some z.g := (next0 ok hlast).2.trans (by rw [hnf]; rfl)
    have hz := (next0 ok hlast).1.trans hnf
    refine st_val (.pointer (some ⟨z.g, 0, none⟩)) ha (by kernel_rfl) (run_load1 (of_ := 3) (cs := ncF y ((canon (hd :: r)) q)) (skF_at hy (s.at_ (j := 1) rfl).1) rfl (by kernel_rfl) Tryz.isAgg177 (ld_some (i := 0) (by decide) hnx)) ?_
    clear ha; intro a ha
    refine st_val (.pointer (some ⟨z.g, 0, none⟩)) ha (by kernel_rfl) (by kernel_rfl) ?_
    clear ha; intro a ha
    refine wpList_nil ?_
    refine then_normal ?_
    refine wp_seq ?_
    refine wp_region_lit ?_
    refine st_val (.pointer (some ⟨z.g, 0, none⟩)) ha (by kernel_rfl) (by kernel_rfl) ?_
    clear ha; intro a ha
    refine st_val (.bool true) ha (by kernel_rfl) (by kernel_rfl) ?_
    clear ha; intro a ha
    refine st_val (.bool true) ha (by kernel_rfl) (by kernel_rfl) ?_
    clear ha; intro a ha
    refine st_val (.pointer (some ⟨z.g, 0, none⟩)) ha (by kernel_rfl) (by kernel_rfl) ?_
    clear ha; intro a ha
    refine st_val (.pointer (some ⟨z.g, 0, none⟩)) ha (by kernel_rfl) (by kernel_rfl) ?_
    clear ha; intro a ha
    refine st_val (.pointer (some ⟨z.g, 0, none⟩)) ha (by kernel_rfl) (by kernel_rfl) ?_
    clear ha; intro a ha
    refine st_val (.string (str z.k)) ha (by kernel_rfl) (run_load1 (of_ := 0) (cs := ncF z ((canon (hd :: r)) (q + 1))) (skF_at hz (s.at_ (j := 1) rfl).1) rfl (by kernel_rfl) Tryz.isAgg9 rfl) ?_
    clear ha; intro a ha
    refine st_val (.string (str key)) ha (by kernel_rfl) (by kernel_rfl) ?_
    clear ha; intro a ha
    refine st_val (.bool (decide (z.k = key))) ha (by kernel_rfl) (run_seql (p := z.k) (q := key) rfl (by kernel_rfl) (by kernel_rfl) _) ?_
    clear ha; intro a ha
    refine st_val (.bool (decide (z.k = key))) ha (by kernel_rfl) (by kernel_rfl) ?_
    clear ha; intro a ha
    refine wpList_nil ?_
    refine then_normal ?_
    refine wp_part (decide (z.k = key)) ha rfl (by kernel_rfl) (fun hb => ?_) (fun hb => ?_)
    · rw [hb] at ha; replace hb : (z.k = key) := of_decide_eq_true hb
      refine wp_seq ?_
      refine wp_region_lit ?_
      refine st_val (.pointer (some ⟨z.g, 0, none⟩)) ha (by kernel_rfl) (by kernel_rfl) ?_
      clear ha; intro a ha
      refine st_val (.pointer (some ⟨z.g, 0, none⟩)) ha (by kernel_rfl) (by kernel_rfl) ?_
      clear ha; intro a ha
      refine wpList_nil ?_
      refine then_normal ?_
      refine wp_ret ?_
      refine then_ret ?_
      refine ret_with (v := .pointer (some ⟨z.g, 0, none⟩)) ha (results_1 rfl ha (res_tmp (by kernel_rfl) (by kernel_rfl))) ?_
      refine ⟨?_, s⟩
      rw [fnd_nf ok.tail_lt, hnf]
      simp [hb, ptrO]
    · rw [hb] at ha; replace hb : ¬ (z.k = key) := of_decide_eq_false hb
      refine wp_skip ?_
      refine then_normal ?_
      refine wp_seq ?_
      refine wp_region_lit ?_
      refine st_val (.pointer none) ha (by kernel_rfl) (by kernel_rfl) ?_
      clear ha; intro a ha
      refine wpList_nil ?_
      refine then_normal ?_
      refine wp_ret ?_
      refine ret_with (v := .pointer none) ha (results_1 rfl ha (res_tmp (by kernel_rfl) (by kernel_rfl))) ?_
      refine ⟨?_, s⟩
      rw [fnd_nf ok.tail_lt, hnf]
      simp [hb, ptrO]

theorem find_yes (W : World) (L : List Chunk) (w : World) (gl : Nat) (hd : Nd) (r : List Nd) (many : Int) (key : List UInt8) (ok : SkOk (hd :: r)) {x : Nd} (hf : fnd r key = some x) (s : St W (.blk gl [.pointer (some ⟨hd.g, 0, none⟩), .int .i64 many] 220 :: SkF (hd :: r) (canon (hd :: r)) :: L) w) :
    Calls Tryz.prog 91 #[.pointer (some ⟨gl, 0, none⟩), .string (str key)] w fun e w' => e = .returned (.pointer (some ⟨x.g, 0, none⟩)) ∧ St W (.blk gl [.pointer (some ⟨hd.g, 0, none⟩), .int .i64 many] 220 :: SkF (hd :: r) (canon (hd :: r)) :: L) w' :=
  (find_spec W L w gl hd r many key ok s).mono fun e w' ⟨h, s⟩ => ⟨by rw [h, hf]; rfl, s⟩
theorem find_no (W : World) (L : List Chunk) (w : World) (gl : Nat) (hd : Nd) (r : List Nd) (many : Int) (key : List UInt8) (ok : SkOk (hd :: r)) (hf : fnd r key = none) (s : St W (.blk gl [.pointer (some ⟨hd.g, 0, none⟩), .int .i64 many] 220 :: SkF (hd :: r) (canon (hd :: r)) :: L) w) :
    Calls Tryz.prog 91 #[.pointer (some ⟨gl, 0, none⟩), .string (str key)] w fun e w' => e = .returned (.pointer none) ∧ St W (.blk gl [.pointer (some ⟨hd.g, 0, none⟩), .int .i64 many] 220 :: SkF (hd :: r) (canon (hd :: r)) :: L) w' :=
  (find_spec W L w gl hd r many key ok s).mono fun e w' ⟨h, s⟩ => ⟨by rw [h, hf]; rfl, s⟩

theorem First_spec (W : World) (L : List Chunk) (w : World) (gl : Nat) (hd : Nd) (r : List Nd) (many : Int) (key : List UInt8) (ok : SkOk (hd :: r)) (s : St W (.blk gl [.pointer (some ⟨hd.g, 0, none⟩), .int .i64 many] 220 :: SkF (hd :: r) (canon (hd :: r)) :: L) w) :
    Calls Tryz.prog 98 #[.pointer (some ⟨gl, 0, none⟩), .string (str key)] w fun e w' => e = .returned (match nf r key with | some z => .tuple #[.string (str z.k), .bool true] | none => .tuple #[.string (str []), .bool false]) ∧ St W (.blk gl [.pointer (some ⟨hd.g, 0, none⟩), .int .i64 many] 220 :: SkF (hd :: r) (canon (hd :: r)) :: L) w' := by
  refine enter_args (l := [.pointer (some ⟨gl, 0, none⟩), .string (str key)]) Tryz.func98 rfl rfl (Nat.le_of_ble_eq_true rfl) ?_
  intro a ha; replace ha : Has a 23 [(0, .pointer (some ⟨gl, 0, none⟩)), (1, .string (str key))] := ha
  refine wp_seq ?_
  refine wp_region_lit ?_
  refine st_val (.string (str [])) ha (by kernel_rfl) (by kernel_rfl) ?_
  clear ha; intro a ha
  refine st_val (.bool false) ha (by kernel_rfl) (by kernel_rfl) ?_
  clear ha; intro a ha
  refine wpList_nil ?_
  refine then_normal ?_
  refine wp_seq ?_
  refine wp_seq ?_
  refine wp_region_lit ?_
  refine st_val (.pointer (some ⟨gl, 0, none⟩)) ha (by kernel_rfl) (by kernel_rfl) ?_
  clear ha; intro a ha
  refine st_call ha (by kernel_rfl) (by kernel_rfl) (lnone_spec W _ _ gl hd r many s) ?_
  rintro _ w ⟨rfl, s⟩
  refine ⟨_, rfl, ?_⟩; clear ha; intro a ha
  refine wpList_nil ?_
  refine then_normal ?_
  refine wp_false ha rfl (by kernel_rfl) ?_
  refine wp_skip ?_
  refine then_normal ?_
  refine wp_seq ?_
  refine wp_region_lit ?_
  refine st_val (.pointer (some ⟨gl, 0, none⟩)) ha (by kernel_rfl) (by kernel_rfl) ?_
  clear ha; intro a ha
  refine st_val (.string (str key)) ha (by kernel_rfl) (by kernel_rfl) ?_
  clear ha; intro a ha
  refine st_call ha (by kernel_rfl) (by kernel_rfl) (ahead_q W _ _ gl hd r many key ok s) ?_
  rintro _ w ⟨oc, q, y, hlast, hy, rfl, hA, s⟩
  refine ⟨_, rfl, ?_⟩; clear ha; intro a ha
  refine st_val (.pointer (some ⟨y.g, 0, none⟩)) ha (by kernel_rfl) (by kernel_rfl) ?_
  clear ha; intro a ha
  refine st_val (.pointer (some ⟨y.g, 0, none⟩)) ha (by kernel_rfl) (by kernel_rfl) ?_
  clear ha; intro a ha
  refine st_val (.pointer (some ⟨y.g, 3, none⟩)) ha (by kernel_rfl) (by kernel_rfl) ?_
  clear ha; intro a ha
  refine st_val (.pointer (some ⟨y.g, 3, none⟩)) ha (by kernel_rfl) (by kernel_rfl) ?_
  clear ha; intro a ha
  cases hnf : nf r key
  · have hnx : canon (hd :: r) q 0 = none := (next0 ok hlast).2.trans (by rw [hnf]; rfl)
    refine st_val (.pointer none) ha (by kernel_rfl) (run_load1 (of_ := 3) (cs := ncF y ((canon (hd :: r)) q)) (skF_at hy (s.at_ (j := 1) rfl).1) rfl (by kernel_rfl) Tryz.isAgg177 (ld_none (i := 0) (by decide) hnx)) ?_
    clear ha; intro a ha
    refine st_val (.pointer none) ha (by kernel_rfl) (by kernel_rfl) ?_
    clear ha; intro a ha
    refine wpList_nil ?_
    refine then_normal ?_
    refine wp_seq ?_
    refine wp_seq ?_
    refine wp_region_lit ?_
    refine st_val (.pointer none) ha (by kernel_rfl) (by kernel_rfl) ?_
    clear ha; intro a ha
    refine st_val (.bool true) ha (by kernel_rfl) (by kernel_rfl) ?_
    clear ha; intro a ha
    refine wpList_nil ?_
    refine then_normal ?_
    refine wp_true ha rfl (by kernel_rfl) ?_
    refine wp_seq ?_
    refine wp_region_lit ?_
    refine st_val (.string (str [])) ha (by kernel_rfl) (by kernel_rfl) ?_
    clear ha; intro a ha
    refine st_val (.bool false) ha (by kernel_rfl) (by kernel_rfl) ?_
    clear ha; intro a ha
    refine wpList_nil ?_
    refine then_normal ?_
    refine wp_ret ?_
    refine then_ret ?_
    refine ret_with (v := .tuple #[.string (str []), .bool false]) ha (results_2 rfl ha (res_tmp (by kernel_rfl) (by kernel_rfl)) (res_tmp (by kernel_rfl) (by kernel_rfl))) ?_
    exact ⟨rfl, s⟩
  · rename_i z
    have hnx : canon (hd :: r) q 0 = some z.g := (next0 ok hlast).2.trans (by rw [hnf]; rfl)
    have hz := (next0 ok hlast).1.trans hnf
    refine st_val (.pointer (some ⟨z.g, 0, none⟩)) ha (by kernel_rfl) (run_load1 (of_ := 3) (cs := ncF y ((canon (hd :: r)) q)) (skF_at hy (s.at_ (j := 1) rfl).1) rfl (by kernel_rfl) Tryz.isAgg177 (ld_some (i := 0) (by decide) hnx)) ?_
    clear ha; intro a ha
    refine st_val (.pointer (some ⟨z.g, 0, none⟩)) ha (by kernel_rfl) (by kernel_rfl) ?_
    clear ha; intro a ha
    refine wpList_nil ?_
    refine then_normal ?_
    refine wp_seq ?_
    refine wp_seq ?_
    refine wp_region_lit ?_
    refine st_val (.pointer (some ⟨z.g, 0, none⟩)) ha (by kernel_rfl) (by kernel_rfl) ?_
    clear ha; intro a ha
    refine st_val (.bool false) ha (by kernel_rfl) (by kernel_rfl) ?_
    clear ha; intro a ha
    refine wpList_nil ?_
    refine then_normal ?_
    refine wp_false ha rfl (by kernel_rfl) ?_
    refine wp_skip ?_
    refine then_normal ?_
    refine wp_seq ?_
    refine wp_region_lit ?_
    refine st_val (.pointer (some ⟨z.g, 0, none⟩)) ha (by kernel_rfl) (by kernel_rfl) ?_
    clear ha; intro a ha
    refine st_val (.pointer (some ⟨z.g, 0, none⟩)) ha (by kernel_rfl) (by kernel_rfl) ?_
    clear ha; intro a ha
    refine st_val (.pointer (some ⟨z.g, 0, none⟩)) ha (by kernel_rfl) (by kernel_rfl) ?_
    clear ha; intro a ha
    refine st_val (.string (str z.k)) ha (by kernel_rfl) (run_load1 (of_ := 0) (cs := ncF z ((canon (hd :: r)) (q + 1))) (skF_at hz (s.at_ (j := 1) rfl).1) rfl (by kernel_rfl) Tryz.isAgg9 rfl) ?_
    clear ha; intro a ha
    refine st_val (.string (str z.k)) ha (by kernel_rfl) (by kernel_rfl) ?_
    clear ha; intro a ha
    refine st_val (.bool true) ha (by kernel_rfl) (by kernel_rfl) ?_
    clear ha; intro a ha
    refine wpList_nil ?_
    refine then_normal ?_
    refine wp_ret ?_
    refine ret_with (v := .tuple #[.string (str z.k), .bool true]) ha (results_2 rfl ha (res_tmp (by kernel_rfl) (by kernel_rfl)) (res_tmp (by kernel_rfl) (by kernel_rfl))) ?_
    exact ⟨rfl, s⟩

theorem Get_spec (W : World) (L : List Chunk) (w : World) (gl : Nat) (hd : Nd) (r : List Nd) (many : Int) (key : List UInt8) (ok : SkOk (hd :: r)) (s : St W (.blk gl [.pointer (some ⟨hd.g, 0, none⟩), .int .i64 many] 220 :: SkF (hd :: r) (canon (hd :: r)) :: L) w) :
    Calls Tryz.prog 46 #[.pointer (some ⟨gl, 0, none⟩), .string (str key)] w fun e w' => e = .returned (match fnd r key with | some x => .tuple #[.string (str x.v), .bool true] | none => .tuple #[.string (str []), .bool false]) ∧ St W (.blk gl [.pointer (some ⟨hd.g, 0, none⟩), .int .i64 many] 220 :: SkF (hd :: r) (canon (hd :: r)) :: L) w' := by
  refine enter_args (l := [.pointer (some ⟨gl, 0, none⟩), .string (str key)]) Tryz.func46 rfl rfl (Nat.le_of_ble_eq_true rfl) ?_
  intro a ha; replace ha : Has a 18 [(0, .pointer (some ⟨gl, 0, none⟩)), (1, .string (str key))] := ha
  refine wp_seq ?_
  refine wp_region_lit ?_
  refine st_val (.string (str [])) ha (by kernel_rfl) (by kernel_rfl) ?_
  clear ha; intro a ha
  refine st_val (.bool false) ha (by kernel_rfl) (by kernel_rfl) ?_
  clear ha; intro a ha
  refine wpList_nil ?_
  refine then_normal ?_
  refine wp_seq ?_
  refine wp_seq ?_
  refine wp_region_lit ?_
  refine st_val (.pointer (some ⟨gl, 0, none⟩)) ha (by kernel_rfl) (by kernel_rfl) ?_
  clear ha; intro a ha
  refine st_val (.string (str key)) ha (by kernel_rfl) (by kernel_rfl) ?_
  clear ha; intro a ha
  cases hf : fnd r key
  · skip
    refine st_call ha (by kernel_rfl) (by kernel_rfl) (find_no W _ _ gl hd r many key ok hf s) ?_
    rintro _ w ⟨rfl, s⟩
    refine ⟨_, rfl, ?_⟩; clear ha; intro a ha
    refine st_val (.pointer none) ha (by kernel_rfl) (by kernel_rfl) ?_
    clear ha; intro a ha
    refine wpList_nil ?_
    refine then_normal ?_
    refine wp_seq ?_
    refine wp_region_lit ?_
    refine st_val (.pointer none) ha (by kernel_rfl) (by kernel_rfl) ?_
    clear ha; intro a ha
    refine st_val (.bool false) ha (by kernel_rfl) (by kernel_rfl) ?_
    clear ha; intro a ha
    refine wpList_nil ?_
    refine then_normal ?_
    refine wp_false ha rfl (by kernel_rfl) ?_
    refine wp_skip ?_
    refine then_normal ?_
    refine wp_seq ?_
    refine wp_region_lit ?_
    refine st_val (.string (str [])) ha (by kernel_rfl) (by kernel_rfl) ?_
    clear ha; intro a ha
    refine wpList_nil ?_
    refine then_normal ?_
    refine wp_seq ?_
    refine wp_region_lit ?_
    refine st_val (.string (str [])) ha (by kernel_rfl) (by kernel_rfl) ?_
    clear ha; intro a ha
    refine st_val (.string (str [])) ha (by kernel_rfl) (by kernel_rfl) ?_
    clear ha; intro a ha
    refine st_val (.bool false) ha (by kernel_rfl) (by kernel_rfl) ?_
    clear ha; intro a ha
    refine wpList_nil ?_
    refine then_normal ?_
    refine wp_ret ?_
    refine ret_with (v := .tuple #[.string (str []), .bool false]) ha (results_2 rfl ha (res_tmp (by kernel_rfl) (by kernel_rfl)) (res_tmp (by kernel_rfl) (by kernel_rfl))) ?_
    exact ⟨rfl, s⟩
  · rename_i x; obtain ⟨p, hp0, hx, hxk⟩ := fnd_at (hd := hd) hf
    refine st_call ha (by kernel_rfl) (by kernel_rfl) (find_yes W _ _ gl hd r many key ok hf s) ?_
    rintro _ w ⟨rfl, s⟩
    refine ⟨_, rfl, ?_⟩; clear ha; intro a ha
    refine st_val (.pointer (some ⟨x.g, 0, none⟩)) ha (by kernel_rfl) (by kernel_rfl) ?_
    clear ha; intro a ha
    refine wpList_nil ?_
    refine then_normal ?_
    refine wp_seq ?_
    refine wp_region_lit ?_
    refine st_val (.pointer (some ⟨x.g, 0, none⟩)) ha (by kernel_rfl) (by kernel_rfl) ?_
    clear ha; intro a ha
    refine st_val (.bool true) ha (by kernel_rfl) (by kernel_rfl) ?_
    clear ha; intro a ha
    refine wpList_nil ?_
    refine then_normal ?_
    refine wp_true ha rfl (by kernel_rfl) ?_
    refine wp_seq ?_
    refine wp_region_lit ?_
    refine st_val (.pointer (some ⟨x.g, 0, none⟩)) ha (by kernel_rfl) (by kernel_rfl) ?_
    clear ha; intro a ha
    refine st_val (.pointer (some ⟨x.g, 0, none⟩)) ha (by kernel_rfl) (by kernel_rfl) ?_
    clear ha; intro a ha
    refine st_val (.pointer (some ⟨x.g, 1, none⟩)) ha (by kernel_rfl) (by kernel_rfl) ?_
    clear ha; intro a ha
    refine st_val (.string (str x.v)) ha (by kernel_rfl) (run_load1 (of_ := 1) (cs := ncF x ((canon (hd :: r)) p)) (skF_at hx (s.at_ (j := 1) rfl).1) rfl (by kernel_rfl) Tryz.isAgg9 rfl) ?_
    clear ha; intro a ha
    refine st_val (.string (str x.v)) ha (by kernel_rfl) (by kernel_rfl) ?_
    clear ha; intro a ha
    refine st_val (.bool true) ha (by kernel_rfl) (by kernel_rfl) ?_
    clear ha; intro a ha
    refine wpList_nil ?_
    refine then_normal ?_
    refine wp_ret ?_
    refine then_ret ?_
    refine ret_with (v := .tuple #[.string (str x.v), .bool true]) ha (results_2 rfl ha (res_tmp (by kernel_rfl) (by kernel_rfl)) (res_tmp (by kernel_rfl) (by kernel_rfl))) ?_
    exact ⟨rfl, s⟩

theorem Steps_spec (W : World) (L : List Chunk) (w : World) (gl : Nat) (hd : Nd) (r : List Nd) (many : Int) (key : List UInt8) (ok : SkOk (hd :: r)) (s : St W (.blk gl [.pointer (some ⟨hd.g, 0, none⟩), .int .i64 many] 220 :: SkF (hd :: r) (canon (hd :: r)) :: L) w) :
    Calls Tryz.prog 85 #[.pointer (some ⟨gl, 0, none⟩), .string (str key)] w fun e w' => e = .returned (.int .i64 (match fnd r key with | some x => (x.n : Int) | none => 0)) ∧ St W (.blk gl [.pointer (some ⟨hd.g, 0, none⟩), .int .i64 many] 220 :: SkF (hd :: r) (canon (hd :: r)) :: L) w' := by
  refine enter_args (l := [.pointer (some ⟨gl, 0, none⟩), .string (str key)]) Tryz.func85 rfl rfl (Nat.le_of_ble_eq_true rfl) ?_
  intro a ha; replace ha : Has a 15 [(0, .pointer (some ⟨gl, 0, none⟩)), (1, .string (str key))] := ha
  refine wp_seq ?_
  refine wp_region_lit ?_
  refine st_val (.int .i64 0) ha (by kernel_rfl) (by kernel_rfl) ?_
  clear ha; intro a ha
  refine wpList_nil ?_
  refine then_normal ?_
  refine wp_seq ?_
  refine wp_seq ?_
  refine wp_region_lit ?_
  refine st_val (.pointer (some ⟨gl, 0, none⟩)) ha (by kernel_rfl) (by kernel_rfl) ?_
  clear ha; intro a ha
  refine st_val (.string (str key)) ha (by kernel_rfl) (by kernel_rfl) ?_
  clear ha; intro a ha
  cases hf : fnd r key
  · skip
    refine st_call ha (by kernel_rfl) (by kernel_rfl) (find_no W _ _ gl hd r many key ok hf s) ?_
    rintro _ w ⟨rfl, s⟩
    refine ⟨_, rfl, ?_⟩; clear ha; intro a ha
    refine st_val (.pointer none) ha (by kernel_rfl) (by kernel_rfl) ?_
    clear ha; intro a ha
    refine wpList_nil ?_
    refine then_normal ?_
    refine wp_seq ?_
    refine wp_region_lit ?_
    refine st_val (.pointer none) ha (by kernel_rfl) (by kernel_rfl) ?_
    clear ha; intro a ha
    refine st_val (.bool false) ha (by kernel_rfl) (by kernel_rfl) ?_
    clear ha; intro a ha
    refine wpList_nil ?_
    refine then_normal ?_
    refine wp_false ha rfl (by kernel_rfl) ?_
    refine wp_skip ?_
    refine then_normal ?_
    refine wp_seq ?_
    refine wp_region_lit ?_
    refine st_val (.int .i64 0) ha (by kernel_rfl) (by kernel_rfl) ?_
    clear ha; intro a ha
    refine wpList_nil ?_
    refine then_normal ?_
    refine wp_ret ?_
    refine ret_with (v := .int .i64 0) ha (results_1 rfl ha (res_tmp (by kernel_rfl) (by kernel_rfl))) ?_
    exact ⟨rfl, s⟩
  · rename_i x; obtain ⟨p, hp0, hx, hxk⟩ := fnd_at (hd := hd) hf
    refine st_call ha (by kernel_rfl) (by kernel_rfl) (find_yes W _ _ gl hd r many key ok hf s) ?_
    rintro _ w ⟨rfl, s⟩
    refine ⟨_, rfl, ?_⟩; clear ha; intro a ha
    refine st_val (.pointer (some ⟨x.g, 0, none⟩)) ha (by kernel_rfl) (by kernel_rfl) ?_
    clear ha; intro a ha
    refine wpList_nil ?_
    refine then_normal ?_
    refine wp_seq ?_
    refine wp_region_lit ?_
    refine st_val (.pointer (some ⟨x.g, 0, none⟩)) ha (by kernel_rfl) (by kernel_rfl) ?_
    clear ha; intro a ha
    refine st_val (.bool true) ha (by kernel_rfl) (by kernel_rfl) ?_
    clear ha; intro a ha
    refine wpList_nil ?_
    refine then_normal ?_
    refine wp_true ha rfl (by kernel_rfl) ?_
    refine wp_seq ?_
    refine wp_region_lit ?_
    refine st_val (.pointer (some ⟨x.g, 0, none⟩)) ha (by kernel_rfl) (by kernel_rfl) ?_
    clear ha; intro a ha
    refine st_val (.pointer (some ⟨x.g, 0, none⟩)) ha (by kernel_rfl) (by kernel_rfl) ?_
    clear ha; intro a ha
    refine st_val (.pointer (some ⟨x.g, 2, none⟩)) ha (by kernel_rfl) (by kernel_rfl) ?_
    clear ha; intro a ha
    refine st_val (.int .i64 ((x.n : Nat) : Int)) ha (by kernel_rfl) (run_load1 (of_ := 2) (cs := ncF x ((canon (hd :: r)) p)) (skF_at hx (s.at_ (j := 1) rfl).1) rfl (by kernel_rfl) Tryz.isAgg3 rfl) ?_
    clear ha; intro a ha
    refine st_val (.int .i64 ((x.n : Nat) : Int)) ha (by kernel_rfl) (by kernel_rfl) ?_
    clear ha; intro a ha
    refine wpList_nil ?_
    refine then_normal ?_
    refine wp_ret ?_
    refine then_ret ?_
    refine ret_with (v := .int .i64 ((x.n : Nat) : Int)) ha (results_1 rfl ha (res_tmp (by kernel_rfl) (by kernel_rfl))) ?_
    exact ⟨rfl, s⟩

theorem sk_new {W w : World} {L : List Chunk} {g : Nat} (s : St W (.blk g [.string (str []), .string (str []), .int .i64 16, .pointer none, .pointer none, .pointer none, .pointer none, .pointer none, .pointer none, .pointer none, .pointer none, .pointer none, .pointer none, .pointer none, .pointer none, .pointer none, .pointer none, .pointer none, .pointer none] 181 :: L) w) :
    St W (SkF [⟨[], [], 16, g⟩] (canon [⟨[], [], 16, g⟩]) :: L) w := by
  refine St.bs_iff.2 ?_
  exact s
theorem SkOk.new (g : Nat) : SkOk [⟨[], [], 16, g⟩] := ⟨⟨_, _, rfl, rfl, List.Pairwise.nil⟩, fun x h => by simp at h; subst h; exact ⟨by show 1 ≤ 16; decide, by show 16 ≤ 16; decide⟩⟩

theorem New_spec (W : World) (L : List Chunk) (w : World) (s : St W L w) :
    Calls Tryz.prog 75 #[] w fun e w' => ∃ (gl : Nat) (hd : Nd), e = .returned (.pointer (some ⟨gl, 0, none⟩)) ∧ SkOk [hd] ∧ St W (.blk gl [.pointer (some ⟨hd.g, 0, none⟩), .int .i64 0] 220 :: SkF [hd] (canon [hd]) :: L) w' := by
  refine enter_args (l := []) Tryz.func75 rfl rfl (Nat.le_of_ble_eq_true rfl) ?_
  intro a ha; replace ha : Has a 5 [] := ha
  refine wp_seq ?_
  refine wp_region_lit ?_
  refine st_val (.pointer none) ha (by kernel_rfl) (by kernel_rfl) ?_
  clear ha; intro a ha
  refine wpList_nil ?_
  refine then_normal ?_
  refine wp_seq ?_
  refine wp_region_lit ?_
  refine st_val (.agg #[.string (str []), .string (str []), .int .i64 16, .pointer none, .pointer none, .pointer none, .pointer none, .pointer none, .pointer none, .pointer none, .pointer none, .pointer none, .pointer none, .pointer none, .pointer none, .pointer none, .pointer none, .pointer none, .pointer none]) ha (by kernel_rfl) (by kernel_rfl) ?_
  clear ha; intro a ha
  refine st_ex ha (by kernel_rfl) (ex_box [.string (str []), .string (str []), .int .i64 16, .pointer none, .pointer none, .pointer none, .pointer none, .pointer none, .pointer none, .pointer none, .pointer none, .pointer none, .pointer none, .pointer none, .pointer none, .pointer none, .pointer none, .pointer none, .pointer none] s rfl (by kernel_rfl)) ?_
  clear ha; rintro _ w a ⟨g1, rfl, s⟩ ha
  refine st_val (.agg #[.pointer (some ⟨g1, 0, none⟩), .int .i64 0]) ha (by kernel_rfl) (by kernel_rfl) ?_
  clear ha; intro a ha
  refine st_ex ha (by kernel_rfl) (ex_box [.pointer (some ⟨g1, 0, none⟩), .int .i64 0] s rfl (by kernel_rfl)) ?_
  clear ha; rintro _ w a ⟨g2, rfl, s⟩ ha
  refine st_val (.pointer (some ⟨g2, 0, none⟩)) ha (by kernel_rfl) (by kernel_rfl) ?_
  clear ha; intro a ha
  refine wpList_nil ?_
  refine then_normal ?_
  refine wp_ret ?_
  refine ret_with (v := .pointer (some ⟨g2, 0, none⟩)) ha (results_1 rfl ha (res_tmp (by kernel_rfl) (by kernel_rfl))) ?_
  exact ⟨g2, ⟨[], [], 16, g1⟩, rfl, SkOk.new _, (sk_new (s.at_ (j := 1) rfl)).perm (List.Perm.swap ..)⟩

end Go.Proofs.YtagbmfdheppmoaaGreatDoor.B
