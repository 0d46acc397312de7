import Derived.Test.YtcgnhmdiedfamaaB4
namespace Go.Proofs.Ytcgnhmdiedfamaa.B
open Go.RowKit Go.Proofs.Ytcgnhmdiedfamaa.Sep
set_option linter.unusedVariables false
set_option linter.unusedSimpArgs false

/-- A message of BagOnce: whither, and its byte. -/
def mq (p : Int × Nat) : Msg := ⟨1 + p.1.tmod 4, p.1, [(p.2 : Int)]⟩
def mqs (ps : List (Int × Nat)) : List Msg := ps.map mq
def cn (ps : List (Int × Nat)) (j : Nat) : Nat := ps.countP fun p => p.2 == j
def cnt (ps : List (Int × Nat)) : List Value := (List.range 200).map fun (j : Nat) => .int .i64 (cn ps j : Int)
structure Once (ps : List (Int × Nat)) (k : Nat) : Prop where
  to : ∀ p ∈ ps, 1 ≤ p.1 ∧ p.1 ≤ 4 ∧ p.2 < k
  len : ps.length ≤ k
theorem Once.nil : Once [] 0 := ⟨by simp, by simp⟩
theorem Once.up {ps : List (Int × Nat)} {k : Nat} (h : Once ps k) : Once ps (k + 1) := ⟨fun p hp => by have := h.to p hp; omega, by have := h.len; omega⟩
theorem Once.put {ps : List (Int × Nat)} {k : Nat} (h : Once ps k) (p : Int × Nat) (hp : 1 ≤ p.1 ∧ p.1 ≤ 4 ∧ p.2 < k + 1) : Once (ps ++ [p]) (k + 1) :=
  ⟨fun y hy => by
    rcases List.mem_append.1 hy with hy | hy
    · have := h.to y hy; omega
    · have : y = p := by simpa using hy
      subst this; exact hp, by have := h.len; simp; omega⟩
theorem Once.erase {ps : List (Int × Nat)} {k : Nat} (h : Once ps k) (q : Nat) : Once (ps.eraseIdx q) k :=
  ⟨fun y hy => h.to y (List.mem_of_mem_eraseIdx hy), by have := List.length_eraseIdx_le ps q; have := h.len; omega⟩
theorem Once.to200 {ps : List (Int × Nat)} {k : Nat} (h : Once ps k) (hk : k ≤ 200) : Once ps 200 := ⟨fun p hp => by have := h.to p hp; omega, by have := h.len; omega⟩
theorem mqs_ok {ps : List (Int × Nat)} (h : ps.length ≤ 2048) : OkBag (mqs ps) := ⟨fun m hm => by
  obtain ⟨p, _, rfl⟩ := List.mem_map.1 hm; simp [mq], by simpa [mqs] using h⟩
theorem mqs_len (ps : List (Int × Nat)) : (mqs ps).length = ps.length := by simp [mqs]
theorem mqs_at {ps : List (Int × Nat)} {q : Nat} {p : Int × Nat} (h : ps[q]? = some p) : (mqs ps)[q]? = some ⟨1 + p.1.tmod 4, p.1, [(p.2 : Int)]⟩ := by simp [mqs, h, mq]
theorem mqs_erase (ps : List (Int × Nat)) (q : Nat) : (mqs ps).eraseIdx q = mqs (ps.eraseIdx q) := by unfold mqs; rw [map_erase]
theorem tmod4 {x : Int} (h : 1 ≤ x ∧ x ≤ 4) : 0 ≤ x.tmod 4 ∧ x.tmod 4 < 4 := ⟨Int.tmod_nonneg 4 (by omega), Int.tmod_lt_of_pos x (by omega)⟩
theorem mq_code {p : Int × Nat} {n : Nat} (h : 1 ≤ p.1 ∧ p.1 ≤ 4) (hn : n < 2048) : putCode ⟨1 + p.1.tmod 4, p.1, [(p.2 : Int)]⟩ n = 0 := by
  have := tmod4 h
  unfold putCode
  rw [if_pos ⟨by simp only []; omega, by simp only []; omega⟩, if_neg (by simp), if_neg (by omega)]
theorem mqs_put {ps : List (Int × Nat)} {p : Int × Nat} (h : 1 ≤ p.1 ∧ p.1 ≤ 4) (hn : ps.length < 2048) : bput (mqs ps) ⟨1 + p.1.tmod 4, p.1, [(p.2 : Int)]⟩ = mqs (ps ++ [p]) := by
  unfold bput
  rw [mqs_len, if_pos (mq_code h hn)]
  simp [mqs, mq]
theorem cn_le (ps : List (Int × Nat)) (j : Nat) : cn ps j ≤ ps.length := List.countP_le_length
theorem cnt_at (ps : List (Int × Nat)) {j : Nat} (h : j < 200) : (cnt ps)[j]? = some (.int .i64 (cn ps j : Int)) := by simp [cnt, h]
theorem cnt_len (ps : List (Int × Nat)) : (cnt ps).length = 200 := by simp [cnt]
theorem cnt_set (ps qs : List (Int × Nat)) (j v : Nat) (hj : j < 200) (h : ∀ i, cn qs i = if i = j then v else cn ps i) : putAt (cnt ps) j [.int .i64 (v : Int)] = cnt qs := by
  show (cnt ps).set j _ = _
  apply List.ext_getElem?
  intro i
  rw [List.getElem?_set, cnt_len]
  by_cases hi : i < 200
  · rw [cnt_at qs hi, cnt_at ps hi, h i]
    by_cases e : i = j
    · subst e; simp [hi]
    · rw [if_neg (Ne.symm e), if_neg e]
  · rw [List.getElem?_eq_none (by rw [cnt_len]; omega), List.getElem?_eq_none (by rw [cnt_len]; omega)]
    split
    · omega
    · rfl
theorem cn_erase {ps : List (Int × Nat)} {q : Nat} {p : Int × Nat} (h : ps[q]? = some p) (j : Nat) : cn ps j = cn (ps.eraseIdx q) j + if p.2 = j then 1 else 0 := by
  induction ps generalizing q with
  | nil => simp at h
  | cons a ps ih =>
    cases q with
    | zero =>
      simp at h; subst h
      simp only [cn, List.eraseIdx_zero, List.tail_cons, List.countP_cons]
      simp
    | succ q =>
      have := ih (q := q) (by simpa using h)
      simp only [cn, List.eraseIdx_cons_succ, List.countP_cons] at *
      omega
theorem cnt_add (ps : List (Int × Nat)) (p : Int × Nat) (h : p.2 < 200) : putAt (cnt ps) p.2 [.int .i64 ((cn ps p.2 + 1 : Nat) : Int)] = cnt (ps ++ [p]) :=
  cnt_set ps _ _ _ h fun i => by
    simp only [cn, List.countP_append, List.countP_singleton]
    by_cases e : i = p.2
    · subst e; simp
    · rw [if_neg e, if_neg (by simpa using Ne.symm e)]; rfl
theorem cn_pos {ps : List (Int × Nat)} {q : Nat} {p : Int × Nat} (h : ps[q]? = some p) : 1 ≤ cn ps p.2 := by
  have := cn_erase h p.2
  simp at this; omega
theorem cnt_del {ps : List (Int × Nat)} {q : Nat} {p : Int × Nat} (h : ps[q]? = some p) (h2 : p.2 < 200) : putAt (cnt ps) p.2 [.int .i64 ((cn ps p.2 - 1 : Nat) : Int)] = cnt (ps.eraseIdx q) :=
  cnt_set ps _ _ _ h2 fun i => by
    have := cn_erase h i
    by_cases e : i = p.2
    · subst e; simp at this ⊢; omega
    · rw [if_neg e]; rw [if_neg (Ne.symm e)] at this; omega
theorem once_q {i n : Int} (hn : 0 < n) : ∃ q : Nat, i % n = (q : Int) ∧ (q : Int) < n := ⟨(i % n).toNat, by have := Int.emod_nonneg i (show n ≠ 0 by omega); omega, by have := Int.emod_nonneg i (show n ≠ 0 by omega); have := Int.emod_lt_of_pos i hn; omega⟩

theorem _root_.Try.zeroValue44 (w : World) : (zeroValue 44).run Try.prog w = .ok (.agg #[.int .i64 0, .int .i64 0, .int .i64 0, .int .i64 0, .int .i64 0, .int .i64 0, .int .i64 0, .int .i64 0, .int .i64 0, .int .i64 0, .int .i64 0, .int .i64 0, .int .i64 0, .int .i64 0, .int .i64 0, .int .i64 0, .int .i64 0, .int .i64 0, .int .i64 0, .int .i64 0, .int .i64 0, .int .i64 0, .int .i64 0, .int .i64 0, .int .i64 0, .int .i64 0, .int .i64 0, .int .i64 0, .int .i64 0, .int .i64 0, .int .i64 0, .int .i64 0, .int .i64 0, .int .i64 0, .int .i64 0, .int .i64 0, .int .i64 0, .int .i64 0, .int .i64 0, .int .i64 0, .int .i64 0, .int .i64 0, .int .i64 0, .int .i64 0, .int .i64 0, .int .i64 0, .int .i64 0, .int .i64 0, .int .i64 0, .int .i64 0, .int .i64 0, .int .i64 0, .int .i64 0, .int .i64 0, .int .i64 0, .int .i64 0, .int .i64 0, .int .i64 0, .int .i64 0, .int .i64 0, .int .i64 0, .int .i64 0, .int .i64 0, .int .i64 0, .int .i64 0, .int .i64 0, .int .i64 0, .int .i64 0, .int .i64 0, .int .i64 0, .int .i64 0, .int .i64 0, .int .i64 0, .int .i64 0, .int .i64 0, .int .i64 0, .int .i64 0, .int .i64 0, .int .i64 0, .int .i64 0, .int .i64 0, .int .i64 0, .int .i64 0, .int .i64 0, .int .i64 0, .int .i64 0, .int .i64 0, .int .i64 0, .int .i64 0, .int .i64 0, .int .i64 0, .int .i64 0, .int .i64 0, .int .i64 0, .int .i64 0, .int .i64 0, .int .i64 0, .int .i64 0, .int .i64 0, .int .i64 0, .int .i64 0, .int .i64 0, .int .i64 0, .int .i64 0, .int .i64 0, .int .i64 0, .int .i64 0, .int .i64 0, .int .i64 0, .int .i64 0, .int .i64 0, .int .i64 0, .int .i64 0, .int .i64 0, .int .i64 0, .int .i64 0, .int .i64 0, .int .i64 0, .int .i64 0, .int .i64 0, .int .i64 0, .int .i64 0, .int .i64 0, .int .i64 0, .int .i64 0, .int .i64 0, .int .i64 0, .int .i64 0, .int .i64 0, .int .i64 0, .int .i64 0, .int .i64 0, .int .i64 0, .int .i64 0, .int .i64 0, .int .i64 0, .int .i64 0, .int .i64 0, .int .i64 0, .int .i64 0, .int .i64 0, .int .i64 0, .int .i64 0, .int .i64 0, .int .i64 0, .int .i64 0, .int .i64 0, .int .i64 0, .int .i64 0, .int .i64 0, .int .i64 0, .int .i64 0, .int .i64 0, .int .i64 0, .int .i64 0, .int .i64 0, .int .i64 0, .int .i64 0, .int .i64 0, .int .i64 0, .int .i64 0, .int .i64 0, .int .i64 0, .int .i64 0, .int .i64 0, .int .i64 0, .int .i64 0, .int .i64 0, .int .i64 0, .int .i64 0, .int .i64 0, .int .i64 0, .int .i64 0, .int .i64 0, .int .i64 0, .int .i64 0, .int .i64 0, .int .i64 0, .int .i64 0, .int .i64 0, .int .i64 0, .int .i64 0, .int .i64 0, .int .i64 0, .int .i64 0, .int .i64 0, .int .i64 0, .int .i64 0, .int .i64 0, .int .i64 0, .int .i64 0, .int .i64 0, .int .i64 0, .int .i64 0, .int .i64 0, .int .i64 0, .int .i64 0, .int .i64 0, .int .i64 0, .int .i64 0]) w := by kernel_rfl
set_option maxRecDepth 100000 in
theorem bagOnce_pos (W : World) (L : List Chunk) (w : World) (ad : Addr) (n c : Nat) (ds : List Dd) (hr : Knows L fun w => Reads w 5 (some ad) n (deeds ds)) (hdn : ds.length = n) (hnc : n ≤ c) (hn : n ≤ 140737488351232) (s : St W L w) :
    Calls Try.prog 4 #[.slice (some ad) n c] w fun e w' => e = .returned (.bool true) ∧ St W L w' := by
  refine enter_args (l := [.slice (some ad) n c]) Try.func4 rfl rfl (Nat.le_of_ble_eq_true rfl) ?_
  intro a ha; replace ha : Has a 199 [(0, .slice (some ad) n c)] := ha
  refine wp_seq ?_
  refine wp_region_lit ?_
  refine st_val (.bool false) ha (by kernel_rfl) (by kernel_rfl) ?_
  clear ha; intro a ha
  refine wpList_nil ?_
  refine then_normal ?_
  refine wp_seq ?_
  refine wp_seq ?_
  refine wp_region_lit ?_
  refine st_call ha (by kernel_rfl) (by kernel_rfl) (works_true W _ w s) ?_
  rintro _ w ⟨rfl, s⟩
  replace s : St W (L) w := s
  refine ⟨_, rfl, ?_⟩; clear ha; intro a ha
  refine st_val (.bool false) ha (by kernel_rfl) (by kernel_rfl) ?_
  clear ha; intro a ha
  refine wpList_nil ?_
  refine then_normal ?_
  refine wp_false ha rfl (by kernel_rfl) ?_
  refine wp_skip ?_
  refine then_normal ?_
  refine wp_seq ?_
  refine wp_region_lit ?_
  refine st_call ha (by kernel_rfl) (by kernel_rfl) (new_bag W _ w s) ?_
  rintro _ w ⟨g1, rfl, s⟩
  replace s : St W (Bag g1 [] :: L) w := s
  refine ⟨_, rfl, ?_⟩; clear ha; intro a ha
  refine st_val (.pointer (some ⟨g1, 0, none⟩)) ha (by kernel_rfl) (by kernel_rfl) ?_
  clear ha; intro a ha
  refine wpList_nil ?_
  refine then_normal ?_
  refine wp_seq ?_
  refine wp_region_lit ?_
  refine st_ex ha (by kernel_rfl) (ex_alloc [.int .i64 0, .int .i64 0, .int .i64 0, .int .i64 0, .int .i64 0, .int .i64 0, .int .i64 0, .int .i64 0, .int .i64 0, .int .i64 0, .int .i64 0, .int .i64 0, .int .i64 0, .int .i64 0, .int .i64 0, .int .i64 0, .int .i64 0, .int .i64 0, .int .i64 0, .int .i64 0, .int .i64 0, .int .i64 0, .int .i64 0, .int .i64 0, .int .i64 0, .int .i64 0, .int .i64 0, .int .i64 0, .int .i64 0, .int .i64 0, .int .i64 0, .int .i64 0, .int .i64 0, .int .i64 0, .int .i64 0, .int .i64 0, .int .i64 0, .int .i64 0, .int .i64 0, .int .i64 0, .int .i64 0, .int .i64 0, .int .i64 0, .int .i64 0, .int .i64 0, .int .i64 0, .int .i64 0, .int .i64 0, .int .i64 0, .int .i64 0, .int .i64 0, .int .i64 0, .int .i64 0, .int .i64 0, .int .i64 0, .int .i64 0, .int .i64 0, .int .i64 0, .int .i64 0, .int .i64 0, .int .i64 0, .int .i64 0, .int .i64 0, .int .i64 0, .int .i64 0, .int .i64 0, .int .i64 0, .int .i64 0, .int .i64 0, .int .i64 0, .int .i64 0, .int .i64 0, .int .i64 0, .int .i64 0, .int .i64 0, .int .i64 0, .int .i64 0, .int .i64 0, .int .i64 0, .int .i64 0, .int .i64 0, .int .i64 0, .int .i64 0, .int .i64 0, .int .i64 0, .int .i64 0, .int .i64 0, .int .i64 0, .int .i64 0, .int .i64 0, .int .i64 0, .int .i64 0, .int .i64 0, .int .i64 0, .int .i64 0, .int .i64 0, .int .i64 0, .int .i64 0, .int .i64 0, .int .i64 0, .int .i64 0, .int .i64 0, .int .i64 0, .int .i64 0, .int .i64 0, .int .i64 0, .int .i64 0, .int .i64 0, .int .i64 0, .int .i64 0, .int .i64 0, .int .i64 0, .int .i64 0, .int .i64 0, .int .i64 0, .int .i64 0, .int .i64 0, .int .i64 0, .int .i64 0, .int .i64 0, .int .i64 0, .int .i64 0, .int .i64 0, .int .i64 0, .int .i64 0, .int .i64 0, .int .i64 0, .int .i64 0, .int .i64 0, .int .i64 0, .int .i64 0, .int .i64 0, .int .i64 0, .int .i64 0, .int .i64 0, .int .i64 0, .int .i64 0, .int .i64 0, .int .i64 0, .int .i64 0, .int .i64 0, .int .i64 0, .int .i64 0, .int .i64 0, .int .i64 0, .int .i64 0, .int .i64 0, .int .i64 0, .int .i64 0, .int .i64 0, .int .i64 0, .int .i64 0, .int .i64 0, .int .i64 0, .int .i64 0, .int .i64 0, .int .i64 0, .int .i64 0, .int .i64 0, .int .i64 0, .int .i64 0, .int .i64 0, .int .i64 0, .int .i64 0, .int .i64 0, .int .i64 0, .int .i64 0, .int .i64 0, .int .i64 0, .int .i64 0, .int .i64 0, .int .i64 0, .int .i64 0, .int .i64 0, .int .i64 0, .int .i64 0, .int .i64 0, .int .i64 0, .int .i64 0, .int .i64 0, .int .i64 0, .int .i64 0, .int .i64 0, .int .i64 0, .int .i64 0, .int .i64 0, .int .i64 0, .int .i64 0, .int .i64 0, .int .i64 0, .int .i64 0, .int .i64 0, .int .i64 0, .int .i64 0, .int .i64 0, .int .i64 0, .int .i64 0, .int .i64 0, .int .i64 0, .int .i64 0] s rfl (Try.zeroValue44 _) (by kernel_rfl)) ?_
  clear ha; rintro _ w a ⟨g2, rfl, s⟩ ha
  replace s : St W (.blk g2 [.int .i64 0, .int .i64 0, .int .i64 0, .int .i64 0, .int .i64 0, .int .i64 0, .int .i64 0, .int .i64 0, .int .i64 0, .int .i64 0, .int .i64 0, .int .i64 0, .int .i64 0, .int .i64 0, .int .i64 0, .int .i64 0, .int .i64 0, .int .i64 0, .int .i64 0, .int .i64 0, .int .i64 0, .int .i64 0, .int .i64 0, .int .i64 0, .int .i64 0, .int .i64 0, .int .i64 0, .int .i64 0, .int .i64 0, .int .i64 0, .int .i64 0, .int .i64 0, .int .i64 0, .int .i64 0, .int .i64 0, .int .i64 0, .int .i64 0, .int .i64 0, .int .i64 0, .int .i64 0, .int .i64 0, .int .i64 0, .int .i64 0, .int .i64 0, .int .i64 0, .int .i64 0, .int .i64 0, .int .i64 0, .int .i64 0, .int .i64 0, .int .i64 0, .int .i64 0, .int .i64 0, .int .i64 0, .int .i64 0, .int .i64 0, .int .i64 0, .int .i64 0, .int .i64 0, .int .i64 0, .int .i64 0, .int .i64 0, .int .i64 0, .int .i64 0, .int .i64 0, .int .i64 0, .int .i64 0, .int .i64 0, .int .i64 0, .int .i64 0, .int .i64 0, .int .i64 0, .int .i64 0, .int .i64 0, .int .i64 0, .int .i64 0, .int .i64 0, .int .i64 0, .int .i64 0, .int .i64 0, .int .i64 0, .int .i64 0, .int .i64 0, .int .i64 0, .int .i64 0, .int .i64 0, .int .i64 0, .int .i64 0, .int .i64 0, .int .i64 0, .int .i64 0, .int .i64 0, .int .i64 0, .int .i64 0, .int .i64 0, .int .i64 0, .int .i64 0, .int .i64 0, .int .i64 0, .int .i64 0, .int .i64 0, .int .i64 0, .int .i64 0, .int .i64 0, .int .i64 0, .int .i64 0, .int .i64 0, .int .i64 0, .int .i64 0, .int .i64 0, .int .i64 0, .int .i64 0, .int .i64 0, .int .i64 0, .int .i64 0, .int .i64 0, .int .i64 0, .int .i64 0, .int .i64 0, .int .i64 0, .int .i64 0, .int .i64 0, .int .i64 0, .int .i64 0, .int .i64 0, .int .i64 0, .int .i64 0, .int .i64 0, .int .i64 0, .int .i64 0, .int .i64 0, .int .i64 0, .int .i64 0, .int .i64 0, .int .i64 0, .int .i64 0, .int .i64 0, .int .i64 0, .int .i64 0, .int .i64 0, .int .i64 0, .int .i64 0, .int .i64 0, .int .i64 0, .int .i64 0, .int .i64 0, .int .i64 0, .int .i64 0, .int .i64 0, .int .i64 0, .int .i64 0, .int .i64 0, .int .i64 0, .int .i64 0, .int .i64 0, .int .i64 0, .int .i64 0, .int .i64 0, .int .i64 0, .int .i64 0, .int .i64 0, .int .i64 0, .int .i64 0, .int .i64 0, .int .i64 0, .int .i64 0, .int .i64 0, .int .i64 0, .int .i64 0, .int .i64 0, .int .i64 0, .int .i64 0, .int .i64 0, .int .i64 0, .int .i64 0, .int .i64 0, .int .i64 0, .int .i64 0, .int .i64 0, .int .i64 0, .int .i64 0, .int .i64 0, .int .i64 0, .int .i64 0, .int .i64 0, .int .i64 0, .int .i64 0, .int .i64 0, .int .i64 0, .int .i64 0, .int .i64 0, .int .i64 0, .int .i64 0, .int .i64 0, .int .i64 0, .int .i64 0, .int .i64 0, .int .i64 0, .int .i64 0, .int .i64 0] 44 :: Bag g1 [] :: L) w := s
  refine wpList_nil ?_
  refine then_normal ?_
  refine wp_seq ?_
  refine wp_region_lit ?_
  refine st_val (.int .i64 0) ha (by kernel_rfl) (by kernel_rfl) ?_
  clear ha; intro a ha
  refine wpList_nil ?_
  refine then_normal ?_
  refine wp_seq ?_
  refine wp_seq ?_
  refine wp_region_lit ?_
  refine st_val (.int .i64 0) ha (by kernel_rfl) (by kernel_rfl) ?_
  clear ha; intro a ha
  refine wpList_nil ?_
  refine then_normal ?_
  refine wp_block ?_
  replace s := s.at_ (j := 1) rfl
  replace s : St W (Bag g1 [] :: .blk g2 [.int .i64 0, .int .i64 0, .int .i64 0, .int .i64 0, .int .i64 0, .int .i64 0, .int .i64 0, .int .i64 0, .int .i64 0, .int .i64 0, .int .i64 0, .int .i64 0, .int .i64 0, .int .i64 0, .int .i64 0, .int .i64 0, .int .i64 0, .int .i64 0, .int .i64 0, .int .i64 0, .int .i64 0, .int .i64 0, .int .i64 0, .int .i64 0, .int .i64 0, .int .i64 0, .int .i64 0, .int .i64 0, .int .i64 0, .int .i64 0, .int .i64 0, .int .i64 0, .int .i64 0, .int .i64 0, .int .i64 0, .int .i64 0, .int .i64 0, .int .i64 0, .int .i64 0, .int .i64 0, .int .i64 0, .int .i64 0, .int .i64 0, .int .i64 0, .int .i64 0, .int .i64 0, .int .i64 0, .int .i64 0, .int .i64 0, .int .i64 0, .int .i64 0, .int .i64 0, .int .i64 0, .int .i64 0, .int .i64 0, .int .i64 0, .int .i64 0, .int .i64 0, .int .i64 0, .int .i64 0, .int .i64 0, .int .i64 0, .int .i64 0, .int .i64 0, .int .i64 0, .int .i64 0, .int .i64 0, .int .i64 0, .int .i64 0, .int .i64 0, .int .i64 0, .int .i64 0, .int .i64 0, .int .i64 0, .int .i64 0, .int .i64 0, .int .i64 0, .int .i64 0, .int .i64 0, .int .i64 0, .int .i64 0, .int .i64 0, .int .i64 0, .int .i64 0, .int .i64 0, .int .i64 0, .int .i64 0, .int .i64 0, .int .i64 0, .int .i64 0, .int .i64 0, .int .i64 0, .int .i64 0, .int .i64 0, .int .i64 0, .int .i64 0, .int .i64 0, .int .i64 0, .int .i64 0, .int .i64 0, .int .i64 0, .int .i64 0, .int .i64 0, .int .i64 0, .int .i64 0, .int .i64 0, .int .i64 0, .int .i64 0, .int .i64 0, .int .i64 0, .int .i64 0, .int .i64 0, .int .i64 0, .int .i64 0, .int .i64 0, .int .i64 0, .int .i64 0, .int .i64 0, .int .i64 0, .int .i64 0, .int .i64 0, .int .i64 0, .int .i64 0, .int .i64 0, .int .i64 0, .int .i64 0, .int .i64 0, .int .i64 0, .int .i64 0, .int .i64 0, .int .i64 0, .int .i64 0, .int .i64 0, .int .i64 0, .int .i64 0, .int .i64 0, .int .i64 0, .int .i64 0, .int .i64 0, .int .i64 0, .int .i64 0, .int .i64 0, .int .i64 0, .int .i64 0, .int .i64 0, .int .i64 0, .int .i64 0, .int .i64 0, .int .i64 0, .int .i64 0, .int .i64 0, .int .i64 0, .int .i64 0, .int .i64 0, .int .i64 0, .int .i64 0, .int .i64 0, .int .i64 0, .int .i64 0, .int .i64 0, .int .i64 0, .int .i64 0, .int .i64 0, .int .i64 0, .int .i64 0, .int .i64 0, .int .i64 0, .int .i64 0, .int .i64 0, .int .i64 0, .int .i64 0, .int .i64 0, .int .i64 0, .int .i64 0, .int .i64 0, .int .i64 0, .int .i64 0, .int .i64 0, .int .i64 0, .int .i64 0, .int .i64 0, .int .i64 0, .int .i64 0, .int .i64 0, .int .i64 0, .int .i64 0, .int .i64 0, .int .i64 0, .int .i64 0, .int .i64 0, .int .i64 0, .int .i64 0, .int .i64 0, .int .i64 0, .int .i64 0, .int .i64 0, .int .i64 0, .int .i64 0, .int .i64 0, .int .i64 0] 44 :: L) w := s
  replace s : St W (Bag g1 (mqs []) :: .blk g2 (cnt []) 44 :: L) w := by rw [show cnt [] = _ from by kernel_rfl]; exact s
  refine wp_loopG (G := (Nat × List (Int × Nat))) (fun ⟨k, ps⟩ a w => Has a 199 [(0, .slice (some ad) n c), (3, .pointer (some ⟨g1, 0, none⟩)), (4, .pointer (some ⟨g2, 0, none⟩)), (5, .int .i64 ((ps.length : Nat) : Int)), (6, .int .i64 ((k : Nat) : Int))] ∧ St W (Bag g1 (mqs ps) :: .blk g2 (cnt ps) 44 :: L) w ∧ (k ≤ 200 ∧ Once ps k)) (fun ⟨k, ps⟩ => 200 - k) (0, []) ?_ ?_
  · exact ⟨(Has.cons ha (by kernel_rfl) (by kernel_rfl) (Has.cons ha (by kernel_rfl) (by kernel_rfl) (Has.cons ha (by kernel_rfl) (by kernel_rfl) (Has.cons ha (by kernel_rfl) (by kernel_rfl) (Has.cons ha (by kernel_rfl) (by kernel_rfl) (Has.nil ha)))))), s, ⟨Nat.zero_le _, Once.nil⟩⟩
  · clear ha s; rintro ⟨k, ps⟩ a w ⟨ha, s, hp⟩
    refine wp_seq ?_
    refine wp_seq ?_
    refine wp_region_lit ?_
    refine st_val (.int .i64 ((k : Nat) : Int)) ha (by kernel_rfl) (by kernel_rfl) ?_
    clear ha; intro a ha
    refine st_val (.slice (some ad) n c) ha (by kernel_rfl) (by kernel_rfl) ?_
    clear ha; intro a ha
    refine st_val (.int .i64 ((n : Nat) : Int)) ha (by kernel_rfl) (by kernel_rfl) ?_
    clear ha; intro a ha
    refine st_val (.bool (decide (((k : Nat) : Int) < ((n : Nat) : Int)))) ha (by kernel_rfl) (by kernel_rfl) ?_
    clear ha; intro a ha
    refine st_val (.bool (decide (((k : Nat) : Int) < ((n : Nat) : Int)))) ha (by kernel_rfl) (by kernel_rfl) ?_
    clear ha; intro a ha
    rcases Bool.eq_false_or_eq_true (decide (((k : Nat) : Int) < ((n : Nat) : Int))) with hb | hb
    · rw [hb] at ha; replace hb : (((k : Nat) : Int) < ((n : Nat) : Int)) := of_decide_eq_true hb
      have ho := hp.2
      have hol := ho.len
      have hkn : k < n := by omega
      obtain ⟨d, hd⟩ : ∃ d, ds[k]? = some d := ⟨_, List.getElem?_eq_getElem (by omega)⟩
      obtain ⟨q, hq, hq2⟩ := once_q (i := d.i) (n := ((ps.length + 1 : Nat) : Int)) (by omega)
      obtain ⟨r, hr4, hr0, hr1⟩ : ∃ r : Int, d.i % 4 = r ∧ 0 ≤ r ∧ (1 ≤ 1 + r ∧ 1 + r ≤ 4) := ⟨_, rfl, by omega, by omega, by omega⟩
      have hr5 := tmod4 hr1
      have hck := cn_le ps k
      refine st_val (.int .i64 ((k : Nat) : Int)) ha (by kernel_rfl) (by kernel_rfl) ?_
      clear ha; intro a ha
      refine st_val (.bool (decide (((k : Nat) : Int) < (200 : Int)))) ha (by kernel_rfl) (by kernel_rfl) ?_
      clear ha; intro a ha
      refine st_val (.bool (decide (((k : Nat) : Int) < (200 : Int)))) ha (by kernel_rfl) (by kernel_rfl) ?_
      clear ha; intro a ha
      refine wpList_nil ?_
      refine then_normal ?_
      refine wp_part (decide (((k : Nat) : Int) < (200 : Int))) ha rfl (by kernel_rfl) (fun hb => ?_) (fun hb => ?_)
      · rw [hb] at ha; replace hb : (((k : Nat) : Int) < (200 : Int)) := of_decide_eq_true hb
        refine wp_skip ?_
        refine then_normal ?_
        refine wp_seq ?_
        refine wp_block ?_
        refine wp_seq ?_
        refine wp_seq ?_
        refine wp_region_lit ?_
        refine st_val (.slice (some ad) n c) ha (by kernel_rfl) (by kernel_rfl) ?_
        clear ha; intro a ha
        refine st_val (.int .i64 ((k : Nat) : Int)) ha (by kernel_rfl) (by kernel_rfl) ?_
        clear ha; intro a ha
        refine st_val (.pointer (some (ad.add (k * 5)))) ha (by kernel_rfl) (run_indexAddr' (kd := .i64) (n := n) (c := c) k rfl Try.underlying22 Try.sizeOf32 (by kernel_rfl) (by kernel_rfl) rfl (by first | assumption | omega) _) ?_
        clear ha; intro a ha
        refine st_val (.pointer (some (ad.add (k * 5 + 0)))) ha (by kernel_rfl) (run_fieldAddr_at (i := k * 5) (off := 0) rfl Try.underlying32 rfl Try.sizeOf3 (by kernel_rfl) _) ?_
        clear ha; intro a ha
        refine st_val (.int .i64 d.k) ha (by kernel_rfl) (run_loadAt1 (i := k * 5 + 0) (hr _ (Sat.drops (A := [Bag g1 (mqs ps), .blk g2 (cnt ps) 44]) s.sat)) rfl (by kernel_rfl) Try.isAgg3 (by rw [deeds_at hd (by omega)]; rfl)) ?_
        clear ha; intro a ha
        refine st_call ha (by kernel_rfl) (by kernel_rfl) (bring_pos W _ w d.k 8 (by omega) (by omega) s) ?_
        rintro _ w ⟨rfl, s⟩
        replace s : St W (Bag g1 (mqs ps) :: .blk g2 (cnt ps) 44 :: L) w := s
        refine ⟨_, rfl, ?_⟩; clear ha; intro a ha
        refine st_val (.int .i64 (d.k % 8)) ha (by kernel_rfl) (by kernel_rfl) ?_
        clear ha; intro a ha
        refine wpList_nil ?_
        refine then_normal ?_
        refine wp_seq ?_
        refine wp_region_lit ?_
        refine st_val (.int .i64 (d.k % 8)) ha (by kernel_rfl) (by kernel_rfl) ?_
        clear ha; intro a ha
        refine wpList_nil ?_
        refine then_normal ?_
        refine wp_block ?_
        refine wp_seq ?_
        refine wp_seq ?_
        refine wp_region_lit ?_
        refine st_val (.bool ((d.k % 8) == (5 : Int))) ha (by kernel_rfl) (by kernel_rfl) ?_
        clear ha; intro a ha
        refine st_val (.bool ((d.k % 8) == (5 : Int))) ha (by kernel_rfl) (by kernel_rfl) ?_
        clear ha; intro a ha
        refine wpList_nil ?_
        refine then_normal ?_
        refine wp_part ((d.k % 8) == (5 : Int)) ha rfl (by kernel_rfl) (fun hb => ?_) (fun hb => ?_)
        · rw [hb] at ha; have hb_ := hb; replace hb := eq_of_beq hb
          refine wp_skip ?_
          refine then_normal ?_
          refine wp_true ha rfl (by kernel_rfl) ?_
          refine wp_seq ?_
          refine wp_region_lit ?_
          refine st_val (.pointer (some ⟨g1, 0, none⟩)) ha (by kernel_rfl) (by kernel_rfl) ?_
          clear ha; intro a ha
          refine st_val (.slice (some ad) n c) ha (by kernel_rfl) (by kernel_rfl) ?_
          clear ha; intro a ha
          refine st_val (.int .i64 ((k : Nat) : Int)) ha (by kernel_rfl) (by kernel_rfl) ?_
          clear ha; intro a ha
          refine st_val (.pointer (some (ad.add (k * 5)))) ha (by kernel_rfl) (run_indexAddr' (kd := .i64) (n := n) (c := c) k rfl Try.underlying22 Try.sizeOf32 (by kernel_rfl) (by kernel_rfl) rfl (by first | assumption | omega) _) ?_
          clear ha; intro a ha
          refine st_val (.pointer (some (ad.add (k * 5 + 1)))) ha (by kernel_rfl) (run_fieldAddr_at (i := k * 5) (off := 1) rfl Try.underlying32 rfl Try.sizeOf3 (by kernel_rfl) _) ?_
          clear ha; intro a ha
          refine st_val (.int .i64 d.i) ha (by kernel_rfl) (run_loadAt1 (i := k * 5 + 1) (hr _ (Sat.drops (A := [Bag g1 (mqs ps), .blk g2 (cnt ps) 44]) s.sat)) rfl (by kernel_rfl) Try.isAgg3 (by rw [deeds_at hd (by omega)]; rfl)) ?_
          clear ha; intro a ha
          refine st_val (.int .i64 ((ps.length : Nat) : Int)) ha (by kernel_rfl) (by kernel_rfl) ?_
          clear ha; intro a ha
          refine st_val (.int .i64 ((ps.length + 1 : Nat) : Int)) ha (by kernel_rfl) (run_arith (((ps.length : Nat) : Int) + (1 : Int)) ((ps.length + 1 : Nat) : Int) rfl (by kernel_rfl) (by kernel_rfl) (.inl ⟨rfl, rfl⟩) (by rw [wrap64_in (by omega)]; try omega) _) ?_
          clear ha; intro a ha
          refine st_call ha (by kernel_rfl) (by kernel_rfl) (bring_to W _ w d.i ((ps.length + 1 : Nat) : Int) ((q : Nat) : Int) hq (by omega) (by omega) s) ?_
          rintro _ w ⟨rfl, s⟩
          replace s : St W (Bag g1 (mqs ps) :: .blk g2 (cnt ps) 44 :: L) w := s
          refine ⟨_, rfl, ?_⟩; clear ha; intro a ha
          by_cases hin : q < ps.length
          · obtain ⟨p, hp_⟩ : ∃ p, ps[q]? = some p := ⟨_, List.getElem?_eq_getElem hin⟩
            have hpm := ho.to p (List.mem_of_getElem? hp_)
            have hp4 := tmod4 ⟨hpm.1, hpm.2.1⟩
            have hc1 := cn_pos hp_
            have hc2 := cn_le ps p.2
            refine st_call ha (by kernel_rfl) (by kernel_rfl) (take_to W _ w g1 (mqs ps) q (1 + p.1.tmod 4) p.1 [((p.2 : Nat) : Int)] 1 (mqs (ps.eraseIdx q)) (mqs_at hp_) rfl (mqs_erase ps q) (mqs_ok (by have := ho.len; omega)) s) ?_
            rintro _ w ⟨A3, c4, rfl, s⟩
            replace s : St W (Own 5 1 A3 1 c4 (u8s [((p.2 : Nat) : Int)]) :: Bag g1 (mqs (ps.eraseIdx q)) :: .blk g2 (cnt ps) 44 :: L) w := s
            refine ⟨_, rfl, ?_⟩; clear ha; intro a ha
            refine st_val (.tuple #[.agg #[.int .i64 (1 + p.1.tmod 4), .int .i64 p.1, .slice A3 1 c4], .bool true]) ha (by kernel_rfl) (by kernel_rfl) ?_
            clear ha; intro a ha
            refine st_val (.agg #[.int .i64 (1 + p.1.tmod 4), .int .i64 p.1, .slice A3 1 c4]) ha (by kernel_rfl) (by kernel_rfl) ?_
            clear ha; intro a ha
            refine st_val (.bool true) ha (by kernel_rfl) (by kernel_rfl) ?_
            clear ha; intro a ha
            refine st_ex ha (by kernel_rfl) (ex_alloc [.int .i64 0, .int .i64 0, .slice none 0 0] s rfl (Try.zeroValue29 _) (by kernel_rfl)) ?_
            clear ha; rintro _ w a ⟨g5, rfl, s⟩ ha
            replace s : St W (.blk g5 [.int .i64 0, .int .i64 0, .slice none 0 0] 29 :: Own 5 1 A3 1 c4 (u8s [((p.2 : Nat) : Int)]) :: Bag g1 (mqs (ps.eraseIdx q)) :: .blk g2 (cnt ps) 44 :: L) w := s
            refine st_exd ha (by kernel_rfl) (ex_store (of_ := 0) 0 [.int .i64 (1 + p.1.tmod 4), .int .i64 p.1, .slice A3 1 c4] s rfl rfl (by kernel_rfl) (by kernel_rfl) (Try.sizeOf29 _) rfl (by simp [Value.oneCell']) (Nat.le_of_ble_eq_true rfl)) ?_
            clear ha; rintro w a s ha
            replace s : St W (.blk g5 [.int .i64 (1 + p.1.tmod 4), .int .i64 p.1, .slice A3 1 c4] 29 :: Own 5 1 A3 1 c4 (u8s [((p.2 : Nat) : Int)]) :: Bag g1 (mqs (ps.eraseIdx q)) :: .blk g2 (cnt ps) 44 :: L) w := s
            refine st_val (.bool true) ha (by kernel_rfl) (by kernel_rfl) ?_
            clear ha; intro a ha
            refine wpList_nil ?_
            refine then_normal ?_
            refine wp_seq ?_
            refine wp_seq ?_
            refine wp_region_lit ?_
            refine st_val (.bool true) ha (by kernel_rfl) (by kernel_rfl) ?_
            clear ha; intro a ha
            refine st_val (.slice (some ad) n c) ha (by kernel_rfl) (by kernel_rfl) ?_
            clear ha; intro a ha
            refine st_val (.int .i64 ((k : Nat) : Int)) ha (by kernel_rfl) (by kernel_rfl) ?_
            clear ha; intro a ha
            refine st_val (.pointer (some (ad.add (k * 5)))) ha (by kernel_rfl) (run_indexAddr' (kd := .i64) (n := n) (c := c) k rfl Try.underlying22 Try.sizeOf32 (by kernel_rfl) (by kernel_rfl) rfl (by first | assumption | omega) _) ?_
            clear ha; intro a ha
            refine st_val (.pointer (some (ad.add (k * 5 + 1)))) ha (by kernel_rfl) (run_fieldAddr_at (i := k * 5) (off := 1) rfl Try.underlying32 rfl Try.sizeOf3 (by kernel_rfl) _) ?_
            clear ha; intro a ha
            refine st_val (.int .i64 d.i) ha (by kernel_rfl) (run_loadAt1 (i := k * 5 + 1) (hr _ (Sat.drops (A := [.blk g5 [.int .i64 (1 + p.1.tmod 4), .int .i64 p.1, .slice A3 1 c4] 29, Own 5 1 A3 1 c4 (u8s [((p.2 : Nat) : Int)]), Bag g1 (mqs (ps.eraseIdx q)), .blk g2 (cnt ps) 44]) s.sat)) rfl (by kernel_rfl) Try.isAgg3 (by rw [deeds_at hd (by omega)]; rfl)) ?_
            clear ha; intro a ha
            refine st_val (.int .i64 ((ps.length : Nat) : Int)) ha (by kernel_rfl) (by kernel_rfl) ?_
            clear ha; intro a ha
            refine st_val (.int .i64 ((ps.length + 1 : Nat) : Int)) ha (by kernel_rfl) (run_arith (((ps.length : Nat) : Int) + (1 : Int)) ((ps.length + 1 : Nat) : Int) rfl (by kernel_rfl) (by kernel_rfl) (.inl ⟨rfl, rfl⟩) (by rw [wrap64_in (by omega)]; try omega) _) ?_
            clear ha; intro a ha
            refine st_call ha (by kernel_rfl) (by kernel_rfl) (bring_to W _ w d.i ((ps.length + 1 : Nat) : Int) ((q : Nat) : Int) hq (by omega) (by omega) s) ?_
            rintro _ w ⟨rfl, s⟩
            replace s : St W (.blk g5 [.int .i64 (1 + p.1.tmod 4), .int .i64 p.1, .slice A3 1 c4] 29 :: Own 5 1 A3 1 c4 (u8s [((p.2 : Nat) : Int)]) :: Bag g1 (mqs (ps.eraseIdx q)) :: .blk g2 (cnt ps) 44 :: L) w := s
            refine ⟨_, rfl, ?_⟩; clear ha; intro a ha
            refine st_val (.int .i64 ((ps.length : Nat) : Int)) ha (by kernel_rfl) (by kernel_rfl) ?_
            clear ha; intro a ha
            refine st_val (.bool true) ha (by kernel_rfl) (run_known (show (decide (((q : Nat) : Int) < ((ps.length : Nat) : Int))) = true from decide_eq_true (by omega)) (by kernel_rfl)) ?_
            clear ha; intro a ha
            refine st_val (.bool false) ha (by kernel_rfl) (by kernel_rfl) ?_
            clear ha; intro a ha
            refine wpList_nil ?_
            refine then_normal ?_
            refine wp_false ha rfl (by kernel_rfl) ?_
            refine wp_skip ?_
            refine then_normal ?_
            refine wp_seq ?_
            refine wp_region_lit ?_
            refine st_val (.bool true) ha (by kernel_rfl) (by kernel_rfl) ?_
            clear ha; intro a ha
            refine wpList_nil ?_
            refine then_normal ?_
            refine wp_true ha rfl (by kernel_rfl) ?_
            refine wp_seq ?_
            refine wp_seq ?_
            refine wp_region_head 17 (fun w => BlkIs g5 [.int .i64 (1 + p.1.tmod 4), .int .i64 p.1, .slice A3 1 c4] w ∧ True) (by kernel_rfl) (by decide) ?_
            replace s := s.drew; generalize _root_.Go.World.drew _ = w at s ⊢
            have hS : (fun w => BlkIs g5 [.int .i64 (1 + p.1.tmod 4), .int .i64 p.1, .slice A3 1 c4] w ∧ True) w := ⟨s.blkIs 0 rfl, trivial⟩
            refine hd_val (i := 0) (.agg #[.int .i64 (1 + p.1.tmod 4), .int .i64 p.1, .slice A3 1 c4]) ha rfl (by kernel_rfl) (fun _ _ _ h => h) (by kernel_rfl) (fun w hS => run_loadN (of_ := 0) [.int .i64 (1 + p.1.tmod 4), .int .i64 p.1, .slice A3 1 c4] hS.1 rfl (by kernel_rfl) Try.isAgg29 Try.sizeOf29 rfl (Nat.le_of_ble_eq_true rfl)) hS ?_
            clear ha; intro a ha
            refine hd_val (i := 1) (.pointer (some ⟨g5, 1, none⟩)) ha rfl (by kernel_rfl) (fun _ _ _ h => h) (by kernel_rfl) (fun w hS => (by kernel_rfl)) hS ?_
            clear ha; intro a ha
            refine hd_val (i := 2) (.int .i64 p.1) ha rfl (by kernel_rfl) (fun _ _ _ h => h) (by kernel_rfl) (fun w hS => run_load1 (of_ := 1) hS.1 rfl (by kernel_rfl) Try.isAgg3 rfl) hS ?_
            clear ha; intro a ha
            refine hd_val (i := 3) (.int .i64 (p.1.tmod 4)) ha rfl (by kernel_rfl) (fun _ _ _ h => h) (by kernel_rfl) (fun w hS => (run_rem (p.1.tmod 4) rfl (by kernel_rfl) (by kernel_rfl) (by omega) rfl _)) hS ?_
            clear ha; intro a ha
            refine hd_val (i := 4) (.int .i64 (1 + p.1.tmod 4)) ha rfl (by kernel_rfl) (fun _ _ _ h => h) (by kernel_rfl) (fun w hS => (run_arith (1 + p.1.tmod 4) (1 + p.1.tmod 4) rfl (by kernel_rfl) (by kernel_rfl) (.inl ⟨rfl, rfl⟩) (by rw [wrap64_in (by omega)]) _)) hS ?_
            clear ha; intro a ha
            refine hd_val (i := 5) (.pointer (some ⟨g5, 1, none⟩)) ha rfl (by kernel_rfl) (fun _ _ _ h => h) (by kernel_rfl) (fun w hS => (by kernel_rfl)) hS ?_
            clear ha; intro a ha
            refine hd_val (i := 6) (.int .i64 p.1) ha rfl (by kernel_rfl) (fun _ _ _ h => h) (by kernel_rfl) (fun w hS => run_load1 (of_ := 1) hS.1 rfl (by kernel_rfl) Try.isAgg3 rfl) hS ?_
            clear ha; intro a ha
            refine hd_val (i := 7) (.agg #[.int .i64 (1 + p.1.tmod 4), .int .i64 p.1, .slice A3 1 c4]) ha rfl (by kernel_rfl) (fun _ _ _ h => h) (by kernel_rfl) (fun w hS => run_loadN (of_ := 0) [.int .i64 (1 + p.1.tmod 4), .int .i64 p.1, .slice A3 1 c4] hS.1 rfl (by kernel_rfl) Try.isAgg29 Try.sizeOf29 rfl (Nat.le_of_ble_eq_true rfl)) hS ?_
            clear ha; intro a ha
            refine hd_call (i := 8) ha rfl (by kernel_rfl) (by kernel_rfl) (by kernel_rfl) (first_one W _ w (1 + p.1.tmod 4) p.1 A3 1 c4 ((p.2 : Nat) : Int) rfl (Knows.own (j := 1) rfl) s) ?_
            clear hS; rintro _ w ⟨rfl, s⟩
            replace s : St W (.blk g5 [.int .i64 (1 + p.1.tmod 4), .int .i64 p.1, .slice A3 1 c4] 29 :: Own 5 1 A3 1 c4 (u8s [((p.2 : Nat) : Int)]) :: Bag g1 (mqs (ps.eraseIdx q)) :: .blk g2 (cnt ps) 44 :: L) w := s
            have hS : (fun w => BlkIs g5 [.int .i64 (1 + p.1.tmod 4), .int .i64 p.1, .slice A3 1 c4] w ∧ True) w := ⟨s.blkIs 0 rfl, trivial⟩
            refine ⟨_, rfl, hS, ?_⟩; clear ha; intro a ha
            refine hd_call (i := 9) ha rfl (by kernel_rfl) (by kernel_rfl) (by kernel_rfl) (mail_any W _ w (1 + p.1.tmod 4) p.1 ((p.2 : Nat) : Int) s) ?_
            clear hS; rintro _ w ⟨A6, c7, rfl, s⟩
            replace s : St W (Own 5 1 A6 1 c7 (u8s [((p.2 : Nat) : Int)]) :: .blk g5 [.int .i64 (1 + p.1.tmod 4), .int .i64 p.1, .slice A3 1 c4] 29 :: Own 5 1 A3 1 c4 (u8s [((p.2 : Nat) : Int)]) :: Bag g1 (mqs (ps.eraseIdx q)) :: .blk g2 (cnt ps) 44 :: L) w := s
            have hS : (fun w => BlkIs g5 [.int .i64 (1 + p.1.tmod 4), .int .i64 p.1, .slice A3 1 c4] w ∧ True) w := ⟨s.blkIs 1 rfl, trivial⟩
            refine ⟨_, rfl, hS, ?_⟩; clear ha; intro a ha
            refine hd_call (i := 10) ha rfl (by kernel_rfl) (by kernel_rfl) (by kernel_rfl) (same_to W _ w (1 + p.1.tmod 4) p.1 (1 + p.1.tmod 4) p.1 A3 A6 c4 c7 1 1 [((p.2 : Nat) : Int)] [((p.2 : Nat) : Int)] true rfl rfl (Knows.own (j := 2) rfl) (Knows.own (j := 0) rfl) (by omega) (decide_eq_true ⟨rfl, rfl, rfl⟩) s) ?_
            clear hS; rintro _ w ⟨rfl, s⟩
            replace s : St W (Own 5 1 A6 1 c7 (u8s [((p.2 : Nat) : Int)]) :: .blk g5 [.int .i64 (1 + p.1.tmod 4), .int .i64 p.1, .slice A3 1 c4] 29 :: Own 5 1 A3 1 c4 (u8s [((p.2 : Nat) : Int)]) :: Bag g1 (mqs (ps.eraseIdx q)) :: .blk g2 (cnt ps) 44 :: L) w := s
            have hS : (fun w => BlkIs g5 [.int .i64 (1 + p.1.tmod 4), .int .i64 p.1, .slice A3 1 c4] w ∧ True) w := ⟨s.blkIs 1 rfl, trivial⟩
            refine ⟨_, rfl, hS, ?_⟩; clear ha; intro a ha
            refine hd_val (i := 11) (.bool false) ha rfl (by kernel_rfl) (fun _ _ _ h => h) (by kernel_rfl) (fun w hS => (by kernel_rfl)) hS ?_
            clear ha; intro a ha
            refine hd_val (i := 12) (.bool false) ha rfl (by kernel_rfl) (fun _ _ _ h => h) (by kernel_rfl) (fun w hS => (by kernel_rfl)) hS ?_
            clear ha; intro a ha
            refine hd_val (i := 13) (.agg #[.int .i64 (1 + p.1.tmod 4), .int .i64 p.1, .slice A3 1 c4]) ha rfl (by kernel_rfl) (fun _ _ _ h => h) (by kernel_rfl) (fun w hS => run_loadN (of_ := 0) [.int .i64 (1 + p.1.tmod 4), .int .i64 p.1, .slice A3 1 c4] hS.1 rfl (by kernel_rfl) Try.isAgg29 Try.sizeOf29 rfl (Nat.le_of_ble_eq_true rfl)) hS ?_
            clear ha; intro a ha
            refine hd_val (i := 16) (.int .i64 ((k : Nat) : Int)) ha rfl (by kernel_rfl) (fun _ _ _ h => h) (by kernel_rfl) (fun w hS => (by kernel_rfl)) hS ?_
            clear ha; intro a ha
            refine hd_call (i := 14) ha rfl (by kernel_rfl) (by kernel_rfl) (by kernel_rfl) (first_one W _ w (1 + p.1.tmod 4) p.1 A3 1 c4 ((p.2 : Nat) : Int) rfl (Knows.own (j := 2) rfl) s) ?_
            clear hS; rintro _ w ⟨rfl, s⟩
            replace s : St W (Own 5 1 A6 1 c7 (u8s [((p.2 : Nat) : Int)]) :: .blk g5 [.int .i64 (1 + p.1.tmod 4), .int .i64 p.1, .slice A3 1 c4] 29 :: Own 5 1 A3 1 c4 (u8s [((p.2 : Nat) : Int)]) :: Bag g1 (mqs (ps.eraseIdx q)) :: .blk g2 (cnt ps) 44 :: L) w := s
            have hS : (fun w => BlkIs g5 [.int .i64 (1 + p.1.tmod 4), .int .i64 p.1, .slice A3 1 c4] w ∧ True) w := ⟨s.blkIs 1 rfl, trivial⟩
            refine ⟨_, rfl, hS, ?_⟩; clear ha; intro a ha
            refine hd_val (i := 15) (.int .i64 ((p.2 : Nat) : Int)) ha rfl (by kernel_rfl) (fun _ _ _ h => h) (by kernel_rfl) (fun w hS => (run_conv (((p.2 : Nat) : Int)) rfl (by kernel_rfl) Try.underlying5 Try.underlying3 (wrap64_in (by omega)) _)) hS ?_
            clear ha; intro a ha
            refine Head.done (by kernel_rfl) ?_
            clear hS; simp only [List.drop_succ_cons, List.drop_zero]
            refine st_val (.bool false) ha (by kernel_rfl) (run_known (show (decide (((p.2 : Nat) : Int) ≥ ((k : Nat) : Int))) = false from decide_eq_false (by omega)) (by kernel_rfl)) ?_
            clear ha; intro a ha
            refine st_val (.bool false) ha (by kernel_rfl) (by kernel_rfl) ?_
            clear ha; intro a ha
            refine wpList_nil ?_
            refine then_normal ?_
            refine wp_false ha rfl (by kernel_rfl) ?_
            refine wp_skip ?_
            refine then_normal ?_
            refine wp_seq ?_
            refine wp_region_lit ?_
            refine st_val (.agg #[.int .i64 (1 + p.1.tmod 4), .int .i64 p.1, .slice A3 1 c4]) ha (by kernel_rfl) (run_loadN (of_ := 0) [.int .i64 (1 + p.1.tmod 4), .int .i64 p.1, .slice A3 1 c4] (s.blkIs 1 rfl) rfl (by kernel_rfl) Try.isAgg29 Try.sizeOf29 rfl (Nat.le_of_ble_eq_true rfl)) ?_
            clear ha; intro a ha
            refine st_call ha (by kernel_rfl) (by kernel_rfl) (first_one W _ w (1 + p.1.tmod 4) p.1 A3 1 c4 ((p.2 : Nat) : Int) rfl (Knows.own (j := 2) rfl) s) ?_
            rintro _ w ⟨rfl, s⟩
            replace s : St W (Own 5 1 A6 1 c7 (u8s [((p.2 : Nat) : Int)]) :: .blk g5 [.int .i64 (1 + p.1.tmod 4), .int .i64 p.1, .slice A3 1 c4] 29 :: Own 5 1 A3 1 c4 (u8s [((p.2 : Nat) : Int)]) :: Bag g1 (mqs (ps.eraseIdx q)) :: .blk g2 (cnt ps) 44 :: L) w := s
            refine ⟨_, rfl, ?_⟩; clear ha; intro a ha
            refine st_val (.pointer (some ⟨g2, p.2, none⟩)) ha (by kernel_rfl) (run_indexArr (kd := .u8) p.2 rfl Try.underlying44 Try.sizeOf3 (by kernel_rfl) (by kernel_rfl) rfl (by first | assumption | omega) _) ?_
            clear ha; intro a ha
            refine st_val (.int .i64 ((cn ps p.2 : Nat) : Int)) ha (by kernel_rfl) (run_load1 (of_ := p.2) (s.blkIs 4 rfl) rfl (by kernel_rfl) Try.isAgg3 (cnt_at ps (by omega))) ?_
            clear ha; intro a ha
            refine st_val (.int .i64 ((cn ps p.2 - 1 : Nat) : Int)) ha (by kernel_rfl) (run_arith (((cn ps p.2 : Nat) : Int) - (1 : Int)) ((cn ps p.2 - 1 : Nat) : Int) rfl (by kernel_rfl) (by kernel_rfl) (.inr (.inl ⟨rfl, rfl⟩)) (by rw [wrap64_in (by omega)]; try omega) _) ?_
            clear ha; intro a ha
            refine st_val (.pointer (some ⟨g2, p.2, none⟩)) ha (by kernel_rfl) (run_indexArr (kd := .u8) p.2 rfl Try.underlying44 Try.sizeOf3 (by kernel_rfl) (by kernel_rfl) rfl (by first | assumption | omega) _) ?_
            clear ha; intro a ha
            refine st_exd ha (by kernel_rfl) (ex_store_to (of_ := p.2) 4 [.int .i64 ((cn ps p.2 - 1 : Nat) : Int)] s (cnt_del hp_ (by omega)) rfl rfl (by kernel_rfl) (by kernel_rfl) (Try.sizeOf3 _) rfl (by simp [Value.oneCell']) (by rw [cnt_len]; simp only [List.length_cons, List.length_nil]; omega)) ?_
            clear ha; rintro w a s ha
            replace s : St W (Own 5 1 A6 1 c7 (u8s [((p.2 : Nat) : Int)]) :: .blk g5 [.int .i64 (1 + p.1.tmod 4), .int .i64 p.1, .slice A3 1 c4] 29 :: Own 5 1 A3 1 c4 (u8s [((p.2 : Nat) : Int)]) :: Bag g1 (mqs (ps.eraseIdx q)) :: .blk g2 (cnt (ps.eraseIdx q)) 44 :: L) w := s
            refine wpList_nil ?_
            refine then_normal ?_
            refine wp_region_lit ?_
            refine st_val (.int .i64 ((ps.length : Nat) : Int)) ha (by kernel_rfl) (by kernel_rfl) ?_
            clear ha; intro a ha
            refine st_val (.int .i64 ((ps.length - 1 : Nat) : Int)) ha (by kernel_rfl) (run_arith (((ps.length : Nat) : Int) - (1 : Int)) ((ps.length - 1 : Nat) : Int) rfl (by kernel_rfl) (by kernel_rfl) (.inr (.inl ⟨rfl, rfl⟩)) (by rw [wrap64_in (by omega)]; try omega) _) ?_
            clear ha; intro a ha
            refine st_val (.int .i64 ((ps.length - 1 : Nat) : Int)) ha (by kernel_rfl) (by kernel_rfl) ?_
            clear ha; intro a ha
            refine wpList_nil ?_
            refine block_normal ?_
            refine then_normal ?_
            refine wp_seq ?_
            refine wp_region_lit ?_
            refine st_val (.pointer (some ⟨g1, 0, none⟩)) ha (by kernel_rfl) (by kernel_rfl) ?_
            clear ha; intro a ha
            replace s := s.at_ (j := 3) rfl
            replace s : St W (Bag g1 (mqs (ps.eraseIdx q)) :: Own 5 1 A6 1 c7 (u8s [((p.2 : Nat) : Int)]) :: .blk g5 [.int .i64 (1 + p.1.tmod 4), .int .i64 p.1, .slice A3 1 c4] 29 :: Own 5 1 A3 1 c4 (u8s [((p.2 : Nat) : Int)]) :: .blk g2 (cnt (ps.eraseIdx q)) 44 :: L) w := s
            refine st_call ha (by kernel_rfl) (by kernel_rfl) (len_to W _ w g1 (mqs (ps.eraseIdx q)) (ps.length - 1) (by rw [mqs_len, List.length_eraseIdx_of_lt (by omega)]) s) ?_
            rintro _ w ⟨rfl, s⟩
            replace s : St W (Bag g1 (mqs (ps.eraseIdx q)) :: Own 5 1 A6 1 c7 (u8s [((p.2 : Nat) : Int)]) :: .blk g5 [.int .i64 (1 + p.1.tmod 4), .int .i64 p.1, .slice A3 1 c4] 29 :: Own 5 1 A3 1 c4 (u8s [((p.2 : Nat) : Int)]) :: .blk g2 (cnt (ps.eraseIdx q)) 44 :: L) w := s
            refine ⟨_, rfl, ?_⟩; clear ha; intro a ha
            refine st_val (.int .i64 ((ps.length - 1 : Nat) : Int)) ha (by kernel_rfl) (by kernel_rfl) ?_
            clear ha; intro a ha
            refine st_val (.bool false) ha (by kernel_rfl) (run_known (bne_self_eq_false _) (show (execOp (evalE _) _).run _ _ = .ok (.value (.bool (((ps.length - 1 : Nat) : Int) != ((ps.length - 1 : Nat) : Int)))) _ from by kernel_rfl)) ?_
            clear ha; intro a ha
            refine wpList_nil ?_
            refine then_normal ?_
            refine wp_false ha rfl (by kernel_rfl) ?_
            refine wp_skip ?_
            refine block_normal ?_
            refine then_normal ?_
            refine wp_region_lit ?_
            refine st_val (.int .i64 ((k : Nat) : Int)) ha (by kernel_rfl) (by kernel_rfl) ?_
            clear ha; intro a ha
            refine st_val (.int .i64 ((k + 1 : Nat) : Int)) ha (by kernel_rfl) (run_arith (((k : Nat) : Int) + (1 : Int)) ((k + 1 : Nat) : Int) rfl (by kernel_rfl) (by kernel_rfl) (.inl ⟨rfl, rfl⟩) (by rw [wrap64_in (by omega)]; try omega) _) ?_
            clear ha; intro a ha
            refine st_val (.int .i64 ((k + 1 : Nat) : Int)) ha (by kernel_rfl) (by kernel_rfl) ?_
            clear ha; intro a ha
            refine wpList_nil ?_
            refine then_normal ?_
            replace s := s.at_ (j := 4) rfl
            replace s : St W (.blk g2 (cnt (ps.eraseIdx q)) 44 :: Bag g1 (mqs (ps.eraseIdx q)) :: Own 5 1 A6 1 c7 (u8s [((p.2 : Nat) : Int)]) :: .blk g5 [.int .i64 (1 + p.1.tmod 4), .int .i64 p.1, .slice A3 1 c4] 29 :: Own 5 1 A3 1 c4 (u8s [((p.2 : Nat) : Int)]) :: L) w := s
            replace s := s.at_ (j := 1) rfl
            replace s : St W (Bag g1 (mqs (ps.eraseIdx q)) :: .blk g2 (cnt (ps.eraseIdx q)) 44 :: Own 5 1 A6 1 c7 (u8s [((p.2 : Nat) : Int)]) :: .blk g5 [.int .i64 (1 + p.1.tmod 4), .int .i64 p.1, .slice A3 1 c4] 29 :: Own 5 1 A3 1 c4 (u8s [((p.2 : Nat) : Int)]) :: L) w := s
            replace s : St W (Bag g1 (mqs (ps.eraseIdx q)) :: .blk g2 (cnt (ps.eraseIdx q)) 44 :: L) w := St.mid (A := [Bag g1 (mqs (ps.eraseIdx q)), .blk g2 (cnt (ps.eraseIdx q)) 44]) (B := [Own 5 1 A6 1 c7 (u8s [((p.2 : Nat) : Int)]), .blk g5 [.int .i64 (1 + p.1.tmod 4), .int .i64 p.1, .slice A3 1 c4] 29, Own 5 1 A3 1 c4 (u8s [((p.2 : Nat) : Int)])]) s
            rw [show ps.length - 1 = (ps.eraseIdx q).length from by rw [List.length_eraseIdx_of_lt (by omega)]] at ha
            exact ⟨(k + 1, ps.eraseIdx q), (show 200 - (k + 1) < 200 - k by omega), (Has.cons ha (by kernel_rfl) (by kernel_rfl) (Has.cons ha (by kernel_rfl) (by kernel_rfl) (Has.cons ha (by kernel_rfl) (by kernel_rfl) (Has.cons ha (by kernel_rfl) (by kernel_rfl) (Has.cons ha (by kernel_rfl) (by kernel_rfl) (Has.nil ha)))))), s, (show k + 1 ≤ 200 by omega), (ho.up.erase q)⟩
          · skip
            refine st_call ha (by kernel_rfl) (by kernel_rfl) (take_bag_out W _ w g1 (mqs ps) ((q : Nat) : Int) (by rw [mqs_len]; omega) s) ?_
            rintro _ w ⟨rfl, s⟩
            replace s : St W (Bag g1 (mqs ps) :: .blk g2 (cnt ps) 44 :: L) w := s
            refine ⟨_, rfl, ?_⟩; clear ha; intro a ha
            refine st_val (.tuple #[.agg #[.int .i64 0, .int .i64 0, .slice none 0 0], .bool false]) ha (by kernel_rfl) (by kernel_rfl) ?_
            clear ha; intro a ha
            refine st_val (.agg #[.int .i64 0, .int .i64 0, .slice none 0 0]) ha (by kernel_rfl) (by kernel_rfl) ?_
            clear ha; intro a ha
            refine st_val (.bool false) ha (by kernel_rfl) (by kernel_rfl) ?_
            clear ha; intro a ha
            refine st_ex ha (by kernel_rfl) (ex_alloc [.int .i64 0, .int .i64 0, .slice none 0 0] s rfl (Try.zeroValue29 _) (by kernel_rfl)) ?_
            clear ha; rintro _ w a ⟨g8, rfl, s⟩ ha
            replace s : St W (.blk g8 [.int .i64 0, .int .i64 0, .slice none 0 0] 29 :: Bag g1 (mqs ps) :: .blk g2 (cnt ps) 44 :: L) w := s
            refine st_exd ha (by kernel_rfl) (ex_store (of_ := 0) 0 [.int .i64 0, .int .i64 0, .slice none 0 0] s rfl rfl (by kernel_rfl) (by kernel_rfl) (Try.sizeOf29 _) rfl (by simp [Value.oneCell']) (Nat.le_of_ble_eq_true rfl)) ?_
            clear ha; rintro w a s ha
            replace s : St W (.blk g8 [.int .i64 0, .int .i64 0, .slice none 0 0] 29 :: Bag g1 (mqs ps) :: .blk g2 (cnt ps) 44 :: L) w := s
            refine st_val (.bool false) ha (by kernel_rfl) (by kernel_rfl) ?_
            clear ha; intro a ha
            refine wpList_nil ?_
            refine then_normal ?_
            refine wp_seq ?_
            refine wp_seq ?_
            refine wp_region_lit ?_
            refine st_val (.bool false) ha (by kernel_rfl) (by kernel_rfl) ?_
            clear ha; intro a ha
            refine st_val (.slice (some ad) n c) ha (by kernel_rfl) (by kernel_rfl) ?_
            clear ha; intro a ha
            refine st_val (.int .i64 ((k : Nat) : Int)) ha (by kernel_rfl) (by kernel_rfl) ?_
            clear ha; intro a ha
            refine st_val (.pointer (some (ad.add (k * 5)))) ha (by kernel_rfl) (run_indexAddr' (kd := .i64) (n := n) (c := c) k rfl Try.underlying22 Try.sizeOf32 (by kernel_rfl) (by kernel_rfl) rfl (by first | assumption | omega) _) ?_
            clear ha; intro a ha
            refine st_val (.pointer (some (ad.add (k * 5 + 1)))) ha (by kernel_rfl) (run_fieldAddr_at (i := k * 5) (off := 1) rfl Try.underlying32 rfl Try.sizeOf3 (by kernel_rfl) _) ?_
            clear ha; intro a ha
            refine st_val (.int .i64 d.i) ha (by kernel_rfl) (run_loadAt1 (i := k * 5 + 1) (hr _ (Sat.drops (A := [.blk g8 [.int .i64 0, .int .i64 0, .slice none 0 0] 29, Bag g1 (mqs ps), .blk g2 (cnt ps) 44]) s.sat)) rfl (by kernel_rfl) Try.isAgg3 (by rw [deeds_at hd (by omega)]; rfl)) ?_
            clear ha; intro a ha
            refine st_val (.int .i64 ((ps.length : Nat) : Int)) ha (by kernel_rfl) (by kernel_rfl) ?_
            clear ha; intro a ha
            refine st_val (.int .i64 ((ps.length + 1 : Nat) : Int)) ha (by kernel_rfl) (run_arith (((ps.length : Nat) : Int) + (1 : Int)) ((ps.length + 1 : Nat) : Int) rfl (by kernel_rfl) (by kernel_rfl) (.inl ⟨rfl, rfl⟩) (by rw [wrap64_in (by omega)]; try omega) _) ?_
            clear ha; intro a ha
            refine st_call ha (by kernel_rfl) (by kernel_rfl) (bring_to W _ w d.i ((ps.length + 1 : Nat) : Int) ((q : Nat) : Int) hq (by omega) (by omega) s) ?_
            rintro _ w ⟨rfl, s⟩
            replace s : St W (.blk g8 [.int .i64 0, .int .i64 0, .slice none 0 0] 29 :: Bag g1 (mqs ps) :: .blk g2 (cnt ps) 44 :: L) w := s
            refine ⟨_, rfl, ?_⟩; clear ha; intro a ha
            refine st_val (.int .i64 ((ps.length : Nat) : Int)) ha (by kernel_rfl) (by kernel_rfl) ?_
            clear ha; intro a ha
            refine st_val (.bool false) ha (by kernel_rfl) (run_known (show (decide (((q : Nat) : Int) < ((ps.length : Nat) : Int))) = false from decide_eq_false (by omega)) (by kernel_rfl)) ?_
            clear ha; intro a ha
            refine st_val (.bool false) ha (by kernel_rfl) (by kernel_rfl) ?_
            clear ha; intro a ha
            refine wpList_nil ?_
            refine then_normal ?_
            refine wp_false ha rfl (by kernel_rfl) ?_
            refine wp_skip ?_
            refine then_normal ?_
            refine wp_seq ?_
            refine wp_region_lit ?_
            refine st_val (.bool false) ha (by kernel_rfl) (by kernel_rfl) ?_
            clear ha; intro a ha
            refine wpList_nil ?_
            refine then_normal ?_
            refine wp_false ha rfl (by kernel_rfl) ?_
            refine wp_skip ?_
            refine block_normal ?_
            refine then_normal ?_
            refine wp_seq ?_
            refine wp_region_lit ?_
            refine st_val (.pointer (some ⟨g1, 0, none⟩)) ha (by kernel_rfl) (by kernel_rfl) ?_
            clear ha; intro a ha
            replace s := s.at_ (j := 1) rfl
            replace s : St W (Bag g1 (mqs ps) :: .blk g8 [.int .i64 0, .int .i64 0, .slice none 0 0] 29 :: .blk g2 (cnt ps) 44 :: L) w := s
            refine st_call ha (by kernel_rfl) (by kernel_rfl) (len_to W _ w g1 (mqs ps) (ps.length) (mqs_len ps) s) ?_
            rintro _ w ⟨rfl, s⟩
            replace s : St W (Bag g1 (mqs ps) :: .blk g8 [.int .i64 0, .int .i64 0, .slice none 0 0] 29 :: .blk g2 (cnt ps) 44 :: L) w := s
            refine ⟨_, rfl, ?_⟩; clear ha; intro a ha
            refine st_val (.int .i64 ((ps.length : Nat) : Int)) ha (by kernel_rfl) (by kernel_rfl) ?_
            clear ha; intro a ha
            refine st_val (.bool false) ha (by kernel_rfl) (run_known (bne_self_eq_false _) (show (execOp (evalE _) _).run _ _ = .ok (.value (.bool (((ps.length : Nat) : Int) != ((ps.length : Nat) : Int)))) _ from by kernel_rfl)) ?_
            clear ha; intro a ha
            refine wpList_nil ?_
            refine then_normal ?_
            refine wp_false ha rfl (by kernel_rfl) ?_
            refine wp_skip ?_
            refine block_normal ?_
            refine then_normal ?_
            refine wp_region_lit ?_
            refine st_val (.int .i64 ((k : Nat) : Int)) ha (by kernel_rfl) (by kernel_rfl) ?_
            clear ha; intro a ha
            refine st_val (.int .i64 ((k + 1 : Nat) : Int)) ha (by kernel_rfl) (run_arith (((k : Nat) : Int) + (1 : Int)) ((k + 1 : Nat) : Int) rfl (by kernel_rfl) (by kernel_rfl) (.inl ⟨rfl, rfl⟩) (by rw [wrap64_in (by omega)]; try omega) _) ?_
            clear ha; intro a ha
            refine st_val (.int .i64 ((k + 1 : Nat) : Int)) ha (by kernel_rfl) (by kernel_rfl) ?_
            clear ha; intro a ha
            refine wpList_nil ?_
            refine then_normal ?_
            replace s := s.at_ (j := 2) rfl
            replace s : St W (.blk g2 (cnt ps) 44 :: Bag g1 (mqs ps) :: .blk g8 [.int .i64 0, .int .i64 0, .slice none 0 0] 29 :: L) w := s
            replace s := s.at_ (j := 1) rfl
            replace s : St W (Bag g1 (mqs ps) :: .blk g2 (cnt ps) 44 :: .blk g8 [.int .i64 0, .int .i64 0, .slice none 0 0] 29 :: L) w := s
            replace s : St W (Bag g1 (mqs ps) :: .blk g2 (cnt ps) 44 :: L) w := St.mid (A := [Bag g1 (mqs ps), .blk g2 (cnt ps) 44]) (B := [.blk g8 [.int .i64 0, .int .i64 0, .slice none 0 0] 29]) s
            exact ⟨(k + 1, ps), (show 200 - (k + 1) < 200 - k by omega), (Has.cons ha (by kernel_rfl) (by kernel_rfl) (Has.cons ha (by kernel_rfl) (by kernel_rfl) (Has.cons ha (by kernel_rfl) (by kernel_rfl) (Has.cons ha (by kernel_rfl) (by kernel_rfl) (Has.cons ha (by kernel_rfl) (by kernel_rfl) (Has.nil ha)))))), s, (show k + 1 ≤ 200 by omega), ho.up⟩
        · rw [hb] at ha; have hb_ := hb; replace hb := ne_of_beq_false hb
          refine wp_region_lit ?_
          refine st_val (.bool ((d.k % 8) == (6 : Int))) ha (by kernel_rfl) (by kernel_rfl) ?_
          clear ha; intro a ha
          refine st_val (.bool ((d.k % 8) == (6 : Int))) ha (by kernel_rfl) (by kernel_rfl) ?_
          clear ha; intro a ha
          refine wpList_nil ?_
          refine then_normal ?_
          refine wp_part ((d.k % 8) == (6 : Int)) ha rfl (by kernel_rfl) (fun hb => ?_) (fun hb => ?_)
          · rw [hb] at ha; have hb_ := hb; replace hb := eq_of_beq hb
            refine wp_seq ?_
            refine wp_region_lit ?_
            refine st_val (.pointer (some ⟨g1, 0, none⟩)) ha (by kernel_rfl) (by kernel_rfl) ?_
            clear ha; intro a ha
            refine st_val (.slice (some ad) n c) ha (by kernel_rfl) (by kernel_rfl) ?_
            clear ha; intro a ha
            refine st_val (.int .i64 ((k : Nat) : Int)) ha (by kernel_rfl) (by kernel_rfl) ?_
            clear ha; intro a ha
            refine st_val (.pointer (some (ad.add (k * 5)))) ha (by kernel_rfl) (run_indexAddr' (kd := .i64) (n := n) (c := c) k rfl Try.underlying22 Try.sizeOf32 (by kernel_rfl) (by kernel_rfl) rfl (by first | assumption | omega) _) ?_
            clear ha; intro a ha
            refine st_val (.pointer (some (ad.add (k * 5 + 1)))) ha (by kernel_rfl) (run_fieldAddr_at (i := k * 5) (off := 1) rfl Try.underlying32 rfl Try.sizeOf3 (by kernel_rfl) _) ?_
            clear ha; intro a ha
            refine st_val (.int .i64 d.i) ha (by kernel_rfl) (run_loadAt1 (i := k * 5 + 1) (hr _ (Sat.drops (A := [Bag g1 (mqs ps), .blk g2 (cnt ps) 44]) s.sat)) rfl (by kernel_rfl) Try.isAgg3 (by rw [deeds_at hd (by omega)]; rfl)) ?_
            clear ha; intro a ha
            refine st_val (.int .i64 ((ps.length : Nat) : Int)) ha (by kernel_rfl) (by kernel_rfl) ?_
            clear ha; intro a ha
            refine st_val (.int .i64 ((ps.length + 1 : Nat) : Int)) ha (by kernel_rfl) (run_arith (((ps.length : Nat) : Int) + (1 : Int)) ((ps.length + 1 : Nat) : Int) rfl (by kernel_rfl) (by kernel_rfl) (.inl ⟨rfl, rfl⟩) (by rw [wrap64_in (by omega)]; try omega) _) ?_
            clear ha; intro a ha
            refine st_call ha (by kernel_rfl) (by kernel_rfl) (bring_to W _ w d.i ((ps.length + 1 : Nat) : Int) ((q : Nat) : Int) hq (by omega) (by omega) s) ?_
            rintro _ w ⟨rfl, s⟩
            replace s : St W (Bag g1 (mqs ps) :: .blk g2 (cnt ps) 44 :: L) w := s
            refine ⟨_, rfl, ?_⟩; clear ha; intro a ha
            by_cases hin : q < ps.length
            · obtain ⟨p, hp_⟩ : ∃ p, ps[q]? = some p := ⟨_, List.getElem?_eq_getElem hin⟩
              have hpm := ho.to p (List.mem_of_getElem? hp_)
              have hp4 := tmod4 ⟨hpm.1, hpm.2.1⟩
              have hc1 := cn_pos hp_
              have hc2 := cn_le ps p.2
              refine st_call ha (by kernel_rfl) (by kernel_rfl) (take_to W _ w g1 (mqs ps) q (1 + p.1.tmod 4) p.1 [((p.2 : Nat) : Int)] 1 (mqs (ps.eraseIdx q)) (mqs_at hp_) rfl (mqs_erase ps q) (mqs_ok (by have := ho.len; omega)) s) ?_
              rintro _ w ⟨A9, c10, rfl, s⟩
              replace s : St W (Own 5 1 A9 1 c10 (u8s [((p.2 : Nat) : Int)]) :: Bag g1 (mqs (ps.eraseIdx q)) :: .blk g2 (cnt ps) 44 :: L) w := s
              refine ⟨_, rfl, ?_⟩; clear ha; intro a ha
              refine st_val (.tuple #[.agg #[.int .i64 (1 + p.1.tmod 4), .int .i64 p.1, .slice A9 1 c10], .bool true]) ha (by kernel_rfl) (by kernel_rfl) ?_
              clear ha; intro a ha
              refine st_val (.agg #[.int .i64 (1 + p.1.tmod 4), .int .i64 p.1, .slice A9 1 c10]) ha (by kernel_rfl) (by kernel_rfl) ?_
              clear ha; intro a ha
              refine st_val (.bool true) ha (by kernel_rfl) (by kernel_rfl) ?_
              clear ha; intro a ha
              refine st_ex ha (by kernel_rfl) (ex_alloc [.int .i64 0, .int .i64 0, .slice none 0 0] s rfl (Try.zeroValue29 _) (by kernel_rfl)) ?_
              clear ha; rintro _ w a ⟨g11, rfl, s⟩ ha
              replace s : St W (.blk g11 [.int .i64 0, .int .i64 0, .slice none 0 0] 29 :: Own 5 1 A9 1 c10 (u8s [((p.2 : Nat) : Int)]) :: Bag g1 (mqs (ps.eraseIdx q)) :: .blk g2 (cnt ps) 44 :: L) w := s
              refine st_exd ha (by kernel_rfl) (ex_store (of_ := 0) 0 [.int .i64 (1 + p.1.tmod 4), .int .i64 p.1, .slice A9 1 c10] s rfl rfl (by kernel_rfl) (by kernel_rfl) (Try.sizeOf29 _) rfl (by simp [Value.oneCell']) (Nat.le_of_ble_eq_true rfl)) ?_
              clear ha; rintro w a s ha
              replace s : St W (.blk g11 [.int .i64 (1 + p.1.tmod 4), .int .i64 p.1, .slice A9 1 c10] 29 :: Own 5 1 A9 1 c10 (u8s [((p.2 : Nat) : Int)]) :: Bag g1 (mqs (ps.eraseIdx q)) :: .blk g2 (cnt ps) 44 :: L) w := s
              refine st_val (.bool true) ha (by kernel_rfl) (by kernel_rfl) ?_
              clear ha; intro a ha
              refine wpList_nil ?_
              refine then_normal ?_
              refine wp_seq ?_
              refine wp_seq ?_
              refine wp_region_lit ?_
              refine st_val (.bool true) ha (by kernel_rfl) (by kernel_rfl) ?_
              clear ha; intro a ha
              refine st_val (.slice (some ad) n c) ha (by kernel_rfl) (by kernel_rfl) ?_
              clear ha; intro a ha
              refine st_val (.int .i64 ((k : Nat) : Int)) ha (by kernel_rfl) (by kernel_rfl) ?_
              clear ha; intro a ha
              refine st_val (.pointer (some (ad.add (k * 5)))) ha (by kernel_rfl) (run_indexAddr' (kd := .i64) (n := n) (c := c) k rfl Try.underlying22 Try.sizeOf32 (by kernel_rfl) (by kernel_rfl) rfl (by first | assumption | omega) _) ?_
              clear ha; intro a ha
              refine st_val (.pointer (some (ad.add (k * 5 + 1)))) ha (by kernel_rfl) (run_fieldAddr_at (i := k * 5) (off := 1) rfl Try.underlying32 rfl Try.sizeOf3 (by kernel_rfl) _) ?_
              clear ha; intro a ha
              refine st_val (.int .i64 d.i) ha (by kernel_rfl) (run_loadAt1 (i := k * 5 + 1) (hr _ (Sat.drops (A := [.blk g11 [.int .i64 (1 + p.1.tmod 4), .int .i64 p.1, .slice A9 1 c10] 29, Own 5 1 A9 1 c10 (u8s [((p.2 : Nat) : Int)]), Bag g1 (mqs (ps.eraseIdx q)), .blk g2 (cnt ps) 44]) s.sat)) rfl (by kernel_rfl) Try.isAgg3 (by rw [deeds_at hd (by omega)]; rfl)) ?_
              clear ha; intro a ha
              refine st_val (.int .i64 ((ps.length : Nat) : Int)) ha (by kernel_rfl) (by kernel_rfl) ?_
              clear ha; intro a ha
              refine st_val (.int .i64 ((ps.length + 1 : Nat) : Int)) ha (by kernel_rfl) (run_arith (((ps.length : Nat) : Int) + (1 : Int)) ((ps.length + 1 : Nat) : Int) rfl (by kernel_rfl) (by kernel_rfl) (.inl ⟨rfl, rfl⟩) (by rw [wrap64_in (by omega)]; try omega) _) ?_
              clear ha; intro a ha
              refine st_call ha (by kernel_rfl) (by kernel_rfl) (bring_to W _ w d.i ((ps.length + 1 : Nat) : Int) ((q : Nat) : Int) hq (by omega) (by omega) s) ?_
              rintro _ w ⟨rfl, s⟩
              replace s : St W (.blk g11 [.int .i64 (1 + p.1.tmod 4), .int .i64 p.1, .slice A9 1 c10] 29 :: Own 5 1 A9 1 c10 (u8s [((p.2 : Nat) : Int)]) :: Bag g1 (mqs (ps.eraseIdx q)) :: .blk g2 (cnt ps) 44 :: L) w := s
              refine ⟨_, rfl, ?_⟩; clear ha; intro a ha
              refine st_val (.int .i64 ((ps.length : Nat) : Int)) ha (by kernel_rfl) (by kernel_rfl) ?_
              clear ha; intro a ha
              refine st_val (.bool true) ha (by kernel_rfl) (run_known (show (decide (((q : Nat) : Int) < ((ps.length : Nat) : Int))) = true from decide_eq_true (by omega)) (by kernel_rfl)) ?_
              clear ha; intro a ha
              refine st_val (.bool false) ha (by kernel_rfl) (by kernel_rfl) ?_
              clear ha; intro a ha
              refine wpList_nil ?_
              refine then_normal ?_
              refine wp_false ha rfl (by kernel_rfl) ?_
              refine wp_skip ?_
              refine then_normal ?_
              refine wp_seq ?_
              refine wp_region_lit ?_
              refine st_val (.bool true) ha (by kernel_rfl) (by kernel_rfl) ?_
              clear ha; intro a ha
              refine wpList_nil ?_
              refine then_normal ?_
              refine wp_true ha rfl (by kernel_rfl) ?_
              refine wp_seq ?_
              refine wp_seq ?_
              refine wp_region_head 17 (fun w => BlkIs g11 [.int .i64 (1 + p.1.tmod 4), .int .i64 p.1, .slice A9 1 c10] w ∧ True) (by kernel_rfl) (by decide) ?_
              replace s := s.drew; generalize _root_.Go.World.drew _ = w at s ⊢
              have hS : (fun w => BlkIs g11 [.int .i64 (1 + p.1.tmod 4), .int .i64 p.1, .slice A9 1 c10] w ∧ True) w := ⟨s.blkIs 0 rfl, trivial⟩
              refine hd_val (i := 0) (.agg #[.int .i64 (1 + p.1.tmod 4), .int .i64 p.1, .slice A9 1 c10]) ha rfl (by kernel_rfl) (fun _ _ _ h => h) (by kernel_rfl) (fun w hS => run_loadN (of_ := 0) [.int .i64 (1 + p.1.tmod 4), .int .i64 p.1, .slice A9 1 c10] hS.1 rfl (by kernel_rfl) Try.isAgg29 Try.sizeOf29 rfl (Nat.le_of_ble_eq_true rfl)) hS ?_
              clear ha; intro a ha
              refine hd_val (i := 1) (.pointer (some ⟨g11, 1, none⟩)) ha rfl (by kernel_rfl) (fun _ _ _ h => h) (by kernel_rfl) (fun w hS => (by kernel_rfl)) hS ?_
              clear ha; intro a ha
              refine hd_val (i := 2) (.int .i64 p.1) ha rfl (by kernel_rfl) (fun _ _ _ h => h) (by kernel_rfl) (fun w hS => run_load1 (of_ := 1) hS.1 rfl (by kernel_rfl) Try.isAgg3 rfl) hS ?_
              clear ha; intro a ha
              refine hd_val (i := 3) (.int .i64 (p.1.tmod 4)) ha rfl (by kernel_rfl) (fun _ _ _ h => h) (by kernel_rfl) (fun w hS => (run_rem (p.1.tmod 4) rfl (by kernel_rfl) (by kernel_rfl) (by omega) rfl _)) hS ?_
              clear ha; intro a ha
              refine hd_val (i := 4) (.int .i64 (1 + p.1.tmod 4)) ha rfl (by kernel_rfl) (fun _ _ _ h => h) (by kernel_rfl) (fun w hS => (run_arith (1 + p.1.tmod 4) (1 + p.1.tmod 4) rfl (by kernel_rfl) (by kernel_rfl) (.inl ⟨rfl, rfl⟩) (by rw [wrap64_in (by omega)]) _)) hS ?_
              clear ha; intro a ha
              refine hd_val (i := 5) (.pointer (some ⟨g11, 1, none⟩)) ha rfl (by kernel_rfl) (fun _ _ _ h => h) (by kernel_rfl) (fun w hS => (by kernel_rfl)) hS ?_
              clear ha; intro a ha
              refine hd_val (i := 6) (.int .i64 p.1) ha rfl (by kernel_rfl) (fun _ _ _ h => h) (by kernel_rfl) (fun w hS => run_load1 (of_ := 1) hS.1 rfl (by kernel_rfl) Try.isAgg3 rfl) hS ?_
              clear ha; intro a ha
              refine hd_val (i := 7) (.agg #[.int .i64 (1 + p.1.tmod 4), .int .i64 p.1, .slice A9 1 c10]) ha rfl (by kernel_rfl) (fun _ _ _ h => h) (by kernel_rfl) (fun w hS => run_loadN (of_ := 0) [.int .i64 (1 + p.1.tmod 4), .int .i64 p.1, .slice A9 1 c10] hS.1 rfl (by kernel_rfl) Try.isAgg29 Try.sizeOf29 rfl (Nat.le_of_ble_eq_true rfl)) hS ?_
              clear ha; intro a ha
              refine hd_call (i := 8) ha rfl (by kernel_rfl) (by kernel_rfl) (by kernel_rfl) (first_one W _ w (1 + p.1.tmod 4) p.1 A9 1 c10 ((p.2 : Nat) : Int) rfl (Knows.own (j := 1) rfl) s) ?_
              clear hS; rintro _ w ⟨rfl, s⟩
              replace s : St W (.blk g11 [.int .i64 (1 + p.1.tmod 4), .int .i64 p.1, .slice A9 1 c10] 29 :: Own 5 1 A9 1 c10 (u8s [((p.2 : Nat) : Int)]) :: Bag g1 (mqs (ps.eraseIdx q)) :: .blk g2 (cnt ps) 44 :: L) w := s
              have hS : (fun w => BlkIs g11 [.int .i64 (1 + p.1.tmod 4), .int .i64 p.1, .slice A9 1 c10] w ∧ True) w := ⟨s.blkIs 0 rfl, trivial⟩
              refine ⟨_, rfl, hS, ?_⟩; clear ha; intro a ha
              refine hd_call (i := 9) ha rfl (by kernel_rfl) (by kernel_rfl) (by kernel_rfl) (mail_any W _ w (1 + p.1.tmod 4) p.1 ((p.2 : Nat) : Int) s) ?_
              clear hS; rintro _ w ⟨A12, c13, rfl, s⟩
              replace s : St W (Own 5 1 A12 1 c13 (u8s [((p.2 : Nat) : Int)]) :: .blk g11 [.int .i64 (1 + p.1.tmod 4), .int .i64 p.1, .slice A9 1 c10] 29 :: Own 5 1 A9 1 c10 (u8s [((p.2 : Nat) : Int)]) :: Bag g1 (mqs (ps.eraseIdx q)) :: .blk g2 (cnt ps) 44 :: L) w := s
              have hS : (fun w => BlkIs g11 [.int .i64 (1 + p.1.tmod 4), .int .i64 p.1, .slice A9 1 c10] w ∧ True) w := ⟨s.blkIs 1 rfl, trivial⟩
              refine ⟨_, rfl, hS, ?_⟩; clear ha; intro a ha
              refine hd_call (i := 10) ha rfl (by kernel_rfl) (by kernel_rfl) (by kernel_rfl) (same_to W _ w (1 + p.1.tmod 4) p.1 (1 + p.1.tmod 4) p.1 A9 A12 c10 c13 1 1 [((p.2 : Nat) : Int)] [((p.2 : Nat) : Int)] true rfl rfl (Knows.own (j := 2) rfl) (Knows.own (j := 0) rfl) (by omega) (decide_eq_true ⟨rfl, rfl, rfl⟩) s) ?_
              clear hS; rintro _ w ⟨rfl, s⟩
              replace s : St W (Own 5 1 A12 1 c13 (u8s [((p.2 : Nat) : Int)]) :: .blk g11 [.int .i64 (1 + p.1.tmod 4), .int .i64 p.1, .slice A9 1 c10] 29 :: Own 5 1 A9 1 c10 (u8s [((p.2 : Nat) : Int)]) :: Bag g1 (mqs (ps.eraseIdx q)) :: .blk g2 (cnt ps) 44 :: L) w := s
              have hS : (fun w => BlkIs g11 [.int .i64 (1 + p.1.tmod 4), .int .i64 p.1, .slice A9 1 c10] w ∧ True) w := ⟨s.blkIs 1 rfl, trivial⟩
              refine ⟨_, rfl, hS, ?_⟩; clear ha; intro a ha
              refine hd_val (i := 11) (.bool false) ha rfl (by kernel_rfl) (fun _ _ _ h => h) (by kernel_rfl) (fun w hS => (by kernel_rfl)) hS ?_
              clear ha; intro a ha
              refine hd_val (i := 12) (.bool false) ha rfl (by kernel_rfl) (fun _ _ _ h => h) (by kernel_rfl) (fun w hS => (by kernel_rfl)) hS ?_
              clear ha; intro a ha
              refine hd_val (i := 13) (.agg #[.int .i64 (1 + p.1.tmod 4), .int .i64 p.1, .slice A9 1 c10]) ha rfl (by kernel_rfl) (fun _ _ _ h => h) (by kernel_rfl) (fun w hS => run_loadN (of_ := 0) [.int .i64 (1 + p.1.tmod 4), .int .i64 p.1, .slice A9 1 c10] hS.1 rfl (by kernel_rfl) Try.isAgg29 Try.sizeOf29 rfl (Nat.le_of_ble_eq_true rfl)) hS ?_
              clear ha; intro a ha
              refine hd_val (i := 16) (.int .i64 ((k : Nat) : Int)) ha rfl (by kernel_rfl) (fun _ _ _ h => h) (by kernel_rfl) (fun w hS => (by kernel_rfl)) hS ?_
              clear ha; intro a ha
              refine hd_call (i := 14) ha rfl (by kernel_rfl) (by kernel_rfl) (by kernel_rfl) (first_one W _ w (1 + p.1.tmod 4) p.1 A9 1 c10 ((p.2 : Nat) : Int) rfl (Knows.own (j := 2) rfl) s) ?_
              clear hS; rintro _ w ⟨rfl, s⟩
              replace s : St W (Own 5 1 A12 1 c13 (u8s [((p.2 : Nat) : Int)]) :: .blk g11 [.int .i64 (1 + p.1.tmod 4), .int .i64 p.1, .slice A9 1 c10] 29 :: Own 5 1 A9 1 c10 (u8s [((p.2 : Nat) : Int)]) :: Bag g1 (mqs (ps.eraseIdx q)) :: .blk g2 (cnt ps) 44 :: L) w := s
              have hS : (fun w => BlkIs g11 [.int .i64 (1 + p.1.tmod 4), .int .i64 p.1, .slice A9 1 c10] w ∧ True) w := ⟨s.blkIs 1 rfl, trivial⟩
              refine ⟨_, rfl, hS, ?_⟩; clear ha; intro a ha
              refine hd_val (i := 15) (.int .i64 ((p.2 : Nat) : Int)) ha rfl (by kernel_rfl) (fun _ _ _ h => h) (by kernel_rfl) (fun w hS => (run_conv (((p.2 : Nat) : Int)) rfl (by kernel_rfl) Try.underlying5 Try.underlying3 (wrap64_in (by omega)) _)) hS ?_
              clear ha; intro a ha
              refine Head.done (by kernel_rfl) ?_
              clear hS; simp only [List.drop_succ_cons, List.drop_zero]
              refine st_val (.bool false) ha (by kernel_rfl) (run_known (show (decide (((p.2 : Nat) : Int) ≥ ((k : Nat) : Int))) = false from decide_eq_false (by omega)) (by kernel_rfl)) ?_
              clear ha; intro a ha
              refine st_val (.bool false) ha (by kernel_rfl) (by kernel_rfl) ?_
              clear ha; intro a ha
              refine wpList_nil ?_
              refine then_normal ?_
              refine wp_false ha rfl (by kernel_rfl) ?_
              refine wp_skip ?_
              refine then_normal ?_
              refine wp_seq ?_
              refine wp_region_lit ?_
              refine st_val (.agg #[.int .i64 (1 + p.1.tmod 4), .int .i64 p.1, .slice A9 1 c10]) ha (by kernel_rfl) (run_loadN (of_ := 0) [.int .i64 (1 + p.1.tmod 4), .int .i64 p.1, .slice A9 1 c10] (s.blkIs 1 rfl) rfl (by kernel_rfl) Try.isAgg29 Try.sizeOf29 rfl (Nat.le_of_ble_eq_true rfl)) ?_
              clear ha; intro a ha
              refine st_call ha (by kernel_rfl) (by kernel_rfl) (first_one W _ w (1 + p.1.tmod 4) p.1 A9 1 c10 ((p.2 : Nat) : Int) rfl (Knows.own (j := 2) rfl) s) ?_
              rintro _ w ⟨rfl, s⟩
              replace s : St W (Own 5 1 A12 1 c13 (u8s [((p.2 : Nat) : Int)]) :: .blk g11 [.int .i64 (1 + p.1.tmod 4), .int .i64 p.1, .slice A9 1 c10] 29 :: Own 5 1 A9 1 c10 (u8s [((p.2 : Nat) : Int)]) :: Bag g1 (mqs (ps.eraseIdx q)) :: .blk g2 (cnt ps) 44 :: L) w := s
              refine ⟨_, rfl, ?_⟩; clear ha; intro a ha
              refine st_val (.pointer (some ⟨g2, p.2, none⟩)) ha (by kernel_rfl) (run_indexArr (kd := .u8) p.2 rfl Try.underlying44 Try.sizeOf3 (by kernel_rfl) (by kernel_rfl) rfl (by first | assumption | omega) _) ?_
              clear ha; intro a ha
              refine st_val (.int .i64 ((cn ps p.2 : Nat) : Int)) ha (by kernel_rfl) (run_load1 (of_ := p.2) (s.blkIs 4 rfl) rfl (by kernel_rfl) Try.isAgg3 (cnt_at ps (by omega))) ?_
              clear ha; intro a ha
              refine st_val (.int .i64 ((cn ps p.2 - 1 : Nat) : Int)) ha (by kernel_rfl) (run_arith (((cn ps p.2 : Nat) : Int) - (1 : Int)) ((cn ps p.2 - 1 : Nat) : Int) rfl (by kernel_rfl) (by kernel_rfl) (.inr (.inl ⟨rfl, rfl⟩)) (by rw [wrap64_in (by omega)]; try omega) _) ?_
              clear ha; intro a ha
              refine st_val (.pointer (some ⟨g2, p.2, none⟩)) ha (by kernel_rfl) (run_indexArr (kd := .u8) p.2 rfl Try.underlying44 Try.sizeOf3 (by kernel_rfl) (by kernel_rfl) rfl (by first | assumption | omega) _) ?_
              clear ha; intro a ha
              refine st_exd ha (by kernel_rfl) (ex_store_to (of_ := p.2) 4 [.int .i64 ((cn ps p.2 - 1 : Nat) : Int)] s (cnt_del hp_ (by omega)) rfl rfl (by kernel_rfl) (by kernel_rfl) (Try.sizeOf3 _) rfl (by simp [Value.oneCell']) (by rw [cnt_len]; simp only [List.length_cons, List.length_nil]; omega)) ?_
              clear ha; rintro w a s ha
              replace s : St W (Own 5 1 A12 1 c13 (u8s [((p.2 : Nat) : Int)]) :: .blk g11 [.int .i64 (1 + p.1.tmod 4), .int .i64 p.1, .slice A9 1 c10] 29 :: Own 5 1 A9 1 c10 (u8s [((p.2 : Nat) : Int)]) :: Bag g1 (mqs (ps.eraseIdx q)) :: .blk g2 (cnt (ps.eraseIdx q)) 44 :: L) w := s
              refine wpList_nil ?_
              refine then_normal ?_
              refine wp_region_lit ?_
              refine st_val (.int .i64 ((ps.length : Nat) : Int)) ha (by kernel_rfl) (by kernel_rfl) ?_
              clear ha; intro a ha
              refine st_val (.int .i64 ((ps.length - 1 : Nat) : Int)) ha (by kernel_rfl) (run_arith (((ps.length : Nat) : Int) - (1 : Int)) ((ps.length - 1 : Nat) : Int) rfl (by kernel_rfl) (by kernel_rfl) (.inr (.inl ⟨rfl, rfl⟩)) (by rw [wrap64_in (by omega)]; try omega) _) ?_
              clear ha; intro a ha
              refine st_val (.int .i64 ((ps.length - 1 : Nat) : Int)) ha (by kernel_rfl) (by kernel_rfl) ?_
              clear ha; intro a ha
              refine wpList_nil ?_
              refine block_normal ?_
              refine then_normal ?_
              refine wp_seq ?_
              refine wp_region_lit ?_
              refine st_val (.pointer (some ⟨g1, 0, none⟩)) ha (by kernel_rfl) (by kernel_rfl) ?_
              clear ha; intro a ha
              replace s := s.at_ (j := 3) rfl
              replace s : St W (Bag g1 (mqs (ps.eraseIdx q)) :: Own 5 1 A12 1 c13 (u8s [((p.2 : Nat) : Int)]) :: .blk g11 [.int .i64 (1 + p.1.tmod 4), .int .i64 p.1, .slice A9 1 c10] 29 :: Own 5 1 A9 1 c10 (u8s [((p.2 : Nat) : Int)]) :: .blk g2 (cnt (ps.eraseIdx q)) 44 :: L) w := s
              refine st_call ha (by kernel_rfl) (by kernel_rfl) (len_to W _ w g1 (mqs (ps.eraseIdx q)) (ps.length - 1) (by rw [mqs_len, List.length_eraseIdx_of_lt (by omega)]) s) ?_
              rintro _ w ⟨rfl, s⟩
              replace s : St W (Bag g1 (mqs (ps.eraseIdx q)) :: Own 5 1 A12 1 c13 (u8s [((p.2 : Nat) : Int)]) :: .blk g11 [.int .i64 (1 + p.1.tmod 4), .int .i64 p.1, .slice A9 1 c10] 29 :: Own 5 1 A9 1 c10 (u8s [((p.2 : Nat) : Int)]) :: .blk g2 (cnt (ps.eraseIdx q)) 44 :: L) w := s
              refine ⟨_, rfl, ?_⟩; clear ha; intro a ha
              refine st_val (.int .i64 ((ps.length - 1 : Nat) : Int)) ha (by kernel_rfl) (by kernel_rfl) ?_
              clear ha; intro a ha
              refine st_val (.bool false) ha (by kernel_rfl) (run_known (bne_self_eq_false _) (show (execOp (evalE _) _).run _ _ = .ok (.value (.bool (((ps.length - 1 : Nat) : Int) != ((ps.length - 1 : Nat) : Int)))) _ from by kernel_rfl)) ?_
              clear ha; intro a ha
              refine wpList_nil ?_
              refine then_normal ?_
              refine wp_false ha rfl (by kernel_rfl) ?_
              refine wp_skip ?_
              refine block_normal ?_
              refine then_normal ?_
              refine wp_region_lit ?_
              refine st_val (.int .i64 ((k : Nat) : Int)) ha (by kernel_rfl) (by kernel_rfl) ?_
              clear ha; intro a ha
              refine st_val (.int .i64 ((k + 1 : Nat) : Int)) ha (by kernel_rfl) (run_arith (((k : Nat) : Int) + (1 : Int)) ((k + 1 : Nat) : Int) rfl (by kernel_rfl) (by kernel_rfl) (.inl ⟨rfl, rfl⟩) (by rw [wrap64_in (by omega)]; try omega) _) ?_
              clear ha; intro a ha
              refine st_val (.int .i64 ((k + 1 : Nat) : Int)) ha (by kernel_rfl) (by kernel_rfl) ?_
              clear ha; intro a ha
              refine wpList_nil ?_
              refine then_normal ?_
              replace s := s.at_ (j := 4) rfl
              replace s : St W (.blk g2 (cnt (ps.eraseIdx q)) 44 :: Bag g1 (mqs (ps.eraseIdx q)) :: Own 5 1 A12 1 c13 (u8s [((p.2 : Nat) : Int)]) :: .blk g11 [.int .i64 (1 + p.1.tmod 4), .int .i64 p.1, .slice A9 1 c10] 29 :: Own 5 1 A9 1 c10 (u8s [((p.2 : Nat) : Int)]) :: L) w := s
              replace s := s.at_ (j := 1) rfl
              replace s : St W (Bag g1 (mqs (ps.eraseIdx q)) :: .blk g2 (cnt (ps.eraseIdx q)) 44 :: Own 5 1 A12 1 c13 (u8s [((p.2 : Nat) : Int)]) :: .blk g11 [.int .i64 (1 + p.1.tmod 4), .int .i64 p.1, .slice A9 1 c10] 29 :: Own 5 1 A9 1 c10 (u8s [((p.2 : Nat) : Int)]) :: L) w := s
              replace s : St W (Bag g1 (mqs (ps.eraseIdx q)) :: .blk g2 (cnt (ps.eraseIdx q)) 44 :: L) w := St.mid (A := [Bag g1 (mqs (ps.eraseIdx q)), .blk g2 (cnt (ps.eraseIdx q)) 44]) (B := [Own 5 1 A12 1 c13 (u8s [((p.2 : Nat) : Int)]), .blk g11 [.int .i64 (1 + p.1.tmod 4), .int .i64 p.1, .slice A9 1 c10] 29, Own 5 1 A9 1 c10 (u8s [((p.2 : Nat) : Int)])]) s
              rw [show ps.length - 1 = (ps.eraseIdx q).length from by rw [List.length_eraseIdx_of_lt (by omega)]] at ha
              exact ⟨(k + 1, ps.eraseIdx q), (show 200 - (k + 1) < 200 - k by omega), (Has.cons ha (by kernel_rfl) (by kernel_rfl) (Has.cons ha (by kernel_rfl) (by kernel_rfl) (Has.cons ha (by kernel_rfl) (by kernel_rfl) (Has.cons ha (by kernel_rfl) (by kernel_rfl) (Has.cons ha (by kernel_rfl) (by kernel_rfl) (Has.nil ha)))))), s, (show k + 1 ≤ 200 by omega), (ho.up.erase q)⟩
            · skip
              refine st_call ha (by kernel_rfl) (by kernel_rfl) (take_bag_out W _ w g1 (mqs ps) ((q : Nat) : Int) (by rw [mqs_len]; omega) s) ?_
              rintro _ w ⟨rfl, s⟩
              replace s : St W (Bag g1 (mqs ps) :: .blk g2 (cnt ps) 44 :: L) w := s
              refine ⟨_, rfl, ?_⟩; clear ha; intro a ha
              refine st_val (.tuple #[.agg #[.int .i64 0, .int .i64 0, .slice none 0 0], .bool false]) ha (by kernel_rfl) (by kernel_rfl) ?_
              clear ha; intro a ha
              refine st_val (.agg #[.int .i64 0, .int .i64 0, .slice none 0 0]) ha (by kernel_rfl) (by kernel_rfl) ?_
              clear ha; intro a ha
              refine st_val (.bool false) ha (by kernel_rfl) (by kernel_rfl) ?_
              clear ha; intro a ha
              refine st_ex ha (by kernel_rfl) (ex_alloc [.int .i64 0, .int .i64 0, .slice none 0 0] s rfl (Try.zeroValue29 _) (by kernel_rfl)) ?_
              clear ha; rintro _ w a ⟨g14, rfl, s⟩ ha
              replace s : St W (.blk g14 [.int .i64 0, .int .i64 0, .slice none 0 0] 29 :: Bag g1 (mqs ps) :: .blk g2 (cnt ps) 44 :: L) w := s
              refine st_exd ha (by kernel_rfl) (ex_store (of_ := 0) 0 [.int .i64 0, .int .i64 0, .slice none 0 0] s rfl rfl (by kernel_rfl) (by kernel_rfl) (Try.sizeOf29 _) rfl (by simp [Value.oneCell']) (Nat.le_of_ble_eq_true rfl)) ?_
              clear ha; rintro w a s ha
              replace s : St W (.blk g14 [.int .i64 0, .int .i64 0, .slice none 0 0] 29 :: Bag g1 (mqs ps) :: .blk g2 (cnt ps) 44 :: L) w := s
              refine st_val (.bool false) ha (by kernel_rfl) (by kernel_rfl) ?_
              clear ha; intro a ha
              refine wpList_nil ?_
              refine then_normal ?_
              refine wp_seq ?_
              refine wp_seq ?_
              refine wp_region_lit ?_
              refine st_val (.bool false) ha (by kernel_rfl) (by kernel_rfl) ?_
              clear ha; intro a ha
              refine st_val (.slice (some ad) n c) ha (by kernel_rfl) (by kernel_rfl) ?_
              clear ha; intro a ha
              refine st_val (.int .i64 ((k : Nat) : Int)) ha (by kernel_rfl) (by kernel_rfl) ?_
              clear ha; intro a ha
              refine st_val (.pointer (some (ad.add (k * 5)))) ha (by kernel_rfl) (run_indexAddr' (kd := .i64) (n := n) (c := c) k rfl Try.underlying22 Try.sizeOf32 (by kernel_rfl) (by kernel_rfl) rfl (by first | assumption | omega) _) ?_
              clear ha; intro a ha
              refine st_val (.pointer (some (ad.add (k * 5 + 1)))) ha (by kernel_rfl) (run_fieldAddr_at (i := k * 5) (off := 1) rfl Try.underlying32 rfl Try.sizeOf3 (by kernel_rfl) _) ?_
              clear ha; intro a ha
              refine st_val (.int .i64 d.i) ha (by kernel_rfl) (run_loadAt1 (i := k * 5 + 1) (hr _ (Sat.drops (A := [.blk g14 [.int .i64 0, .int .i64 0, .slice none 0 0] 29, Bag g1 (mqs ps), .blk g2 (cnt ps) 44]) s.sat)) rfl (by kernel_rfl) Try.isAgg3 (by rw [deeds_at hd (by omega)]; rfl)) ?_
              clear ha; intro a ha
              refine st_val (.int .i64 ((ps.length : Nat) : Int)) ha (by kernel_rfl) (by kernel_rfl) ?_
              clear ha; intro a ha
              refine st_val (.int .i64 ((ps.length + 1 : Nat) : Int)) ha (by kernel_rfl) (run_arith (((ps.length : Nat) : Int) + (1 : Int)) ((ps.length + 1 : Nat) : Int) rfl (by kernel_rfl) (by kernel_rfl) (.inl ⟨rfl, rfl⟩) (by rw [wrap64_in (by omega)]; try omega) _) ?_
              clear ha; intro a ha
              refine st_call ha (by kernel_rfl) (by kernel_rfl) (bring_to W _ w d.i ((ps.length + 1 : Nat) : Int) ((q : Nat) : Int) hq (by omega) (by omega) s) ?_
              rintro _ w ⟨rfl, s⟩
              replace s : St W (.blk g14 [.int .i64 0, .int .i64 0, .slice none 0 0] 29 :: Bag g1 (mqs ps) :: .blk g2 (cnt ps) 44 :: L) w := s
              refine ⟨_, rfl, ?_⟩; clear ha; intro a ha
              refine st_val (.int .i64 ((ps.length : Nat) : Int)) ha (by kernel_rfl) (by kernel_rfl) ?_
              clear ha; intro a ha
              refine st_val (.bool false) ha (by kernel_rfl) (run_known (show (decide (((q : Nat) : Int) < ((ps.length : Nat) : Int))) = false from decide_eq_false (by omega)) (by kernel_rfl)) ?_
              clear ha; intro a ha
              refine st_val (.bool false) ha (by kernel_rfl) (by kernel_rfl) ?_
              clear ha; intro a ha
              refine wpList_nil ?_
              refine then_normal ?_
              refine wp_false ha rfl (by kernel_rfl) ?_
              refine wp_skip ?_
              refine then_normal ?_
              refine wp_seq ?_
              refine wp_region_lit ?_
              refine st_val (.bool false) ha (by kernel_rfl) (by kernel_rfl) ?_
              clear ha; intro a ha
              refine wpList_nil ?_
              refine then_normal ?_
              refine wp_false ha rfl (by kernel_rfl) ?_
              refine wp_skip ?_
              refine block_normal ?_
              refine then_normal ?_
              refine wp_seq ?_
              refine wp_region_lit ?_
              refine st_val (.pointer (some ⟨g1, 0, none⟩)) ha (by kernel_rfl) (by kernel_rfl) ?_
              clear ha; intro a ha
              replace s := s.at_ (j := 1) rfl
              replace s : St W (Bag g1 (mqs ps) :: .blk g14 [.int .i64 0, .int .i64 0, .slice none 0 0] 29 :: .blk g2 (cnt ps) 44 :: L) w := s
              refine st_call ha (by kernel_rfl) (by kernel_rfl) (len_to W _ w g1 (mqs ps) (ps.length) (mqs_len ps) s) ?_
              rintro _ w ⟨rfl, s⟩
              replace s : St W (Bag g1 (mqs ps) :: .blk g14 [.int .i64 0, .int .i64 0, .slice none 0 0] 29 :: .blk g2 (cnt ps) 44 :: L) w := s
              refine ⟨_, rfl, ?_⟩; clear ha; intro a ha
              refine st_val (.int .i64 ((ps.length : Nat) : Int)) ha (by kernel_rfl) (by kernel_rfl) ?_
              clear ha; intro a ha
              refine st_val (.bool false) ha (by kernel_rfl) (run_known (bne_self_eq_false _) (show (execOp (evalE _) _).run _ _ = .ok (.value (.bool (((ps.length : Nat) : Int) != ((ps.length : Nat) : Int)))) _ from by kernel_rfl)) ?_
              clear ha; intro a ha
              refine wpList_nil ?_
              refine then_normal ?_
              refine wp_false ha rfl (by kernel_rfl) ?_
              refine wp_skip ?_
              refine block_normal ?_
              refine then_normal ?_
              refine wp_region_lit ?_
              refine st_val (.int .i64 ((k : Nat) : Int)) ha (by kernel_rfl) (by kernel_rfl) ?_
              clear ha; intro a ha
              refine st_val (.int .i64 ((k + 1 : Nat) : Int)) ha (by kernel_rfl) (run_arith (((k : Nat) : Int) + (1 : Int)) ((k + 1 : Nat) : Int) rfl (by kernel_rfl) (by kernel_rfl) (.inl ⟨rfl, rfl⟩) (by rw [wrap64_in (by omega)]; try omega) _) ?_
              clear ha; intro a ha
              refine st_val (.int .i64 ((k + 1 : Nat) : Int)) ha (by kernel_rfl) (by kernel_rfl) ?_
              clear ha; intro a ha
              refine wpList_nil ?_
              refine then_normal ?_
              replace s := s.at_ (j := 2) rfl
              replace s : St W (.blk g2 (cnt ps) 44 :: Bag g1 (mqs ps) :: .blk g14 [.int .i64 0, .int .i64 0, .slice none 0 0] 29 :: L) w := s
              replace s := s.at_ (j := 1) rfl
              replace s : St W (Bag g1 (mqs ps) :: .blk g2 (cnt ps) 44 :: .blk g14 [.int .i64 0, .int .i64 0, .slice none 0 0] 29 :: L) w := s
              replace s : St W (Bag g1 (mqs ps) :: .blk g2 (cnt ps) 44 :: L) w := St.mid (A := [Bag g1 (mqs ps), .blk g2 (cnt ps) 44]) (B := [.blk g14 [.int .i64 0, .int .i64 0, .slice none 0 0] 29]) s
              exact ⟨(k + 1, ps), (show 200 - (k + 1) < 200 - k by omega), (Has.cons ha (by kernel_rfl) (by kernel_rfl) (Has.cons ha (by kernel_rfl) (by kernel_rfl) (Has.cons ha (by kernel_rfl) (by kernel_rfl) (Has.cons ha (by kernel_rfl) (by kernel_rfl) (Has.cons ha (by kernel_rfl) (by kernel_rfl) (Has.nil ha)))))), s, (show k + 1 ≤ 200 by omega), ho.up⟩
          · rw [hb] at ha; have hb_ := hb; replace hb := ne_of_beq_false hb
            refine wp_seq ?_
            refine wp_seq ?_
            refine wp_region_lit ?_
            refine st_val (.bool ((d.k % 8) == (4 : Int))) ha (by kernel_rfl) (by kernel_rfl) ?_
            clear ha; intro a ha
            refine st_val (.bool ((d.k % 8) == (4 : Int))) ha (by kernel_rfl) (by kernel_rfl) ?_
            clear ha; intro a ha
            refine wpList_nil ?_
            refine then_normal ?_
            refine wp_part ((d.k % 8) == (4 : Int)) ha rfl (by kernel_rfl) (fun hb => ?_) (fun hb => ?_)
            · rw [hb] at ha; have hb_ := hb; replace hb := eq_of_beq hb
              refine wp_skip ?_
              refine then_normal ?_
              refine wp_true ha rfl (by kernel_rfl) ?_
              refine wp_seq ?_
              refine wp_region_lit ?_
              refine st_val (.slice (some ad) n c) ha (by kernel_rfl) (by kernel_rfl) ?_
              clear ha; intro a ha
              refine st_val (.int .i64 ((k : Nat) : Int)) ha (by kernel_rfl) (by kernel_rfl) ?_
              clear ha; intro a ha
              refine st_val (.pointer (some (ad.add (k * 5)))) ha (by kernel_rfl) (run_indexAddr' (kd := .i64) (n := n) (c := c) k rfl Try.underlying22 Try.sizeOf32 (by kernel_rfl) (by kernel_rfl) rfl (by first | assumption | omega) _) ?_
              clear ha; intro a ha
              refine st_val (.pointer (some (ad.add (k * 5 + 1)))) ha (by kernel_rfl) (run_fieldAddr_at (i := k * 5) (off := 1) rfl Try.underlying32 rfl Try.sizeOf3 (by kernel_rfl) _) ?_
              clear ha; intro a ha
              refine st_val (.int .i64 d.i) ha (by kernel_rfl) (run_loadAt1 (i := k * 5 + 1) (hr _ (Sat.drops (A := [Bag g1 (mqs ps), .blk g2 (cnt ps) 44]) s.sat)) rfl (by kernel_rfl) Try.isAgg3 (by rw [deeds_at hd (by omega)]; rfl)) ?_
              clear ha; intro a ha
              refine st_val (.int .i64 ((ps.length : Nat) : Int)) ha (by kernel_rfl) (by kernel_rfl) ?_
              clear ha; intro a ha
              refine st_val (.int .i64 ((ps.length + 1 : Nat) : Int)) ha (by kernel_rfl) (run_arith (((ps.length : Nat) : Int) + (1 : Int)) ((ps.length + 1 : Nat) : Int) rfl (by kernel_rfl) (by kernel_rfl) (.inl ⟨rfl, rfl⟩) (by rw [wrap64_in (by omega)]; try omega) _) ?_
              clear ha; intro a ha
              refine st_call ha (by kernel_rfl) (by kernel_rfl) (bring_to W _ w d.i ((ps.length + 1 : Nat) : Int) ((q : Nat) : Int) hq (by omega) (by omega) s) ?_
              rintro _ w ⟨rfl, s⟩
              replace s : St W (Bag g1 (mqs ps) :: .blk g2 (cnt ps) 44 :: L) w := s
              refine ⟨_, rfl, ?_⟩; clear ha; intro a ha
              refine st_val (.int .i64 ((q : Nat) : Int)) ha (by kernel_rfl) (by kernel_rfl) ?_
              clear ha; intro a ha
              refine wpList_nil ?_
              refine then_normal ?_
              refine wp_seq ?_
              refine wp_region_lit ?_
              refine st_val (.pointer (some ⟨g1, 0, none⟩)) ha (by kernel_rfl) (by kernel_rfl) ?_
              clear ha; intro a ha
              refine st_val (.int .i64 ((q : Nat) : Int)) ha (by kernel_rfl) (by kernel_rfl) ?_
              clear ha; intro a ha
              by_cases hin : q < ps.length
              · obtain ⟨p, hp_⟩ : ∃ p, ps[q]? = some p := ⟨_, List.getElem?_eq_getElem hin⟩
                have hpm := ho.to p (List.mem_of_getElem? hp_)
                have hp4 := tmod4 ⟨hpm.1, hpm.2.1⟩
                have hc1 := cn_pos hp_
                have hc2 := cn_le ps p.2
                refine st_call ha (by kernel_rfl) (by kernel_rfl) (look_to W _ w g1 (mqs ps) q (1 + p.1.tmod 4) p.1 [((p.2 : Nat) : Int)] 1 (mqs_at hp_) rfl (mqs_ok (by have := ho.len; omega)) s) ?_
                rintro _ w ⟨A15, c16, rfl, s⟩
                replace s : St W (Own 5 1 A15 1 c16 (u8s [((p.2 : Nat) : Int)]) :: Bag g1 (mqs ps) :: .blk g2 (cnt ps) 44 :: L) w := s
                refine ⟨_, rfl, ?_⟩; clear ha; intro a ha
                refine st_val (.tuple #[.agg #[.int .i64 (1 + p.1.tmod 4), .int .i64 p.1, .slice A15 1 c16], .bool true]) ha (by kernel_rfl) (by kernel_rfl) ?_
                clear ha; intro a ha
                refine st_val (.agg #[.int .i64 (1 + p.1.tmod 4), .int .i64 p.1, .slice A15 1 c16]) ha (by kernel_rfl) (by kernel_rfl) ?_
                clear ha; intro a ha
                refine st_val (.bool true) ha (by kernel_rfl) (by kernel_rfl) ?_
                clear ha; intro a ha
                refine st_ex ha (by kernel_rfl) (ex_alloc [.int .i64 0, .int .i64 0, .slice none 0 0] s rfl (Try.zeroValue29 _) (by kernel_rfl)) ?_
                clear ha; rintro _ w a ⟨g17, rfl, s⟩ ha
                replace s : St W (.blk g17 [.int .i64 0, .int .i64 0, .slice none 0 0] 29 :: Own 5 1 A15 1 c16 (u8s [((p.2 : Nat) : Int)]) :: Bag g1 (mqs ps) :: .blk g2 (cnt ps) 44 :: L) w := s
                refine st_exd ha (by kernel_rfl) (ex_store (of_ := 0) 0 [.int .i64 (1 + p.1.tmod 4), .int .i64 p.1, .slice A15 1 c16] s rfl rfl (by kernel_rfl) (by kernel_rfl) (Try.sizeOf29 _) rfl (by simp [Value.oneCell']) (Nat.le_of_ble_eq_true rfl)) ?_
                clear ha; rintro w a s ha
                replace s : St W (.blk g17 [.int .i64 (1 + p.1.tmod 4), .int .i64 p.1, .slice A15 1 c16] 29 :: Own 5 1 A15 1 c16 (u8s [((p.2 : Nat) : Int)]) :: Bag g1 (mqs ps) :: .blk g2 (cnt ps) 44 :: L) w := s
                refine st_val (.bool true) ha (by kernel_rfl) (by kernel_rfl) ?_
                clear ha; intro a ha
                refine wpList_nil ?_
                refine then_normal ?_
                refine wp_seq ?_
                refine wp_seq ?_
                refine wp_region_lit ?_
                refine st_val (.bool true) ha (by kernel_rfl) (by kernel_rfl) ?_
                clear ha; intro a ha
                refine st_val (.int .i64 ((q : Nat) : Int)) ha (by kernel_rfl) (by kernel_rfl) ?_
                clear ha; intro a ha
                refine st_val (.int .i64 ((ps.length : Nat) : Int)) ha (by kernel_rfl) (by kernel_rfl) ?_
                clear ha; intro a ha
                refine st_val (.bool true) ha (by kernel_rfl) (run_known (show (decide (((q : Nat) : Int) < ((ps.length : Nat) : Int))) = true from decide_eq_true (by omega)) (by kernel_rfl)) ?_
                clear ha; intro a ha
                refine st_val (.bool false) ha (by kernel_rfl) (by kernel_rfl) ?_
                clear ha; intro a ha
                refine wpList_nil ?_
                refine then_normal ?_
                refine wp_false ha rfl (by kernel_rfl) ?_
                refine wp_skip ?_
                refine then_normal ?_
                refine wp_seq ?_
                refine wp_region_lit ?_
                refine st_val (.int .i64 (d.k % 8)) ha (by kernel_rfl) (by kernel_rfl) ?_
                clear ha; intro a ha
                refine st_val (.bool ((d.k % 8) == (7 : Int))) ha (by kernel_rfl) (by kernel_rfl) ?_
                clear ha; intro a ha
                refine st_val (.bool ((d.k % 8) == (7 : Int))) ha (by kernel_rfl) (by kernel_rfl) ?_
                clear ha; intro a ha
                rcases Bool.eq_false_or_eq_true ((d.k % 8) == (7 : Int)) with hb | hb
                · rw [hb] at ha; have hb_ := hb; replace hb := eq_of_beq hb
                  refine st_val (.bool true) ha (by kernel_rfl) (by kernel_rfl) ?_
                  clear ha; intro a ha
                  refine st_val (.bool true) ha (by kernel_rfl) (by kernel_rfl) ?_
                  clear ha; intro a ha
                  refine wpList_nil ?_
                  refine then_normal ?_
                  refine wp_true ha rfl (by kernel_rfl) ?_
                  refine wp_seq ?_
                  refine wp_seq ?_
                  refine wp_region_lit ?_
                  refine st_val (.pointer (some ⟨g1, 0, none⟩)) ha (by kernel_rfl) (by kernel_rfl) ?_
                  clear ha; intro a ha
                  refine st_val (.int .i64 ((q : Nat) : Int)) ha (by kernel_rfl) (by kernel_rfl) ?_
                  clear ha; intro a ha
                  replace s := s.at_ (j := 2) rfl
                  replace s : St W (Bag g1 (mqs ps) :: .blk g17 [.int .i64 (1 + p.1.tmod 4), .int .i64 p.1, .slice A15 1 c16] 29 :: Own 5 1 A15 1 c16 (u8s [((p.2 : Nat) : Int)]) :: .blk g2 (cnt ps) 44 :: L) w := s
                  refine st_call ha (by kernel_rfl) (by kernel_rfl) (double_to W _ w g1 (mqs ps) q ⟨1 + p.1.tmod 4, p.1, [((p.2 : Nat) : Int)]⟩ 0 (mqs (ps ++ [p])) (mqs_at hp_) (by rw [mqs_len]; exact mq_code ⟨hpm.1, hpm.2.1⟩ (by have := ho.len; omega)) (mqs_put ⟨hpm.1, hpm.2.1⟩ (by have := ho.len; omega)) (mqs_ok (by have := ho.len; omega)) s) ?_
                  rintro _ w ⟨rfl, s⟩
                  replace s : St W (Bag g1 (mqs (ps ++ [p])) :: .blk g17 [.int .i64 (1 + p.1.tmod 4), .int .i64 p.1, .slice A15 1 c16] 29 :: Own 5 1 A15 1 c16 (u8s [((p.2 : Nat) : Int)]) :: .blk g2 (cnt ps) 44 :: L) w := s
                  refine ⟨_, rfl, ?_⟩; clear ha; intro a ha
                  refine st_val (.bool false) ha (by kernel_rfl) (by kernel_rfl) ?_
                  clear ha; intro a ha
                  refine st_val (.bool false) ha (by kernel_rfl) (by kernel_rfl) ?_
                  clear ha; intro a ha
                  refine st_val (.agg #[.int .i64 (1 + p.1.tmod 4), .int .i64 p.1, .slice A15 1 c16]) ha (by kernel_rfl) (run_loadN (of_ := 0) [.int .i64 (1 + p.1.tmod 4), .int .i64 p.1, .slice A15 1 c16] (s.blkIs 1 rfl) rfl (by kernel_rfl) Try.isAgg29 Try.sizeOf29 rfl (Nat.le_of_ble_eq_true rfl)) ?_
                  clear ha; intro a ha
                  refine st_call ha (by kernel_rfl) (by kernel_rfl) (first_one W _ w (1 + p.1.tmod 4) p.1 A15 1 c16 ((p.2 : Nat) : Int) rfl (Knows.own (j := 2) rfl) s) ?_
                  rintro _ w ⟨rfl, s⟩
                  replace s : St W (Bag g1 (mqs (ps ++ [p])) :: .blk g17 [.int .i64 (1 + p.1.tmod 4), .int .i64 p.1, .slice A15 1 c16] 29 :: Own 5 1 A15 1 c16 (u8s [((p.2 : Nat) : Int)]) :: .blk g2 (cnt ps) 44 :: L) w := s
                  refine ⟨_, rfl, ?_⟩; clear ha; intro a ha
                  refine st_val (.int .i64 ((p.2 : Nat) : Int)) ha (by kernel_rfl) (run_conv (((p.2 : Nat) : Int)) rfl (by kernel_rfl) Try.underlying5 Try.underlying3 (wrap64_in (by omega)) _) ?_
                  clear ha; intro a ha
                  refine st_val (.int .i64 ((k : Nat) : Int)) ha (by kernel_rfl) (by kernel_rfl) ?_
                  clear ha; intro a ha
                  refine st_val (.bool false) ha (by kernel_rfl) (run_known (show (decide (((p.2 : Nat) : Int) ≥ ((k : Nat) : Int))) = false from decide_eq_false (by omega)) (by kernel_rfl)) ?_
                  clear ha; intro a ha
                  refine st_val (.bool false) ha (by kernel_rfl) (by kernel_rfl) ?_
                  clear ha; intro a ha
                  refine wpList_nil ?_
                  refine then_normal ?_
                  refine wp_false ha rfl (by kernel_rfl) ?_
                  refine wp_skip ?_
                  refine then_normal ?_
                  refine wp_seq ?_
                  refine wp_region_lit ?_
                  refine st_val (.agg #[.int .i64 (1 + p.1.tmod 4), .int .i64 p.1, .slice A15 1 c16]) ha (by kernel_rfl) (run_loadN (of_ := 0) [.int .i64 (1 + p.1.tmod 4), .int .i64 p.1, .slice A15 1 c16] (s.blkIs 1 rfl) rfl (by kernel_rfl) Try.isAgg29 Try.sizeOf29 rfl (Nat.le_of_ble_eq_true rfl)) ?_
                  clear ha; intro a ha
                  refine st_call ha (by kernel_rfl) (by kernel_rfl) (first_one W _ w (1 + p.1.tmod 4) p.1 A15 1 c16 ((p.2 : Nat) : Int) rfl (Knows.own (j := 2) rfl) s) ?_
                  rintro _ w ⟨rfl, s⟩
                  replace s : St W (Bag g1 (mqs (ps ++ [p])) :: .blk g17 [.int .i64 (1 + p.1.tmod 4), .int .i64 p.1, .slice A15 1 c16] 29 :: Own 5 1 A15 1 c16 (u8s [((p.2 : Nat) : Int)]) :: .blk g2 (cnt ps) 44 :: L) w := s
                  refine ⟨_, rfl, ?_⟩; clear ha; intro a ha
                  refine st_val (.pointer (some ⟨g2, p.2, none⟩)) ha (by kernel_rfl) (run_indexArr (kd := .u8) p.2 rfl Try.underlying44 Try.sizeOf3 (by kernel_rfl) (by kernel_rfl) rfl (by first | assumption | omega) _) ?_
                  clear ha; intro a ha
                  refine st_val (.int .i64 ((cn ps p.2 : Nat) : Int)) ha (by kernel_rfl) (run_load1 (of_ := p.2) (s.blkIs 3 rfl) rfl (by kernel_rfl) Try.isAgg3 (cnt_at ps (by omega))) ?_
                  clear ha; intro a ha
                  refine st_val (.int .i64 ((cn ps p.2 + 1 : Nat) : Int)) ha (by kernel_rfl) (run_arith (((cn ps p.2 : Nat) : Int) + (1 : Int)) ((cn ps p.2 + 1 : Nat) : Int) rfl (by kernel_rfl) (by kernel_rfl) (.inl ⟨rfl, rfl⟩) (by rw [wrap64_in (by omega)]; try omega) _) ?_
                  clear ha; intro a ha
                  refine st_val (.pointer (some ⟨g2, p.2, none⟩)) ha (by kernel_rfl) (run_indexArr (kd := .u8) p.2 rfl Try.underlying44 Try.sizeOf3 (by kernel_rfl) (by kernel_rfl) rfl (by first | assumption | omega) _) ?_
                  clear ha; intro a ha
                  refine st_exd ha (by kernel_rfl) (ex_store_to (of_ := p.2) 3 [.int .i64 ((cn ps p.2 + 1 : Nat) : Int)] s (cnt_add ps p (by omega)) rfl rfl (by kernel_rfl) (by kernel_rfl) (Try.sizeOf3 _) rfl (by simp [Value.oneCell']) (by rw [cnt_len]; simp only [List.length_cons, List.length_nil]; omega)) ?_
                  clear ha; rintro w a s ha
                  replace s : St W (Bag g1 (mqs (ps ++ [p])) :: .blk g17 [.int .i64 (1 + p.1.tmod 4), .int .i64 p.1, .slice A15 1 c16] 29 :: Own 5 1 A15 1 c16 (u8s [((p.2 : Nat) : Int)]) :: .blk g2 (cnt (ps ++ [p])) 44 :: L) w := s
                  refine wpList_nil ?_
                  refine then_normal ?_
                  refine wp_region_lit ?_
                  refine st_val (.int .i64 ((ps.length : Nat) : Int)) ha (by kernel_rfl) (by kernel_rfl) ?_
                  clear ha; intro a ha
                  refine st_val (.int .i64 ((ps.length + 1 : Nat) : Int)) ha (by kernel_rfl) (run_arith (((ps.length : Nat) : Int) + (1 : Int)) ((ps.length + 1 : Nat) : Int) rfl (by kernel_rfl) (by kernel_rfl) (.inl ⟨rfl, rfl⟩) (by rw [wrap64_in (by omega)]; try omega) _) ?_
                  clear ha; intro a ha
                  refine st_val (.int .i64 ((ps.length + 1 : Nat) : Int)) ha (by kernel_rfl) (by kernel_rfl) ?_
                  clear ha; intro a ha
                  refine wpList_nil ?_
                  refine block_normal ?_
                  refine then_normal ?_
                  refine wp_seq ?_
                  refine wp_region_lit ?_
                  refine st_val (.pointer (some ⟨g1, 0, none⟩)) ha (by kernel_rfl) (by kernel_rfl) ?_
                  clear ha; intro a ha
                  refine st_call ha (by kernel_rfl) (by kernel_rfl) (len_to W _ w g1 (mqs (ps ++ [p])) (ps.length + 1) (by rw [mqs_len]; simp) s) ?_
                  rintro _ w ⟨rfl, s⟩
                  replace s : St W (Bag g1 (mqs (ps ++ [p])) :: .blk g17 [.int .i64 (1 + p.1.tmod 4), .int .i64 p.1, .slice A15 1 c16] 29 :: Own 5 1 A15 1 c16 (u8s [((p.2 : Nat) : Int)]) :: .blk g2 (cnt (ps ++ [p])) 44 :: L) w := s
                  refine ⟨_, rfl, ?_⟩; clear ha; intro a ha
                  refine st_val (.int .i64 ((ps.length + 1 : Nat) : Int)) ha (by kernel_rfl) (by kernel_rfl) ?_
                  clear ha; intro a ha
                  refine st_val (.bool false) ha (by kernel_rfl) (run_known (bne_self_eq_false _) (show (execOp (evalE _) _).run _ _ = .ok (.value (.bool (((ps.length + 1 : Nat) : Int) != ((ps.length + 1 : Nat) : Int)))) _ from by kernel_rfl)) ?_
                  clear ha; intro a ha
                  refine wpList_nil ?_
                  refine then_normal ?_
                  refine wp_false ha rfl (by kernel_rfl) ?_
                  refine wp_skip ?_
                  refine block_normal ?_
                  refine then_normal ?_
                  refine wp_region_lit ?_
                  refine st_val (.int .i64 ((k : Nat) : Int)) ha (by kernel_rfl) (by kernel_rfl) ?_
                  clear ha; intro a ha
                  refine st_val (.int .i64 ((k + 1 : Nat) : Int)) ha (by kernel_rfl) (run_arith (((k : Nat) : Int) + (1 : Int)) ((k + 1 : Nat) : Int) rfl (by kernel_rfl) (by kernel_rfl) (.inl ⟨rfl, rfl⟩) (by rw [wrap64_in (by omega)]; try omega) _) ?_
                  clear ha; intro a ha
                  refine st_val (.int .i64 ((k + 1 : Nat) : Int)) ha (by kernel_rfl) (by kernel_rfl) ?_
                  clear ha; intro a ha
                  refine wpList_nil ?_
                  refine then_normal ?_
                  replace s := s.at_ (j := 3) rfl
                  replace s : St W (.blk g2 (cnt (ps ++ [p])) 44 :: Bag g1 (mqs (ps ++ [p])) :: .blk g17 [.int .i64 (1 + p.1.tmod 4), .int .i64 p.1, .slice A15 1 c16] 29 :: Own 5 1 A15 1 c16 (u8s [((p.2 : Nat) : Int)]) :: L) w := s
                  replace s := s.at_ (j := 1) rfl
                  replace s : St W (Bag g1 (mqs (ps ++ [p])) :: .blk g2 (cnt (ps ++ [p])) 44 :: .blk g17 [.int .i64 (1 + p.1.tmod 4), .int .i64 p.1, .slice A15 1 c16] 29 :: Own 5 1 A15 1 c16 (u8s [((p.2 : Nat) : Int)]) :: L) w := s
                  replace s : St W (Bag g1 (mqs (ps ++ [p])) :: .blk g2 (cnt (ps ++ [p])) 44 :: L) w := St.mid (A := [Bag g1 (mqs (ps ++ [p])), .blk g2 (cnt (ps ++ [p])) 44]) (B := [.blk g17 [.int .i64 (1 + p.1.tmod 4), .int .i64 p.1, .slice A15 1 c16] 29, Own 5 1 A15 1 c16 (u8s [((p.2 : Nat) : Int)])]) s
                  rw [show ps.length + 1 = (ps ++ [p]).length from by simp] at ha
                  exact ⟨(k + 1, ps ++ [p]), (show 200 - (k + 1) < 200 - k by omega), (Has.cons ha (by kernel_rfl) (by kernel_rfl) (Has.cons ha (by kernel_rfl) (by kernel_rfl) (Has.cons ha (by kernel_rfl) (by kernel_rfl) (Has.cons ha (by kernel_rfl) (by kernel_rfl) (Has.cons ha (by kernel_rfl) (by kernel_rfl) (Has.nil ha)))))), s, (show k + 1 ≤ 200 by omega), (ho.put p (by omega))⟩
                · rw [hb] at ha; have hb_ := hb; replace hb := ne_of_beq_false hb
                  refine st_pass ha (by kernel_rfl) ?_
                  clear ha; intro a ha
                  refine st_val (.bool false) ha (by kernel_rfl) (by kernel_rfl) ?_
                  clear ha; intro a ha
                  refine wpList_nil ?_
                  refine then_normal ?_
                  refine wp_false ha rfl (by kernel_rfl) ?_
                  refine wp_skip ?_
                  refine block_normal ?_
                  refine then_normal ?_
                  refine wp_seq ?_
                  refine wp_region_lit ?_
                  refine st_val (.pointer (some ⟨g1, 0, none⟩)) ha (by kernel_rfl) (by kernel_rfl) ?_
                  clear ha; intro a ha
                  replace s := s.at_ (j := 2) rfl
                  replace s : St W (Bag g1 (mqs ps) :: .blk g17 [.int .i64 (1 + p.1.tmod 4), .int .i64 p.1, .slice A15 1 c16] 29 :: Own 5 1 A15 1 c16 (u8s [((p.2 : Nat) : Int)]) :: .blk g2 (cnt ps) 44 :: L) w := s
                  refine st_call ha (by kernel_rfl) (by kernel_rfl) (len_to W _ w g1 (mqs ps) (ps.length) (mqs_len ps) s) ?_
                  rintro _ w ⟨rfl, s⟩
                  replace s : St W (Bag g1 (mqs ps) :: .blk g17 [.int .i64 (1 + p.1.tmod 4), .int .i64 p.1, .slice A15 1 c16] 29 :: Own 5 1 A15 1 c16 (u8s [((p.2 : Nat) : Int)]) :: .blk g2 (cnt ps) 44 :: L) w := s
                  refine ⟨_, rfl, ?_⟩; clear ha; intro a ha
                  refine st_val (.int .i64 ((ps.length : Nat) : Int)) ha (by kernel_rfl) (by kernel_rfl) ?_
                  clear ha; intro a ha
                  refine st_val (.bool false) ha (by kernel_rfl) (run_known (bne_self_eq_false _) (show (execOp (evalE _) _).run _ _ = .ok (.value (.bool (((ps.length : Nat) : Int) != ((ps.length : Nat) : Int)))) _ from by kernel_rfl)) ?_
                  clear ha; intro a ha
                  refine wpList_nil ?_
                  refine then_normal ?_
                  refine wp_false ha rfl (by kernel_rfl) ?_
                  refine wp_skip ?_
                  refine block_normal ?_
                  refine then_normal ?_
                  refine wp_region_lit ?_
                  refine st_val (.int .i64 ((k : Nat) : Int)) ha (by kernel_rfl) (by kernel_rfl) ?_
                  clear ha; intro a ha
                  refine st_val (.int .i64 ((k + 1 : Nat) : Int)) ha (by kernel_rfl) (run_arith (((k : Nat) : Int) + (1 : Int)) ((k + 1 : Nat) : Int) rfl (by kernel_rfl) (by kernel_rfl) (.inl ⟨rfl, rfl⟩) (by rw [wrap64_in (by omega)]; try omega) _) ?_
                  clear ha; intro a ha
                  refine st_val (.int .i64 ((k + 1 : Nat) : Int)) ha (by kernel_rfl) (by kernel_rfl) ?_
                  clear ha; intro a ha
                  refine wpList_nil ?_
                  refine then_normal ?_
                  replace s := s.at_ (j := 3) rfl
                  replace s : St W (.blk g2 (cnt ps) 44 :: Bag g1 (mqs ps) :: .blk g17 [.int .i64 (1 + p.1.tmod 4), .int .i64 p.1, .slice A15 1 c16] 29 :: Own 5 1 A15 1 c16 (u8s [((p.2 : Nat) : Int)]) :: L) w := s
                  replace s := s.at_ (j := 1) rfl
                  replace s : St W (Bag g1 (mqs ps) :: .blk g2 (cnt ps) 44 :: .blk g17 [.int .i64 (1 + p.1.tmod 4), .int .i64 p.1, .slice A15 1 c16] 29 :: Own 5 1 A15 1 c16 (u8s [((p.2 : Nat) : Int)]) :: L) w := s
                  replace s : St W (Bag g1 (mqs ps) :: .blk g2 (cnt ps) 44 :: L) w := St.mid (A := [Bag g1 (mqs ps), .blk g2 (cnt ps) 44]) (B := [.blk g17 [.int .i64 (1 + p.1.tmod 4), .int .i64 p.1, .slice A15 1 c16] 29, Own 5 1 A15 1 c16 (u8s [((p.2 : Nat) : Int)])]) s
                  exact ⟨(k + 1, ps), (show 200 - (k + 1) < 200 - k by omega), (Has.cons ha (by kernel_rfl) (by kernel_rfl) (Has.cons ha (by kernel_rfl) (by kernel_rfl) (Has.cons ha (by kernel_rfl) (by kernel_rfl) (Has.cons ha (by kernel_rfl) (by kernel_rfl) (Has.cons ha (by kernel_rfl) (by kernel_rfl) (Has.nil ha)))))), s, (show k + 1 ≤ 200 by omega), ho.up⟩
              · skip
                refine st_call ha (by kernel_rfl) (by kernel_rfl) (look_bag_out W _ w g1 (mqs ps) ((q : Nat) : Int) (by rw [mqs_len]; omega) s) ?_
                rintro _ w ⟨rfl, s⟩
                replace s : St W (Bag g1 (mqs ps) :: .blk g2 (cnt ps) 44 :: L) w := s
                refine ⟨_, rfl, ?_⟩; clear ha; intro a ha
                refine st_val (.tuple #[.agg #[.int .i64 0, .int .i64 0, .slice none 0 0], .bool false]) ha (by kernel_rfl) (by kernel_rfl) ?_
                clear ha; intro a ha
                refine st_val (.agg #[.int .i64 0, .int .i64 0, .slice none 0 0]) ha (by kernel_rfl) (by kernel_rfl) ?_
                clear ha; intro a ha
                refine st_val (.bool false) ha (by kernel_rfl) (by kernel_rfl) ?_
                clear ha; intro a ha
                refine st_ex ha (by kernel_rfl) (ex_alloc [.int .i64 0, .int .i64 0, .slice none 0 0] s rfl (Try.zeroValue29 _) (by kernel_rfl)) ?_
                clear ha; rintro _ w a ⟨g18, rfl, s⟩ ha
                replace s : St W (.blk g18 [.int .i64 0, .int .i64 0, .slice none 0 0] 29 :: Bag g1 (mqs ps) :: .blk g2 (cnt ps) 44 :: L) w := s
                refine st_exd ha (by kernel_rfl) (ex_store (of_ := 0) 0 [.int .i64 0, .int .i64 0, .slice none 0 0] s rfl rfl (by kernel_rfl) (by kernel_rfl) (Try.sizeOf29 _) rfl (by simp [Value.oneCell']) (Nat.le_of_ble_eq_true rfl)) ?_
                clear ha; rintro w a s ha
                replace s : St W (.blk g18 [.int .i64 0, .int .i64 0, .slice none 0 0] 29 :: Bag g1 (mqs ps) :: .blk g2 (cnt ps) 44 :: L) w := s
                refine st_val (.bool false) ha (by kernel_rfl) (by kernel_rfl) ?_
                clear ha; intro a ha
                refine wpList_nil ?_
                refine then_normal ?_
                refine wp_seq ?_
                refine wp_seq ?_
                refine wp_region_lit ?_
                refine st_val (.bool false) ha (by kernel_rfl) (by kernel_rfl) ?_
                clear ha; intro a ha
                refine st_val (.int .i64 ((q : Nat) : Int)) ha (by kernel_rfl) (by kernel_rfl) ?_
                clear ha; intro a ha
                refine st_val (.int .i64 ((ps.length : Nat) : Int)) ha (by kernel_rfl) (by kernel_rfl) ?_
                clear ha; intro a ha
                refine st_val (.bool false) ha (by kernel_rfl) (run_known (show (decide (((q : Nat) : Int) < ((ps.length : Nat) : Int))) = false from decide_eq_false (by omega)) (by kernel_rfl)) ?_
                clear ha; intro a ha
                refine st_val (.bool false) ha (by kernel_rfl) (by kernel_rfl) ?_
                clear ha; intro a ha
                refine wpList_nil ?_
                refine then_normal ?_
                refine wp_false ha rfl (by kernel_rfl) ?_
                refine wp_skip ?_
                refine then_normal ?_
                refine wp_seq ?_
                refine wp_region_lit ?_
                refine st_val (.int .i64 (d.k % 8)) ha (by kernel_rfl) (by kernel_rfl) ?_
                clear ha; intro a ha
                refine st_val (.bool ((d.k % 8) == (7 : Int))) ha (by kernel_rfl) (by kernel_rfl) ?_
                clear ha; intro a ha
                refine st_val (.bool ((d.k % 8) == (7 : Int))) ha (by kernel_rfl) (by kernel_rfl) ?_
                clear ha; intro a ha
                rcases Bool.eq_false_or_eq_true ((d.k % 8) == (7 : Int)) with hb | hb
                · rw [hb] at ha; have hb_ := hb; replace hb := eq_of_beq hb
                  refine st_val (.bool false) ha (by kernel_rfl) (by kernel_rfl) ?_
                  clear ha; intro a ha
                  refine st_val (.bool false) ha (by kernel_rfl) (by kernel_rfl) ?_
                  clear ha; intro a ha
                  refine wpList_nil ?_
                  refine then_normal ?_
                  refine wp_false ha rfl (by kernel_rfl) ?_
                  refine wp_skip ?_
                  refine block_normal ?_
                  refine then_normal ?_
                  refine wp_seq ?_
                  refine wp_region_lit ?_
                  refine st_val (.pointer (some ⟨g1, 0, none⟩)) ha (by kernel_rfl) (by kernel_rfl) ?_
                  clear ha; intro a ha
                  replace s := s.at_ (j := 1) rfl
                  replace s : St W (Bag g1 (mqs ps) :: .blk g18 [.int .i64 0, .int .i64 0, .slice none 0 0] 29 :: .blk g2 (cnt ps) 44 :: L) w := s
                  refine st_call ha (by kernel_rfl) (by kernel_rfl) (len_to W _ w g1 (mqs ps) (ps.length) (mqs_len ps) s) ?_
                  rintro _ w ⟨rfl, s⟩
                  replace s : St W (Bag g1 (mqs ps) :: .blk g18 [.int .i64 0, .int .i64 0, .slice none 0 0] 29 :: .blk g2 (cnt ps) 44 :: L) w := s
                  refine ⟨_, rfl, ?_⟩; clear ha; intro a ha
                  refine st_val (.int .i64 ((ps.length : Nat) : Int)) ha (by kernel_rfl) (by kernel_rfl) ?_
                  clear ha; intro a ha
                  refine st_val (.bool false) ha (by kernel_rfl) (run_known (bne_self_eq_false _) (show (execOp (evalE _) _).run _ _ = .ok (.value (.bool (((ps.length : Nat) : Int) != ((ps.length : Nat) : Int)))) _ from by kernel_rfl)) ?_
                  clear ha; intro a ha
                  refine wpList_nil ?_
                  refine then_normal ?_
                  refine wp_false ha rfl (by kernel_rfl) ?_
                  refine wp_skip ?_
                  refine block_normal ?_
                  refine then_normal ?_
                  refine wp_region_lit ?_
                  refine st_val (.int .i64 ((k : Nat) : Int)) ha (by kernel_rfl) (by kernel_rfl) ?_
                  clear ha; intro a ha
                  refine st_val (.int .i64 ((k + 1 : Nat) : Int)) ha (by kernel_rfl) (run_arith (((k : Nat) : Int) + (1 : Int)) ((k + 1 : Nat) : Int) rfl (by kernel_rfl) (by kernel_rfl) (.inl ⟨rfl, rfl⟩) (by rw [wrap64_in (by omega)]; try omega) _) ?_
                  clear ha; intro a ha
                  refine st_val (.int .i64 ((k + 1 : Nat) : Int)) ha (by kernel_rfl) (by kernel_rfl) ?_
                  clear ha; intro a ha
                  refine wpList_nil ?_
                  refine then_normal ?_
                  replace s := s.at_ (j := 2) rfl
                  replace s : St W (.blk g2 (cnt ps) 44 :: Bag g1 (mqs ps) :: .blk g18 [.int .i64 0, .int .i64 0, .slice none 0 0] 29 :: L) w := s
                  replace s := s.at_ (j := 1) rfl
                  replace s : St W (Bag g1 (mqs ps) :: .blk g2 (cnt ps) 44 :: .blk g18 [.int .i64 0, .int .i64 0, .slice none 0 0] 29 :: L) w := s
                  replace s : St W (Bag g1 (mqs ps) :: .blk g2 (cnt ps) 44 :: L) w := St.mid (A := [Bag g1 (mqs ps), .blk g2 (cnt ps) 44]) (B := [.blk g18 [.int .i64 0, .int .i64 0, .slice none 0 0] 29]) s
                  exact ⟨(k + 1, ps), (show 200 - (k + 1) < 200 - k by omega), (Has.cons ha (by kernel_rfl) (by kernel_rfl) (Has.cons ha (by kernel_rfl) (by kernel_rfl) (Has.cons ha (by kernel_rfl) (by kernel_rfl) (Has.cons ha (by kernel_rfl) (by kernel_rfl) (Has.cons ha (by kernel_rfl) (by kernel_rfl) (Has.nil ha)))))), s, (show k + 1 ≤ 200 by omega), ho.up⟩
                · rw [hb] at ha; have hb_ := hb; replace hb := ne_of_beq_false hb
                  refine st_pass ha (by kernel_rfl) ?_
                  clear ha; intro a ha
                  refine st_val (.bool false) ha (by kernel_rfl) (by kernel_rfl) ?_
                  clear ha; intro a ha
                  refine wpList_nil ?_
                  refine then_normal ?_
                  refine wp_false ha rfl (by kernel_rfl) ?_
                  refine wp_skip ?_
                  refine block_normal ?_
                  refine then_normal ?_
                  refine wp_seq ?_
                  refine wp_region_lit ?_
                  refine st_val (.pointer (some ⟨g1, 0, none⟩)) ha (by kernel_rfl) (by kernel_rfl) ?_
                  clear ha; intro a ha
                  replace s := s.at_ (j := 1) rfl
                  replace s : St W (Bag g1 (mqs ps) :: .blk g18 [.int .i64 0, .int .i64 0, .slice none 0 0] 29 :: .blk g2 (cnt ps) 44 :: L) w := s
                  refine st_call ha (by kernel_rfl) (by kernel_rfl) (len_to W _ w g1 (mqs ps) (ps.length) (mqs_len ps) s) ?_
                  rintro _ w ⟨rfl, s⟩
                  replace s : St W (Bag g1 (mqs ps) :: .blk g18 [.int .i64 0, .int .i64 0, .slice none 0 0] 29 :: .blk g2 (cnt ps) 44 :: L) w := s
                  refine ⟨_, rfl, ?_⟩; clear ha; intro a ha
                  refine st_val (.int .i64 ((ps.length : Nat) : Int)) ha (by kernel_rfl) (by kernel_rfl) ?_
                  clear ha; intro a ha
                  refine st_val (.bool false) ha (by kernel_rfl) (run_known (bne_self_eq_false _) (show (execOp (evalE _) _).run _ _ = .ok (.value (.bool (((ps.length : Nat) : Int) != ((ps.length : Nat) : Int)))) _ from by kernel_rfl)) ?_
                  clear ha; intro a ha
                  refine wpList_nil ?_
                  refine then_normal ?_
                  refine wp_false ha rfl (by kernel_rfl) ?_
                  refine wp_skip ?_
                  refine block_normal ?_
                  refine then_normal ?_
                  refine wp_region_lit ?_
                  refine st_val (.int .i64 ((k : Nat) : Int)) ha (by kernel_rfl) (by kernel_rfl) ?_
                  clear ha; intro a ha
                  refine st_val (.int .i64 ((k + 1 : Nat) : Int)) ha (by kernel_rfl) (run_arith (((k : Nat) : Int) + (1 : Int)) ((k + 1 : Nat) : Int) rfl (by kernel_rfl) (by kernel_rfl) (.inl ⟨rfl, rfl⟩) (by rw [wrap64_in (by omega)]; try omega) _) ?_
                  clear ha; intro a ha
                  refine st_val (.int .i64 ((k + 1 : Nat) : Int)) ha (by kernel_rfl) (by kernel_rfl) ?_
                  clear ha; intro a ha
                  refine wpList_nil ?_
                  refine then_normal ?_
                  replace s := s.at_ (j := 2) rfl
                  replace s : St W (.blk g2 (cnt ps) 44 :: Bag g1 (mqs ps) :: .blk g18 [.int .i64 0, .int .i64 0, .slice none 0 0] 29 :: L) w := s
                  replace s := s.at_ (j := 1) rfl
                  replace s : St W (Bag g1 (mqs ps) :: .blk g2 (cnt ps) 44 :: .blk g18 [.int .i64 0, .int .i64 0, .slice none 0 0] 29 :: L) w := s
                  replace s : St W (Bag g1 (mqs ps) :: .blk g2 (cnt ps) 44 :: L) w := St.mid (A := [Bag g1 (mqs ps), .blk g2 (cnt ps) 44]) (B := [.blk g18 [.int .i64 0, .int .i64 0, .slice none 0 0] 29]) s
                  exact ⟨(k + 1, ps), (show 200 - (k + 1) < 200 - k by omega), (Has.cons ha (by kernel_rfl) (by kernel_rfl) (Has.cons ha (by kernel_rfl) (by kernel_rfl) (Has.cons ha (by kernel_rfl) (by kernel_rfl) (Has.cons ha (by kernel_rfl) (by kernel_rfl) (Has.cons ha (by kernel_rfl) (by kernel_rfl) (Has.nil ha)))))), s, (show k + 1 ≤ 200 by omega), ho.up⟩
            · rw [hb] at ha; have hb_ := hb; replace hb := ne_of_beq_false hb
              refine wp_region_lit ?_
              refine st_val (.bool ((d.k % 8) == (7 : Int))) ha (by kernel_rfl) (by kernel_rfl) ?_
              clear ha; intro a ha
              refine st_val (.bool ((d.k % 8) == (7 : Int))) ha (by kernel_rfl) (by kernel_rfl) ?_
              clear ha; intro a ha
              refine wpList_nil ?_
              refine then_normal ?_
              refine wp_part ((d.k % 8) == (7 : Int)) ha rfl (by kernel_rfl) (fun hb => ?_) (fun hb => ?_)
              · rw [hb] at ha; have hb_ := hb; replace hb := eq_of_beq hb
                refine wp_seq ?_
                refine wp_region_lit ?_
                refine st_val (.slice (some ad) n c) ha (by kernel_rfl) (by kernel_rfl) ?_
                clear ha; intro a ha
                refine st_val (.int .i64 ((k : Nat) : Int)) ha (by kernel_rfl) (by kernel_rfl) ?_
                clear ha; intro a ha
                refine st_val (.pointer (some (ad.add (k * 5)))) ha (by kernel_rfl) (run_indexAddr' (kd := .i64) (n := n) (c := c) k rfl Try.underlying22 Try.sizeOf32 (by kernel_rfl) (by kernel_rfl) rfl (by first | assumption | omega) _) ?_
                clear ha; intro a ha
                refine st_val (.pointer (some (ad.add (k * 5 + 1)))) ha (by kernel_rfl) (run_fieldAddr_at (i := k * 5) (off := 1) rfl Try.underlying32 rfl Try.sizeOf3 (by kernel_rfl) _) ?_
                clear ha; intro a ha
                refine st_val (.int .i64 d.i) ha (by kernel_rfl) (run_loadAt1 (i := k * 5 + 1) (hr _ (Sat.drops (A := [Bag g1 (mqs ps), .blk g2 (cnt ps) 44]) s.sat)) rfl (by kernel_rfl) Try.isAgg3 (by rw [deeds_at hd (by omega)]; rfl)) ?_
                clear ha; intro a ha
                refine st_val (.int .i64 ((ps.length : Nat) : Int)) ha (by kernel_rfl) (by kernel_rfl) ?_
                clear ha; intro a ha
                refine st_val (.int .i64 ((ps.length + 1 : Nat) : Int)) ha (by kernel_rfl) (run_arith (((ps.length : Nat) : Int) + (1 : Int)) ((ps.length + 1 : Nat) : Int) rfl (by kernel_rfl) (by kernel_rfl) (.inl ⟨rfl, rfl⟩) (by rw [wrap64_in (by omega)]; try omega) _) ?_
                clear ha; intro a ha
                refine st_call ha (by kernel_rfl) (by kernel_rfl) (bring_to W _ w d.i ((ps.length + 1 : Nat) : Int) ((q : Nat) : Int) hq (by omega) (by omega) s) ?_
                rintro _ w ⟨rfl, s⟩
                replace s : St W (Bag g1 (mqs ps) :: .blk g2 (cnt ps) 44 :: L) w := s
                refine ⟨_, rfl, ?_⟩; clear ha; intro a ha
                refine st_val (.int .i64 ((q : Nat) : Int)) ha (by kernel_rfl) (by kernel_rfl) ?_
                clear ha; intro a ha
                refine wpList_nil ?_
                refine then_normal ?_
                refine wp_seq ?_
                refine wp_region_lit ?_
                refine st_val (.pointer (some ⟨g1, 0, none⟩)) ha (by kernel_rfl) (by kernel_rfl) ?_
                clear ha; intro a ha
                refine st_val (.int .i64 ((q : Nat) : Int)) ha (by kernel_rfl) (by kernel_rfl) ?_
                clear ha; intro a ha
                by_cases hin : q < ps.length
                · obtain ⟨p, hp_⟩ : ∃ p, ps[q]? = some p := ⟨_, List.getElem?_eq_getElem hin⟩
                  have hpm := ho.to p (List.mem_of_getElem? hp_)
                  have hp4 := tmod4 ⟨hpm.1, hpm.2.1⟩
                  have hc1 := cn_pos hp_
                  have hc2 := cn_le ps p.2
                  refine st_call ha (by kernel_rfl) (by kernel_rfl) (look_to W _ w g1 (mqs ps) q (1 + p.1.tmod 4) p.1 [((p.2 : Nat) : Int)] 1 (mqs_at hp_) rfl (mqs_ok (by have := ho.len; omega)) s) ?_
                  rintro _ w ⟨A19, c20, rfl, s⟩
                  replace s : St W (Own 5 1 A19 1 c20 (u8s [((p.2 : Nat) : Int)]) :: Bag g1 (mqs ps) :: .blk g2 (cnt ps) 44 :: L) w := s
                  refine ⟨_, rfl, ?_⟩; clear ha; intro a ha
                  refine st_val (.tuple #[.agg #[.int .i64 (1 + p.1.tmod 4), .int .i64 p.1, .slice A19 1 c20], .bool true]) ha (by kernel_rfl) (by kernel_rfl) ?_
                  clear ha; intro a ha
                  refine st_val (.agg #[.int .i64 (1 + p.1.tmod 4), .int .i64 p.1, .slice A19 1 c20]) ha (by kernel_rfl) (by kernel_rfl) ?_
                  clear ha; intro a ha
                  refine st_val (.bool true) ha (by kernel_rfl) (by kernel_rfl) ?_
                  clear ha; intro a ha
                  refine st_ex ha (by kernel_rfl) (ex_alloc [.int .i64 0, .int .i64 0, .slice none 0 0] s rfl (Try.zeroValue29 _) (by kernel_rfl)) ?_
                  clear ha; rintro _ w a ⟨g21, rfl, s⟩ ha
                  replace s : St W (.blk g21 [.int .i64 0, .int .i64 0, .slice none 0 0] 29 :: Own 5 1 A19 1 c20 (u8s [((p.2 : Nat) : Int)]) :: Bag g1 (mqs ps) :: .blk g2 (cnt ps) 44 :: L) w := s
                  refine st_exd ha (by kernel_rfl) (ex_store (of_ := 0) 0 [.int .i64 (1 + p.1.tmod 4), .int .i64 p.1, .slice A19 1 c20] s rfl rfl (by kernel_rfl) (by kernel_rfl) (Try.sizeOf29 _) rfl (by simp [Value.oneCell']) (Nat.le_of_ble_eq_true rfl)) ?_
                  clear ha; rintro w a s ha
                  replace s : St W (.blk g21 [.int .i64 (1 + p.1.tmod 4), .int .i64 p.1, .slice A19 1 c20] 29 :: Own 5 1 A19 1 c20 (u8s [((p.2 : Nat) : Int)]) :: Bag g1 (mqs ps) :: .blk g2 (cnt ps) 44 :: L) w := s
                  refine st_val (.bool true) ha (by kernel_rfl) (by kernel_rfl) ?_
                  clear ha; intro a ha
                  refine wpList_nil ?_
                  refine then_normal ?_
                  refine wp_seq ?_
                  refine wp_seq ?_
                  refine wp_region_lit ?_
                  refine st_val (.bool true) ha (by kernel_rfl) (by kernel_rfl) ?_
                  clear ha; intro a ha
                  refine st_val (.int .i64 ((q : Nat) : Int)) ha (by kernel_rfl) (by kernel_rfl) ?_
                  clear ha; intro a ha
                  refine st_val (.int .i64 ((ps.length : Nat) : Int)) ha (by kernel_rfl) (by kernel_rfl) ?_
                  clear ha; intro a ha
                  refine st_val (.bool true) ha (by kernel_rfl) (run_known (show (decide (((q : Nat) : Int) < ((ps.length : Nat) : Int))) = true from decide_eq_true (by omega)) (by kernel_rfl)) ?_
                  clear ha; intro a ha
                  refine st_val (.bool false) ha (by kernel_rfl) (by kernel_rfl) ?_
                  clear ha; intro a ha
                  refine wpList_nil ?_
                  refine then_normal ?_
                  refine wp_false ha rfl (by kernel_rfl) ?_
                  refine wp_skip ?_
                  refine then_normal ?_
                  refine wp_seq ?_
                  refine wp_region_lit ?_
                  refine st_val (.int .i64 (d.k % 8)) ha (by kernel_rfl) (by kernel_rfl) ?_
                  clear ha; intro a ha
                  refine st_val (.bool ((d.k % 8) == (7 : Int))) ha (by kernel_rfl) (by kernel_rfl) ?_
                  clear ha; intro a ha
                  refine st_val (.bool ((d.k % 8) == (7 : Int))) ha (by kernel_rfl) (by kernel_rfl) ?_
                  clear ha; intro a ha
                  rcases Bool.eq_false_or_eq_true ((d.k % 8) == (7 : Int)) with hb | hb
                  · rw [hb] at ha; have hb_ := hb; replace hb := eq_of_beq hb
                    refine st_val (.bool true) ha (by kernel_rfl) (by kernel_rfl) ?_
                    clear ha; intro a ha
                    refine st_val (.bool true) ha (by kernel_rfl) (by kernel_rfl) ?_
                    clear ha; intro a ha
                    refine wpList_nil ?_
                    refine then_normal ?_
                    refine wp_true ha rfl (by kernel_rfl) ?_
                    refine wp_seq ?_
                    refine wp_seq ?_
                    refine wp_region_lit ?_
                    refine st_val (.pointer (some ⟨g1, 0, none⟩)) ha (by kernel_rfl) (by kernel_rfl) ?_
                    clear ha; intro a ha
                    refine st_val (.int .i64 ((q : Nat) : Int)) ha (by kernel_rfl) (by kernel_rfl) ?_
                    clear ha; intro a ha
                    replace s := s.at_ (j := 2) rfl
                    replace s : St W (Bag g1 (mqs ps) :: .blk g21 [.int .i64 (1 + p.1.tmod 4), .int .i64 p.1, .slice A19 1 c20] 29 :: Own 5 1 A19 1 c20 (u8s [((p.2 : Nat) : Int)]) :: .blk g2 (cnt ps) 44 :: L) w := s
                    refine st_call ha (by kernel_rfl) (by kernel_rfl) (double_to W _ w g1 (mqs ps) q ⟨1 + p.1.tmod 4, p.1, [((p.2 : Nat) : Int)]⟩ 0 (mqs (ps ++ [p])) (mqs_at hp_) (by rw [mqs_len]; exact mq_code ⟨hpm.1, hpm.2.1⟩ (by have := ho.len; omega)) (mqs_put ⟨hpm.1, hpm.2.1⟩ (by have := ho.len; omega)) (mqs_ok (by have := ho.len; omega)) s) ?_
                    rintro _ w ⟨rfl, s⟩
                    replace s : St W (Bag g1 (mqs (ps ++ [p])) :: .blk g21 [.int .i64 (1 + p.1.tmod 4), .int .i64 p.1, .slice A19 1 c20] 29 :: Own 5 1 A19 1 c20 (u8s [((p.2 : Nat) : Int)]) :: .blk g2 (cnt ps) 44 :: L) w := s
                    refine ⟨_, rfl, ?_⟩; clear ha; intro a ha
                    refine st_val (.bool false) ha (by kernel_rfl) (by kernel_rfl) ?_
                    clear ha; intro a ha
                    refine st_val (.bool false) ha (by kernel_rfl) (by kernel_rfl) ?_
                    clear ha; intro a ha
                    refine st_val (.agg #[.int .i64 (1 + p.1.tmod 4), .int .i64 p.1, .slice A19 1 c20]) ha (by kernel_rfl) (run_loadN (of_ := 0) [.int .i64 (1 + p.1.tmod 4), .int .i64 p.1, .slice A19 1 c20] (s.blkIs 1 rfl) rfl (by kernel_rfl) Try.isAgg29 Try.sizeOf29 rfl (Nat.le_of_ble_eq_true rfl)) ?_
                    clear ha; intro a ha
                    refine st_call ha (by kernel_rfl) (by kernel_rfl) (first_one W _ w (1 + p.1.tmod 4) p.1 A19 1 c20 ((p.2 : Nat) : Int) rfl (Knows.own (j := 2) rfl) s) ?_
                    rintro _ w ⟨rfl, s⟩
                    replace s : St W (Bag g1 (mqs (ps ++ [p])) :: .blk g21 [.int .i64 (1 + p.1.tmod 4), .int .i64 p.1, .slice A19 1 c20] 29 :: Own 5 1 A19 1 c20 (u8s [((p.2 : Nat) : Int)]) :: .blk g2 (cnt ps) 44 :: L) w := s
                    refine ⟨_, rfl, ?_⟩; clear ha; intro a ha
                    refine st_val (.int .i64 ((p.2 : Nat) : Int)) ha (by kernel_rfl) (run_conv (((p.2 : Nat) : Int)) rfl (by kernel_rfl) Try.underlying5 Try.underlying3 (wrap64_in (by omega)) _) ?_
                    clear ha; intro a ha
                    refine st_val (.int .i64 ((k : Nat) : Int)) ha (by kernel_rfl) (by kernel_rfl) ?_
                    clear ha; intro a ha
                    refine st_val (.bool false) ha (by kernel_rfl) (run_known (show (decide (((p.2 : Nat) : Int) ≥ ((k : Nat) : Int))) = false from decide_eq_false (by omega)) (by kernel_rfl)) ?_
                    clear ha; intro a ha
                    refine st_val (.bool false) ha (by kernel_rfl) (by kernel_rfl) ?_
                    clear ha; intro a ha
                    refine wpList_nil ?_
                    refine then_normal ?_
                    refine wp_false ha rfl (by kernel_rfl) ?_
                    refine wp_skip ?_
                    refine then_normal ?_
                    refine wp_seq ?_
                    refine wp_region_lit ?_
                    refine st_val (.agg #[.int .i64 (1 + p.1.tmod 4), .int .i64 p.1, .slice A19 1 c20]) ha (by kernel_rfl) (run_loadN (of_ := 0) [.int .i64 (1 + p.1.tmod 4), .int .i64 p.1, .slice A19 1 c20] (s.blkIs 1 rfl) rfl (by kernel_rfl) Try.isAgg29 Try.sizeOf29 rfl (Nat.le_of_ble_eq_true rfl)) ?_
                    clear ha; intro a ha
                    refine st_call ha (by kernel_rfl) (by kernel_rfl) (first_one W _ w (1 + p.1.tmod 4) p.1 A19 1 c20 ((p.2 : Nat) : Int) rfl (Knows.own (j := 2) rfl) s) ?_
                    rintro _ w ⟨rfl, s⟩
                    replace s : St W (Bag g1 (mqs (ps ++ [p])) :: .blk g21 [.int .i64 (1 + p.1.tmod 4), .int .i64 p.1, .slice A19 1 c20] 29 :: Own 5 1 A19 1 c20 (u8s [((p.2 : Nat) : Int)]) :: .blk g2 (cnt ps) 44 :: L) w := s
                    refine ⟨_, rfl, ?_⟩; clear ha; intro a ha
                    refine st_val (.pointer (some ⟨g2, p.2, none⟩)) ha (by kernel_rfl) (run_indexArr (kd := .u8) p.2 rfl Try.underlying44 Try.sizeOf3 (by kernel_rfl) (by kernel_rfl) rfl (by first | assumption | omega) _) ?_
                    clear ha; intro a ha
                    refine st_val (.int .i64 ((cn ps p.2 : Nat) : Int)) ha (by kernel_rfl) (run_load1 (of_ := p.2) (s.blkIs 3 rfl) rfl (by kernel_rfl) Try.isAgg3 (cnt_at ps (by omega))) ?_
                    clear ha; intro a ha
                    refine st_val (.int .i64 ((cn ps p.2 + 1 : Nat) : Int)) ha (by kernel_rfl) (run_arith (((cn ps p.2 : Nat) : Int) + (1 : Int)) ((cn ps p.2 + 1 : Nat) : Int) rfl (by kernel_rfl) (by kernel_rfl) (.inl ⟨rfl, rfl⟩) (by rw [wrap64_in (by omega)]; try omega) _) ?_
                    clear ha; intro a ha
                    refine st_val (.pointer (some ⟨g2, p.2, none⟩)) ha (by kernel_rfl) (run_indexArr (kd := .u8) p.2 rfl Try.underlying44 Try.sizeOf3 (by kernel_rfl) (by kernel_rfl) rfl (by first | assumption | omega) _) ?_
                    clear ha; intro a ha
                    refine st_exd ha (by kernel_rfl) (ex_store_to (of_ := p.2) 3 [.int .i64 ((cn ps p.2 + 1 : Nat) : Int)] s (cnt_add ps p (by omega)) rfl rfl (by kernel_rfl) (by kernel_rfl) (Try.sizeOf3 _) rfl (by simp [Value.oneCell']) (by rw [cnt_len]; simp only [List.length_cons, List.length_nil]; omega)) ?_
                    clear ha; rintro w a s ha
                    replace s : St W (Bag g1 (mqs (ps ++ [p])) :: .blk g21 [.int .i64 (1 + p.1.tmod 4), .int .i64 p.1, .slice A19 1 c20] 29 :: Own 5 1 A19 1 c20 (u8s [((p.2 : Nat) : Int)]) :: .blk g2 (cnt (ps ++ [p])) 44 :: L) w := s
                    refine wpList_nil ?_
                    refine then_normal ?_
                    refine wp_region_lit ?_
                    refine st_val (.int .i64 ((ps.length : Nat) : Int)) ha (by kernel_rfl) (by kernel_rfl) ?_
                    clear ha; intro a ha
                    refine st_val (.int .i64 ((ps.length + 1 : Nat) : Int)) ha (by kernel_rfl) (run_arith (((ps.length : Nat) : Int) + (1 : Int)) ((ps.length + 1 : Nat) : Int) rfl (by kernel_rfl) (by kernel_rfl) (.inl ⟨rfl, rfl⟩) (by rw [wrap64_in (by omega)]; try omega) _) ?_
                    clear ha; intro a ha
                    refine st_val (.int .i64 ((ps.length + 1 : Nat) : Int)) ha (by kernel_rfl) (by kernel_rfl) ?_
                    clear ha; intro a ha
                    refine wpList_nil ?_
                    refine block_normal ?_
                    refine then_normal ?_
                    refine wp_seq ?_
                    refine wp_region_lit ?_
                    refine st_val (.pointer (some ⟨g1, 0, none⟩)) ha (by kernel_rfl) (by kernel_rfl) ?_
                    clear ha; intro a ha
                    refine st_call ha (by kernel_rfl) (by kernel_rfl) (len_to W _ w g1 (mqs (ps ++ [p])) (ps.length + 1) (by rw [mqs_len]; simp) s) ?_
                    rintro _ w ⟨rfl, s⟩
                    replace s : St W (Bag g1 (mqs (ps ++ [p])) :: .blk g21 [.int .i64 (1 + p.1.tmod 4), .int .i64 p.1, .slice A19 1 c20] 29 :: Own 5 1 A19 1 c20 (u8s [((p.2 : Nat) : Int)]) :: .blk g2 (cnt (ps ++ [p])) 44 :: L) w := s
                    refine ⟨_, rfl, ?_⟩; clear ha; intro a ha
                    refine st_val (.int .i64 ((ps.length + 1 : Nat) : Int)) ha (by kernel_rfl) (by kernel_rfl) ?_
                    clear ha; intro a ha
                    refine st_val (.bool false) ha (by kernel_rfl) (run_known (bne_self_eq_false _) (show (execOp (evalE _) _).run _ _ = .ok (.value (.bool (((ps.length + 1 : Nat) : Int) != ((ps.length + 1 : Nat) : Int)))) _ from by kernel_rfl)) ?_
                    clear ha; intro a ha
                    refine wpList_nil ?_
                    refine then_normal ?_
                    refine wp_false ha rfl (by kernel_rfl) ?_
                    refine wp_skip ?_
                    refine block_normal ?_
                    refine then_normal ?_
                    refine wp_region_lit ?_
                    refine st_val (.int .i64 ((k : Nat) : Int)) ha (by kernel_rfl) (by kernel_rfl) ?_
                    clear ha; intro a ha
                    refine st_val (.int .i64 ((k + 1 : Nat) : Int)) ha (by kernel_rfl) (run_arith (((k : Nat) : Int) + (1 : Int)) ((k + 1 : Nat) : Int) rfl (by kernel_rfl) (by kernel_rfl) (.inl ⟨rfl, rfl⟩) (by rw [wrap64_in (by omega)]; try omega) _) ?_
                    clear ha; intro a ha
                    refine st_val (.int .i64 ((k + 1 : Nat) : Int)) ha (by kernel_rfl) (by kernel_rfl) ?_
                    clear ha; intro a ha
                    refine wpList_nil ?_
                    refine then_normal ?_
                    replace s := s.at_ (j := 3) rfl
                    replace s : St W (.blk g2 (cnt (ps ++ [p])) 44 :: Bag g1 (mqs (ps ++ [p])) :: .blk g21 [.int .i64 (1 + p.1.tmod 4), .int .i64 p.1, .slice A19 1 c20] 29 :: Own 5 1 A19 1 c20 (u8s [((p.2 : Nat) : Int)]) :: L) w := s
                    replace s := s.at_ (j := 1) rfl
                    replace s : St W (Bag g1 (mqs (ps ++ [p])) :: .blk g2 (cnt (ps ++ [p])) 44 :: .blk g21 [.int .i64 (1 + p.1.tmod 4), .int .i64 p.1, .slice A19 1 c20] 29 :: Own 5 1 A19 1 c20 (u8s [((p.2 : Nat) : Int)]) :: L) w := s
                    replace s : St W (Bag g1 (mqs (ps ++ [p])) :: .blk g2 (cnt (ps ++ [p])) 44 :: L) w := St.mid (A := [Bag g1 (mqs (ps ++ [p])), .blk g2 (cnt (ps ++ [p])) 44]) (B := [.blk g21 [.int .i64 (1 + p.1.tmod 4), .int .i64 p.1, .slice A19 1 c20] 29, Own 5 1 A19 1 c20 (u8s [((p.2 : Nat) : Int)])]) s
                    rw [show ps.length + 1 = (ps ++ [p]).length from by simp] at ha
                    exact ⟨(k + 1, ps ++ [p]), (show 200 - (k + 1) < 200 - k by omega), (Has.cons ha (by kernel_rfl) (by kernel_rfl) (Has.cons ha (by kernel_rfl) (by kernel_rfl) (Has.cons ha (by kernel_rfl) (by kernel_rfl) (Has.cons ha (by kernel_rfl) (by kernel_rfl) (Has.cons ha (by kernel_rfl) (by kernel_rfl) (Has.nil ha)))))), s, (show k + 1 ≤ 200 by omega), (ho.put p (by omega))⟩
                  · rw [hb] at ha; have hb_ := hb; replace hb := ne_of_beq_false hb
                    refine st_pass ha (by kernel_rfl) ?_
                    clear ha; intro a ha
                    refine st_val (.bool false) ha (by kernel_rfl) (by kernel_rfl) ?_
                    clear ha; intro a ha
                    refine wpList_nil ?_
                    refine then_normal ?_
                    refine wp_false ha rfl (by kernel_rfl) ?_
                    refine wp_skip ?_
                    refine block_normal ?_
                    refine then_normal ?_
                    refine wp_seq ?_
                    refine wp_region_lit ?_
                    refine st_val (.pointer (some ⟨g1, 0, none⟩)) ha (by kernel_rfl) (by kernel_rfl) ?_
                    clear ha; intro a ha
                    replace s := s.at_ (j := 2) rfl
                    replace s : St W (Bag g1 (mqs ps) :: .blk g21 [.int .i64 (1 + p.1.tmod 4), .int .i64 p.1, .slice A19 1 c20] 29 :: Own 5 1 A19 1 c20 (u8s [((p.2 : Nat) : Int)]) :: .blk g2 (cnt ps) 44 :: L) w := s
                    refine st_call ha (by kernel_rfl) (by kernel_rfl) (len_to W _ w g1 (mqs ps) (ps.length) (mqs_len ps) s) ?_
                    rintro _ w ⟨rfl, s⟩
                    replace s : St W (Bag g1 (mqs ps) :: .blk g21 [.int .i64 (1 + p.1.tmod 4), .int .i64 p.1, .slice A19 1 c20] 29 :: Own 5 1 A19 1 c20 (u8s [((p.2 : Nat) : Int)]) :: .blk g2 (cnt ps) 44 :: L) w := s
                    refine ⟨_, rfl, ?_⟩; clear ha; intro a ha
                    refine st_val (.int .i64 ((ps.length : Nat) : Int)) ha (by kernel_rfl) (by kernel_rfl) ?_
                    clear ha; intro a ha
                    refine st_val (.bool false) ha (by kernel_rfl) (run_known (bne_self_eq_false _) (show (execOp (evalE _) _).run _ _ = .ok (.value (.bool (((ps.length : Nat) : Int) != ((ps.length : Nat) : Int)))) _ from by kernel_rfl)) ?_
                    clear ha; intro a ha
                    refine wpList_nil ?_
                    refine then_normal ?_
                    refine wp_false ha rfl (by kernel_rfl) ?_
                    refine wp_skip ?_
                    refine block_normal ?_
                    refine then_normal ?_
                    refine wp_region_lit ?_
                    refine st_val (.int .i64 ((k : Nat) : Int)) ha (by kernel_rfl) (by kernel_rfl) ?_
                    clear ha; intro a ha
                    refine st_val (.int .i64 ((k + 1 : Nat) : Int)) ha (by kernel_rfl) (run_arith (((k : Nat) : Int) + (1 : Int)) ((k + 1 : Nat) : Int) rfl (by kernel_rfl) (by kernel_rfl) (.inl ⟨rfl, rfl⟩) (by rw [wrap64_in (by omega)]; try omega) _) ?_
                    clear ha; intro a ha
                    refine st_val (.int .i64 ((k + 1 : Nat) : Int)) ha (by kernel_rfl) (by kernel_rfl) ?_
                    clear ha; intro a ha
                    refine wpList_nil ?_
                    refine then_normal ?_
                    replace s := s.at_ (j := 3) rfl
                    replace s : St W (.blk g2 (cnt ps) 44 :: Bag g1 (mqs ps) :: .blk g21 [.int .i64 (1 + p.1.tmod 4), .int .i64 p.1, .slice A19 1 c20] 29 :: Own 5 1 A19 1 c20 (u8s [((p.2 : Nat) : Int)]) :: L) w := s
                    replace s := s.at_ (j := 1) rfl
                    replace s : St W (Bag g1 (mqs ps) :: .blk g2 (cnt ps) 44 :: .blk g21 [.int .i64 (1 + p.1.tmod 4), .int .i64 p.1, .slice A19 1 c20] 29 :: Own 5 1 A19 1 c20 (u8s [((p.2 : Nat) : Int)]) :: L) w := s
                    replace s : St W (Bag g1 (mqs ps) :: .blk g2 (cnt ps) 44 :: L) w := St.mid (A := [Bag g1 (mqs ps), .blk g2 (cnt ps) 44]) (B := [.blk g21 [.int .i64 (1 + p.1.tmod 4), .int .i64 p.1, .slice A19 1 c20] 29, Own 5 1 A19 1 c20 (u8s [((p.2 : Nat) : Int)])]) s
                    exact ⟨(k + 1, ps), (show 200 - (k + 1) < 200 - k by omega), (Has.cons ha (by kernel_rfl) (by kernel_rfl) (Has.cons ha (by kernel_rfl) (by kernel_rfl) (Has.cons ha (by kernel_rfl) (by kernel_rfl) (Has.cons ha (by kernel_rfl) (by kernel_rfl) (Has.cons ha (by kernel_rfl) (by kernel_rfl) (Has.nil ha)))))), s, (show k + 1 ≤ 200 by omega), ho.up⟩
                · skip
                  refine st_call ha (by kernel_rfl) (by kernel_rfl) (look_bag_out W _ w g1 (mqs ps) ((q : Nat) : Int) (by rw [mqs_len]; omega) s) ?_
                  rintro _ w ⟨rfl, s⟩
                  replace s : St W (Bag g1 (mqs ps) :: .blk g2 (cnt ps) 44 :: L) w := s
                  refine ⟨_, rfl, ?_⟩; clear ha; intro a ha
                  refine st_val (.tuple #[.agg #[.int .i64 0, .int .i64 0, .slice none 0 0], .bool false]) ha (by kernel_rfl) (by kernel_rfl) ?_
                  clear ha; intro a ha
                  refine st_val (.agg #[.int .i64 0, .int .i64 0, .slice none 0 0]) ha (by kernel_rfl) (by kernel_rfl) ?_
                  clear ha; intro a ha
                  refine st_val (.bool false) ha (by kernel_rfl) (by kernel_rfl) ?_
                  clear ha; intro a ha
                  refine st_ex ha (by kernel_rfl) (ex_alloc [.int .i64 0, .int .i64 0, .slice none 0 0] s rfl (Try.zeroValue29 _) (by kernel_rfl)) ?_
                  clear ha; rintro _ w a ⟨g22, rfl, s⟩ ha
                  replace s : St W (.blk g22 [.int .i64 0, .int .i64 0, .slice none 0 0] 29 :: Bag g1 (mqs ps) :: .blk g2 (cnt ps) 44 :: L) w := s
                  refine st_exd ha (by kernel_rfl) (ex_store (of_ := 0) 0 [.int .i64 0, .int .i64 0, .slice none 0 0] s rfl rfl (by kernel_rfl) (by kernel_rfl) (Try.sizeOf29 _) rfl (by simp [Value.oneCell']) (Nat.le_of_ble_eq_true rfl)) ?_
                  clear ha; rintro w a s ha
                  replace s : St W (.blk g22 [.int .i64 0, .int .i64 0, .slice none 0 0] 29 :: Bag g1 (mqs ps) :: .blk g2 (cnt ps) 44 :: L) w := s
                  refine st_val (.bool false) ha (by kernel_rfl) (by kernel_rfl) ?_
                  clear ha; intro a ha
                  refine wpList_nil ?_
                  refine then_normal ?_
                  refine wp_seq ?_
                  refine wp_seq ?_
                  refine wp_region_lit ?_
                  refine st_val (.bool false) ha (by kernel_rfl) (by kernel_rfl) ?_
                  clear ha; intro a ha
                  refine st_val (.int .i64 ((q : Nat) : Int)) ha (by kernel_rfl) (by kernel_rfl) ?_
                  clear ha; intro a ha
                  refine st_val (.int .i64 ((ps.length : Nat) : Int)) ha (by kernel_rfl) (by kernel_rfl) ?_
                  clear ha; intro a ha
                  refine st_val (.bool false) ha (by kernel_rfl) (run_known (show (decide (((q : Nat) : Int) < ((ps.length : Nat) : Int))) = false from decide_eq_false (by omega)) (by kernel_rfl)) ?_
                  clear ha; intro a ha
                  refine st_val (.bool false) ha (by kernel_rfl) (by kernel_rfl) ?_
                  clear ha; intro a ha
                  refine wpList_nil ?_
                  refine then_normal ?_
                  refine wp_false ha rfl (by kernel_rfl) ?_
                  refine wp_skip ?_
                  refine then_normal ?_
                  refine wp_seq ?_
                  refine wp_region_lit ?_
                  refine st_val (.int .i64 (d.k % 8)) ha (by kernel_rfl) (by kernel_rfl) ?_
                  clear ha; intro a ha
                  refine st_val (.bool ((d.k % 8) == (7 : Int))) ha (by kernel_rfl) (by kernel_rfl) ?_
                  clear ha; intro a ha
                  refine st_val (.bool ((d.k % 8) == (7 : Int))) ha (by kernel_rfl) (by kernel_rfl) ?_
                  clear ha; intro a ha
                  rcases Bool.eq_false_or_eq_true ((d.k % 8) == (7 : Int)) with hb | hb
                  · rw [hb] at ha; have hb_ := hb; replace hb := eq_of_beq hb
                    refine st_val (.bool false) ha (by kernel_rfl) (by kernel_rfl) ?_
                    clear ha; intro a ha
                    refine st_val (.bool false) ha (by kernel_rfl) (by kernel_rfl) ?_
                    clear ha; intro a ha
                    refine wpList_nil ?_
                    refine then_normal ?_
                    refine wp_false ha rfl (by kernel_rfl) ?_
                    refine wp_skip ?_
                    refine block_normal ?_
                    refine then_normal ?_
                    refine wp_seq ?_
                    refine wp_region_lit ?_
                    refine st_val (.pointer (some ⟨g1, 0, none⟩)) ha (by kernel_rfl) (by kernel_rfl) ?_
                    clear ha; intro a ha
                    replace s := s.at_ (j := 1) rfl
                    replace s : St W (Bag g1 (mqs ps) :: .blk g22 [.int .i64 0, .int .i64 0, .slice none 0 0] 29 :: .blk g2 (cnt ps) 44 :: L) w := s
                    refine st_call ha (by kernel_rfl) (by kernel_rfl) (len_to W _ w g1 (mqs ps) (ps.length) (mqs_len ps) s) ?_
                    rintro _ w ⟨rfl, s⟩
                    replace s : St W (Bag g1 (mqs ps) :: .blk g22 [.int .i64 0, .int .i64 0, .slice none 0 0] 29 :: .blk g2 (cnt ps) 44 :: L) w := s
                    refine ⟨_, rfl, ?_⟩; clear ha; intro a ha
                    refine st_val (.int .i64 ((ps.length : Nat) : Int)) ha (by kernel_rfl) (by kernel_rfl) ?_
                    clear ha; intro a ha
                    refine st_val (.bool false) ha (by kernel_rfl) (run_known (bne_self_eq_false _) (show (execOp (evalE _) _).run _ _ = .ok (.value (.bool (((ps.length : Nat) : Int) != ((ps.length : Nat) : Int)))) _ from by kernel_rfl)) ?_
                    clear ha; intro a ha
                    refine wpList_nil ?_
                    refine then_normal ?_
                    refine wp_false ha rfl (by kernel_rfl) ?_
                    refine wp_skip ?_
                    refine block_normal ?_
                    refine then_normal ?_
                    refine wp_region_lit ?_
                    refine st_val (.int .i64 ((k : Nat) : Int)) ha (by kernel_rfl) (by kernel_rfl) ?_
                    clear ha; intro a ha
                    refine st_val (.int .i64 ((k + 1 : Nat) : Int)) ha (by kernel_rfl) (run_arith (((k : Nat) : Int) + (1 : Int)) ((k + 1 : Nat) : Int) rfl (by kernel_rfl) (by kernel_rfl) (.inl ⟨rfl, rfl⟩) (by rw [wrap64_in (by omega)]; try omega) _) ?_
                    clear ha; intro a ha
                    refine st_val (.int .i64 ((k + 1 : Nat) : Int)) ha (by kernel_rfl) (by kernel_rfl) ?_
                    clear ha; intro a ha
                    refine wpList_nil ?_
                    refine then_normal ?_
                    replace s := s.at_ (j := 2) rfl
                    replace s : St W (.blk g2 (cnt ps) 44 :: Bag g1 (mqs ps) :: .blk g22 [.int .i64 0, .int .i64 0, .slice none 0 0] 29 :: L) w := s
                    replace s := s.at_ (j := 1) rfl
                    replace s : St W (Bag g1 (mqs ps) :: .blk g2 (cnt ps) 44 :: .blk g22 [.int .i64 0, .int .i64 0, .slice none 0 0] 29 :: L) w := s
                    replace s : St W (Bag g1 (mqs ps) :: .blk g2 (cnt ps) 44 :: L) w := St.mid (A := [Bag g1 (mqs ps), .blk g2 (cnt ps) 44]) (B := [.blk g22 [.int .i64 0, .int .i64 0, .slice none 0 0] 29]) s
                    exact ⟨(k + 1, ps), (show 200 - (k + 1) < 200 - k by omega), (Has.cons ha (by kernel_rfl) (by kernel_rfl) (Has.cons ha (by kernel_rfl) (by kernel_rfl) (Has.cons ha (by kernel_rfl) (by kernel_rfl) (Has.cons ha (by kernel_rfl) (by kernel_rfl) (Has.cons ha (by kernel_rfl) (by kernel_rfl) (Has.nil ha)))))), s, (show k + 1 ≤ 200 by omega), ho.up⟩
                  · rw [hb] at ha; have hb_ := hb; replace hb := ne_of_beq_false hb
                    refine st_pass ha (by kernel_rfl) ?_
                    clear ha; intro a ha
                    refine st_val (.bool false) ha (by kernel_rfl) (by kernel_rfl) ?_
                    clear ha; intro a ha
                    refine wpList_nil ?_
                    refine then_normal ?_
                    refine wp_false ha rfl (by kernel_rfl) ?_
                    refine wp_skip ?_
                    refine block_normal ?_
                    refine then_normal ?_
                    refine wp_seq ?_
                    refine wp_region_lit ?_
                    refine st_val (.pointer (some ⟨g1, 0, none⟩)) ha (by kernel_rfl) (by kernel_rfl) ?_
                    clear ha; intro a ha
                    replace s := s.at_ (j := 1) rfl
                    replace s : St W (Bag g1 (mqs ps) :: .blk g22 [.int .i64 0, .int .i64 0, .slice none 0 0] 29 :: .blk g2 (cnt ps) 44 :: L) w := s
                    refine st_call ha (by kernel_rfl) (by kernel_rfl) (len_to W _ w g1 (mqs ps) (ps.length) (mqs_len ps) s) ?_
                    rintro _ w ⟨rfl, s⟩
                    replace s : St W (Bag g1 (mqs ps) :: .blk g22 [.int .i64 0, .int .i64 0, .slice none 0 0] 29 :: .blk g2 (cnt ps) 44 :: L) w := s
                    refine ⟨_, rfl, ?_⟩; clear ha; intro a ha
                    refine st_val (.int .i64 ((ps.length : Nat) : Int)) ha (by kernel_rfl) (by kernel_rfl) ?_
                    clear ha; intro a ha
                    refine st_val (.bool false) ha (by kernel_rfl) (run_known (bne_self_eq_false _) (show (execOp (evalE _) _).run _ _ = .ok (.value (.bool (((ps.length : Nat) : Int) != ((ps.length : Nat) : Int)))) _ from by kernel_rfl)) ?_
                    clear ha; intro a ha
                    refine wpList_nil ?_
                    refine then_normal ?_
                    refine wp_false ha rfl (by kernel_rfl) ?_
                    refine wp_skip ?_
                    refine block_normal ?_
                    refine then_normal ?_
                    refine wp_region_lit ?_
                    refine st_val (.int .i64 ((k : Nat) : Int)) ha (by kernel_rfl) (by kernel_rfl) ?_
                    clear ha; intro a ha
                    refine st_val (.int .i64 ((k + 1 : Nat) : Int)) ha (by kernel_rfl) (run_arith (((k : Nat) : Int) + (1 : Int)) ((k + 1 : Nat) : Int) rfl (by kernel_rfl) (by kernel_rfl) (.inl ⟨rfl, rfl⟩) (by rw [wrap64_in (by omega)]; try omega) _) ?_
                    clear ha; intro a ha
                    refine st_val (.int .i64 ((k + 1 : Nat) : Int)) ha (by kernel_rfl) (by kernel_rfl) ?_
                    clear ha; intro a ha
                    refine wpList_nil ?_
                    refine then_normal ?_
                    replace s := s.at_ (j := 2) rfl
                    replace s : St W (.blk g2 (cnt ps) 44 :: Bag g1 (mqs ps) :: .blk g22 [.int .i64 0, .int .i64 0, .slice none 0 0] 29 :: L) w := s
                    replace s := s.at_ (j := 1) rfl
                    replace s : St W (Bag g1 (mqs ps) :: .blk g2 (cnt ps) 44 :: .blk g22 [.int .i64 0, .int .i64 0, .slice none 0 0] 29 :: L) w := s
                    replace s : St W (Bag g1 (mqs ps) :: .blk g2 (cnt ps) 44 :: L) w := St.mid (A := [Bag g1 (mqs ps), .blk g2 (cnt ps) 44]) (B := [.blk g22 [.int .i64 0, .int .i64 0, .slice none 0 0] 29]) s
                    exact ⟨(k + 1, ps), (show 200 - (k + 1) < 200 - k by omega), (Has.cons ha (by kernel_rfl) (by kernel_rfl) (Has.cons ha (by kernel_rfl) (by kernel_rfl) (Has.cons ha (by kernel_rfl) (by kernel_rfl) (Has.cons ha (by kernel_rfl) (by kernel_rfl) (Has.cons ha (by kernel_rfl) (by kernel_rfl) (Has.nil ha)))))), s, (show k + 1 ≤ 200 by omega), ho.up⟩
              · rw [hb] at ha; have hb_ := hb; replace hb := ne_of_beq_false hb
                refine wp_seq ?_
                refine wp_region_lit ?_
                refine st_val (.slice (some ad) n c) ha (by kernel_rfl) (by kernel_rfl) ?_
                clear ha; intro a ha
                refine st_val (.int .i64 ((k : Nat) : Int)) ha (by kernel_rfl) (by kernel_rfl) ?_
                clear ha; intro a ha
                refine st_val (.pointer (some (ad.add (k * 5)))) ha (by kernel_rfl) (run_indexAddr' (kd := .i64) (n := n) (c := c) k rfl Try.underlying22 Try.sizeOf32 (by kernel_rfl) (by kernel_rfl) rfl (by first | assumption | omega) _) ?_
                clear ha; intro a ha
                refine st_val (.pointer (some (ad.add (k * 5 + 1)))) ha (by kernel_rfl) (run_fieldAddr_at (i := k * 5) (off := 1) rfl Try.underlying32 rfl Try.sizeOf3 (by kernel_rfl) _) ?_
                clear ha; intro a ha
                refine st_val (.int .i64 d.i) ha (by kernel_rfl) (run_loadAt1 (i := k * 5 + 1) (hr _ (Sat.drops (A := [Bag g1 (mqs ps), .blk g2 (cnt ps) 44]) s.sat)) rfl (by kernel_rfl) Try.isAgg3 (by rw [deeds_at hd (by omega)]; rfl)) ?_
                clear ha; intro a ha
                refine st_call ha (by kernel_rfl) (by kernel_rfl) (bring_to W _ w d.i 4 r hr4 (by omega) (by omega) s) ?_
                rintro _ w ⟨rfl, s⟩
                replace s : St W (Bag g1 (mqs ps) :: .blk g2 (cnt ps) 44 :: L) w := s
                refine ⟨_, rfl, ?_⟩; clear ha; intro a ha
                refine st_val (.int .i64 (1 + r)) ha (by kernel_rfl) (run_arith (1 + r) (1 + r) rfl (by kernel_rfl) (by kernel_rfl) (.inl ⟨rfl, rfl⟩) (by rw [wrap64_in (by omega)]) _) ?_
                clear ha; intro a ha
                refine st_val (.int .i64 (1 + r)) ha (by kernel_rfl) (by kernel_rfl) ?_
                clear ha; intro a ha
                refine wpList_nil ?_
                refine then_normal ?_
                refine wp_seq ?_
                refine wp_seq ?_
                refine wp_region_lit ?_
                refine st_val (.pointer (some ⟨g1, 0, none⟩)) ha (by kernel_rfl) (by kernel_rfl) ?_
                clear ha; intro a ha
                refine st_val (.int .i64 (1 + r)) ha (by kernel_rfl) (by kernel_rfl) ?_
                clear ha; intro a ha
                refine st_val (.int .i64 (((1 + r)).tmod 4)) ha (by kernel_rfl) (run_rem (((1 + r)).tmod 4) rfl (by kernel_rfl) (by kernel_rfl) (by omega) rfl _) ?_
                clear ha; intro a ha
                refine st_val (.int .i64 (1 + ((1 + r)).tmod 4)) ha (by kernel_rfl) (run_arith (1 + ((1 + r)).tmod 4) (1 + ((1 + r)).tmod 4) rfl (by kernel_rfl) (by kernel_rfl) (.inl ⟨rfl, rfl⟩) (by rw [wrap64_in (by omega)]) _) ?_
                clear ha; intro a ha
                refine st_val (.int .i64 (1 + r)) ha (by kernel_rfl) (by kernel_rfl) ?_
                clear ha; intro a ha
                refine st_val (.int .i64 ((k : Nat) : Int)) ha (by kernel_rfl) (by kernel_rfl) ?_
                clear ha; intro a ha
                refine st_val (.int .u8 ((k : Nat) : Int)) ha (by kernel_rfl) (run_conv (p := ((k : Nat) : Int)) ((k : Nat) : Int) rfl (by kernel_rfl) Try.underlying3 Try.underlying5 (by rw [wrap_u8]; omega) _) ?_
                clear ha; intro a ha
                refine st_call ha (by kernel_rfl) (by kernel_rfl) (mail_any W _ w (1 + ((1 + r)).tmod 4) (1 + r) ((k : Nat) : Int) s) ?_
                rintro _ w ⟨A23, c24, rfl, s⟩
                replace s : St W (Own 5 1 A23 1 c24 (u8s [((k : Nat) : Int)]) :: Bag g1 (mqs ps) :: .blk g2 (cnt ps) 44 :: L) w := s
                refine ⟨_, rfl, ?_⟩; clear ha; intro a ha
                replace s := s.at_ (j := 1) rfl
                replace s : St W (Bag g1 (mqs ps) :: Own 5 1 A23 1 c24 (u8s [((k : Nat) : Int)]) :: .blk g2 (cnt ps) 44 :: L) w := s
                refine st_call ha (by kernel_rfl) (by kernel_rfl) (put_to W _ w g1 (mqs ps) (1 + ((1 + r)).tmod 4) (1 + r) [((k : Nat) : Int)] A23 1 c24 0 (mqs (ps ++ [(1 + r, k)])) rfl (by rw [mqs_len]; exact mq_code (p := (1 + r, k)) hr1 (by omega)) (mqs_put (p := (1 + r, k)) hr1 (by omega)) (Knows.own (j := 0) rfl) (by omega) s) ?_
                rintro _ w ⟨rfl, s⟩
                replace s : St W (Bag g1 (mqs (ps ++ [(1 + r, k)])) :: Own 5 1 A23 1 c24 (u8s [((k : Nat) : Int)]) :: .blk g2 (cnt ps) 44 :: L) w := s
                refine ⟨_, rfl, ?_⟩; clear ha; intro a ha
                refine st_val (.bool false) ha (by kernel_rfl) (by kernel_rfl) ?_
                clear ha; intro a ha
                refine wpList_nil ?_
                refine then_normal ?_
                refine wp_false ha rfl (by kernel_rfl) ?_
                refine wp_skip ?_
                refine then_normal ?_
                refine wp_seq ?_
                refine wp_region_lit ?_
                refine st_val (.int .i64 ((k : Nat) : Int)) ha (by kernel_rfl) (by kernel_rfl) ?_
                clear ha; intro a ha
                refine st_val (.pointer (some ⟨g2, k, none⟩)) ha (by kernel_rfl) (run_indexArr (kd := .i64) k rfl Try.underlying44 Try.sizeOf3 (by kernel_rfl) (by kernel_rfl) rfl (by first | assumption | omega) _) ?_
                clear ha; intro a ha
                refine st_val (.int .i64 ((cn ps k : Nat) : Int)) ha (by kernel_rfl) (run_load1 (of_ := k) (s.blkIs 2 rfl) rfl (by kernel_rfl) Try.isAgg3 (cnt_at ps (by omega))) ?_
                clear ha; intro a ha
                refine st_val (.int .i64 ((cn ps k + 1 : Nat) : Int)) ha (by kernel_rfl) (run_arith (((cn ps k : Nat) : Int) + (1 : Int)) ((cn ps k + 1 : Nat) : Int) rfl (by kernel_rfl) (by kernel_rfl) (.inl ⟨rfl, rfl⟩) (by rw [wrap64_in (by omega)]; try omega) _) ?_
                clear ha; intro a ha
                refine st_val (.pointer (some ⟨g2, k, none⟩)) ha (by kernel_rfl) (run_indexArr (kd := .i64) k rfl Try.underlying44 Try.sizeOf3 (by kernel_rfl) (by kernel_rfl) rfl (by first | assumption | omega) _) ?_
                clear ha; intro a ha
                refine st_exd ha (by kernel_rfl) (ex_store_to (of_ := k) 2 [.int .i64 ((cn ps k + 1 : Nat) : Int)] s (cnt_add ps (1 + r, k) (by omega)) rfl rfl (by kernel_rfl) (by kernel_rfl) (Try.sizeOf3 _) rfl (by simp [Value.oneCell']) (by rw [cnt_len]; simp only [List.length_cons, List.length_nil]; omega)) ?_
                clear ha; rintro w a s ha
                replace s : St W (Bag g1 (mqs (ps ++ [(1 + r, k)])) :: Own 5 1 A23 1 c24 (u8s [((k : Nat) : Int)]) :: .blk g2 (cnt (ps ++ [(1 + r, k)])) 44 :: L) w := s
                refine wpList_nil ?_
                refine then_normal ?_
                refine wp_region_lit ?_
                refine st_val (.int .i64 ((ps.length : Nat) : Int)) ha (by kernel_rfl) (by kernel_rfl) ?_
                clear ha; intro a ha
                refine st_val (.int .i64 ((ps.length + 1 : Nat) : Int)) ha (by kernel_rfl) (run_arith (((ps.length : Nat) : Int) + (1 : Int)) ((ps.length + 1 : Nat) : Int) rfl (by kernel_rfl) (by kernel_rfl) (.inl ⟨rfl, rfl⟩) (by rw [wrap64_in (by omega)]; try omega) _) ?_
                clear ha; intro a ha
                refine st_val (.int .i64 ((ps.length + 1 : Nat) : Int)) ha (by kernel_rfl) (by kernel_rfl) ?_
                clear ha; intro a ha
                refine wpList_nil ?_
                refine block_normal ?_
                refine then_normal ?_
                refine wp_seq ?_
                refine wp_region_lit ?_
                refine st_val (.pointer (some ⟨g1, 0, none⟩)) ha (by kernel_rfl) (by kernel_rfl) ?_
                clear ha; intro a ha
                refine st_call ha (by kernel_rfl) (by kernel_rfl) (len_to W _ w g1 (mqs (ps ++ [(1 + r, k)])) (ps.length + 1) (by rw [mqs_len]; simp) s) ?_
                rintro _ w ⟨rfl, s⟩
                replace s : St W (Bag g1 (mqs (ps ++ [(1 + r, k)])) :: Own 5 1 A23 1 c24 (u8s [((k : Nat) : Int)]) :: .blk g2 (cnt (ps ++ [(1 + r, k)])) 44 :: L) w := s
                refine ⟨_, rfl, ?_⟩; clear ha; intro a ha
                refine st_val (.int .i64 ((ps.length + 1 : Nat) : Int)) ha (by kernel_rfl) (by kernel_rfl) ?_
                clear ha; intro a ha
                refine st_val (.bool false) ha (by kernel_rfl) (run_known (bne_self_eq_false _) (show (execOp (evalE _) _).run _ _ = .ok (.value (.bool (((ps.length + 1 : Nat) : Int) != ((ps.length + 1 : Nat) : Int)))) _ from by kernel_rfl)) ?_
                clear ha; intro a ha
                refine wpList_nil ?_
                refine then_normal ?_
                refine wp_false ha rfl (by kernel_rfl) ?_
                refine wp_skip ?_
                refine block_normal ?_
                refine then_normal ?_
                refine wp_region_lit ?_
                refine st_val (.int .i64 ((k : Nat) : Int)) ha (by kernel_rfl) (by kernel_rfl) ?_
                clear ha; intro a ha
                refine st_val (.int .i64 ((k + 1 : Nat) : Int)) ha (by kernel_rfl) (run_arith (((k : Nat) : Int) + (1 : Int)) ((k + 1 : Nat) : Int) rfl (by kernel_rfl) (by kernel_rfl) (.inl ⟨rfl, rfl⟩) (by rw [wrap64_in (by omega)]; try omega) _) ?_
                clear ha; intro a ha
                refine st_val (.int .i64 ((k + 1 : Nat) : Int)) ha (by kernel_rfl) (by kernel_rfl) ?_
                clear ha; intro a ha
                refine wpList_nil ?_
                refine then_normal ?_
                replace s := s.at_ (j := 2) rfl
                replace s : St W (.blk g2 (cnt (ps ++ [(1 + r, k)])) 44 :: Bag g1 (mqs (ps ++ [(1 + r, k)])) :: Own 5 1 A23 1 c24 (u8s [((k : Nat) : Int)]) :: L) w := s
                replace s := s.at_ (j := 1) rfl
                replace s : St W (Bag g1 (mqs (ps ++ [(1 + r, k)])) :: .blk g2 (cnt (ps ++ [(1 + r, k)])) 44 :: Own 5 1 A23 1 c24 (u8s [((k : Nat) : Int)]) :: L) w := s
                replace s : St W (Bag g1 (mqs (ps ++ [(1 + r, k)])) :: .blk g2 (cnt (ps ++ [(1 + r, k)])) 44 :: L) w := St.mid (A := [Bag g1 (mqs (ps ++ [(1 + r, k)])), .blk g2 (cnt (ps ++ [(1 + r, k)])) 44]) (B := [Own 5 1 A23 1 c24 (u8s [((k : Nat) : Int)])]) s
                rw [show ps.length + 1 = (ps ++ [(1 + r, k)]).length from by simp] at ha
                exact ⟨(k + 1, ps ++ [(1 + r, k)]), (show 200 - (k + 1) < 200 - k by omega), (Has.cons ha (by kernel_rfl) (by kernel_rfl) (Has.cons ha (by kernel_rfl) (by kernel_rfl) (Has.cons ha (by kernel_rfl) (by kernel_rfl) (Has.cons ha (by kernel_rfl) (by kernel_rfl) (Has.cons ha (by kernel_rfl) (by kernel_rfl) (Has.nil ha)))))), s, (show k + 1 ≤ 200 by omega), (ho.put _ (by simp only []; omega))⟩
      · rw [hb] at ha; replace hb : ¬ (((k : Nat) : Int) < (200 : Int)) := of_decide_eq_false hb
        skip
        refine wp_exit ?_
        refine then_exit ?_
        refine then_exit ?_
        refine block_hit ?_
        refine then_normal ?_
        refine wp_seq ?_
        refine wp_block ?_
        refine wp_loopG (G := (List (Int × Nat))) (fun ps a w => Has a 199 [(3, .pointer (some ⟨g1, 0, none⟩)), (4, .pointer (some ⟨g2, 0, none⟩)), (5, .int .i64 ((ps.length : Nat) : Int))] ∧ St W (Bag g1 (mqs ps) :: .blk g2 (cnt ps) 44 :: L) w ∧ (Once ps 200)) (fun ps => ps.length) ps ?_ ?_
        · exact ⟨(Has.cons ha (by kernel_rfl) (by kernel_rfl) (Has.cons ha (by kernel_rfl) (by kernel_rfl) (Has.cons ha (by kernel_rfl) (by kernel_rfl) (Has.nil ha)))), s, ho.to200 (by omega)⟩
        · clear ha s; rintro ps a w ⟨ha, s, hp⟩
          refine wp_seq ?_
          refine wp_seq ?_
          refine wp_region_lit ?_
          refine st_val (.int .i64 ((ps.length : Nat) : Int)) ha (by kernel_rfl) (by kernel_rfl) ?_
          clear ha; intro a ha
          refine st_val (.bool (decide (((ps.length : Nat) : Int) > (0 : Int)))) ha (by kernel_rfl) (by kernel_rfl) ?_
          clear ha; intro a ha
          refine wpList_nil ?_
          refine then_normal ?_
          refine wp_part (decide (((ps.length : Nat) : Int) > (0 : Int))) ha rfl (by kernel_rfl) (fun hb => ?_) (fun hb => ?_)
          · rw [hb] at ha; replace hb : (((ps.length : Nat) : Int) > (0 : Int)) := of_decide_eq_true hb
            have ho := hp
            have hol := ho.len
            obtain ⟨p, hp_⟩ : ∃ p, ps[ps.length - 1]? = some p := ⟨_, List.getElem?_eq_getElem (by omega)⟩
            have hpm := ho.to p (List.mem_of_getElem? hp_)
            have hp4 := tmod4 ⟨hpm.1, hpm.2.1⟩
            have hc1 := cn_pos hp_
            have hc2 := cn_le ps p.2
            refine wp_skip ?_
            refine then_normal ?_
            refine wp_seq ?_
            refine wp_block ?_
            refine wp_seq ?_
            refine wp_region_lit ?_
            refine st_val (.pointer (some ⟨g1, 0, none⟩)) ha (by kernel_rfl) (by kernel_rfl) ?_
            clear ha; intro a ha
            refine st_val (.int .i64 ((ps.length : Nat) : Int)) ha (by kernel_rfl) (by kernel_rfl) ?_
            clear ha; intro a ha
            refine st_val (.int .i64 ((ps.length - 1 : Nat) : Int)) ha (by kernel_rfl) (run_arith (((ps.length : Nat) : Int) - (1 : Int)) ((ps.length - 1 : Nat) : Int) rfl (by kernel_rfl) (by kernel_rfl) (.inr (.inl ⟨rfl, rfl⟩)) (by rw [wrap64_in (by omega)]; try omega) _) ?_
            clear ha; intro a ha
            refine st_call ha (by kernel_rfl) (by kernel_rfl) (take_to W _ w g1 (mqs ps) (ps.length - 1) (1 + p.1.tmod 4) p.1 [((p.2 : Nat) : Int)] 1 (mqs (ps.eraseIdx (ps.length - 1))) (mqs_at hp_) rfl (mqs_erase ps (ps.length - 1)) (mqs_ok (by have := ho.len; omega)) s) ?_
            rintro _ w ⟨A25, c26, rfl, s⟩
            replace s : St W (Own 5 1 A25 1 c26 (u8s [((p.2 : Nat) : Int)]) :: Bag g1 (mqs (ps.eraseIdx (ps.length - 1))) :: .blk g2 (cnt ps) 44 :: L) w := s
            refine ⟨_, rfl, ?_⟩; clear ha; intro a ha
            refine st_val (.tuple #[.agg #[.int .i64 (1 + p.1.tmod 4), .int .i64 p.1, .slice A25 1 c26], .bool true]) ha (by kernel_rfl) (by kernel_rfl) ?_
            clear ha; intro a ha
            refine st_val (.agg #[.int .i64 (1 + p.1.tmod 4), .int .i64 p.1, .slice A25 1 c26]) ha (by kernel_rfl) (by kernel_rfl) ?_
            clear ha; intro a ha
            refine st_val (.bool true) ha (by kernel_rfl) (by kernel_rfl) ?_
            clear ha; intro a ha
            refine st_ex ha (by kernel_rfl) (ex_alloc [.int .i64 0, .int .i64 0, .slice none 0 0] s rfl (Try.zeroValue29 _) (by kernel_rfl)) ?_
            clear ha; rintro _ w a ⟨g27, rfl, s⟩ ha
            replace s : St W (.blk g27 [.int .i64 0, .int .i64 0, .slice none 0 0] 29 :: Own 5 1 A25 1 c26 (u8s [((p.2 : Nat) : Int)]) :: Bag g1 (mqs (ps.eraseIdx (ps.length - 1))) :: .blk g2 (cnt ps) 44 :: L) w := s
            refine st_exd ha (by kernel_rfl) (ex_store (of_ := 0) 0 [.int .i64 (1 + p.1.tmod 4), .int .i64 p.1, .slice A25 1 c26] s rfl rfl (by kernel_rfl) (by kernel_rfl) (Try.sizeOf29 _) rfl (by simp [Value.oneCell']) (Nat.le_of_ble_eq_true rfl)) ?_
            clear ha; rintro w a s ha
            replace s : St W (.blk g27 [.int .i64 (1 + p.1.tmod 4), .int .i64 p.1, .slice A25 1 c26] 29 :: Own 5 1 A25 1 c26 (u8s [((p.2 : Nat) : Int)]) :: Bag g1 (mqs (ps.eraseIdx (ps.length - 1))) :: .blk g2 (cnt ps) 44 :: L) w := s
            refine st_val (.bool true) ha (by kernel_rfl) (by kernel_rfl) ?_
            clear ha; intro a ha
            refine wpList_nil ?_
            refine then_normal ?_
            refine wp_seq ?_
            refine wp_seq ?_
            refine wp_region_lit ?_
            refine st_val (.bool true) ha (by kernel_rfl) (by kernel_rfl) ?_
            clear ha; intro a ha
            refine st_val (.bool false) ha (by kernel_rfl) (by kernel_rfl) ?_
            clear ha; intro a ha
            refine st_val (.bool false) ha (by kernel_rfl) (by kernel_rfl) ?_
            clear ha; intro a ha
            refine st_val (.agg #[.int .i64 (1 + p.1.tmod 4), .int .i64 p.1, .slice A25 1 c26]) ha (by kernel_rfl) (run_loadN (of_ := 0) [.int .i64 (1 + p.1.tmod 4), .int .i64 p.1, .slice A25 1 c26] (s.blkIs 0 rfl) rfl (by kernel_rfl) Try.isAgg29 Try.sizeOf29 rfl (Nat.le_of_ble_eq_true rfl)) ?_
            clear ha; intro a ha
            refine st_call ha (by kernel_rfl) (by kernel_rfl) (first_one W _ w (1 + p.1.tmod 4) p.1 A25 1 c26 ((p.2 : Nat) : Int) rfl (Knows.own (j := 1) rfl) s) ?_
            rintro _ w ⟨rfl, s⟩
            replace s : St W (.blk g27 [.int .i64 (1 + p.1.tmod 4), .int .i64 p.1, .slice A25 1 c26] 29 :: Own 5 1 A25 1 c26 (u8s [((p.2 : Nat) : Int)]) :: Bag g1 (mqs (ps.eraseIdx (ps.length - 1))) :: .blk g2 (cnt ps) 44 :: L) w := s
            refine ⟨_, rfl, ?_⟩; clear ha; intro a ha
            refine st_val (.int .i64 ((p.2 : Nat) : Int)) ha (by kernel_rfl) (run_conv (((p.2 : Nat) : Int)) rfl (by kernel_rfl) Try.underlying5 Try.underlying3 (wrap64_in (by omega)) _) ?_
            clear ha; intro a ha
            refine st_val (.bool false) ha (by kernel_rfl) (run_known (show (decide (((p.2 : Nat) : Int) ≥ (200 : Int))) = false from decide_eq_false (by omega)) (by kernel_rfl)) ?_
            clear ha; intro a ha
            refine st_val (.bool false) ha (by kernel_rfl) (by kernel_rfl) ?_
            clear ha; intro a ha
            refine wpList_nil ?_
            refine then_normal ?_
            refine wp_false ha rfl (by kernel_rfl) ?_
            refine wp_skip ?_
            refine then_normal ?_
            refine wp_region_lit ?_
            refine st_val (.agg #[.int .i64 (1 + p.1.tmod 4), .int .i64 p.1, .slice A25 1 c26]) ha (by kernel_rfl) (run_loadN (of_ := 0) [.int .i64 (1 + p.1.tmod 4), .int .i64 p.1, .slice A25 1 c26] (s.blkIs 0 rfl) rfl (by kernel_rfl) Try.isAgg29 Try.sizeOf29 rfl (Nat.le_of_ble_eq_true rfl)) ?_
            clear ha; intro a ha
            refine st_call ha (by kernel_rfl) (by kernel_rfl) (first_one W _ w (1 + p.1.tmod 4) p.1 A25 1 c26 ((p.2 : Nat) : Int) rfl (Knows.own (j := 1) rfl) s) ?_
            rintro _ w ⟨rfl, s⟩
            replace s : St W (.blk g27 [.int .i64 (1 + p.1.tmod 4), .int .i64 p.1, .slice A25 1 c26] 29 :: Own 5 1 A25 1 c26 (u8s [((p.2 : Nat) : Int)]) :: Bag g1 (mqs (ps.eraseIdx (ps.length - 1))) :: .blk g2 (cnt ps) 44 :: L) w := s
            refine ⟨_, rfl, ?_⟩; clear ha; intro a ha
            refine st_val (.pointer (some ⟨g2, p.2, none⟩)) ha (by kernel_rfl) (run_indexArr (kd := .u8) p.2 rfl Try.underlying44 Try.sizeOf3 (by kernel_rfl) (by kernel_rfl) rfl (by first | assumption | omega) _) ?_
            clear ha; intro a ha
            refine st_val (.int .i64 ((cn ps p.2 : Nat) : Int)) ha (by kernel_rfl) (run_load1 (of_ := p.2) (s.blkIs 3 rfl) rfl (by kernel_rfl) Try.isAgg3 (cnt_at ps (by omega))) ?_
            clear ha; intro a ha
            refine st_val (.int .i64 ((cn ps p.2 - 1 : Nat) : Int)) ha (by kernel_rfl) (run_arith (((cn ps p.2 : Nat) : Int) - (1 : Int)) ((cn ps p.2 - 1 : Nat) : Int) rfl (by kernel_rfl) (by kernel_rfl) (.inr (.inl ⟨rfl, rfl⟩)) (by rw [wrap64_in (by omega)]; try omega) _) ?_
            clear ha; intro a ha
            refine st_val (.pointer (some ⟨g2, p.2, none⟩)) ha (by kernel_rfl) (run_indexArr (kd := .u8) p.2 rfl Try.underlying44 Try.sizeOf3 (by kernel_rfl) (by kernel_rfl) rfl (by first | assumption | omega) _) ?_
            clear ha; intro a ha
            refine st_exd ha (by kernel_rfl) (ex_store_to (of_ := p.2) 3 [.int .i64 ((cn ps p.2 - 1 : Nat) : Int)] s (cnt_del hp_ (by omega)) rfl rfl (by kernel_rfl) (by kernel_rfl) (Try.sizeOf3 _) rfl (by simp [Value.oneCell']) (by rw [cnt_len]; simp only [List.length_cons, List.length_nil]; omega)) ?_
            clear ha; rintro w a s ha
            replace s : St W (.blk g27 [.int .i64 (1 + p.1.tmod 4), .int .i64 p.1, .slice A25 1 c26] 29 :: Own 5 1 A25 1 c26 (u8s [((p.2 : Nat) : Int)]) :: Bag g1 (mqs (ps.eraseIdx (ps.length - 1))) :: .blk g2 (cnt (ps.eraseIdx (ps.length - 1))) 44 :: L) w := s
            refine wpList_nil ?_
            refine block_normal ?_
            refine then_normal ?_
            refine wp_region_lit ?_
            refine st_val (.int .i64 ((ps.length : Nat) : Int)) ha (by kernel_rfl) (by kernel_rfl) ?_
            clear ha; intro a ha
            refine st_val (.int .i64 ((ps.length - 1 : Nat) : Int)) ha (by kernel_rfl) (run_arith (((ps.length : Nat) : Int) - (1 : Int)) ((ps.length - 1 : Nat) : Int) rfl (by kernel_rfl) (by kernel_rfl) (.inr (.inl ⟨rfl, rfl⟩)) (by rw [wrap64_in (by omega)]; try omega) _) ?_
            clear ha; intro a ha
            refine st_val (.int .i64 ((ps.length - 1 : Nat) : Int)) ha (by kernel_rfl) (by kernel_rfl) ?_
            clear ha; intro a ha
            refine wpList_nil ?_
            refine then_normal ?_
            replace s := s.at_ (j := 3) rfl
            replace s : St W (.blk g2 (cnt (ps.eraseIdx (ps.length - 1))) 44 :: .blk g27 [.int .i64 (1 + p.1.tmod 4), .int .i64 p.1, .slice A25 1 c26] 29 :: Own 5 1 A25 1 c26 (u8s [((p.2 : Nat) : Int)]) :: Bag g1 (mqs (ps.eraseIdx (ps.length - 1))) :: L) w := s
            replace s := s.at_ (j := 3) rfl
            replace s : St W (Bag g1 (mqs (ps.eraseIdx (ps.length - 1))) :: .blk g2 (cnt (ps.eraseIdx (ps.length - 1))) 44 :: .blk g27 [.int .i64 (1 + p.1.tmod 4), .int .i64 p.1, .slice A25 1 c26] 29 :: Own 5 1 A25 1 c26 (u8s [((p.2 : Nat) : Int)]) :: L) w := s
            replace s : St W (Bag g1 (mqs (ps.eraseIdx (ps.length - 1))) :: .blk g2 (cnt (ps.eraseIdx (ps.length - 1))) 44 :: L) w := St.mid (A := [Bag g1 (mqs (ps.eraseIdx (ps.length - 1))), .blk g2 (cnt (ps.eraseIdx (ps.length - 1))) 44]) (B := [.blk g27 [.int .i64 (1 + p.1.tmod 4), .int .i64 p.1, .slice A25 1 c26] 29, Own 5 1 A25 1 c26 (u8s [((p.2 : Nat) : Int)])]) s
            rw [show ps.length - 1 = (ps.eraseIdx (ps.length - 1)).length from by rw [List.length_eraseIdx_of_lt (by omega)]] at ha
            exact ⟨ps.eraseIdx (ps.length - 1), by rw [List.length_eraseIdx_of_lt (by omega)]; omega, (Has.cons ha (by kernel_rfl) (by kernel_rfl) (Has.cons ha (by kernel_rfl) (by kernel_rfl) (Has.cons ha (by kernel_rfl) (by kernel_rfl) (Has.nil ha)))), s, ho.erase _⟩
          · rw [hb] at ha; replace hb : ¬ (((ps.length : Nat) : Int) > (0 : Int)) := of_decide_eq_false hb
            have ho := hp
            obtain rfl : ps = [] := List.eq_nil_of_length_eq_zero (by omega)
            rw [show cnt [] = [.int .i64 0, .int .i64 0, .int .i64 0, .int .i64 0, .int .i64 0, .int .i64 0, .int .i64 0, .int .i64 0, .int .i64 0, .int .i64 0, .int .i64 0, .int .i64 0, .int .i64 0, .int .i64 0, .int .i64 0, .int .i64 0, .int .i64 0, .int .i64 0, .int .i64 0, .int .i64 0, .int .i64 0, .int .i64 0, .int .i64 0, .int .i64 0, .int .i64 0, .int .i64 0, .int .i64 0, .int .i64 0, .int .i64 0, .int .i64 0, .int .i64 0, .int .i64 0, .int .i64 0, .int .i64 0, .int .i64 0, .int .i64 0, .int .i64 0, .int .i64 0, .int .i64 0, .int .i64 0, .int .i64 0, .int .i64 0, .int .i64 0, .int .i64 0, .int .i64 0, .int .i64 0, .int .i64 0, .int .i64 0, .int .i64 0, .int .i64 0, .int .i64 0, .int .i64 0, .int .i64 0, .int .i64 0, .int .i64 0, .int .i64 0, .int .i64 0, .int .i64 0, .int .i64 0, .int .i64 0, .int .i64 0, .int .i64 0, .int .i64 0, .int .i64 0, .int .i64 0, .int .i64 0, .int .i64 0, .int .i64 0, .int .i64 0, .int .i64 0, .int .i64 0, .int .i64 0, .int .i64 0, .int .i64 0, .int .i64 0, .int .i64 0, .int .i64 0, .int .i64 0, .int .i64 0, .int .i64 0, .int .i64 0, .int .i64 0, .int .i64 0, .int .i64 0, .int .i64 0, .int .i64 0, .int .i64 0, .int .i64 0, .int .i64 0, .int .i64 0, .int .i64 0, .int .i64 0, .int .i64 0, .int .i64 0, .int .i64 0, .int .i64 0, .int .i64 0, .int .i64 0, .int .i64 0, .int .i64 0, .int .i64 0, .int .i64 0, .int .i64 0, .int .i64 0, .int .i64 0, .int .i64 0, .int .i64 0, .int .i64 0, .int .i64 0, .int .i64 0, .int .i64 0, .int .i64 0, .int .i64 0, .int .i64 0, .int .i64 0, .int .i64 0, .int .i64 0, .int .i64 0, .int .i64 0, .int .i64 0, .int .i64 0, .int .i64 0, .int .i64 0, .int .i64 0, .int .i64 0, .int .i64 0, .int .i64 0, .int .i64 0, .int .i64 0, .int .i64 0, .int .i64 0, .int .i64 0, .int .i64 0, .int .i64 0, .int .i64 0, .int .i64 0, .int .i64 0, .int .i64 0, .int .i64 0, .int .i64 0, .int .i64 0, .int .i64 0, .int .i64 0, .int .i64 0, .int .i64 0, .int .i64 0, .int .i64 0, .int .i64 0, .int .i64 0, .int .i64 0, .int .i64 0, .int .i64 0, .int .i64 0, .int .i64 0, .int .i64 0, .int .i64 0, .int .i64 0, .int .i64 0, .int .i64 0, .int .i64 0, .int .i64 0, .int .i64 0, .int .i64 0, .int .i64 0, .int .i64 0, .int .i64 0, .int .i64 0, .int .i64 0, .int .i64 0, .int .i64 0, .int .i64 0, .int .i64 0, .int .i64 0, .int .i64 0, .int .i64 0, .int .i64 0, .int .i64 0, .int .i64 0, .int .i64 0, .int .i64 0, .int .i64 0, .int .i64 0, .int .i64 0, .int .i64 0, .int .i64 0, .int .i64 0, .int .i64 0, .int .i64 0, .int .i64 0, .int .i64 0, .int .i64 0, .int .i64 0, .int .i64 0, .int .i64 0, .int .i64 0, .int .i64 0, .int .i64 0, .int .i64 0, .int .i64 0, .int .i64 0] from by kernel_rfl] at s
            refine wp_exit ?_
            refine then_exit ?_
            refine then_exit ?_
            refine block_hit ?_
            refine then_normal ?_
            refine wp_seq ?_
            refine wp_region_lit ?_
            refine st_val (.agg #[.int .i64 0, .int .i64 0, .int .i64 0, .int .i64 0, .int .i64 0, .int .i64 0, .int .i64 0, .int .i64 0, .int .i64 0, .int .i64 0, .int .i64 0, .int .i64 0, .int .i64 0, .int .i64 0, .int .i64 0, .int .i64 0, .int .i64 0, .int .i64 0, .int .i64 0, .int .i64 0, .int .i64 0, .int .i64 0, .int .i64 0, .int .i64 0, .int .i64 0, .int .i64 0, .int .i64 0, .int .i64 0, .int .i64 0, .int .i64 0, .int .i64 0, .int .i64 0, .int .i64 0, .int .i64 0, .int .i64 0, .int .i64 0, .int .i64 0, .int .i64 0, .int .i64 0, .int .i64 0, .int .i64 0, .int .i64 0, .int .i64 0, .int .i64 0, .int .i64 0, .int .i64 0, .int .i64 0, .int .i64 0, .int .i64 0, .int .i64 0, .int .i64 0, .int .i64 0, .int .i64 0, .int .i64 0, .int .i64 0, .int .i64 0, .int .i64 0, .int .i64 0, .int .i64 0, .int .i64 0, .int .i64 0, .int .i64 0, .int .i64 0, .int .i64 0, .int .i64 0, .int .i64 0, .int .i64 0, .int .i64 0, .int .i64 0, .int .i64 0, .int .i64 0, .int .i64 0, .int .i64 0, .int .i64 0, .int .i64 0, .int .i64 0, .int .i64 0, .int .i64 0, .int .i64 0, .int .i64 0, .int .i64 0, .int .i64 0, .int .i64 0, .int .i64 0, .int .i64 0, .int .i64 0, .int .i64 0, .int .i64 0, .int .i64 0, .int .i64 0, .int .i64 0, .int .i64 0, .int .i64 0, .int .i64 0, .int .i64 0, .int .i64 0, .int .i64 0, .int .i64 0, .int .i64 0, .int .i64 0, .int .i64 0, .int .i64 0, .int .i64 0, .int .i64 0, .int .i64 0, .int .i64 0, .int .i64 0, .int .i64 0, .int .i64 0, .int .i64 0, .int .i64 0, .int .i64 0, .int .i64 0, .int .i64 0, .int .i64 0, .int .i64 0, .int .i64 0, .int .i64 0, .int .i64 0, .int .i64 0, .int .i64 0, .int .i64 0, .int .i64 0, .int .i64 0, .int .i64 0, .int .i64 0, .int .i64 0, .int .i64 0, .int .i64 0, .int .i64 0, .int .i64 0, .int .i64 0, .int .i64 0, .int .i64 0, .int .i64 0, .int .i64 0, .int .i64 0, .int .i64 0, .int .i64 0, .int .i64 0, .int .i64 0, .int .i64 0, .int .i64 0, .int .i64 0, .int .i64 0, .int .i64 0, .int .i64 0, .int .i64 0, .int .i64 0, .int .i64 0, .int .i64 0, .int .i64 0, .int .i64 0, .int .i64 0, .int .i64 0, .int .i64 0, .int .i64 0, .int .i64 0, .int .i64 0, .int .i64 0, .int .i64 0, .int .i64 0, .int .i64 0, .int .i64 0, .int .i64 0, .int .i64 0, .int .i64 0, .int .i64 0, .int .i64 0, .int .i64 0, .int .i64 0, .int .i64 0, .int .i64 0, .int .i64 0, .int .i64 0, .int .i64 0, .int .i64 0, .int .i64 0, .int .i64 0, .int .i64 0, .int .i64 0, .int .i64 0, .int .i64 0, .int .i64 0, .int .i64 0, .int .i64 0, .int .i64 0, .int .i64 0, .int .i64 0, .int .i64 0, .int .i64 0, .int .i64 0, .int .i64 0, .int .i64 0, .int .i64 0, .int .i64 0, .int .i64 0, .int .i64 0, .int .i64 0, .int .i64 0]) ha (by kernel_rfl) (run_loadN (of_ := 0) [.int .i64 0, .int .i64 0, .int .i64 0, .int .i64 0, .int .i64 0, .int .i64 0, .int .i64 0, .int .i64 0, .int .i64 0, .int .i64 0, .int .i64 0, .int .i64 0, .int .i64 0, .int .i64 0, .int .i64 0, .int .i64 0, .int .i64 0, .int .i64 0, .int .i64 0, .int .i64 0, .int .i64 0, .int .i64 0, .int .i64 0, .int .i64 0, .int .i64 0, .int .i64 0, .int .i64 0, .int .i64 0, .int .i64 0, .int .i64 0, .int .i64 0, .int .i64 0, .int .i64 0, .int .i64 0, .int .i64 0, .int .i64 0, .int .i64 0, .int .i64 0, .int .i64 0, .int .i64 0, .int .i64 0, .int .i64 0, .int .i64 0, .int .i64 0, .int .i64 0, .int .i64 0, .int .i64 0, .int .i64 0, .int .i64 0, .int .i64 0, .int .i64 0, .int .i64 0, .int .i64 0, .int .i64 0, .int .i64 0, .int .i64 0, .int .i64 0, .int .i64 0, .int .i64 0, .int .i64 0, .int .i64 0, .int .i64 0, .int .i64 0, .int .i64 0, .int .i64 0, .int .i64 0, .int .i64 0, .int .i64 0, .int .i64 0, .int .i64 0, .int .i64 0, .int .i64 0, .int .i64 0, .int .i64 0, .int .i64 0, .int .i64 0, .int .i64 0, .int .i64 0, .int .i64 0, .int .i64 0, .int .i64 0, .int .i64 0, .int .i64 0, .int .i64 0, .int .i64 0, .int .i64 0, .int .i64 0, .int .i64 0, .int .i64 0, .int .i64 0, .int .i64 0, .int .i64 0, .int .i64 0, .int .i64 0, .int .i64 0, .int .i64 0, .int .i64 0, .int .i64 0, .int .i64 0, .int .i64 0, .int .i64 0, .int .i64 0, .int .i64 0, .int .i64 0, .int .i64 0, .int .i64 0, .int .i64 0, .int .i64 0, .int .i64 0, .int .i64 0, .int .i64 0, .int .i64 0, .int .i64 0, .int .i64 0, .int .i64 0, .int .i64 0, .int .i64 0, .int .i64 0, .int .i64 0, .int .i64 0, .int .i64 0, .int .i64 0, .int .i64 0, .int .i64 0, .int .i64 0, .int .i64 0, .int .i64 0, .int .i64 0, .int .i64 0, .int .i64 0, .int .i64 0, .int .i64 0, .int .i64 0, .int .i64 0, .int .i64 0, .int .i64 0, .int .i64 0, .int .i64 0, .int .i64 0, .int .i64 0, .int .i64 0, .int .i64 0, .int .i64 0, .int .i64 0, .int .i64 0, .int .i64 0, .int .i64 0, .int .i64 0, .int .i64 0, .int .i64 0, .int .i64 0, .int .i64 0, .int .i64 0, .int .i64 0, .int .i64 0, .int .i64 0, .int .i64 0, .int .i64 0, .int .i64 0, .int .i64 0, .int .i64 0, .int .i64 0, .int .i64 0, .int .i64 0, .int .i64 0, .int .i64 0, .int .i64 0, .int .i64 0, .int .i64 0, .int .i64 0, .int .i64 0, .int .i64 0, .int .i64 0, .int .i64 0, .int .i64 0, .int .i64 0, .int .i64 0, .int .i64 0, .int .i64 0, .int .i64 0, .int .i64 0, .int .i64 0, .int .i64 0, .int .i64 0, .int .i64 0, .int .i64 0, .int .i64 0, .int .i64 0, .int .i64 0, .int .i64 0, .int .i64 0, .int .i64 0, .int .i64 0, .int .i64 0, .int .i64 0, .int .i64 0, .int .i64 0, .int .i64 0, .int .i64 0, .int .i64 0] (s.blkIs 1 rfl) rfl (by kernel_rfl) Try.isAgg44 Try.sizeOf44 rfl (Nat.le_of_ble_eq_true rfl)) ?_
            clear ha; intro a ha
            refine st_val (.agg #[.int .i64 0, .int .i64 0, .int .i64 0, .int .i64 0, .int .i64 0, .int .i64 0, .int .i64 0, .int .i64 0, .int .i64 0, .int .i64 0, .int .i64 0, .int .i64 0, .int .i64 0, .int .i64 0, .int .i64 0, .int .i64 0, .int .i64 0, .int .i64 0, .int .i64 0, .int .i64 0, .int .i64 0, .int .i64 0, .int .i64 0, .int .i64 0, .int .i64 0, .int .i64 0, .int .i64 0, .int .i64 0, .int .i64 0, .int .i64 0, .int .i64 0, .int .i64 0, .int .i64 0, .int .i64 0, .int .i64 0, .int .i64 0, .int .i64 0, .int .i64 0, .int .i64 0, .int .i64 0, .int .i64 0, .int .i64 0, .int .i64 0, .int .i64 0, .int .i64 0, .int .i64 0, .int .i64 0, .int .i64 0, .int .i64 0, .int .i64 0, .int .i64 0, .int .i64 0, .int .i64 0, .int .i64 0, .int .i64 0, .int .i64 0, .int .i64 0, .int .i64 0, .int .i64 0, .int .i64 0, .int .i64 0, .int .i64 0, .int .i64 0, .int .i64 0, .int .i64 0, .int .i64 0, .int .i64 0, .int .i64 0, .int .i64 0, .int .i64 0, .int .i64 0, .int .i64 0, .int .i64 0, .int .i64 0, .int .i64 0, .int .i64 0, .int .i64 0, .int .i64 0, .int .i64 0, .int .i64 0, .int .i64 0, .int .i64 0, .int .i64 0, .int .i64 0, .int .i64 0, .int .i64 0, .int .i64 0, .int .i64 0, .int .i64 0, .int .i64 0, .int .i64 0, .int .i64 0, .int .i64 0, .int .i64 0, .int .i64 0, .int .i64 0, .int .i64 0, .int .i64 0, .int .i64 0, .int .i64 0, .int .i64 0, .int .i64 0, .int .i64 0, .int .i64 0, .int .i64 0, .int .i64 0, .int .i64 0, .int .i64 0, .int .i64 0, .int .i64 0, .int .i64 0, .int .i64 0, .int .i64 0, .int .i64 0, .int .i64 0, .int .i64 0, .int .i64 0, .int .i64 0, .int .i64 0, .int .i64 0, .int .i64 0, .int .i64 0, .int .i64 0, .int .i64 0, .int .i64 0, .int .i64 0, .int .i64 0, .int .i64 0, .int .i64 0, .int .i64 0, .int .i64 0, .int .i64 0, .int .i64 0, .int .i64 0, .int .i64 0, .int .i64 0, .int .i64 0, .int .i64 0, .int .i64 0, .int .i64 0, .int .i64 0, .int .i64 0, .int .i64 0, .int .i64 0, .int .i64 0, .int .i64 0, .int .i64 0, .int .i64 0, .int .i64 0, .int .i64 0, .int .i64 0, .int .i64 0, .int .i64 0, .int .i64 0, .int .i64 0, .int .i64 0, .int .i64 0, .int .i64 0, .int .i64 0, .int .i64 0, .int .i64 0, .int .i64 0, .int .i64 0, .int .i64 0, .int .i64 0, .int .i64 0, .int .i64 0, .int .i64 0, .int .i64 0, .int .i64 0, .int .i64 0, .int .i64 0, .int .i64 0, .int .i64 0, .int .i64 0, .int .i64 0, .int .i64 0, .int .i64 0, .int .i64 0, .int .i64 0, .int .i64 0, .int .i64 0, .int .i64 0, .int .i64 0, .int .i64 0, .int .i64 0, .int .i64 0, .int .i64 0, .int .i64 0, .int .i64 0, .int .i64 0, .int .i64 0, .int .i64 0, .int .i64 0, .int .i64 0, .int .i64 0, .int .i64 0, .int .i64 0, .int .i64 0, .int .i64 0]) ha (by kernel_rfl) (by kernel_rfl) ?_
            clear ha; intro a ha
            refine st_val (.bool true) ha (by kernel_rfl) (by kernel_rfl) ?_
            clear ha; intro a ha
            refine st_val (.bool true) ha (by kernel_rfl) (by kernel_rfl) ?_
            clear ha; intro a ha
            refine st_val (.pointer (some ⟨g1, 0, none⟩)) ha (by kernel_rfl) (by kernel_rfl) ?_
            clear ha; intro a ha
            refine st_call ha (by kernel_rfl) (by kernel_rfl) (len_to W _ w g1 (mqs []) (0) rfl s) ?_
            rintro _ w ⟨rfl, s⟩
            replace s : St W (Bag g1 (mqs []) :: .blk g2 [.int .i64 0, .int .i64 0, .int .i64 0, .int .i64 0, .int .i64 0, .int .i64 0, .int .i64 0, .int .i64 0, .int .i64 0, .int .i64 0, .int .i64 0, .int .i64 0, .int .i64 0, .int .i64 0, .int .i64 0, .int .i64 0, .int .i64 0, .int .i64 0, .int .i64 0, .int .i64 0, .int .i64 0, .int .i64 0, .int .i64 0, .int .i64 0, .int .i64 0, .int .i64 0, .int .i64 0, .int .i64 0, .int .i64 0, .int .i64 0, .int .i64 0, .int .i64 0, .int .i64 0, .int .i64 0, .int .i64 0, .int .i64 0, .int .i64 0, .int .i64 0, .int .i64 0, .int .i64 0, .int .i64 0, .int .i64 0, .int .i64 0, .int .i64 0, .int .i64 0, .int .i64 0, .int .i64 0, .int .i64 0, .int .i64 0, .int .i64 0, .int .i64 0, .int .i64 0, .int .i64 0, .int .i64 0, .int .i64 0, .int .i64 0, .int .i64 0, .int .i64 0, .int .i64 0, .int .i64 0, .int .i64 0, .int .i64 0, .int .i64 0, .int .i64 0, .int .i64 0, .int .i64 0, .int .i64 0, .int .i64 0, .int .i64 0, .int .i64 0, .int .i64 0, .int .i64 0, .int .i64 0, .int .i64 0, .int .i64 0, .int .i64 0, .int .i64 0, .int .i64 0, .int .i64 0, .int .i64 0, .int .i64 0, .int .i64 0, .int .i64 0, .int .i64 0, .int .i64 0, .int .i64 0, .int .i64 0, .int .i64 0, .int .i64 0, .int .i64 0, .int .i64 0, .int .i64 0, .int .i64 0, .int .i64 0, .int .i64 0, .int .i64 0, .int .i64 0, .int .i64 0, .int .i64 0, .int .i64 0, .int .i64 0, .int .i64 0, .int .i64 0, .int .i64 0, .int .i64 0, .int .i64 0, .int .i64 0, .int .i64 0, .int .i64 0, .int .i64 0, .int .i64 0, .int .i64 0, .int .i64 0, .int .i64 0, .int .i64 0, .int .i64 0, .int .i64 0, .int .i64 0, .int .i64 0, .int .i64 0, .int .i64 0, .int .i64 0, .int .i64 0, .int .i64 0, .int .i64 0, .int .i64 0, .int .i64 0, .int .i64 0, .int .i64 0, .int .i64 0, .int .i64 0, .int .i64 0, .int .i64 0, .int .i64 0, .int .i64 0, .int .i64 0, .int .i64 0, .int .i64 0, .int .i64 0, .int .i64 0, .int .i64 0, .int .i64 0, .int .i64 0, .int .i64 0, .int .i64 0, .int .i64 0, .int .i64 0, .int .i64 0, .int .i64 0, .int .i64 0, .int .i64 0, .int .i64 0, .int .i64 0, .int .i64 0, .int .i64 0, .int .i64 0, .int .i64 0, .int .i64 0, .int .i64 0, .int .i64 0, .int .i64 0, .int .i64 0, .int .i64 0, .int .i64 0, .int .i64 0, .int .i64 0, .int .i64 0, .int .i64 0, .int .i64 0, .int .i64 0, .int .i64 0, .int .i64 0, .int .i64 0, .int .i64 0, .int .i64 0, .int .i64 0, .int .i64 0, .int .i64 0, .int .i64 0, .int .i64 0, .int .i64 0, .int .i64 0, .int .i64 0, .int .i64 0, .int .i64 0, .int .i64 0, .int .i64 0, .int .i64 0, .int .i64 0, .int .i64 0, .int .i64 0, .int .i64 0, .int .i64 0, .int .i64 0, .int .i64 0, .int .i64 0, .int .i64 0, .int .i64 0, .int .i64 0, .int .i64 0] 44 :: L) w := s
            refine ⟨_, rfl, ?_⟩; clear ha; intro a ha
            refine st_val (.bool true) ha (by kernel_rfl) (by kernel_rfl) ?_
            clear ha; intro a ha
            refine st_val (.bool true) ha (by kernel_rfl) (by kernel_rfl) ?_
            clear ha; intro a ha
            refine st_val (.bool true) ha (by kernel_rfl) (by kernel_rfl) ?_
            clear ha; intro a ha
            refine wpList_nil ?_
            refine then_normal ?_
            refine wp_ret ?_
            refine ret_with (v := .bool true) ha (results_1 rfl ha (res_tmp (by kernel_rfl) (by kernel_rfl))) ?_
            replace s := s.tail.tail
            replace s : St W (L) w := s
            exact ⟨rfl, s⟩
    · rw [hb] at ha; replace hb : ¬ (((k : Nat) : Int) < ((n : Nat) : Int)) := of_decide_eq_false hb
      have ho := hp.2
      refine st_pass ha (by kernel_rfl) ?_
      clear ha; intro a ha
      refine st_pass ha (by kernel_rfl) ?_
      clear ha; intro a ha
      refine st_val (.bool false) ha (by kernel_rfl) (by kernel_rfl) ?_
      clear ha; intro a ha
      refine wpList_nil ?_
      refine then_normal ?_
      refine wp_false ha rfl (by kernel_rfl) ?_
      refine wp_exit ?_
      refine then_exit ?_
      refine then_exit ?_
      refine block_hit ?_
      refine then_normal ?_
      refine wp_seq ?_
      refine wp_block ?_
      refine wp_loopG (G := (List (Int × Nat))) (fun ps a w => Has a 199 [(3, .pointer (some ⟨g1, 0, none⟩)), (4, .pointer (some ⟨g2, 0, none⟩)), (5, .int .i64 ((ps.length : Nat) : Int))] ∧ St W (Bag g1 (mqs ps) :: .blk g2 (cnt ps) 44 :: L) w ∧ (Once ps 200)) (fun ps => ps.length) ps ?_ ?_
      · exact ⟨(Has.cons ha (by kernel_rfl) (by kernel_rfl) (Has.cons ha (by kernel_rfl) (by kernel_rfl) (Has.cons ha (by kernel_rfl) (by kernel_rfl) (Has.nil ha)))), s, ho.to200 (by omega)⟩
      · clear ha s; rintro ps a w ⟨ha, s, hp⟩
        refine wp_seq ?_
        refine wp_seq ?_
        refine wp_region_lit ?_
        refine st_val (.int .i64 ((ps.length : Nat) : Int)) ha (by kernel_rfl) (by kernel_rfl) ?_
        clear ha; intro a ha
        refine st_val (.bool (decide (((ps.length : Nat) : Int) > (0 : Int)))) ha (by kernel_rfl) (by kernel_rfl) ?_
        clear ha; intro a ha
        refine wpList_nil ?_
        refine then_normal ?_
        refine wp_part (decide (((ps.length : Nat) : Int) > (0 : Int))) ha rfl (by kernel_rfl) (fun hb => ?_) (fun hb => ?_)
        · rw [hb] at ha; replace hb : (((ps.length : Nat) : Int) > (0 : Int)) := of_decide_eq_true hb
          have ho := hp
          have hol := ho.len
          obtain ⟨p, hp_⟩ : ∃ p, ps[ps.length - 1]? = some p := ⟨_, List.getElem?_eq_getElem (by omega)⟩
          have hpm := ho.to p (List.mem_of_getElem? hp_)
          have hp4 := tmod4 ⟨hpm.1, hpm.2.1⟩
          have hc1 := cn_pos hp_
          have hc2 := cn_le ps p.2
          refine wp_skip ?_
          refine then_normal ?_
          refine wp_seq ?_
          refine wp_block ?_
          refine wp_seq ?_
          refine wp_region_lit ?_
          refine st_val (.pointer (some ⟨g1, 0, none⟩)) ha (by kernel_rfl) (by kernel_rfl) ?_
          clear ha; intro a ha
          refine st_val (.int .i64 ((ps.length : Nat) : Int)) ha (by kernel_rfl) (by kernel_rfl) ?_
          clear ha; intro a ha
          refine st_val (.int .i64 ((ps.length - 1 : Nat) : Int)) ha (by kernel_rfl) (run_arith (((ps.length : Nat) : Int) - (1 : Int)) ((ps.length - 1 : Nat) : Int) rfl (by kernel_rfl) (by kernel_rfl) (.inr (.inl ⟨rfl, rfl⟩)) (by rw [wrap64_in (by omega)]; try omega) _) ?_
          clear ha; intro a ha
          refine st_call ha (by kernel_rfl) (by kernel_rfl) (take_to W _ w g1 (mqs ps) (ps.length - 1) (1 + p.1.tmod 4) p.1 [((p.2 : Nat) : Int)] 1 (mqs (ps.eraseIdx (ps.length - 1))) (mqs_at hp_) rfl (mqs_erase ps (ps.length - 1)) (mqs_ok (by have := ho.len; omega)) s) ?_
          rintro _ w ⟨A28, c29, rfl, s⟩
          replace s : St W (Own 5 1 A28 1 c29 (u8s [((p.2 : Nat) : Int)]) :: Bag g1 (mqs (ps.eraseIdx (ps.length - 1))) :: .blk g2 (cnt ps) 44 :: L) w := s
          refine ⟨_, rfl, ?_⟩; clear ha; intro a ha
          refine st_val (.tuple #[.agg #[.int .i64 (1 + p.1.tmod 4), .int .i64 p.1, .slice A28 1 c29], .bool true]) ha (by kernel_rfl) (by kernel_rfl) ?_
          clear ha; intro a ha
          refine st_val (.agg #[.int .i64 (1 + p.1.tmod 4), .int .i64 p.1, .slice A28 1 c29]) ha (by kernel_rfl) (by kernel_rfl) ?_
          clear ha; intro a ha
          refine st_val (.bool true) ha (by kernel_rfl) (by kernel_rfl) ?_
          clear ha; intro a ha
          refine st_ex ha (by kernel_rfl) (ex_alloc [.int .i64 0, .int .i64 0, .slice none 0 0] s rfl (Try.zeroValue29 _) (by kernel_rfl)) ?_
          clear ha; rintro _ w a ⟨g30, rfl, s⟩ ha
          replace s : St W (.blk g30 [.int .i64 0, .int .i64 0, .slice none 0 0] 29 :: Own 5 1 A28 1 c29 (u8s [((p.2 : Nat) : Int)]) :: Bag g1 (mqs (ps.eraseIdx (ps.length - 1))) :: .blk g2 (cnt ps) 44 :: L) w := s
          refine st_exd ha (by kernel_rfl) (ex_store (of_ := 0) 0 [.int .i64 (1 + p.1.tmod 4), .int .i64 p.1, .slice A28 1 c29] s rfl rfl (by kernel_rfl) (by kernel_rfl) (Try.sizeOf29 _) rfl (by simp [Value.oneCell']) (Nat.le_of_ble_eq_true rfl)) ?_
          clear ha; rintro w a s ha
          replace s : St W (.blk g30 [.int .i64 (1 + p.1.tmod 4), .int .i64 p.1, .slice A28 1 c29] 29 :: Own 5 1 A28 1 c29 (u8s [((p.2 : Nat) : Int)]) :: Bag g1 (mqs (ps.eraseIdx (ps.length - 1))) :: .blk g2 (cnt ps) 44 :: L) w := s
          refine st_val (.bool true) ha (by kernel_rfl) (by kernel_rfl) ?_
          clear ha; intro a ha
          refine wpList_nil ?_
          refine then_normal ?_
          refine wp_seq ?_
          refine wp_seq ?_
          refine wp_region_lit ?_
          refine st_val (.bool true) ha (by kernel_rfl) (by kernel_rfl) ?_
          clear ha; intro a ha
          refine st_val (.bool false) ha (by kernel_rfl) (by kernel_rfl) ?_
          clear ha; intro a ha
          refine st_val (.bool false) ha (by kernel_rfl) (by kernel_rfl) ?_
          clear ha; intro a ha
          refine st_val (.agg #[.int .i64 (1 + p.1.tmod 4), .int .i64 p.1, .slice A28 1 c29]) ha (by kernel_rfl) (run_loadN (of_ := 0) [.int .i64 (1 + p.1.tmod 4), .int .i64 p.1, .slice A28 1 c29] (s.blkIs 0 rfl) rfl (by kernel_rfl) Try.isAgg29 Try.sizeOf29 rfl (Nat.le_of_ble_eq_true rfl)) ?_
          clear ha; intro a ha
          refine st_call ha (by kernel_rfl) (by kernel_rfl) (first_one W _ w (1 + p.1.tmod 4) p.1 A28 1 c29 ((p.2 : Nat) : Int) rfl (Knows.own (j := 1) rfl) s) ?_
          rintro _ w ⟨rfl, s⟩
          replace s : St W (.blk g30 [.int .i64 (1 + p.1.tmod 4), .int .i64 p.1, .slice A28 1 c29] 29 :: Own 5 1 A28 1 c29 (u8s [((p.2 : Nat) : Int)]) :: Bag g1 (mqs (ps.eraseIdx (ps.length - 1))) :: .blk g2 (cnt ps) 44 :: L) w := s
          refine ⟨_, rfl, ?_⟩; clear ha; intro a ha
          refine st_val (.int .i64 ((p.2 : Nat) : Int)) ha (by kernel_rfl) (run_conv (((p.2 : Nat) : Int)) rfl (by kernel_rfl) Try.underlying5 Try.underlying3 (wrap64_in (by omega)) _) ?_
          clear ha; intro a ha
          refine st_val (.bool false) ha (by kernel_rfl) (run_known (show (decide (((p.2 : Nat) : Int) ≥ (200 : Int))) = false from decide_eq_false (by omega)) (by kernel_rfl)) ?_
          clear ha; intro a ha
          refine st_val (.bool false) ha (by kernel_rfl) (by kernel_rfl) ?_
          clear ha; intro a ha
          refine wpList_nil ?_
          refine then_normal ?_
          refine wp_false ha rfl (by kernel_rfl) ?_
          refine wp_skip ?_
          refine then_normal ?_
          refine wp_region_lit ?_
          refine st_val (.agg #[.int .i64 (1 + p.1.tmod 4), .int .i64 p.1, .slice A28 1 c29]) ha (by kernel_rfl) (run_loadN (of_ := 0) [.int .i64 (1 + p.1.tmod 4), .int .i64 p.1, .slice A28 1 c29] (s.blkIs 0 rfl) rfl (by kernel_rfl) Try.isAgg29 Try.sizeOf29 rfl (Nat.le_of_ble_eq_true rfl)) ?_
          clear ha; intro a ha
          refine st_call ha (by kernel_rfl) (by kernel_rfl) (first_one W _ w (1 + p.1.tmod 4) p.1 A28 1 c29 ((p.2 : Nat) : Int) rfl (Knows.own (j := 1) rfl) s) ?_
          rintro _ w ⟨rfl, s⟩
          replace s : St W (.blk g30 [.int .i64 (1 + p.1.tmod 4), .int .i64 p.1, .slice A28 1 c29] 29 :: Own 5 1 A28 1 c29 (u8s [((p.2 : Nat) : Int)]) :: Bag g1 (mqs (ps.eraseIdx (ps.length - 1))) :: .blk g2 (cnt ps) 44 :: L) w := s
          refine ⟨_, rfl, ?_⟩; clear ha; intro a ha
          refine st_val (.pointer (some ⟨g2, p.2, none⟩)) ha (by kernel_rfl) (run_indexArr (kd := .u8) p.2 rfl Try.underlying44 Try.sizeOf3 (by kernel_rfl) (by kernel_rfl) rfl (by first | assumption | omega) _) ?_
          clear ha; intro a ha
          refine st_val (.int .i64 ((cn ps p.2 : Nat) : Int)) ha (by kernel_rfl) (run_load1 (of_ := p.2) (s.blkIs 3 rfl) rfl (by kernel_rfl) Try.isAgg3 (cnt_at ps (by omega))) ?_
          clear ha; intro a ha
          refine st_val (.int .i64 ((cn ps p.2 - 1 : Nat) : Int)) ha (by kernel_rfl) (run_arith (((cn ps p.2 : Nat) : Int) - (1 : Int)) ((cn ps p.2 - 1 : Nat) : Int) rfl (by kernel_rfl) (by kernel_rfl) (.inr (.inl ⟨rfl, rfl⟩)) (by rw [wrap64_in (by omega)]; try omega) _) ?_
          clear ha; intro a ha
          refine st_val (.pointer (some ⟨g2, p.2, none⟩)) ha (by kernel_rfl) (run_indexArr (kd := .u8) p.2 rfl Try.underlying44 Try.sizeOf3 (by kernel_rfl) (by kernel_rfl) rfl (by first | assumption | omega) _) ?_
          clear ha; intro a ha
          refine st_exd ha (by kernel_rfl) (ex_store_to (of_ := p.2) 3 [.int .i64 ((cn ps p.2 - 1 : Nat) : Int)] s (cnt_del hp_ (by omega)) rfl rfl (by kernel_rfl) (by kernel_rfl) (Try.sizeOf3 _) rfl (by simp [Value.oneCell']) (by rw [cnt_len]; simp only [List.length_cons, List.length_nil]; omega)) ?_
          clear ha; rintro w a s ha
          replace s : St W (.blk g30 [.int .i64 (1 + p.1.tmod 4), .int .i64 p.1, .slice A28 1 c29] 29 :: Own 5 1 A28 1 c29 (u8s [((p.2 : Nat) : Int)]) :: Bag g1 (mqs (ps.eraseIdx (ps.length - 1))) :: .blk g2 (cnt (ps.eraseIdx (ps.length - 1))) 44 :: L) w := s
          refine wpList_nil ?_
          refine block_normal ?_
          refine then_normal ?_
          refine wp_region_lit ?_
          refine st_val (.int .i64 ((ps.length : Nat) : Int)) ha (by kernel_rfl) (by kernel_rfl) ?_
          clear ha; intro a ha
          refine st_val (.int .i64 ((ps.length - 1 : Nat) : Int)) ha (by kernel_rfl) (run_arith (((ps.length : Nat) : Int) - (1 : Int)) ((ps.length - 1 : Nat) : Int) rfl (by kernel_rfl) (by kernel_rfl) (.inr (.inl ⟨rfl, rfl⟩)) (by rw [wrap64_in (by omega)]; try omega) _) ?_
          clear ha; intro a ha
          refine st_val (.int .i64 ((ps.length - 1 : Nat) : Int)) ha (by kernel_rfl) (by kernel_rfl) ?_
          clear ha; intro a ha
          refine wpList_nil ?_
          refine then_normal ?_
          replace s := s.at_ (j := 3) rfl
          replace s : St W (.blk g2 (cnt (ps.eraseIdx (ps.length - 1))) 44 :: .blk g30 [.int .i64 (1 + p.1.tmod 4), .int .i64 p.1, .slice A28 1 c29] 29 :: Own 5 1 A28 1 c29 (u8s [((p.2 : Nat) : Int)]) :: Bag g1 (mqs (ps.eraseIdx (ps.length - 1))) :: L) w := s
          replace s := s.at_ (j := 3) rfl
          replace s : St W (Bag g1 (mqs (ps.eraseIdx (ps.length - 1))) :: .blk g2 (cnt (ps.eraseIdx (ps.length - 1))) 44 :: .blk g30 [.int .i64 (1 + p.1.tmod 4), .int .i64 p.1, .slice A28 1 c29] 29 :: Own 5 1 A28 1 c29 (u8s [((p.2 : Nat) : Int)]) :: L) w := s
          replace s : St W (Bag g1 (mqs (ps.eraseIdx (ps.length - 1))) :: .blk g2 (cnt (ps.eraseIdx (ps.length - 1))) 44 :: L) w := St.mid (A := [Bag g1 (mqs (ps.eraseIdx (ps.length - 1))), .blk g2 (cnt (ps.eraseIdx (ps.length - 1))) 44]) (B := [.blk g30 [.int .i64 (1 + p.1.tmod 4), .int .i64 p.1, .slice A28 1 c29] 29, Own 5 1 A28 1 c29 (u8s [((p.2 : Nat) : Int)])]) s
          rw [show ps.length - 1 = (ps.eraseIdx (ps.length - 1)).length from by rw [List.length_eraseIdx_of_lt (by omega)]] at ha
          exact ⟨ps.eraseIdx (ps.length - 1), by rw [List.length_eraseIdx_of_lt (by omega)]; omega, (Has.cons ha (by kernel_rfl) (by kernel_rfl) (Has.cons ha (by kernel_rfl) (by kernel_rfl) (Has.cons ha (by kernel_rfl) (by kernel_rfl) (Has.nil ha)))), s, ho.erase _⟩
        · rw [hb] at ha; replace hb : ¬ (((ps.length : Nat) : Int) > (0 : Int)) := of_decide_eq_false hb
          have ho := hp
          obtain rfl : ps = [] := List.eq_nil_of_length_eq_zero (by omega)
          rw [show cnt [] = [.int .i64 0, .int .i64 0, .int .i64 0, .int .i64 0, .int .i64 0, .int .i64 0, .int .i64 0, .int .i64 0, .int .i64 0, .int .i64 0, .int .i64 0, .int .i64 0, .int .i64 0, .int .i64 0, .int .i64 0, .int .i64 0, .int .i64 0, .int .i64 0, .int .i64 0, .int .i64 0, .int .i64 0, .int .i64 0, .int .i64 0, .int .i64 0, .int .i64 0, .int .i64 0, .int .i64 0, .int .i64 0, .int .i64 0, .int .i64 0, .int .i64 0, .int .i64 0, .int .i64 0, .int .i64 0, .int .i64 0, .int .i64 0, .int .i64 0, .int .i64 0, .int .i64 0, .int .i64 0, .int .i64 0, .int .i64 0, .int .i64 0, .int .i64 0, .int .i64 0, .int .i64 0, .int .i64 0, .int .i64 0, .int .i64 0, .int .i64 0, .int .i64 0, .int .i64 0, .int .i64 0, .int .i64 0, .int .i64 0, .int .i64 0, .int .i64 0, .int .i64 0, .int .i64 0, .int .i64 0, .int .i64 0, .int .i64 0, .int .i64 0, .int .i64 0, .int .i64 0, .int .i64 0, .int .i64 0, .int .i64 0, .int .i64 0, .int .i64 0, .int .i64 0, .int .i64 0, .int .i64 0, .int .i64 0, .int .i64 0, .int .i64 0, .int .i64 0, .int .i64 0, .int .i64 0, .int .i64 0, .int .i64 0, .int .i64 0, .int .i64 0, .int .i64 0, .int .i64 0, .int .i64 0, .int .i64 0, .int .i64 0, .int .i64 0, .int .i64 0, .int .i64 0, .int .i64 0, .int .i64 0, .int .i64 0, .int .i64 0, .int .i64 0, .int .i64 0, .int .i64 0, .int .i64 0, .int .i64 0, .int .i64 0, .int .i64 0, .int .i64 0, .int .i64 0, .int .i64 0, .int .i64 0, .int .i64 0, .int .i64 0, .int .i64 0, .int .i64 0, .int .i64 0, .int .i64 0, .int .i64 0, .int .i64 0, .int .i64 0, .int .i64 0, .int .i64 0, .int .i64 0, .int .i64 0, .int .i64 0, .int .i64 0, .int .i64 0, .int .i64 0, .int .i64 0, .int .i64 0, .int .i64 0, .int .i64 0, .int .i64 0, .int .i64 0, .int .i64 0, .int .i64 0, .int .i64 0, .int .i64 0, .int .i64 0, .int .i64 0, .int .i64 0, .int .i64 0, .int .i64 0, .int .i64 0, .int .i64 0, .int .i64 0, .int .i64 0, .int .i64 0, .int .i64 0, .int .i64 0, .int .i64 0, .int .i64 0, .int .i64 0, .int .i64 0, .int .i64 0, .int .i64 0, .int .i64 0, .int .i64 0, .int .i64 0, .int .i64 0, .int .i64 0, .int .i64 0, .int .i64 0, .int .i64 0, .int .i64 0, .int .i64 0, .int .i64 0, .int .i64 0, .int .i64 0, .int .i64 0, .int .i64 0, .int .i64 0, .int .i64 0, .int .i64 0, .int .i64 0, .int .i64 0, .int .i64 0, .int .i64 0, .int .i64 0, .int .i64 0, .int .i64 0, .int .i64 0, .int .i64 0, .int .i64 0, .int .i64 0, .int .i64 0, .int .i64 0, .int .i64 0, .int .i64 0, .int .i64 0, .int .i64 0, .int .i64 0, .int .i64 0, .int .i64 0, .int .i64 0, .int .i64 0, .int .i64 0, .int .i64 0, .int .i64 0, .int .i64 0, .int .i64 0, .int .i64 0, .int .i64 0, .int .i64 0, .int .i64 0] from by kernel_rfl] at s
          refine wp_exit ?_
          refine then_exit ?_
          refine then_exit ?_
          refine block_hit ?_
          refine then_normal ?_
          refine wp_seq ?_
          refine wp_region_lit ?_
          refine st_val (.agg #[.int .i64 0, .int .i64 0, .int .i64 0, .int .i64 0, .int .i64 0, .int .i64 0, .int .i64 0, .int .i64 0, .int .i64 0, .int .i64 0, .int .i64 0, .int .i64 0, .int .i64 0, .int .i64 0, .int .i64 0, .int .i64 0, .int .i64 0, .int .i64 0, .int .i64 0, .int .i64 0, .int .i64 0, .int .i64 0, .int .i64 0, .int .i64 0, .int .i64 0, .int .i64 0, .int .i64 0, .int .i64 0, .int .i64 0, .int .i64 0, .int .i64 0, .int .i64 0, .int .i64 0, .int .i64 0, .int .i64 0, .int .i64 0, .int .i64 0, .int .i64 0, .int .i64 0, .int .i64 0, .int .i64 0, .int .i64 0, .int .i64 0, .int .i64 0, .int .i64 0, .int .i64 0, .int .i64 0, .int .i64 0, .int .i64 0, .int .i64 0, .int .i64 0, .int .i64 0, .int .i64 0, .int .i64 0, .int .i64 0, .int .i64 0, .int .i64 0, .int .i64 0, .int .i64 0, .int .i64 0, .int .i64 0, .int .i64 0, .int .i64 0, .int .i64 0, .int .i64 0, .int .i64 0, .int .i64 0, .int .i64 0, .int .i64 0, .int .i64 0, .int .i64 0, .int .i64 0, .int .i64 0, .int .i64 0, .int .i64 0, .int .i64 0, .int .i64 0, .int .i64 0, .int .i64 0, .int .i64 0, .int .i64 0, .int .i64 0, .int .i64 0, .int .i64 0, .int .i64 0, .int .i64 0, .int .i64 0, .int .i64 0, .int .i64 0, .int .i64 0, .int .i64 0, .int .i64 0, .int .i64 0, .int .i64 0, .int .i64 0, .int .i64 0, .int .i64 0, .int .i64 0, .int .i64 0, .int .i64 0, .int .i64 0, .int .i64 0, .int .i64 0, .int .i64 0, .int .i64 0, .int .i64 0, .int .i64 0, .int .i64 0, .int .i64 0, .int .i64 0, .int .i64 0, .int .i64 0, .int .i64 0, .int .i64 0, .int .i64 0, .int .i64 0, .int .i64 0, .int .i64 0, .int .i64 0, .int .i64 0, .int .i64 0, .int .i64 0, .int .i64 0, .int .i64 0, .int .i64 0, .int .i64 0, .int .i64 0, .int .i64 0, .int .i64 0, .int .i64 0, .int .i64 0, .int .i64 0, .int .i64 0, .int .i64 0, .int .i64 0, .int .i64 0, .int .i64 0, .int .i64 0, .int .i64 0, .int .i64 0, .int .i64 0, .int .i64 0, .int .i64 0, .int .i64 0, .int .i64 0, .int .i64 0, .int .i64 0, .int .i64 0, .int .i64 0, .int .i64 0, .int .i64 0, .int .i64 0, .int .i64 0, .int .i64 0, .int .i64 0, .int .i64 0, .int .i64 0, .int .i64 0, .int .i64 0, .int .i64 0, .int .i64 0, .int .i64 0, .int .i64 0, .int .i64 0, .int .i64 0, .int .i64 0, .int .i64 0, .int .i64 0, .int .i64 0, .int .i64 0, .int .i64 0, .int .i64 0, .int .i64 0, .int .i64 0, .int .i64 0, .int .i64 0, .int .i64 0, .int .i64 0, .int .i64 0, .int .i64 0, .int .i64 0, .int .i64 0, .int .i64 0, .int .i64 0, .int .i64 0, .int .i64 0, .int .i64 0, .int .i64 0, .int .i64 0, .int .i64 0, .int .i64 0, .int .i64 0, .int .i64 0, .int .i64 0, .int .i64 0, .int .i64 0, .int .i64 0, .int .i64 0, .int .i64 0, .int .i64 0]) ha (by kernel_rfl) (run_loadN (of_ := 0) [.int .i64 0, .int .i64 0, .int .i64 0, .int .i64 0, .int .i64 0, .int .i64 0, .int .i64 0, .int .i64 0, .int .i64 0, .int .i64 0, .int .i64 0, .int .i64 0, .int .i64 0, .int .i64 0, .int .i64 0, .int .i64 0, .int .i64 0, .int .i64 0, .int .i64 0, .int .i64 0, .int .i64 0, .int .i64 0, .int .i64 0, .int .i64 0, .int .i64 0, .int .i64 0, .int .i64 0, .int .i64 0, .int .i64 0, .int .i64 0, .int .i64 0, .int .i64 0, .int .i64 0, .int .i64 0, .int .i64 0, .int .i64 0, .int .i64 0, .int .i64 0, .int .i64 0, .int .i64 0, .int .i64 0, .int .i64 0, .int .i64 0, .int .i64 0, .int .i64 0, .int .i64 0, .int .i64 0, .int .i64 0, .int .i64 0, .int .i64 0, .int .i64 0, .int .i64 0, .int .i64 0, .int .i64 0, .int .i64 0, .int .i64 0, .int .i64 0, .int .i64 0, .int .i64 0, .int .i64 0, .int .i64 0, .int .i64 0, .int .i64 0, .int .i64 0, .int .i64 0, .int .i64 0, .int .i64 0, .int .i64 0, .int .i64 0, .int .i64 0, .int .i64 0, .int .i64 0, .int .i64 0, .int .i64 0, .int .i64 0, .int .i64 0, .int .i64 0, .int .i64 0, .int .i64 0, .int .i64 0, .int .i64 0, .int .i64 0, .int .i64 0, .int .i64 0, .int .i64 0, .int .i64 0, .int .i64 0, .int .i64 0, .int .i64 0, .int .i64 0, .int .i64 0, .int .i64 0, .int .i64 0, .int .i64 0, .int .i64 0, .int .i64 0, .int .i64 0, .int .i64 0, .int .i64 0, .int .i64 0, .int .i64 0, .int .i64 0, .int .i64 0, .int .i64 0, .int .i64 0, .int .i64 0, .int .i64 0, .int .i64 0, .int .i64 0, .int .i64 0, .int .i64 0, .int .i64 0, .int .i64 0, .int .i64 0, .int .i64 0, .int .i64 0, .int .i64 0, .int .i64 0, .int .i64 0, .int .i64 0, .int .i64 0, .int .i64 0, .int .i64 0, .int .i64 0, .int .i64 0, .int .i64 0, .int .i64 0, .int .i64 0, .int .i64 0, .int .i64 0, .int .i64 0, .int .i64 0, .int .i64 0, .int .i64 0, .int .i64 0, .int .i64 0, .int .i64 0, .int .i64 0, .int .i64 0, .int .i64 0, .int .i64 0, .int .i64 0, .int .i64 0, .int .i64 0, .int .i64 0, .int .i64 0, .int .i64 0, .int .i64 0, .int .i64 0, .int .i64 0, .int .i64 0, .int .i64 0, .int .i64 0, .int .i64 0, .int .i64 0, .int .i64 0, .int .i64 0, .int .i64 0, .int .i64 0, .int .i64 0, .int .i64 0, .int .i64 0, .int .i64 0, .int .i64 0, .int .i64 0, .int .i64 0, .int .i64 0, .int .i64 0, .int .i64 0, .int .i64 0, .int .i64 0, .int .i64 0, .int .i64 0, .int .i64 0, .int .i64 0, .int .i64 0, .int .i64 0, .int .i64 0, .int .i64 0, .int .i64 0, .int .i64 0, .int .i64 0, .int .i64 0, .int .i64 0, .int .i64 0, .int .i64 0, .int .i64 0, .int .i64 0, .int .i64 0, .int .i64 0, .int .i64 0, .int .i64 0, .int .i64 0, .int .i64 0, .int .i64 0, .int .i64 0, .int .i64 0, .int .i64 0, .int .i64 0, .int .i64 0] (s.blkIs 1 rfl) rfl (by kernel_rfl) Try.isAgg44 Try.sizeOf44 rfl (Nat.le_of_ble_eq_true rfl)) ?_
          clear ha; intro a ha
          refine st_val (.agg #[.int .i64 0, .int .i64 0, .int .i64 0, .int .i64 0, .int .i64 0, .int .i64 0, .int .i64 0, .int .i64 0, .int .i64 0, .int .i64 0, .int .i64 0, .int .i64 0, .int .i64 0, .int .i64 0, .int .i64 0, .int .i64 0, .int .i64 0, .int .i64 0, .int .i64 0, .int .i64 0, .int .i64 0, .int .i64 0, .int .i64 0, .int .i64 0, .int .i64 0, .int .i64 0, .int .i64 0, .int .i64 0, .int .i64 0, .int .i64 0, .int .i64 0, .int .i64 0, .int .i64 0, .int .i64 0, .int .i64 0, .int .i64 0, .int .i64 0, .int .i64 0, .int .i64 0, .int .i64 0, .int .i64 0, .int .i64 0, .int .i64 0, .int .i64 0, .int .i64 0, .int .i64 0, .int .i64 0, .int .i64 0, .int .i64 0, .int .i64 0, .int .i64 0, .int .i64 0, .int .i64 0, .int .i64 0, .int .i64 0, .int .i64 0, .int .i64 0, .int .i64 0, .int .i64 0, .int .i64 0, .int .i64 0, .int .i64 0, .int .i64 0, .int .i64 0, .int .i64 0, .int .i64 0, .int .i64 0, .int .i64 0, .int .i64 0, .int .i64 0, .int .i64 0, .int .i64 0, .int .i64 0, .int .i64 0, .int .i64 0, .int .i64 0, .int .i64 0, .int .i64 0, .int .i64 0, .int .i64 0, .int .i64 0, .int .i64 0, .int .i64 0, .int .i64 0, .int .i64 0, .int .i64 0, .int .i64 0, .int .i64 0, .int .i64 0, .int .i64 0, .int .i64 0, .int .i64 0, .int .i64 0, .int .i64 0, .int .i64 0, .int .i64 0, .int .i64 0, .int .i64 0, .int .i64 0, .int .i64 0, .int .i64 0, .int .i64 0, .int .i64 0, .int .i64 0, .int .i64 0, .int .i64 0, .int .i64 0, .int .i64 0, .int .i64 0, .int .i64 0, .int .i64 0, .int .i64 0, .int .i64 0, .int .i64 0, .int .i64 0, .int .i64 0, .int .i64 0, .int .i64 0, .int .i64 0, .int .i64 0, .int .i64 0, .int .i64 0, .int .i64 0, .int .i64 0, .int .i64 0, .int .i64 0, .int .i64 0, .int .i64 0, .int .i64 0, .int .i64 0, .int .i64 0, .int .i64 0, .int .i64 0, .int .i64 0, .int .i64 0, .int .i64 0, .int .i64 0, .int .i64 0, .int .i64 0, .int .i64 0, .int .i64 0, .int .i64 0, .int .i64 0, .int .i64 0, .int .i64 0, .int .i64 0, .int .i64 0, .int .i64 0, .int .i64 0, .int .i64 0, .int .i64 0, .int .i64 0, .int .i64 0, .int .i64 0, .int .i64 0, .int .i64 0, .int .i64 0, .int .i64 0, .int .i64 0, .int .i64 0, .int .i64 0, .int .i64 0, .int .i64 0, .int .i64 0, .int .i64 0, .int .i64 0, .int .i64 0, .int .i64 0, .int .i64 0, .int .i64 0, .int .i64 0, .int .i64 0, .int .i64 0, .int .i64 0, .int .i64 0, .int .i64 0, .int .i64 0, .int .i64 0, .int .i64 0, .int .i64 0, .int .i64 0, .int .i64 0, .int .i64 0, .int .i64 0, .int .i64 0, .int .i64 0, .int .i64 0, .int .i64 0, .int .i64 0, .int .i64 0, .int .i64 0, .int .i64 0, .int .i64 0, .int .i64 0, .int .i64 0, .int .i64 0, .int .i64 0, .int .i64 0, .int .i64 0, .int .i64 0]) ha (by kernel_rfl) (by kernel_rfl) ?_
          clear ha; intro a ha
          refine st_val (.bool true) ha (by kernel_rfl) (by kernel_rfl) ?_
          clear ha; intro a ha
          refine st_val (.bool true) ha (by kernel_rfl) (by kernel_rfl) ?_
          clear ha; intro a ha
          refine st_val (.pointer (some ⟨g1, 0, none⟩)) ha (by kernel_rfl) (by kernel_rfl) ?_
          clear ha; intro a ha
          refine st_call ha (by kernel_rfl) (by kernel_rfl) (len_to W _ w g1 (mqs []) (0) rfl s) ?_
          rintro _ w ⟨rfl, s⟩
          replace s : St W (Bag g1 (mqs []) :: .blk g2 [.int .i64 0, .int .i64 0, .int .i64 0, .int .i64 0, .int .i64 0, .int .i64 0, .int .i64 0, .int .i64 0, .int .i64 0, .int .i64 0, .int .i64 0, .int .i64 0, .int .i64 0, .int .i64 0, .int .i64 0, .int .i64 0, .int .i64 0, .int .i64 0, .int .i64 0, .int .i64 0, .int .i64 0, .int .i64 0, .int .i64 0, .int .i64 0, .int .i64 0, .int .i64 0, .int .i64 0, .int .i64 0, .int .i64 0, .int .i64 0, .int .i64 0, .int .i64 0, .int .i64 0, .int .i64 0, .int .i64 0, .int .i64 0, .int .i64 0, .int .i64 0, .int .i64 0, .int .i64 0, .int .i64 0, .int .i64 0, .int .i64 0, .int .i64 0, .int .i64 0, .int .i64 0, .int .i64 0, .int .i64 0, .int .i64 0, .int .i64 0, .int .i64 0, .int .i64 0, .int .i64 0, .int .i64 0, .int .i64 0, .int .i64 0, .int .i64 0, .int .i64 0, .int .i64 0, .int .i64 0, .int .i64 0, .int .i64 0, .int .i64 0, .int .i64 0, .int .i64 0, .int .i64 0, .int .i64 0, .int .i64 0, .int .i64 0, .int .i64 0, .int .i64 0, .int .i64 0, .int .i64 0, .int .i64 0, .int .i64 0, .int .i64 0, .int .i64 0, .int .i64 0, .int .i64 0, .int .i64 0, .int .i64 0, .int .i64 0, .int .i64 0, .int .i64 0, .int .i64 0, .int .i64 0, .int .i64 0, .int .i64 0, .int .i64 0, .int .i64 0, .int .i64 0, .int .i64 0, .int .i64 0, .int .i64 0, .int .i64 0, .int .i64 0, .int .i64 0, .int .i64 0, .int .i64 0, .int .i64 0, .int .i64 0, .int .i64 0, .int .i64 0, .int .i64 0, .int .i64 0, .int .i64 0, .int .i64 0, .int .i64 0, .int .i64 0, .int .i64 0, .int .i64 0, .int .i64 0, .int .i64 0, .int .i64 0, .int .i64 0, .int .i64 0, .int .i64 0, .int .i64 0, .int .i64 0, .int .i64 0, .int .i64 0, .int .i64 0, .int .i64 0, .int .i64 0, .int .i64 0, .int .i64 0, .int .i64 0, .int .i64 0, .int .i64 0, .int .i64 0, .int .i64 0, .int .i64 0, .int .i64 0, .int .i64 0, .int .i64 0, .int .i64 0, .int .i64 0, .int .i64 0, .int .i64 0, .int .i64 0, .int .i64 0, .int .i64 0, .int .i64 0, .int .i64 0, .int .i64 0, .int .i64 0, .int .i64 0, .int .i64 0, .int .i64 0, .int .i64 0, .int .i64 0, .int .i64 0, .int .i64 0, .int .i64 0, .int .i64 0, .int .i64 0, .int .i64 0, .int .i64 0, .int .i64 0, .int .i64 0, .int .i64 0, .int .i64 0, .int .i64 0, .int .i64 0, .int .i64 0, .int .i64 0, .int .i64 0, .int .i64 0, .int .i64 0, .int .i64 0, .int .i64 0, .int .i64 0, .int .i64 0, .int .i64 0, .int .i64 0, .int .i64 0, .int .i64 0, .int .i64 0, .int .i64 0, .int .i64 0, .int .i64 0, .int .i64 0, .int .i64 0, .int .i64 0, .int .i64 0, .int .i64 0, .int .i64 0, .int .i64 0, .int .i64 0, .int .i64 0, .int .i64 0, .int .i64 0, .int .i64 0, .int .i64 0, .int .i64 0, .int .i64 0, .int .i64 0, .int .i64 0, .int .i64 0, .int .i64 0] 44 :: L) w := s
          refine ⟨_, rfl, ?_⟩; clear ha; intro a ha
          refine st_val (.bool true) ha (by kernel_rfl) (by kernel_rfl) ?_
          clear ha; intro a ha
          refine st_val (.bool true) ha (by kernel_rfl) (by kernel_rfl) ?_
          clear ha; intro a ha
          refine st_val (.bool true) ha (by kernel_rfl) (by kernel_rfl) ?_
          clear ha; intro a ha
          refine wpList_nil ?_
          refine then_normal ?_
          refine wp_ret ?_
          refine ret_with (v := .bool true) ha (results_1 rfl ha (res_tmp (by kernel_rfl) (by kernel_rfl))) ?_
          replace s := s.tail.tail
          replace s : St W (L) w := s
          exact ⟨rfl, s⟩

set_option maxRecDepth 100000 in
theorem bagOnce_zero (W : World) (L : List Chunk) (w : World) (A : Option Addr) (c : Nat) (s : St W L w) :
    Calls Try.prog 4 #[.slice A 0 c] w fun e w' => e = .returned (.bool true) ∧ St W L w' := by
  refine enter_args (l := [.slice A 0 c]) Try.func4 rfl rfl (Nat.le_of_ble_eq_true rfl) ?_
  intro a ha; replace ha : Has a 199 [(0, .slice A 0 c)] := ha
  refine wp_seq ?_
  refine wp_region_lit ?_
  refine st_val (.bool false) ha (by kernel_rfl) (by kernel_rfl) ?_
  clear ha; intro a ha
  refine wpList_nil ?_
  refine then_normal ?_
  refine wp_seq ?_
  refine wp_seq ?_
  refine wp_region_lit ?_
  refine st_call ha (by kernel_rfl) (by kernel_rfl) (works_true W _ w s) ?_
  rintro _ w ⟨rfl, s⟩
  replace s : St W (L) w := s
  refine ⟨_, rfl, ?_⟩; clear ha; intro a ha
  refine st_val (.bool false) ha (by kernel_rfl) (by kernel_rfl) ?_
  clear ha; intro a ha
  refine wpList_nil ?_
  refine then_normal ?_
  refine wp_false ha rfl (by kernel_rfl) ?_
  refine wp_skip ?_
  refine then_normal ?_
  refine wp_seq ?_
  refine wp_region_lit ?_
  refine st_call ha (by kernel_rfl) (by kernel_rfl) (new_bag W _ w s) ?_
  rintro _ w ⟨g1, rfl, s⟩
  replace s : St W (Bag g1 [] :: L) w := s
  refine ⟨_, rfl, ?_⟩; clear ha; intro a ha
  refine st_val (.pointer (some ⟨g1, 0, none⟩)) ha (by kernel_rfl) (by kernel_rfl) ?_
  clear ha; intro a ha
  refine wpList_nil ?_
  refine then_normal ?_
  refine wp_seq ?_
  refine wp_region_lit ?_
  refine st_ex ha (by kernel_rfl) (ex_alloc [.int .i64 0, .int .i64 0, .int .i64 0, .int .i64 0, .int .i64 0, .int .i64 0, .int .i64 0, .int .i64 0, .int .i64 0, .int .i64 0, .int .i64 0, .int .i64 0, .int .i64 0, .int .i64 0, .int .i64 0, .int .i64 0, .int .i64 0, .int .i64 0, .int .i64 0, .int .i64 0, .int .i64 0, .int .i64 0, .int .i64 0, .int .i64 0, .int .i64 0, .int .i64 0, .int .i64 0, .int .i64 0, .int .i64 0, .int .i64 0, .int .i64 0, .int .i64 0, .int .i64 0, .int .i64 0, .int .i64 0, .int .i64 0, .int .i64 0, .int .i64 0, .int .i64 0, .int .i64 0, .int .i64 0, .int .i64 0, .int .i64 0, .int .i64 0, .int .i64 0, .int .i64 0, .int .i64 0, .int .i64 0, .int .i64 0, .int .i64 0, .int .i64 0, .int .i64 0, .int .i64 0, .int .i64 0, .int .i64 0, .int .i64 0, .int .i64 0, .int .i64 0, .int .i64 0, .int .i64 0, .int .i64 0, .int .i64 0, .int .i64 0, .int .i64 0, .int .i64 0, .int .i64 0, .int .i64 0, .int .i64 0, .int .i64 0, .int .i64 0, .int .i64 0, .int .i64 0, .int .i64 0, .int .i64 0, .int .i64 0, .int .i64 0, .int .i64 0, .int .i64 0, .int .i64 0, .int .i64 0, .int .i64 0, .int .i64 0, .int .i64 0, .int .i64 0, .int .i64 0, .int .i64 0, .int .i64 0, .int .i64 0, .int .i64 0, .int .i64 0, .int .i64 0, .int .i64 0, .int .i64 0, .int .i64 0, .int .i64 0, .int .i64 0, .int .i64 0, .int .i64 0, .int .i64 0, .int .i64 0, .int .i64 0, .int .i64 0, .int .i64 0, .int .i64 0, .int .i64 0, .int .i64 0, .int .i64 0, .int .i64 0, .int .i64 0, .int .i64 0, .int .i64 0, .int .i64 0, .int .i64 0, .int .i64 0, .int .i64 0, .int .i64 0, .int .i64 0, .int .i64 0, .int .i64 0, .int .i64 0, .int .i64 0, .int .i64 0, .int .i64 0, .int .i64 0, .int .i64 0, .int .i64 0, .int .i64 0, .int .i64 0, .int .i64 0, .int .i64 0, .int .i64 0, .int .i64 0, .int .i64 0, .int .i64 0, .int .i64 0, .int .i64 0, .int .i64 0, .int .i64 0, .int .i64 0, .int .i64 0, .int .i64 0, .int .i64 0, .int .i64 0, .int .i64 0, .int .i64 0, .int .i64 0, .int .i64 0, .int .i64 0, .int .i64 0, .int .i64 0, .int .i64 0, .int .i64 0, .int .i64 0, .int .i64 0, .int .i64 0, .int .i64 0, .int .i64 0, .int .i64 0, .int .i64 0, .int .i64 0, .int .i64 0, .int .i64 0, .int .i64 0, .int .i64 0, .int .i64 0, .int .i64 0, .int .i64 0, .int .i64 0, .int .i64 0, .int .i64 0, .int .i64 0, .int .i64 0, .int .i64 0, .int .i64 0, .int .i64 0, .int .i64 0, .int .i64 0, .int .i64 0, .int .i64 0, .int .i64 0, .int .i64 0, .int .i64 0, .int .i64 0, .int .i64 0, .int .i64 0, .int .i64 0, .int .i64 0, .int .i64 0, .int .i64 0, .int .i64 0, .int .i64 0, .int .i64 0, .int .i64 0, .int .i64 0, .int .i64 0, .int .i64 0, .int .i64 0, .int .i64 0, .int .i64 0, .int .i64 0] s rfl (Try.zeroValue44 _) (by kernel_rfl)) ?_
  clear ha; rintro _ w a ⟨g2, rfl, s⟩ ha
  replace s : St W (.blk g2 [.int .i64 0, .int .i64 0, .int .i64 0, .int .i64 0, .int .i64 0, .int .i64 0, .int .i64 0, .int .i64 0, .int .i64 0, .int .i64 0, .int .i64 0, .int .i64 0, .int .i64 0, .int .i64 0, .int .i64 0, .int .i64 0, .int .i64 0, .int .i64 0, .int .i64 0, .int .i64 0, .int .i64 0, .int .i64 0, .int .i64 0, .int .i64 0, .int .i64 0, .int .i64 0, .int .i64 0, .int .i64 0, .int .i64 0, .int .i64 0, .int .i64 0, .int .i64 0, .int .i64 0, .int .i64 0, .int .i64 0, .int .i64 0, .int .i64 0, .int .i64 0, .int .i64 0, .int .i64 0, .int .i64 0, .int .i64 0, .int .i64 0, .int .i64 0, .int .i64 0, .int .i64 0, .int .i64 0, .int .i64 0, .int .i64 0, .int .i64 0, .int .i64 0, .int .i64 0, .int .i64 0, .int .i64 0, .int .i64 0, .int .i64 0, .int .i64 0, .int .i64 0, .int .i64 0, .int .i64 0, .int .i64 0, .int .i64 0, .int .i64 0, .int .i64 0, .int .i64 0, .int .i64 0, .int .i64 0, .int .i64 0, .int .i64 0, .int .i64 0, .int .i64 0, .int .i64 0, .int .i64 0, .int .i64 0, .int .i64 0, .int .i64 0, .int .i64 0, .int .i64 0, .int .i64 0, .int .i64 0, .int .i64 0, .int .i64 0, .int .i64 0, .int .i64 0, .int .i64 0, .int .i64 0, .int .i64 0, .int .i64 0, .int .i64 0, .int .i64 0, .int .i64 0, .int .i64 0, .int .i64 0, .int .i64 0, .int .i64 0, .int .i64 0, .int .i64 0, .int .i64 0, .int .i64 0, .int .i64 0, .int .i64 0, .int .i64 0, .int .i64 0, .int .i64 0, .int .i64 0, .int .i64 0, .int .i64 0, .int .i64 0, .int .i64 0, .int .i64 0, .int .i64 0, .int .i64 0, .int .i64 0, .int .i64 0, .int .i64 0, .int .i64 0, .int .i64 0, .int .i64 0, .int .i64 0, .int .i64 0, .int .i64 0, .int .i64 0, .int .i64 0, .int .i64 0, .int .i64 0, .int .i64 0, .int .i64 0, .int .i64 0, .int .i64 0, .int .i64 0, .int .i64 0, .int .i64 0, .int .i64 0, .int .i64 0, .int .i64 0, .int .i64 0, .int .i64 0, .int .i64 0, .int .i64 0, .int .i64 0, .int .i64 0, .int .i64 0, .int .i64 0, .int .i64 0, .int .i64 0, .int .i64 0, .int .i64 0, .int .i64 0, .int .i64 0, .int .i64 0, .int .i64 0, .int .i64 0, .int .i64 0, .int .i64 0, .int .i64 0, .int .i64 0, .int .i64 0, .int .i64 0, .int .i64 0, .int .i64 0, .int .i64 0, .int .i64 0, .int .i64 0, .int .i64 0, .int .i64 0, .int .i64 0, .int .i64 0, .int .i64 0, .int .i64 0, .int .i64 0, .int .i64 0, .int .i64 0, .int .i64 0, .int .i64 0, .int .i64 0, .int .i64 0, .int .i64 0, .int .i64 0, .int .i64 0, .int .i64 0, .int .i64 0, .int .i64 0, .int .i64 0, .int .i64 0, .int .i64 0, .int .i64 0, .int .i64 0, .int .i64 0, .int .i64 0, .int .i64 0, .int .i64 0, .int .i64 0, .int .i64 0, .int .i64 0, .int .i64 0, .int .i64 0, .int .i64 0, .int .i64 0, .int .i64 0, .int .i64 0] 44 :: Bag g1 [] :: L) w := s
  refine wpList_nil ?_
  refine then_normal ?_
  refine wp_seq ?_
  refine wp_region_lit ?_
  refine st_val (.int .i64 0) ha (by kernel_rfl) (by kernel_rfl) ?_
  clear ha; intro a ha
  refine wpList_nil ?_
  refine then_normal ?_
  refine wp_seq ?_
  refine wp_seq ?_
  refine wp_region_lit ?_
  refine st_val (.int .i64 0) ha (by kernel_rfl) (by kernel_rfl) ?_
  clear ha; intro a ha
  refine wpList_nil ?_
  refine then_normal ?_
  refine wp_block ?_
  replace s := s.at_ (j := 1) rfl
  replace s : St W (Bag g1 [] :: .blk g2 [.int .i64 0, .int .i64 0, .int .i64 0, .int .i64 0, .int .i64 0, .int .i64 0, .int .i64 0, .int .i64 0, .int .i64 0, .int .i64 0, .int .i64 0, .int .i64 0, .int .i64 0, .int .i64 0, .int .i64 0, .int .i64 0, .int .i64 0, .int .i64 0, .int .i64 0, .int .i64 0, .int .i64 0, .int .i64 0, .int .i64 0, .int .i64 0, .int .i64 0, .int .i64 0, .int .i64 0, .int .i64 0, .int .i64 0, .int .i64 0, .int .i64 0, .int .i64 0, .int .i64 0, .int .i64 0, .int .i64 0, .int .i64 0, .int .i64 0, .int .i64 0, .int .i64 0, .int .i64 0, .int .i64 0, .int .i64 0, .int .i64 0, .int .i64 0, .int .i64 0, .int .i64 0, .int .i64 0, .int .i64 0, .int .i64 0, .int .i64 0, .int .i64 0, .int .i64 0, .int .i64 0, .int .i64 0, .int .i64 0, .int .i64 0, .int .i64 0, .int .i64 0, .int .i64 0, .int .i64 0, .int .i64 0, .int .i64 0, .int .i64 0, .int .i64 0, .int .i64 0, .int .i64 0, .int .i64 0, .int .i64 0, .int .i64 0, .int .i64 0, .int .i64 0, .int .i64 0, .int .i64 0, .int .i64 0, .int .i64 0, .int .i64 0, .int .i64 0, .int .i64 0, .int .i64 0, .int .i64 0, .int .i64 0, .int .i64 0, .int .i64 0, .int .i64 0, .int .i64 0, .int .i64 0, .int .i64 0, .int .i64 0, .int .i64 0, .int .i64 0, .int .i64 0, .int .i64 0, .int .i64 0, .int .i64 0, .int .i64 0, .int .i64 0, .int .i64 0, .int .i64 0, .int .i64 0, .int .i64 0, .int .i64 0, .int .i64 0, .int .i64 0, .int .i64 0, .int .i64 0, .int .i64 0, .int .i64 0, .int .i64 0, .int .i64 0, .int .i64 0, .int .i64 0, .int .i64 0, .int .i64 0, .int .i64 0, .int .i64 0, .int .i64 0, .int .i64 0, .int .i64 0, .int .i64 0, .int .i64 0, .int .i64 0, .int .i64 0, .int .i64 0, .int .i64 0, .int .i64 0, .int .i64 0, .int .i64 0, .int .i64 0, .int .i64 0, .int .i64 0, .int .i64 0, .int .i64 0, .int .i64 0, .int .i64 0, .int .i64 0, .int .i64 0, .int .i64 0, .int .i64 0, .int .i64 0, .int .i64 0, .int .i64 0, .int .i64 0, .int .i64 0, .int .i64 0, .int .i64 0, .int .i64 0, .int .i64 0, .int .i64 0, .int .i64 0, .int .i64 0, .int .i64 0, .int .i64 0, .int .i64 0, .int .i64 0, .int .i64 0, .int .i64 0, .int .i64 0, .int .i64 0, .int .i64 0, .int .i64 0, .int .i64 0, .int .i64 0, .int .i64 0, .int .i64 0, .int .i64 0, .int .i64 0, .int .i64 0, .int .i64 0, .int .i64 0, .int .i64 0, .int .i64 0, .int .i64 0, .int .i64 0, .int .i64 0, .int .i64 0, .int .i64 0, .int .i64 0, .int .i64 0, .int .i64 0, .int .i64 0, .int .i64 0, .int .i64 0, .int .i64 0, .int .i64 0, .int .i64 0, .int .i64 0, .int .i64 0, .int .i64 0, .int .i64 0, .int .i64 0, .int .i64 0, .int .i64 0, .int .i64 0, .int .i64 0, .int .i64 0, .int .i64 0, .int .i64 0, .int .i64 0, .int .i64 0, .int .i64 0] 44 :: L) w := s
  refine wp_loopG (G := Unit) (fun _g a w => Has a 199 [(0, .slice A 0 c), (3, .pointer (some ⟨g1, 0, none⟩)), (4, .pointer (some ⟨g2, 0, none⟩)), (5, .int .i64 0), (6, .int .i64 0)] ∧ St W (Bag g1 [] :: .blk g2 [.int .i64 0, .int .i64 0, .int .i64 0, .int .i64 0, .int .i64 0, .int .i64 0, .int .i64 0, .int .i64 0, .int .i64 0, .int .i64 0, .int .i64 0, .int .i64 0, .int .i64 0, .int .i64 0, .int .i64 0, .int .i64 0, .int .i64 0, .int .i64 0, .int .i64 0, .int .i64 0, .int .i64 0, .int .i64 0, .int .i64 0, .int .i64 0, .int .i64 0, .int .i64 0, .int .i64 0, .int .i64 0, .int .i64 0, .int .i64 0, .int .i64 0, .int .i64 0, .int .i64 0, .int .i64 0, .int .i64 0, .int .i64 0, .int .i64 0, .int .i64 0, .int .i64 0, .int .i64 0, .int .i64 0, .int .i64 0, .int .i64 0, .int .i64 0, .int .i64 0, .int .i64 0, .int .i64 0, .int .i64 0, .int .i64 0, .int .i64 0, .int .i64 0, .int .i64 0, .int .i64 0, .int .i64 0, .int .i64 0, .int .i64 0, .int .i64 0, .int .i64 0, .int .i64 0, .int .i64 0, .int .i64 0, .int .i64 0, .int .i64 0, .int .i64 0, .int .i64 0, .int .i64 0, .int .i64 0, .int .i64 0, .int .i64 0, .int .i64 0, .int .i64 0, .int .i64 0, .int .i64 0, .int .i64 0, .int .i64 0, .int .i64 0, .int .i64 0, .int .i64 0, .int .i64 0, .int .i64 0, .int .i64 0, .int .i64 0, .int .i64 0, .int .i64 0, .int .i64 0, .int .i64 0, .int .i64 0, .int .i64 0, .int .i64 0, .int .i64 0, .int .i64 0, .int .i64 0, .int .i64 0, .int .i64 0, .int .i64 0, .int .i64 0, .int .i64 0, .int .i64 0, .int .i64 0, .int .i64 0, .int .i64 0, .int .i64 0, .int .i64 0, .int .i64 0, .int .i64 0, .int .i64 0, .int .i64 0, .int .i64 0, .int .i64 0, .int .i64 0, .int .i64 0, .int .i64 0, .int .i64 0, .int .i64 0, .int .i64 0, .int .i64 0, .int .i64 0, .int .i64 0, .int .i64 0, .int .i64 0, .int .i64 0, .int .i64 0, .int .i64 0, .int .i64 0, .int .i64 0, .int .i64 0, .int .i64 0, .int .i64 0, .int .i64 0, .int .i64 0, .int .i64 0, .int .i64 0, .int .i64 0, .int .i64 0, .int .i64 0, .int .i64 0, .int .i64 0, .int .i64 0, .int .i64 0, .int .i64 0, .int .i64 0, .int .i64 0, .int .i64 0, .int .i64 0, .int .i64 0, .int .i64 0, .int .i64 0, .int .i64 0, .int .i64 0, .int .i64 0, .int .i64 0, .int .i64 0, .int .i64 0, .int .i64 0, .int .i64 0, .int .i64 0, .int .i64 0, .int .i64 0, .int .i64 0, .int .i64 0, .int .i64 0, .int .i64 0, .int .i64 0, .int .i64 0, .int .i64 0, .int .i64 0, .int .i64 0, .int .i64 0, .int .i64 0, .int .i64 0, .int .i64 0, .int .i64 0, .int .i64 0, .int .i64 0, .int .i64 0, .int .i64 0, .int .i64 0, .int .i64 0, .int .i64 0, .int .i64 0, .int .i64 0, .int .i64 0, .int .i64 0, .int .i64 0, .int .i64 0, .int .i64 0, .int .i64 0, .int .i64 0, .int .i64 0, .int .i64 0, .int .i64 0, .int .i64 0, .int .i64 0, .int .i64 0, .int .i64 0, .int .i64 0, .int .i64 0, .int .i64 0, .int .i64 0, .int .i64 0] 44 :: L) w ∧ True) (fun _g => 0) () ?_ ?_
  · exact ⟨(Has.cons ha (by kernel_rfl) (by kernel_rfl) (Has.cons ha (by kernel_rfl) (by kernel_rfl) (Has.cons ha (by kernel_rfl) (by kernel_rfl) (Has.cons ha (by kernel_rfl) (by kernel_rfl) (Has.cons ha (by kernel_rfl) (by kernel_rfl) (Has.nil ha)))))), s, trivial⟩
  · clear ha s; rintro _g a w ⟨ha, s, hp⟩
    refine wp_seq ?_
    refine wp_seq ?_
    refine wp_region_lit ?_
    refine st_val (.int .i64 0) ha (by kernel_rfl) (by kernel_rfl) ?_
    clear ha; intro a ha
    refine st_val (.slice A 0 c) ha (by kernel_rfl) (by kernel_rfl) ?_
    clear ha; intro a ha
    refine st_val (.int .i64 0) ha (by kernel_rfl) (by kernel_rfl) ?_
    clear ha; intro a ha
    refine st_val (.bool false) ha (by kernel_rfl) (by kernel_rfl) ?_
    clear ha; intro a ha
    refine st_val (.bool false) ha (by kernel_rfl) (by kernel_rfl) ?_
    clear ha; intro a ha
    refine st_pass ha (by kernel_rfl) ?_
    clear ha; intro a ha
    refine st_pass ha (by kernel_rfl) ?_
    clear ha; intro a ha
    refine st_val (.bool false) ha (by kernel_rfl) (by kernel_rfl) ?_
    clear ha; intro a ha
    refine wpList_nil ?_
    refine then_normal ?_
    refine wp_false ha rfl (by kernel_rfl) ?_
    refine wp_exit ?_
    refine then_exit ?_
    refine then_exit ?_
    refine block_hit ?_
    refine then_normal ?_
    refine wp_seq ?_
    refine wp_block ?_
    refine wp_loopG (G := Unit) (fun _g a w => Has a 199 [(3, .pointer (some ⟨g1, 0, none⟩)), (4, .pointer (some ⟨g2, 0, none⟩)), (5, .int .i64 0)] ∧ St W (Bag g1 [] :: .blk g2 [.int .i64 0, .int .i64 0, .int .i64 0, .int .i64 0, .int .i64 0, .int .i64 0, .int .i64 0, .int .i64 0, .int .i64 0, .int .i64 0, .int .i64 0, .int .i64 0, .int .i64 0, .int .i64 0, .int .i64 0, .int .i64 0, .int .i64 0, .int .i64 0, .int .i64 0, .int .i64 0, .int .i64 0, .int .i64 0, .int .i64 0, .int .i64 0, .int .i64 0, .int .i64 0, .int .i64 0, .int .i64 0, .int .i64 0, .int .i64 0, .int .i64 0, .int .i64 0, .int .i64 0, .int .i64 0, .int .i64 0, .int .i64 0, .int .i64 0, .int .i64 0, .int .i64 0, .int .i64 0, .int .i64 0, .int .i64 0, .int .i64 0, .int .i64 0, .int .i64 0, .int .i64 0, .int .i64 0, .int .i64 0, .int .i64 0, .int .i64 0, .int .i64 0, .int .i64 0, .int .i64 0, .int .i64 0, .int .i64 0, .int .i64 0, .int .i64 0, .int .i64 0, .int .i64 0, .int .i64 0, .int .i64 0, .int .i64 0, .int .i64 0, .int .i64 0, .int .i64 0, .int .i64 0, .int .i64 0, .int .i64 0, .int .i64 0, .int .i64 0, .int .i64 0, .int .i64 0, .int .i64 0, .int .i64 0, .int .i64 0, .int .i64 0, .int .i64 0, .int .i64 0, .int .i64 0, .int .i64 0, .int .i64 0, .int .i64 0, .int .i64 0, .int .i64 0, .int .i64 0, .int .i64 0, .int .i64 0, .int .i64 0, .int .i64 0, .int .i64 0, .int .i64 0, .int .i64 0, .int .i64 0, .int .i64 0, .int .i64 0, .int .i64 0, .int .i64 0, .int .i64 0, .int .i64 0, .int .i64 0, .int .i64 0, .int .i64 0, .int .i64 0, .int .i64 0, .int .i64 0, .int .i64 0, .int .i64 0, .int .i64 0, .int .i64 0, .int .i64 0, .int .i64 0, .int .i64 0, .int .i64 0, .int .i64 0, .int .i64 0, .int .i64 0, .int .i64 0, .int .i64 0, .int .i64 0, .int .i64 0, .int .i64 0, .int .i64 0, .int .i64 0, .int .i64 0, .int .i64 0, .int .i64 0, .int .i64 0, .int .i64 0, .int .i64 0, .int .i64 0, .int .i64 0, .int .i64 0, .int .i64 0, .int .i64 0, .int .i64 0, .int .i64 0, .int .i64 0, .int .i64 0, .int .i64 0, .int .i64 0, .int .i64 0, .int .i64 0, .int .i64 0, .int .i64 0, .int .i64 0, .int .i64 0, .int .i64 0, .int .i64 0, .int .i64 0, .int .i64 0, .int .i64 0, .int .i64 0, .int .i64 0, .int .i64 0, .int .i64 0, .int .i64 0, .int .i64 0, .int .i64 0, .int .i64 0, .int .i64 0, .int .i64 0, .int .i64 0, .int .i64 0, .int .i64 0, .int .i64 0, .int .i64 0, .int .i64 0, .int .i64 0, .int .i64 0, .int .i64 0, .int .i64 0, .int .i64 0, .int .i64 0, .int .i64 0, .int .i64 0, .int .i64 0, .int .i64 0, .int .i64 0, .int .i64 0, .int .i64 0, .int .i64 0, .int .i64 0, .int .i64 0, .int .i64 0, .int .i64 0, .int .i64 0, .int .i64 0, .int .i64 0, .int .i64 0, .int .i64 0, .int .i64 0, .int .i64 0, .int .i64 0, .int .i64 0, .int .i64 0, .int .i64 0, .int .i64 0, .int .i64 0, .int .i64 0, .int .i64 0] 44 :: L) w ∧ True) (fun _g => 0) () ?_ ?_
    · exact ⟨(Has.cons ha (by kernel_rfl) (by kernel_rfl) (Has.cons ha (by kernel_rfl) (by kernel_rfl) (Has.cons ha (by kernel_rfl) (by kernel_rfl) (Has.nil ha)))), s, trivial⟩
    · clear ha s; rintro _g a w ⟨ha, s, hp⟩
      refine wp_seq ?_
      refine wp_seq ?_
      refine wp_region_lit ?_
      refine st_val (.int .i64 0) ha (by kernel_rfl) (by kernel_rfl) ?_
      clear ha; intro a ha
      refine st_val (.bool false) ha (by kernel_rfl) (by kernel_rfl) ?_
      clear ha; intro a ha
      refine wpList_nil ?_
      refine then_normal ?_
      refine wp_false ha rfl (by kernel_rfl) ?_
      refine wp_exit ?_
      refine then_exit ?_
      refine then_exit ?_
      refine block_hit ?_
      refine then_normal ?_
      refine wp_seq ?_
      refine wp_region_lit ?_
      refine st_val (.agg #[.int .i64 0, .int .i64 0, .int .i64 0, .int .i64 0, .int .i64 0, .int .i64 0, .int .i64 0, .int .i64 0, .int .i64 0, .int .i64 0, .int .i64 0, .int .i64 0, .int .i64 0, .int .i64 0, .int .i64 0, .int .i64 0, .int .i64 0, .int .i64 0, .int .i64 0, .int .i64 0, .int .i64 0, .int .i64 0, .int .i64 0, .int .i64 0, .int .i64 0, .int .i64 0, .int .i64 0, .int .i64 0, .int .i64 0, .int .i64 0, .int .i64 0, .int .i64 0, .int .i64 0, .int .i64 0, .int .i64 0, .int .i64 0, .int .i64 0, .int .i64 0, .int .i64 0, .int .i64 0, .int .i64 0, .int .i64 0, .int .i64 0, .int .i64 0, .int .i64 0, .int .i64 0, .int .i64 0, .int .i64 0, .int .i64 0, .int .i64 0, .int .i64 0, .int .i64 0, .int .i64 0, .int .i64 0, .int .i64 0, .int .i64 0, .int .i64 0, .int .i64 0, .int .i64 0, .int .i64 0, .int .i64 0, .int .i64 0, .int .i64 0, .int .i64 0, .int .i64 0, .int .i64 0, .int .i64 0, .int .i64 0, .int .i64 0, .int .i64 0, .int .i64 0, .int .i64 0, .int .i64 0, .int .i64 0, .int .i64 0, .int .i64 0, .int .i64 0, .int .i64 0, .int .i64 0, .int .i64 0, .int .i64 0, .int .i64 0, .int .i64 0, .int .i64 0, .int .i64 0, .int .i64 0, .int .i64 0, .int .i64 0, .int .i64 0, .int .i64 0, .int .i64 0, .int .i64 0, .int .i64 0, .int .i64 0, .int .i64 0, .int .i64 0, .int .i64 0, .int .i64 0, .int .i64 0, .int .i64 0, .int .i64 0, .int .i64 0, .int .i64 0, .int .i64 0, .int .i64 0, .int .i64 0, .int .i64 0, .int .i64 0, .int .i64 0, .int .i64 0, .int .i64 0, .int .i64 0, .int .i64 0, .int .i64 0, .int .i64 0, .int .i64 0, .int .i64 0, .int .i64 0, .int .i64 0, .int .i64 0, .int .i64 0, .int .i64 0, .int .i64 0, .int .i64 0, .int .i64 0, .int .i64 0, .int .i64 0, .int .i64 0, .int .i64 0, .int .i64 0, .int .i64 0, .int .i64 0, .int .i64 0, .int .i64 0, .int .i64 0, .int .i64 0, .int .i64 0, .int .i64 0, .int .i64 0, .int .i64 0, .int .i64 0, .int .i64 0, .int .i64 0, .int .i64 0, .int .i64 0, .int .i64 0, .int .i64 0, .int .i64 0, .int .i64 0, .int .i64 0, .int .i64 0, .int .i64 0, .int .i64 0, .int .i64 0, .int .i64 0, .int .i64 0, .int .i64 0, .int .i64 0, .int .i64 0, .int .i64 0, .int .i64 0, .int .i64 0, .int .i64 0, .int .i64 0, .int .i64 0, .int .i64 0, .int .i64 0, .int .i64 0, .int .i64 0, .int .i64 0, .int .i64 0, .int .i64 0, .int .i64 0, .int .i64 0, .int .i64 0, .int .i64 0, .int .i64 0, .int .i64 0, .int .i64 0, .int .i64 0, .int .i64 0, .int .i64 0, .int .i64 0, .int .i64 0, .int .i64 0, .int .i64 0, .int .i64 0, .int .i64 0, .int .i64 0, .int .i64 0, .int .i64 0, .int .i64 0, .int .i64 0, .int .i64 0, .int .i64 0, .int .i64 0, .int .i64 0, .int .i64 0, .int .i64 0, .int .i64 0]) ha (by kernel_rfl) (run_loadN (of_ := 0) [.int .i64 0, .int .i64 0, .int .i64 0, .int .i64 0, .int .i64 0, .int .i64 0, .int .i64 0, .int .i64 0, .int .i64 0, .int .i64 0, .int .i64 0, .int .i64 0, .int .i64 0, .int .i64 0, .int .i64 0, .int .i64 0, .int .i64 0, .int .i64 0, .int .i64 0, .int .i64 0, .int .i64 0, .int .i64 0, .int .i64 0, .int .i64 0, .int .i64 0, .int .i64 0, .int .i64 0, .int .i64 0, .int .i64 0, .int .i64 0, .int .i64 0, .int .i64 0, .int .i64 0, .int .i64 0, .int .i64 0, .int .i64 0, .int .i64 0, .int .i64 0, .int .i64 0, .int .i64 0, .int .i64 0, .int .i64 0, .int .i64 0, .int .i64 0, .int .i64 0, .int .i64 0, .int .i64 0, .int .i64 0, .int .i64 0, .int .i64 0, .int .i64 0, .int .i64 0, .int .i64 0, .int .i64 0, .int .i64 0, .int .i64 0, .int .i64 0, .int .i64 0, .int .i64 0, .int .i64 0, .int .i64 0, .int .i64 0, .int .i64 0, .int .i64 0, .int .i64 0, .int .i64 0, .int .i64 0, .int .i64 0, .int .i64 0, .int .i64 0, .int .i64 0, .int .i64 0, .int .i64 0, .int .i64 0, .int .i64 0, .int .i64 0, .int .i64 0, .int .i64 0, .int .i64 0, .int .i64 0, .int .i64 0, .int .i64 0, .int .i64 0, .int .i64 0, .int .i64 0, .int .i64 0, .int .i64 0, .int .i64 0, .int .i64 0, .int .i64 0, .int .i64 0, .int .i64 0, .int .i64 0, .int .i64 0, .int .i64 0, .int .i64 0, .int .i64 0, .int .i64 0, .int .i64 0, .int .i64 0, .int .i64 0, .int .i64 0, .int .i64 0, .int .i64 0, .int .i64 0, .int .i64 0, .int .i64 0, .int .i64 0, .int .i64 0, .int .i64 0, .int .i64 0, .int .i64 0, .int .i64 0, .int .i64 0, .int .i64 0, .int .i64 0, .int .i64 0, .int .i64 0, .int .i64 0, .int .i64 0, .int .i64 0, .int .i64 0, .int .i64 0, .int .i64 0, .int .i64 0, .int .i64 0, .int .i64 0, .int .i64 0, .int .i64 0, .int .i64 0, .int .i64 0, .int .i64 0, .int .i64 0, .int .i64 0, .int .i64 0, .int .i64 0, .int .i64 0, .int .i64 0, .int .i64 0, .int .i64 0, .int .i64 0, .int .i64 0, .int .i64 0, .int .i64 0, .int .i64 0, .int .i64 0, .int .i64 0, .int .i64 0, .int .i64 0, .int .i64 0, .int .i64 0, .int .i64 0, .int .i64 0, .int .i64 0, .int .i64 0, .int .i64 0, .int .i64 0, .int .i64 0, .int .i64 0, .int .i64 0, .int .i64 0, .int .i64 0, .int .i64 0, .int .i64 0, .int .i64 0, .int .i64 0, .int .i64 0, .int .i64 0, .int .i64 0, .int .i64 0, .int .i64 0, .int .i64 0, .int .i64 0, .int .i64 0, .int .i64 0, .int .i64 0, .int .i64 0, .int .i64 0, .int .i64 0, .int .i64 0, .int .i64 0, .int .i64 0, .int .i64 0, .int .i64 0, .int .i64 0, .int .i64 0, .int .i64 0, .int .i64 0, .int .i64 0, .int .i64 0, .int .i64 0, .int .i64 0, .int .i64 0, .int .i64 0, .int .i64 0, .int .i64 0, .int .i64 0, .int .i64 0, .int .i64 0, .int .i64 0] (s.blkIs 1 rfl) rfl (by kernel_rfl) Try.isAgg44 Try.sizeOf44 rfl (Nat.le_of_ble_eq_true rfl)) ?_
      clear ha; intro a ha
      refine st_val (.agg #[.int .i64 0, .int .i64 0, .int .i64 0, .int .i64 0, .int .i64 0, .int .i64 0, .int .i64 0, .int .i64 0, .int .i64 0, .int .i64 0, .int .i64 0, .int .i64 0, .int .i64 0, .int .i64 0, .int .i64 0, .int .i64 0, .int .i64 0, .int .i64 0, .int .i64 0, .int .i64 0, .int .i64 0, .int .i64 0, .int .i64 0, .int .i64 0, .int .i64 0, .int .i64 0, .int .i64 0, .int .i64 0, .int .i64 0, .int .i64 0, .int .i64 0, .int .i64 0, .int .i64 0, .int .i64 0, .int .i64 0, .int .i64 0, .int .i64 0, .int .i64 0, .int .i64 0, .int .i64 0, .int .i64 0, .int .i64 0, .int .i64 0, .int .i64 0, .int .i64 0, .int .i64 0, .int .i64 0, .int .i64 0, .int .i64 0, .int .i64 0, .int .i64 0, .int .i64 0, .int .i64 0, .int .i64 0, .int .i64 0, .int .i64 0, .int .i64 0, .int .i64 0, .int .i64 0, .int .i64 0, .int .i64 0, .int .i64 0, .int .i64 0, .int .i64 0, .int .i64 0, .int .i64 0, .int .i64 0, .int .i64 0, .int .i64 0, .int .i64 0, .int .i64 0, .int .i64 0, .int .i64 0, .int .i64 0, .int .i64 0, .int .i64 0, .int .i64 0, .int .i64 0, .int .i64 0, .int .i64 0, .int .i64 0, .int .i64 0, .int .i64 0, .int .i64 0, .int .i64 0, .int .i64 0, .int .i64 0, .int .i64 0, .int .i64 0, .int .i64 0, .int .i64 0, .int .i64 0, .int .i64 0, .int .i64 0, .int .i64 0, .int .i64 0, .int .i64 0, .int .i64 0, .int .i64 0, .int .i64 0, .int .i64 0, .int .i64 0, .int .i64 0, .int .i64 0, .int .i64 0, .int .i64 0, .int .i64 0, .int .i64 0, .int .i64 0, .int .i64 0, .int .i64 0, .int .i64 0, .int .i64 0, .int .i64 0, .int .i64 0, .int .i64 0, .int .i64 0, .int .i64 0, .int .i64 0, .int .i64 0, .int .i64 0, .int .i64 0, .int .i64 0, .int .i64 0, .int .i64 0, .int .i64 0, .int .i64 0, .int .i64 0, .int .i64 0, .int .i64 0, .int .i64 0, .int .i64 0, .int .i64 0, .int .i64 0, .int .i64 0, .int .i64 0, .int .i64 0, .int .i64 0, .int .i64 0, .int .i64 0, .int .i64 0, .int .i64 0, .int .i64 0, .int .i64 0, .int .i64 0, .int .i64 0, .int .i64 0, .int .i64 0, .int .i64 0, .int .i64 0, .int .i64 0, .int .i64 0, .int .i64 0, .int .i64 0, .int .i64 0, .int .i64 0, .int .i64 0, .int .i64 0, .int .i64 0, .int .i64 0, .int .i64 0, .int .i64 0, .int .i64 0, .int .i64 0, .int .i64 0, .int .i64 0, .int .i64 0, .int .i64 0, .int .i64 0, .int .i64 0, .int .i64 0, .int .i64 0, .int .i64 0, .int .i64 0, .int .i64 0, .int .i64 0, .int .i64 0, .int .i64 0, .int .i64 0, .int .i64 0, .int .i64 0, .int .i64 0, .int .i64 0, .int .i64 0, .int .i64 0, .int .i64 0, .int .i64 0, .int .i64 0, .int .i64 0, .int .i64 0, .int .i64 0, .int .i64 0, .int .i64 0, .int .i64 0, .int .i64 0, .int .i64 0, .int .i64 0, .int .i64 0, .int .i64 0, .int .i64 0]) ha (by kernel_rfl) (by kernel_rfl) ?_
      clear ha; intro a ha
      refine st_val (.bool true) ha (by kernel_rfl) (by kernel_rfl) ?_
      clear ha; intro a ha
      refine st_val (.bool true) ha (by kernel_rfl) (by kernel_rfl) ?_
      clear ha; intro a ha
      refine st_val (.pointer (some ⟨g1, 0, none⟩)) ha (by kernel_rfl) (by kernel_rfl) ?_
      clear ha; intro a ha
      refine st_call ha (by kernel_rfl) (by kernel_rfl) (len_to W _ w g1 [] 0 rfl s) ?_
      rintro _ w ⟨rfl, s⟩
      replace s : St W (Bag g1 [] :: .blk g2 [.int .i64 0, .int .i64 0, .int .i64 0, .int .i64 0, .int .i64 0, .int .i64 0, .int .i64 0, .int .i64 0, .int .i64 0, .int .i64 0, .int .i64 0, .int .i64 0, .int .i64 0, .int .i64 0, .int .i64 0, .int .i64 0, .int .i64 0, .int .i64 0, .int .i64 0, .int .i64 0, .int .i64 0, .int .i64 0, .int .i64 0, .int .i64 0, .int .i64 0, .int .i64 0, .int .i64 0, .int .i64 0, .int .i64 0, .int .i64 0, .int .i64 0, .int .i64 0, .int .i64 0, .int .i64 0, .int .i64 0, .int .i64 0, .int .i64 0, .int .i64 0, .int .i64 0, .int .i64 0, .int .i64 0, .int .i64 0, .int .i64 0, .int .i64 0, .int .i64 0, .int .i64 0, .int .i64 0, .int .i64 0, .int .i64 0, .int .i64 0, .int .i64 0, .int .i64 0, .int .i64 0, .int .i64 0, .int .i64 0, .int .i64 0, .int .i64 0, .int .i64 0, .int .i64 0, .int .i64 0, .int .i64 0, .int .i64 0, .int .i64 0, .int .i64 0, .int .i64 0, .int .i64 0, .int .i64 0, .int .i64 0, .int .i64 0, .int .i64 0, .int .i64 0, .int .i64 0, .int .i64 0, .int .i64 0, .int .i64 0, .int .i64 0, .int .i64 0, .int .i64 0, .int .i64 0, .int .i64 0, .int .i64 0, .int .i64 0, .int .i64 0, .int .i64 0, .int .i64 0, .int .i64 0, .int .i64 0, .int .i64 0, .int .i64 0, .int .i64 0, .int .i64 0, .int .i64 0, .int .i64 0, .int .i64 0, .int .i64 0, .int .i64 0, .int .i64 0, .int .i64 0, .int .i64 0, .int .i64 0, .int .i64 0, .int .i64 0, .int .i64 0, .int .i64 0, .int .i64 0, .int .i64 0, .int .i64 0, .int .i64 0, .int .i64 0, .int .i64 0, .int .i64 0, .int .i64 0, .int .i64 0, .int .i64 0, .int .i64 0, .int .i64 0, .int .i64 0, .int .i64 0, .int .i64 0, .int .i64 0, .int .i64 0, .int .i64 0, .int .i64 0, .int .i64 0, .int .i64 0, .int .i64 0, .int .i64 0, .int .i64 0, .int .i64 0, .int .i64 0, .int .i64 0, .int .i64 0, .int .i64 0, .int .i64 0, .int .i64 0, .int .i64 0, .int .i64 0, .int .i64 0, .int .i64 0, .int .i64 0, .int .i64 0, .int .i64 0, .int .i64 0, .int .i64 0, .int .i64 0, .int .i64 0, .int .i64 0, .int .i64 0, .int .i64 0, .int .i64 0, .int .i64 0, .int .i64 0, .int .i64 0, .int .i64 0, .int .i64 0, .int .i64 0, .int .i64 0, .int .i64 0, .int .i64 0, .int .i64 0, .int .i64 0, .int .i64 0, .int .i64 0, .int .i64 0, .int .i64 0, .int .i64 0, .int .i64 0, .int .i64 0, .int .i64 0, .int .i64 0, .int .i64 0, .int .i64 0, .int .i64 0, .int .i64 0, .int .i64 0, .int .i64 0, .int .i64 0, .int .i64 0, .int .i64 0, .int .i64 0, .int .i64 0, .int .i64 0, .int .i64 0, .int .i64 0, .int .i64 0, .int .i64 0, .int .i64 0, .int .i64 0, .int .i64 0, .int .i64 0, .int .i64 0, .int .i64 0, .int .i64 0, .int .i64 0, .int .i64 0, .int .i64 0, .int .i64 0, .int .i64 0, .int .i64 0, .int .i64 0] 44 :: L) w := s
      refine ⟨_, rfl, ?_⟩; clear ha; intro a ha
      refine st_val (.bool true) ha (by kernel_rfl) (by kernel_rfl) ?_
      clear ha; intro a ha
      refine st_val (.bool true) ha (by kernel_rfl) (by kernel_rfl) ?_
      clear ha; intro a ha
      refine st_val (.bool true) ha (by kernel_rfl) (by kernel_rfl) ?_
      clear ha; intro a ha
      refine wpList_nil ?_
      refine then_normal ?_
      refine wp_ret ?_
      refine ret_with (v := .bool true) ha (results_1 rfl ha (res_tmp (by kernel_rfl) (by kernel_rfl))) ?_
      replace s := s.tail.tail
      replace s : St W (L) w := s
      exact ⟨rfl, s⟩

theorem bagOnce_any (W : World) (L : List Chunk) (w : World) (A : Option Addr) (n c : Nat) (ds : List Dd) (hr : Knows L fun w => Reads w 5 A n (deeds ds)) (hdn : ds.length = n) (hnc : n ≤ c) (hn : n ≤ 140737488351232) (s : St W L w) :
    Calls Try.prog 4 #[.slice A n c] w fun e w' => e = .returned (.bool true) ∧ St W L w' := by
  by_cases h0 : n = 0
  · subst h0; exact bagOnce_zero W L w A c s
  · cases A with
    | none => exact absurd rfl ((hr w s.1).2.1 (by omega))
    | some ad => exact bagOnce_pos W L w ad n c ds hr hdn hnc hn s

end Go.Proofs.Ytcgnhmdiedfamaa.B
