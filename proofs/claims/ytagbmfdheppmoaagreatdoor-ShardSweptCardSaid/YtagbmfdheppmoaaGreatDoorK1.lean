import Derived.Test.YtagbmfdheppmoaaGreatDoorK0
import Derived.KernelRfl
namespace Go.Proofs.YtagbmfdheppmoaaGreatDoor.B
open Go.RowKit Go.Proofs.YtagbmfdheppmoaaGreatDoor.Sep
set_option linter.unusedVariables false
set_option linter.unusedSimpArgs false

theorem skF_at {L : List Chunk} {l : List Nd} {F : Nat → Nat → Option Nat} {p : Nat} {x : Nd} {w : World} (h : l[p]? = some x) (s : Sat (SkF l F :: L) w) : BlkIs x.g (ncF x (F p)) w := by
  have := rowsF_at (F := F) (q := 0) h
  rw [Nat.zero_add] at this
  exact bs_at this w s
theorem ld_some {x : Nd} {f : Nat → Option Nat} {i g : Nat} (hi : i < 16) (h : f i = some g) : (ncF x f)[3 + i * 1]? = some (.pointer (some ⟨g, 0, none⟩)) := by rw [Nat.mul_one, ncF_next x f hi, h]; rfl
theorem ld_none {x : Nd} {f : Nat → Option Nat} {i : Nat} (hi : i < 16) (h : f i = none) : (ncF x f)[3 + i * 1]? = some (.pointer none) := by rw [Nat.mul_one, ncF_next x f hi, h]; rfl
/-- Sixteen cells. -/
abbrev c16 (oc : Nat → Value) : List Value := [oc 0, oc 1, oc 2, oc 3, oc 4, oc 5, oc 6, oc 7, oc 8, oc 9, oc 10, oc 11, oc 12, oc 13, oc 14, oc 15]
def upO (oc : Nat → Value) (i : Nat) (v : Value) : Nat → Value := fun j => if j = i then v else oc j
theorem c16_put {oc : Nat → Value} {i : Nat} {v : Value} (hi : i < 16) : putAt (c16 oc) i [v] = c16 (upO oc i v) := by
  rcases (show i = 0 ∨ i = 1 ∨ i = 2 ∨ i = 3 ∨ i = 4 ∨ i = 5 ∨ i = 6 ∨ i = 7 ∨ i = 8 ∨ i = 9 ∨ i = 10 ∨ i = 11 ∨ i = 12 ∨ i = 13 ∨ i = 14 ∨ i = 15 by omega) with h | h | h | h | h | h | h | h | h | h | h | h | h | h | h | h <;> (subst h; rfl)
/-- What ahead finds: step by step, the block of the last one ahead of the key. -/
def Ahead (l : List Nd) (key : List UInt8) (i : Nat) (oc : Nat → Value) : Prop := ∀ j, i ≤ j → j < 16 → ∃ (q : Nat) (y : Nd), LastAt l key j q ∧ l[q]? = some y ∧ oc j = .pointer (some ⟨y.g, 0, none⟩)
theorem Ahead.put {l : List Nd} {key : List UInt8} {j : Nat} {oc : Nat → Value} (h : Ahead l key (j + 1) oc) {q : Nat} {y : Nd} (k : LastAt l key j q) (hy : l[q]? = some y) : Ahead l key j (upO oc j (.pointer (some ⟨y.g, 0, none⟩))) := by
  intro i h1 h2
  by_cases e : i = j
  · subst e; exact ⟨q, y, k, hy, by simp [upO]⟩
  · obtain ⟨q', y', a, b, c⟩ := h i (by omega) h2
    exact ⟨q', y', a, b, by simp only [upO]; rw [if_neg e]; exact c⟩
theorem Ahead.one {l : List Nd} {key : List UInt8} {oc : Nat → Value} (h : Ahead l key 0 oc) : ∀ v ∈ c16 oc, v.oneCell' = true := by
  have k : ∀ j, j < 16 → (oc j).oneCell' = true := fun j hj => by obtain ⟨q, y, _, _, e⟩ := h j (Nat.zero_le _) hj; rw [e]; rfl
  intro v hv
  simp only [List.mem_cons, List.not_mem_nil, or_false] at hv
  rcases hv with h | h | h | h | h | h | h | h | h | h | h | h | h | h | h | h <;> (subst h; exact k _ (by decide))

theorem c16_ex {P : Program} {o : Oper} {E : Env} {w W : World} {L : List Chunk} {g i j : Nat} {oc : Nat → Value} {v : Value} {t : TypeId} (hi : i < 16) (h : ∃ w1, (execOp (evalE E) o).run P w = .ok .skip w1 ∧ St W (L.set j (.blk g (putAt (c16 oc) i [v]) t)) w1) :
    ∃ w1, (execOp (evalE E) o).run P w = .ok .skip w1 ∧ St W (L.set j (.blk g (c16 (upO oc i v)) t)) w1 := by
  rw [c16_put hi] at h; exact h

theorem ahead_spec (W : World) (L : List Chunk) (w : World) (gl : Nat) (hd : Nd) (r : List Nd) (many : Int) (key : List UInt8) (ok : SkOk (hd :: r)) (s : St W (.blk gl [.pointer (some ⟨hd.g, 0, none⟩), .int .i64 many] 220 :: SkF (hd :: r) (canon (hd :: r)) :: L) w) :
    Calls Tryz.prog 125 #[.pointer (some ⟨gl, 0, none⟩), .string (str key)] w fun e w' => ∃ oc : Nat → Value, e = .returned (.agg (c16 oc).toArray) ∧ Ahead (hd :: r) key 0 oc ∧ St W (.blk gl [.pointer (some ⟨hd.g, 0, none⟩), .int .i64 many] 220 :: SkF (hd :: r) (canon (hd :: r)) :: L) w' := by
  have hd16 : hd.n = 16 := by obtain ⟨h, r, e, h1, _⟩ := ok.head; cases e; exact h1
  refine enter_args (l := [.pointer (some ⟨gl, 0, none⟩), .string (str key)]) Tryz.func125 rfl rfl (Nat.le_of_ble_eq_true rfl) ?_
  intro a ha; replace ha : Has a 46 [(0, .pointer (some ⟨gl, 0, none⟩)), (1, .string (str key))] := ha
  refine wp_seq ?_
  refine wp_region_lit ?_
  refine st_ex ha (by kernel_rfl) (ex_alloc [.pointer none, .pointer none, .pointer none, .pointer none, .pointer none, .pointer none, .pointer none, .pointer none, .pointer none, .pointer none, .pointer none, .pointer none, .pointer none, .pointer none, .pointer none, .pointer none] s rfl (Tryz.zeroValue179 _) (by kernel_rfl)) ?_
  clear ha; rintro _ w a ⟨g1, rfl, s⟩ ha
  refine wpList_nil ?_
  refine then_normal ?_
  refine wp_seq ?_
  refine wp_region_lit ?_
  refine st_ex ha (by kernel_rfl) (ex_alloc [.pointer none, .pointer none, .pointer none, .pointer none, .pointer none, .pointer none, .pointer none, .pointer none, .pointer none, .pointer none, .pointer none, .pointer none, .pointer none, .pointer none, .pointer none, .pointer none] s rfl (Tryz.zeroValue179 _) (by kernel_rfl)) ?_
  clear ha; rintro _ w a ⟨g2, rfl, s⟩ ha
  refine wpList_nil ?_
  refine then_normal ?_
  refine wp_seq ?_
  refine wp_region_lit ?_
  refine st_val (.pointer (some ⟨gl, 0, none⟩)) ha (by kernel_rfl) (by kernel_rfl) ?_
  clear ha; intro a ha
  refine st_val (.pointer (some ⟨gl, 0, none⟩)) ha (by kernel_rfl) (by kernel_rfl) ?_
  clear ha; intro a ha
  refine st_val (.pointer (some ⟨gl, 0, none⟩)) ha (by kernel_rfl) (by kernel_rfl) ?_
  clear ha; intro a ha
  refine st_val (.pointer (some ⟨hd.g, 0, none⟩)) ha (by kernel_rfl) (run_load1 (of_ := 0) (s.blkIs 2 rfl) rfl (by kernel_rfl) Tryz.isAgg177 rfl) ?_
  clear ha; intro a ha
  refine st_val (.pointer (some ⟨hd.g, 0, none⟩)) ha (by kernel_rfl) (by kernel_rfl) ?_
  clear ha; intro a ha
  refine wpList_nil ?_
  refine then_normal ?_
  refine wp_seq ?_
  refine wp_seq ?_
  refine wp_region_lit ?_
  refine st_val (.int .i64 15) ha (by kernel_rfl) (by kernel_rfl) ?_
  clear ha; intro a ha
  refine wpList_nil ?_
  refine then_normal ?_
  refine wp_block ?_
  refine wp_loopG (G := Nat × Nat × Nd × (Nat → Value)) (fun ⟨i, p, x, oc⟩ a w => Has a 46 [(0, .pointer (some ⟨gl, 0, none⟩)), (1, .string (str key)), (4, .pointer (some ⟨g1, 0, none⟩)), (5, .pointer (some ⟨g2, 0, none⟩)), (6, .pointer (some ⟨x.g, 0, none⟩)), (7, .int .i64 (((i : Nat) : Int) - 1))] ∧ St W (.blk g2 [oc 0, oc 1, oc 2, oc 3, oc 4, oc 5, oc 6, oc 7, oc 8, oc 9, oc 10, oc 11, oc 12, oc 13, oc 14, oc 15] 179 :: .blk g1 [.pointer none, .pointer none, .pointer none, .pointer none, .pointer none, .pointer none, .pointer none, .pointer none, .pointer none, .pointer none, .pointer none, .pointer none, .pointer none, .pointer none, .pointer none, .pointer none] 179 :: .blk gl [.pointer (some ⟨hd.g, 0, none⟩), .int .i64 many] 220 :: SkF (hd :: r) (canon (hd :: r)) :: L) w ∧ (i ≤ 16 ∧ (hd :: r)[p]? = some x ∧ (p = 0 ∨ x.k < key) ∧ i ≤ x.n ∧ Ahead (hd :: r) key i oc)) (fun ⟨i, p, x, oc⟩ => i) ⟨16, 0, hd, fun _ => .pointer none⟩ ?_ ?_
  · exact ⟨(Has.cons ha (by kernel_rfl) (by kernel_rfl) (Has.cons ha (by kernel_rfl) (by kernel_rfl) (Has.cons ha (by kernel_rfl) (by kernel_rfl) (Has.cons ha (by kernel_rfl) (by kernel_rfl) (Has.cons ha (by kernel_rfl) (by kernel_rfl) (Has.cons ha (by kernel_rfl) (by kernel_rfl) (Has.nil ha))))))), s, by omega, rfl, .inl rfl, by rw [hd16]; omega, fun j h1 h2 => absurd h1 (by omega)⟩
  · clear ha s; rintro ⟨i, p, x, oc⟩ a w ⟨ha, s, hp⟩
    obtain ⟨hi, hx, hk, hn, hA⟩ := hp
    refine wp_seq ?_
    refine wp_seq ?_
    refine wp_region_lit ?_
    refine st_val (.int .i64 (((i : Nat) : Int) - 1)) ha (by kernel_rfl) (by kernel_rfl) ?_
    clear ha; intro a ha
    refine st_val (.bool (decide ((((i : Nat) : Int) - 1) ≥ (0 : Int)))) ha (by kernel_rfl) (by kernel_rfl) ?_
    clear ha; intro a ha
    refine wpList_nil ?_
    refine then_normal ?_
    refine wp_part (decide ((((i : Nat) : Int) - 1) ≥ (0 : Int))) ha rfl (by kernel_rfl) (fun hb => ?_) (fun hb => ?_)
    · rw [hb] at ha; replace hb : ((((i : Nat) : Int) - 1) ≥ (0 : Int)) := of_decide_eq_true hb
      obtain ⟨j, rfl⟩ : ∃ j, i = j + 1 := ⟨i - 1, by omega⟩
      have ej : (((j + 1 : Nat) : Int) - 1) = ((j : Nat) : Int) := by omega
      rw [ej] at ha
      clear hb
      have hj : j < 16 := by omega
      refine wp_skip ?_
      refine then_normal ?_
      refine wp_seq ?_
      refine wp_block ?_
      refine wp_seq ?_
      refine wp_block ?_
      have hx0 := hx; have hk0 := hk; have hn0 := hn; clear hx hk hn
      refine wp_loopG (G := Nat × Nd) (fun ⟨p, x⟩ a w => Has a 46 [(0, .pointer (some ⟨gl, 0, none⟩)), (1, .string (str key)), (4, .pointer (some ⟨g1, 0, none⟩)), (5, .pointer (some ⟨g2, 0, none⟩)), (7, .int .i64 ((j : Nat) : Int)), (6, .pointer (some ⟨x.g, 0, none⟩))] ∧ St W (.blk g2 [oc 0, oc 1, oc 2, oc 3, oc 4, oc 5, oc 6, oc 7, oc 8, oc 9, oc 10, oc 11, oc 12, oc 13, oc 14, oc 15] 179 :: .blk g1 [.pointer none, .pointer none, .pointer none, .pointer none, .pointer none, .pointer none, .pointer none, .pointer none, .pointer none, .pointer none, .pointer none, .pointer none, .pointer none, .pointer none, .pointer none, .pointer none] 179 :: .blk gl [.pointer (some ⟨hd.g, 0, none⟩), .int .i64 many] 220 :: SkF (hd :: r) (canon (hd :: r)) :: L) w ∧ ((hd :: r)[p]? = some x ∧ (p = 0 ∨ x.k < key) ∧ j + 1 ≤ x.n)) (fun ⟨p, x⟩ => (hd :: r).length - p) ⟨p, x⟩ ?_ ?_
      · exact ⟨(Has.cons ha (by kernel_rfl) (by kernel_rfl) (Has.cons ha (by kernel_rfl) (by kernel_rfl) (Has.cons ha (by kernel_rfl) (by kernel_rfl) (Has.cons ha (by kernel_rfl) (by kernel_rfl) (Has.cons ha (by kernel_rfl) (by kernel_rfl) (Has.cons ha (by kernel_rfl) (by kernel_rfl) (Has.nil ha))))))), s, hx0, hk0, hn0⟩
      · clear ha s; rintro ⟨p, x⟩ a w ⟨ha, s, hp⟩
        obtain ⟨hx, hk, hn⟩ := hp
        refine wp_seq ?_
        refine wp_seq ?_
        refine wp_region_lit ?_
        refine st_val (.pointer (some ⟨x.g, 0, none⟩)) ha (by kernel_rfl) (by kernel_rfl) ?_
        clear ha; intro a ha
        refine st_val (.int .i64 ((j : Nat) : Int)) ha (by kernel_rfl) (by kernel_rfl) ?_
        clear ha; intro a ha
        refine st_val (.pointer (some ⟨x.g, 0, none⟩)) ha (by kernel_rfl) (by kernel_rfl) ?_
        clear ha; intro a ha
        refine st_val (.pointer (some ⟨x.g, 3, none⟩)) ha (by kernel_rfl) (by kernel_rfl) ?_
        clear ha; intro a ha
        refine st_val (.pointer (some ⟨x.g, 3 + j * 1, none⟩)) ha (by kernel_rfl) (run_indexArrO (kd := .i64) (of_ := 3) (z := ((j : Nat) : Int)) j rfl Tryz.underlying179 Tryz.sizeOf177 (by kernel_rfl) (by kernel_rfl) rfl (by first | assumption | omega) _) ?_
        clear ha; intro a ha
        rcases nxt_cases j (hd :: r) p with ⟨hnx, hall⟩ | ⟨q, y, hpq, hy, hyn, hnx, hall⟩
        · have hnx := (canon_at hx (by omega)).trans hnx
          have hlast : LastAt (hd :: r) key j p := LastAt.none hx (by omega) hk hall
          refine st_val (.pointer none) ha (by kernel_rfl) (run_load1 (of_ := 3 + j * 1) (cs := ncF x ((canon (hd :: r)) p)) (skF_at hx (s.at_ (j := 3) rfl).1) rfl (by kernel_rfl) Tryz.isAgg177 (ld_none hj hnx)) ?_
          clear ha; intro a ha
          refine st_val (.bool false) ha (by kernel_rfl) (by kernel_rfl) ?_
          clear ha; intro a ha
          refine st_val (.bool false) ha (by kernel_rfl) (by kernel_rfl) ?_
          clear ha; intro a ha
          refine st_pass ha (by kernel_rfl) ?_
          clear ha; intro a ha
          refine st_pass ha (by kernel_rfl) ?_
          clear ha; intro a ha
          refine st_pass ha (by kernel_rfl) ?_
          clear ha; intro a ha
          refine st_pass ha (by kernel_rfl) ?_
          clear ha; intro a ha
          refine st_pass ha (by kernel_rfl) ?_
          clear ha; intro a ha
          refine st_pass ha (by kernel_rfl) ?_
          clear ha; intro a ha
          refine st_pass ha (by kernel_rfl) ?_
          clear ha; intro a ha
          refine st_pass ha (by kernel_rfl) ?_
          clear ha; intro a ha
          refine st_pass ha (by kernel_rfl) ?_
          clear ha; intro a ha
          refine st_pass ha (by kernel_rfl) ?_
          clear ha; intro a ha
          refine st_pass ha (by kernel_rfl) ?_
          clear ha; intro a ha
          refine st_val (.bool false) ha (by kernel_rfl) (by kernel_rfl) ?_
          clear ha; intro a ha
          refine wpList_nil ?_
          refine then_normal ?_
          refine wp_false ha rfl (by kernel_rfl) ?_
          refine wp_exit ?_
          refine then_exit ?_
          refine then_exit ?_
          refine block_hit ?_
          refine then_normal ?_
          refine wp_region_lit ?_
          refine st_val (.int .i64 ((j : Nat) : Int)) ha (by kernel_rfl) (by kernel_rfl) ?_
          clear ha; intro a ha
          refine st_val (.pointer (some ⟨x.g, 0, none⟩)) ha (by kernel_rfl) (by kernel_rfl) ?_
          clear ha; intro a ha
          refine st_val (.pointer (some ⟨g2, j, none⟩)) ha (by kernel_rfl) (run_indexArr (kd := .i64) (i := ((j : Nat) : Int)) j rfl Tryz.underlying179 Tryz.sizeOf177 (by kernel_rfl) (by kernel_rfl) rfl (by first | assumption | omega) _) ?_
          clear ha; intro a ha
          refine st_exd ha (by kernel_rfl) (c16_ex (oc := oc) (i := j) hj (ex_store (of_ := j) 0 [.pointer (some ⟨x.g, 0, none⟩)] s rfl rfl (by kernel_rfl) (by kernel_rfl) (Tryz.sizeOf177 _) rfl (by simp [Value.oneCell']) (by show j + 1 ≤ 16; omega))) ?_
          clear ha; rintro w a s ha
          replace s : St W (.blk g2 [upO oc j (.pointer (some ⟨x.g, 0, none⟩)) 0, upO oc j (.pointer (some ⟨x.g, 0, none⟩)) 1, upO oc j (.pointer (some ⟨x.g, 0, none⟩)) 2, upO oc j (.pointer (some ⟨x.g, 0, none⟩)) 3, upO oc j (.pointer (some ⟨x.g, 0, none⟩)) 4, upO oc j (.pointer (some ⟨x.g, 0, none⟩)) 5, upO oc j (.pointer (some ⟨x.g, 0, none⟩)) 6, upO oc j (.pointer (some ⟨x.g, 0, none⟩)) 7, upO oc j (.pointer (some ⟨x.g, 0, none⟩)) 8, upO oc j (.pointer (some ⟨x.g, 0, none⟩)) 9, upO oc j (.pointer (some ⟨x.g, 0, none⟩)) 10, upO oc j (.pointer (some ⟨x.g, 0, none⟩)) 11, upO oc j (.pointer (some ⟨x.g, 0, none⟩)) 12, upO oc j (.pointer (some ⟨x.g, 0, none⟩)) 13, upO oc j (.pointer (some ⟨x.g, 0, none⟩)) 14, upO oc j (.pointer (some ⟨x.g, 0, none⟩)) 15] 179 :: .blk g1 [.pointer none, .pointer none, .pointer none, .pointer none, .pointer none, .pointer none, .pointer none, .pointer none, .pointer none, .pointer none, .pointer none, .pointer none, .pointer none, .pointer none, .pointer none, .pointer none] 179 :: .blk gl [.pointer (some ⟨hd.g, 0, none⟩), .int .i64 many] 220 :: SkF (hd :: r) (canon (hd :: r)) :: L) w := s
          refine wpList_nil ?_
          refine block_normal ?_
          refine then_normal ?_
          refine wp_region_lit ?_
          refine st_val (.int .i64 ((j : Nat) : Int)) ha (by kernel_rfl) (by kernel_rfl) ?_
          clear ha; intro a ha
          refine st_val (.int .i64 (((j : Nat) : Int) - (1 : Int))) ha (by kernel_rfl) (run_arith (((j : Nat) : Int) - (1 : Int)) (((j : Nat) : Int) - (1 : Int)) rfl (by kernel_rfl) (by kernel_rfl) (.inr (.inl ⟨rfl, rfl⟩)) (by rw [wrap64_in (by omega)]) _) ?_
          clear ha; intro a ha
          refine st_val (.int .i64 (((j : Nat) : Int) - (1 : Int))) ha (by kernel_rfl) (by kernel_rfl) ?_
          clear ha; intro a ha
          refine wpList_nil ?_
          refine then_normal ?_
          exact ⟨⟨j, p, x, upO oc j (.pointer (some ⟨x.g, 0, none⟩))⟩, by show j < j + 1; omega, (Has.cons ha (by kernel_rfl) (by kernel_rfl) (Has.cons ha (by kernel_rfl) (by kernel_rfl) (Has.cons ha (by kernel_rfl) (by kernel_rfl) (Has.cons ha (by kernel_rfl) (by kernel_rfl) (Has.cons ha (by kernel_rfl) (by kernel_rfl) (Has.cons ha (by kernel_rfl) (by kernel_rfl) (Has.nil ha))))))), s, by omega, hx, hk, by omega, hA.put hlast hx⟩
        · have hnx := (canon_at hx (by omega)).trans hnx
          refine st_val (.pointer (some ⟨y.g, 0, none⟩)) ha (by kernel_rfl) (run_load1 (of_ := 3 + j * 1) (cs := ncF x ((canon (hd :: r)) p)) (skF_at hx (s.at_ (j := 3) rfl).1) rfl (by kernel_rfl) Tryz.isAgg177 (ld_some hj hnx)) ?_
          clear ha; intro a ha
          refine st_val (.bool true) ha (by kernel_rfl) (by kernel_rfl) ?_
          clear ha; intro a ha
          refine st_val (.bool true) ha (by kernel_rfl) (by kernel_rfl) ?_
          clear ha; intro a ha
          refine st_val (.pointer (some ⟨x.g, 0, none⟩)) ha (by kernel_rfl) (by kernel_rfl) ?_
          clear ha; intro a ha
          refine st_val (.int .i64 ((j : Nat) : Int)) ha (by kernel_rfl) (by kernel_rfl) ?_
          clear ha; intro a ha
          refine st_val (.pointer (some ⟨x.g, 0, none⟩)) ha (by kernel_rfl) (by kernel_rfl) ?_
          clear ha; intro a ha
          refine st_val (.pointer (some ⟨x.g, 3, none⟩)) ha (by kernel_rfl) (by kernel_rfl) ?_
          clear ha; intro a ha
          refine st_val (.pointer (some ⟨x.g, 3 + j * 1, none⟩)) ha (by kernel_rfl) (run_indexArrO (kd := .i64) (of_ := 3) (z := ((j : Nat) : Int)) j rfl Tryz.underlying179 Tryz.sizeOf177 (by kernel_rfl) (by kernel_rfl) rfl (by first | assumption | omega) _) ?_
          clear ha; intro a ha
          refine st_val (.pointer (some ⟨y.g, 0, none⟩)) ha (by kernel_rfl) (run_load1 (of_ := 3 + j * 1) (cs := ncF x ((canon (hd :: r)) p)) (skF_at hx (s.at_ (j := 3) rfl).1) rfl (by kernel_rfl) Tryz.isAgg177 (ld_some hj hnx)) ?_
          clear ha; intro a ha
          refine st_val (.pointer (some ⟨y.g, 0, none⟩)) ha (by kernel_rfl) (by kernel_rfl) ?_
          clear ha; intro a ha
          refine st_val (.pointer (some ⟨y.g, 0, none⟩)) ha (by kernel_rfl) (by kernel_rfl) ?_
          clear ha; intro a ha
          refine st_val (.string (str y.k)) ha (by kernel_rfl) (run_load1 (of_ := 0) (cs := ncF y ((canon (hd :: r)) q)) (skF_at hy (s.at_ (j := 3) rfl).1) rfl (by kernel_rfl) Tryz.isAgg9 rfl) ?_
          clear ha; intro a ha
          refine st_val (.string (str key)) ha (by kernel_rfl) (by kernel_rfl) ?_
          clear ha; intro a ha
          refine st_val (.bool (decide (y.k < key))) ha (by kernel_rfl) (run_slss (p := y.k) (q := key) rfl (by kernel_rfl) (by kernel_rfl) _) ?_
          clear ha; intro a ha
          refine st_val (.bool (decide (y.k < key))) ha (by kernel_rfl) (by kernel_rfl) ?_
          clear ha; intro a ha
          refine wpList_nil ?_
          refine then_normal ?_
          refine wp_part (decide (y.k < key)) ha rfl (by kernel_rfl) (fun hb => ?_) (fun hb => ?_)
          · rw [hb] at ha; replace hb : (y.k < key) := of_decide_eq_true hb
            refine wp_skip ?_
            refine then_normal ?_
            refine wp_block ?_
            refine wp_region_lit ?_
            refine st_val (.pointer (some ⟨x.g, 0, none⟩)) ha (by kernel_rfl) (by kernel_rfl) ?_
            clear ha; intro a ha
            refine st_val (.int .i64 ((j : Nat) : Int)) ha (by kernel_rfl) (by kernel_rfl) ?_
            clear ha; intro a ha
            refine st_val (.pointer (some ⟨x.g, 0, none⟩)) ha (by kernel_rfl) (by kernel_rfl) ?_
            clear ha; intro a ha
            refine st_val (.pointer (some ⟨x.g, 3, none⟩)) ha (by kernel_rfl) (by kernel_rfl) ?_
            clear ha; intro a ha
            refine st_val (.pointer (some ⟨x.g, 3 + j * 1, none⟩)) ha (by kernel_rfl) (run_indexArrO (kd := .i64) (of_ := 3) (z := ((j : Nat) : Int)) j rfl Tryz.underlying179 Tryz.sizeOf177 (by kernel_rfl) (by kernel_rfl) rfl (by first | assumption | omega) _) ?_
            clear ha; intro a ha
            refine st_val (.pointer (some ⟨y.g, 0, none⟩)) ha (by kernel_rfl) (run_load1 (of_ := 3 + j * 1) (cs := ncF x ((canon (hd :: r)) p)) (skF_at hx (s.at_ (j := 3) rfl).1) rfl (by kernel_rfl) Tryz.isAgg177 (ld_some hj hnx)) ?_
            clear ha; intro a ha
            refine st_val (.pointer (some ⟨y.g, 0, none⟩)) ha (by kernel_rfl) (by kernel_rfl) ?_
            clear ha; intro a ha
            refine wpList_nil ?_
            refine block_normal ?_
            refine then_normal ?_
            exact ⟨⟨q, y⟩, by have h1 := (List.getElem?_eq_some_iff.1 hy).1; show (hd :: r).length - q < (hd :: r).length - p; omega, (Has.cons ha (by kernel_rfl) (by kernel_rfl) (Has.cons ha (by kernel_rfl) (by kernel_rfl) (Has.cons ha (by kernel_rfl) (by kernel_rfl) (Has.cons ha (by kernel_rfl) (by kernel_rfl) (Has.cons ha (by kernel_rfl) (by kernel_rfl) (Has.cons ha (by kernel_rfl) (by kernel_rfl) (Has.nil ha))))))), s, hy, .inr hb, by omega⟩
          · rw [hb] at ha; replace hb : ¬ (y.k < key) := of_decide_eq_false hb
            have hlast : LastAt (hd :: r) key j p := LastAt.ge ok hx (by omega) hk hpq hy hb hall
            refine wp_exit ?_
            refine then_exit ?_
            refine then_exit ?_
            refine block_hit ?_
            refine then_normal ?_
            refine wp_region_lit ?_
            refine st_val (.int .i64 ((j : Nat) : Int)) ha (by kernel_rfl) (by kernel_rfl) ?_
            clear ha; intro a ha
            refine st_val (.pointer (some ⟨x.g, 0, none⟩)) ha (by kernel_rfl) (by kernel_rfl) ?_
            clear ha; intro a ha
            refine st_val (.pointer (some ⟨g2, j, none⟩)) ha (by kernel_rfl) (run_indexArr (kd := .i64) (i := ((j : Nat) : Int)) j rfl Tryz.underlying179 Tryz.sizeOf177 (by kernel_rfl) (by kernel_rfl) rfl (by first | assumption | omega) _) ?_
            clear ha; intro a ha
            refine st_exd ha (by kernel_rfl) (c16_ex (oc := oc) (i := j) hj (ex_store (of_ := j) 0 [.pointer (some ⟨x.g, 0, none⟩)] s rfl rfl (by kernel_rfl) (by kernel_rfl) (Tryz.sizeOf177 _) rfl (by simp [Value.oneCell']) (by show j + 1 ≤ 16; omega))) ?_
            clear ha; rintro w a s ha
            replace s : St W (.blk g2 [upO oc j (.pointer (some ⟨x.g, 0, none⟩)) 0, upO oc j (.pointer (some ⟨x.g, 0, none⟩)) 1, upO oc j (.pointer (some ⟨x.g, 0, none⟩)) 2, upO oc j (.pointer (some ⟨x.g, 0, none⟩)) 3, upO oc j (.pointer (some ⟨x.g, 0, none⟩)) 4, upO oc j (.pointer (some ⟨x.g, 0, none⟩)) 5, upO oc j (.pointer (some ⟨x.g, 0, none⟩)) 6, upO oc j (.pointer (some ⟨x.g, 0, none⟩)) 7, upO oc j (.pointer (some ⟨x.g, 0, none⟩)) 8, upO oc j (.pointer (some ⟨x.g, 0, none⟩)) 9, upO oc j (.pointer (some ⟨x.g, 0, none⟩)) 10, upO oc j (.pointer (some ⟨x.g, 0, none⟩)) 11, upO oc j (.pointer (some ⟨x.g, 0, none⟩)) 12, upO oc j (.pointer (some ⟨x.g, 0, none⟩)) 13, upO oc j (.pointer (some ⟨x.g, 0, none⟩)) 14, upO oc j (.pointer (some ⟨x.g, 0, none⟩)) 15] 179 :: .blk g1 [.pointer none, .pointer none, .pointer none, .pointer none, .pointer none, .pointer none, .pointer none, .pointer none, .pointer none, .pointer none, .pointer none, .pointer none, .pointer none, .pointer none, .pointer none, .pointer none] 179 :: .blk gl [.pointer (some ⟨hd.g, 0, none⟩), .int .i64 many] 220 :: SkF (hd :: r) (canon (hd :: r)) :: L) w := s
            refine wpList_nil ?_
            refine block_normal ?_
            refine then_normal ?_
            refine wp_region_lit ?_
            refine st_val (.int .i64 ((j : Nat) : Int)) ha (by kernel_rfl) (by kernel_rfl) ?_
            clear ha; intro a ha
            refine st_val (.int .i64 (((j : Nat) : Int) - (1 : Int))) ha (by kernel_rfl) (run_arith (((j : Nat) : Int) - (1 : Int)) (((j : Nat) : Int) - (1 : Int)) rfl (by kernel_rfl) (by kernel_rfl) (.inr (.inl ⟨rfl, rfl⟩)) (by rw [wrap64_in (by omega)]) _) ?_
            clear ha; intro a ha
            refine st_val (.int .i64 (((j : Nat) : Int) - (1 : Int))) ha (by kernel_rfl) (by kernel_rfl) ?_
            clear ha; intro a ha
            refine wpList_nil ?_
            refine then_normal ?_
            exact ⟨⟨j, p, x, upO oc j (.pointer (some ⟨x.g, 0, none⟩))⟩, by show j < j + 1; omega, (Has.cons ha (by kernel_rfl) (by kernel_rfl) (Has.cons ha (by kernel_rfl) (by kernel_rfl) (Has.cons ha (by kernel_rfl) (by kernel_rfl) (Has.cons ha (by kernel_rfl) (by kernel_rfl) (Has.cons ha (by kernel_rfl) (by kernel_rfl) (Has.cons ha (by kernel_rfl) (by kernel_rfl) (Has.nil ha))))))), s, by omega, hx, hk, by omega, hA.put hlast hx⟩
    · rw [hb] at ha; replace hb : ¬ ((((i : Nat) : Int) - 1) ≥ (0 : Int)) := of_decide_eq_false hb
      have hi0 : i = 0 := by omega
      subst hi0
      refine wp_exit ?_
      refine then_exit ?_
      refine then_exit ?_
      refine block_hit ?_
      refine then_normal ?_
      refine wp_seq ?_
      refine wp_region_lit ?_
      refine st_val (.agg #[oc 0, oc 1, oc 2, oc 3, oc 4, oc 5, oc 6, oc 7, oc 8, oc 9, oc 10, oc 11, oc 12, oc 13, oc 14, oc 15]) ha (by kernel_rfl) (run_loadN (of_ := 0) [oc 0, oc 1, oc 2, oc 3, oc 4, oc 5, oc 6, oc 7, oc 8, oc 9, oc 10, oc 11, oc 12, oc 13, oc 14, oc 15] (s.blkIs 0 rfl) rfl (by kernel_rfl) Tryz.isAgg179 Tryz.sizeOf179 rfl (Nat.le_of_ble_eq_true rfl)) ?_
      clear ha; intro a ha
      refine st_exd ha (by kernel_rfl) (ex_store (of_ := 0) 1 [oc 0, oc 1, oc 2, oc 3, oc 4, oc 5, oc 6, oc 7, oc 8, oc 9, oc 10, oc 11, oc 12, oc 13, oc 14, oc 15] s rfl rfl (by kernel_rfl) (by kernel_rfl) (Tryz.sizeOf179 _) rfl hA.one (Nat.le_of_ble_eq_true rfl)) ?_
      clear ha; rintro w a s ha
      replace s : St W (.blk g2 [oc 0, oc 1, oc 2, oc 3, oc 4, oc 5, oc 6, oc 7, oc 8, oc 9, oc 10, oc 11, oc 12, oc 13, oc 14, oc 15] 179 :: .blk g1 [oc 0, oc 1, oc 2, oc 3, oc 4, oc 5, oc 6, oc 7, oc 8, oc 9, oc 10, oc 11, oc 12, oc 13, oc 14, oc 15] 179 :: .blk gl [.pointer (some ⟨hd.g, 0, none⟩), .int .i64 many] 220 :: SkF (hd :: r) (canon (hd :: r)) :: L) w := s
      refine wpList_nil ?_
      refine then_normal ?_
      refine wp_ret ?_
      refine ret_with (v := .agg #[oc 0, oc 1, oc 2, oc 3, oc 4, oc 5, oc 6, oc 7, oc 8, oc 9, oc 10, oc 11, oc 12, oc 13, oc 14, oc 15]) ha (results_1 rfl ha (res_cellN (s.blkIs 1 rfl) (by kernel_rfl) (by kernel_rfl) Tryz.isAgg179 Tryz.sizeOf179 rfl)) ?_
      replace s := (s.at_ (j := 3) rfl).at_ (j := 3) rfl
      replace s : St W (.blk gl [.pointer (some ⟨hd.g, 0, none⟩), .int .i64 many] 220 :: SkF (hd :: r) (canon (hd :: r)) :: L) w := s.keep 2 2
      exact ⟨oc, rfl, hA, s⟩

end Go.Proofs.YtagbmfdheppmoaaGreatDoor.B
