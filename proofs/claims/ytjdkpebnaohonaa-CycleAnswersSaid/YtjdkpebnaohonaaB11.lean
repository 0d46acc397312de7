import Derived.Test.YtjdkpebnaohonaaB10
namespace Go.Proofs.Ytjdkpebnaohonaa.B
open Go.RowKit Go.Maps Go.Proofs.Ytjdkpebnaohonaa.Sep Go.Proofs.Ytjdkpebnaohonaa.P
set_option linter.unusedVariables false
set_option linter.unusedSimpArgs false
theorem Prt.len {E : List Arc} {k : Nat} {R : List Int} (p : Prt E k R) : R.length ≤ E.length := by
  have hs : R.Nodup := p.rise.imp fun h => by omega
  have := nodup_len (l := R) (m := E.map (·.1)) hs fun x hx => by
    obtain ⟨⟨b, hb⟩, _⟩ := (p.mem x).1 hx
    exact List.mem_map.2 ⟨_, List.mem_of_mem_take hb, rfl⟩
  simpa using this
theorem mget_first {l : List Arc} {k : Nat} {x : Arc} (h : l[k]? = some x) (hn : ∀ (i : Nat) (y : Arc), i < k → l[i]? = some y → y.1 ≠ x.1) : mget l x.1 = some x.2 := by
  induction l generalizing k with
  | nil => cases h
  | cons y l ih =>
    cases k with
    | zero => cases h; simp [mget]
    | succ k =>
      rw [mget, if_neg (hn 0 y (by omega) rfl)]
      exact ih h fun i z hi hz => hn (i + 1) z (by omega) hz
theorem mget_never {l : List Arc} {q : Int} (hn : ∀ (i : Nat) (y : Arc), l[i]? = some y → y.1 ≠ q) : mget l q = none :=
  mget_none fun p hp => by
    obtain ⟨i, hi, e⟩ := List.mem_iff_getElem.1 hp
    exact hn i p (by rw [List.getElem?_eq_getElem hi, e])
theorem okA_take {E : List Arc} {k : Nat} {v : Arc} (h : ∀ x ∈ E.take k, okA x) (hv : E[k]? = some v) (hx : okA v) : ∀ x ∈ E.take (k + 1), okA x := by
  obtain ⟨hk, rfl⟩ := List.getElem?_eq_some_iff.1 hv
  rw [List.take_succ_eq_append_getElem hk]
  intro x hm
  rcases List.mem_append.1 hm with hm | hm
  · exact h x hm
  · have : x = E[k] := by simpa using hm
    subst this; exact hx
/-- The best of the first i, where the list rises. -/
def Best (p : Int → Int) (R : List Int) (i : Nat) (m : Int) (is : Bool) : Prop := (i = 0 ∧ m = 0 ∧ is = false) ∨ (0 < i ∧ is = true ∧ IsMin p (R.take i) m)
theorem Best.first {p : Int → Int} {R : List Int} {i : Nat} {m x : Int} (b : Best p R i m false) (hx : R[i]? = some x) : Best p R (i + 1) x true := by
  rcases b with ⟨rfl, _, _⟩ | ⟨_, h, _⟩
  · exact .inr ⟨by omega, rfl, IsMin.one p hx⟩
  · cases h
theorem Best.keep {p : Int → Int} {R : List Int} {i : Nat} {m x : Int} (hr : R.Pairwise (· < ·)) (b : Best p R i m true) (hx : R[i]? = some x) (hn : ¬ p x < p m) : Best p R (i + 1) m true := by
  obtain ⟨hi, rfl⟩ := List.getElem?_eq_some_iff.1 hx
  rcases b with ⟨_, _, h⟩ | ⟨h0, _, h⟩
  · cases h
  · refine .inr ⟨by omega, rfl, ?_⟩
    rw [List.take_succ_eq_append_getElem hi]
    refine ⟨List.mem_append.2 (.inl h.mem), fun y hy => ?_⟩
    rcases List.mem_append.1 hy with hy | hy
    · exact h.least y hy
    · have : y = R[i] := by simpa using hy
      subst this
      obtain ⟨j, hj, e⟩ := List.mem_iff_getElem.1 h.mem
      rw [List.length_take] at hj
      rw [List.getElem_take] at e
      have := List.pairwise_iff_getElem.1 hr j i (by omega) hi (by omega)
      omega
theorem Best.turn {p : Int → Int} {R : List Int} {i : Nat} {m x : Int} (b : Best p R i m true) (hx : R[i]? = some x) (hn : p x < p m) : Best p R (i + 1) x true := by
  obtain ⟨hi, rfl⟩ := List.getElem?_eq_some_iff.1 hx
  rcases b with ⟨_, _, h⟩ | ⟨h0, _, h⟩
  · cases h
  · refine .inr ⟨by omega, rfl, ?_⟩
    rw [List.take_succ_eq_append_getElem hi]
    refine ⟨List.mem_append.2 (.inr (by simp)), fun y hy => ?_⟩
    rcases List.mem_append.1 hy with hy | hy
    · have := h.least y hy; omega
    · have : y = R[i] := by simpa using hy
      subst this; omega
theorem who_next {l : List Arc} {k : Nat} {v : Arc} (hv : l[k]? = some v) (hw : whoOk (l.take k)) (h1 : isIdB v.1 = true ∧ 0 ≤ v.2 ∧ v.2 ≤ 9007199254740991) (h2 : ∀ (i : Nat) (y : Arc), i < k → l[i]? = some y → y.1 ≠ v.1) : whoOk (l.take (k + 1)) := by
  refine who_step hv ?_ h1 hw
  rw [mget_never fun i y hy => ?_]; rfl
  rw [List.getElem?_take] at hy
  split at hy
  · exact h2 i y (by assumption) hy
  · cases hy
theorem who_bad {l : List Arc} {i k : Nat} {v y : Arc} (hv : l[k]? = some v) (hy : l[i]? = some y) (hi : i < k) (e : y.1 = v.1) : ¬ whoOk l := by
  rintro ⟨h, _⟩
  obtain ⟨h1, rfl⟩ := List.getElem?_eq_some_iff.1 hv
  obtain ⟨h2, rfl⟩ := List.getElem?_eq_some_iff.1 hy
  have := List.pairwise_iff_getElem.1 h i k (by simpa using h2) (by simpa using h1) hi
  simp at this
  exact this e

theorem take_reads {w : World} {A : Option Addr} {n k : Nat} {R : List Int} (hk : k ≤ n) (hl : R.length = n) (h : Reads w 1 A n (ints R)) : Reads w 1 A k (ints (R.take k)) := by
  have := Reads.take h hk
  rwa [Nat.mul_one, ints, ← List.map_take] at this
theorem rest_reads {w : World} {A : Option Addr} {n k c : Nat} {R : List Int} (hk : k ≤ n) (hl : R.length = n) (hc : n ≤ c) (h : Reads w 1 A n (ints R)) : Reads w 1 (slA A k c 1) (n - k) (ints (R.drop k)) := by
  have := Reads.sub h hk (Nat.le_refl n) hc
  rw [Nat.mul_one, Nat.mul_one, List.extract_eq_take_drop, List.take_of_length_le (by simp [ints]; omega), ints, ← List.map_drop] at this
  exact this

theorem rising_any (W : World) (L : List Chunk) (w : World) (A : Option Addr) (n ca : Nat) (R : List Int) (hR : Knows L fun w => Reads w 1 A n (ints R)) (hRl : R.length = n) (hRn : n ≤ 1000000) (hnc : n ≤ ca) (a0 : Int) (s : St W L w) :
    Calls Try.prog 31 #[.slice A n ca, .int .i64 a0] w fun e w' => ∃ A' c' Q, e = .returned (.slice A' Q.length c') ∧ Ins R a0 Q ∧ St W (Own 3 1 A' Q.length c' (ints Q) :: L) w' := by
  refine enter_args (l := [.slice A n ca, .int .i64 a0]) Try.func31 rfl rfl (Nat.le_of_ble_eq_true rfl) ?_
  intro a ha; replace ha : Has a 35 [(0, .slice A n ca), (1, .int .i64 a0)] := ha
  refine wp_seq ?_
  refine wp_region_lit ?_
  refine st_val (.slice none 0 0) ha (by kernel_rfl) (by kernel_rfl) ?_
  clear ha; intro a ha
  refine wpList_nil ?_
  refine then_normal ?_
  refine wp_seq ?_
  refine wp_region_lit ?_
  refine st_val (.int .i64 0) ha (by kernel_rfl) (by kernel_rfl) ?_
  clear ha; intro a ha
  refine wpList_nil ?_
  refine then_normal ?_
  refine wp_seq ?_
  refine wp_block ?_
  refine wp_loopG (G := Nat) (fun k a w => Has a 35 [(0, .slice A n ca), (1, .int .i64 a0), (5, .int .i64 ((k : Nat) : Int))] ∧ St W (L) w ∧ (k ≤ n ∧ ∀ (i : Nat) (x : Int), i < k → R[i]? = some x → x < a0)) (fun k => n - k) 0 ?_ ?_
  · exact ⟨(Has.cons ha (by kernel_rfl) (by kernel_rfl) (Has.cons ha (by kernel_rfl) (by kernel_rfl) (Has.cons ha (by kernel_rfl) (by kernel_rfl) (Has.nil ha)))), s, ⟨Nat.zero_le _, fun i x hi => absurd hi (Nat.not_lt_zero _)⟩⟩
  · clear ha s; rintro k a w ⟨ha, s, hp⟩
    refine wp_seq ?_
    refine wp_seq ?_
    refine wp_region_lit ?_
    refine st_val (.int .i64 ((k : Nat) : Int)) ha (by kernel_rfl) (by kernel_rfl) ?_
    clear ha; intro a ha
    refine st_val (.slice A n ca) ha (by kernel_rfl) (by kernel_rfl) ?_
    clear ha; intro a ha
    refine st_val (.int .i64 ((n : Nat) : Int)) ha (by kernel_rfl) (by kernel_rfl) ?_
    clear ha; intro a ha
    refine st_val (.bool (decide (((k : Nat) : Int) < ((n : Nat) : Int)))) ha (by kernel_rfl) (by kernel_rfl) ?_
    clear ha; intro a ha
    refine st_val (.bool (decide (((k : Nat) : Int) < ((n : Nat) : Int)))) ha (by kernel_rfl) (by kernel_rfl) ?_
    clear ha; intro a ha
    rcases Bool.eq_false_or_eq_true (decide (((k : Nat) : Int) < ((n : Nat) : Int))) with hb | hb
    · rw [hb] at ha; replace hb : (((k : Nat) : Int) < ((n : Nat) : Int)) := of_decide_eq_true hb
      obtain ⟨x, hx⟩ : ∃ x, R[k]? = some x := ⟨_, List.getElem?_eq_getElem (by omega)⟩
      obtain ⟨adr, hA⟩ := Reads.addr (hR _ s.sat) (by omega)
      subst hA
      refine st_val (.slice (some adr) n ca) ha (by kernel_rfl) (by kernel_rfl) ?_
      clear ha; intro a ha
      refine st_val (.int .i64 ((k : Nat) : Int)) ha (by kernel_rfl) (by kernel_rfl) ?_
      clear ha; intro a ha
      refine st_val (.pointer (some (adr.add (k * 1)))) ha (by kernel_rfl) (run_indexAddr' (kd := .i64) (i := ((k : Nat) : Int)) (n := n) (c := ca) k rfl Try.underlying25 Try.sizeOf3 (by kernel_rfl) (by kernel_rfl) rfl (by first | assumption | omega) _) ?_
      clear ha; intro a ha
      refine st_val (.int .i64 x) ha (by kernel_rfl) (run_loadAt1 (i := k * 1) ((hR _ s.sat)) rfl (by kernel_rfl) Try.isAgg3 (by rw [Nat.mul_one]; exact ints_at hx)) ?_
      clear ha; intro a ha
      refine st_val (.int .i64 a0) ha (by kernel_rfl) (by kernel_rfl) ?_
      clear ha; intro a ha
      refine st_val (.bool (decide (x < a0))) ha (by kernel_rfl) (by kernel_rfl) ?_
      clear ha; intro a ha
      refine st_val (.bool (decide (x < a0))) ha (by kernel_rfl) (by kernel_rfl) ?_
      clear ha; intro a ha
      refine wpList_nil ?_
      refine then_normal ?_
      refine wp_part (decide (x < a0)) ha rfl (by kernel_rfl) (fun hb => ?_) (fun hb => ?_)
      · rw [hb] at ha; replace hb : (x < a0) := of_decide_eq_true hb
        refine wp_skip ?_
        refine then_normal ?_
        refine wp_block ?_
        refine wp_region_lit ?_
        refine st_val (.int .i64 ((k : Nat) : Int)) ha (by kernel_rfl) (by kernel_rfl) ?_
        clear ha; intro a ha
        refine st_val (.int .i64 ((k + 1 : Nat) : Int)) ha (by kernel_rfl) (run_arith (((k : Nat) : Int) + (1 : Int)) ((k + 1 : Nat) : Int) rfl (by kernel_rfl) (by kernel_rfl) (.inl ⟨rfl, rfl⟩) (by rw [wrap64_in (by omega)]; try omega) _) ?_
        clear ha; intro a ha
        refine st_val (.int .i64 ((k + 1 : Nat) : Int)) ha (by kernel_rfl) (by kernel_rfl) ?_
        clear ha; intro a ha
        refine wpList_nil ?_
        refine block_normal ?_
        refine then_normal ?_
        exact ⟨k + 1, by omega, (Has.cons ha (by kernel_rfl) (by kernel_rfl) (Has.cons ha (by kernel_rfl) (by kernel_rfl) (Has.cons ha (by kernel_rfl) (by kernel_rfl) (Has.nil ha)))), s, by omega, fun i y hi hy => by
      rcases Nat.lt_or_ge i k with h | h
      · exact hp.2 i y h hy
      · have hik : i = k := by omega
        rw [hik, hx] at hy; cases hy; exact hb⟩
      · rw [hb] at ha; replace hb : ¬ (x < a0) := of_decide_eq_false hb
        have hkn : k ≤ n := hp.1
        have hins := Ins.of (R := R) (a := a0) (k := k) (by omega) hp.2 (fun y hy => by rw [hx] at hy; cases hy; exact hb)
        refine wp_exit ?_
        refine then_exit ?_
        refine then_exit ?_
        refine block_hit ?_
        refine then_normal ?_
        refine wp_seq ?_
        refine wp_region_lit ?_
        refine st_val (.slice none 0 0) ha (by kernel_rfl) (by kernel_rfl) ?_
        clear ha; intro a ha
        refine wpList_nil ?_
        refine then_normal ?_
        refine wp_seq ?_
        refine wp_region_lit ?_
        refine st_val (.slice none 0 0) ha (by kernel_rfl) (by kernel_rfl) ?_
        clear ha; intro a ha
        refine st_val (.slice (some adr) n ca) ha (by kernel_rfl) (by kernel_rfl) ?_
        clear ha; intro a ha
        refine st_val (.int .i64 ((k : Nat) : Int)) ha (by kernel_rfl) (by kernel_rfl) ?_
        clear ha; intro a ha
        refine st_val (.slice (some adr) k ca) ha (by kernel_rfl) (run_slice0 (n := n) (c := ca) k ca rfl Try.underlying25 Try.sizeOf3 (by kernel_rfl) (fun _ => rfl) bnd_none (bnd_some .i64 (by kernel_rfl)) bnd_none (by omega) (by omega) _) ?_
        clear ha; intro a ha
        replace s := Own.none_ (e := 3) (k := 1) none s
        replace s : St W (Own 3 1 none 0 0 [] :: L) w := s
        refine st_ex ha (by kernel_rfl) (ex_append (m := k) (d' := ca) elt25 (by decide) 0 (ints (R.take k)) s rfl (by kernel_rfl) (by kernel_rfl) rfl (take_reads hkn hRl (hR _ s.sat.tail)) (ints_one _) (by simp only [maxLen]; omega) (by omega)) ?_
        clear ha; rintro _ w a ⟨A1, c2, rfl, hA_, s⟩ ha
        replace s : St W (Own 3 1 A1 (0 + k) c2 ([] ++ (ints (R.take k))) :: L) w := s
        refine st_val (.slice A1 (0 + k) c2) ha (by kernel_rfl) (by kernel_rfl) ?_
        clear ha; intro a ha
        refine wpList_nil ?_
        refine then_normal ?_
        refine wp_seq ?_
        refine wp_region_lit ?_
        refine st_val (.slice A1 (0 + k) c2) ha (by kernel_rfl) (by kernel_rfl) ?_
        clear ha; intro a ha
        refine st_val (.int .i64 a0) ha (by kernel_rfl) (by kernel_rfl) ?_
        clear ha; intro a ha
        refine st_ex ha (by kernel_rfl) (ex_buildSlice elt25 _ zs25 [.int .i64 a0] s rfl (by kernel_rfl) (by decide)) ?_
        clear ha; rintro _ w a ⟨g3, rfl, s⟩ ha
        replace s : St W (.blk g3 [.int .i64 a0] 3 :: Own 3 1 A1 (0 + k) c2 ([] ++ (ints (R.take k))) :: L) w := s
        refine st_ex ha (by kernel_rfl) (ex_append (m := 1) (d' := 1) elt25 (by decide) 1 [.int .i64 a0] s rfl (by kernel_rfl) (by kernel_rfl) rfl (reads_blk (s.blkIs 0 rfl) rfl) (by simp [Value.oneCell']) (by simp only [maxLen]; omega) (by omega)) ?_
        clear ha; rintro _ w a ⟨A4, c5, rfl, hA_, s⟩ ha
        replace s : St W (.blk g3 [.int .i64 a0] 3 :: Own 3 1 A4 (0 + k + 1) c5 (([] ++ (ints (R.take k))) ++ [.int .i64 a0]) :: L) w := s
        refine st_val (.slice A4 (0 + k + 1) c5) ha (by kernel_rfl) (by kernel_rfl) ?_
        clear ha; intro a ha
        refine wpList_nil ?_
        refine then_normal ?_
        refine wp_seq ?_
        refine wp_region_lit ?_
        refine st_val (.slice A4 (0 + k + 1) c5) ha (by kernel_rfl) (by kernel_rfl) ?_
        clear ha; intro a ha
        refine st_val (.slice (some adr) n ca) ha (by kernel_rfl) (by kernel_rfl) ?_
        clear ha; intro a ha
        refine st_val (.int .i64 ((k : Nat) : Int)) ha (by kernel_rfl) (by kernel_rfl) ?_
        clear ha; intro a ha
        refine st_val (.slice (slA (some adr) k ca 1) (n - k) (ca - k)) ha (by kernel_rfl) (run_slice (n := n) (c := ca) k n ca rfl Try.underlying25 Try.sizeOf3 (by kernel_rfl) (fun h => by cases h) bnd_none bnd_none (bnd_some .i64 (by kernel_rfl)) (by omega) (by omega) (by omega) _) ?_
        clear ha; intro a ha
        refine st_ex ha (by kernel_rfl) (ex_append (m := (n - k)) (d' := (ca - k)) elt25 (by decide) 1 (ints (R.drop k)) s rfl (by kernel_rfl) (by kernel_rfl) rfl (rest_reads hkn hRl hnc (hR _ s.sat.tail.tail)) (ints_one _) (by simp only [maxLen]; omega) (by omega)) ?_
        clear ha; rintro _ w a ⟨A6, c7, rfl, hA_, s⟩ ha
        replace s : St W (.blk g3 [.int .i64 a0] 3 :: Own 3 1 A6 (0 + k + 1 + (n - k)) c7 ((([] ++ (ints (R.take k))) ++ [.int .i64 a0]) ++ (ints (R.drop k))) :: L) w := s
        refine st_val (.slice A6 (0 + k + 1 + (n - k)) c7) ha (by kernel_rfl) (by kernel_rfl) ?_
        clear ha; intro a ha
        refine wpList_nil ?_
        refine then_normal ?_
        refine wp_ret ?_
        refine ret_with (v := .slice A6 (0 + k + 1 + (n - k)) c7) ha (results_1 rfl ha (res_tmp (by kernel_rfl) (by kernel_rfl))) ?_
        replace s := s.at_ (j := 1) rfl
        replace s : St W (Own 3 1 A6 (0 + k + 1 + (n - k)) c7 ((([] ++ (ints (R.take k))) ++ [.int .i64 a0]) ++ (ints (R.drop k))) :: .blk g3 [.int .i64 a0] 3 :: L) w := s
        replace s : St W (Own 3 1 A6 (0 + k + 1 + (n - k)) c7 ((([] ++ (ints (R.take k))) ++ [.int .i64 a0]) ++ (ints (R.drop k))) :: L) w := St.mid (A := [Own 3 1 A6 (0 + k + 1 + (n - k)) c7 ((([] ++ (ints (R.take k))) ++ [.int .i64 a0]) ++ (ints (R.drop k)))]) (B := [.blk g3 [.int .i64 a0] 3]) s
        have hql := hins.len
        have hq : (R.take k ++ [a0] ++ R.drop k).length = 0 + k + 1 + (n - k) := by omega
        rw [← hq] at s ⊢
        exact ⟨_, _, _, rfl, hins, by simpa [ints, encI] using s⟩
    · rw [hb] at ha; replace hb : ¬ (((k : Nat) : Int) < ((n : Nat) : Int)) := of_decide_eq_false hb
      have hkn : k ≤ n := hp.1
      have hins := Ins.of (R := R) (a := a0) (k := k) (by omega) hp.2 (fun x hx => by have := (List.getElem?_eq_some_iff.1 hx).1; omega)
      refine st_pass ha (by kernel_rfl) ?_
      clear ha; intro a ha
      refine st_pass ha (by kernel_rfl) ?_
      clear ha; intro a ha
      refine st_pass ha (by kernel_rfl) ?_
      clear ha; intro a ha
      refine st_pass ha (by kernel_rfl) ?_
      clear ha; intro a ha
      refine st_pass ha (by kernel_rfl) ?_
      clear ha; intro a ha
      refine st_pass ha (by kernel_rfl) ?_
      clear ha; intro a ha
      refine st_val (.bool false) ha (by kernel_rfl) (by kernel_rfl) ?_
      clear ha; intro a ha
      refine wpList_nil ?_
      refine then_normal ?_
      refine wp_false ha rfl (by kernel_rfl) ?_
      refine wp_exit ?_
      refine then_exit ?_
      refine then_exit ?_
      refine block_hit ?_
      refine then_normal ?_
      refine wp_seq ?_
      refine wp_region_lit ?_
      refine st_val (.slice none 0 0) ha (by kernel_rfl) (by kernel_rfl) ?_
      clear ha; intro a ha
      refine wpList_nil ?_
      refine then_normal ?_
      refine wp_seq ?_
      refine wp_region_lit ?_
      refine st_val (.slice none 0 0) ha (by kernel_rfl) (by kernel_rfl) ?_
      clear ha; intro a ha
      refine st_val (.slice A n ca) ha (by kernel_rfl) (by kernel_rfl) ?_
      clear ha; intro a ha
      refine st_val (.int .i64 ((k : Nat) : Int)) ha (by kernel_rfl) (by kernel_rfl) ?_
      clear ha; intro a ha
      refine st_val (.slice A k ca) ha (by kernel_rfl) (run_slice0 (n := n) (c := ca) k ca rfl Try.underlying25 Try.sizeOf3 (by kernel_rfl) (fun _ => rfl) bnd_none (bnd_some .i64 (by kernel_rfl)) bnd_none (by omega) (by omega) _) ?_
      clear ha; intro a ha
      replace s := Own.none_ (e := 3) (k := 1) none s
      replace s : St W (Own 3 1 none 0 0 [] :: L) w := s
      refine st_ex ha (by kernel_rfl) (ex_append (m := k) (d' := ca) elt25 (by decide) 0 (ints (R.take k)) s rfl (by kernel_rfl) (by kernel_rfl) rfl (take_reads hkn hRl (hR _ s.sat.tail)) (ints_one _) (by simp only [maxLen]; omega) (by omega)) ?_
      clear ha; rintro _ w a ⟨A8, c9, rfl, hA_, s⟩ ha
      replace s : St W (Own 3 1 A8 (0 + k) c9 ([] ++ (ints (R.take k))) :: L) w := s
      refine st_val (.slice A8 (0 + k) c9) ha (by kernel_rfl) (by kernel_rfl) ?_
      clear ha; intro a ha
      refine wpList_nil ?_
      refine then_normal ?_
      refine wp_seq ?_
      refine wp_region_lit ?_
      refine st_val (.slice A8 (0 + k) c9) ha (by kernel_rfl) (by kernel_rfl) ?_
      clear ha; intro a ha
      refine st_val (.int .i64 a0) ha (by kernel_rfl) (by kernel_rfl) ?_
      clear ha; intro a ha
      refine st_ex ha (by kernel_rfl) (ex_buildSlice elt25 _ zs25 [.int .i64 a0] s rfl (by kernel_rfl) (by decide)) ?_
      clear ha; rintro _ w a ⟨g10, rfl, s⟩ ha
      replace s : St W (.blk g10 [.int .i64 a0] 3 :: Own 3 1 A8 (0 + k) c9 ([] ++ (ints (R.take k))) :: L) w := s
      refine st_ex ha (by kernel_rfl) (ex_append (m := 1) (d' := 1) elt25 (by decide) 1 [.int .i64 a0] s rfl (by kernel_rfl) (by kernel_rfl) rfl (reads_blk (s.blkIs 0 rfl) rfl) (by simp [Value.oneCell']) (by simp only [maxLen]; omega) (by omega)) ?_
      clear ha; rintro _ w a ⟨A11, c12, rfl, hA_, s⟩ ha
      replace s : St W (.blk g10 [.int .i64 a0] 3 :: Own 3 1 A11 (0 + k + 1) c12 (([] ++ (ints (R.take k))) ++ [.int .i64 a0]) :: L) w := s
      refine st_val (.slice A11 (0 + k + 1) c12) ha (by kernel_rfl) (by kernel_rfl) ?_
      clear ha; intro a ha
      refine wpList_nil ?_
      refine then_normal ?_
      refine wp_seq ?_
      refine wp_region_lit ?_
      refine st_val (.slice A11 (0 + k + 1) c12) ha (by kernel_rfl) (by kernel_rfl) ?_
      clear ha; intro a ha
      refine st_val (.slice A n ca) ha (by kernel_rfl) (by kernel_rfl) ?_
      clear ha; intro a ha
      refine st_val (.int .i64 ((k : Nat) : Int)) ha (by kernel_rfl) (by kernel_rfl) ?_
      clear ha; intro a ha
      refine st_val (.slice (slA A k ca 1) (n - k) (ca - k)) ha (by kernel_rfl) (run_slice (n := n) (c := ca) k n ca rfl Try.underlying25 Try.sizeOf3 (by kernel_rfl) (fun h => by cases h) bnd_none bnd_none (bnd_some .i64 (by kernel_rfl)) (by omega) (by omega) (by omega) _) ?_
      clear ha; intro a ha
      refine st_ex ha (by kernel_rfl) (ex_append (m := (n - k)) (d' := (ca - k)) elt25 (by decide) 1 (ints (R.drop k)) s rfl (by kernel_rfl) (by kernel_rfl) rfl (rest_reads hkn hRl hnc (hR _ s.sat.tail.tail)) (ints_one _) (by simp only [maxLen]; omega) (by omega)) ?_
      clear ha; rintro _ w a ⟨A13, c14, rfl, hA_, s⟩ ha
      replace s : St W (.blk g10 [.int .i64 a0] 3 :: Own 3 1 A13 (0 + k + 1 + (n - k)) c14 ((([] ++ (ints (R.take k))) ++ [.int .i64 a0]) ++ (ints (R.drop k))) :: L) w := s
      refine st_val (.slice A13 (0 + k + 1 + (n - k)) c14) ha (by kernel_rfl) (by kernel_rfl) ?_
      clear ha; intro a ha
      refine wpList_nil ?_
      refine then_normal ?_
      refine wp_ret ?_
      refine ret_with (v := .slice A13 (0 + k + 1 + (n - k)) c14) ha (results_1 rfl ha (res_tmp (by kernel_rfl) (by kernel_rfl))) ?_
      replace s := s.at_ (j := 1) rfl
      replace s : St W (Own 3 1 A13 (0 + k + 1 + (n - k)) c14 ((([] ++ (ints (R.take k))) ++ [.int .i64 a0]) ++ (ints (R.drop k))) :: .blk g10 [.int .i64 a0] 3 :: L) w := s
      replace s : St W (Own 3 1 A13 (0 + k + 1 + (n - k)) c14 ((([] ++ (ints (R.take k))) ++ [.int .i64 a0]) ++ (ints (R.drop k))) :: L) w := St.mid (A := [Own 3 1 A13 (0 + k + 1 + (n - k)) c14 ((([] ++ (ints (R.take k))) ++ [.int .i64 a0]) ++ (ints (R.drop k)))]) (B := [.blk g10 [.int .i64 a0] 3]) s
      have hql := hins.len
      have hq : (R.take k ++ [a0] ++ R.drop k).length = 0 + k + 1 + (n - k) := by omega
      rw [← hq] at s ⊢
      exact ⟨_, _, _, rfl, hins, by simpa [ints, encI] using s⟩

set_option maxHeartbeats 1000000 in
theorem rings12_any (W : World) (L : List Chunk) (w : World) (A : Option Addr) (n ca : Nat) (E : List Arc) (hr : Knows L fun w => Reads w 2 A n (egs E)) (hl : E.length = n) (hn : n ≤ 140737488351232) (s : St W L w) :
    Calls Try.prog 12 #[.slice A n ca] w fun e w' => ∃ A' c' R er, e = .returned (.tuple #[.slice A' R.length c', .int .i64 er]) ∧ RingsRes E er R ∧ St W (Own 3 1 A' R.length c' (ints R) :: L) w' := by
  refine enter_args (l := [.slice A n ca]) Try.func12 rfl rfl (Nat.le_of_ble_eq_true rfl) ?_
  intro a ha; replace ha : Has a 72 [(0, .slice A n ca)] := ha
  refine wp_seq ?_
  refine wp_region_lit ?_
  refine st_val (.slice none 0 0) ha (by kernel_rfl) (by kernel_rfl) ?_
  clear ha; intro a ha
  refine st_val (.int .i64 0) ha (by kernel_rfl) (by kernel_rfl) ?_
  clear ha; intro a ha
  refine wpList_nil ?_
  refine then_normal ?_
  refine wp_seq ?_
  refine wp_seq ?_
  refine wp_region_lit ?_
  refine st_val (.slice A n ca) ha (by kernel_rfl) (by kernel_rfl) ?_
  clear ha; intro a ha
  refine st_val (.int .i64 ((n : Nat) : Int)) ha (by kernel_rfl) (by kernel_rfl) ?_
  clear ha; intro a ha
  refine st_val (.bool (decide (((n : Nat) : Int) > (1000 : Int)))) ha (by kernel_rfl) (by kernel_rfl) ?_
  clear ha; intro a ha
  refine wpList_nil ?_
  refine then_normal ?_
  refine wp_part (decide (((n : Nat) : Int) > (1000 : Int))) ha rfl (by kernel_rfl) (fun hb => ?_) (fun hb => ?_)
  · rw [hb] at ha; replace hb : (((n : Nat) : Int) > (1000 : Int)) := of_decide_eq_true hb
    refine wp_seq ?_
    refine wp_region_lit ?_
    refine st_val (.slice none 0 0) ha (by kernel_rfl) (by kernel_rfl) ?_
    clear ha; intro a ha
    refine st_val (.int .i64 5) ha (by kernel_rfl) (by kernel_rfl) ?_
    clear ha; intro a ha
    refine wpList_nil ?_
    refine then_normal ?_
    refine wp_ret ?_
    refine then_ret ?_
    refine ret_with (v := .tuple #[.slice none 0 0, .int .i64 5]) ha (results_2 rfl ha (res_tmp (by kernel_rfl) (by kernel_rfl)) (res_tmp (by kernel_rfl) (by kernel_rfl))) ?_
    exact ⟨none, 0, [], 5, rfl, .inl ⟨by omega, rfl, rfl⟩, Own.none_ none s⟩
  · rw [hb] at ha; replace hb : ¬ (((n : Nat) : Int) > (1000 : Int)) := of_decide_eq_false hb
    refine wp_skip ?_
    refine then_normal ?_
    refine wp_seq ?_
    refine wp_seq ?_
    refine wp_region_lit ?_
    refine st_val (.int .i64 0) ha (by kernel_rfl) (by kernel_rfl) ?_
    clear ha; intro a ha
    refine wpList_nil ?_
    refine then_normal ?_
    refine wp_block ?_
    refine wp_loopG (G := Nat) (fun k a w => Has a 72 [(0, .slice A n ca), (4, .int .i64 ((k : Nat) : Int))] ∧ St W (L) w ∧ (k ≤ n ∧ ∀ x ∈ E.take k, okA x)) (fun k => n - k) 0 ?_ ?_
    · exact ⟨(Has.cons ha (by kernel_rfl) (by kernel_rfl) (Has.cons ha (by kernel_rfl) (by kernel_rfl) (Has.nil ha))), s, ⟨Nat.zero_le _, by simp⟩⟩
    · clear ha s; rintro k a w ⟨ha, s, hp⟩
      refine wp_seq ?_
      refine wp_seq ?_
      refine wp_region_lit ?_
      refine st_val (.int .i64 ((k : Nat) : Int)) ha (by kernel_rfl) (by kernel_rfl) ?_
      clear ha; intro a ha
      refine st_val (.slice A n ca) ha (by kernel_rfl) (by kernel_rfl) ?_
      clear ha; intro a ha
      refine st_val (.int .i64 ((n : Nat) : Int)) ha (by kernel_rfl) (by kernel_rfl) ?_
      clear ha; intro a ha
      refine st_val (.bool (decide (((k : Nat) : Int) < ((n : Nat) : Int)))) ha (by kernel_rfl) (by kernel_rfl) ?_
      clear ha; intro a ha
      refine wpList_nil ?_
      refine then_normal ?_
      refine wp_part (decide (((k : Nat) : Int) < ((n : Nat) : Int))) ha rfl (by kernel_rfl) (fun hb => ?_) (fun hb => ?_)
      · rw [hb] at ha; replace hb : (((k : Nat) : Int) < ((n : Nat) : Int)) := of_decide_eq_true hb
        obtain ⟨v, hv⟩ : ∃ v, E[k]? = some v := ⟨_, List.getElem?_eq_getElem (by omega)⟩
        obtain ⟨ade, hA⟩ := Reads.addr (hr _ s.sat) (by omega)
        subst hA
        refine wp_skip ?_
        refine then_normal ?_
        refine wp_seq ?_
        refine wp_block ?_
        refine wp_seq ?_
        refine wp_region_head 27 (fun w => Reads w 2 (some ade) n (egs E) ∧ True) (by kernel_rfl) (by decide) ?_
        replace s := s.drew; generalize _root_.Go.World.drew _ = w at s ⊢
        have hS : (fun w => Reads w 2 (some ade) n (egs E) ∧ True) w := ⟨(hr _ s.sat), trivial⟩
        refine hd_val (i := 0) (.slice (some ade) n ca) ha rfl (by kernel_rfl) (fun _ _ _ h => h) (by kernel_rfl) (fun w hS => (by kernel_rfl)) hS ?_
        clear ha; intro a ha
        refine hd_val (i := 1) (.int .i64 ((k : Nat) : Int)) ha rfl (by kernel_rfl) (fun _ _ _ h => h) (by kernel_rfl) (fun w hS => (by kernel_rfl)) hS ?_
        clear ha; intro a ha
        refine hd_val (i := 2) (.pointer (some (ade.add (k * 2)))) ha rfl (by kernel_rfl) (fun _ _ _ h => h) (by kernel_rfl) (fun w hS => (run_indexAddr' (kd := .i64) (i := ((k : Nat) : Int)) (n := n) (c := ca) k rfl Try.underlying22 Try.sizeOf37 (by kernel_rfl) (by kernel_rfl) rfl (by first | assumption | omega) _)) hS ?_
        clear ha; intro a ha
        refine hd_val (i := 3) (.pointer (some (ade.add (k * 2 + 0 * 1)))) ha rfl (by kernel_rfl) (fun _ _ _ h => h) (by kernel_rfl) (fun w hS => (run_indexArr_at (kd := .i64) (i := k * 2) (z := 0) 0 rfl Try.underlying37 Try.sizeOf3 (by kernel_rfl) (by kernel_rfl) rfl (by first | assumption | omega) _)) hS ?_
        clear ha; intro a ha
        refine hd_val (i := 4) (.int .i64 v.1) ha rfl (by kernel_rfl) (fun _ _ _ h => h) (by kernel_rfl) (fun w hS => run_loadAt1 (i := k * 2 + 0 * 1) hS.1 rfl (by kernel_rfl) Try.isAgg3 (by rw [Nat.mul_one]; rw [egs_at hv (by omega)]; rfl)) hS ?_
        clear ha; intro a ha
        refine hd_call (i := 5) ha rfl (by kernel_rfl) (by kernel_rfl) (by kernel_rfl) (id28_any W _ w v.1 s) ?_
        clear hS; rintro _ w ⟨rfl, s⟩
        replace s : St W (L) w := s
        have hS : (fun w => Reads w 2 (some ade) n (egs E) ∧ True) w := ⟨(hr _ s.sat), trivial⟩
        refine ⟨_, rfl, hS, ?_⟩; clear ha; intro a ha
        refine hd_val (i := 6) (.bool (!(isIdB v.1))) ha rfl (by kernel_rfl) (fun _ _ _ h => h) (by kernel_rfl) (fun w hS => (by kernel_rfl)) hS ?_
        clear ha; intro a ha
        refine hd_val (i := 7) (.bool (!(isIdB v.1))) ha rfl (by kernel_rfl) (fun _ _ _ h => h) (by kernel_rfl) (fun w hS => (by kernel_rfl)) hS ?_
        clear ha; intro a ha
        rcases Bool.eq_false_or_eq_true (!(isIdB v.1)) with hb | hb
        · rw [hb] at ha; skip
          refine hd_pass (i := 8) ha rfl (by kernel_rfl) (fun _ _ _ h => h) (by kernel_rfl) hS ?_
          clear ha; intro a ha
          refine hd_pass (i := 9) ha rfl (by kernel_rfl) (fun _ _ _ h => h) (by kernel_rfl) hS ?_
          clear ha; intro a ha
          refine hd_pass (i := 10) ha rfl (by kernel_rfl) (fun _ _ _ h => h) (by kernel_rfl) hS ?_
          clear ha; intro a ha
          refine hd_pass (i := 11) ha rfl (by kernel_rfl) (fun _ _ _ h => h) (by kernel_rfl) hS ?_
          clear ha; intro a ha
          refine hd_pass (i := 12) ha rfl (by kernel_rfl) (fun _ _ _ h => h) (by kernel_rfl) hS ?_
          clear ha; intro a ha
          refine hd_pass (i := 13) ha rfl (by kernel_rfl) (fun _ _ _ h => h) (by kernel_rfl) hS ?_
          clear ha; intro a ha
          refine hd_pass (i := 14) ha rfl (by kernel_rfl) (fun _ _ _ h => h) (by kernel_rfl) hS ?_
          clear ha; intro a ha
          refine hd_val (i := 15) (.bool true) ha rfl (by kernel_rfl) (fun _ _ _ h => h) (by kernel_rfl) (fun w hS => (by kernel_rfl)) hS ?_
          clear ha; intro a ha
          refine hd_val (i := 16) (.bool true) ha rfl (by kernel_rfl) (fun _ _ _ h => h) (by kernel_rfl) (fun w hS => (by kernel_rfl)) hS ?_
          clear ha; intro a ha
          refine hd_pass (i := 17) ha rfl (by kernel_rfl) (fun _ _ _ h => h) (by kernel_rfl) hS ?_
          clear ha; intro a ha
          refine hd_pass (i := 18) ha rfl (by kernel_rfl) (fun _ _ _ h => h) (by kernel_rfl) hS ?_
          clear ha; intro a ha
          refine hd_pass (i := 19) ha rfl (by kernel_rfl) (fun _ _ _ h => h) (by kernel_rfl) hS ?_
          clear ha; intro a ha
          refine hd_pass (i := 20) ha rfl (by kernel_rfl) (fun _ _ _ h => h) (by kernel_rfl) hS ?_
          clear ha; intro a ha
          refine hd_pass (i := 21) ha rfl (by kernel_rfl) (fun _ _ _ h => h) (by kernel_rfl) hS ?_
          clear ha; intro a ha
          refine hd_pass (i := 22) ha rfl (by kernel_rfl) (fun _ _ _ h => h) (by kernel_rfl) hS ?_
          clear ha; intro a ha
          refine hd_pass (i := 23) ha rfl (by kernel_rfl) (fun _ _ _ h => h) (by kernel_rfl) hS ?_
          clear ha; intro a ha
          refine hd_pass (i := 24) ha rfl (by kernel_rfl) (fun _ _ _ h => h) (by kernel_rfl) hS ?_
          clear ha; intro a ha
          refine hd_pass (i := 25) ha rfl (by kernel_rfl) (fun _ _ _ h => h) (by kernel_rfl) hS ?_
          clear ha; intro a ha
          refine hd_pass (i := 26) ha rfl (by kernel_rfl) (fun _ _ _ h => h) (by kernel_rfl) hS ?_
          clear ha; intro a ha
          refine Head.done (by kernel_rfl) ?_
          clear hS; simp only [List.drop_succ_cons, List.drop_zero]
          refine st_pass ha (by kernel_rfl) ?_
          clear ha; intro a ha
          refine st_val (.bool true) ha (by kernel_rfl) (by kernel_rfl) ?_
          clear ha; intro a ha
          refine wpList_nil ?_
          refine then_normal ?_
          refine wp_true ha rfl (by kernel_rfl) ?_
          refine wp_seq ?_
          refine wp_region_lit ?_
          refine st_val (.slice none 0 0) ha (by kernel_rfl) (by kernel_rfl) ?_
          clear ha; intro a ha
          refine st_val (.int .i64 2) ha (by kernel_rfl) (by kernel_rfl) ?_
          clear ha; intro a ha
          refine wpList_nil ?_
          refine then_normal ?_
          refine wp_ret ?_
          refine block_ret ?_
          refine then_ret ?_
          refine then_ret ?_
          refine block_ret ?_
          refine then_ret ?_
          refine ret_with (v := .tuple #[.slice none 0 0, .int .i64 2]) ha (results_2 rfl ha (res_tmp (by kernel_rfl) (by kernel_rfl)) (res_tmp (by kernel_rfl) (by kernel_rfl))) ?_
          exact ⟨none, 0, [], 2, rfl, .inr (.inl ⟨by omega, ⟨v, List.mem_of_getElem? hv, fun hc => by obtain ⟨q1, q2, q3⟩ := hc; simp_all⟩, rfl, rfl⟩), Own.none_ none s⟩
        · rw [hb] at ha; skip
          have h1 : isIdB v.1 = true := by simpa using hb
          refine hd_val (i := 8) (.slice (some ade) n ca) ha rfl (by kernel_rfl) (fun _ _ _ h => h) (by kernel_rfl) (fun w hS => (by kernel_rfl)) hS ?_
          clear ha; intro a ha
          refine hd_val (i := 9) (.int .i64 ((k : Nat) : Int)) ha rfl (by kernel_rfl) (fun _ _ _ h => h) (by kernel_rfl) (fun w hS => (by kernel_rfl)) hS ?_
          clear ha; intro a ha
          refine hd_val (i := 10) (.pointer (some (ade.add (k * 2)))) ha rfl (by kernel_rfl) (fun _ _ _ h => h) (by kernel_rfl) (fun w hS => (run_indexAddr' (kd := .i64) (i := ((k : Nat) : Int)) (n := n) (c := ca) k rfl Try.underlying22 Try.sizeOf37 (by kernel_rfl) (by kernel_rfl) rfl (by first | assumption | omega) _)) hS ?_
          clear ha; intro a ha
          refine hd_val (i := 11) (.pointer (some (ade.add (k * 2 + 1 * 1)))) ha rfl (by kernel_rfl) (fun _ _ _ h => h) (by kernel_rfl) (fun w hS => (run_indexArr_at (kd := .i64) (i := k * 2) (z := 1) 1 rfl Try.underlying37 Try.sizeOf3 (by kernel_rfl) (by kernel_rfl) rfl (by first | assumption | omega) _)) hS ?_
          clear ha; intro a ha
          refine hd_val (i := 12) (.int .i64 v.2) ha rfl (by kernel_rfl) (fun _ _ _ h => h) (by kernel_rfl) (fun w hS => run_loadAt1 (i := k * 2 + 1 * 1) hS.1 rfl (by kernel_rfl) Try.isAgg3 (by rw [Nat.mul_one]; rw [egs_at hv (by omega)]; rfl)) hS ?_
          clear ha; intro a ha
          refine hd_call (i := 13) ha rfl (by kernel_rfl) (by kernel_rfl) (by kernel_rfl) (id28_any W _ w v.2 s) ?_
          clear hS; rintro _ w ⟨rfl, s⟩
          replace s : St W (L) w := s
          have hS : (fun w => Reads w 2 (some ade) n (egs E) ∧ True) w := ⟨(hr _ s.sat), trivial⟩
          refine ⟨_, rfl, hS, ?_⟩; clear ha; intro a ha
          refine hd_val (i := 14) (.bool (!(isIdB v.2))) ha rfl (by kernel_rfl) (fun _ _ _ h => h) (by kernel_rfl) (fun w hS => (by kernel_rfl)) hS ?_
          clear ha; intro a ha
          refine hd_val (i := 15) (.bool (!(isIdB v.2))) ha rfl (by kernel_rfl) (fun _ _ _ h => h) (by kernel_rfl) (fun w hS => (by kernel_rfl)) hS ?_
          clear ha; intro a ha
          refine hd_val (i := 16) (.bool (!(isIdB v.2))) ha rfl (by kernel_rfl) (fun _ _ _ h => h) (by kernel_rfl) (fun w hS => (by kernel_rfl)) hS ?_
          clear ha; intro a ha
          rcases Bool.eq_false_or_eq_true (!(isIdB v.2)) with hb | hb
          · rw [hb] at ha; skip
            refine hd_pass (i := 17) ha rfl (by kernel_rfl) (fun _ _ _ h => h) (by kernel_rfl) hS ?_
            clear ha; intro a ha
            refine hd_pass (i := 18) ha rfl (by kernel_rfl) (fun _ _ _ h => h) (by kernel_rfl) hS ?_
            clear ha; intro a ha
            refine hd_pass (i := 19) ha rfl (by kernel_rfl) (fun _ _ _ h => h) (by kernel_rfl) hS ?_
            clear ha; intro a ha
            refine hd_pass (i := 20) ha rfl (by kernel_rfl) (fun _ _ _ h => h) (by kernel_rfl) hS ?_
            clear ha; intro a ha
            refine hd_pass (i := 21) ha rfl (by kernel_rfl) (fun _ _ _ h => h) (by kernel_rfl) hS ?_
            clear ha; intro a ha
            refine hd_pass (i := 22) ha rfl (by kernel_rfl) (fun _ _ _ h => h) (by kernel_rfl) hS ?_
            clear ha; intro a ha
            refine hd_pass (i := 23) ha rfl (by kernel_rfl) (fun _ _ _ h => h) (by kernel_rfl) hS ?_
            clear ha; intro a ha
            refine hd_pass (i := 24) ha rfl (by kernel_rfl) (fun _ _ _ h => h) (by kernel_rfl) hS ?_
            clear ha; intro a ha
            refine hd_pass (i := 25) ha rfl (by kernel_rfl) (fun _ _ _ h => h) (by kernel_rfl) hS ?_
            clear ha; intro a ha
            refine hd_pass (i := 26) ha rfl (by kernel_rfl) (fun _ _ _ h => h) (by kernel_rfl) hS ?_
            clear ha; intro a ha
            refine Head.done (by kernel_rfl) ?_
            clear hS; simp only [List.drop_succ_cons, List.drop_zero]
            refine st_pass ha (by kernel_rfl) ?_
            clear ha; intro a ha
            refine st_val (.bool true) ha (by kernel_rfl) (by kernel_rfl) ?_
            clear ha; intro a ha
            refine wpList_nil ?_
            refine then_normal ?_
            refine wp_true ha rfl (by kernel_rfl) ?_
            refine wp_seq ?_
            refine wp_region_lit ?_
            refine st_val (.slice none 0 0) ha (by kernel_rfl) (by kernel_rfl) ?_
            clear ha; intro a ha
            refine st_val (.int .i64 2) ha (by kernel_rfl) (by kernel_rfl) ?_
            clear ha; intro a ha
            refine wpList_nil ?_
            refine then_normal ?_
            refine wp_ret ?_
            refine block_ret ?_
            refine then_ret ?_
            refine then_ret ?_
            refine block_ret ?_
            refine then_ret ?_
            refine ret_with (v := .tuple #[.slice none 0 0, .int .i64 2]) ha (results_2 rfl ha (res_tmp (by kernel_rfl) (by kernel_rfl)) (res_tmp (by kernel_rfl) (by kernel_rfl))) ?_
            exact ⟨none, 0, [], 2, rfl, .inr (.inl ⟨by omega, ⟨v, List.mem_of_getElem? hv, fun hc => by obtain ⟨q1, q2, q3⟩ := hc; simp_all⟩, rfl, rfl⟩), Own.none_ none s⟩
          · rw [hb] at ha; skip
            have h2 : isIdB v.2 = true := by simpa using hb
            refine hd_val (i := 17) (.slice (some ade) n ca) ha rfl (by kernel_rfl) (fun _ _ _ h => h) (by kernel_rfl) (fun w hS => (by kernel_rfl)) hS ?_
            clear ha; intro a ha
            refine hd_val (i := 18) (.int .i64 ((k : Nat) : Int)) ha rfl (by kernel_rfl) (fun _ _ _ h => h) (by kernel_rfl) (fun w hS => (by kernel_rfl)) hS ?_
            clear ha; intro a ha
            refine hd_val (i := 19) (.pointer (some (ade.add (k * 2)))) ha rfl (by kernel_rfl) (fun _ _ _ h => h) (by kernel_rfl) (fun w hS => (run_indexAddr' (kd := .i64) (i := ((k : Nat) : Int)) (n := n) (c := ca) k rfl Try.underlying22 Try.sizeOf37 (by kernel_rfl) (by kernel_rfl) rfl (by first | assumption | omega) _)) hS ?_
            clear ha; intro a ha
            refine hd_val (i := 20) (.pointer (some (ade.add (k * 2 + 0 * 1)))) ha rfl (by kernel_rfl) (fun _ _ _ h => h) (by kernel_rfl) (fun w hS => (run_indexArr_at (kd := .i64) (i := k * 2) (z := 0) 0 rfl Try.underlying37 Try.sizeOf3 (by kernel_rfl) (by kernel_rfl) rfl (by first | assumption | omega) _)) hS ?_
            clear ha; intro a ha
            refine hd_val (i := 21) (.int .i64 v.1) ha rfl (by kernel_rfl) (fun _ _ _ h => h) (by kernel_rfl) (fun w hS => run_loadAt1 (i := k * 2 + 0 * 1) hS.1 rfl (by kernel_rfl) Try.isAgg3 (by rw [Nat.mul_one]; rw [egs_at hv (by omega)]; rfl)) hS ?_
            clear ha; intro a ha
            refine hd_val (i := 22) (.slice (some ade) n ca) ha rfl (by kernel_rfl) (fun _ _ _ h => h) (by kernel_rfl) (fun w hS => (by kernel_rfl)) hS ?_
            clear ha; intro a ha
            refine hd_val (i := 23) (.int .i64 ((k : Nat) : Int)) ha rfl (by kernel_rfl) (fun _ _ _ h => h) (by kernel_rfl) (fun w hS => (by kernel_rfl)) hS ?_
            clear ha; intro a ha
            refine hd_val (i := 24) (.pointer (some (ade.add (k * 2)))) ha rfl (by kernel_rfl) (fun _ _ _ h => h) (by kernel_rfl) (fun w hS => (run_indexAddr' (kd := .i64) (i := ((k : Nat) : Int)) (n := n) (c := ca) k rfl Try.underlying22 Try.sizeOf37 (by kernel_rfl) (by kernel_rfl) rfl (by first | assumption | omega) _)) hS ?_
            clear ha; intro a ha
            refine hd_val (i := 25) (.pointer (some (ade.add (k * 2 + 1 * 1)))) ha rfl (by kernel_rfl) (fun _ _ _ h => h) (by kernel_rfl) (fun w hS => (run_indexArr_at (kd := .i64) (i := k * 2) (z := 1) 1 rfl Try.underlying37 Try.sizeOf3 (by kernel_rfl) (by kernel_rfl) rfl (by first | assumption | omega) _)) hS ?_
            clear ha; intro a ha
            refine hd_val (i := 26) (.int .i64 v.2) ha rfl (by kernel_rfl) (fun _ _ _ h => h) (by kernel_rfl) (fun w hS => run_loadAt1 (i := k * 2 + 1 * 1) hS.1 rfl (by kernel_rfl) Try.isAgg3 (by rw [Nat.mul_one]; rw [egs_at hv (by omega)]; rfl)) hS ?_
            clear ha; intro a ha
            refine Head.done (by kernel_rfl) ?_
            clear hS; simp only [List.drop_succ_cons, List.drop_zero]
            refine st_val (.bool (v.1 == v.2)) ha (by kernel_rfl) (by kernel_rfl) ?_
            clear ha; intro a ha
            refine st_val (.bool (v.1 == v.2)) ha (by kernel_rfl) (by kernel_rfl) ?_
            clear ha; intro a ha
            refine wpList_nil ?_
            refine then_normal ?_
            refine wp_part (v.1 == v.2) ha rfl (by kernel_rfl) (fun hb => ?_) (fun hb => ?_)
            · rw [hb] at ha; have hb_ := hb; replace hb := eq_of_beq hb
              refine wp_seq ?_
              refine wp_region_lit ?_
              refine st_val (.slice none 0 0) ha (by kernel_rfl) (by kernel_rfl) ?_
              clear ha; intro a ha
              refine st_val (.int .i64 2) ha (by kernel_rfl) (by kernel_rfl) ?_
              clear ha; intro a ha
              refine wpList_nil ?_
              refine then_normal ?_
              refine wp_ret ?_
              refine block_ret ?_
              refine then_ret ?_
              refine then_ret ?_
              refine block_ret ?_
              refine then_ret ?_
              refine ret_with (v := .tuple #[.slice none 0 0, .int .i64 2]) ha (results_2 rfl ha (res_tmp (by kernel_rfl) (by kernel_rfl)) (res_tmp (by kernel_rfl) (by kernel_rfl))) ?_
              exact ⟨none, 0, [], 2, rfl, .inr (.inl ⟨by omega, ⟨v, List.mem_of_getElem? hv, fun hc => by obtain ⟨q1, q2, q3⟩ := hc; simp_all⟩, rfl, rfl⟩), Own.none_ none s⟩
            · rw [hb] at ha; have hb_ := hb; replace hb := ne_of_beq_false hb
              refine wp_skip ?_
              refine block_normal ?_
              refine then_normal ?_
              refine wp_region_lit ?_
              refine st_val (.int .i64 ((k : Nat) : Int)) ha (by kernel_rfl) (by kernel_rfl) ?_
              clear ha; intro a ha
              refine st_val (.int .i64 ((k + 1 : Nat) : Int)) ha (by kernel_rfl) (run_arith (((k : Nat) : Int) + (1 : Int)) ((k + 1 : Nat) : Int) rfl (by kernel_rfl) (by kernel_rfl) (.inl ⟨rfl, rfl⟩) (by rw [wrap64_in (by omega)]; try omega) _) ?_
              clear ha; intro a ha
              refine st_val (.int .i64 ((k + 1 : Nat) : Int)) ha (by kernel_rfl) (by kernel_rfl) ?_
              clear ha; intro a ha
              refine wpList_nil ?_
              refine then_normal ?_
              exact ⟨k + 1, by omega, (Has.cons ha (by kernel_rfl) (by kernel_rfl) (Has.cons ha (by kernel_rfl) (by kernel_rfl) (Has.nil ha))), s, by omega, okA_take hp.2 hv ⟨h1, h2, hb⟩⟩
      · rw [hb] at ha; replace hb : ¬ (((k : Nat) : Int) < ((n : Nat) : Int)) := of_decide_eq_false hb
        refine wp_exit ?_
        refine then_exit ?_
        refine then_exit ?_
        refine block_hit ?_
        refine then_normal ?_
        refine wp_seq ?_
        refine wp_region_lit ?_
        refine st_val (.slice none 0 0) ha (by kernel_rfl) (by kernel_rfl) ?_
        clear ha; intro a ha
        refine wpList_nil ?_
        refine then_normal ?_
        refine wp_seq ?_
        refine wp_seq ?_
        refine wp_region_lit ?_
        refine st_val (.int .i64 0) ha (by kernel_rfl) (by kernel_rfl) ?_
        clear ha; intro a ha
        refine wpList_nil ?_
        refine then_normal ?_
        refine wp_block ?_
        have hall : ∀ x ∈ E, okA x := fun x hx => hp.2 x (by rw [List.take_of_length_le (by omega)]; exact hx)
        clear hp
        replace s := Own.none_ (e := 3) (k := 1) none s
        refine wp_loopG (G := (Nat × List Int × Option Addr × Nat)) (fun ⟨k, R, Ao, co⟩ a w => Has a 72 [(0, .slice A n ca), (5, .slice Ao R.length co), (6, .int .i64 ((k : Nat) : Int))] ∧ St W (Own 3 1 Ao R.length co (ints R) :: L) w ∧ (k ≤ n ∧ Prt E k R)) (fun ⟨k, R, Ao, co⟩ => n - k) (0, [], none, 0) ?_ ?_
        · exact ⟨(Has.cons ha (by kernel_rfl) (by kernel_rfl) (Has.cons ha (by kernel_rfl) (by kernel_rfl) (Has.cons ha (by kernel_rfl) (by kernel_rfl) (Has.nil ha)))), s, ⟨Nat.zero_le _, Prt.start E⟩⟩
        · clear ha s; rintro ⟨k, R, Ao, co⟩ a w ⟨ha, s, hp⟩
          refine wp_seq ?_
          refine wp_seq ?_
          refine wp_region_lit ?_
          refine st_val (.int .i64 ((k : Nat) : Int)) ha (by kernel_rfl) (by kernel_rfl) ?_
          clear ha; intro a ha
          refine st_val (.slice A n ca) ha (by kernel_rfl) (by kernel_rfl) ?_
          clear ha; intro a ha
          refine st_val (.int .i64 ((n : Nat) : Int)) ha (by kernel_rfl) (by kernel_rfl) ?_
          clear ha; intro a ha
          refine st_val (.bool (decide (((k : Nat) : Int) < ((n : Nat) : Int)))) ha (by kernel_rfl) (by kernel_rfl) ?_
          clear ha; intro a ha
          refine wpList_nil ?_
          refine then_normal ?_
          refine wp_part (decide (((k : Nat) : Int) < ((n : Nat) : Int))) ha rfl (by kernel_rfl) (fun hb => ?_) (fun hb => ?_)
          · rw [hb] at ha; replace hb : (((k : Nat) : Int) < ((n : Nat) : Int)) := of_decide_eq_true hb
            obtain ⟨v, hv⟩ : ∃ v, E[k]? = some v := ⟨_, List.getElem?_eq_getElem (by omega)⟩
            obtain ⟨ade, hA⟩ := Reads.addr (hr _ s.sat.tail) (by omega)
            subst hA
            have hpl := hp.2.len
            refine wp_skip ?_
            refine then_normal ?_
            refine wp_seq ?_
            refine wp_block ?_
            refine wp_seq ?_
            refine wp_region_lit ?_
            refine st_val (.slice (some ade) n ca) ha (by kernel_rfl) (by kernel_rfl) ?_
            clear ha; intro a ha
            refine st_val (.int .i64 ((k : Nat) : Int)) ha (by kernel_rfl) (by kernel_rfl) ?_
            clear ha; intro a ha
            refine st_val (.pointer (some (ade.add (k * 2)))) ha (by kernel_rfl) (run_indexAddr' (kd := .i64) (i := ((k : Nat) : Int)) (n := n) (c := ca) k rfl Try.underlying22 Try.sizeOf37 (by kernel_rfl) (by kernel_rfl) rfl (by first | assumption | omega) _) ?_
            clear ha; intro a ha
            refine st_val (.pointer (some (ade.add (k * 2 + 0 * 1)))) ha (by kernel_rfl) (run_indexArr_at (kd := .i64) (i := k * 2) (z := 0) 0 rfl Try.underlying37 Try.sizeOf3 (by kernel_rfl) (by kernel_rfl) rfl (by first | assumption | omega) _) ?_
            clear ha; intro a ha
            refine st_val (.int .i64 v.1) ha (by kernel_rfl) (run_loadAt1 (i := k * 2 + 0 * 1) ((hr _ s.sat.tail)) rfl (by kernel_rfl) Try.isAgg3 (by rw [Nat.mul_one]; rw [egs_at hv (by omega)]; rfl)) ?_
            clear ha; intro a ha
            refine st_val (.int .i64 v.1) ha (by kernel_rfl) (by kernel_rfl) ?_
            clear ha; intro a ha
            refine wpList_nil ?_
            refine then_normal ?_
            refine wp_seq ?_
            refine wp_region_lit ?_
            refine st_val (.slice Ao R.length co) ha (by kernel_rfl) (by kernel_rfl) ?_
            clear ha; intro a ha
            refine st_val (.int .i64 v.1) ha (by kernel_rfl) (by kernel_rfl) ?_
            clear ha; intro a ha
            refine st_call ha (by kernel_rfl) (by kernel_rfl) (has29_any W _ w Ao R.length co R (Knows.own (j := 0) rfl) rfl (by have := hpl; omega) v.1 s) ?_
            rintro _ w ⟨rfl, s⟩
            replace s : St W (Own 3 1 Ao R.length co (ints R) :: L) w := s
            refine ⟨_, rfl, ?_⟩; clear ha; intro a ha
            refine st_val (.bool (!(decide (v.1 ∈ R)))) ha (by kernel_rfl) (by kernel_rfl) ?_
            clear ha; intro a ha
            refine st_val (.bool (!(decide (v.1 ∈ R)))) ha (by kernel_rfl) (by kernel_rfl) ?_
            clear ha; intro a ha
            rcases Bool.eq_false_or_eq_true (!(decide (v.1 ∈ R))) with hb | hb
            · rw [hb] at ha; skip
              have hnin : v.1 ∉ R := by simpa using hb
              refine st_val (.slice (some ade) n ca) ha (by kernel_rfl) (by kernel_rfl) ?_
              clear ha; intro a ha
              refine st_val (.int .i64 v.1) ha (by kernel_rfl) (by kernel_rfl) ?_
              clear ha; intro a ha
              refine st_call ha (by kernel_rfl) (by kernel_rfl) (reached_any W _ w (some ade) n ca E (fun w s => hr w s.tail) hl (by omega) v.1 s) ?_
              rintro _ w ⟨A1, c2, Q, rfl, hQ, hQl, s⟩
              replace s : St W (Own 3 1 A1 Q.length c2 (ints Q) :: Own 3 1 Ao R.length co (ints R) :: L) w := s
              refine ⟨_, rfl, ?_⟩; clear ha; intro a ha
              refine st_val (.int .i64 v.1) ha (by kernel_rfl) (by kernel_rfl) ?_
              clear ha; intro a ha
              refine st_call ha (by kernel_rfl) (by kernel_rfl) (has29_any W _ w A1 Q.length c2 Q (Knows.own (j := 0) rfl) rfl (by have := hpl; omega) v.1 s) ?_
              rintro _ w ⟨rfl, s⟩
              replace s : St W (Own 3 1 A1 Q.length c2 (ints Q) :: Own 3 1 Ao R.length co (ints R) :: L) w := s
              refine ⟨_, rfl, ?_⟩; clear ha; intro a ha
              refine st_val (.bool (decide (v.1 ∈ Q))) ha (by kernel_rfl) (by kernel_rfl) ?_
              clear ha; intro a ha
              refine wpList_nil ?_
              refine then_normal ?_
              refine wp_part (decide (v.1 ∈ Q)) ha rfl (by kernel_rfl) (fun hb => ?_) (fun hb => ?_)
              · rw [hb] at ha; replace hb : (v.1 ∈ Q) := of_decide_eq_true hb
                have hway := (hQ _).1 hb
                refine wp_region_lit ?_
                refine st_val (.slice Ao R.length co) ha (by kernel_rfl) (by kernel_rfl) ?_
                clear ha; intro a ha
                refine st_val (.int .i64 v.1) ha (by kernel_rfl) (by kernel_rfl) ?_
                clear ha; intro a ha
                have hcp := (Own.facts (s.at_ (j := 1) rfl).1).2.1
                refine st_call ha (by kernel_rfl) (by kernel_rfl) (rising_any W _ w Ao R.length co R (Knows.own (j := 1) rfl) rfl (by omega) hcp v.1 s) ?_
                rintro _ w ⟨A3, c4, Q2, rfl, hins, s⟩
                replace s : St W (Own 3 1 A3 Q2.length c4 (ints Q2) :: Own 3 1 A1 Q.length c2 (ints Q) :: Own 3 1 Ao R.length co (ints R) :: L) w := s
                refine ⟨_, rfl, ?_⟩; clear ha; intro a ha
                refine st_val (.slice A3 Q2.length c4) ha (by kernel_rfl) (by kernel_rfl) ?_
                clear ha; intro a ha
                refine wpList_nil ?_
                refine block_normal ?_
                refine then_normal ?_
                refine wp_region_lit ?_
                refine st_val (.int .i64 ((k : Nat) : Int)) ha (by kernel_rfl) (by kernel_rfl) ?_
                clear ha; intro a ha
                refine st_val (.int .i64 ((k + 1 : Nat) : Int)) ha (by kernel_rfl) (run_arith (((k : Nat) : Int) + (1 : Int)) ((k + 1 : Nat) : Int) rfl (by kernel_rfl) (by kernel_rfl) (.inl ⟨rfl, rfl⟩) (by rw [wrap64_in (by omega)]; try omega) _) ?_
                clear ha; intro a ha
                refine st_val (.int .i64 ((k + 1 : Nat) : Int)) ha (by kernel_rfl) (by kernel_rfl) ?_
                clear ha; intro a ha
                refine wpList_nil ?_
                refine then_normal ?_
                replace s : St W (Own 3 1 A3 Q2.length c4 (ints Q2) :: L) w := St.mid (A := [Own 3 1 A3 Q2.length c4 (ints Q2)]) (B := [Own 3 1 A1 Q.length c2 (ints Q), Own 3 1 Ao R.length co (ints R)]) s
                exact ⟨(k + 1, Q2, A3, c4), (show n - (k + 1) < n - k by omega), (Has.cons ha (by kernel_rfl) (by kernel_rfl) (Has.cons ha (by kernel_rfl) (by kernel_rfl) (Has.cons ha (by kernel_rfl) (by kernel_rfl) (Has.nil ha)))), s, by omega, hp.2.more hv hnin hway hins⟩
              · rw [hb] at ha; replace hb : ¬ (v.1 ∈ Q) := of_decide_eq_false hb
                have hnq : v.1 ∉ Q := hb
                refine wp_skip ?_
                refine block_normal ?_
                refine then_normal ?_
                refine wp_region_lit ?_
                refine st_val (.int .i64 ((k : Nat) : Int)) ha (by kernel_rfl) (by kernel_rfl) ?_
                clear ha; intro a ha
                refine st_val (.int .i64 ((k + 1 : Nat) : Int)) ha (by kernel_rfl) (run_arith (((k : Nat) : Int) + (1 : Int)) ((k + 1 : Nat) : Int) rfl (by kernel_rfl) (by kernel_rfl) (.inl ⟨rfl, rfl⟩) (by rw [wrap64_in (by omega)]; try omega) _) ?_
                clear ha; intro a ha
                refine st_val (.int .i64 ((k + 1 : Nat) : Int)) ha (by kernel_rfl) (by kernel_rfl) ?_
                clear ha; intro a ha
                refine wpList_nil ?_
                refine then_normal ?_
                replace s := s.at_ (j := 1) rfl
                replace s : St W (Own 3 1 Ao R.length co (ints R) :: Own 3 1 A1 Q.length c2 (ints Q) :: L) w := s
                replace s : St W (Own 3 1 Ao R.length co (ints R) :: L) w := St.mid (A := [Own 3 1 Ao R.length co (ints R)]) (B := [Own 3 1 A1 Q.length c2 (ints Q)]) s
                exact ⟨(k + 1, R, Ao, co), (show n - (k + 1) < n - k by omega), (Has.cons ha (by kernel_rfl) (by kernel_rfl) (Has.cons ha (by kernel_rfl) (by kernel_rfl) (Has.cons ha (by kernel_rfl) (by kernel_rfl) (Has.nil ha)))), s, by omega, hp.2.pass hv (by first | exact fun _ => hin | exact fun hw => absurd ((hQ _).2 hw) hnq)⟩
            · rw [hb] at ha; skip
              have hin : v.1 ∈ R := by simpa using hb
              refine st_pass ha (by kernel_rfl) ?_
              clear ha; intro a ha
              refine st_pass ha (by kernel_rfl) ?_
              clear ha; intro a ha
              refine st_pass ha (by kernel_rfl) ?_
              clear ha; intro a ha
              refine st_pass ha (by kernel_rfl) ?_
              clear ha; intro a ha
              refine st_pass ha (by kernel_rfl) ?_
              clear ha; intro a ha
              refine st_val (.bool false) ha (by kernel_rfl) (by kernel_rfl) ?_
              clear ha; intro a ha
              refine wpList_nil ?_
              refine then_normal ?_
              refine wp_false ha rfl (by kernel_rfl) ?_
              refine wp_skip ?_
              refine block_normal ?_
              refine then_normal ?_
              refine wp_region_lit ?_
              refine st_val (.int .i64 ((k : Nat) : Int)) ha (by kernel_rfl) (by kernel_rfl) ?_
              clear ha; intro a ha
              refine st_val (.int .i64 ((k + 1 : Nat) : Int)) ha (by kernel_rfl) (run_arith (((k : Nat) : Int) + (1 : Int)) ((k + 1 : Nat) : Int) rfl (by kernel_rfl) (by kernel_rfl) (.inl ⟨rfl, rfl⟩) (by rw [wrap64_in (by omega)]; try omega) _) ?_
              clear ha; intro a ha
              refine st_val (.int .i64 ((k + 1 : Nat) : Int)) ha (by kernel_rfl) (by kernel_rfl) ?_
              clear ha; intro a ha
              refine wpList_nil ?_
              refine then_normal ?_
              exact ⟨(k + 1, R, Ao, co), (show n - (k + 1) < n - k by omega), (Has.cons ha (by kernel_rfl) (by kernel_rfl) (Has.cons ha (by kernel_rfl) (by kernel_rfl) (Has.cons ha (by kernel_rfl) (by kernel_rfl) (Has.nil ha)))), s, by omega, hp.2.pass hv (by first | exact fun _ => hin | exact fun hw => absurd ((hQ _).2 hw) hnq)⟩
          · rw [hb] at ha; replace hb : ¬ (((k : Nat) : Int) < ((n : Nat) : Int)) := of_decide_eq_false hb
            refine wp_exit ?_
            refine then_exit ?_
            refine then_exit ?_
            refine block_hit ?_
            refine then_normal ?_
            refine wp_seq ?_
            refine wp_region_lit ?_
            refine st_val (.slice Ao R.length co) ha (by kernel_rfl) (by kernel_rfl) ?_
            clear ha; intro a ha
            refine st_val (.slice Ao R.length co) ha (by kernel_rfl) (by kernel_rfl) ?_
            clear ha; intro a ha
            refine st_val (.int .i64 0) ha (by kernel_rfl) (by kernel_rfl) ?_
            clear ha; intro a ha
            refine wpList_nil ?_
            refine then_normal ?_
            refine wp_ret ?_
            refine ret_with (v := .tuple #[.slice Ao R.length co, .int .i64 0]) ha (results_2 rfl ha (res_tmp (by kernel_rfl) (by kernel_rfl)) (res_tmp (by kernel_rfl) (by kernel_rfl))) ?_
            exact ⟨_, _, R, 0, rfl, .inr (.inr ⟨by omega, hall, rfl, hp.2.all (by omega)⟩), s⟩

theorem prio32_any (W : World) (L : List Chunk) (w : World) (B : Option Addr) (m cb : Nat) (l : List Arc) (hrb : Knows L fun w => Reads w 2 B m (egs l)) (hm : l.length = m) (hmn : m ≤ 140737488351232) (q : Int) (s : St W L w) :
    Calls Try.prog 32 #[.slice B m cb, .int .i64 q] w fun e w' => e = .returned (.int .i64 (prio l q)) ∧ St W L w' := by
  refine enter_args (l := [.slice B m cb, .int .i64 q]) Try.func32 rfl rfl (Nat.le_of_ble_eq_true rfl) ?_
  intro a ha; replace ha : Has a 24 [(0, .slice B m cb), (1, .int .i64 q)] := ha
  refine wp_seq ?_
  refine wp_region_lit ?_
  refine st_val (.int .i64 0) ha (by kernel_rfl) (by kernel_rfl) ?_
  clear ha; intro a ha
  refine wpList_nil ?_
  refine then_normal ?_
  refine wp_seq ?_
  refine wp_seq ?_
  refine wp_region_lit ?_
  refine st_val (.int .i64 0) ha (by kernel_rfl) (by kernel_rfl) ?_
  clear ha; intro a ha
  refine wpList_nil ?_
  refine then_normal ?_
  refine wp_block ?_
  refine wp_loopG (G := Nat) (fun k a w => Has a 24 [(0, .slice B m cb), (1, .int .i64 q), (5, .int .i64 ((k : Nat) : Int))] ∧ St W (L) w ∧ (k ≤ m ∧ ∀ (i : Nat) (y : Arc), i < k → l[i]? = some y → y.1 ≠ q)) (fun k => m - k) 0 ?_ ?_
  · exact ⟨(Has.cons ha (by kernel_rfl) (by kernel_rfl) (Has.cons ha (by kernel_rfl) (by kernel_rfl) (Has.cons ha (by kernel_rfl) (by kernel_rfl) (Has.nil ha)))), s, ⟨Nat.zero_le _, fun i y hi => absurd hi (Nat.not_lt_zero _)⟩⟩
  · clear ha s; rintro k a w ⟨ha, s, hp⟩
    refine wp_seq ?_
    refine wp_seq ?_
    refine wp_region_lit ?_
    refine st_val (.int .i64 ((k : Nat) : Int)) ha (by kernel_rfl) (by kernel_rfl) ?_
    clear ha; intro a ha
    refine st_val (.slice B m cb) ha (by kernel_rfl) (by kernel_rfl) ?_
    clear ha; intro a ha
    refine st_val (.int .i64 ((m : Nat) : Int)) ha (by kernel_rfl) (by kernel_rfl) ?_
    clear ha; intro a ha
    refine st_val (.bool (decide (((k : Nat) : Int) < ((m : Nat) : Int)))) ha (by kernel_rfl) (by kernel_rfl) ?_
    clear ha; intro a ha
    refine wpList_nil ?_
    refine then_normal ?_
    refine wp_part (decide (((k : Nat) : Int) < ((m : Nat) : Int))) ha rfl (by kernel_rfl) (fun hb => ?_) (fun hb => ?_)
    · rw [hb] at ha; replace hb : (((k : Nat) : Int) < ((m : Nat) : Int)) := of_decide_eq_true hb
      obtain ⟨v, hv⟩ : ∃ x, l[k]? = some x := ⟨_, List.getElem?_eq_getElem (by omega)⟩
      obtain ⟨adb, hB⟩ := Reads.addr (hrb _ s.sat) (by omega)
      subst hB
      refine wp_skip ?_
      refine then_normal ?_
      refine wp_seq ?_
      refine wp_block ?_
      refine wp_seq ?_
      refine wp_region_lit ?_
      refine st_val (.slice (some adb) m cb) ha (by kernel_rfl) (by kernel_rfl) ?_
      clear ha; intro a ha
      refine st_val (.int .i64 ((k : Nat) : Int)) ha (by kernel_rfl) (by kernel_rfl) ?_
      clear ha; intro a ha
      refine st_val (.pointer (some (adb.add (k * 2)))) ha (by kernel_rfl) (run_indexAddr' (kd := .i64) (i := ((k : Nat) : Int)) (n := m) (c := cb) k rfl Try.underlying31 Try.sizeOf33 (by kernel_rfl) (by kernel_rfl) rfl (by first | assumption | omega) _) ?_
      clear ha; intro a ha
      refine st_val (.pointer (some (adb.add (k * 2 + 0)))) ha (by kernel_rfl) (run_fieldAddr_at (i := k * 2) (off := 0) rfl Try.underlying33 rfl Try.sizeOf3 (by kernel_rfl) _) ?_
      clear ha; intro a ha
      refine st_val (.int .i64 v.1) ha (by kernel_rfl) (run_loadAt1 (i := k * 2 + 0) ((hrb _ s.sat)) rfl (by kernel_rfl) Try.isAgg3 (by rw [egs_at hv (by omega)]; rfl)) ?_
      clear ha; intro a ha
      refine st_val (.int .i64 q) ha (by kernel_rfl) (by kernel_rfl) ?_
      clear ha; intro a ha
      refine st_val (.bool (v.1 == q)) ha (by kernel_rfl) (by kernel_rfl) ?_
      clear ha; intro a ha
      refine wpList_nil ?_
      refine then_normal ?_
      refine wp_part (v.1 == q) ha rfl (by kernel_rfl) (fun hb => ?_) (fun hb => ?_)
      · rw [hb] at ha; have hb_ := hb; replace hb := eq_of_beq hb
        refine wp_seq ?_
        refine wp_region_lit ?_
        refine st_val (.slice (some adb) m cb) ha (by kernel_rfl) (by kernel_rfl) ?_
        clear ha; intro a ha
        refine st_val (.int .i64 ((k : Nat) : Int)) ha (by kernel_rfl) (by kernel_rfl) ?_
        clear ha; intro a ha
        refine st_val (.pointer (some (adb.add (k * 2)))) ha (by kernel_rfl) (run_indexAddr' (kd := .i64) (i := ((k : Nat) : Int)) (n := m) (c := cb) k rfl Try.underlying31 Try.sizeOf33 (by kernel_rfl) (by kernel_rfl) rfl (by first | assumption | omega) _) ?_
        clear ha; intro a ha
        refine st_val (.pointer (some (adb.add (k * 2 + 1)))) ha (by kernel_rfl) (run_fieldAddr_at (i := k * 2) (off := 1) rfl Try.underlying33 rfl Try.sizeOf3 (by kernel_rfl) _) ?_
        clear ha; intro a ha
        refine st_val (.int .i64 v.2) ha (by kernel_rfl) (run_loadAt1 (i := k * 2 + 1) ((hrb _ s.sat)) rfl (by kernel_rfl) Try.isAgg3 (by rw [egs_at hv (by omega)]; rfl)) ?_
        clear ha; intro a ha
        refine st_val (.int .i64 v.2) ha (by kernel_rfl) (by kernel_rfl) ?_
        clear ha; intro a ha
        refine wpList_nil ?_
        refine then_normal ?_
        refine wp_ret ?_
        refine block_ret ?_
        refine then_ret ?_
        refine then_ret ?_
        refine block_ret ?_
        refine then_ret ?_
        refine ret_with (v := .int .i64 v.2) ha (results_1 rfl ha (res_tmp (by kernel_rfl) (by kernel_rfl))) ?_
        refine ⟨?_, s⟩
        congr 2
        unfold prio
        subst hb
        rw [mget_first hv hp.2]; rfl
      · rw [hb] at ha; have hb_ := hb; replace hb := ne_of_beq_false hb
        refine wp_skip ?_
        refine block_normal ?_
        refine then_normal ?_
        refine wp_region_lit ?_
        refine st_val (.int .i64 ((k : Nat) : Int)) ha (by kernel_rfl) (by kernel_rfl) ?_
        clear ha; intro a ha
        refine st_val (.int .i64 ((k + 1 : Nat) : Int)) ha (by kernel_rfl) (run_arith (((k : Nat) : Int) + (1 : Int)) ((k + 1 : Nat) : Int) rfl (by kernel_rfl) (by kernel_rfl) (.inl ⟨rfl, rfl⟩) (by rw [wrap64_in (by omega)]; try omega) _) ?_
        clear ha; intro a ha
        refine st_val (.int .i64 ((k + 1 : Nat) : Int)) ha (by kernel_rfl) (by kernel_rfl) ?_
        clear ha; intro a ha
        refine wpList_nil ?_
        refine then_normal ?_
        exact ⟨k + 1, by omega, (Has.cons ha (by kernel_rfl) (by kernel_rfl) (Has.cons ha (by kernel_rfl) (by kernel_rfl) (Has.cons ha (by kernel_rfl) (by kernel_rfl) (Has.nil ha)))), s, by omega, fun i y hi hy => by
        rcases Nat.lt_or_ge i k with h | h
        · exact hp.2 i y h hy
        · have hik : i = k := by omega
          rw [hik, hv] at hy; cases hy; exact fun e => hb e⟩
    · rw [hb] at ha; replace hb : ¬ (((k : Nat) : Int) < ((m : Nat) : Int)) := of_decide_eq_false hb
      refine wp_exit ?_
      refine then_exit ?_
      refine then_exit ?_
      refine block_hit ?_
      refine then_normal ?_
      refine wp_seq ?_
      refine wp_region_lit ?_
      refine st_val (.int .i64 0) ha (by kernel_rfl) (by kernel_rfl) ?_
      clear ha; intro a ha
      refine wpList_nil ?_
      refine then_normal ?_
      refine wp_ret ?_
      refine ret_with (v := .int .i64 0) ha (results_1 rfl ha (res_tmp (by kernel_rfl) (by kernel_rfl))) ?_
      refine ⟨?_, s⟩
      congr 2
      unfold prio
      rw [mget_never fun i y hy => hp.2 i y (by have := (List.getElem?_eq_some_iff.1 hy).1; omega) hy]; rfl

set_option maxHeartbeats 1000000 in
theorem victim13_any (W : World) (L : List Chunk) (w : World) (A : Option Addr) (n ca : Nat) (E : List Arc) (hr : Knows L fun w => Reads w 2 A n (egs E)) (hl : E.length = n) (hn : n ≤ 140737488351232) (B : Option Addr) (m cb : Nat) (l : List Arc) (hrb : Knows L fun w => Reads w 2 B m (egs l)) (hm : l.length = m) (hmn : m ≤ 140737488351232) (s : St W L w) :
    Calls Try.prog 13 #[.slice A n ca, .slice B m cb] w fun e w' => ∃ id is er, e = .returned (.tuple #[.int .i64 id, .bool is, .int .i64 er]) ∧ VictimRes E l id is er ∧ St W L w' := by
  refine enter_args (l := [.slice A n ca, .slice B m cb]) Try.func13 rfl rfl (Nat.le_of_ble_eq_true rfl) ?_
  intro a ha; replace ha : Has a 96 [(0, .slice A n ca), (1, .slice B m cb)] := ha
  refine wp_seq ?_
  refine wp_region_lit ?_
  refine st_val (.int .i64 0) ha (by kernel_rfl) (by kernel_rfl) ?_
  clear ha; intro a ha
  refine st_val (.bool false) ha (by kernel_rfl) (by kernel_rfl) ?_
  clear ha; intro a ha
  refine st_val (.int .i64 0) ha (by kernel_rfl) (by kernel_rfl) ?_
  clear ha; intro a ha
  refine wpList_nil ?_
  refine then_normal ?_
  refine wp_seq ?_
  refine wp_region_lit ?_
  refine st_val (.slice A n ca) ha (by kernel_rfl) (by kernel_rfl) ?_
  clear ha; intro a ha
  refine st_call ha (by kernel_rfl) (by kernel_rfl) (rings12_any W _ w A n ca E (fun w s => hr w s) hl hn s) ?_
  rintro _ w ⟨A1, c2, R, er, rfl, hres, s⟩
  replace s : St W (Own 3 1 A1 R.length c2 (ints R) :: L) w := s
  refine ⟨_, rfl, ?_⟩; clear ha; intro a ha
  refine st_val (.tuple #[.slice A1 R.length c2, .int .i64 er]) ha (by kernel_rfl) (by kernel_rfl) ?_
  clear ha; intro a ha
  refine st_val (.slice A1 R.length c2) ha (by kernel_rfl) (by kernel_rfl) ?_
  clear ha; intro a ha
  refine st_val (.int .i64 er) ha (by kernel_rfl) (by kernel_rfl) ?_
  clear ha; intro a ha
  refine st_val (.slice A1 R.length c2) ha (by kernel_rfl) (by kernel_rfl) ?_
  clear ha; intro a ha
  refine st_val (.int .i64 er) ha (by kernel_rfl) (by kernel_rfl) ?_
  clear ha; intro a ha
  refine wpList_nil ?_
  refine then_normal ?_
  refine wp_seq ?_
  refine wp_seq ?_
  refine wp_region_lit ?_
  refine st_val (.int .i64 er) ha (by kernel_rfl) (by kernel_rfl) ?_
  clear ha; intro a ha
  refine st_val (.bool (er != (0 : Int))) ha (by kernel_rfl) (by kernel_rfl) ?_
  clear ha; intro a ha
  refine wpList_nil ?_
  refine then_normal ?_
  refine wp_part (er != (0 : Int)) ha rfl (by kernel_rfl) (fun hb => ?_) (fun hb => ?_)
  · rw [hb] at ha; have hb_ := hb; replace hb := bne_iff_ne.1 hb
    refine wp_seq ?_
    refine wp_region_lit ?_
    refine st_val (.int .i64 er) ha (by kernel_rfl) (by kernel_rfl) ?_
    clear ha; intro a ha
    refine st_val (.int .i64 0) ha (by kernel_rfl) (by kernel_rfl) ?_
    clear ha; intro a ha
    refine st_val (.bool false) ha (by kernel_rfl) (by kernel_rfl) ?_
    clear ha; intro a ha
    refine st_val (.int .i64 er) ha (by kernel_rfl) (by kernel_rfl) ?_
    clear ha; intro a ha
    refine wpList_nil ?_
    refine then_normal ?_
    refine wp_ret ?_
    refine then_ret ?_
    refine ret_with (v := .tuple #[.int .i64 0, .bool false, .int .i64 er]) ha (results_3 rfl ha (res_tmp (by kernel_rfl) (by kernel_rfl)) (res_tmp (by kernel_rfl) (by kernel_rfl)) (res_tmp (by kernel_rfl) (by kernel_rfl))) ?_
    replace s := s.tail
    replace s : St W (L) w := s
    exact ⟨0, false, er, rfl, ⟨R, er, hres, .inl ⟨hb, rfl, rfl, rfl⟩⟩, s⟩
  · rw [hb] at ha; have hb_ := hb; replace hb := bne_eq_false_iff_eq.1 hb
    have he0 : er = 0 := hb
    have hRl := rings_len hres
    have hrise : R.Pairwise (· < ·) := by
      rcases hres with ⟨_, h, _⟩ | ⟨_, _, h, _⟩ | ⟨_, _, _, hr⟩
      · omega
      · omega
      · exact hr.rise
    refine wp_skip ?_
    refine then_normal ?_
    refine wp_seq ?_
    refine wp_seq ?_
    refine wp_region_lit ?_
    refine st_val (.slice B m cb) ha (by kernel_rfl) (by kernel_rfl) ?_
    clear ha; intro a ha
    refine st_val (.int .i64 ((m : Nat) : Int)) ha (by kernel_rfl) (by kernel_rfl) ?_
    clear ha; intro a ha
    refine st_val (.bool (decide (((m : Nat) : Int) > (1000 : Int)))) ha (by kernel_rfl) (by kernel_rfl) ?_
    clear ha; intro a ha
    refine wpList_nil ?_
    refine then_normal ?_
    refine wp_part (decide (((m : Nat) : Int) > (1000 : Int))) ha rfl (by kernel_rfl) (fun hb => ?_) (fun hb => ?_)
    · rw [hb] at ha; replace hb : (((m : Nat) : Int) > (1000 : Int)) := of_decide_eq_true hb
      refine wp_seq ?_
      refine wp_region_lit ?_
      refine st_val (.int .i64 0) ha (by kernel_rfl) (by kernel_rfl) ?_
      clear ha; intro a ha
      refine st_val (.bool false) ha (by kernel_rfl) (by kernel_rfl) ?_
      clear ha; intro a ha
      refine st_val (.int .i64 5) ha (by kernel_rfl) (by kernel_rfl) ?_
      clear ha; intro a ha
      refine wpList_nil ?_
      refine then_normal ?_
      refine wp_ret ?_
      refine then_ret ?_
      refine ret_with (v := .tuple #[.int .i64 0, .bool false, .int .i64 5]) ha (results_3 rfl ha (res_tmp (by kernel_rfl) (by kernel_rfl)) (res_tmp (by kernel_rfl) (by kernel_rfl)) (res_tmp (by kernel_rfl) (by kernel_rfl))) ?_
      replace s := s.tail
      replace s : St W (L) w := s
      exact ⟨0, false, 5, rfl, ⟨R, er, hres, .inr ⟨he0, .inl ⟨by omega, rfl, rfl, rfl⟩⟩⟩, s⟩
    · rw [hb] at ha; replace hb : ¬ (((m : Nat) : Int) > (1000 : Int)) := of_decide_eq_false hb
      refine wp_skip ?_
      refine then_normal ?_
      refine wp_seq ?_
      refine wp_seq ?_
      refine wp_region_lit ?_
      refine st_val (.int .i64 0) ha (by kernel_rfl) (by kernel_rfl) ?_
      clear ha; intro a ha
      refine wpList_nil ?_
      refine then_normal ?_
      refine wp_block ?_
      refine wp_loopG (G := Nat) (fun k a w => Has a 96 [(1, .slice B m cb), (7, .slice A1 R.length c2), (9, .int .i64 ((k : Nat) : Int))] ∧ St W (Own 3 1 A1 R.length c2 (ints R) :: L) w ∧ (k ≤ m ∧ whoOk (l.take k))) (fun k => m - k) 0 ?_ ?_
      · exact ⟨(Has.cons ha (by kernel_rfl) (by kernel_rfl) (Has.cons ha (by kernel_rfl) (by kernel_rfl) (Has.cons ha (by kernel_rfl) (by kernel_rfl) (Has.nil ha)))), s, ⟨Nat.zero_le _, ⟨by simp, by simp⟩⟩⟩
      · clear ha s; rintro k a w ⟨ha, s, hp⟩
        refine wp_seq ?_
        refine wp_seq ?_
        refine wp_region_lit ?_
        refine st_val (.int .i64 ((k : Nat) : Int)) ha (by kernel_rfl) (by kernel_rfl) ?_
        clear ha; intro a ha
        refine st_val (.slice B m cb) ha (by kernel_rfl) (by kernel_rfl) ?_
        clear ha; intro a ha
        refine st_val (.int .i64 ((m : Nat) : Int)) ha (by kernel_rfl) (by kernel_rfl) ?_
        clear ha; intro a ha
        refine st_val (.bool (decide (((k : Nat) : Int) < ((m : Nat) : Int)))) ha (by kernel_rfl) (by kernel_rfl) ?_
        clear ha; intro a ha
        refine wpList_nil ?_
        refine then_normal ?_
        refine wp_part (decide (((k : Nat) : Int) < ((m : Nat) : Int))) ha rfl (by kernel_rfl) (fun hb => ?_) (fun hb => ?_)
        · rw [hb] at ha; replace hb : (((k : Nat) : Int) < ((m : Nat) : Int)) := of_decide_eq_true hb
          obtain ⟨v, hv⟩ : ∃ x, l[k]? = some x := ⟨_, List.getElem?_eq_getElem (by omega)⟩
          obtain ⟨adb, hB⟩ := Reads.addr (hrb _ s.sat.tail) (by omega)
          subst hB
          refine wp_skip ?_
          refine then_normal ?_
          refine wp_seq ?_
          refine wp_block ?_
          refine wp_seq ?_
          refine wp_seq ?_
          refine wp_region_lit ?_
          refine st_val (.slice (some adb) m cb) ha (by kernel_rfl) (by kernel_rfl) ?_
          clear ha; intro a ha
          refine st_val (.int .i64 ((k : Nat) : Int)) ha (by kernel_rfl) (by kernel_rfl) ?_
          clear ha; intro a ha
          refine st_val (.pointer (some (adb.add (k * 2)))) ha (by kernel_rfl) (run_indexAddr' (kd := .i64) (i := ((k : Nat) : Int)) (n := m) (c := cb) k rfl Try.underlying31 Try.sizeOf33 (by kernel_rfl) (by kernel_rfl) rfl (by first | assumption | omega) _) ?_
          clear ha; intro a ha
          refine st_val (.pointer (some (adb.add (k * 2 + 0)))) ha (by kernel_rfl) (run_fieldAddr_at (i := k * 2) (off := 0) rfl Try.underlying33 rfl Try.sizeOf3 (by kernel_rfl) _) ?_
          clear ha; intro a ha
          refine st_val (.int .i64 v.1) ha (by kernel_rfl) (run_loadAt1 (i := k * 2 + 0) ((hrb _ s.sat.tail)) rfl (by kernel_rfl) Try.isAgg3 (by rw [egs_at hv (by omega)]; rfl)) ?_
          clear ha; intro a ha
          refine st_call ha (by kernel_rfl) (by kernel_rfl) (id28_any W _ w v.1 s) ?_
          rintro _ w ⟨rfl, s⟩
          replace s : St W (Own 3 1 A1 R.length c2 (ints R) :: L) w := s
          refine ⟨_, rfl, ?_⟩; clear ha; intro a ha
          refine st_val (.bool (!(isIdB v.1))) ha (by kernel_rfl) (by kernel_rfl) ?_
          clear ha; intro a ha
          refine st_val (.bool (!(isIdB v.1))) ha (by kernel_rfl) (by kernel_rfl) ?_
          clear ha; intro a ha
          rcases Bool.eq_false_or_eq_true (!(isIdB v.1)) with hb | hb
          · rw [hb] at ha; skip
            refine st_pass ha (by kernel_rfl) ?_
            clear ha; intro a ha
            refine st_pass ha (by kernel_rfl) ?_
            clear ha; intro a ha
            refine st_pass ha (by kernel_rfl) ?_
            clear ha; intro a ha
            refine st_pass ha (by kernel_rfl) ?_
            clear ha; intro a ha
            refine st_pass ha (by kernel_rfl) ?_
            clear ha; intro a ha
            refine st_pass ha (by kernel_rfl) ?_
            clear ha; intro a ha
            refine st_val (.bool true) ha (by kernel_rfl) (by kernel_rfl) ?_
            clear ha; intro a ha
            refine st_val (.bool true) ha (by kernel_rfl) (by kernel_rfl) ?_
            clear ha; intro a ha
            refine st_pass ha (by kernel_rfl) ?_
            clear ha; intro a ha
            refine st_pass ha (by kernel_rfl) ?_
            clear ha; intro a ha
            refine st_pass ha (by kernel_rfl) ?_
            clear ha; intro a ha
            refine st_pass ha (by kernel_rfl) ?_
            clear ha; intro a ha
            refine st_pass ha (by kernel_rfl) ?_
            clear ha; intro a ha
            refine st_pass ha (by kernel_rfl) ?_
            clear ha; intro a ha
            refine st_val (.bool true) ha (by kernel_rfl) (by kernel_rfl) ?_
            clear ha; intro a ha
            refine wpList_nil ?_
            refine then_normal ?_
            refine wp_true ha rfl (by kernel_rfl) ?_
            refine wp_seq ?_
            refine wp_region_lit ?_
            refine st_val (.int .i64 0) ha (by kernel_rfl) (by kernel_rfl) ?_
            clear ha; intro a ha
            refine st_val (.bool false) ha (by kernel_rfl) (by kernel_rfl) ?_
            clear ha; intro a ha
            refine st_val (.int .i64 2) ha (by kernel_rfl) (by kernel_rfl) ?_
            clear ha; intro a ha
            refine wpList_nil ?_
            refine then_normal ?_
            refine wp_ret ?_
            refine then_ret ?_
            refine block_ret ?_
            refine then_ret ?_
            refine then_ret ?_
            refine block_ret ?_
            refine then_ret ?_
            refine ret_with (v := .tuple #[.int .i64 0, .bool false, .int .i64 2]) ha (results_3 rfl ha (res_tmp (by kernel_rfl) (by kernel_rfl)) (res_tmp (by kernel_rfl) (by kernel_rfl)) (res_tmp (by kernel_rfl) (by kernel_rfl))) ?_
            replace s := s.tail
            replace s : St W (L) w := s
            exact ⟨0, false, 2, rfl, ⟨R, er, hres, .inr ⟨he0, .inr (.inl ⟨by omega, (by first | exact who_bad hv hy (by omega) hb | (intro hw; have := hw.2 v (List.mem_of_getElem? hv); omega) | (intro hw; have := hw.2 v (List.mem_of_getElem? hv); simp_all; done)), rfl, rfl, rfl⟩)⟩⟩, s⟩
          · rw [hb] at ha; skip
            have hi1 : isIdB v.1 = true := by simpa using hb
            refine st_val (.slice (some adb) m cb) ha (by kernel_rfl) (by kernel_rfl) ?_
            clear ha; intro a ha
            refine st_val (.int .i64 ((k : Nat) : Int)) ha (by kernel_rfl) (by kernel_rfl) ?_
            clear ha; intro a ha
            refine st_val (.pointer (some (adb.add (k * 2)))) ha (by kernel_rfl) (run_indexAddr' (kd := .i64) (i := ((k : Nat) : Int)) (n := m) (c := cb) k rfl Try.underlying31 Try.sizeOf33 (by kernel_rfl) (by kernel_rfl) rfl (by first | assumption | omega) _) ?_
            clear ha; intro a ha
            refine st_val (.pointer (some (adb.add (k * 2 + 1)))) ha (by kernel_rfl) (run_fieldAddr_at (i := k * 2) (off := 1) rfl Try.underlying33 rfl Try.sizeOf3 (by kernel_rfl) _) ?_
            clear ha; intro a ha
            refine st_val (.int .i64 v.2) ha (by kernel_rfl) (run_loadAt1 (i := k * 2 + 1) ((hrb _ s.sat.tail)) rfl (by kernel_rfl) Try.isAgg3 (by rw [egs_at hv (by omega)]; rfl)) ?_
            clear ha; intro a ha
            refine st_val (.bool (decide (v.2 < (0 : Int)))) ha (by kernel_rfl) (by kernel_rfl) ?_
            clear ha; intro a ha
            refine st_val (.bool (decide (v.2 < (0 : Int)))) ha (by kernel_rfl) (by kernel_rfl) ?_
            clear ha; intro a ha
            refine st_val (.bool (decide (v.2 < (0 : Int)))) ha (by kernel_rfl) (by kernel_rfl) ?_
            clear ha; intro a ha
            rcases Bool.eq_false_or_eq_true (decide (v.2 < (0 : Int))) with hb | hb
            · rw [hb] at ha; replace hb : (v.2 < (0 : Int)) := of_decide_eq_true hb
              refine st_pass ha (by kernel_rfl) ?_
              clear ha; intro a ha
              refine st_pass ha (by kernel_rfl) ?_
              clear ha; intro a ha
              refine st_pass ha (by kernel_rfl) ?_
              clear ha; intro a ha
              refine st_pass ha (by kernel_rfl) ?_
              clear ha; intro a ha
              refine st_pass ha (by kernel_rfl) ?_
              clear ha; intro a ha
              refine st_pass ha (by kernel_rfl) ?_
              clear ha; intro a ha
              refine st_val (.bool true) ha (by kernel_rfl) (by kernel_rfl) ?_
              clear ha; intro a ha
              refine wpList_nil ?_
              refine then_normal ?_
              refine wp_true ha rfl (by kernel_rfl) ?_
              refine wp_seq ?_
              refine wp_region_lit ?_
              refine st_val (.int .i64 0) ha (by kernel_rfl) (by kernel_rfl) ?_
              clear ha; intro a ha
              refine st_val (.bool false) ha (by kernel_rfl) (by kernel_rfl) ?_
              clear ha; intro a ha
              refine st_val (.int .i64 2) ha (by kernel_rfl) (by kernel_rfl) ?_
              clear ha; intro a ha
              refine wpList_nil ?_
              refine then_normal ?_
              refine wp_ret ?_
              refine then_ret ?_
              refine block_ret ?_
              refine then_ret ?_
              refine then_ret ?_
              refine block_ret ?_
              refine then_ret ?_
              refine ret_with (v := .tuple #[.int .i64 0, .bool false, .int .i64 2]) ha (results_3 rfl ha (res_tmp (by kernel_rfl) (by kernel_rfl)) (res_tmp (by kernel_rfl) (by kernel_rfl)) (res_tmp (by kernel_rfl) (by kernel_rfl))) ?_
              replace s := s.tail
              replace s : St W (L) w := s
              exact ⟨0, false, 2, rfl, ⟨R, er, hres, .inr ⟨he0, .inr (.inl ⟨by omega, (by first | exact who_bad hv hy (by omega) hb | (intro hw; have := hw.2 v (List.mem_of_getElem? hv); omega) | (intro hw; have := hw.2 v (List.mem_of_getElem? hv); simp_all; done)), rfl, rfl, rfl⟩)⟩⟩, s⟩
            · rw [hb] at ha; replace hb : ¬ (v.2 < (0 : Int)) := of_decide_eq_false hb
              refine st_val (.slice (some adb) m cb) ha (by kernel_rfl) (by kernel_rfl) ?_
              clear ha; intro a ha
              refine st_val (.int .i64 ((k : Nat) : Int)) ha (by kernel_rfl) (by kernel_rfl) ?_
              clear ha; intro a ha
              refine st_val (.pointer (some (adb.add (k * 2)))) ha (by kernel_rfl) (run_indexAddr' (kd := .i64) (i := ((k : Nat) : Int)) (n := m) (c := cb) k rfl Try.underlying31 Try.sizeOf33 (by kernel_rfl) (by kernel_rfl) rfl (by first | assumption | omega) _) ?_
              clear ha; intro a ha
              refine st_val (.pointer (some (adb.add (k * 2 + 1)))) ha (by kernel_rfl) (run_fieldAddr_at (i := k * 2) (off := 1) rfl Try.underlying33 rfl Try.sizeOf3 (by kernel_rfl) _) ?_
              clear ha; intro a ha
              refine st_val (.int .i64 v.2) ha (by kernel_rfl) (run_loadAt1 (i := k * 2 + 1) ((hrb _ s.sat.tail)) rfl (by kernel_rfl) Try.isAgg3 (by rw [egs_at hv (by omega)]; rfl)) ?_
              clear ha; intro a ha
              refine st_val (.bool (decide (v.2 > (9007199254740991 : Int)))) ha (by kernel_rfl) (by kernel_rfl) ?_
              clear ha; intro a ha
              refine st_val (.bool (decide (v.2 > (9007199254740991 : Int)))) ha (by kernel_rfl) (by kernel_rfl) ?_
              clear ha; intro a ha
              refine wpList_nil ?_
              refine then_normal ?_
              refine wp_part (decide (v.2 > (9007199254740991 : Int))) ha rfl (by kernel_rfl) (fun hb => ?_) (fun hb => ?_)
              · rw [hb] at ha; replace hb : (v.2 > (9007199254740991 : Int)) := of_decide_eq_true hb
                refine wp_seq ?_
                refine wp_region_lit ?_
                refine st_val (.int .i64 0) ha (by kernel_rfl) (by kernel_rfl) ?_
                clear ha; intro a ha
                refine st_val (.bool false) ha (by kernel_rfl) (by kernel_rfl) ?_
                clear ha; intro a ha
                refine st_val (.int .i64 2) ha (by kernel_rfl) (by kernel_rfl) ?_
                clear ha; intro a ha
                refine wpList_nil ?_
                refine then_normal ?_
                refine wp_ret ?_
                refine then_ret ?_
                refine block_ret ?_
                refine then_ret ?_
                refine then_ret ?_
                refine block_ret ?_
                refine then_ret ?_
                refine ret_with (v := .tuple #[.int .i64 0, .bool false, .int .i64 2]) ha (results_3 rfl ha (res_tmp (by kernel_rfl) (by kernel_rfl)) (res_tmp (by kernel_rfl) (by kernel_rfl)) (res_tmp (by kernel_rfl) (by kernel_rfl))) ?_
                replace s := s.tail
                replace s : St W (L) w := s
                exact ⟨0, false, 2, rfl, ⟨R, er, hres, .inr ⟨he0, .inr (.inl ⟨by omega, (by first | exact who_bad hv hy (by omega) hb | (intro hw; have := hw.2 v (List.mem_of_getElem? hv); omega) | (intro hw; have := hw.2 v (List.mem_of_getElem? hv); simp_all; done)), rfl, rfl, rfl⟩)⟩⟩, s⟩
              · rw [hb] at ha; replace hb : ¬ (v.2 > (9007199254740991 : Int)) := of_decide_eq_false hb
                refine wp_skip ?_
                refine then_normal ?_
                refine wp_seq ?_
                refine wp_region_lit ?_
                refine st_val (.int .i64 0) ha (by kernel_rfl) (by kernel_rfl) ?_
                clear ha; intro a ha
                refine wpList_nil ?_
                refine then_normal ?_
                refine wp_block ?_
                have hpk := hp; clear hp
                have hkm : k < m := by omega
                refine wp_loopG (G := Nat) (fun i a w => Has a 96 [(1, .slice (some adb) m cb), (7, .slice A1 R.length c2), (9, .int .i64 ((k : Nat) : Int)), (10, .int .i64 ((i : Nat) : Int))] ∧ St W (Own 3 1 A1 R.length c2 (ints R) :: L) w ∧ (i ≤ k ∧ ∀ (j : Nat) (y : Arc), j < i → l[j]? = some y → y.1 ≠ v.1)) (fun i => k - i) 0 ?_ ?_
                · exact ⟨(Has.cons ha (by kernel_rfl) (by kernel_rfl) (Has.cons ha (by kernel_rfl) (by kernel_rfl) (Has.cons ha (by kernel_rfl) (by kernel_rfl) (Has.cons ha (by kernel_rfl) (by kernel_rfl) (Has.nil ha))))), s, ⟨Nat.zero_le _, fun j y hj => absurd hj (Nat.not_lt_zero _)⟩⟩
                · clear ha s; rintro i a w ⟨ha, s, hp⟩
                  refine wp_seq ?_
                  refine wp_seq ?_
                  refine wp_region_lit ?_
                  refine st_val (.int .i64 ((i : Nat) : Int)) ha (by kernel_rfl) (by kernel_rfl) ?_
                  clear ha; intro a ha
                  refine st_val (.int .i64 ((k : Nat) : Int)) ha (by kernel_rfl) (by kernel_rfl) ?_
                  clear ha; intro a ha
                  refine st_val (.bool (decide (((i : Nat) : Int) < ((k : Nat) : Int)))) ha (by kernel_rfl) (by kernel_rfl) ?_
                  clear ha; intro a ha
                  refine wpList_nil ?_
                  refine then_normal ?_
                  refine wp_part (decide (((i : Nat) : Int) < ((k : Nat) : Int))) ha rfl (by kernel_rfl) (fun hb => ?_) (fun hb => ?_)
                  · rw [hb] at ha; replace hb : (((i : Nat) : Int) < ((k : Nat) : Int)) := of_decide_eq_true hb
                    obtain ⟨y, hy⟩ : ∃ x, l[i]? = some x := ⟨_, List.getElem?_eq_getElem (by omega)⟩
                    refine wp_skip ?_
                    refine then_normal ?_
                    refine wp_seq ?_
                    refine wp_block ?_
                    refine wp_seq ?_
                    refine wp_region_head 10 (fun w => Reads w 2 (some adb) m (egs l) ∧ True) (by kernel_rfl) (by decide) ?_
                    replace s := s.drew; generalize _root_.Go.World.drew _ = w at s ⊢
                    have hS : (fun w => Reads w 2 (some adb) m (egs l) ∧ True) w := ⟨(hrb _ s.sat.tail), trivial⟩
                    refine hd_val (i := 0) (.slice (some adb) m cb) ha rfl (by kernel_rfl) (fun _ _ _ h => h) (by kernel_rfl) (fun w hS => (by kernel_rfl)) hS ?_
                    clear ha; intro a ha
                    refine hd_val (i := 1) (.int .i64 ((i : Nat) : Int)) ha rfl (by kernel_rfl) (fun _ _ _ h => h) (by kernel_rfl) (fun w hS => (by kernel_rfl)) hS ?_
                    clear ha; intro a ha
                    refine hd_val (i := 2) (.pointer (some (adb.add (i * 2)))) ha rfl (by kernel_rfl) (fun _ _ _ h => h) (by kernel_rfl) (fun w hS => (run_indexAddr' (kd := .i64) (i := ((i : Nat) : Int)) (n := m) (c := cb) i rfl Try.underlying31 Try.sizeOf33 (by kernel_rfl) (by kernel_rfl) rfl (by first | assumption | omega) _)) hS ?_
                    clear ha; intro a ha
                    refine hd_val (i := 3) (.pointer (some (adb.add (i * 2 + 0)))) ha rfl (by kernel_rfl) (fun _ _ _ h => h) (by kernel_rfl) (fun w hS => (run_fieldAddr_at (i := i * 2) (off := 0) rfl Try.underlying33 rfl Try.sizeOf3 (by kernel_rfl) _)) hS ?_
                    clear ha; intro a ha
                    refine hd_val (i := 4) (.int .i64 y.1) ha rfl (by kernel_rfl) (fun _ _ _ h => h) (by kernel_rfl) (fun w hS => run_loadAt1 (i := i * 2 + 0) hS.1 rfl (by kernel_rfl) Try.isAgg3 (by rw [egs_at hy (by omega)]; rfl)) hS ?_
                    clear ha; intro a ha
                    refine hd_val (i := 5) (.slice (some adb) m cb) ha rfl (by kernel_rfl) (fun _ _ _ h => h) (by kernel_rfl) (fun w hS => (by kernel_rfl)) hS ?_
                    clear ha; intro a ha
                    refine hd_val (i := 6) (.int .i64 ((k : Nat) : Int)) ha rfl (by kernel_rfl) (fun _ _ _ h => h) (by kernel_rfl) (fun w hS => (by kernel_rfl)) hS ?_
                    clear ha; intro a ha
                    refine hd_val (i := 7) (.pointer (some (adb.add (k * 2)))) ha rfl (by kernel_rfl) (fun _ _ _ h => h) (by kernel_rfl) (fun w hS => (run_indexAddr' (kd := .i64) (i := ((k : Nat) : Int)) (n := m) (c := cb) k rfl Try.underlying31 Try.sizeOf33 (by kernel_rfl) (by kernel_rfl) rfl (by first | assumption | omega) _)) hS ?_
                    clear ha; intro a ha
                    refine hd_val (i := 8) (.pointer (some (adb.add (k * 2 + 0)))) ha rfl (by kernel_rfl) (fun _ _ _ h => h) (by kernel_rfl) (fun w hS => (run_fieldAddr_at (i := k * 2) (off := 0) rfl Try.underlying33 rfl Try.sizeOf3 (by kernel_rfl) _)) hS ?_
                    clear ha; intro a ha
                    refine hd_val (i := 9) (.int .i64 v.1) ha rfl (by kernel_rfl) (fun _ _ _ h => h) (by kernel_rfl) (fun w hS => run_loadAt1 (i := k * 2 + 0) hS.1 rfl (by kernel_rfl) Try.isAgg3 (by rw [egs_at hv (by omega)]; rfl)) hS ?_
                    clear ha; intro a ha
                    refine Head.done (by kernel_rfl) ?_
                    clear hS; simp only [List.drop_succ_cons, List.drop_zero]
                    refine st_val (.bool (y.1 == v.1)) ha (by kernel_rfl) (by kernel_rfl) ?_
                    clear ha; intro a ha
                    refine wpList_nil ?_
                    refine then_normal ?_
                    refine wp_part (y.1 == v.1) ha rfl (by kernel_rfl) (fun hb => ?_) (fun hb => ?_)
                    · rw [hb] at ha; have hb_ := hb; replace hb := eq_of_beq hb
                      refine wp_seq ?_
                      refine wp_region_lit ?_
                      refine st_val (.int .i64 0) ha (by kernel_rfl) (by kernel_rfl) ?_
                      clear ha; intro a ha
                      refine st_val (.bool false) ha (by kernel_rfl) (by kernel_rfl) ?_
                      clear ha; intro a ha
                      refine st_val (.int .i64 2) ha (by kernel_rfl) (by kernel_rfl) ?_
                      clear ha; intro a ha
                      refine wpList_nil ?_
                      refine then_normal ?_
                      refine wp_ret ?_
                      refine block_ret ?_
                      refine then_ret ?_
                      refine then_ret ?_
                      refine block_ret ?_
                      refine block_ret ?_
                      refine then_ret ?_
                      refine then_ret ?_
                      refine block_ret ?_
                      refine then_ret ?_
                      refine ret_with (v := .tuple #[.int .i64 0, .bool false, .int .i64 2]) ha (results_3 rfl ha (res_tmp (by kernel_rfl) (by kernel_rfl)) (res_tmp (by kernel_rfl) (by kernel_rfl)) (res_tmp (by kernel_rfl) (by kernel_rfl))) ?_
                      replace s := s.tail
                      replace s : St W (L) w := s
                      exact ⟨0, false, 2, rfl, ⟨R, er, hres, .inr ⟨he0, .inr (.inl ⟨by omega, (by first | exact who_bad hv hy (by omega) hb | (intro hw; have := hw.2 v (List.mem_of_getElem? hv); omega) | (intro hw; have := hw.2 v (List.mem_of_getElem? hv); simp_all; done)), rfl, rfl, rfl⟩)⟩⟩, s⟩
                    · rw [hb] at ha; have hb_ := hb; replace hb := ne_of_beq_false hb
                      refine wp_skip ?_
                      refine block_normal ?_
                      refine then_normal ?_
                      refine wp_region_lit ?_
                      refine st_val (.int .i64 ((i : Nat) : Int)) ha (by kernel_rfl) (by kernel_rfl) ?_
                      clear ha; intro a ha
                      refine st_val (.int .i64 ((i + 1 : Nat) : Int)) ha (by kernel_rfl) (run_arith (((i : Nat) : Int) + (1 : Int)) ((i + 1 : Nat) : Int) rfl (by kernel_rfl) (by kernel_rfl) (.inl ⟨rfl, rfl⟩) (by rw [wrap64_in (by omega)]; try omega) _) ?_
                      clear ha; intro a ha
                      refine st_val (.int .i64 ((i + 1 : Nat) : Int)) ha (by kernel_rfl) (by kernel_rfl) ?_
                      clear ha; intro a ha
                      refine wpList_nil ?_
                      refine then_normal ?_
                      exact ⟨i + 1, by omega, (Has.cons ha (by kernel_rfl) (by kernel_rfl) (Has.cons ha (by kernel_rfl) (by kernel_rfl) (Has.cons ha (by kernel_rfl) (by kernel_rfl) (Has.cons ha (by kernel_rfl) (by kernel_rfl) (Has.nil ha))))), s, by omega, fun j y2 hj hy2 => by
      rcases Nat.lt_or_ge j i with h | h
      · exact hp.2 j y2 h hy2
      · have hji : j = i := by omega
        rw [hji, hy] at hy2; cases hy2; exact fun e => hb e⟩
                  · rw [hb] at ha; replace hb : ¬ (((i : Nat) : Int) < ((k : Nat) : Int)) := of_decide_eq_false hb
                    have hik : i = k := by omega
                    have hdis := hp.2
                    rw [hik] at hdis
                    refine wp_exit ?_
                    refine then_exit ?_
                    refine then_exit ?_
                    refine block_hit ?_
                    refine block_normal ?_
                    refine then_normal ?_
                    refine wp_region_lit ?_
                    refine st_val (.int .i64 ((k : Nat) : Int)) ha (by kernel_rfl) (by kernel_rfl) ?_
                    clear ha; intro a ha
                    refine st_val (.int .i64 ((k + 1 : Nat) : Int)) ha (by kernel_rfl) (run_arith (((k : Nat) : Int) + (1 : Int)) ((k + 1 : Nat) : Int) rfl (by kernel_rfl) (by kernel_rfl) (.inl ⟨rfl, rfl⟩) (by rw [wrap64_in (by omega)]; try omega) _) ?_
                    clear ha; intro a ha
                    refine st_val (.int .i64 ((k + 1 : Nat) : Int)) ha (by kernel_rfl) (by kernel_rfl) ?_
                    clear ha; intro a ha
                    refine wpList_nil ?_
                    refine then_normal ?_
                    exact ⟨k + 1, by omega, (Has.cons ha (by kernel_rfl) (by kernel_rfl) (Has.cons ha (by kernel_rfl) (by kernel_rfl) (Has.cons ha (by kernel_rfl) (by kernel_rfl) (Has.nil ha)))), s, by omega, who_next hv hpk.2 ⟨hi1, by omega, by omega⟩ hdis⟩
        · rw [hb] at ha; replace hb : ¬ (((k : Nat) : Int) < ((m : Nat) : Int)) := of_decide_eq_false hb
          refine wp_exit ?_
          refine then_exit ?_
          refine then_exit ?_
          refine block_hit ?_
          refine then_normal ?_
          refine wp_seq ?_
          refine wp_region_lit ?_
          refine st_val (.int .i64 0) ha (by kernel_rfl) (by kernel_rfl) ?_
          clear ha; intro a ha
          refine st_val (.bool false) ha (by kernel_rfl) (by kernel_rfl) ?_
          clear ha; intro a ha
          refine wpList_nil ?_
          refine then_normal ?_
          refine wp_seq ?_
          refine wp_seq ?_
          refine wp_region_lit ?_
          refine st_val (.int .i64 0) ha (by kernel_rfl) (by kernel_rfl) ?_
          clear ha; intro a ha
          refine wpList_nil ?_
          refine then_normal ?_
          refine wp_block ?_
          have hwho : whoOk l := by have := hp.2; rwa [List.take_of_length_le (by omega)] at this
          clear hp
          refine wp_loopG (G := (Nat × Int × Bool × Option Addr)) (fun ⟨i, mb, is, Ar⟩ a w => Has a 96 [(1, .slice B m cb), (7, .slice Ar R.length c2), (11, .int .i64 mb), (12, .bool is), (13, .int .i64 ((i : Nat) : Int))] ∧ St W (Own 3 1 Ar R.length c2 (ints R) :: L) w ∧ (i ≤ R.length ∧ Best (prio l) R i mb is)) (fun ⟨i, mb, is, Ar⟩ => R.length - i) (0, 0, false, A1) ?_ ?_
          · exact ⟨(Has.cons ha (by kernel_rfl) (by kernel_rfl) (Has.cons ha (by kernel_rfl) (by kernel_rfl) (Has.cons ha (by kernel_rfl) (by kernel_rfl) (Has.cons ha (by kernel_rfl) (by kernel_rfl) (Has.cons ha (by kernel_rfl) (by kernel_rfl) (Has.nil ha)))))), s, ⟨Nat.zero_le _, .inl ⟨rfl, rfl, rfl⟩⟩⟩
          · clear ha s; rintro ⟨i, mb, is, Ar⟩ a w ⟨ha, s, hp⟩
            refine wp_seq ?_
            refine wp_seq ?_
            refine wp_region_lit ?_
            refine st_val (.int .i64 ((i : Nat) : Int)) ha (by kernel_rfl) (by kernel_rfl) ?_
            clear ha; intro a ha
            refine st_val (.slice Ar R.length c2) ha (by kernel_rfl) (by kernel_rfl) ?_
            clear ha; intro a ha
            refine st_val (.int .i64 ((R.length : Nat) : Int)) ha (by kernel_rfl) (by kernel_rfl) ?_
            clear ha; intro a ha
            refine st_val (.bool (decide (((i : Nat) : Int) < ((R.length : Nat) : Int)))) ha (by kernel_rfl) (by kernel_rfl) ?_
            clear ha; intro a ha
            refine wpList_nil ?_
            refine then_normal ?_
            refine wp_part (decide (((i : Nat) : Int) < ((R.length : Nat) : Int))) ha rfl (by kernel_rfl) (fun hb => ?_) (fun hb => ?_)
            · rw [hb] at ha; replace hb : (((i : Nat) : Int) < ((R.length : Nat) : Int)) := of_decide_eq_true hb
              obtain ⟨x, hx⟩ : ∃ x, R[i]? = some x := ⟨_, List.getElem?_eq_getElem (by omega)⟩
              obtain ⟨adr, hAr⟩ := Own.addr (s.at_ (j := 0) rfl) (by omega)
              subst hAr
              refine wp_skip ?_
              refine then_normal ?_
              refine wp_seq ?_
              refine wp_block ?_
              refine wp_seq ?_
              refine wp_region_lit ?_
              refine st_val (.bool is) ha (by kernel_rfl) (by kernel_rfl) ?_
              clear ha; intro a ha
              refine st_val (.bool (!is)) ha (by kernel_rfl) (by kernel_rfl) ?_
              clear ha; intro a ha
              refine st_val (.bool (!is)) ha (by kernel_rfl) (by kernel_rfl) ?_
              clear ha; intro a ha
              rcases Bool.eq_false_or_eq_true (!is) with hb | hb
              · rw [hb] at ha; skip
                obtain rfl : is = false := by simpa using hb
                refine st_pass ha (by kernel_rfl) ?_
                clear ha; intro a ha
                refine st_pass ha (by kernel_rfl) ?_
                clear ha; intro a ha
                refine st_pass ha (by kernel_rfl) ?_
                clear ha; intro a ha
                refine st_pass ha (by kernel_rfl) ?_
                clear ha; intro a ha
                refine st_pass ha (by kernel_rfl) ?_
                clear ha; intro a ha
                refine st_pass ha (by kernel_rfl) ?_
                clear ha; intro a ha
                refine st_pass ha (by kernel_rfl) ?_
                clear ha; intro a ha
                refine st_pass ha (by kernel_rfl) ?_
                clear ha; intro a ha
                refine st_pass ha (by kernel_rfl) ?_
                clear ha; intro a ha
                refine st_pass ha (by kernel_rfl) ?_
                clear ha; intro a ha
                refine st_val (.bool true) ha (by kernel_rfl) (by kernel_rfl) ?_
                clear ha; intro a ha
                refine wpList_nil ?_
                refine then_normal ?_
                refine wp_true ha rfl (by kernel_rfl) ?_
                refine wp_seq ?_
                refine wp_region_lit ?_
                refine st_val (.slice (some adr) R.length c2) ha (by kernel_rfl) (by kernel_rfl) ?_
                clear ha; intro a ha
                refine st_val (.int .i64 ((i : Nat) : Int)) ha (by kernel_rfl) (by kernel_rfl) ?_
                clear ha; intro a ha
                refine st_val (.pointer (some (adr.add (i * 1)))) ha (by kernel_rfl) (run_indexAddr' (kd := .i64) (i := ((i : Nat) : Int)) (n := R.length) (c := c2) i rfl Try.underlying25 Try.sizeOf3 (by kernel_rfl) (by kernel_rfl) rfl (by first | assumption | omega) _) ?_
                clear ha; intro a ha
                refine st_val (.int .i64 x) ha (by kernel_rfl) (run_loadAt1 (i := i * 1) ((Knows.own (j := 0) rfl) _ s.sat) rfl (by kernel_rfl) Try.isAgg3 (by rw [Nat.mul_one]; exact ints_at hx)) ?_
                clear ha; intro a ha
                refine st_val (.int .i64 x) ha (by kernel_rfl) (by kernel_rfl) ?_
                clear ha; intro a ha
                refine wpList_nil ?_
                refine then_normal ?_
                refine wp_region_lit ?_
                refine st_val (.bool true) ha (by kernel_rfl) (by kernel_rfl) ?_
                clear ha; intro a ha
                refine wpList_nil ?_
                refine block_normal ?_
                refine then_normal ?_
                refine wp_region_lit ?_
                refine st_val (.int .i64 ((i : Nat) : Int)) ha (by kernel_rfl) (by kernel_rfl) ?_
                clear ha; intro a ha
                refine st_val (.int .i64 ((i + 1 : Nat) : Int)) ha (by kernel_rfl) (run_arith (((i : Nat) : Int) + (1 : Int)) ((i + 1 : Nat) : Int) rfl (by kernel_rfl) (by kernel_rfl) (.inl ⟨rfl, rfl⟩) (by rw [wrap64_in (by omega)]; try omega) _) ?_
                clear ha; intro a ha
                refine st_val (.int .i64 ((i + 1 : Nat) : Int)) ha (by kernel_rfl) (by kernel_rfl) ?_
                clear ha; intro a ha
                refine wpList_nil ?_
                refine then_normal ?_
                exact ⟨(i + 1, x, true, (some adr)), (show R.length - (i + 1) < R.length - i by omega), (Has.cons ha (by kernel_rfl) (by kernel_rfl) (Has.cons ha (by kernel_rfl) (by kernel_rfl) (Has.cons ha (by kernel_rfl) (by kernel_rfl) (Has.cons ha (by kernel_rfl) (by kernel_rfl) (Has.cons ha (by kernel_rfl) (by kernel_rfl) (Has.nil ha)))))), s, by omega, (by first | exact hp.2.first hx | exact hp.2.turn hx hb)⟩
              · rw [hb] at ha; skip
                obtain rfl : is = true := by simpa using hb
                refine st_val (.slice B m cb) ha (by kernel_rfl) (by kernel_rfl) ?_
                clear ha; intro a ha
                refine st_val (.slice (some adr) R.length c2) ha (by kernel_rfl) (by kernel_rfl) ?_
                clear ha; intro a ha
                refine st_val (.int .i64 ((i : Nat) : Int)) ha (by kernel_rfl) (by kernel_rfl) ?_
                clear ha; intro a ha
                refine st_val (.pointer (some (adr.add (i * 1)))) ha (by kernel_rfl) (run_indexAddr' (kd := .i64) (i := ((i : Nat) : Int)) (n := R.length) (c := c2) i rfl Try.underlying25 Try.sizeOf3 (by kernel_rfl) (by kernel_rfl) rfl (by first | assumption | omega) _) ?_
                clear ha; intro a ha
                refine st_val (.int .i64 x) ha (by kernel_rfl) (run_loadAt1 (i := i * 1) ((Knows.own (j := 0) rfl) _ s.sat) rfl (by kernel_rfl) Try.isAgg3 (by rw [Nat.mul_one]; exact ints_at hx)) ?_
                clear ha; intro a ha
                refine st_call ha (by kernel_rfl) (by kernel_rfl) (prio32_any W _ w B m cb l (fun w s => hrb w s.tail) hm hmn x s) ?_
                rintro _ w ⟨rfl, s⟩
                replace s : St W (Own 3 1 (some adr) R.length c2 (ints R) :: L) w := s
                refine ⟨_, rfl, ?_⟩; clear ha; intro a ha
                refine st_val (.slice B m cb) ha (by kernel_rfl) (by kernel_rfl) ?_
                clear ha; intro a ha
                refine st_val (.int .i64 mb) ha (by kernel_rfl) (by kernel_rfl) ?_
                clear ha; intro a ha
                refine st_call ha (by kernel_rfl) (by kernel_rfl) (prio32_any W _ w B m cb l (fun w s => hrb w s.tail) hm hmn mb s) ?_
                rintro _ w ⟨rfl, s⟩
                replace s : St W (Own 3 1 (some adr) R.length c2 (ints R) :: L) w := s
                refine ⟨_, rfl, ?_⟩; clear ha; intro a ha
                refine st_val (.bool (decide ((prio l x) < (prio l mb)))) ha (by kernel_rfl) (by kernel_rfl) ?_
                clear ha; intro a ha
                refine st_val (.bool (decide ((prio l x) < (prio l mb)))) ha (by kernel_rfl) (by kernel_rfl) ?_
                clear ha; intro a ha
                refine wpList_nil ?_
                refine then_normal ?_
                refine wp_part (decide ((prio l x) < (prio l mb))) ha rfl (by kernel_rfl) (fun hb => ?_) (fun hb => ?_)
                · rw [hb] at ha; replace hb : ((prio l x) < (prio l mb)) := of_decide_eq_true hb
                  refine wp_seq ?_
                  refine wp_region_lit ?_
                  refine st_val (.slice (some adr) R.length c2) ha (by kernel_rfl) (by kernel_rfl) ?_
                  clear ha; intro a ha
                  refine st_val (.int .i64 ((i : Nat) : Int)) ha (by kernel_rfl) (by kernel_rfl) ?_
                  clear ha; intro a ha
                  refine st_val (.pointer (some (adr.add (i * 1)))) ha (by kernel_rfl) (run_indexAddr' (kd := .i64) (i := ((i : Nat) : Int)) (n := R.length) (c := c2) i rfl Try.underlying25 Try.sizeOf3 (by kernel_rfl) (by kernel_rfl) rfl (by first | assumption | omega) _) ?_
                  clear ha; intro a ha
                  refine st_val (.int .i64 x) ha (by kernel_rfl) (run_loadAt1 (i := i * 1) ((Knows.own (j := 0) rfl) _ s.sat) rfl (by kernel_rfl) Try.isAgg3 (by rw [Nat.mul_one]; exact ints_at hx)) ?_
                  clear ha; intro a ha
                  refine st_val (.int .i64 x) ha (by kernel_rfl) (by kernel_rfl) ?_
                  clear ha; intro a ha
                  refine wpList_nil ?_
                  refine then_normal ?_
                  refine wp_region_lit ?_
                  refine st_val (.bool true) ha (by kernel_rfl) (by kernel_rfl) ?_
                  clear ha; intro a ha
                  refine wpList_nil ?_
                  refine block_normal ?_
                  refine then_normal ?_
                  refine wp_region_lit ?_
                  refine st_val (.int .i64 ((i : Nat) : Int)) ha (by kernel_rfl) (by kernel_rfl) ?_
                  clear ha; intro a ha
                  refine st_val (.int .i64 ((i + 1 : Nat) : Int)) ha (by kernel_rfl) (run_arith (((i : Nat) : Int) + (1 : Int)) ((i + 1 : Nat) : Int) rfl (by kernel_rfl) (by kernel_rfl) (.inl ⟨rfl, rfl⟩) (by rw [wrap64_in (by omega)]; try omega) _) ?_
                  clear ha; intro a ha
                  refine st_val (.int .i64 ((i + 1 : Nat) : Int)) ha (by kernel_rfl) (by kernel_rfl) ?_
                  clear ha; intro a ha
                  refine wpList_nil ?_
                  refine then_normal ?_
                  exact ⟨(i + 1, x, true, (some adr)), (show R.length - (i + 1) < R.length - i by omega), (Has.cons ha (by kernel_rfl) (by kernel_rfl) (Has.cons ha (by kernel_rfl) (by kernel_rfl) (Has.cons ha (by kernel_rfl) (by kernel_rfl) (Has.cons ha (by kernel_rfl) (by kernel_rfl) (Has.cons ha (by kernel_rfl) (by kernel_rfl) (Has.nil ha)))))), s, by omega, (by first | exact hp.2.first hx | exact hp.2.turn hx hb)⟩
                · rw [hb] at ha; replace hb : ¬ ((prio l x) < (prio l mb)) := of_decide_eq_false hb
                  refine wp_skip ?_
                  refine block_normal ?_
                  refine then_normal ?_
                  refine wp_region_lit ?_
                  refine st_val (.int .i64 ((i : Nat) : Int)) ha (by kernel_rfl) (by kernel_rfl) ?_
                  clear ha; intro a ha
                  refine st_val (.int .i64 ((i + 1 : Nat) : Int)) ha (by kernel_rfl) (run_arith (((i : Nat) : Int) + (1 : Int)) ((i + 1 : Nat) : Int) rfl (by kernel_rfl) (by kernel_rfl) (.inl ⟨rfl, rfl⟩) (by rw [wrap64_in (by omega)]; try omega) _) ?_
                  clear ha; intro a ha
                  refine st_val (.int .i64 ((i + 1 : Nat) : Int)) ha (by kernel_rfl) (by kernel_rfl) ?_
                  clear ha; intro a ha
                  refine wpList_nil ?_
                  refine then_normal ?_
                  exact ⟨(i + 1, mb, true, (some adr)), (show R.length - (i + 1) < R.length - i by omega), (Has.cons ha (by kernel_rfl) (by kernel_rfl) (Has.cons ha (by kernel_rfl) (by kernel_rfl) (Has.cons ha (by kernel_rfl) (by kernel_rfl) (Has.cons ha (by kernel_rfl) (by kernel_rfl) (Has.cons ha (by kernel_rfl) (by kernel_rfl) (Has.nil ha)))))), s, by omega, hp.2.keep hrise hx hb⟩
            · rw [hb] at ha; replace hb : ¬ (((i : Nat) : Int) < ((R.length : Nat) : Int)) := of_decide_eq_false hb
              refine wp_exit ?_
              refine then_exit ?_
              refine then_exit ?_
              refine block_hit ?_
              refine then_normal ?_
              refine wp_seq ?_
              refine wp_region_lit ?_
              refine st_val (.int .i64 mb) ha (by kernel_rfl) (by kernel_rfl) ?_
              clear ha; intro a ha
              refine st_val (.bool is) ha (by kernel_rfl) (by kernel_rfl) ?_
              clear ha; intro a ha
              refine st_val (.int .i64 mb) ha (by kernel_rfl) (by kernel_rfl) ?_
              clear ha; intro a ha
              refine st_val (.bool is) ha (by kernel_rfl) (by kernel_rfl) ?_
              clear ha; intro a ha
              refine st_val (.int .i64 0) ha (by kernel_rfl) (by kernel_rfl) ?_
              clear ha; intro a ha
              refine wpList_nil ?_
              refine then_normal ?_
              refine wp_ret ?_
              refine ret_with (v := .tuple #[.int .i64 mb, .bool is, .int .i64 0]) ha (results_3 rfl ha (res_tmp (by kernel_rfl) (by kernel_rfl)) (res_tmp (by kernel_rfl) (by kernel_rfl)) (res_tmp (by kernel_rfl) (by kernel_rfl))) ?_
              replace s := s.tail
              replace s : St W (L) w := s
              refine ⟨mb, is, 0, rfl, ⟨R, er, hres, .inr ⟨he0, .inr (.inr ⟨by omega, hwho, rfl, ?_⟩)⟩⟩, s⟩
              have hi : i = R.length := by omega
              rcases hp.2 with ⟨h0, rfl, rfl⟩ | ⟨h0, rfl, hm⟩
              · exact .inl ⟨List.eq_nil_of_length_eq_zero (by omega), rfl, rfl⟩
              · refine .inr ⟨fun h => by rw [h] at hi; simp at hi; omega, rfl, ?_⟩
                rwa [hi, List.take_length] at hm

end Go.Proofs.Ytjdkpebnaohonaa.B
