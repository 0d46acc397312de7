import Derived.Test.YtjdkpebnaohonaaB1
namespace Go.Proofs.Ytjdkpebnaohonaa.B
open Go.RowKit Go.Maps Go.Proofs.Ytjdkpebnaohonaa.Sep Go.Proofs.Ytjdkpebnaohonaa.P
set_option linter.unusedVariables false
set_option linter.unusedSimpArgs false
/-- Priorities, as a map's list. -/
def vd (l : List Arc) : List (Int × Value) := l.map fun p => (p.1, .int .i64 p.2)
def prio (l : List Arc) (x : Int) : Int := (mget l x).getD 0
theorem vd_get (l : List Arc) (x : Int) : (mget (vd l) x).getD (.int .i64 0) = .int .i64 (prio l x) := by
  unfold vd prio
  rw [mget_map (fun z : Int => Value.int .i64 z)]
  cases mget l x <;> rfl
theorem vd_some (l : List Arc) (x : Int) : (mget (vd l) x).isSome = (mget l x).isSome := by
  unfold vd
  rw [mget_map (fun z : Int => Value.int .i64 z)]
  cases mget l x <;> rfl
theorem vd_put {l : List Arc} {i : Nat} {x : Arc} (h : l[i]? = some x) (hn : (mget (l.take i) x.1).isSome = false) : mput (vd (l.take i)) x.1 (.int .i64 x.2) = vd (l.take (i + 1)) := by
  obtain ⟨hi, rfl⟩ := List.getElem?_eq_some_iff.1 h
  have h2 := mput_map (fun z : Int => Value.int .i64 z) (l.take i) l[i].1 l[i].2
  rw [mput_new fun p hp e => ?_] at h2
  · rw [vd, ← h2, vd, List.take_succ_eq_append_getElem hi]
  · have := mget_isSome.2 (List.mem_map.2 ⟨p, hp, e⟩)
    rw [hn] at this; cases this
def whoOk (l : List Arc) : Prop := (l.map (·.1)).Nodup ∧ ∀ x ∈ l, isIdB x.1 = true ∧ 0 ≤ x.2 ∧ x.2 ≤ 9007199254740991
theorem who_dup {l : List Arc} {i : Nat} {x : Arc} (h : l[i]? = some x) (hn : (mget (l.take i) x.1).isSome = true) : ¬ whoOk l := by
  obtain ⟨hi, rfl⟩ := List.getElem?_eq_some_iff.1 h
  rintro ⟨h1, _⟩
  have hm := mget_isSome.1 hn
  rw [← List.take_append_drop i l, List.map_append, List.nodup_append] at h1
  refine h1.2.2 _ hm _ ?_ rfl
  exact List.mem_map.2 ⟨l[i], by rw [List.drop_eq_getElem_cons hi]; exact List.mem_cons_self .., rfl⟩
theorem who_step {l : List Arc} {i : Nat} {x : Arc} (h : l[i]? = some x) (hn : (mget (l.take i) x.1).isSome = false) (hx : isIdB x.1 = true ∧ 0 ≤ x.2 ∧ x.2 ≤ 9007199254740991) (hw : whoOk (l.take i)) : whoOk (l.take (i + 1)) := by
  obtain ⟨hi, rfl⟩ := List.getElem?_eq_some_iff.1 h
  rw [List.take_succ_eq_append_getElem hi]
  refine ⟨?_, fun y hy => ?_⟩
  · rw [List.map_append, List.nodup_append]
    refine ⟨hw.1, by simp, fun a ha b hb e => ?_⟩
    have : b = l[i].1 := by simpa using hb
    have h2 := mget_isSome.2 ha
    rw [e, this, hn] at h2
    cases h2
  · rcases List.mem_append.1 hy with hy | hy
    · exact hw.2 y hy
    · have : y = l[i] := by simpa using hy
      subst this; exact hx
/-- The one with the least priority, and of these the least. -/
structure IsMin (p : Int → Int) (R : List Int) (m : Int) : Prop where
  mem : m ∈ R
  least : ∀ x ∈ R, p m < p x ∨ (p m = p x ∧ m ≤ x)
theorem IsMin.unique {p : Int → Int} {R : List Int} {m n : Int} (h : IsMin p R m) (k : IsMin p R n) : m = n := by
  have h1 := h.least n k.mem
  have h2 := k.least m h.mem
  omega
theorem IsMin.one (p : Int → Int) {R : List Int} {x : Int} (h : R[0]? = some x) : IsMin p (R.take 1) x := by
  obtain ⟨hi, rfl⟩ := List.getElem?_eq_some_iff.1 h
  rw [List.take_succ_eq_append_getElem hi]
  exact ⟨by simp, by simp⟩
theorem IsMin.next {p : Int → Int} {R : List Int} {i : Nat} {m x : Int} (h : IsMin p (R.take i) m) (hx : R[i]? = some x) (hn : ¬ (if cmpI (p x) (p m) = 0 then cmpI x m else cmpI (p x) (p m)) < 0) : IsMin p (R.take (i + 1)) m := by
  obtain ⟨hi, rfl⟩ := List.getElem?_eq_some_iff.1 hx
  rw [List.take_succ_eq_append_getElem hi]
  refine ⟨List.mem_append.2 (.inl h.mem), fun y hy => ?_⟩
  rcases List.mem_append.1 hy with hy | hy
  · exact h.least y hy
  · have : y = R[i] := by simpa using hy
    subst this
    unfold cmpI at hn
    generalize p R[i] = a at *; generalize p m = b at *; generalize R[i] = c at *
    by_cases h1 : a < b <;> by_cases h2 : b < a <;> by_cases h3 : c < m <;> by_cases h4 : m < c <;> simp_all <;> omega
theorem IsMin.turn {p : Int → Int} {R : List Int} {i : Nat} {m x : Int} (h : IsMin p (R.take i) m) (hx : R[i]? = some x) (hn : (if cmpI (p x) (p m) = 0 then cmpI x m else cmpI (p x) (p m)) < 0) : IsMin p (R.take (i + 1)) x := by
  obtain ⟨hi, rfl⟩ := List.getElem?_eq_some_iff.1 hx
  rw [List.take_succ_eq_append_getElem hi]
  have hlt : p R[i] < p m ∨ (p R[i] = p m ∧ R[i] < m) := by
    unfold cmpI at hn
    generalize p R[i] = a at *; generalize p m = b at *; generalize R[i] = c at *
    by_cases h1 : a < b <;> by_cases h2 : b < a <;> by_cases h3 : c < m <;> by_cases h4 : m < c <;> simp_all <;> omega
  refine ⟨List.mem_append.2 (.inr (by simp)), fun y hy => ?_⟩
  rcases List.mem_append.1 hy with hy | hy
  · have := h.least y hy; omega
  · have : y = R[i] := by simpa using hy
    subst this; omega
/-- What Victim answers. -/
def VictimRes (E l : List Arc) (id : Int) (is : Bool) (er : Int) : Prop :=
  ∃ R e, RingsRes E e R ∧ ((e ≠ 0 ∧ id = 0 ∧ is = false ∧ er = e) ∨ (e = 0 ∧ ((1000 < l.length ∧ id = 0 ∧ is = false ∧ er = 5) ∨
    (l.length ≤ 1000 ∧ ¬ whoOk l ∧ id = 0 ∧ is = false ∧ er = 2) ∨ (l.length ≤ 1000 ∧ whoOk l ∧ er = 0 ∧ ((R = [] ∧ id = 0 ∧ is = false) ∨ (R ≠ [] ∧ is = true ∧ IsMin (prio l) R id))))))
theorem RingsRes.unique {E : List Arc} {e f : Int} {R Q : List Int} (h : RingsRes E e R) (k : RingsRes E f Q) : e = f ∧ R = Q := by
  rcases h with ⟨a1, rfl, rfl⟩ | ⟨a1, ⟨x, hx, hb⟩, rfl, rfl⟩ | ⟨a1, ha, rfl, hr⟩ <;> rcases k with ⟨b1, rfl, rfl⟩ | ⟨b1, ⟨y, hy, hc⟩, rfl, rfl⟩ | ⟨b1, hb2, rfl, hq⟩
  · exact ⟨rfl, rfl⟩
  · omega
  · omega
  · omega
  · exact ⟨rfl, rfl⟩
  · exact absurd (hb2 x hx) hb
  · omega
  · exact absurd (ha y hy) hc
  · exact ⟨rfl, hr.unique hq⟩
theorem VictimRes.unique {E l : List Arc} {id id2 : Int} {is is2 : Bool} {er er2 : Int} (h : VictimRes E l id is er) (k : VictimRes E l id2 is2 er2) : id = id2 ∧ is = is2 ∧ er = er2 := by
  obtain ⟨R, e, h0, h⟩ := h
  obtain ⟨Q, f, k0, k⟩ := k
  obtain ⟨rfl, rfl⟩ := h0.unique k0
  rcases h with ⟨h1, rfl, rfl, rfl⟩ | ⟨h1, ⟨a1, rfl, rfl, rfl⟩ | ⟨a1, a2, rfl, rfl, rfl⟩ | ⟨a1, a2, rfl, ⟨a3, rfl, rfl⟩ | ⟨a3, rfl, a4⟩⟩⟩ <;>
  rcases k with ⟨k1, rfl, rfl, rfl⟩ | ⟨k1, ⟨b1, rfl, rfl, rfl⟩ | ⟨b1, b2, rfl, rfl, rfl⟩ | ⟨b1, b2, rfl, ⟨b3, rfl, rfl⟩ | ⟨b3, rfl, b4⟩⟩⟩ <;> first | (exact ⟨rfl, rfl, rfl⟩) | omega | contradiction | exact ⟨a4.unique b4, rfl, rfl⟩ | skip

theorem less_any (W : World) (L : List Chunk) (w : World) (x y : Int) (gb gm : Nat) (pl : List Arc) (hgb : Knows L (BlkIs gb [.map (some gm)])) (hgm : Knows L (MapIs Try.prog 3 encI gm (vd pl))) (hx : 1 ≤ x ∧ x ≤ 9007199254740991) (hy : 1 ≤ y ∧ y ≤ 9007199254740991) (s : St W L w) :
    Calls Try.prog 25 #[.int .i64 x, .int .i64 y, .pointer (some ⟨gb, 0, none⟩)] w fun e w' => e = .returned (.int .i64 (if cmpI (prio pl x) (prio pl y) = 0 then cmpI x y else cmpI (prio pl x) (prio pl y))) ∧ St W L w' := by
  refine enter_args (l := [.int .i64 x, .int .i64 y, .pointer (some ⟨gb, 0, none⟩)]) Try.func25 rfl rfl (Nat.le_of_ble_eq_true rfl) ?_
  intro a ha; replace ha : Has a 18 [(0, .int .i64 x), (1, .int .i64 y), (2, .pointer (some ⟨gb, 0, none⟩))] := ha
  refine wp_seq ?_
  refine wp_region_lit ?_
  refine st_val (.int .i64 0) ha (by kernel_rfl) (by kernel_rfl) ?_
  clear ha; intro a ha
  refine wpList_nil ?_
  refine then_normal ?_
  refine wp_seq ?_
  refine wp_region_lit ?_
  refine st_val (.map (some gm)) ha (by kernel_rfl) (run_load1 (of_ := 0) ((hgb _ s.sat)) rfl (by kernel_rfl) Try.isAgg55 rfl) ?_
  clear ha; intro a ha
  refine st_val (.int .i64 x) ha (by kernel_rfl) (by kernel_rfl) ?_
  clear ha; intro a ha
  refine st_val (.int .i64 (prio pl x)) ha (by kernel_rfl) (run_lookup (a := x) (.int .i64 (prio pl x)) ((hgm _ s.sat)) rfl (by kernel_rfl) (by kernel_rfl) encI_inj keyed3 Try.underlying55 Try.zeroValue3 (key3 ⟨by omega, by omega⟩) (vd_get _ _)) ?_
  clear ha; intro a ha
  refine st_val (.map (some gm)) ha (by kernel_rfl) (run_load1 (of_ := 0) ((hgb _ s.sat)) rfl (by kernel_rfl) Try.isAgg55 rfl) ?_
  clear ha; intro a ha
  refine st_val (.int .i64 y) ha (by kernel_rfl) (by kernel_rfl) ?_
  clear ha; intro a ha
  refine st_val (.int .i64 (prio pl y)) ha (by kernel_rfl) (run_lookup (a := y) (.int .i64 (prio pl y)) ((hgm _ s.sat)) rfl (by kernel_rfl) (by kernel_rfl) encI_inj keyed3 Try.underlying55 Try.zeroValue3 (key3 ⟨by omega, by omega⟩) (vd_get _ _)) ?_
  clear ha; intro a ha
  refine st_call ha (by kernel_rfl) (by kernel_rfl) (cmp_any W _ w (prio pl x) (prio pl y) s) ?_
  rintro _ w ⟨rfl, s⟩
  replace s : St W (L) w := s
  refine ⟨_, rfl, ?_⟩; clear ha; intro a ha
  refine st_val (.int .i64 x) ha (by kernel_rfl) (by kernel_rfl) ?_
  clear ha; intro a ha
  refine st_val (.int .i64 y) ha (by kernel_rfl) (by kernel_rfl) ?_
  clear ha; intro a ha
  refine st_call ha (by kernel_rfl) (by kernel_rfl) (cmp_any W _ w x y s) ?_
  rintro _ w ⟨rfl, s⟩
  replace s : St W (L) w := s
  refine ⟨_, rfl, ?_⟩; clear ha; intro a ha
  refine st_ex ha (by kernel_rfl) (ex_buildSlice elt25 _ zs25 [.int .i64 (cmpI (prio pl x) (prio pl y)), .int .i64 (cmpI x y)] s rfl (by kernel_rfl) (by decide)) ?_
  clear ha; rintro _ w a ⟨g1, rfl, s⟩ ha
  replace s : St W (.blk g1 [.int .i64 (cmpI (prio pl x) (prio pl y)), .int .i64 (cmpI x y)] 3 :: L) w := s
  refine st_call ha (by kernel_rfl) (by kernel_rfl) (or_any W _ w (cmpI (prio pl x) (prio pl y)) (cmpI x y) g1 s) ?_
  rintro _ w ⟨rfl, s⟩
  replace s : St W (L) w := s
  refine ⟨_, rfl, ?_⟩; clear ha; intro a ha
  refine st_val (.int .i64 (if (cmpI (prio pl x) (prio pl y)) = 0 then (cmpI x y) else (cmpI (prio pl x) (prio pl y)))) ha (by kernel_rfl) (by kernel_rfl) ?_
  clear ha; intro a ha
  refine wpList_nil ?_
  refine then_normal ?_
  refine wp_ret ?_
  refine ret_with (v := .int .i64 (if (cmpI (prio pl x) (prio pl y)) = 0 then (cmpI x y) else (cmpI (prio pl x) (prio pl y)))) ha (results_1 rfl ha (res_tmp (by kernel_rfl) (by kernel_rfl))) ?_
  exact ⟨rfl, s⟩

theorem min_some (W : World) (L : List Chunk) (w : World) (adr : Addr) (n c : Nat) (R : List Int) (r0 : Int) (hr0 : R[0]? = some r0) (hR : Knows L fun w => Reads w 1 (some adr) n (ints R)) (hl : R.length = n) (hn : 1 ≤ n ∧ n ≤ 1000000) (hRb : ∀ x ∈ R, 1 ≤ x ∧ x ≤ 9007199254740991) (gb gm : Nat) (pl : List Arc) (hgb : Knows L (BlkIs gb [.map (some gm)])) (hgm : Knows L (MapIs Try.prog 3 encI gm (vd pl))) (s : St W L w) :
    Calls Try.prog 24 #[.slice (some adr) n c, .func (.func 25) #[] #[.pointer (some ⟨gb, 0, none⟩)]] w fun e w' => ∃ m, e = .returned (.int .i64 m) ∧ IsMin (prio pl) R m ∧ St W L w' := by
  refine enter_args (l := [.slice (some adr) n c, .func (.func 25) #[] #[.pointer (some ⟨gb, 0, none⟩)]]) Try.func24 rfl rfl (Nat.le_of_ble_eq_true rfl) ?_
  intro a ha; replace ha : Has a 33 [(0, .slice (some adr) n c), (1, .func (.func 25) #[] #[.pointer (some ⟨gb, 0, none⟩)])] := ha
  refine wp_seq ?_
  refine wp_region_lit ?_
  refine st_val (.int .i64 0) ha (by kernel_rfl) (by kernel_rfl) ?_
  clear ha; intro a ha
  refine wpList_nil ?_
  refine then_normal ?_
  refine wp_seq ?_
  refine wp_seq ?_
  refine wp_region_lit ?_
  refine st_val (.slice (some adr) n c) ha (by kernel_rfl) (by kernel_rfl) ?_
  clear ha; intro a ha
  refine st_val (.int .i64 ((n : Nat) : Int)) ha (by kernel_rfl) (by kernel_rfl) ?_
  clear ha; intro a ha
  refine st_val (.bool false) ha (by kernel_rfl) (run_known (show (decide (((n : Nat) : Int) < (1 : Int))) = false from decide_eq_false (by omega)) (by kernel_rfl)) ?_
  clear ha; intro a ha
  refine wpList_nil ?_
  refine then_normal ?_
  refine wp_false ha rfl (by kernel_rfl) ?_
  refine wp_skip ?_
  refine then_normal ?_
  refine wp_seq ?_
  refine wp_region_lit ?_
  refine st_val (.slice (some adr) n c) ha (by kernel_rfl) (by kernel_rfl) ?_
  clear ha; intro a ha
  refine st_val (.pointer (some (adr.add (0 * 1)))) ha (by kernel_rfl) (run_indexAddr' (kd := .i64) (i := 0) (n := n) (c := c) 0 rfl Try.underlying25 Try.sizeOf3 (by kernel_rfl) (by kernel_rfl) rfl (by first | assumption | omega) _) ?_
  clear ha; intro a ha
  refine st_val (.int .i64 r0) ha (by kernel_rfl) (run_loadAt1 (i := 0 * 1) ((hR _ s.sat)) rfl (by kernel_rfl) Try.isAgg3 (by rw [Nat.mul_one]; exact ints_at hr0)) ?_
  clear ha; intro a ha
  refine st_val (.int .i64 r0) ha (by kernel_rfl) (by kernel_rfl) ?_
  clear ha; intro a ha
  refine wpList_nil ?_
  refine then_normal ?_
  refine wp_seq ?_
  refine wp_seq ?_
  refine wp_region_lit ?_
  refine st_val (.int .i64 1) ha (by kernel_rfl) (by kernel_rfl) ?_
  clear ha; intro a ha
  refine wpList_nil ?_
  refine then_normal ?_
  refine wp_block ?_
  refine wp_loopG (G := (Nat × Int)) (fun ⟨i, m⟩ a w => Has a 33 [(0, .slice (some adr) n c), (1, .func (.func 25) #[] #[.pointer (some ⟨gb, 0, none⟩)]), (5, .int .i64 m), (6, .int .i64 ((i : Nat) : Int))] ∧ St W (L) w ∧ (i ≤ n ∧ IsMin (prio pl) (R.take i) m)) (fun ⟨i, m⟩ => n - i) (1, r0) ?_ ?_
  · exact ⟨(Has.cons ha (by kernel_rfl) (by kernel_rfl) (Has.cons ha (by kernel_rfl) (by kernel_rfl) (Has.cons ha (by kernel_rfl) (by kernel_rfl) (Has.cons ha (by kernel_rfl) (by kernel_rfl) (Has.nil ha))))), s, ⟨by omega, IsMin.one _ hr0⟩⟩
  · clear ha s; rintro ⟨i, m⟩ a w ⟨ha, s, hp⟩
    refine wp_seq ?_
    refine wp_seq ?_
    refine wp_region_lit ?_
    refine st_val (.int .i64 ((i : Nat) : Int)) ha (by kernel_rfl) (by kernel_rfl) ?_
    clear ha; intro a ha
    refine st_val (.slice (some adr) n c) ha (by kernel_rfl) (by kernel_rfl) ?_
    clear ha; intro a ha
    refine st_val (.int .i64 ((n : Nat) : Int)) ha (by kernel_rfl) (by kernel_rfl) ?_
    clear ha; intro a ha
    refine st_val (.bool (decide (((i : Nat) : Int) < ((n : Nat) : Int)))) ha (by kernel_rfl) (by kernel_rfl) ?_
    clear ha; intro a ha
    refine wpList_nil ?_
    refine then_normal ?_
    refine wp_part (decide (((i : Nat) : Int) < ((n : Nat) : Int))) ha rfl (by kernel_rfl) (fun hb => ?_) (fun hb => ?_)
    · rw [hb] at ha; replace hb : (((i : Nat) : Int) < ((n : Nat) : Int)) := of_decide_eq_true hb
      obtain ⟨x, hx⟩ : ∃ x, R[i]? = some x := ⟨_, List.getElem?_eq_getElem (by omega)⟩
      have hxb := hRb x (List.mem_of_getElem? hx)
      have hmb := hRb m (List.mem_of_mem_take hp.2.mem)
      refine wp_skip ?_
      refine then_normal ?_
      refine wp_seq ?_
      refine wp_block ?_
      refine wp_seq ?_
      refine wp_region_lit ?_
      refine st_val (.func (.func 25) #[] #[.pointer (some ⟨gb, 0, none⟩)]) ha (by kernel_rfl) (by kernel_rfl) ?_
      clear ha; intro a ha
      refine st_val (.slice (some adr) n c) ha (by kernel_rfl) (by kernel_rfl) ?_
      clear ha; intro a ha
      refine st_val (.int .i64 ((i : Nat) : Int)) ha (by kernel_rfl) (by kernel_rfl) ?_
      clear ha; intro a ha
      refine st_val (.pointer (some (adr.add (i * 1)))) ha (by kernel_rfl) (run_indexAddr' (kd := .i64) (i := ((i : Nat) : Int)) (n := n) (c := c) i rfl Try.underlying25 Try.sizeOf3 (by kernel_rfl) (by kernel_rfl) rfl (by first | assumption | omega) _) ?_
      clear ha; intro a ha
      refine st_val (.int .i64 x) ha (by kernel_rfl) (run_loadAt1 (i := i * 1) ((hR _ s.sat)) rfl (by kernel_rfl) Try.isAgg3 (by rw [Nat.mul_one]; exact ints_at hx)) ?_
      clear ha; intro a ha
      refine st_val (.int .i64 m) ha (by kernel_rfl) (by kernel_rfl) ?_
      clear ha; intro a ha
      refine st_call ha (by kernel_rfl) (by kernel_rfl) (less_any W _ w x m gb gm pl (fun w s => hgb w s) (fun w s => hgm w s) (by omega) (by omega) s) ?_
      rintro _ w ⟨rfl, s⟩
      replace s : St W (L) w := s
      refine ⟨_, rfl, ?_⟩; clear ha; intro a ha
      refine st_val (.bool (decide ((if cmpI (prio pl x) (prio pl m) = 0 then cmpI x m else cmpI (prio pl x) (prio pl m)) < (0 : Int)))) ha (by kernel_rfl) (by kernel_rfl) ?_
      clear ha; intro a ha
      refine wpList_nil ?_
      refine then_normal ?_
      refine wp_part (decide ((if cmpI (prio pl x) (prio pl m) = 0 then cmpI x m else cmpI (prio pl x) (prio pl m)) < (0 : Int))) ha rfl (by kernel_rfl) (fun hb => ?_) (fun hb => ?_)
      · rw [hb] at ha; replace hb : ((if cmpI (prio pl x) (prio pl m) = 0 then cmpI x m else cmpI (prio pl x) (prio pl m)) < (0 : Int)) := of_decide_eq_true hb
        refine wp_region_lit ?_
        refine st_val (.slice (some adr) n c) ha (by kernel_rfl) (by kernel_rfl) ?_
        clear ha; intro a ha
        refine st_val (.int .i64 ((i : Nat) : Int)) ha (by kernel_rfl) (by kernel_rfl) ?_
        clear ha; intro a ha
        refine st_val (.pointer (some (adr.add (i * 1)))) ha (by kernel_rfl) (run_indexAddr' (kd := .i64) (i := ((i : Nat) : Int)) (n := n) (c := c) i rfl Try.underlying25 Try.sizeOf3 (by kernel_rfl) (by kernel_rfl) rfl (by first | assumption | omega) _) ?_
        clear ha; intro a ha
        refine st_val (.int .i64 x) ha (by kernel_rfl) (run_loadAt1 (i := i * 1) ((hR _ s.sat)) rfl (by kernel_rfl) Try.isAgg3 (by rw [Nat.mul_one]; exact ints_at hx)) ?_
        clear ha; intro a ha
        refine st_val (.int .i64 x) ha (by kernel_rfl) (by kernel_rfl) ?_
        clear ha; intro a ha
        refine wpList_nil ?_
        refine block_normal ?_
        refine then_normal ?_
        refine wp_region_lit ?_
        refine st_val (.int .i64 ((i : Nat) : Int)) ha (by kernel_rfl) (by kernel_rfl) ?_
        clear ha; intro a ha
        refine st_val (.int .i64 ((i + 1 : Nat) : Int)) ha (by kernel_rfl) (run_arith (((i : Nat) : Int) + (1 : Int)) ((i + 1 : Nat) : Int) rfl (by kernel_rfl) (by kernel_rfl) (.inl ⟨rfl, rfl⟩) (by rw [wrap64_in (by omega)]; try omega) _) ?_
        clear ha; intro a ha
        refine st_val (.int .i64 ((i + 1 : Nat) : Int)) ha (by kernel_rfl) (by kernel_rfl) ?_
        clear ha; intro a ha
        refine wpList_nil ?_
        refine then_normal ?_
        exact ⟨(i + 1, x), (show n - (i + 1) < n - i by omega), (Has.cons ha (by kernel_rfl) (by kernel_rfl) (Has.cons ha (by kernel_rfl) (by kernel_rfl) (Has.cons ha (by kernel_rfl) (by kernel_rfl) (Has.cons ha (by kernel_rfl) (by kernel_rfl) (Has.nil ha))))), s, by omega, hp.2.turn hx hb⟩
      · rw [hb] at ha; replace hb : ¬ ((if cmpI (prio pl x) (prio pl m) = 0 then cmpI x m else cmpI (prio pl x) (prio pl m)) < (0 : Int)) := of_decide_eq_false hb
        refine wp_skip ?_
        refine block_normal ?_
        refine then_normal ?_
        refine wp_region_lit ?_
        refine st_val (.int .i64 ((i : Nat) : Int)) ha (by kernel_rfl) (by kernel_rfl) ?_
        clear ha; intro a ha
        refine st_val (.int .i64 ((i + 1 : Nat) : Int)) ha (by kernel_rfl) (run_arith (((i : Nat) : Int) + (1 : Int)) ((i + 1 : Nat) : Int) rfl (by kernel_rfl) (by kernel_rfl) (.inl ⟨rfl, rfl⟩) (by rw [wrap64_in (by omega)]; try omega) _) ?_
        clear ha; intro a ha
        refine st_val (.int .i64 ((i + 1 : Nat) : Int)) ha (by kernel_rfl) (by kernel_rfl) ?_
        clear ha; intro a ha
        refine wpList_nil ?_
        refine then_normal ?_
        exact ⟨(i + 1, m), (show n - (i + 1) < n - i by omega), (Has.cons ha (by kernel_rfl) (by kernel_rfl) (Has.cons ha (by kernel_rfl) (by kernel_rfl) (Has.cons ha (by kernel_rfl) (by kernel_rfl) (Has.cons ha (by kernel_rfl) (by kernel_rfl) (Has.nil ha))))), s, by omega, hp.2.next hx hb⟩
    · rw [hb] at ha; replace hb : ¬ (((i : Nat) : Int) < ((n : Nat) : Int)) := of_decide_eq_false hb
      refine wp_exit ?_
      refine then_exit ?_
      refine then_exit ?_
      refine block_hit ?_
      refine then_normal ?_
      refine wp_seq ?_
      refine wp_region_lit ?_
      refine st_val (.int .i64 m) ha (by kernel_rfl) (by kernel_rfl) ?_
      clear ha; intro a ha
      refine st_val (.int .i64 m) ha (by kernel_rfl) (by kernel_rfl) ?_
      clear ha; intro a ha
      refine wpList_nil ?_
      refine then_normal ?_
      refine wp_ret ?_
      refine ret_with (v := .int .i64 m) ha (results_1 rfl ha (res_tmp (by kernel_rfl) (by kernel_rfl))) ?_
      have hi : i = n := by omega
      rw [hi, List.take_of_length_le (by omega)] at hp
      exact ⟨_, rfl, hp.2, s⟩

theorem min_ok (W : World) (L : List Chunk) (w : World) (A : Option Addr) (n c : Nat) (R : List Int) (hR : Knows L fun w => Reads w 1 A n (ints R)) (hl : R.length = n) (hn : 1 ≤ n ∧ n ≤ 1000000) (hRb : ∀ x ∈ R, 1 ≤ x ∧ x ≤ 9007199254740991) (gb gm : Nat) (pl : List Arc) (hgb : Knows L (BlkIs gb [.map (some gm)])) (hgm : Knows L (MapIs Try.prog 3 encI gm (vd pl))) (s : St W L w) :
    Calls Try.prog 24 #[.slice A n c, .func (.func 25) #[] #[.pointer (some ⟨gb, 0, none⟩)]] w fun e w' => ∃ m, e = .returned (.int .i64 m) ∧ IsMin (prio pl) R m ∧ St W L w' := by
  obtain ⟨adr, rfl⟩ := Reads.addr (hR _ s.sat) (by omega)
  exact min_some W L w adr n c R R[0] (List.getElem?_eq_getElem (by omega)) hR hl hn hRb gb gm pl hgb hgm s

end Go.Proofs.Ytjdkpebnaohonaa.B
