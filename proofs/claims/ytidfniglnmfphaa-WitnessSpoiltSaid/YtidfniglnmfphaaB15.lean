import Derived.Test.YtidfniglnmfphaaB14
namespace Go.Proofs.Ytidfniglnmfphaa.B
open Go.RowKit Go.Maps Go.Sort Go.Shelf Go.Proofs.Ytidfniglnmfphaa.Sep Go.Proofs.Ytidfniglnmfphaa.P
set_option linter.unusedVariables false
set_option linter.unusedSimpArgs false
theorem many_perm {l m : List Tn} (h : l.Perm m) : many l = many m := (h.map _).sum_nat
theorem few_perm {l m : List Tn} (h : l.Perm m) : few l ↔ few m := by unfold few; rw [many_perm h, h.length_eq]
theorem ids_perm {l m : List Tn} (h : l.Perm m) : (ids l).Perm (ids m) := List.Perm.map (f := Tn.id) h
theorem okL_perm {l m : List Tn} (h : l.Perm m) : okL l ↔ okL m := by
  unfold okL
  rw [(ids_perm h).nodup_iff]
  exact and_congr_left fun _ => ⟨fun k d hd => k d (h.mem_iff.2 hd), fun k d hd => k d (h.mem_iff.1 hd)⟩
theorem code_perm {l m : List Tn} (h : l.Perm m) : code l = code m := by
  have h1 := few_perm h
  have h2 := okL_perm h
  unfold code
  by_cases f : few l <;> by_cases g : okL l
  · rw [if_neg (not_not_intro f), if_neg (not_not_intro (h1.1 f)), if_pos g, if_pos (h2.1 g)]
  · rw [if_neg (not_not_intro f), if_neg (not_not_intro (h1.1 f)), if_neg g, if_neg (mt h2.2 g)]
  · rw [if_pos f, if_pos (mt h1.2 f)]
  · rw [if_pos f, if_pos (mt h1.2 f)]
def seqOf (ds : List Tn) (o : List Nat) : List Tn := o.map (tAt ds)
theorem range_tAt (ds : List Tn) : (List.range ds.length).map (tAt ds) = ds := by
  apply List.ext_getElem
  · simp
  · intro i h1 h2
    simp [tAt, List.getD_eq_getElem?_getD, h2]
theorem seqOf_perm {ds : List Tn} {o : List Nat} (h : IsOrd ds o) : (seqOf ds o).Perm ds := by
  have := h.1.map (tAt ds)
  rwa [range_tAt] at this
theorem seqOf_eq {ds ds2 : List Tn} {o p : List Nat} (h : IsOrd ds o) (k : IsOrd ds2 p) (hp : ds.Perm ds2) : seqOf ds o = seqOf ds2 p := by
  refine List.Perm.eq_of_pairwise (le := less) (fun a b _ _ h1 h2 => absurd h2 (fun h2 => less_asymm h1 h2)) ?_ ?_ ((seqOf_perm h).trans (hp.trans (seqOf_perm k).symm))
  · exact List.pairwise_map.2 h.2
  · exact List.pairwise_map.2 k.2
def thingsS (l : List Tn) : List ((Tn × Nat) × Td) := l.flatMap fun t => label t t.l
def who (ds : List Tn) (p : Nat × Nat) : Tn × Nat := (tAt ds p.1, p.2)
theorem things_seq (ds : List Tn) (o : List Nat) : (things ds o).map (fun x => (who ds x.1, x.2)) = thingsS (seqOf ds o) := by
  unfold things thingsS seqOf
  rw [List.map_flatMap, List.flatMap_map]
  congr 1
  funext i
  simp [label, who]
theorem found_eq {ds ds2 : List Tn} {o p : List Nat} (h : IsOrd ds o) (k : IsOrd ds2 p) (hp : ds.Perm ds2) : (found ds o).map (who ds) = (found ds2 p).map (who ds2) := by
  unfold found
  rw [← first_map, ← first_map, things_seq, things_seq, seqOf_eq h k hp]
theorem rowsOf_eq {ds ds2 : List Tn} {o p : List Nat} (h : IsOrd ds o) (k : IsOrd ds2 p) (hp : ds.Perm ds2) : rowsOf ds o = rowsOf ds2 p := by
  unfold rowsOf
  rw [← left_map (who ds), ← left_map (who ds2), things_seq, things_seq, seqOf_eq h k hp]
theorem found_some {ds ds2 : List Tn} {o p : List Nat} (h : IsOrd ds o) (k : IsOrd ds2 p) (hp : ds.Perm ds2) : (found ds o).isSome = (found ds2 p).isSome := by
  have := congrArg Option.isSome (found_eq h k hp)
  simpa using this
theorem found_snd {ds ds2 : List Tn} {o p : List Nat} (h : IsOrd ds o) (k : IsOrd ds2 p) (hp : ds.Perm ds2) : snd (found ds o) = snd (found ds2 p) := by
  have := found_eq h k hp
  unfold snd
  cases e1 : found ds o <;> cases e2 : found ds2 p <;> rw [e1, e2] at this <;> simp [who] at this ⊢
  exact this.2
theorem found_fst {ds ds2 : List Tn} {o p : List Nat} (h : IsOrd ds o) (k : IsOrd ds2 p) (hp : ds.Perm ds2) (hs : (found ds o).isSome = true) : tAt ds (fst (found ds o)) = tAt ds2 (fst (found ds2 p)) := by
  have := found_eq h k hp
  unfold fst
  cases e1 : found ds o <;> cases e2 : found ds2 p <;> rw [e1, e2] at this <;> simp [who] at this ⊢
  · rw [e1] at hs; cases hs
  · exact this.1
theorem first_mem {τ : Type} {R : List Rw} {l : List (τ × Td)} {t : τ} (h : first R l = some t) : ∃ x ∈ l, x.1 = t := by
  induction l generalizing R with
  | nil => cases h
  | cons x l ih =>
    unfold first at h
    split at h
    · obtain ⟨y, hy, e⟩ := ih h; exact ⟨y, by simp [hy], e⟩
    · cases h; exact ⟨x, by simp, rfl⟩
theorem found_lt {ds : List Tn} {o : List Nat} (h : IsOrd ds o) (hs : (found ds o).isSome = true) : fst (found ds o) < ds.length := by
  obtain ⟨p, hp⟩ := Option.isSome_iff_exists.1 hs
  obtain ⟨x, hx, e⟩ := first_mem hp
  obtain ⟨i, hi, hx⟩ := List.mem_flatMap.1 hx
  have : x.1.1 = i := by
    simp only [label, List.mem_map] at hx
    obtain ⟨y, _, rfl⟩ := hx; rfl
  rw [hp]
  show p.1 < _
  rw [← e, this]
  exact h.lt hi
theorem found_none {ds : List Tn} {o : List Nat} (hs : (found ds o).isSome = false) : fst (found ds o) = 0 := by
  cases e : found ds o with
  | none => rfl
  | some p => rw [e] at hs; cases hs
theorem part_knows {L : List Chunk} {i e1 n cb : Nat} {A B : Option Addr} {ds ds2 : List Dn} (hi : L[i]? = some (Own e1 4 B n cb (nvs ds2))) (hl : ds2.length = n) (hr : Knows L (DonesIn A ds)) (hm : ∀ d ∈ ds2, d ∈ ds) : Knows L (DonesIn B ds2) := by
  subst hl
  exact fun w s => ⟨Own.reads (s.perm (perm_at hi)), fun d hd => (hr w s).2 d (hm d hd)⟩
theorem turn_perm (ds : List Dn) (q : Nat) : (tns ds).Perm (tns (ds.drop q ++ ds.take q)) := by
  refine List.Perm.map _ ?_
  have : ds = ds.take q ++ ds.drop q := (List.take_append_drop q ds).symm
  exact (List.Perm.of_eq this).trans List.perm_append_comm
theorem turn_mem {ds : List Dn} {q : Nat} {d : Dn} (h : d ∈ ds.drop q ++ ds.take q) : d ∈ ds := (List.mem_append.1 h).elim List.mem_of_mem_drop List.mem_of_mem_take
theorem turn_bn {ds : List Dn} (h : Bn ds) (q : Nat) : Bn (ds.drop q ++ ds.take q) := ⟨by
  have := h.1
  simp only [List.length_append, List.length_drop, List.length_take]; omega, fun d hd => h.2 d (turn_mem hd)⟩
section
variable (W : World) (L : List Chunk) (w : World) (A : Option Addr) (ca : Nat) (ds : List Dn) (n : Nat) (hl : ds.length = n) (hr : Knows L (DonesIn A ds)) (hn : Bn ds)
include hl hr hn
theorem check_okN (hW : W.drawn = 0) (h0 : code (tns ds) = 0) (s : St W L w) : Calls Try.prog 10 #[.slice A n ca] w fun e w' => ∃ o, e = .returned (.tuple #[.int .i64 ((fst (found (tns ds) o) : Nat) : Int), .int .i64 ((snd (found (tns ds) o) : Nat) : Int), .bool (found (tns ds) o).isSome, .int .i64 0]) ∧ IsOrd (tns ds) o ∧ St W L w' := by
  subst hl; exact check_ok W hW L w A ca ds hr hn h0 s
theorem check_noN (hW : W.drawn = 0) (h0 : code (tns ds) ≠ 0) (s : St W L w) : Calls Try.prog 10 #[.slice A n ca] w fun e w' => e = .returned (.tuple #[.int .i64 0, .int .i64 0, .bool false, .int .i64 (code (tns ds))]) ∧ St W L w' := by
  subst hl; exact check_no W hW L w A ca ds hr hn h0 s
theorem rows_okN (hW : W.drawn = 0) (h0 : code (tns ds) = 0) (s : St W L w) : Calls Try.prog 11 #[.slice A n ca] w fun e w' => ∃ B c o, e = .returned (.tuple #[.slice B (rowsOf (tns ds) o).length c, .int .i64 0]) ∧ IsOrd (tns ds) o ∧ St W (Own 54 2 B (rowsOf (tns ds) o).length c (rws (rowsOf (tns ds) o)) :: L) w' := by
  subst hl; exact rows_ok W hW L w A ca ds hr hn h0 s
theorem rows_noN (hW : W.drawn = 0) (h0 : code (tns ds) ≠ 0) (s : St W L w) : Calls Try.prog 11 #[.slice A n ca] w fun e w' => e = .returned (.tuple #[.slice none 0 0, .int .i64 (code (tns ds))]) ∧ St W L w' := by
  subst hl; exact rows_no W hW L w A ca ds hr hn h0 s
end
theorem bring_nat (W : World) (L : List Chunk) (w : World) (i n : Int) (q : Nat) (hq : i % n = (q : Int)) (hn : 0 < n) (hb : n ≤ 1000000) (s : St W L w) : Calls Try.prog 22 #[.int .i64 i, .int .i64 n] w fun e w' => e = .returned (.int .i64 ((q : Nat) : Int)) ∧ St W L w' :=
  (bring_pos W L w i n hn hb s).mono fun e w' ⟨h, s⟩ => ⟨by rw [h, hq], s⟩
def small (ds : List Tn) : Bool := decide (ds.length ≤ 60) && decide (many ds ≤ 400)
theorem small_few {ds : List Tn} (h : small ds = true) : ds.length ≤ 60 ∧ many ds ≤ 400 := by simpa [small] using h

theorem few_any (W : World) (L : List Chunk) (w : World) (A : Option Addr) (ca : Nat) (ds : List Dn) (hr : Knows L (DonesIn A ds)) (hn : Bn ds) (s : St W L w) :
    Calls Try.prog 18 #[.slice A ds.length ca] w fun e w' => e = .returned (.bool (small (tns ds))) ∧ St W L w' := by
  refine enter_args (l := [.slice A ds.length ca]) Try.func18 rfl rfl (Nat.le_of_ble_eq_true rfl) ?_
  intro a ha; replace ha : Has a 30 [(0, .slice A ds.length ca)] := ha
  refine wp_seq ?_
  refine wp_region_lit ?_
  refine st_val (.bool false) ha (by kernel_rfl) (by kernel_rfl) ?_
  clear ha; intro a ha
  refine wpList_nil ?_
  refine then_normal ?_
  refine wp_seq ?_
  refine wp_region_lit ?_
  refine st_val (.int .i64 0) ha (by kernel_rfl) (by kernel_rfl) ?_
  clear ha; intro a ha
  refine wpList_nil ?_
  refine then_normal ?_
  refine wp_seq ?_
  refine wp_seq ?_
  refine wp_region_lit ?_
  refine st_val (.int .i64 0) ha (by kernel_rfl) (by kernel_rfl) ?_
  clear ha; intro a ha
  refine wpList_nil ?_
  refine then_normal ?_
  refine wp_block ?_
  have hm0 : many (tns (ds.take 0)) = 0 := rfl
  refine wp_loopG (G := Nat) (fun k a w => Has a 30 [(0, .slice A ds.length ca), (3, .int .i64 ((many (tns (ds.take k)) : Nat) : Int)), (4, .int .i64 ((k : Nat) : Int))] ∧ St W (L) w ∧ (k ≤ ds.length ∧ k ≤ 61 ∧ many (tns (ds.take k)) ≤ k * 140737488351232)) (fun k => 61 - k) 0 ?_ ?_
  · exact ⟨(Has.cons ha (by kernel_rfl) (by kernel_rfl) (Has.cons ha (by kernel_rfl) (by kernel_rfl) (Has.cons ha (by kernel_rfl) (by kernel_rfl) (Has.nil ha)))), s, ⟨Nat.zero_le _, by omega, by rw [hm0]; omega⟩⟩
  · clear ha s; rintro k a w ⟨ha, s, hp⟩
    refine wp_seq ?_
    refine wp_seq ?_
    refine wp_region_lit ?_
    refine st_val (.int .i64 ((k : Nat) : Int)) ha (by kernel_rfl) (by kernel_rfl) ?_
    clear ha; intro a ha
    refine st_val (.slice A ds.length ca) ha (by kernel_rfl) (by kernel_rfl) ?_
    clear ha; intro a ha
    refine st_val (.int .i64 ((ds.length : Nat) : Int)) ha (by kernel_rfl) (by kernel_rfl) ?_
    clear ha; intro a ha
    refine st_val (.bool (decide (((k : Nat) : Int) < ((ds.length : Nat) : Int)))) ha (by kernel_rfl) (by kernel_rfl) ?_
    clear ha; intro a ha
    refine st_val (.bool (decide (((k : Nat) : Int) < ((ds.length : Nat) : Int)))) ha (by kernel_rfl) (by kernel_rfl) ?_
    clear ha; intro a ha
    rcases Bool.eq_false_or_eq_true (decide (((k : Nat) : Int) < ((ds.length : Nat) : Int))) with hb | hb
    · rw [hb] at ha; replace hb : (((k : Nat) : Int) < ((ds.length : Nat) : Int)) := of_decide_eq_true hb
      obtain ⟨d, hd⟩ : ∃ d, ds[k]? = some d := ⟨_, List.getElem?_eq_getElem (by omega)⟩
      have hdl := (hn.row hd).1
      obtain ⟨ad, hA⟩ := Reads.addr (hr _ s.sat).1 (by omega)
      subst hA
      have hk3 := hp.2.2
      have hk4 : k * 140737488351232 ≤ 61 * 140737488351232 := Nat.mul_le_mul_right _ hp.2.1
      refine st_val (.int .i64 ((k : Nat) : Int)) ha (by kernel_rfl) (by kernel_rfl) ?_
      clear ha; intro a ha
      refine st_val (.bool (decide (((k : Nat) : Int) ≤ (60 : Int)))) ha (by kernel_rfl) (by kernel_rfl) ?_
      clear ha; intro a ha
      refine st_val (.bool (decide (((k : Nat) : Int) ≤ (60 : Int)))) ha (by kernel_rfl) (by kernel_rfl) ?_
      clear ha; intro a ha
      refine wpList_nil ?_
      refine then_normal ?_
      refine wp_part (decide (((k : Nat) : Int) ≤ (60 : Int))) ha rfl (by kernel_rfl) (fun hb => ?_) (fun hb => ?_)
      · rw [hb] at ha; replace hb : (((k : Nat) : Int) ≤ (60 : Int)) := of_decide_eq_true hb
        refine wp_skip ?_
        refine then_normal ?_
        refine wp_seq ?_
        refine wp_block ?_
        refine wp_region_lit ?_
        refine st_val (.int .i64 ((many (tns (ds.take k)) : Nat) : Int)) ha (by kernel_rfl) (by kernel_rfl) ?_
        clear ha; intro a ha
        refine st_val (.slice (some ad) ds.length ca) ha (by kernel_rfl) (by kernel_rfl) ?_
        clear ha; intro a ha
        refine st_val (.int .i64 ((k : Nat) : Int)) ha (by kernel_rfl) (by kernel_rfl) ?_
        clear ha; intro a ha
        refine st_val (.pointer (some (ad.add (k * 4)))) ha (by kernel_rfl) (run_indexAddr' (kd := .i64) (i := ((k : Nat) : Int)) (n := ds.length) (c := ca) k rfl Try.underlying22 Try.sizeOf27 (by kernel_rfl) (by kernel_rfl) rfl (by first | assumption | omega) _) ?_
        clear ha; intro a ha
        refine st_val (.pointer (some (ad.add (k * 4 + 3)))) ha (by kernel_rfl) (run_fieldAddr_at (i := k * 4) (off := 3) rfl Try.underlying27 rfl Try.sizeOf25 (by kernel_rfl) _) ?_
        clear ha; intro a ha
        refine st_val (.slice d.A d.l.length d.c) ha (by kernel_rfl) (run_loadAt1 (i := k * 4 + 3) ((hr _ s.sat).1) rfl (by kernel_rfl) Try.isAgg25 (by rw [nvs_at hd (by omega)]; rfl)) ?_
        clear ha; intro a ha
        refine st_val (.int .i64 ((d.l.length : Nat) : Int)) ha (by kernel_rfl) (by kernel_rfl) ?_
        clear ha; intro a ha
        refine st_val (.int .i64 ((many (tns (ds.take k)) + d.l.length : Nat) : Int)) ha (by kernel_rfl) (run_arith (((many (tns (ds.take k)) : Nat) : Int) + ((d.l.length : Nat) : Int)) ((many (tns (ds.take k)) + d.l.length : Nat) : Int) rfl (by kernel_rfl) (by kernel_rfl) (.inl ⟨rfl, rfl⟩) (by rw [wrap64_in (by omega)]; try omega) _) ?_
        clear ha; intro a ha
        refine st_val (.int .i64 ((many (tns (ds.take k)) + d.l.length : Nat) : Int)) ha (by kernel_rfl) (by kernel_rfl) ?_
        clear ha; intro a ha
        refine wpList_nil ?_
        refine block_normal ?_
        refine then_normal ?_
        refine wp_region_lit ?_
        refine st_val (.int .i64 ((k : Nat) : Int)) ha (by kernel_rfl) (by kernel_rfl) ?_
        clear ha; intro a ha
        refine st_val (.int .i64 ((k + 1 : Nat) : Int)) ha (by kernel_rfl) (run_arith (((k : Nat) : Int) + (1 : Int)) ((k + 1 : Nat) : Int) rfl (by kernel_rfl) (by kernel_rfl) (.inl ⟨rfl, rfl⟩) (by rw [wrap64_in (by omega)]; try omega) _) ?_
        clear ha; intro a ha
        refine st_val (.int .i64 ((k + 1 : Nat) : Int)) ha (by kernel_rfl) (by kernel_rfl) ?_
        clear ha; intro a ha
        refine wpList_nil ?_
        refine then_normal ?_
        have hmt := many_take hd
        exact ⟨k + 1, by omega, (Has.cons ha (by kernel_rfl) (by kernel_rfl) (Has.cons ha (by kernel_rfl) (Eq.trans (b := .int .i64 ((many (tns (ds.take k)) + d.l.length : Nat) : Int)) (by kernel_rfl) (by rw [many_take hd])) (Has.cons ha (by kernel_rfl) (by kernel_rfl) (Has.nil ha)))), s, by omega, by omega, by rw [hmt]; omega⟩
      · rw [hb] at ha; replace hb : ¬ (((k : Nat) : Int) ≤ (60 : Int)) := of_decide_eq_false hb
        refine wp_exit ?_
        refine then_exit ?_
        refine then_exit ?_
        refine block_hit ?_
        refine then_normal ?_
        refine wp_seq ?_
        refine wp_region_lit ?_
        refine st_val (.slice (some ad) ds.length ca) ha (by kernel_rfl) (by kernel_rfl) ?_
        clear ha; intro a ha
        refine st_val (.int .i64 ((ds.length : Nat) : Int)) ha (by kernel_rfl) (by kernel_rfl) ?_
        clear ha; intro a ha
        refine st_val (.bool false) ha (by kernel_rfl) (run_known (show (decide (((ds.length : Nat) : Int) ≤ (60 : Int))) = false from decide_eq_false (by omega)) (by kernel_rfl)) ?_
        clear ha; intro a ha
        refine st_val (.bool false) ha (by kernel_rfl) (by kernel_rfl) ?_
        clear ha; intro a ha
        refine st_pass ha (by kernel_rfl) ?_
        clear ha; intro a ha
        refine st_pass ha (by kernel_rfl) ?_
        clear ha; intro a ha
        refine st_val (.bool false) ha (by kernel_rfl) (by kernel_rfl) ?_
        clear ha; intro a ha
        refine st_val (.bool false) ha (by kernel_rfl) (by kernel_rfl) ?_
        clear ha; intro a ha
        refine wpList_nil ?_
        refine then_normal ?_
        refine wp_ret ?_
        refine ret_with (v := .bool false) ha (results_1 rfl ha (res_tmp (by kernel_rfl) (by kernel_rfl))) ?_
        refine ⟨?_, s⟩
        congr 2
        unfold small
        rw [List.length_map]
        rw [decide_eq_false (show ¬ ds.length ≤ 60 by omega)]; rfl
    · rw [hb] at ha; replace hb : ¬ (((k : Nat) : Int) < ((ds.length : Nat) : Int)) := of_decide_eq_false hb
      have hk : k = ds.length := by omega
      subst hk
      rw [List.take_length] at ha
      refine st_pass ha (by kernel_rfl) ?_
      clear ha; intro a ha
      refine st_pass ha (by kernel_rfl) ?_
      clear ha; intro a ha
      refine st_val (.bool false) ha (by kernel_rfl) (by kernel_rfl) ?_
      clear ha; intro a ha
      refine wpList_nil ?_
      refine then_normal ?_
      refine wp_false ha rfl (by kernel_rfl) ?_
      refine wp_exit ?_
      refine then_exit ?_
      refine then_exit ?_
      refine block_hit ?_
      refine then_normal ?_
      refine wp_seq ?_
      refine wp_region_lit ?_
      refine st_val (.slice A ds.length ca) ha (by kernel_rfl) (by kernel_rfl) ?_
      clear ha; intro a ha
      refine st_val (.int .i64 ((ds.length : Nat) : Int)) ha (by kernel_rfl) (by kernel_rfl) ?_
      clear ha; intro a ha
      refine st_val (.bool (decide (((ds.length : Nat) : Int) ≤ (60 : Int)))) ha (by kernel_rfl) (by kernel_rfl) ?_
      clear ha; intro a ha
      refine st_val (.bool (decide (((ds.length : Nat) : Int) ≤ (60 : Int)))) ha (by kernel_rfl) (by kernel_rfl) ?_
      clear ha; intro a ha
      rcases Bool.eq_false_or_eq_true (decide (((ds.length : Nat) : Int) ≤ (60 : Int))) with hb | hb
      · rw [hb] at ha; replace hb : (((ds.length : Nat) : Int) ≤ (60 : Int)) := of_decide_eq_true hb
        refine st_val (.int .i64 ((many (tns ds) : Nat) : Int)) ha (by kernel_rfl) (by kernel_rfl) ?_
        clear ha; intro a ha
        refine st_val (.bool (decide (((many (tns ds) : Nat) : Int) ≤ (400 : Int)))) ha (by kernel_rfl) (by kernel_rfl) ?_
        clear ha; intro a ha
        refine st_val (.bool (decide (((many (tns ds) : Nat) : Int) ≤ (400 : Int)))) ha (by kernel_rfl) (by kernel_rfl) ?_
        clear ha; intro a ha
        refine st_val (.bool (decide (((many (tns ds) : Nat) : Int) ≤ (400 : Int)))) ha (by kernel_rfl) (by kernel_rfl) ?_
        clear ha; intro a ha
        refine wpList_nil ?_
        refine then_normal ?_
        refine wp_ret ?_
        refine ret_with (v := .bool (decide (((many (tns ds) : Nat) : Int) ≤ (400 : Int)))) ha (results_1 rfl ha (res_tmp (by kernel_rfl) (by kernel_rfl))) ?_
        refine ⟨?_, s⟩
        congr 2
        unfold small
        rw [List.length_map]
        rw [decide_eq_true (show ds.length ≤ 60 by omega), Bool.true_and]
        exact decide_eq_decide.2 (by omega)
      · rw [hb] at ha; replace hb : ¬ (((ds.length : Nat) : Int) ≤ (60 : Int)) := of_decide_eq_false hb
        refine st_pass ha (by kernel_rfl) ?_
        clear ha; intro a ha
        refine st_pass ha (by kernel_rfl) ?_
        clear ha; intro a ha
        refine st_val (.bool false) ha (by kernel_rfl) (by kernel_rfl) ?_
        clear ha; intro a ha
        refine st_val (.bool false) ha (by kernel_rfl) (by kernel_rfl) ?_
        clear ha; intro a ha
        refine wpList_nil ?_
        refine then_normal ?_
        refine wp_ret ?_
        refine ret_with (v := .bool false) ha (results_1 rfl ha (res_tmp (by kernel_rfl) (by kernel_rfl))) ?_
        refine ⟨?_, s⟩
        congr 2
        unfold small
        rw [List.length_map]
        rw [decide_eq_false (show ¬ ds.length ≤ 60 by omega)]; rfl

set_option maxRecDepth 100000 in
set_option maxHeartbeats 4000000 in
theorem anyway_true (W : World) (hW : W.drawn = 0) (L : List Chunk) (w : World) (A : Option Addr) (ca : Nat) (ds : List Dn) (hr : Knows L (DonesIn A ds)) (hn : Bn ds) (hca : ds.length ≤ ca) (a1 : Int) (s : St W L w) :
    Calls Try.prog 6 #[.slice A ds.length ca, .int .i64 a1] w fun e w' => e = .returned (.bool true) ∧ St W L w' := by
  refine enter_args (l := [.slice A ds.length ca, .int .i64 a1]) Try.func6 rfl rfl (Nat.le_of_ble_eq_true rfl) ?_
  intro a ha; replace ha : Has a 128 [(0, .slice A ds.length ca), (1, .int .i64 a1)] := ha
  refine wp_seq ?_
  refine wp_region_lit ?_
  refine st_val (.bool false) ha (by kernel_rfl) (by kernel_rfl) ?_
  clear ha; intro a ha
  refine wpList_nil ?_
  refine then_normal ?_
  refine wp_seq ?_
  refine wp_seq ?_
  refine wp_region_lit ?_
  refine st_call ha (by kernel_rfl) (by kernel_rfl) (works_true W hW _ w s) ?_
  rintro _ w ⟨rfl, s⟩
  replace s : St W (L) w := s
  refine ⟨_, rfl, ?_⟩; clear ha; intro a ha
  refine st_val (.bool false) ha (by kernel_rfl) (by kernel_rfl) ?_
  clear ha; intro a ha
  refine wpList_nil ?_
  refine then_normal ?_
  refine wp_false ha rfl (by kernel_rfl) ?_
  refine wp_skip ?_
  refine then_normal ?_
  refine wp_seq ?_
  refine wp_seq ?_
  refine wp_region_lit ?_
  refine st_val (.slice A ds.length ca) ha (by kernel_rfl) (by kernel_rfl) ?_
  clear ha; intro a ha
  refine st_call ha (by kernel_rfl) (by kernel_rfl) (few_any W _ w A ca ds (fun w s => hr w s) hn s) ?_
  rintro _ w ⟨rfl, s⟩
  replace s : St W (L) w := s
  refine ⟨_, rfl, ?_⟩; clear ha; intro a ha
  refine st_val (.bool (!(small (tns ds)))) ha (by kernel_rfl) (by kernel_rfl) ?_
  clear ha; intro a ha
  refine st_val (.bool (!(small (tns ds)))) ha (by kernel_rfl) (by kernel_rfl) ?_
  clear ha; intro a ha
  rcases Bool.eq_false_or_eq_true (!(small (tns ds))) with hb | hb
  · rw [hb] at ha; skip
    refine st_pass ha (by kernel_rfl) ?_
    clear ha; intro a ha
    refine st_pass ha (by kernel_rfl) ?_
    clear ha; intro a ha
    refine st_pass ha (by kernel_rfl) ?_
    clear ha; intro a ha
    refine st_val (.bool true) ha (by kernel_rfl) (by kernel_rfl) ?_
    clear ha; intro a ha
    refine wpList_nil ?_
    refine then_normal ?_
    refine wp_true ha rfl (by kernel_rfl) ?_
    refine wp_seq ?_
    refine wp_region_lit ?_
    refine st_val (.bool true) ha (by kernel_rfl) (by kernel_rfl) ?_
    clear ha; intro a ha
    refine wpList_nil ?_
    refine then_normal ?_
    refine wp_ret ?_
    refine then_ret ?_
    refine ret_with (v := .bool true) ha (results_1 rfl ha (res_tmp (by kernel_rfl) (by kernel_rfl))) ?_
    exact ⟨rfl, s⟩
  · rw [hb] at ha; skip
    have hsm := small_few (ds := tns ds) (by simpa using hb)
    rw [List.length_map] at hsm
    refine st_val (.slice A ds.length ca) ha (by kernel_rfl) (by kernel_rfl) ?_
    clear ha; intro a ha
    refine st_val (.int .i64 ((ds.length : Nat) : Int)) ha (by kernel_rfl) (by kernel_rfl) ?_
    clear ha; intro a ha
    refine st_val (.bool (((ds.length : Nat) : Int) == (0 : Int))) ha (by kernel_rfl) (by kernel_rfl) ?_
    clear ha; intro a ha
    refine st_val (.bool (((ds.length : Nat) : Int) == (0 : Int))) ha (by kernel_rfl) (by kernel_rfl) ?_
    clear ha; intro a ha
    refine wpList_nil ?_
    refine then_normal ?_
    refine wp_part (((ds.length : Nat) : Int) == (0 : Int)) ha rfl (by kernel_rfl) (fun hb => ?_) (fun hb => ?_)
    · rw [hb] at ha; have hb_ := hb; replace hb := eq_of_beq hb
      refine wp_seq ?_
      refine wp_region_lit ?_
      refine st_val (.bool true) ha (by kernel_rfl) (by kernel_rfl) ?_
      clear ha; intro a ha
      refine wpList_nil ?_
      refine then_normal ?_
      refine wp_ret ?_
      refine then_ret ?_
      refine ret_with (v := .bool true) ha (results_1 rfl ha (res_tmp (by kernel_rfl) (by kernel_rfl))) ?_
      exact ⟨rfl, s⟩
    · rw [hb] at ha; have hb_ := hb; replace hb := ne_of_beq_false hb
      refine wp_skip ?_
      refine then_normal ?_
      refine wp_seq ?_
      refine wp_region_lit ?_
      refine st_val (.int .i64 a1) ha (by kernel_rfl) (by kernel_rfl) ?_
      clear ha; intro a ha
      refine st_val (.slice A ds.length ca) ha (by kernel_rfl) (by kernel_rfl) ?_
      clear ha; intro a ha
      refine st_val (.int .i64 ((ds.length : Nat) : Int)) ha (by kernel_rfl) (by kernel_rfl) ?_
      clear ha; intro a ha
      obtain ⟨q, hq⟩ : ∃ q : Nat, a1 % ((ds.length : Nat) : Int) = (q : Int) := ⟨(a1 % ((ds.length : Nat) : Int)).toNat, by have := Int.emod_nonneg a1 (show ((ds.length : Nat) : Int) ≠ 0 by omega); omega⟩
      have hql : q < ds.length := by have := Int.emod_lt_of_pos a1 (show (0 : Int) < ((ds.length : Nat) : Int) by omega); omega
      refine st_call ha (by kernel_rfl) (by kernel_rfl) (bring_nat W _ w a1 ((ds.length : Nat) : Int) q hq (by omega) (by omega) s) ?_
      rintro _ w ⟨rfl, s⟩
      replace s : St W (L) w := s
      refine ⟨_, rfl, ?_⟩; clear ha; intro a ha
      refine st_val (.int .i64 ((q : Nat) : Int)) ha (by kernel_rfl) (by kernel_rfl) ?_
      clear ha; intro a ha
      refine wpList_nil ?_
      refine then_normal ?_
      refine wp_seq ?_
      by_cases h0 : code (tns ds) = 0
      · have hpost := order_post h0
        refine wp_region_head 7 (fun w => True) (by kernel_rfl) (by decide) ?_
        replace s := s.drew; generalize _root_.Go.World.drew _ = w at s ⊢
        have hS : (fun w => True) w := trivial
        refine hd_val (i := 0) (.slice A ds.length ca) ha rfl (by kernel_rfl) (fun _ _ _ h => h) (by kernel_rfl) (fun w hS => (by kernel_rfl)) hS ?_
        clear ha; intro a ha
        refine hd_val (i := 1) (.int .i64 ((q : Nat) : Int)) ha rfl (by kernel_rfl) (fun _ _ _ h => h) (by kernel_rfl) (fun w hS => (by kernel_rfl)) hS ?_
        clear ha; intro a ha
        refine hd_val (i := 2) (.slice (slA A q ca 4) (ds.length - q) (ca - q)) ha rfl (by kernel_rfl) (fun _ _ _ h => h) (by kernel_rfl) (fun w hS => (run_slice (n := ds.length) (c := ca) q ds.length ca rfl Try.underlying22 Try.sizeOf27 (by kernel_rfl) (fun h => by cases h) bnd_none bnd_none (bnd_some .i64 (by kernel_rfl)) (by omega) (by omega) (by omega) _)) hS ?_
        clear ha; intro a ha
        refine hd_val (i := 4) (.slice A ds.length ca) ha rfl (by kernel_rfl) (fun _ _ _ h => h) (by kernel_rfl) (fun w hS => (by kernel_rfl)) hS ?_
        clear ha; intro a ha
        refine hd_val (i := 5) (.int .i64 ((q : Nat) : Int)) ha rfl (by kernel_rfl) (fun _ _ _ h => h) (by kernel_rfl) (fun w hS => (by kernel_rfl)) hS ?_
        clear ha; intro a ha
        refine hd_val (i := 6) (.slice A q ca) ha rfl (by kernel_rfl) (fun _ _ _ h => h) (by kernel_rfl) (fun w hS => (run_slice0 (n := ds.length) (c := ca) q ca rfl Try.underlying22 Try.sizeOf27 (by kernel_rfl) (fun _ => rfl) bnd_none (bnd_some .i64 (by kernel_rfl)) bnd_none (by omega) (by omega) _)) hS ?_
        clear ha; intro a ha
        replace s := Own.none_ (e := 27) (k := 4) none s
        replace s : St W (Own 27 4 none 0 0 [] :: L) w := s
        refine hd_ex (i := 3) ha rfl (by kernel_rfl) (by kernel_rfl) (ex_append (m := (ds.length - q)) (d' := (ca - q)) elt22 (by decide) 0 (nvs (ds.drop q)) s rfl (by kernel_rfl) (by kernel_rfl) rfl (by have := (DonesIn.drop (hr _ s.sat.tail) (k := q) (c := ca) (by omega) hca).1; rwa [List.length_drop] at this) (nvs_one _) (by simp only [maxLen]; omega) (by omega)) ?_
        clear hS; rintro _ w ⟨A1, c2, rfl, hA_, s⟩
        replace s : St W (Own 27 4 A1 (0 + (ds.length - q)) c2 ([] ++ (nvs (ds.drop q))) :: L) w := s
        have hS : (fun w => True) w := trivial
        refine ⟨hS, ?_⟩; clear ha; intro a ha
        refine Head.done (by kernel_rfl) ?_
        clear hS; simp only [List.drop_succ_cons, List.drop_zero]
        refine st_ex ha (by kernel_rfl) (ex_append (m := q) (d' := ca) elt22 (by decide) 0 (nvs (ds.take q)) s rfl (by kernel_rfl) (by kernel_rfl) rfl (by have := (DonesIn.take (hr _ s.sat.tail) (k := q) (by omega)).1; rwa [List.length_take, Nat.min_eq_left (by omega)] at this) (nvs_one _) (by simp only [maxLen]; omega) (by omega)) ?_
        clear ha; rintro _ w a ⟨A3, c4, rfl, hA_, s⟩ ha
        rw [List.nil_append, ← nvs_append] at s
        have hTl : (ds.drop q ++ ds.take q).length = 0 + (ds.length - q) + q := by simp only [List.length_append, List.length_drop, List.length_take]; omega
        have hTp := turn_perm ds q
        have hT0 : code (tns (ds.drop q ++ ds.take q)) = 0 := by rw [← code_perm hTp]; exact h0
        replace s : St W (Own 27 4 A3 (0 + (ds.length - q) + q) c4 (nvs (ds.drop q ++ ds.take q)) :: L) w := s
        refine st_val (.slice A3 (0 + (ds.length - q) + q) c4) ha (by kernel_rfl) (by kernel_rfl) ?_
        clear ha; intro a ha
        refine wpList_nil ?_
        refine then_normal ?_
        refine wp_seq ?_
        refine wp_region_lit ?_
        refine st_val (.slice A ds.length ca) ha (by kernel_rfl) (by kernel_rfl) ?_
        clear ha; intro a ha
        refine st_call ha (by kernel_rfl) (by kernel_rfl) (check_okN W _ w A ca ds _ rfl (fun w s => hr w s.tail) hn hW h0 s) ?_
        rintro _ w ⟨o1, rfl, ho1, s⟩
        replace s : St W (Own 27 4 A3 (0 + (ds.length - q) + q) c4 (nvs (ds.drop q ++ ds.take q)) :: L) w := s
        refine ⟨_, rfl, ?_⟩; clear ha; intro a ha
        refine st_val (.tuple #[.int .i64 ((fst (found (tns ds) o1) : Nat) : Int), .int .i64 ((snd (found (tns ds) o1) : Nat) : Int), .bool ((found (tns ds) o1).isSome), .int .i64 0]) ha (by kernel_rfl) (by kernel_rfl) ?_
        clear ha; intro a ha
        refine st_val (.int .i64 ((fst (found (tns ds) o1) : Nat) : Int)) ha (by kernel_rfl) (by kernel_rfl) ?_
        clear ha; intro a ha
        refine st_val (.int .i64 ((snd (found (tns ds) o1) : Nat) : Int)) ha (by kernel_rfl) (by kernel_rfl) ?_
        clear ha; intro a ha
        refine st_val (.bool ((found (tns ds) o1).isSome)) ha (by kernel_rfl) (by kernel_rfl) ?_
        clear ha; intro a ha
        refine st_val (.int .i64 0) ha (by kernel_rfl) (by kernel_rfl) ?_
        clear ha; intro a ha
        refine st_val (.int .i64 ((fst (found (tns ds) o1) : Nat) : Int)) ha (by kernel_rfl) (by kernel_rfl) ?_
        clear ha; intro a ha
        refine st_val (.int .i64 ((snd (found (tns ds) o1) : Nat) : Int)) ha (by kernel_rfl) (by kernel_rfl) ?_
        clear ha; intro a ha
        refine st_val (.bool ((found (tns ds) o1).isSome)) ha (by kernel_rfl) (by kernel_rfl) ?_
        clear ha; intro a ha
        refine st_val (.int .i64 0) ha (by kernel_rfl) (by kernel_rfl) ?_
        clear ha; intro a ha
        refine wpList_nil ?_
        refine then_normal ?_
        refine wp_seq ?_
        refine wp_region_lit ?_
        refine st_val (.slice A3 (0 + (ds.length - q) + q) c4) ha (by kernel_rfl) (by kernel_rfl) ?_
        clear ha; intro a ha
        refine st_call ha (by kernel_rfl) (by kernel_rfl) (check_okN W _ w A3 c4 (ds.drop q ++ ds.take q) _ hTl (part_knows (i := 0) (e1 := 27) rfl hTl (fun w s => hr w s.tail) (fun d hd => turn_mem hd)) (turn_bn hn q) hW hT0 s) ?_
        rintro _ w ⟨o2, rfl, ho2, s⟩
        replace s : St W (Own 27 4 A3 (0 + (ds.length - q) + q) c4 (nvs (ds.drop q ++ ds.take q)) :: L) w := s
        refine ⟨_, rfl, ?_⟩; clear ha; intro a ha
        refine st_val (.tuple #[.int .i64 ((fst (found (tns (ds.drop q ++ ds.take q)) o2) : Nat) : Int), .int .i64 ((snd (found (tns (ds.drop q ++ ds.take q)) o2) : Nat) : Int), .bool ((found (tns (ds.drop q ++ ds.take q)) o2).isSome), .int .i64 0]) ha (by kernel_rfl) (by kernel_rfl) ?_
        clear ha; intro a ha
        refine st_val (.int .i64 ((fst (found (tns (ds.drop q ++ ds.take q)) o2) : Nat) : Int)) ha (by kernel_rfl) (by kernel_rfl) ?_
        clear ha; intro a ha
        refine st_val (.int .i64 ((snd (found (tns (ds.drop q ++ ds.take q)) o2) : Nat) : Int)) ha (by kernel_rfl) (by kernel_rfl) ?_
        clear ha; intro a ha
        refine st_val (.bool ((found (tns (ds.drop q ++ ds.take q)) o2).isSome)) ha (by kernel_rfl) (by kernel_rfl) ?_
        clear ha; intro a ha
        refine st_val (.int .i64 0) ha (by kernel_rfl) (by kernel_rfl) ?_
        clear ha; intro a ha
        refine st_val (.int .i64 ((fst (found (tns (ds.drop q ++ ds.take q)) o2) : Nat) : Int)) ha (by kernel_rfl) (by kernel_rfl) ?_
        clear ha; intro a ha
        refine st_val (.int .i64 ((snd (found (tns (ds.drop q ++ ds.take q)) o2) : Nat) : Int)) ha (by kernel_rfl) (by kernel_rfl) ?_
        clear ha; intro a ha
        refine st_val (.bool ((found (tns (ds.drop q ++ ds.take q)) o2).isSome)) ha (by kernel_rfl) (by kernel_rfl) ?_
        clear ha; intro a ha
        refine st_val (.int .i64 0) ha (by kernel_rfl) (by kernel_rfl) ?_
        clear ha; intro a ha
        refine wpList_nil ?_
        refine then_normal ?_
        refine wp_seq ?_
        refine wp_region_lit ?_
        refine st_val (.slice A ds.length ca) ha (by kernel_rfl) (by kernel_rfl) ?_
        clear ha; intro a ha
        refine st_call ha (by kernel_rfl) (by kernel_rfl) (rows_okN W _ w A ca ds _ rfl (fun w s => hr w s.tail) hn hW h0 s) ?_
        rintro _ w ⟨B5, c6, o1r, rfl, ho1r, s⟩
        obtain rfl := ho1.unique ho1r
        replace s : St W (Own 54 2 B5 ((rowsOf (tns ds) o1).length) c6 (rws (rowsOf (tns ds) o1)) :: Own 27 4 A3 (0 + (ds.length - q) + q) c4 (nvs (ds.drop q ++ ds.take q)) :: L) w := s
        refine ⟨_, rfl, ?_⟩; clear ha; intro a ha
        refine st_val (.tuple #[.slice B5 ((rowsOf (tns ds) o1).length) c6, .int .i64 0]) ha (by kernel_rfl) (by kernel_rfl) ?_
        clear ha; intro a ha
        refine st_val (.slice B5 ((rowsOf (tns ds) o1).length) c6) ha (by kernel_rfl) (by kernel_rfl) ?_
        clear ha; intro a ha
        refine st_val (.int .i64 0) ha (by kernel_rfl) (by kernel_rfl) ?_
        clear ha; intro a ha
        refine st_val (.slice B5 ((rowsOf (tns ds) o1).length) c6) ha (by kernel_rfl) (by kernel_rfl) ?_
        clear ha; intro a ha
        refine st_val (.int .i64 0) ha (by kernel_rfl) (by kernel_rfl) ?_
        clear ha; intro a ha
        refine wpList_nil ?_
        refine then_normal ?_
        refine wp_seq ?_
        refine wp_region_lit ?_
        refine st_val (.slice A3 (0 + (ds.length - q) + q) c4) ha (by kernel_rfl) (by kernel_rfl) ?_
        clear ha; intro a ha
        refine st_call ha (by kernel_rfl) (by kernel_rfl) (rows_okN W _ w A3 c4 (ds.drop q ++ ds.take q) _ hTl (part_knows (i := 1) (e1 := 27) rfl hTl (fun w s => hr w s.tail.tail) (fun d hd => turn_mem hd)) (turn_bn hn q) hW hT0 s) ?_
        rintro _ w ⟨B7, c8, o2r, rfl, ho2r, s⟩
        obtain rfl := ho2.unique ho2r
        replace s : St W (Own 54 2 B7 ((rowsOf (tns (ds.drop q ++ ds.take q)) o2).length) c8 (rws (rowsOf (tns (ds.drop q ++ ds.take q)) o2)) :: Own 54 2 B5 ((rowsOf (tns ds) o1).length) c6 (rws (rowsOf (tns ds) o1)) :: Own 27 4 A3 (0 + (ds.length - q) + q) c4 (nvs (ds.drop q ++ ds.take q)) :: L) w := s
        refine ⟨_, rfl, ?_⟩; clear ha; intro a ha
        refine st_val (.tuple #[.slice B7 ((rowsOf (tns (ds.drop q ++ ds.take q)) o2).length) c8, .int .i64 0]) ha (by kernel_rfl) (by kernel_rfl) ?_
        clear ha; intro a ha
        refine st_val (.slice B7 ((rowsOf (tns (ds.drop q ++ ds.take q)) o2).length) c8) ha (by kernel_rfl) (by kernel_rfl) ?_
        clear ha; intro a ha
        refine st_val (.int .i64 0) ha (by kernel_rfl) (by kernel_rfl) ?_
        clear ha; intro a ha
        refine st_val (.slice B7 ((rowsOf (tns (ds.drop q ++ ds.take q)) o2).length) c8) ha (by kernel_rfl) (by kernel_rfl) ?_
        clear ha; intro a ha
        refine st_val (.int .i64 0) ha (by kernel_rfl) (by kernel_rfl) ?_
        clear ha; intro a ha
        refine wpList_nil ?_
        refine then_normal ?_
        refine wp_seq ?_
        refine wp_seq ?_
        refine wp_region_lit ?_
        refine st_val (.int .i64 0) ha (by kernel_rfl) (by kernel_rfl) ?_
        clear ha; intro a ha
        refine st_val (.int .i64 0) ha (by kernel_rfl) (by kernel_rfl) ?_
        clear ha; intro a ha
        refine st_val (.bool false) ha (by kernel_rfl) (by kernel_rfl) ?_
        clear ha; intro a ha
        refine st_val (.bool false) ha (by kernel_rfl) (by kernel_rfl) ?_
        clear ha; intro a ha
        refine st_val (.int .i64 0) ha (by kernel_rfl) (by kernel_rfl) ?_
        clear ha; intro a ha
        refine st_val (.int .i64 0) ha (by kernel_rfl) (by kernel_rfl) ?_
        clear ha; intro a ha
        refine st_val (.bool false) ha (by kernel_rfl) (by kernel_rfl) ?_
        clear ha; intro a ha
        refine st_val (.bool false) ha (by kernel_rfl) (by kernel_rfl) ?_
        clear ha; intro a ha
        refine st_val (.bool false) ha (by kernel_rfl) (by kernel_rfl) ?_
        clear ha; intro a ha
        refine st_val (.slice B5 ((rowsOf (tns ds) o1).length) c6) ha (by kernel_rfl) (by kernel_rfl) ?_
        clear ha; intro a ha
        refine st_val (.slice B7 ((rowsOf (tns (ds.drop q ++ ds.take q)) o2).length) c8) ha (by kernel_rfl) (by kernel_rfl) ?_
        clear ha; intro a ha
        refine st_call ha (by kernel_rfl) (by kernel_rfl) (same_is W _ w B5 B7 c6 c8 (rowsOf (tns ds) o1) (rowsOf (tns (ds.drop q ++ ds.take q)) o2) (Knows.own (j := 1) rfl) (Knows.own (j := 0) rfl) (by have := left_all_le ho2 (by rw [← many_perm hTp]; exact hpost.2.2.2); unfold rowsOf; omega) (rowsOf_eq ho1 ho2 hTp) s) ?_
        rintro _ w ⟨rfl, s⟩
        replace s : St W (Own 54 2 B7 ((rowsOf (tns (ds.drop q ++ ds.take q)) o2).length) c8 (rws (rowsOf (tns (ds.drop q ++ ds.take q)) o2)) :: Own 54 2 B5 ((rowsOf (tns ds) o1).length) c6 (rws (rowsOf (tns ds) o1)) :: Own 27 4 A3 (0 + (ds.length - q) + q) c4 (nvs (ds.drop q ++ ds.take q)) :: L) w := s
        refine ⟨_, rfl, ?_⟩; clear ha; intro a ha
        refine st_val (.bool false) ha (by kernel_rfl) (by kernel_rfl) ?_
        clear ha; intro a ha
        refine st_val (.bool false) ha (by kernel_rfl) (by kernel_rfl) ?_
        clear ha; intro a ha
        refine st_val (.bool false) ha (by kernel_rfl) (by kernel_rfl) ?_
        clear ha; intro a ha
        refine st_val (.bool ((found (tns ds) o1).isSome)) ha (by kernel_rfl) (by kernel_rfl) ?_
        clear ha; intro a ha
        refine st_val (.bool ((found (tns (ds.drop q ++ ds.take q)) o2).isSome)) ha (by kernel_rfl) (by kernel_rfl) ?_
        clear ha; intro a ha
        refine st_val (.bool false) ha (by kernel_rfl) (run_known (show (((found (tns ds) o1).isSome) != ((found (tns (ds.drop q ++ ds.take q)) o2).isSome)) = false from by rw [← found_some ho1 ho2 hTp]; simp) (by kernel_rfl)) ?_
        clear ha; intro a ha
        refine st_val (.bool false) ha (by kernel_rfl) (by kernel_rfl) ?_
        clear ha; intro a ha
        refine st_val (.bool false) ha (by kernel_rfl) (by kernel_rfl) ?_
        clear ha; intro a ha
        refine st_val (.int .i64 ((snd (found (tns ds) o1) : Nat) : Int)) ha (by kernel_rfl) (by kernel_rfl) ?_
        clear ha; intro a ha
        refine st_val (.int .i64 ((snd (found (tns (ds.drop q ++ ds.take q)) o2) : Nat) : Int)) ha (by kernel_rfl) (by kernel_rfl) ?_
        clear ha; intro a ha
        refine st_val (.bool false) ha (by kernel_rfl) (run_known (show (((snd (found (tns ds) o1) : Nat) : Int) != ((snd (found (tns (ds.drop q ++ ds.take q)) o2) : Nat) : Int)) = false from by rw [← found_snd ho1 ho2 hTp]; simp) (by kernel_rfl)) ?_
        clear ha; intro a ha
        refine st_val (.bool false) ha (by kernel_rfl) (by kernel_rfl) ?_
        clear ha; intro a ha
        refine wpList_nil ?_
        refine then_normal ?_
        refine wp_false ha rfl (by kernel_rfl) ?_
        refine wp_skip ?_
        refine then_normal ?_
        refine wp_seq ?_
        refine wp_seq ?_
        refine wp_region_lit ?_
        refine st_val (.bool ((found (tns ds) o1).isSome)) ha (by kernel_rfl) (by kernel_rfl) ?_
        clear ha; intro a ha
        refine st_val (.bool (!((found (tns ds) o1).isSome))) ha (by kernel_rfl) (by kernel_rfl) ?_
        clear ha; intro a ha
        refine wpList_nil ?_
        refine then_normal ?_
        refine wp_part (!((found (tns ds) o1).isSome)) ha rfl (by kernel_rfl) (fun hb => ?_) (fun hb => ?_)
        · rw [hb] at ha; skip
          have hs1 : (found (tns ds) o1).isSome = false := by simpa using hb
          have hs2 : (found (tns (ds.drop q ++ ds.take q)) o2).isSome = false := by rw [← found_some ho1 ho2 hTp]; exact hs1
          refine wp_seq ?_
          refine wp_region_lit ?_
          refine st_val (.int .i64 ((fst (found (tns ds) o1) : Nat) : Int)) ha (by kernel_rfl) (by kernel_rfl) ?_
          clear ha; intro a ha
          refine st_val (.bool true) ha (by kernel_rfl) (run_known (show (((fst (found (tns ds) o1) : Nat) : Int) == (0 : Int)) = true from by rw [found_none hs1]; rfl) (by kernel_rfl)) ?_
          clear ha; intro a ha
          refine st_val (.bool true) ha (by kernel_rfl) (by kernel_rfl) ?_
          clear ha; intro a ha
          refine st_val (.int .i64 ((fst (found (tns (ds.drop q ++ ds.take q)) o2) : Nat) : Int)) ha (by kernel_rfl) (by kernel_rfl) ?_
          clear ha; intro a ha
          refine st_val (.bool true) ha (by kernel_rfl) (run_known (show (((fst (found (tns (ds.drop q ++ ds.take q)) o2) : Nat) : Int) == (0 : Int)) = true from by rw [found_none hs2]; rfl) (by kernel_rfl)) ?_
          clear ha; intro a ha
          refine st_val (.bool true) ha (by kernel_rfl) (by kernel_rfl) ?_
          clear ha; intro a ha
          refine st_val (.bool true) ha (by kernel_rfl) (by kernel_rfl) ?_
          clear ha; intro a ha
          refine wpList_nil ?_
          refine then_normal ?_
          refine wp_ret ?_
          refine then_ret ?_
          refine ret_with (v := .bool true) ha (results_1 rfl ha (res_tmp (by kernel_rfl) (by kernel_rfl))) ?_
          replace s := s.tail.tail.tail
          replace s : St W (L) w := s
          exact ⟨rfl, s⟩
        · rw [hb] at ha; skip
          have hs1 : (found (tns ds) o1).isSome = true := by simpa using hb
          have hs2 : (found (tns (ds.drop q ++ ds.take q)) o2).isSome = true := by rw [← found_some ho1 ho2 hTp]; exact hs1
          refine wp_skip ?_
          refine then_normal ?_
          refine wp_seq ?_
          have hl1 : fst (found (tns ds) o1) < ds.length := by have := found_lt ho1 hs1; simpa using this
          have hl2 : fst (found (tns (ds.drop q ++ ds.take q)) o2) < (ds.drop q ++ ds.take q).length := by have := found_lt ho2 hs2; simpa using this
          have hl3 : (ds.drop q ++ ds.take q).length = ds.length := by simp only [List.length_append, List.length_drop, List.length_take]; omega
          obtain ⟨d1, hd1⟩ : ∃ d, ds[fst (found (tns ds) o1)]? = some d := ⟨_, List.getElem?_eq_getElem hl1⟩
          obtain ⟨d2, hd2⟩ : ∃ d, (ds.drop q ++ ds.take q)[fst (found (tns (ds.drop q ++ ds.take q)) o2)]? = some d := ⟨_, List.getElem?_eq_getElem hl2⟩
          have hid : d1.id = d2.id := by have h := congrArg Tn.id (found_fst ho1 ho2 hTp hs1); rwa [tAt_of hd1, tAt_of hd2] at h
          obtain ⟨ad, hA⟩ := Reads.addr (hr _ s.sat.tail.tail.tail).1 (by omega)
          subst hA
          obtain ⟨a2, hA2⟩ := Own.addr (s.at_ (j := 2) rfl) (by omega)
          subst hA2
          refine wp_region_head 29 (fun w => Reads w 4 (some ad) ds.length (nvs ds) ∧ Reads w 4 (some a2) ((ds.drop q ++ ds.take q).length) (nvs (ds.drop q ++ ds.take q)) ∧ True) (by kernel_rfl) (by decide) ?_
          replace s := s.drew; generalize _root_.Go.World.drew _ = w at s ⊢
          have hS : (fun w => Reads w 4 (some ad) ds.length (nvs ds) ∧ Reads w 4 (some a2) ((ds.drop q ++ ds.take q).length) (nvs (ds.drop q ++ ds.take q)) ∧ True) w := ⟨(hr _ s.sat.tail.tail.tail).1, (hTl ▸ (Own.reads (s.at_ (j := 2) rfl).1)), trivial⟩
          refine hd_val (i := 0) (.int .i64 ((fst (found (tns ds) o1) : Nat) : Int)) ha rfl (by kernel_rfl) (fun _ _ _ h => h) (by kernel_rfl) (fun w hS => (by kernel_rfl)) hS ?_
          clear ha; intro a ha
          refine hd_val (i := 1) (.bool true) ha rfl (by kernel_rfl) (fun _ _ _ h => h) (by kernel_rfl) (fun w hS => (run_known (show (decide (((fst (found (tns ds) o1) : Nat) : Int) ≥ (0 : Int))) = true from decide_eq_true (by omega)) (by kernel_rfl))) hS ?_
          clear ha; intro a ha
          refine hd_val (i := 2) (.bool true) ha rfl (by kernel_rfl) (fun _ _ _ h => h) (by kernel_rfl) (fun w hS => (by kernel_rfl)) hS ?_
          clear ha; intro a ha
          refine hd_val (i := 3) (.int .i64 ((fst (found (tns ds) o1) : Nat) : Int)) ha rfl (by kernel_rfl) (fun _ _ _ h => h) (by kernel_rfl) (fun w hS => (by kernel_rfl)) hS ?_
          clear ha; intro a ha
          refine hd_val (i := 4) (.slice (some ad) ds.length ca) ha rfl (by kernel_rfl) (fun _ _ _ h => h) (by kernel_rfl) (fun w hS => (by kernel_rfl)) hS ?_
          clear ha; intro a ha
          refine hd_val (i := 5) (.int .i64 ((ds.length : Nat) : Int)) ha rfl (by kernel_rfl) (fun _ _ _ h => h) (by kernel_rfl) (fun w hS => (by kernel_rfl)) hS ?_
          clear ha; intro a ha
          refine hd_val (i := 6) (.bool true) ha rfl (by kernel_rfl) (fun _ _ _ h => h) (by kernel_rfl) (fun w hS => (run_known (show (decide (((fst (found (tns ds) o1) : Nat) : Int) < ((ds.length : Nat) : Int))) = true from decide_eq_true (by omega)) (by kernel_rfl))) hS ?_
          clear ha; intro a ha
          refine hd_val (i := 7) (.bool true) ha rfl (by kernel_rfl) (fun _ _ _ h => h) (by kernel_rfl) (fun w hS => (by kernel_rfl)) hS ?_
          clear ha; intro a ha
          refine hd_val (i := 8) (.bool true) ha rfl (by kernel_rfl) (fun _ _ _ h => h) (by kernel_rfl) (fun w hS => (by kernel_rfl)) hS ?_
          clear ha; intro a ha
          refine hd_val (i := 9) (.int .i64 ((fst (found (tns (ds.drop q ++ ds.take q)) o2) : Nat) : Int)) ha rfl (by kernel_rfl) (fun _ _ _ h => h) (by kernel_rfl) (fun w hS => (by kernel_rfl)) hS ?_
          clear ha; intro a ha
          refine hd_val (i := 10) (.bool true) ha rfl (by kernel_rfl) (fun _ _ _ h => h) (by kernel_rfl) (fun w hS => (run_known (show (decide (((fst (found (tns (ds.drop q ++ ds.take q)) o2) : Nat) : Int) ≥ (0 : Int))) = true from decide_eq_true (by omega)) (by kernel_rfl))) hS ?_
          clear ha; intro a ha
          refine hd_val (i := 11) (.bool true) ha rfl (by kernel_rfl) (fun _ _ _ h => h) (by kernel_rfl) (fun w hS => (by kernel_rfl)) hS ?_
          clear ha; intro a ha
          refine hd_val (i := 12) (.bool true) ha rfl (by kernel_rfl) (fun _ _ _ h => h) (by kernel_rfl) (fun w hS => (by kernel_rfl)) hS ?_
          clear ha; intro a ha
          refine hd_val (i := 13) (.int .i64 ((fst (found (tns (ds.drop q ++ ds.take q)) o2) : Nat) : Int)) ha rfl (by kernel_rfl) (fun _ _ _ h => h) (by kernel_rfl) (fun w hS => (by kernel_rfl)) hS ?_
          clear ha; intro a ha
          refine hd_val (i := 14) (.slice (some ad) ds.length ca) ha rfl (by kernel_rfl) (fun _ _ _ h => h) (by kernel_rfl) (fun w hS => (by kernel_rfl)) hS ?_
          clear ha; intro a ha
          refine hd_val (i := 15) (.int .i64 ((ds.length : Nat) : Int)) ha rfl (by kernel_rfl) (fun _ _ _ h => h) (by kernel_rfl) (fun w hS => (by kernel_rfl)) hS ?_
          clear ha; intro a ha
          refine hd_val (i := 16) (.bool true) ha rfl (by kernel_rfl) (fun _ _ _ h => h) (by kernel_rfl) (fun w hS => (run_known (show (decide (((fst (found (tns (ds.drop q ++ ds.take q)) o2) : Nat) : Int) < ((ds.length : Nat) : Int))) = true from decide_eq_true (by omega)) (by kernel_rfl))) hS ?_
          clear ha; intro a ha
          refine hd_val (i := 17) (.bool true) ha rfl (by kernel_rfl) (fun _ _ _ h => h) (by kernel_rfl) (fun w hS => (by kernel_rfl)) hS ?_
          clear ha; intro a ha
          refine hd_val (i := 18) (.bool true) ha rfl (by kernel_rfl) (fun _ _ _ h => h) (by kernel_rfl) (fun w hS => (by kernel_rfl)) hS ?_
          clear ha; intro a ha
          refine hd_val (i := 19) (.slice (some ad) ds.length ca) ha rfl (by kernel_rfl) (fun _ _ _ h => h) (by kernel_rfl) (fun w hS => (by kernel_rfl)) hS ?_
          clear ha; intro a ha
          refine hd_val (i := 20) (.int .i64 ((fst (found (tns ds) o1) : Nat) : Int)) ha rfl (by kernel_rfl) (fun _ _ _ h => h) (by kernel_rfl) (fun w hS => (by kernel_rfl)) hS ?_
          clear ha; intro a ha
          refine hd_val (i := 21) (.pointer (some (ad.add ((fst (found (tns ds) o1)) * 4)))) ha rfl (by kernel_rfl) (fun _ _ _ h => h) (by kernel_rfl) (fun w hS => (run_indexAddr' (kd := .i64) (i := ((fst (found (tns ds) o1) : Nat) : Int)) (n := ds.length) (c := ca) (fst (found (tns ds) o1)) rfl Try.underlying22 Try.sizeOf27 (by kernel_rfl) (by kernel_rfl) rfl (by first | assumption | omega) _)) hS ?_
          clear ha; intro a ha
          refine hd_val (i := 22) (.pointer (some (ad.add ((fst (found (tns ds) o1)) * 4 + 0)))) ha rfl (by kernel_rfl) (fun _ _ _ h => h) (by kernel_rfl) (fun w hS => (run_fieldAddr_at (i := (fst (found (tns ds) o1)) * 4) (off := 0) rfl Try.underlying27 rfl Try.sizeOf3 (by kernel_rfl) _)) hS ?_
          clear ha; intro a ha
          refine hd_val (i := 23) (.int .i64 d1.id) ha rfl (by kernel_rfl) (fun _ _ _ h => h) (by kernel_rfl) (fun w hS => run_loadAt1 (i := (fst (found (tns ds) o1)) * 4 + 0) hS.1 rfl (by kernel_rfl) Try.isAgg3 (by rw [nvs_at hd1 (by omega)]; rfl)) hS ?_
          clear ha; intro a ha
          refine hd_val (i := 24) (.slice (some a2) (0 + (ds.length - q) + q) c4) ha rfl (by kernel_rfl) (fun _ _ _ h => h) (by kernel_rfl) (fun w hS => (by kernel_rfl)) hS ?_
          clear ha; intro a ha
          refine hd_val (i := 25) (.int .i64 ((fst (found (tns (ds.drop q ++ ds.take q)) o2) : Nat) : Int)) ha rfl (by kernel_rfl) (fun _ _ _ h => h) (by kernel_rfl) (fun w hS => (by kernel_rfl)) hS ?_
          clear ha; intro a ha
          refine hd_val (i := 26) (.pointer (some (a2.add ((fst (found (tns (ds.drop q ++ ds.take q)) o2)) * 4)))) ha rfl (by kernel_rfl) (fun _ _ _ h => h) (by kernel_rfl) (fun w hS => (run_indexAddr' (kd := .i64) (i := ((fst (found (tns (ds.drop q ++ ds.take q)) o2) : Nat) : Int)) (n := (0 + (ds.length - q) + q)) (c := c4) (fst (found (tns (ds.drop q ++ ds.take q)) o2)) rfl Try.underlying22 Try.sizeOf27 (by kernel_rfl) (by kernel_rfl) rfl (by first | assumption | omega) _)) hS ?_
          clear ha; intro a ha
          refine hd_val (i := 27) (.pointer (some (a2.add ((fst (found (tns (ds.drop q ++ ds.take q)) o2)) * 4 + 0)))) ha rfl (by kernel_rfl) (fun _ _ _ h => h) (by kernel_rfl) (fun w hS => (run_fieldAddr_at (i := (fst (found (tns (ds.drop q ++ ds.take q)) o2)) * 4) (off := 0) rfl Try.underlying27 rfl Try.sizeOf3 (by kernel_rfl) _)) hS ?_
          clear ha; intro a ha
          refine hd_val (i := 28) (.int .i64 d2.id) ha rfl (by kernel_rfl) (fun _ _ _ h => h) (by kernel_rfl) (fun w hS => run_loadAt1 (i := (fst (found (tns (ds.drop q ++ ds.take q)) o2)) * 4 + 0) hS.2.1 rfl (by kernel_rfl) Try.isAgg3 (by rw [nvs_at hd2 (by omega)]; rfl)) hS ?_
          clear ha; intro a ha
          refine Head.done (by kernel_rfl) ?_
          clear hS; simp only [List.drop_succ_cons, List.drop_zero]
          refine st_val (.bool true) ha (by kernel_rfl) (run_known (show (d1.id == d2.id) = true from by rw [hid]; exact beq_self_eq_true _) (by kernel_rfl)) ?_
          clear ha; intro a ha
          refine st_val (.bool true) ha (by kernel_rfl) (by kernel_rfl) ?_
          clear ha; intro a ha
          refine st_val (.bool true) ha (by kernel_rfl) (by kernel_rfl) ?_
          clear ha; intro a ha
          refine wpList_nil ?_
          refine then_normal ?_
          refine wp_ret ?_
          refine ret_with (v := .bool true) ha (results_1 rfl ha (res_tmp (by kernel_rfl) (by kernel_rfl))) ?_
          replace s := s.tail.tail.tail
          replace s : St W (L) w := s
          exact ⟨rfl, s⟩
      · skip
        refine wp_region_head 7 (fun w => True) (by kernel_rfl) (by decide) ?_
        replace s := s.drew; generalize _root_.Go.World.drew _ = w at s ⊢
        have hS : (fun w => True) w := trivial
        refine hd_val (i := 0) (.slice A ds.length ca) ha rfl (by kernel_rfl) (fun _ _ _ h => h) (by kernel_rfl) (fun w hS => (by kernel_rfl)) hS ?_
        clear ha; intro a ha
        refine hd_val (i := 1) (.int .i64 ((q : Nat) : Int)) ha rfl (by kernel_rfl) (fun _ _ _ h => h) (by kernel_rfl) (fun w hS => (by kernel_rfl)) hS ?_
        clear ha; intro a ha
        refine hd_val (i := 2) (.slice (slA A q ca 4) (ds.length - q) (ca - q)) ha rfl (by kernel_rfl) (fun _ _ _ h => h) (by kernel_rfl) (fun w hS => (run_slice (n := ds.length) (c := ca) q ds.length ca rfl Try.underlying22 Try.sizeOf27 (by kernel_rfl) (fun h => by cases h) bnd_none bnd_none (bnd_some .i64 (by kernel_rfl)) (by omega) (by omega) (by omega) _)) hS ?_
        clear ha; intro a ha
        refine hd_val (i := 4) (.slice A ds.length ca) ha rfl (by kernel_rfl) (fun _ _ _ h => h) (by kernel_rfl) (fun w hS => (by kernel_rfl)) hS ?_
        clear ha; intro a ha
        refine hd_val (i := 5) (.int .i64 ((q : Nat) : Int)) ha rfl (by kernel_rfl) (fun _ _ _ h => h) (by kernel_rfl) (fun w hS => (by kernel_rfl)) hS ?_
        clear ha; intro a ha
        refine hd_val (i := 6) (.slice A q ca) ha rfl (by kernel_rfl) (fun _ _ _ h => h) (by kernel_rfl) (fun w hS => (run_slice0 (n := ds.length) (c := ca) q ca rfl Try.underlying22 Try.sizeOf27 (by kernel_rfl) (fun _ => rfl) bnd_none (bnd_some .i64 (by kernel_rfl)) bnd_none (by omega) (by omega) _)) hS ?_
        clear ha; intro a ha
        replace s := Own.none_ (e := 27) (k := 4) none s
        replace s : St W (Own 27 4 none 0 0 [] :: L) w := s
        refine hd_ex (i := 3) ha rfl (by kernel_rfl) (by kernel_rfl) (ex_append (m := (ds.length - q)) (d' := (ca - q)) elt22 (by decide) 0 (nvs (ds.drop q)) s rfl (by kernel_rfl) (by kernel_rfl) rfl (by have := (DonesIn.drop (hr _ s.sat.tail) (k := q) (c := ca) (by omega) hca).1; rwa [List.length_drop] at this) (nvs_one _) (by simp only [maxLen]; omega) (by omega)) ?_
        clear hS; rintro _ w ⟨A9, c10, rfl, hA_, s⟩
        replace s : St W (Own 27 4 A9 (0 + (ds.length - q)) c10 ([] ++ (nvs (ds.drop q))) :: L) w := s
        have hS : (fun w => True) w := trivial
        refine ⟨hS, ?_⟩; clear ha; intro a ha
        refine Head.done (by kernel_rfl) ?_
        clear hS; simp only [List.drop_succ_cons, List.drop_zero]
        refine st_ex ha (by kernel_rfl) (ex_append (m := q) (d' := ca) elt22 (by decide) 0 (nvs (ds.take q)) s rfl (by kernel_rfl) (by kernel_rfl) rfl (by have := (DonesIn.take (hr _ s.sat.tail) (k := q) (by omega)).1; rwa [List.length_take, Nat.min_eq_left (by omega)] at this) (nvs_one _) (by simp only [maxLen]; omega) (by omega)) ?_
        clear ha; rintro _ w a ⟨A11, c12, rfl, hA_, s⟩ ha
        rw [List.nil_append, ← nvs_append] at s
        have hTl : (ds.drop q ++ ds.take q).length = 0 + (ds.length - q) + q := by simp only [List.length_append, List.length_drop, List.length_take]; omega
        have hTp := turn_perm ds q
        have hT0 : code (tns (ds.drop q ++ ds.take q)) ≠ 0 := by rw [← code_perm hTp]; exact h0
        replace s : St W (Own 27 4 A11 (0 + (ds.length - q) + q) c12 (nvs (ds.drop q ++ ds.take q)) :: L) w := s
        refine st_val (.slice A11 (0 + (ds.length - q) + q) c12) ha (by kernel_rfl) (by kernel_rfl) ?_
        clear ha; intro a ha
        refine wpList_nil ?_
        refine then_normal ?_
        refine wp_seq ?_
        refine wp_region_lit ?_
        refine st_val (.slice A ds.length ca) ha (by kernel_rfl) (by kernel_rfl) ?_
        clear ha; intro a ha
        refine st_call ha (by kernel_rfl) (by kernel_rfl) (check_noN W _ w A ca ds _ rfl (fun w s => hr w s.tail) hn hW h0 s) ?_
        rintro _ w ⟨rfl, s⟩
        replace s : St W (Own 27 4 A11 (0 + (ds.length - q) + q) c12 (nvs (ds.drop q ++ ds.take q)) :: L) w := s
        refine ⟨_, rfl, ?_⟩; clear ha; intro a ha
        refine st_val (.tuple #[.int .i64 0, .int .i64 0, .bool false, .int .i64 (code (tns ds))]) ha (by kernel_rfl) (by kernel_rfl) ?_
        clear ha; intro a ha
        refine st_val (.int .i64 0) ha (by kernel_rfl) (by kernel_rfl) ?_
        clear ha; intro a ha
        refine st_val (.int .i64 0) ha (by kernel_rfl) (by kernel_rfl) ?_
        clear ha; intro a ha
        refine st_val (.bool false) ha (by kernel_rfl) (by kernel_rfl) ?_
        clear ha; intro a ha
        refine st_val (.int .i64 (code (tns ds))) ha (by kernel_rfl) (by kernel_rfl) ?_
        clear ha; intro a ha
        refine st_val (.int .i64 0) ha (by kernel_rfl) (by kernel_rfl) ?_
        clear ha; intro a ha
        refine st_val (.int .i64 0) ha (by kernel_rfl) (by kernel_rfl) ?_
        clear ha; intro a ha
        refine st_val (.bool false) ha (by kernel_rfl) (by kernel_rfl) ?_
        clear ha; intro a ha
        refine st_val (.int .i64 (code (tns ds))) ha (by kernel_rfl) (by kernel_rfl) ?_
        clear ha; intro a ha
        refine wpList_nil ?_
        refine then_normal ?_
        refine wp_seq ?_
        refine wp_region_lit ?_
        refine st_val (.slice A11 (0 + (ds.length - q) + q) c12) ha (by kernel_rfl) (by kernel_rfl) ?_
        clear ha; intro a ha
        refine st_call ha (by kernel_rfl) (by kernel_rfl) (check_noN W _ w A11 c12 (ds.drop q ++ ds.take q) _ hTl (part_knows (i := 0) (e1 := 27) rfl hTl (fun w s => hr w s.tail) (fun d hd => turn_mem hd)) (turn_bn hn q) hW hT0 s) ?_
        rintro _ w ⟨rfl, s⟩
        replace s : St W (Own 27 4 A11 (0 + (ds.length - q) + q) c12 (nvs (ds.drop q ++ ds.take q)) :: L) w := s
        refine ⟨_, rfl, ?_⟩; clear ha; intro a ha
        refine st_val (.tuple #[.int .i64 0, .int .i64 0, .bool false, .int .i64 (code (tns (ds.drop q ++ ds.take q)))]) ha (by kernel_rfl) (by kernel_rfl) ?_
        clear ha; intro a ha
        refine st_val (.int .i64 0) ha (by kernel_rfl) (by kernel_rfl) ?_
        clear ha; intro a ha
        refine st_val (.int .i64 0) ha (by kernel_rfl) (by kernel_rfl) ?_
        clear ha; intro a ha
        refine st_val (.bool false) ha (by kernel_rfl) (by kernel_rfl) ?_
        clear ha; intro a ha
        refine st_val (.int .i64 (code (tns (ds.drop q ++ ds.take q)))) ha (by kernel_rfl) (by kernel_rfl) ?_
        clear ha; intro a ha
        refine st_val (.int .i64 0) ha (by kernel_rfl) (by kernel_rfl) ?_
        clear ha; intro a ha
        refine st_val (.int .i64 0) ha (by kernel_rfl) (by kernel_rfl) ?_
        clear ha; intro a ha
        refine st_val (.bool false) ha (by kernel_rfl) (by kernel_rfl) ?_
        clear ha; intro a ha
        refine st_val (.int .i64 (code (tns (ds.drop q ++ ds.take q)))) ha (by kernel_rfl) (by kernel_rfl) ?_
        clear ha; intro a ha
        refine wpList_nil ?_
        refine then_normal ?_
        refine wp_seq ?_
        refine wp_region_lit ?_
        refine st_val (.slice A ds.length ca) ha (by kernel_rfl) (by kernel_rfl) ?_
        clear ha; intro a ha
        refine st_call ha (by kernel_rfl) (by kernel_rfl) (rows_noN W _ w A ca ds _ rfl (fun w s => hr w s.tail) hn hW h0 s) ?_
        rintro _ w ⟨rfl, s⟩
        replace s : St W (Own 27 4 A11 (0 + (ds.length - q) + q) c12 (nvs (ds.drop q ++ ds.take q)) :: L) w := s
        refine ⟨_, rfl, ?_⟩; clear ha; intro a ha
        refine st_val (.tuple #[.slice none 0 0, .int .i64 (code (tns ds))]) ha (by kernel_rfl) (by kernel_rfl) ?_
        clear ha; intro a ha
        refine st_val (.slice none 0 0) ha (by kernel_rfl) (by kernel_rfl) ?_
        clear ha; intro a ha
        refine st_val (.int .i64 (code (tns ds))) ha (by kernel_rfl) (by kernel_rfl) ?_
        clear ha; intro a ha
        refine st_val (.slice none 0 0) ha (by kernel_rfl) (by kernel_rfl) ?_
        clear ha; intro a ha
        refine st_val (.int .i64 (code (tns ds))) ha (by kernel_rfl) (by kernel_rfl) ?_
        clear ha; intro a ha
        refine wpList_nil ?_
        refine then_normal ?_
        refine wp_seq ?_
        refine wp_region_lit ?_
        refine st_val (.slice A11 (0 + (ds.length - q) + q) c12) ha (by kernel_rfl) (by kernel_rfl) ?_
        clear ha; intro a ha
        refine st_call ha (by kernel_rfl) (by kernel_rfl) (rows_noN W _ w A11 c12 (ds.drop q ++ ds.take q) _ hTl (part_knows (i := 0) (e1 := 27) rfl hTl (fun w s => hr w s.tail) (fun d hd => turn_mem hd)) (turn_bn hn q) hW hT0 s) ?_
        rintro _ w ⟨rfl, s⟩
        replace s : St W (Own 27 4 A11 (0 + (ds.length - q) + q) c12 (nvs (ds.drop q ++ ds.take q)) :: L) w := s
        refine ⟨_, rfl, ?_⟩; clear ha; intro a ha
        refine st_val (.tuple #[.slice none 0 0, .int .i64 (code (tns (ds.drop q ++ ds.take q)))]) ha (by kernel_rfl) (by kernel_rfl) ?_
        clear ha; intro a ha
        refine st_val (.slice none 0 0) ha (by kernel_rfl) (by kernel_rfl) ?_
        clear ha; intro a ha
        refine st_val (.int .i64 (code (tns (ds.drop q ++ ds.take q)))) ha (by kernel_rfl) (by kernel_rfl) ?_
        clear ha; intro a ha
        refine st_val (.slice none 0 0) ha (by kernel_rfl) (by kernel_rfl) ?_
        clear ha; intro a ha
        refine st_val (.int .i64 (code (tns (ds.drop q ++ ds.take q)))) ha (by kernel_rfl) (by kernel_rfl) ?_
        clear ha; intro a ha
        refine wpList_nil ?_
        refine then_normal ?_
        refine wp_seq ?_
        refine wp_seq ?_
        refine wp_region_lit ?_
        refine st_val (.int .i64 (code (tns ds))) ha (by kernel_rfl) (by kernel_rfl) ?_
        clear ha; intro a ha
        refine st_val (.int .i64 (code (tns (ds.drop q ++ ds.take q)))) ha (by kernel_rfl) (by kernel_rfl) ?_
        clear ha; intro a ha
        refine st_val (.bool false) ha (by kernel_rfl) (run_known (show ((code (tns ds)) != (code (tns (ds.drop q ++ ds.take q)))) = false from by rw [← code_perm hTp]; simp) (by kernel_rfl)) ?_
        clear ha; intro a ha
        refine st_val (.bool false) ha (by kernel_rfl) (by kernel_rfl) ?_
        clear ha; intro a ha
        refine st_val (.int .i64 (code (tns ds))) ha (by kernel_rfl) (by kernel_rfl) ?_
        clear ha; intro a ha
        refine st_val (.int .i64 (code (tns (ds.drop q ++ ds.take q)))) ha (by kernel_rfl) (by kernel_rfl) ?_
        clear ha; intro a ha
        refine st_val (.bool false) ha (by kernel_rfl) (run_known (show ((code (tns ds)) != (code (tns (ds.drop q ++ ds.take q)))) = false from by rw [← code_perm hTp]; simp) (by kernel_rfl)) ?_
        clear ha; intro a ha
        refine st_val (.bool false) ha (by kernel_rfl) (by kernel_rfl) ?_
        clear ha; intro a ha
        refine st_val (.bool false) ha (by kernel_rfl) (by kernel_rfl) ?_
        clear ha; intro a ha
        refine st_val (.slice none 0 0) ha (by kernel_rfl) (by kernel_rfl) ?_
        clear ha; intro a ha
        refine st_val (.slice none 0 0) ha (by kernel_rfl) (by kernel_rfl) ?_
        clear ha; intro a ha
        refine st_call ha (by kernel_rfl) (by kernel_rfl) (same_is W _ w none none 0 0 [] [] (Knows.reads_none _ 2) (Knows.reads_none _ 2) (by simp) rfl s) ?_
        rintro _ w ⟨rfl, s⟩
        replace s : St W (Own 27 4 A11 (0 + (ds.length - q) + q) c12 (nvs (ds.drop q ++ ds.take q)) :: L) w := s
        refine ⟨_, rfl, ?_⟩; clear ha; intro a ha
        refine st_val (.bool false) ha (by kernel_rfl) (by kernel_rfl) ?_
        clear ha; intro a ha
        refine st_val (.bool false) ha (by kernel_rfl) (by kernel_rfl) ?_
        clear ha; intro a ha
        refine st_val (.bool false) ha (by kernel_rfl) (by kernel_rfl) ?_
        clear ha; intro a ha
        refine st_val (.bool false) ha (by kernel_rfl) (by kernel_rfl) ?_
        clear ha; intro a ha
        refine st_val (.bool false) ha (by kernel_rfl) (by kernel_rfl) ?_
        clear ha; intro a ha
        refine st_val (.bool false) ha (by kernel_rfl) (by kernel_rfl) ?_
        clear ha; intro a ha
        refine st_val (.bool false) ha (by kernel_rfl) (by kernel_rfl) ?_
        clear ha; intro a ha
        refine st_val (.bool false) ha (by kernel_rfl) (by kernel_rfl) ?_
        clear ha; intro a ha
        refine st_val (.int .i64 0) ha (by kernel_rfl) (by kernel_rfl) ?_
        clear ha; intro a ha
        refine st_val (.int .i64 0) ha (by kernel_rfl) (by kernel_rfl) ?_
        clear ha; intro a ha
        refine st_val (.bool false) ha (by kernel_rfl) (by kernel_rfl) ?_
        clear ha; intro a ha
        refine st_val (.bool false) ha (by kernel_rfl) (by kernel_rfl) ?_
        clear ha; intro a ha
        refine wpList_nil ?_
        refine then_normal ?_
        refine wp_false ha rfl (by kernel_rfl) ?_
        refine wp_skip ?_
        refine then_normal ?_
        refine wp_seq ?_
        refine wp_seq ?_
        refine wp_region_lit ?_
        refine st_val (.bool false) ha (by kernel_rfl) (by kernel_rfl) ?_
        clear ha; intro a ha
        refine st_val (.bool true) ha (by kernel_rfl) (by kernel_rfl) ?_
        clear ha; intro a ha
        refine wpList_nil ?_
        refine then_normal ?_
        refine wp_true ha rfl (by kernel_rfl) ?_
        refine wp_seq ?_
        refine wp_region_lit ?_
        refine st_val (.int .i64 0) ha (by kernel_rfl) (by kernel_rfl) ?_
        clear ha; intro a ha
        refine st_val (.bool true) ha (by kernel_rfl) (by kernel_rfl) ?_
        clear ha; intro a ha
        refine st_val (.bool true) ha (by kernel_rfl) (by kernel_rfl) ?_
        clear ha; intro a ha
        refine st_val (.int .i64 0) ha (by kernel_rfl) (by kernel_rfl) ?_
        clear ha; intro a ha
        refine st_val (.bool true) ha (by kernel_rfl) (by kernel_rfl) ?_
        clear ha; intro a ha
        refine st_val (.bool true) ha (by kernel_rfl) (by kernel_rfl) ?_
        clear ha; intro a ha
        refine st_val (.bool true) ha (by kernel_rfl) (by kernel_rfl) ?_
        clear ha; intro a ha
        refine wpList_nil ?_
        refine then_normal ?_
        refine wp_ret ?_
        refine then_ret ?_
        refine ret_with (v := .bool true) ha (results_1 rfl ha (res_tmp (by kernel_rfl) (by kernel_rfl))) ?_
        replace s := s.tail
        replace s : St W (L) w := s
        exact ⟨rfl, s⟩

end Go.Proofs.Ytidfniglnmfphaa.B
