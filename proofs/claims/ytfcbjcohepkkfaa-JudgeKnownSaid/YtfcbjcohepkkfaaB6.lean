import Derived.Test.YtfcbjcohepkkfaaB5
namespace Go.Proofs.Ytfcbjcohepkkfaa.B
open Go.RowKit Go.Maps Go.Sort Go.Shelf Go.Proofs.Ytfcbjcohepkkfaa.Sep Go.Proofs.Ytfcbjcohepkkfaa.P
set_option linter.unusedVariables false
set_option linter.unusedSimpArgs false
theorem tl_at {ds : List Dn} {i j : Nat} {d : Dn} {x : Dd} (hd : ds[i]? = some d) (hx : d.l[j]? = some x) : (tAt (tns ds) i).l[j]? = some x.t := by rw [tAt_of hd]; simp [Dn.t, hx]
theorem tl_len {ds : List Dn} {i : Nat} {d : Dn} (hd : ds[i]? = some d) : (tAt (tns ds) i).l.length = d.l.length := by rw [tAt_of hd]; simp [Dn.t]
theorem run_left_le {ds : List Dn} {o : List Nat} {k i j : Nat} (ho : IsOrd (tns ds) o) (hm : many (tns ds) ≤ 10000) (h : o[k]? = some i) : (left [] (upTo (tns ds) o k i j)).length ≤ 1000000 := by
  have h1 := left_length [] (upTo (tns ds) o k i j)
  have h2 := upTo_le (ds := tns ds) (j := j) h
  rw [things_len ho] at h2
  simp only [List.length_nil] at h1
  omega
theorem left_all_le {ds : List Dn} {o : List Nat} (ho : IsOrd (tns ds) o) (hm : many (tns ds) ≤ 10000) : (left [] (things (tns ds) o)).length ≤ 1000000 := by
  have h1 := left_length [] (things (tns ds) o)
  rw [things_len ho] at h1
  simp only [List.length_nil] at h1
  omega

theorem look_any (W : World) (L : List Chunk) (w : World) (gf gt gd : Nat) (f_ : Option (Nat × Nat)) (i k : Nat) (s : St W (.blk gf [.bool f_.isSome] 4 :: .blk gt [.int .i64 ((fst f_ : Nat) : Int)] 3 :: .blk gd [.int .i64 ((snd f_ : Nat) : Int)] 3 :: L) w) :
    Calls Try.prog 32 #[.int .i64 ((i : Nat) : Int), .int .i64 ((k : Nat) : Int), .pointer (some ⟨gf, 0, none⟩), .pointer (some ⟨gt, 0, none⟩), .pointer (some ⟨gd, 0, none⟩)] w fun e w' => e = .returned (.tuple #[]) ∧ St W (.blk gf [.bool ((f_.or (some (i, k))).isSome)] 4 :: .blk gt [.int .i64 ((fst (f_.or (some (i, k))) : Nat) : Int)] 3 :: .blk gd [.int .i64 ((snd (f_.or (some (i, k))) : Nat) : Int)] 3 :: L) w' := by
  refine enter_args (l := [.int .i64 ((i : Nat) : Int), .int .i64 ((k : Nat) : Int), .pointer (some ⟨gf, 0, none⟩), .pointer (some ⟨gt, 0, none⟩), .pointer (some ⟨gd, 0, none⟩)]) Try.func32 rfl rfl (Nat.le_of_ble_eq_true rfl) ?_
  intro a ha; replace ha : Has a 11 [(0, .int .i64 ((i : Nat) : Int)), (1, .int .i64 ((k : Nat) : Int)), (2, .pointer (some ⟨gf, 0, none⟩)), (3, .pointer (some ⟨gt, 0, none⟩)), (4, .pointer (some ⟨gd, 0, none⟩))] := ha
  refine wp_seq ?_
  refine wp_region_lit ?_
  refine st_val (.bool f_.isSome) ha (by kernel_rfl) (run_load1 (of_ := 0) (s.blkIs 0 rfl) rfl (by kernel_rfl) Try.isAgg4 rfl) ?_
  clear ha; intro a ha
  refine st_val (.bool (!f_.isSome)) ha (by kernel_rfl) (by kernel_rfl) ?_
  clear ha; intro a ha
  refine wpList_nil ?_
  refine then_normal ?_
  refine wp_part (!f_.isSome) ha rfl (by kernel_rfl) (fun hb => ?_) (fun hb => ?_)
  · rw [hb] at ha; skip
    have hs : f_.isSome = false := by simpa using hb
    refine wp_region_lit ?_
    refine st_val (.int .i64 ((i : Nat) : Int)) ha (by kernel_rfl) (by kernel_rfl) ?_
    clear ha; intro a ha
    refine st_val (.int .i64 ((k : Nat) : Int)) ha (by kernel_rfl) (by kernel_rfl) ?_
    clear ha; intro a ha
    refine st_exd ha (by kernel_rfl) (ex_store (of_ := 0) 1 [.int .i64 ((i : Nat) : Int)] s rfl rfl (by kernel_rfl) (by kernel_rfl) (Try.sizeOf3 _) rfl (by simp [Value.oneCell']) (Nat.le_of_ble_eq_true rfl)) ?_
    clear ha; rintro w a s ha
    replace s : St W (.blk gf [.bool f_.isSome] 4 :: .blk gt [.int .i64 ((i : Nat) : Int)] 3 :: .blk gd [.int .i64 ((snd f_ : Nat) : Int)] 3 :: L) w := s
    refine st_exd ha (by kernel_rfl) (ex_store (of_ := 0) 2 [.int .i64 ((k : Nat) : Int)] s rfl rfl (by kernel_rfl) (by kernel_rfl) (Try.sizeOf3 _) rfl (by simp [Value.oneCell']) (Nat.le_of_ble_eq_true rfl)) ?_
    clear ha; rintro w a s ha
    replace s : St W (.blk gf [.bool f_.isSome] 4 :: .blk gt [.int .i64 ((i : Nat) : Int)] 3 :: .blk gd [.int .i64 ((k : Nat) : Int)] 3 :: L) w := s
    refine st_exd ha (by kernel_rfl) (ex_store (of_ := 0) 0 [.bool true] s rfl rfl (by kernel_rfl) (by kernel_rfl) (Try.sizeOf4 _) rfl (by simp [Value.oneCell']) (Nat.le_of_ble_eq_true rfl)) ?_
    clear ha; rintro w a s ha
    replace s : St W (.blk gf [.bool true] 4 :: .blk gt [.int .i64 ((i : Nat) : Int)] 3 :: .blk gd [.int .i64 ((k : Nat) : Int)] 3 :: L) w := s
    refine wpList_nil ?_
    refine end_with (v := .tuple #[]) ha (results_0 rfl _) ?_
    rw [or_none hs]
    exact ⟨rfl, s⟩
  · rw [hb] at ha; skip
    have hs : f_.isSome = true := by simpa using hb
    refine wp_skip ?_
    refine end_with (v := .tuple #[]) ha (results_0 rfl _) ?_
    rw [or_some hs]
    exact ⟨rfl, s⟩

set_option maxRecDepth 100000 in
set_option maxHeartbeats 2000000 in
theorem play_chk_ok (W : World) (hW : W.drawn = 0) (L : List Chunk) (w : World) (A : Option Addr) (ca : Nat) (ds : List Dn) (hr : Knows L (DonesIn A ds)) (hn : Bn ds) (gf gt gd : Nat) (h0 : code (tns ds) = 0) (s : St W (.blk gf [.bool ((none : Option (Nat × Nat)).isSome)] 4 :: .blk gt [.int .i64 ((fst (none : Option (Nat × Nat)) : Nat) : Int)] 3 :: .blk gd [.int .i64 ((snd (none : Option (Nat × Nat)) : Nat) : Int)] 3 :: L) w) :
    Calls Try.prog 31 #[.slice A ds.length ca, .func (.func 32) #[] #[.pointer (some ⟨gf, 0, none⟩), .pointer (some ⟨gt, 0, none⟩), .pointer (some ⟨gd, 0, none⟩)]] w fun e w' => ∃ g D o, e = .returned (.tuple #[.map (some g), .int .i64 0]) ∧ IsOrd (tns ds) o ∧ Of D (left [] (things (tns ds) o)) ∧ St W (MapT Try.prog 9 encS g D :: .blk gf [.bool ((first [] (things (tns ds) o)).isSome)] 4 :: .blk gt [.int .i64 ((fst (first [] (things (tns ds) o)) : Nat) : Int)] 3 :: .blk gd [.int .i64 ((snd (first [] (things (tns ds) o)) : Nat) : Int)] 3 :: L) w' := by
  have hpost := order_post h0
  refine enter_args (l := [.slice A ds.length ca, .func (.func 32) #[] #[.pointer (some ⟨gf, 0, none⟩), .pointer (some ⟨gt, 0, none⟩), .pointer (some ⟨gd, 0, none⟩)]]) Try.func31 rfl rfl (Nat.le_of_ble_eq_true rfl) ?_
  intro a ha; replace ha : Has a 50 [(0, .slice A ds.length ca), (1, .func (.func 32) #[] #[.pointer (some ⟨gf, 0, none⟩), .pointer (some ⟨gt, 0, none⟩), .pointer (some ⟨gd, 0, none⟩)])] := ha
  refine wp_seq ?_
  refine wp_region_lit ?_
  refine st_val (.map none) ha (by kernel_rfl) (by kernel_rfl) ?_
  clear ha; intro a ha
  refine st_val (.int .i64 0) ha (by kernel_rfl) (by kernel_rfl) ?_
  clear ha; intro a ha
  refine wpList_nil ?_
  refine then_normal ?_
  refine wp_seq ?_
  refine wp_region_lit ?_
  refine st_val (.slice A ds.length ca) ha (by kernel_rfl) (by kernel_rfl) ?_
  clear ha; intro a ha
  refine st_call ha (by kernel_rfl) (by kernel_rfl) (order_ok W _ w A ca ds (fun w s => hr w s.tail.tail.tail) hn h0 s) ?_
  rintro _ w ⟨B, cB, o, rfl, ho, s⟩
  have hol : o.length = ds.length := by have := ho.length; simpa using this
  replace s : St W (Own 3 1 B ds.length cB (nats o) :: .blk gf [.bool ((none : Option (Nat × Nat)).isSome)] 4 :: .blk gt [.int .i64 ((fst (none : Option (Nat × Nat)) : Nat) : Int)] 3 :: .blk gd [.int .i64 ((snd (none : Option (Nat × Nat)) : Nat) : Int)] 3 :: L) w := s
  refine ⟨_, rfl, ?_⟩; clear ha; intro a ha
  refine st_val (.tuple #[.slice B ds.length cB, .int .i64 0]) ha (by kernel_rfl) (by kernel_rfl) ?_
  clear ha; intro a ha
  refine st_val (.slice B ds.length cB) ha (by kernel_rfl) (by kernel_rfl) ?_
  clear ha; intro a ha
  refine st_val (.int .i64 0) ha (by kernel_rfl) (by kernel_rfl) ?_
  clear ha; intro a ha
  refine st_val (.slice B ds.length cB) ha (by kernel_rfl) (by kernel_rfl) ?_
  clear ha; intro a ha
  refine st_val (.int .i64 0) ha (by kernel_rfl) (by kernel_rfl) ?_
  clear ha; intro a ha
  refine wpList_nil ?_
  refine then_normal ?_
  refine wp_seq ?_
  refine wp_seq ?_
  refine wp_region_lit ?_
  refine st_val (.int .i64 0) ha (by kernel_rfl) (by kernel_rfl) ?_
  clear ha; intro a ha
  refine st_val (.bool false) ha (by kernel_rfl) (by kernel_rfl) ?_
  clear ha; intro a ha
  refine wpList_nil ?_
  refine then_normal ?_
  refine wp_false ha rfl (by kernel_rfl) ?_
  refine wp_skip ?_
  refine then_normal ?_
  refine wp_seq ?_
  refine wp_region_lit ?_
  refine st_ex ha (by kernel_rfl) (ex_makeMap Try.prog 9 encS s rfl) ?_
  clear ha; rintro _ w a ⟨g1, rfl, s⟩ ha
  replace s : St W (MapT Try.prog 9 encS g1 [] :: Own 3 1 B ds.length cB (nats o) :: .blk gf [.bool ((none : Option (Nat × Nat)).isSome)] 4 :: .blk gt [.int .i64 ((fst (none : Option (Nat × Nat)) : Nat) : Int)] 3 :: .blk gd [.int .i64 ((snd (none : Option (Nat × Nat)) : Nat) : Int)] 3 :: L) w := s
  refine st_val (.map (some g1)) ha (by kernel_rfl) (by kernel_rfl) ?_
  clear ha; intro a ha
  refine wpList_nil ?_
  refine then_normal ?_
  refine wp_seq ?_
  refine wp_seq ?_
  refine wp_region_lit ?_
  refine st_val (.slice B ds.length cB) ha (by kernel_rfl) (by kernel_rfl) ?_
  clear ha; intro a ha
  refine st_val (.int .i64 ((ds.length : Nat) : Int)) ha (by kernel_rfl) (by kernel_rfl) ?_
  clear ha; intro a ha
  refine st_val (.int .i64 0) ha (by kernel_rfl) (by kernel_rfl) ?_
  clear ha; intro a ha
  refine wpList_nil ?_
  refine then_normal ?_
  refine wp_block ?_
  replace s := s.at_ (j := 4) rfl
  replace s : St W (.blk gd [.int .i64 ((snd (none : Option (Nat × Nat)) : Nat) : Int)] 3 :: MapT Try.prog 9 encS g1 [] :: Own 3 1 B ds.length cB (nats o) :: .blk gf [.bool ((none : Option (Nat × Nat)).isSome)] 4 :: .blk gt [.int .i64 ((fst (none : Option (Nat × Nat)) : Nat) : Int)] 3 :: L) w := s
  replace s := s.at_ (j := 4) rfl
  replace s : St W (.blk gt [.int .i64 ((fst (none : Option (Nat × Nat)) : Nat) : Int)] 3 :: .blk gd [.int .i64 ((snd (none : Option (Nat × Nat)) : Nat) : Int)] 3 :: MapT Try.prog 9 encS g1 [] :: Own 3 1 B ds.length cB (nats o) :: .blk gf [.bool ((none : Option (Nat × Nat)).isSome)] 4 :: L) w := s
  replace s := s.at_ (j := 4) rfl
  replace s : St W (.blk gf [.bool ((none : Option (Nat × Nat)).isSome)] 4 :: .blk gt [.int .i64 ((fst (none : Option (Nat × Nat)) : Nat) : Int)] 3 :: .blk gd [.int .i64 ((snd (none : Option (Nat × Nat)) : Nat) : Int)] 3 :: MapT Try.prog 9 encS g1 [] :: Own 3 1 B ds.length cB (nats o) :: L) w := s
  replace s := s.at_ (j := 3) rfl
  replace s : St W (MapT Try.prog 9 encS g1 [] :: .blk gf [.bool ((none : Option (Nat × Nat)).isSome)] 4 :: .blk gt [.int .i64 ((fst (none : Option (Nat × Nat)) : Nat) : Int)] 3 :: .blk gd [.int .i64 ((snd (none : Option (Nat × Nat)) : Nat) : Int)] 3 :: Own 3 1 B ds.length cB (nats o) :: L) w := s
  replace s := s.at_ (j := 4) rfl
  replace s : St W (Own 3 1 B ds.length cB (nats o) :: MapT Try.prog 9 encS g1 [] :: .blk gf [.bool ((none : Option (Nat × Nat)).isSome)] 4 :: .blk gt [.int .i64 ((fst (none : Option (Nat × Nat)) : Nat) : Int)] 3 :: .blk gd [.int .i64 ((snd (none : Option (Nat × Nat)) : Nat) : Int)] 3 :: L) w := s
  refine wp_loopG (G := (Nat × List (List UInt8 × Value))) (fun ⟨k, D⟩ a w => Has a 50 [(0, .slice A ds.length ca), (1, .func (.func 32) #[] #[.pointer (some ⟨gf, 0, none⟩), .pointer (some ⟨gt, 0, none⟩), .pointer (some ⟨gd, 0, none⟩)]), (8, .map (some g1)), (22, .slice B ds.length cB), (23, .int .i64 ((ds.length : Nat) : Int)), (24, .int .i64 ((k : Nat) : Int))] ∧ St W (Own 3 1 B ds.length cB (nats o) :: MapT Try.prog 9 encS g1 D :: .blk gf [.bool ((first [] (things (tns ds) (o.take k))).isSome)] 4 :: .blk gt [.int .i64 ((fst (first [] (things (tns ds) (o.take k))) : Nat) : Int)] 3 :: .blk gd [.int .i64 ((snd (first [] (things (tns ds) (o.take k))) : Nat) : Int)] 3 :: L) w ∧ (k ≤ ds.length ∧ Of D (left [] (things (tns ds) (o.take k))))) (fun ⟨k, D⟩ => ds.length - k) (0, []) ?_ ?_
  · exact ⟨(Has.cons ha (by kernel_rfl) (by kernel_rfl) (Has.cons ha (by kernel_rfl) (by kernel_rfl) (Has.cons ha (by kernel_rfl) (by kernel_rfl) (Has.cons ha (by kernel_rfl) (by kernel_rfl) (Has.cons ha (by kernel_rfl) (by kernel_rfl) (Has.cons ha (by kernel_rfl) (by kernel_rfl) (Has.nil ha))))))), s, ⟨Nat.zero_le _, Of.nil⟩⟩
  · clear ha s; rintro ⟨k, D⟩ a w ⟨ha, s, hp⟩
    refine wp_seq ?_
    refine wp_region_lit ?_
    refine st_val (.bool (decide (((k : Nat) : Int) < ((ds.length : Nat) : Int)))) ha (by kernel_rfl) (by kernel_rfl) ?_
    clear ha; intro a ha
    refine wpList_nil ?_
    refine then_normal ?_
    refine wp_seq ?_
    refine wp_part (decide (((k : Nat) : Int) < ((ds.length : Nat) : Int))) ha rfl (by kernel_rfl) (fun hb => ?_) (fun hb => ?_)
    · rw [hb] at ha; replace hb : (((k : Nat) : Int) < ((ds.length : Nat) : Int)) := of_decide_eq_true hb
      have hD := hp.2
      obtain ⟨i, hi⟩ : ∃ i, o[k]? = some i := ⟨_, List.getElem?_eq_getElem (by omega)⟩
      have hil : i < ds.length := by have := ho.lt (List.mem_of_getElem? hi); simpa using this
      obtain ⟨d, hd⟩ : ∃ d, ds[i]? = some d := ⟨_, List.getElem?_eq_getElem hil⟩
      have hdl := (hn.row hd).1
      obtain ⟨ab, hB⟩ := Own.addr (s.at_ (j := 0) rfl) (by omega)
      subst hB
      obtain ⟨ad, hA⟩ := Reads.addr (hr _ s.sat.tail.tail.tail.tail.tail).1 (by omega)
      subst hA
      refine wp_skip ?_
      refine then_normal ?_
      refine wp_seq ?_
      refine wp_block ?_
      refine wp_seq ?_
      refine wp_region_lit ?_
      refine st_val (.pointer (some (ab.add (k * 1)))) ha (by kernel_rfl) (run_indexAddr' (kd := .i64) (i := ((k : Nat) : Int)) (n := ds.length) (c := cB) k rfl Try.underlying59 Try.sizeOf3 (by kernel_rfl) (by kernel_rfl) rfl (by first | assumption | omega) _) ?_
      clear ha; intro a ha
      refine st_val (.int .i64 ((i : Nat) : Int)) ha (by kernel_rfl) (run_loadRow1 (m := k) ((Own.reads (s.at_ (j := 0) rfl).1)) rfl (by kernel_rfl) Try.isAgg3 (nats_at hi)) ?_
      clear ha; intro a ha
      refine st_val (.int .i64 ((i : Nat) : Int)) ha (by kernel_rfl) (by kernel_rfl) ?_
      clear ha; intro a ha
      refine wpList_nil ?_
      refine then_normal ?_
      refine wp_seq ?_
      refine wp_region_lit ?_
      refine st_val (.slice (some ad) ds.length ca) ha (by kernel_rfl) (by kernel_rfl) ?_
      clear ha; intro a ha
      refine st_val (.int .i64 ((i : Nat) : Int)) ha (by kernel_rfl) (by kernel_rfl) ?_
      clear ha; intro a ha
      refine st_val (.pointer (some (ad.add (i * 4)))) ha (by kernel_rfl) (run_indexAddr' (kd := .i64) (i := ((i : Nat) : Int)) (n := ds.length) (c := ca) i rfl Try.underlying53 Try.sizeOf72 (by kernel_rfl) (by kernel_rfl) rfl (by first | assumption | omega) _) ?_
      clear ha; intro a ha
      refine st_val (.pointer (some (ad.add (i * 4 + 3)))) ha (by kernel_rfl) (run_fieldAddr_at (i := i * 4) (off := 3) rfl Try.underlying72 rfl Try.sizeOf70 (by kernel_rfl) _) ?_
      clear ha; intro a ha
      refine st_val (.slice d.A d.l.length d.c) ha (by kernel_rfl) (run_loadAt1 (i := i * 4 + 3) ((hr _ s.sat.tail.tail.tail.tail.tail).1) rfl (by kernel_rfl) Try.isAgg70 (by rw [nvs_at hd (by omega)]; rfl)) ?_
      clear ha; intro a ha
      refine st_val (.int .i64 ((d.l.length : Nat) : Int)) ha (by kernel_rfl) (by kernel_rfl) ?_
      clear ha; intro a ha
      refine st_val (.int .i64 0) ha (by kernel_rfl) (by kernel_rfl) ?_
      clear ha; intro a ha
      refine wpList_nil ?_
      refine then_normal ?_
      refine wp_block ?_
      rw [← upTo_zero (tns ds) o k i] at hD s
      replace s : St W (Own 3 1 (some ab) ds.length cB (nats o) :: MapT Try.prog 9 encS g1 D :: .blk gf [.bool ((first [] (upTo (tns ds) o k i 0)).isSome)] 4 :: .blk gt [.int .i64 ((fst (first [] (upTo (tns ds) o k i 0)) : Nat) : Int)] 3 :: .blk gd [.int .i64 ((snd (first [] (upTo (tns ds) o k i 0)) : Nat) : Int)] 3 :: L) w := s
      refine wp_loopG (G := (Nat × List (List UInt8 × Value))) (fun ⟨j, D2⟩ a w => Has a 50 [(0, .slice (some ad) ds.length ca), (1, .func (.func 32) #[] #[.pointer (some ⟨gf, 0, none⟩), .pointer (some ⟨gt, 0, none⟩), .pointer (some ⟨gd, 0, none⟩)]), (8, .map (some g1)), (10, .int .i64 ((i : Nat) : Int)), (22, .slice (some ab) ds.length cB), (23, .int .i64 ((ds.length : Nat) : Int)), (24, .int .i64 ((k : Nat) : Int)), (32, .slice d.A d.l.length d.c), (33, .int .i64 ((d.l.length : Nat) : Int)), (34, .int .i64 ((j : Nat) : Int))] ∧ St W (Own 3 1 (some ab) ds.length cB (nats o) :: MapT Try.prog 9 encS g1 D2 :: .blk gf [.bool ((first [] (upTo (tns ds) o k i j)).isSome)] 4 :: .blk gt [.int .i64 ((fst (first [] (upTo (tns ds) o k i j)) : Nat) : Int)] 3 :: .blk gd [.int .i64 ((snd (first [] (upTo (tns ds) o k i j)) : Nat) : Int)] 3 :: L) w ∧ (j ≤ d.l.length ∧ Of D2 (left [] (upTo (tns ds) o k i j)))) (fun ⟨j, D2⟩ => d.l.length - j) (0, D) ?_ ?_
      · exact ⟨(Has.cons ha (by kernel_rfl) (by kernel_rfl) (Has.cons ha (by kernel_rfl) (by kernel_rfl) (Has.cons ha (by kernel_rfl) (by kernel_rfl) (Has.cons ha (by kernel_rfl) (by kernel_rfl) (Has.cons ha (by kernel_rfl) (by kernel_rfl) (Has.cons ha (by kernel_rfl) (by kernel_rfl) (Has.cons ha (by kernel_rfl) (by kernel_rfl) (Has.cons ha (by kernel_rfl) (by kernel_rfl) (Has.cons ha (by kernel_rfl) (by kernel_rfl) (Has.cons ha (by kernel_rfl) (by kernel_rfl) (Has.nil ha))))))))))), s, ⟨Nat.zero_le _, hD⟩⟩
      · clear ha s; rintro ⟨j, D2⟩ a w ⟨ha, s, hp⟩
        refine wp_seq ?_
        refine wp_region_lit ?_
        refine st_val (.bool (decide (((j : Nat) : Int) < ((d.l.length : Nat) : Int)))) ha (by kernel_rfl) (by kernel_rfl) ?_
        clear ha; intro a ha
        refine wpList_nil ?_
        refine then_normal ?_
        refine wp_seq ?_
        refine wp_part (decide (((j : Nat) : Int) < ((d.l.length : Nat) : Int))) ha rfl (by kernel_rfl) (fun hb => ?_) (fun hb => ?_)
        · rw [hb] at ha; replace hb : (((j : Nat) : Int) < ((d.l.length : Nat) : Int)) := of_decide_eq_true hb
          have hD2 := hp.2
          obtain ⟨x, hx⟩ : ∃ x, d.l[j]? = some x := ⟨_, List.getElem?_eq_getElem (by omega)⟩
          obtain ⟨al, hAl⟩ : ∃ al, d.A = some al := Reads.addr ((hr _ s.sat.tail.tail.tail.tail.tail).row hd).1 (by omega)
          rw [hAl] at ha
          refine wp_skip ?_
          refine then_normal ?_
          refine wp_seq ?_
          refine wp_block ?_
          refine wp_seq ?_
          refine wp_region_lit ?_
          refine st_val (.int .i64 ((j : Nat) : Int)) ha (by kernel_rfl) (by kernel_rfl) ?_
          clear ha; intro a ha
          refine st_val (.pointer (some (al.add (j * 7)))) ha (by kernel_rfl) (run_indexAddr' (kd := .i64) (i := ((j : Nat) : Int)) (n := d.l.length) (c := d.c) j rfl Try.underlying70 Try.sizeOf74 (by kernel_rfl) (by kernel_rfl) rfl (by first | assumption | omega) _) ?_
          clear ha; intro a ha
          refine st_val (.agg #[.int .i64 x.t.op, .string (str x.t.key), .string (str x.t.val), .string (str x.t.frm), .string (str x.t.to), .bool x.t.is, .slice x.A x.t.rows.length x.c]) ha (by kernel_rfl) (run_loadAtN (i := j * 7) [.int .i64 x.t.op, .string (str x.t.key), .string (str x.t.val), .string (str x.t.frm), .string (str x.t.to), .bool x.t.is, .slice x.A x.t.rows.length x.c] ((hAl ▸ ((hr _ s.sat.tail.tail.tail.tail.tail).row hd).1)) rfl (by kernel_rfl) Try.isAgg74 Try.sizeOf74 (fun q_ hq_ => dvs_at hx hq_) rfl) ?_
          clear ha; intro a ha
          refine st_ex ha (by kernel_rfl) (ex_alloc [.int .i64 0, .string (str []), .string (str []), .string (str []), .string (str []), .bool false, .slice none 0 0] s rfl (Try.zeroValue74 _) (by kernel_rfl)) ?_
          clear ha; rintro _ w a ⟨g2, rfl, s⟩ ha
          replace s : St W (.blk g2 [.int .i64 0, .string (str []), .string (str []), .string (str []), .string (str []), .bool false, .slice none 0 0] 74 :: Own 3 1 (some ab) ds.length cB (nats o) :: MapT Try.prog 9 encS g1 D2 :: .blk gf [.bool ((first [] (upTo (tns ds) o k i j)).isSome)] 4 :: .blk gt [.int .i64 ((fst (first [] (upTo (tns ds) o k i j)) : Nat) : Int)] 3 :: .blk gd [.int .i64 ((snd (first [] (upTo (tns ds) o k i j)) : Nat) : Int)] 3 :: L) w := s
          refine st_val (.int .i64 ((j : Nat) : Int)) ha (by kernel_rfl) (by kernel_rfl) ?_
          clear ha; intro a ha
          refine st_exd ha (by kernel_rfl) (ex_store (of_ := 0) 0 [.int .i64 x.t.op, .string (str x.t.key), .string (str x.t.val), .string (str x.t.frm), .string (str x.t.to), .bool x.t.is, .slice x.A x.t.rows.length x.c] s rfl rfl (by kernel_rfl) (by kernel_rfl) (Try.sizeOf74 _) rfl (by simp [Value.oneCell']) (Nat.le_of_ble_eq_true rfl)) ?_
          clear ha; rintro w a s ha
          replace s : St W (.blk g2 [.int .i64 x.t.op, .string (str x.t.key), .string (str x.t.val), .string (str x.t.frm), .string (str x.t.to), .bool x.t.is, .slice x.A x.t.rows.length x.c] 74 :: Own 3 1 (some ab) ds.length cB (nats o) :: MapT Try.prog 9 encS g1 D2 :: .blk gf [.bool ((first [] (upTo (tns ds) o k i j)).isSome)] 4 :: .blk gt [.int .i64 ((fst (first [] (upTo (tns ds) o k i j)) : Nat) : Int)] 3 :: .blk gd [.int .i64 ((snd (first [] (upTo (tns ds) o k i j)) : Nat) : Int)] 3 :: L) w := s
          refine wpList_nil ?_
          refine then_normal ?_
          refine wp_seq ?_
          refine wp_region_lit ?_
          refine st_val (.map (some g1)) ha (by kernel_rfl) (by kernel_rfl) ?_
          clear ha; intro a ha
          refine st_val (.agg #[.int .i64 x.t.op, .string (str x.t.key), .string (str x.t.val), .string (str x.t.frm), .string (str x.t.to), .bool x.t.is, .slice x.A x.t.rows.length x.c]) ha (by kernel_rfl) (run_loadN (of_ := 0) [.int .i64 x.t.op, .string (str x.t.key), .string (str x.t.val), .string (str x.t.frm), .string (str x.t.to), .bool x.t.is, .slice x.A x.t.rows.length x.c] (s.blkIs 0 rfl) rfl (by kernel_rfl) Try.isAgg74 Try.sizeOf74 rfl (Nat.le_of_ble_eq_true rfl)) ?_
          clear ha; intro a ha
          replace s := s.at_ (j := 2) rfl
          replace s : St W (MapT Try.prog 9 encS g1 D2 :: .blk g2 [.int .i64 x.t.op, .string (str x.t.key), .string (str x.t.val), .string (str x.t.frm), .string (str x.t.to), .bool x.t.is, .slice x.A x.t.rows.length x.c] 74 :: Own 3 1 (some ab) ds.length cB (nats o) :: .blk gf [.bool ((first [] (upTo (tns ds) o k i j)).isSome)] 4 :: .blk gt [.int .i64 ((fst (first [] (upTo (tns ds) o k i j)) : Nat) : Int)] 3 :: .blk gd [.int .i64 ((snd (first [] (upTo (tns ds) o k i j)) : Nat) : Int)] 3 :: L) w := s
          refine st_call ha (by kernel_rfl) (by kernel_rfl) (do_any W hW _ w g1 D2 (left [] (upTo (tns ds) o k i j)) hD2 (run_left_le ho hpost.2.2.2 hi) x (fun w s => ((hr _ s.tail.tail.tail.tail.tail).row hd).row hx) (((hn.row hd).row hx).1) (((hn.row hd).row hx).2) s) ?_
          rintro _ w ⟨D3, rfl, hD3, s⟩
          replace s : St W (MapT Try.prog 9 encS g1 D3 :: .blk g2 [.int .i64 x.t.op, .string (str x.t.key), .string (str x.t.val), .string (str x.t.frm), .string (str x.t.to), .bool x.t.is, .slice x.A x.t.rows.length x.c] 74 :: Own 3 1 (some ab) ds.length cB (nats o) :: .blk gf [.bool ((first [] (upTo (tns ds) o k i j)).isSome)] 4 :: .blk gt [.int .i64 ((fst (first [] (upTo (tns ds) o k i j)) : Nat) : Int)] 3 :: .blk gd [.int .i64 ((snd (first [] (upTo (tns ds) o k i j)) : Nat) : Int)] 3 :: L) w := s
          refine ⟨_, rfl, ?_⟩; clear ha; intro a ha
          refine st_val (.bool (!(isWell (left [] (upTo (tns ds) o k i j)) x.t))) ha (by kernel_rfl) (by kernel_rfl) ?_
          clear ha; intro a ha
          refine wpList_nil ?_
          refine then_normal ?_
          refine wp_part (!(isWell (left [] (upTo (tns ds) o k i j)) x.t)) ha rfl (by kernel_rfl) (fun hb => ?_) (fun hb => ?_)
          · rw [hb] at ha; skip
            have hwl : isWell (left [] (upTo (tns ds) o k i j)) x.t = false := by simpa using hb
            refine wp_region_lit ?_
            refine st_val (.func (.func 32) #[] #[.pointer (some ⟨gf, 0, none⟩), .pointer (some ⟨gt, 0, none⟩), .pointer (some ⟨gd, 0, none⟩)]) ha (by kernel_rfl) (by kernel_rfl) ?_
            clear ha; intro a ha
            refine st_val (.int .i64 ((i : Nat) : Int)) ha (by kernel_rfl) (by kernel_rfl) ?_
            clear ha; intro a ha
            refine st_val (.int .i64 ((j : Nat) : Int)) ha (by kernel_rfl) (by kernel_rfl) ?_
            clear ha; intro a ha
            replace s := s.at_ (j := 5) rfl
            replace s : St W (.blk gd [.int .i64 ((snd (first [] (upTo (tns ds) o k i j)) : Nat) : Int)] 3 :: MapT Try.prog 9 encS g1 D3 :: .blk g2 [.int .i64 x.t.op, .string (str x.t.key), .string (str x.t.val), .string (str x.t.frm), .string (str x.t.to), .bool x.t.is, .slice x.A x.t.rows.length x.c] 74 :: Own 3 1 (some ab) ds.length cB (nats o) :: .blk gf [.bool ((first [] (upTo (tns ds) o k i j)).isSome)] 4 :: .blk gt [.int .i64 ((fst (first [] (upTo (tns ds) o k i j)) : Nat) : Int)] 3 :: L) w := s
            replace s := s.at_ (j := 5) rfl
            replace s : St W (.blk gt [.int .i64 ((fst (first [] (upTo (tns ds) o k i j)) : Nat) : Int)] 3 :: .blk gd [.int .i64 ((snd (first [] (upTo (tns ds) o k i j)) : Nat) : Int)] 3 :: MapT Try.prog 9 encS g1 D3 :: .blk g2 [.int .i64 x.t.op, .string (str x.t.key), .string (str x.t.val), .string (str x.t.frm), .string (str x.t.to), .bool x.t.is, .slice x.A x.t.rows.length x.c] 74 :: Own 3 1 (some ab) ds.length cB (nats o) :: .blk gf [.bool ((first [] (upTo (tns ds) o k i j)).isSome)] 4 :: L) w := s
            replace s := s.at_ (j := 5) rfl
            replace s : St W (.blk gf [.bool ((first [] (upTo (tns ds) o k i j)).isSome)] 4 :: .blk gt [.int .i64 ((fst (first [] (upTo (tns ds) o k i j)) : Nat) : Int)] 3 :: .blk gd [.int .i64 ((snd (first [] (upTo (tns ds) o k i j)) : Nat) : Int)] 3 :: MapT Try.prog 9 encS g1 D3 :: .blk g2 [.int .i64 x.t.op, .string (str x.t.key), .string (str x.t.val), .string (str x.t.frm), .string (str x.t.to), .bool x.t.is, .slice x.A x.t.rows.length x.c] 74 :: Own 3 1 (some ab) ds.length cB (nats o) :: L) w := s
            refine st_call ha (by kernel_rfl) (by kernel_rfl) (look_any W _ w gf gt gd (first [] (upTo (tns ds) o k i j)) i j s) ?_
            rintro _ w ⟨rfl, s⟩
            replace s : St W (.blk gf [.bool (((first [] (upTo (tns ds) o k i j)).or (some (i, j))).isSome)] 4 :: .blk gt [.int .i64 ((fst ((first [] (upTo (tns ds) o k i j)).or (some (i, j))) : Nat) : Int)] 3 :: .blk gd [.int .i64 ((snd ((first [] (upTo (tns ds) o k i j)).or (some (i, j))) : Nat) : Int)] 3 :: MapT Try.prog 9 encS g1 D3 :: .blk g2 [.int .i64 x.t.op, .string (str x.t.key), .string (str x.t.val), .string (str x.t.frm), .string (str x.t.to), .bool x.t.is, .slice x.A x.t.rows.length x.c] 74 :: Own 3 1 (some ab) ds.length cB (nats o) :: L) w := s
            refine ⟨_, rfl, ?_⟩; clear ha; intro a ha
            refine wpList_nil ?_
            refine block_normal ?_
            refine then_normal ?_
            refine wp_region_lit ?_
            refine st_val (.int .i64 ((j + 1 : Nat) : Int)) ha (by kernel_rfl) (run_arith (((j : Nat) : Int) + (1 : Int)) ((j + 1 : Nat) : Int) rfl (by kernel_rfl) (by kernel_rfl) (.inl ⟨rfl, rfl⟩) (by rw [wrap64_in (by omega)]; try omega) _) ?_
            clear ha; intro a ha
            refine st_val (.int .i64 ((j + 1 : Nat) : Int)) ha (by kernel_rfl) (by kernel_rfl) ?_
            clear ha; intro a ha
            refine wpList_nil ?_
            refine then_normal ?_
            replace s := s.at_ (j := 2) rfl
            replace s : St W (.blk gd [.int .i64 ((snd ((first [] (upTo (tns ds) o k i j)).or (some (i, j))) : Nat) : Int)] 3 :: .blk gf [.bool (((first [] (upTo (tns ds) o k i j)).or (some (i, j))).isSome)] 4 :: .blk gt [.int .i64 ((fst ((first [] (upTo (tns ds) o k i j)).or (some (i, j))) : Nat) : Int)] 3 :: MapT Try.prog 9 encS g1 D3 :: .blk g2 [.int .i64 x.t.op, .string (str x.t.key), .string (str x.t.val), .string (str x.t.frm), .string (str x.t.to), .bool x.t.is, .slice x.A x.t.rows.length x.c] 74 :: Own 3 1 (some ab) ds.length cB (nats o) :: L) w := s
            replace s := s.at_ (j := 2) rfl
            replace s : St W (.blk gt [.int .i64 ((fst ((first [] (upTo (tns ds) o k i j)).or (some (i, j))) : Nat) : Int)] 3 :: .blk gd [.int .i64 ((snd ((first [] (upTo (tns ds) o k i j)).or (some (i, j))) : Nat) : Int)] 3 :: .blk gf [.bool (((first [] (upTo (tns ds) o k i j)).or (some (i, j))).isSome)] 4 :: MapT Try.prog 9 encS g1 D3 :: .blk g2 [.int .i64 x.t.op, .string (str x.t.key), .string (str x.t.val), .string (str x.t.frm), .string (str x.t.to), .bool x.t.is, .slice x.A x.t.rows.length x.c] 74 :: Own 3 1 (some ab) ds.length cB (nats o) :: L) w := s
            replace s := s.at_ (j := 2) rfl
            replace s : St W (.blk gf [.bool (((first [] (upTo (tns ds) o k i j)).or (some (i, j))).isSome)] 4 :: .blk gt [.int .i64 ((fst ((first [] (upTo (tns ds) o k i j)).or (some (i, j))) : Nat) : Int)] 3 :: .blk gd [.int .i64 ((snd ((first [] (upTo (tns ds) o k i j)).or (some (i, j))) : Nat) : Int)] 3 :: MapT Try.prog 9 encS g1 D3 :: .blk g2 [.int .i64 x.t.op, .string (str x.t.key), .string (str x.t.val), .string (str x.t.frm), .string (str x.t.to), .bool x.t.is, .slice x.A x.t.rows.length x.c] 74 :: Own 3 1 (some ab) ds.length cB (nats o) :: L) w := s
            replace s := s.at_ (j := 3) rfl
            replace s : St W (MapT Try.prog 9 encS g1 D3 :: .blk gf [.bool (((first [] (upTo (tns ds) o k i j)).or (some (i, j))).isSome)] 4 :: .blk gt [.int .i64 ((fst ((first [] (upTo (tns ds) o k i j)).or (some (i, j))) : Nat) : Int)] 3 :: .blk gd [.int .i64 ((snd ((first [] (upTo (tns ds) o k i j)).or (some (i, j))) : Nat) : Int)] 3 :: .blk g2 [.int .i64 x.t.op, .string (str x.t.key), .string (str x.t.val), .string (str x.t.frm), .string (str x.t.to), .bool x.t.is, .slice x.A x.t.rows.length x.c] 74 :: Own 3 1 (some ab) ds.length cB (nats o) :: L) w := s
            replace s := s.at_ (j := 5) rfl
            replace s : St W (Own 3 1 (some ab) ds.length cB (nats o) :: MapT Try.prog 9 encS g1 D3 :: .blk gf [.bool (((first [] (upTo (tns ds) o k i j)).or (some (i, j))).isSome)] 4 :: .blk gt [.int .i64 ((fst ((first [] (upTo (tns ds) o k i j)).or (some (i, j))) : Nat) : Int)] 3 :: .blk gd [.int .i64 ((snd ((first [] (upTo (tns ds) o k i j)).or (some (i, j))) : Nat) : Int)] 3 :: .blk g2 [.int .i64 x.t.op, .string (str x.t.key), .string (str x.t.val), .string (str x.t.frm), .string (str x.t.to), .bool x.t.is, .slice x.A x.t.rows.length x.c] 74 :: L) w := s
            replace s : St W (Own 3 1 (some ab) ds.length cB (nats o) :: MapT Try.prog 9 encS g1 D3 :: .blk gf [.bool (((first [] (upTo (tns ds) o k i j)).or (some (i, j))).isSome)] 4 :: .blk gt [.int .i64 ((fst ((first [] (upTo (tns ds) o k i j)).or (some (i, j))) : Nat) : Int)] 3 :: .blk gd [.int .i64 ((snd ((first [] (upTo (tns ds) o k i j)).or (some (i, j))) : Nat) : Int)] 3 :: L) w := St.mid (A := [Own 3 1 (some ab) ds.length cB (nats o), MapT Try.prog 9 encS g1 D3, .blk gf [.bool (((first [] (upTo (tns ds) o k i j)).or (some (i, j))).isSome)] 4, .blk gt [.int .i64 ((fst ((first [] (upTo (tns ds) o k i j)).or (some (i, j))) : Nat) : Int)] 3, .blk gd [.int .i64 ((snd ((first [] (upTo (tns ds) o k i j)).or (some (i, j))) : Nat) : Int)] 3]) (B := [.blk g2 [.int .i64 x.t.op, .string (str x.t.key), .string (str x.t.val), .string (str x.t.frm), .string (str x.t.to), .bool x.t.is, .slice x.A x.t.rows.length x.c] 74]) s
            have hsn := upTo_snoc (o := o) (k := k) (tl_at hd hx)
            have hfs : first [] (upTo (tns ds) o k i (j + 1)) = (first [] (upTo (tns ds) o k i j)).or (some (i, j)) := by rw [hsn, first_snoc]; simp only [hwl]; rfl
            rw [← hfs] at s
            exact ⟨(j + 1, D3), (show d.l.length - (j + 1) < d.l.length - j by omega), (Has.cons ha (by kernel_rfl) (by kernel_rfl) (Has.cons ha (by kernel_rfl) (by kernel_rfl) (Has.cons ha (by kernel_rfl) (by kernel_rfl) (Has.cons ha (by kernel_rfl) (by kernel_rfl) (Has.cons ha (by kernel_rfl) (by kernel_rfl) (Has.cons ha (by kernel_rfl) (by kernel_rfl) (Has.cons ha (by kernel_rfl) (by kernel_rfl) (Has.cons ha (by kernel_rfl) (by rw [hAl]; kernel_rfl) (Has.cons ha (by kernel_rfl) (by kernel_rfl) (Has.cons ha (by kernel_rfl) (by kernel_rfl) (Has.nil ha))))))))))), s, (show j + 1 ≤ d.l.length by omega), by rw [hsn, left_snoc]; exact hD3⟩
          · rw [hb] at ha; skip
            have hwl : isWell (left [] (upTo (tns ds) o k i j)) x.t = true := by simpa using hb
            refine wp_skip ?_
            refine block_normal ?_
            refine then_normal ?_
            refine wp_region_lit ?_
            refine st_val (.int .i64 ((j + 1 : Nat) : Int)) ha (by kernel_rfl) (run_arith (((j : Nat) : Int) + (1 : Int)) ((j + 1 : Nat) : Int) rfl (by kernel_rfl) (by kernel_rfl) (.inl ⟨rfl, rfl⟩) (by rw [wrap64_in (by omega)]; try omega) _) ?_
            clear ha; intro a ha
            refine st_val (.int .i64 ((j + 1 : Nat) : Int)) ha (by kernel_rfl) (by kernel_rfl) ?_
            clear ha; intro a ha
            refine wpList_nil ?_
            refine then_normal ?_
            replace s := s.at_ (j := 5) rfl
            replace s : St W (.blk gd [.int .i64 ((snd (first [] (upTo (tns ds) o k i j)) : Nat) : Int)] 3 :: MapT Try.prog 9 encS g1 D3 :: .blk g2 [.int .i64 x.t.op, .string (str x.t.key), .string (str x.t.val), .string (str x.t.frm), .string (str x.t.to), .bool x.t.is, .slice x.A x.t.rows.length x.c] 74 :: Own 3 1 (some ab) ds.length cB (nats o) :: .blk gf [.bool ((first [] (upTo (tns ds) o k i j)).isSome)] 4 :: .blk gt [.int .i64 ((fst (first [] (upTo (tns ds) o k i j)) : Nat) : Int)] 3 :: L) w := s
            replace s := s.at_ (j := 5) rfl
            replace s : St W (.blk gt [.int .i64 ((fst (first [] (upTo (tns ds) o k i j)) : Nat) : Int)] 3 :: .blk gd [.int .i64 ((snd (first [] (upTo (tns ds) o k i j)) : Nat) : Int)] 3 :: MapT Try.prog 9 encS g1 D3 :: .blk g2 [.int .i64 x.t.op, .string (str x.t.key), .string (str x.t.val), .string (str x.t.frm), .string (str x.t.to), .bool x.t.is, .slice x.A x.t.rows.length x.c] 74 :: Own 3 1 (some ab) ds.length cB (nats o) :: .blk gf [.bool ((first [] (upTo (tns ds) o k i j)).isSome)] 4 :: L) w := s
            replace s := s.at_ (j := 5) rfl
            replace s : St W (.blk gf [.bool ((first [] (upTo (tns ds) o k i j)).isSome)] 4 :: .blk gt [.int .i64 ((fst (first [] (upTo (tns ds) o k i j)) : Nat) : Int)] 3 :: .blk gd [.int .i64 ((snd (first [] (upTo (tns ds) o k i j)) : Nat) : Int)] 3 :: MapT Try.prog 9 encS g1 D3 :: .blk g2 [.int .i64 x.t.op, .string (str x.t.key), .string (str x.t.val), .string (str x.t.frm), .string (str x.t.to), .bool x.t.is, .slice x.A x.t.rows.length x.c] 74 :: Own 3 1 (some ab) ds.length cB (nats o) :: L) w := s
            replace s := s.at_ (j := 3) rfl
            replace s : St W (MapT Try.prog 9 encS g1 D3 :: .blk gf [.bool ((first [] (upTo (tns ds) o k i j)).isSome)] 4 :: .blk gt [.int .i64 ((fst (first [] (upTo (tns ds) o k i j)) : Nat) : Int)] 3 :: .blk gd [.int .i64 ((snd (first [] (upTo (tns ds) o k i j)) : Nat) : Int)] 3 :: .blk g2 [.int .i64 x.t.op, .string (str x.t.key), .string (str x.t.val), .string (str x.t.frm), .string (str x.t.to), .bool x.t.is, .slice x.A x.t.rows.length x.c] 74 :: Own 3 1 (some ab) ds.length cB (nats o) :: L) w := s
            replace s := s.at_ (j := 5) rfl
            replace s : St W (Own 3 1 (some ab) ds.length cB (nats o) :: MapT Try.prog 9 encS g1 D3 :: .blk gf [.bool ((first [] (upTo (tns ds) o k i j)).isSome)] 4 :: .blk gt [.int .i64 ((fst (first [] (upTo (tns ds) o k i j)) : Nat) : Int)] 3 :: .blk gd [.int .i64 ((snd (first [] (upTo (tns ds) o k i j)) : Nat) : Int)] 3 :: .blk g2 [.int .i64 x.t.op, .string (str x.t.key), .string (str x.t.val), .string (str x.t.frm), .string (str x.t.to), .bool x.t.is, .slice x.A x.t.rows.length x.c] 74 :: L) w := s
            replace s : St W (Own 3 1 (some ab) ds.length cB (nats o) :: MapT Try.prog 9 encS g1 D3 :: .blk gf [.bool ((first [] (upTo (tns ds) o k i j)).isSome)] 4 :: .blk gt [.int .i64 ((fst (first [] (upTo (tns ds) o k i j)) : Nat) : Int)] 3 :: .blk gd [.int .i64 ((snd (first [] (upTo (tns ds) o k i j)) : Nat) : Int)] 3 :: L) w := St.mid (A := [Own 3 1 (some ab) ds.length cB (nats o), MapT Try.prog 9 encS g1 D3, .blk gf [.bool ((first [] (upTo (tns ds) o k i j)).isSome)] 4, .blk gt [.int .i64 ((fst (first [] (upTo (tns ds) o k i j)) : Nat) : Int)] 3, .blk gd [.int .i64 ((snd (first [] (upTo (tns ds) o k i j)) : Nat) : Int)] 3]) (B := [.blk g2 [.int .i64 x.t.op, .string (str x.t.key), .string (str x.t.val), .string (str x.t.frm), .string (str x.t.to), .bool x.t.is, .slice x.A x.t.rows.length x.c] 74]) s
            have hsn := upTo_snoc (o := o) (k := k) (tl_at hd hx)
            have hfs : first [] (upTo (tns ds) o k i (j + 1)) = first [] (upTo (tns ds) o k i j) := by rw [hsn, first_snoc]; simp only [hwl]; simp
            rw [← hfs] at s
            exact ⟨(j + 1, D3), (show d.l.length - (j + 1) < d.l.length - j by omega), (Has.cons ha (by kernel_rfl) (by kernel_rfl) (Has.cons ha (by kernel_rfl) (by kernel_rfl) (Has.cons ha (by kernel_rfl) (by kernel_rfl) (Has.cons ha (by kernel_rfl) (by kernel_rfl) (Has.cons ha (by kernel_rfl) (by kernel_rfl) (Has.cons ha (by kernel_rfl) (by kernel_rfl) (Has.cons ha (by kernel_rfl) (by kernel_rfl) (Has.cons ha (by kernel_rfl) (by rw [hAl]; kernel_rfl) (Has.cons ha (by kernel_rfl) (by kernel_rfl) (Has.cons ha (by kernel_rfl) (by kernel_rfl) (Has.nil ha))))))))))), s, (show j + 1 ≤ d.l.length by omega), by rw [hsn, left_snoc]; exact hD3⟩
        · rw [hb] at ha; replace hb : ¬ (((j : Nat) : Int) < ((d.l.length : Nat) : Int)) := of_decide_eq_false hb
          have hD2 := hp.2
          refine wp_exit ?_
          refine then_exit ?_
          refine then_exit ?_
          refine block_hit ?_
          refine block_normal ?_
          refine then_normal ?_
          refine wp_region_lit ?_
          refine st_val (.int .i64 ((k + 1 : Nat) : Int)) ha (by kernel_rfl) (run_arith (((k : Nat) : Int) + (1 : Int)) ((k + 1 : Nat) : Int) rfl (by kernel_rfl) (by kernel_rfl) (.inl ⟨rfl, rfl⟩) (by rw [wrap64_in (by omega)]; try omega) _) ?_
          clear ha; intro a ha
          refine st_val (.int .i64 ((k + 1 : Nat) : Int)) ha (by kernel_rfl) (by kernel_rfl) ?_
          clear ha; intro a ha
          refine wpList_nil ?_
          refine then_normal ?_
          have hjl : j = d.l.length := by omega
          rw [hjl, ← tl_len hd, upTo_all hi] at hD2 s
          exact ⟨(k + 1, D2), (show ds.length - (k + 1) < ds.length - k by omega), (Has.cons ha (by kernel_rfl) (by kernel_rfl) (Has.cons ha (by kernel_rfl) (by kernel_rfl) (Has.cons ha (by kernel_rfl) (by kernel_rfl) (Has.cons ha (by kernel_rfl) (by kernel_rfl) (Has.cons ha (by kernel_rfl) (by kernel_rfl) (Has.cons ha (by kernel_rfl) (by kernel_rfl) (Has.nil ha))))))), s, (show k + 1 ≤ ds.length by omega), hD2⟩
    · rw [hb] at ha; replace hb : ¬ (((k : Nat) : Int) < ((ds.length : Nat) : Int)) := of_decide_eq_false hb
      have hk : k = ds.length := by omega
      have hD := hp.2
      refine wp_exit ?_
      refine then_exit ?_
      refine then_exit ?_
      refine block_hit ?_
      refine then_normal ?_
      refine wp_seq ?_
      refine wp_region_lit ?_
      refine st_val (.map (some g1)) ha (by kernel_rfl) (by kernel_rfl) ?_
      clear ha; intro a ha
      refine st_val (.map (some g1)) ha (by kernel_rfl) (by kernel_rfl) ?_
      clear ha; intro a ha
      refine st_val (.int .i64 0) ha (by kernel_rfl) (by kernel_rfl) ?_
      clear ha; intro a ha
      refine wpList_nil ?_
      refine then_normal ?_
      refine wp_ret ?_
      refine ret_with (v := .tuple #[.map (some g1), .int .i64 0]) ha (results_2 rfl ha (res_tmp (by kernel_rfl) (by kernel_rfl)) (res_tmp (by kernel_rfl) (by kernel_rfl))) ?_
      replace s := s.at_ (j := 4) rfl
      replace s : St W (.blk gd [.int .i64 ((snd (first [] (things (tns ds) (o.take k))) : Nat) : Int)] 3 :: Own 3 1 B ds.length cB (nats o) :: MapT Try.prog 9 encS g1 D :: .blk gf [.bool ((first [] (things (tns ds) (o.take k))).isSome)] 4 :: .blk gt [.int .i64 ((fst (first [] (things (tns ds) (o.take k))) : Nat) : Int)] 3 :: L) w := s
      replace s := s.at_ (j := 4) rfl
      replace s : St W (.blk gt [.int .i64 ((fst (first [] (things (tns ds) (o.take k))) : Nat) : Int)] 3 :: .blk gd [.int .i64 ((snd (first [] (things (tns ds) (o.take k))) : Nat) : Int)] 3 :: Own 3 1 B ds.length cB (nats o) :: MapT Try.prog 9 encS g1 D :: .blk gf [.bool ((first [] (things (tns ds) (o.take k))).isSome)] 4 :: L) w := s
      replace s := s.at_ (j := 4) rfl
      replace s : St W (.blk gf [.bool ((first [] (things (tns ds) (o.take k))).isSome)] 4 :: .blk gt [.int .i64 ((fst (first [] (things (tns ds) (o.take k))) : Nat) : Int)] 3 :: .blk gd [.int .i64 ((snd (first [] (things (tns ds) (o.take k))) : Nat) : Int)] 3 :: Own 3 1 B ds.length cB (nats o) :: MapT Try.prog 9 encS g1 D :: L) w := s
      replace s := s.at_ (j := 4) rfl
      replace s : St W (MapT Try.prog 9 encS g1 D :: .blk gf [.bool ((first [] (things (tns ds) (o.take k))).isSome)] 4 :: .blk gt [.int .i64 ((fst (first [] (things (tns ds) (o.take k))) : Nat) : Int)] 3 :: .blk gd [.int .i64 ((snd (first [] (things (tns ds) (o.take k))) : Nat) : Int)] 3 :: Own 3 1 B ds.length cB (nats o) :: L) w := s
      replace s : St W (MapT Try.prog 9 encS g1 D :: .blk gf [.bool ((first [] (things (tns ds) (o.take k))).isSome)] 4 :: .blk gt [.int .i64 ((fst (first [] (things (tns ds) (o.take k))) : Nat) : Int)] 3 :: .blk gd [.int .i64 ((snd (first [] (things (tns ds) (o.take k))) : Nat) : Int)] 3 :: L) w := St.mid (A := [MapT Try.prog 9 encS g1 D, .blk gf [.bool ((first [] (things (tns ds) (o.take k))).isSome)] 4, .blk gt [.int .i64 ((fst (first [] (things (tns ds) (o.take k))) : Nat) : Int)] 3, .blk gd [.int .i64 ((snd (first [] (things (tns ds) (o.take k))) : Nat) : Int)] 3]) (B := [Own 3 1 B ds.length cB (nats o)]) s
      rw [hk, ← hol, List.take_length] at hD s
      exact ⟨_, _, o, rfl, ho, hD, s⟩

set_option maxRecDepth 100000 in
set_option maxHeartbeats 2000000 in
theorem play_chk_no (W : World) (hW : W.drawn = 0) (L : List Chunk) (w : World) (A : Option Addr) (ca : Nat) (ds : List Dn) (hr : Knows L (DonesIn A ds)) (hn : Bn ds) (gf gt gd : Nat) (h0 : code (tns ds) ≠ 0) (s : St W (.blk gf [.bool ((none : Option (Nat × Nat)).isSome)] 4 :: .blk gt [.int .i64 ((fst (none : Option (Nat × Nat)) : Nat) : Int)] 3 :: .blk gd [.int .i64 ((snd (none : Option (Nat × Nat)) : Nat) : Int)] 3 :: L) w) :
    Calls Try.prog 31 #[.slice A ds.length ca, .func (.func 32) #[] #[.pointer (some ⟨gf, 0, none⟩), .pointer (some ⟨gt, 0, none⟩), .pointer (some ⟨gd, 0, none⟩)]] w fun e w' => e = .returned (.tuple #[.map none, .int .i64 (code (tns ds))]) ∧ St W (.blk gf [.bool ((none : Option (Nat × Nat)).isSome)] 4 :: .blk gt [.int .i64 ((fst (none : Option (Nat × Nat)) : Nat) : Int)] 3 :: .blk gd [.int .i64 ((snd (none : Option (Nat × Nat)) : Nat) : Int)] 3 :: L) w' := by
  refine enter_args (l := [.slice A ds.length ca, .func (.func 32) #[] #[.pointer (some ⟨gf, 0, none⟩), .pointer (some ⟨gt, 0, none⟩), .pointer (some ⟨gd, 0, none⟩)]]) Try.func31 rfl rfl (Nat.le_of_ble_eq_true rfl) ?_
  intro a ha; replace ha : Has a 50 [(0, .slice A ds.length ca), (1, .func (.func 32) #[] #[.pointer (some ⟨gf, 0, none⟩), .pointer (some ⟨gt, 0, none⟩), .pointer (some ⟨gd, 0, none⟩)])] := ha
  refine wp_seq ?_
  refine wp_region_lit ?_
  refine st_val (.map none) ha (by kernel_rfl) (by kernel_rfl) ?_
  clear ha; intro a ha
  refine st_val (.int .i64 0) ha (by kernel_rfl) (by kernel_rfl) ?_
  clear ha; intro a ha
  refine wpList_nil ?_
  refine then_normal ?_
  refine wp_seq ?_
  refine wp_region_lit ?_
  refine st_val (.slice A ds.length ca) ha (by kernel_rfl) (by kernel_rfl) ?_
  clear ha; intro a ha
  refine st_call ha (by kernel_rfl) (by kernel_rfl) (order_no W _ w A ca ds (fun w s => hr w s.tail.tail.tail) hn h0 s) ?_
  rintro _ w ⟨rfl, s⟩
  replace s : St W (.blk gf [.bool ((none : Option (Nat × Nat)).isSome)] 4 :: .blk gt [.int .i64 ((fst (none : Option (Nat × Nat)) : Nat) : Int)] 3 :: .blk gd [.int .i64 ((snd (none : Option (Nat × Nat)) : Nat) : Int)] 3 :: L) w := s
  refine ⟨_, rfl, ?_⟩; clear ha; intro a ha
  refine st_val (.tuple #[.slice none 0 0, .int .i64 (code (tns ds))]) ha (by kernel_rfl) (by kernel_rfl) ?_
  clear ha; intro a ha
  refine st_val (.slice none 0 0) ha (by kernel_rfl) (by kernel_rfl) ?_
  clear ha; intro a ha
  refine st_val (.int .i64 (code (tns ds))) ha (by kernel_rfl) (by kernel_rfl) ?_
  clear ha; intro a ha
  refine st_val (.slice none 0 0) ha (by kernel_rfl) (by kernel_rfl) ?_
  clear ha; intro a ha
  refine st_val (.int .i64 (code (tns ds))) ha (by kernel_rfl) (by kernel_rfl) ?_
  clear ha; intro a ha
  refine wpList_nil ?_
  refine then_normal ?_
  refine wp_seq ?_
  refine wp_seq ?_
  refine wp_region_lit ?_
  refine st_val (.int .i64 (code (tns ds))) ha (by kernel_rfl) (by kernel_rfl) ?_
  clear ha; intro a ha
  refine st_val (.bool true) ha (by kernel_rfl) (run_known (show ((code (tns ds)) != (0 : Int)) = true from bne_iff_ne.2 (by omega)) (by kernel_rfl)) ?_
  clear ha; intro a ha
  refine wpList_nil ?_
  refine then_normal ?_
  refine wp_true ha rfl (by kernel_rfl) ?_
  refine wp_seq ?_
  refine wp_region_lit ?_
  refine st_val (.int .i64 (code (tns ds))) ha (by kernel_rfl) (by kernel_rfl) ?_
  clear ha; intro a ha
  refine st_val (.map none) ha (by kernel_rfl) (by kernel_rfl) ?_
  clear ha; intro a ha
  refine st_val (.int .i64 (code (tns ds))) ha (by kernel_rfl) (by kernel_rfl) ?_
  clear ha; intro a ha
  refine wpList_nil ?_
  refine then_normal ?_
  refine wp_ret ?_
  refine then_ret ?_
  refine ret_with (v := .tuple #[.map none, .int .i64 (code (tns ds))]) ha (results_2 rfl ha (res_tmp (by kernel_rfl) (by kernel_rfl)) (res_tmp (by kernel_rfl) (by kernel_rfl))) ?_
  exact ⟨rfl, s⟩

end Go.Proofs.Ytfcbjcohepkkfaa.B
