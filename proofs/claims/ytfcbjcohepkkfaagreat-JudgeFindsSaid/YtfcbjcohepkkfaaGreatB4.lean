import Derived.Test.YtfcbjcohepkkfaaGreatB3
import Derived.Test.YtfcbjcohepkkfaaGreatSepY
namespace Go.Proofs.YtfcbjcohepkkfaaGreat.B
open Go.RowKit Go.Maps Go.Sort Go.Shelf Go.Proofs.YtfcbjcohepkkfaaGreat.Sep Go.Proofs.YtfcbjcohepkkfaaGreat.P
set_option linter.unusedVariables false
set_option linter.unusedSimpArgs false
theorem order_post {ds : List Dn} (h : code (tns ds) = 0) : ds.length ≤ 1000 ∧ (ids (tns ds)).Nodup ∧ okL (tns ds) ∧ many (tns ds) ≤ 10000 := by
 obtain ⟨⟨h1, h2⟩, h3⟩ := code_zero.1 h
 exact ⟨by simpa using h1, h3.2, h3, h2⟩
/-! ### keys that are texts, sorted -/
theorem keyed9 : Keyed Tryz.prog 9 := string_keyed Tryz.underlying9
theorem key9 {x : List UInt8} (h : x.length ≤ 140737488351232) : keyOf Tryz.prog 9 (encS x) = some (.string x) := by
 have hs : (str x).size ≤ maxLen := by rw [str_size]; simp only [maxLen]; omega
 simp only [keyOf, Tryz.underlying9, encS, mapKey]
 rw [if_pos hs]
 rfl
theorem kl_str {x : List UInt8} (h : ∃ l, keyOf Tryz.prog 9 (encS x) = some l) : strOf (kl Tryz.prog 9 (encS x)) = x := by
 obtain ⟨l, hl⟩ := h
 rw [kl, hl, Option.getD_some]
 simp only [keyOf, Tryz.underlying9, encS, mapKey] at hl
 split at hl
 ·
  cases hl; rfl
 cases hl
theorem MapIs.strs {g : Nat} {D : List (List UInt8 × Value)} {w : World} (h : MapIs Tryz.prog 9 encS g D w) :
  ∃ D0, w.ownsMap Tryz.prog 9 blind g D.length D0 ∧ Maps.size D0 = D.length ∧ (strKeys D0).Perm (D.map (·.1)) := by
 obtain ⟨D0, h1, h2, es, rfl, h3⟩ := h.owns
 refine ⟨_, h1, h2, ?_⟩
 have := h3.map strOf
 rw [List.map_map] at this
 refine this.trans (List.Perm.of_eq ?_)
 rw [List.map_map]
 exact List.map_congr_left fun p hp => kl_str (h.keyed p hp)
abbrev strs (l : List (List UInt8)) : List Value := l.map encS
theorem strs_at {l : List (List UInt8)} {i : Nat} {x : List UInt8} (h : l[i]? = some x) : (strs l)[i]? = some (.string (str x)) := by simp [strs, h, encS]
/-! ### a map that has rows -/
def rvA (r : Rw) : Value := .agg #[.string (str r.key), .string (str r.val)]
abbrev kvs (R : List Rw) : List (List UInt8 × Value) := R.map fun r => (r.key, rvA r)
/-- The map has just these rows, which rise. -/
def Of (D : List (List UInt8 × Value)) (R : List Rw) : Prop := D.Perm (kvs R) ∧ Up R ∧ ∀ r ∈ R, r.key.length ≤ 140737488351232
theorem Of.nil : Of [] [] := ⟨List.Perm.refl _, List.Pairwise.nil, by simp⟩
abbrev kys (R : List Rw) : List (List UInt8) := R.map (·.key)
theorem up_nodup {R : List Rw} (h : Up R) : (R.map (·.key)).Nodup := by
 rw [List.Nodup, List.pairwise_map]
 exact h.imp fun {a b} hab e => by rw [e] at hab; exact klt_irrefl _ hab
theorem Of.nodup {D : List (List UInt8 × Value)} {R : List Rw} (h : Of D R) : (D.map (·.1)).Nodup := by
 have := h.1.map (·.1)
 rw [List.map_map] at this
 exact this.nodup_iff.2 (up_nodup h.2.1)
theorem Of.length {D : List (List UInt8 × Value)} {R : List Rw} (h : Of D R) : D.length = R.length := by have := h.1.length_eq; simpa using this
theorem find_mem {R : List Rw} {k : K} {r : Rw} (h : R.find? (fun x => decide (x.key = k)) = some r) : r ∈ R ∧ r.key = k := ⟨List.mem_of_find?_eq_some h, by simpa using List.find?_some h⟩
theorem Of.get {D : List (List UInt8 × Value)} {R : List Rw} (h : Of D R) (k : K) : mget D k = (R.find? fun x => decide (x.key = k)).map rvA := by
 cases e : R.find? fun x => decide (x.key = k) with
 | none =>
  rw [mget_none fun p hp e2 => ?_]; · rfl
  obtain ⟨r, hr, rfl⟩ := List.mem_map.1 (h.1.mem_iff.1 hp)
  have := List.find?_eq_none.1 e r hr
  simp at this
  exact this e2
 | some r =>
  obtain ⟨hr, hk⟩ := find_mem e
  have hm : (k, rvA r) ∈ D := h.1.mem_iff.2 (List.mem_map.2 ⟨r, hr, by rw [hk]⟩)
  obtain ⟨j, hj, e2⟩ := List.getElem_of_mem hm
  exact mget_at h.nodup (by rw [List.getElem?_eq_getElem hj, e2])
theorem Of.get_mem {D : List (List UInt8 × Value)} {R : List Rw} (h : Of D R) {r : Rw} (hr : r ∈ R) : mget D r.key = some (rvA r) := by
 have hm : (r.key, rvA r) ∈ D := h.1.mem_iff.2 (List.mem_map.2 ⟨r, hr, rfl⟩)
 obtain ⟨j, hj, e2⟩ := List.getElem_of_mem hm
 exact mget_at h.nodup (by rw [List.getElem?_eq_getElem hj, e2])
theorem Of.del {D : List (List UInt8 × Value)} {R : List Rw} (h : Of D R) (k : K) : Of (mdel D k) (drop1 R k) := by
 refine ⟨?_, Up.filter h.2.1 _, fun r hr => h.2.2 r (List.mem_filter.1 hr).1⟩
 unfold mdel drop1
 refine (h.1.filter _).trans (List.Perm.of_eq ?_)
 rw [List.filter_map]
 rfl
theorem mput_perm {D : List (List UInt8 × Value)} (hn : (D.map (·.1)).Nodup) (k : K) (v : Value) : (mput D k v).Perm ((k, v) :: mdel D k) := by
 cases e : mget D k with
 | none =>
  have h : ∀ p ∈ D, p.1 ≠ k := fun p hp e2 => by
   have : (mget D k).isSome = true := mget_isSome.2 (List.mem_map.2 ⟨p, hp, e2⟩)
   rw [e] at this; cases this
  rw [mput_new h, mdel_none h]
  exact List.perm_append_singleton _ _
 | some u =>
  obtain ⟨j, hj⟩ := mget_mem e
  rw [mput_set hn hj, mdel_at hn hj]
  exact (perm_set (x := (k, u)) hj (k, v)).symm
theorem Of.put {D : List (List UInt8 × Value)} {R : List Rw} (h : Of D R) (r : Rw) (hr : r.key.length ≤ 140737488351232) : Of (mput D r.key (rvA r)) (P.put R r) := by
 refine ⟨?_, put_up h.2.1 r, fun x hx => (put_mem hx).elim (fun e => e ▸ hr) (h.2.2 x)⟩
 refine (mput_perm h.nodup _ _).trans ?_
 refine (List.Perm.cons _ (h.del r.key).1).trans ?_
 exact ((put_perm h.2.1 r).map fun r => (r.key, rvA r)).symm
theorem up_sorted {R : List Rw} (h : Up R) : (R.map (·.key)).mergeSort leB = R.map (·.key) := by
 refine List.mergeSort_of_pairwise ?_
 rw [List.pairwise_map]
 refine h.imp fun {a b} hab => ?_
 simp only [decide_eq_true_eq]
 exact kle_iff.2 fun h2 => klt_irrefl _ (klt_trans hab h2)
theorem sort_permS {l m : List (List UInt8)} (h : l.Perm m) : l.mergeSort leB = m.mergeSort leB := by
 refine List.Perm.eq_of_pairwise (le := fun a b => leB a b = true) ?_ (List.pairwise_mergeSort ?_ ?_ _) (List.pairwise_mergeSort ?_ ?_ _) ((List.mergeSort_perm _ _).trans (h.trans (List.mergeSort_perm _ _).symm))
 ·
  intro a b _ _ h1 h2
  simp only [decide_eq_true_eq] at h1 h2
  rcases klt_tri a b with h | h | h
  ·
   exact absurd h (kle_iff.1 h2)
  ·
   exact h
  exact absurd h (kle_iff.1 h1)
 all_goals intro a b
 ·
  intro c h1 h2
  simp only [decide_eq_true_eq] at *
  rw [kle_iff] at *
  intro h3
  rcases klt_tri a b with h | h | h
  ·
   rcases klt_tri b c with h4 | h4 | h4
   ·
    exact klt_irrefl _ (klt_trans h3 (klt_trans h h4))
   ·
    subst h4; exact klt_irrefl _ (klt_trans h3 h)
   exact h2 h4
  ·
   subst h; exact h2 h3
  exact h1 h
 ·
  simp only [Bool.or_eq_true, decide_eq_true_eq]
  rw [kle_iff, kle_iff]
  rcases klt_tri a b with h | h | h
  ·
   exact .inl fun h2 => klt_irrefl _ (klt_trans h h2)
  ·
   subst h; exact .inl (klt_irrefl _)
  exact .inr fun h2 => klt_irrefl _ (klt_trans h h2)
 ·
  intro c h1 h2
  simp only [decide_eq_true_eq] at *
  rw [kle_iff] at *
  intro h3
  rcases klt_tri a b with h | h | h
  ·
   rcases klt_tri b c with h4 | h4 | h4
   ·
    exact klt_irrefl _ (klt_trans h3 (klt_trans h h4))
   ·
    subst h4; exact klt_irrefl _ (klt_trans h3 h)
   exact h2 h4
  ·
   subst h; exact h2 h3
  exact h1 h
 simp only [Bool.or_eq_true, decide_eq_true_eq]
 rw [kle_iff, kle_iff]
 rcases klt_tri a b with h | h | h
 ·
  exact .inl fun h2 => klt_irrefl _ (klt_trans h h2)
 ·
  subst h; exact .inl (klt_irrefl _)
 exact .inr fun h2 => klt_irrefl _ (klt_trans h h2)
theorem sortsS (m : Nat) : AnyZ.SortsIn Tryz.prog Tryz.sortedA_ren Fence.wide m :=
 ⟨fun blk off cap ss W hH hblk hsz => callsIn_wide.2 (AnyM.slices_Sort_string Tryz.sortS blk off cap ss W hH hblk hsz),
   fun p cap W => callsIn_wide.2 (AnyM.slices_Sort_string_none Tryz.sortS p cap W)⟩
set_option maxHeartbeats 1000000 in
theorem sorted_ok (W : World) (hW : W.drawn = 0) (L : List Chunk) (w : World) (b g : Nat) (D : List (List UInt8 × Value)) (R : List Rw) (hD : Of D R) (hb : Knows L (BlkIs b [.map (some g)])) (hg : Knows L (MapIs Tryz.prog 9 encS g D)) (hn : R.length ≤ 1000000) (s : St W L w) :
  Calls Tryz.prog 79 #[.func (.func 94) #[] #[.pointer (some ⟨b, 0, none⟩)]] w fun e w' => ∃ A c, e = .returned (.slice A R.length c) ∧ St W (Own 9 1 A R.length c (strs (kys R)) :: L) w' := by
 have hbw := hb w s.1
 have hDl := hD.length
 obtain ⟨D0, hown, hsz, hperm⟩ := MapIs.strs (hg w s.1)
 have hcell : w.cell? ⟨b, 0, none⟩ = some (.map (some g)) := hbw 0
 have hseq : SeqGives Fence.wide 2 Tryz.prog 94 #[.pointer (some ⟨b, 0, none⟩)] encStr (fun ss => ss.Perm (strKeys D0)) (Maps.size D0) w :=
  AnyZ.keys_gives (ρ := Tryz.keysA_ren) { Tryz.keysA with } Fence.wide _ trivial rfl (by omega) b g D.length D0 _ (lt_of_blkIs hbw) hcell hown
 have cS := AnyZ.sorted_in Tryz.sortedA Fence.wide 5 trivial trivial trivial trivial rfl (by omega) (sortsS _) (enters_of Tryz.func93 (by kernel_rfl) rfl) 94 #[.pointer (some ⟨b, 0, none⟩)] trivial (enters_of Tryz.func94 (by kernel_rfl) rfl) _ _ (by rw [hsz]; simp only [maxLen]; omega) (by rw [hsz]; omega) _ hseq
 change CallsIn _ _ Tryz.prog 79 _ _ _ at cS
 refine (callsIn_wide.1 cS).mono ?_
 rintro e w' ⟨v, ss, rfl, hS, hrow, hnil, hbel⟩
 have hp : ss.Perm (R.map (·.key)) := hS.trans (hperm.trans (by have := hD.1.map (·.1); rwa [List.map_map] at this))
 have hlen : ss.length = R.length := by rw [hp.length_eq, List.length_map]
 rw [show (fun x y : List UInt8 => decide (x ≤ y)) = leB from rfl, sort_permS hp, up_sorted hD.2.1, hlen] at hrow
 obtain ⟨A, c, rfl, s2⟩ := St.of_row hW s hbel hrow
 exact ⟨A, c, rfl, s2⟩
theorem within_snoc {R : List Rw} {k : Nat} {x : Rw} (h : R[k]? = some x) (f t : K) : within (R.take (k + 1)) f t = within (R.take k) f t ++ (if inS f t x then [x] else []) := by
 rw [take_snoc h]; unfold within; rw [List.filter_append]; cases e : inS f t x <;> simp [e]
theorem within_le (R : List Rw) (f t : K) : (within R f t).length ≤ R.length := List.length_filter_le _ _
theorem keys_at {R : List Rw} {k : Nat} {x : Rw} (h : R[k]? = some x) : (kys R)[k]? = some x.key := by simp [h]
theorem own_blk {W w : World} {L : List Chunk} {g n e k : Nat} {cs : List Value} (hl : cs.length = n * k) (hm : n ≤ maxLen) (s : St W (.blk g cs e :: L) w) : St W (Own e k (some ⟨g, 0, none⟩) n n cs :: L) w :=
 Own.close hl (Nat.le_refl _) hm (by omega) (fun j u h => by rwa [Nat.zero_add]) s

theorem order_ok (W : World) (L : List Chunk) (w : World) (A : Option Addr) (ca : Nat) (ds : List Dn) (hr : Knows L (DonesIn A ds)) (hn : Bn ds) (h0 : code (tns ds) = 0) (s : St W L w) :
  Calls Tryz.prog 54 #[.slice A ds.length ca] w fun e w' => ∃ B c o, e = .returned (.tuple #[.slice B ds.length c, .int .i64 0]) ∧ IsOrd (tns ds) o ∧ St W (Own 3 1 B ds.length c (nats o) :: L) w' := by
 have hpost := order_post h0
 refine enter_args (l := [.slice A ds.length ca]) Tryz.func54 rfl rfl (Nat.le_of_ble_eq_true rfl) ?_
 intro a ha; replace ha : Has a 29 [(0, .slice A ds.length ca)] := ha
 refine zn1 ?_
 refine zze ha (ex_box [.slice A ds.length ca] s rfl (by kernel_rfl)) ?_
 clear ha; rintro _ w a ⟨g1, rfl, s⟩ ha
 refine zv (.slice none 0 0) ha ?_
 refine zzv (.int .i64 0) ?_; clear ha; intro a ha
 refine zn2 ?_
 refine wp_seq ?_
 refine zn1 ?_
 refine zw (.slice A ds.length ca) ha (zl1 0 0) ?_; clear ha; intro a ha
 refine zzc ha (check_any W _ w A ca ds (fun w s => hr w s.tail) hn s) ?_
 rintro _ w ⟨rfl, s⟩
 refine ⟨_, rfl, ?_⟩; clear ha; intro a ha
 refine zv (.int .i64 (code (tns ds))) ha ?_; clear ha; intro a ha
 refine zn4 ?_
 refine zv (.int .i64 (code (tns ds))) ha ?_
 refine zzw (.bool false) (run_known (show ((code (tns ds)) != (0 : Int)) = false from by rw [bne_eq_false_iff_eq]; omega) (by kernel_rfl)) ?_; clear ha; intro a ha
 refine zn2 ?_
 refine wp_false ha rfl (by kernel_rfl) ?_
 refine wp_skip ?_
 refine then_normal ?_
 refine zn1 ?_
 refine zw (.slice A ds.length ca) ha (zl1 0 0) ?_
 refine zzv (.int .i64 ((ds.length : Nat) : Int)) ?_; clear ha; intro a ha
 refine zze ha (ex_makeSlice (n := ds.length) (c := ds.length) (kx := .i64) (ky := .i64) elt54 #[.int .i64 0] (by kernel_rfl) s rfl (by kernel_rfl) (by kernel_rfl) (by omega) (by omega) (by omega) (by simp only [roomBytes]; omega)) ?_
 clear ha; rintro _ w a ⟨g2, rfl, s⟩ ha
 rw [made_one] at s
 refine zv (.slice (some ⟨g2, 0, none⟩) ds.length ds.length) ha ?_; clear ha; intro a ha
 refine zn2 ?_
 refine wp_seq ?_
 refine zn1 ?_
 refine zv (.slice (some ⟨g2, 0, none⟩) ds.length ds.length) ha ?_
 refine zzv (.int .i64 ((ds.length : Nat) : Int)) ?_
 refine zzv (.int .i64 0) ?_; clear ha; intro a ha
 refine zn2 ?_
 refine wp_block ?_
 rw [← fillTo_zero] at s
 refine wp_loopG (G := Nat) (fun k a w => Has a 29 [(1, .pointer (some ⟨g1, 0, none⟩)), (5, .slice (some ⟨g2, 0, none⟩) ds.length ds.length), (16, .int .i64 ((ds.length : Nat) : Int)), (17, .int .i64 ((k : Nat) : Int))] ∧ St W (.blk g2 (fillTo ds.length k) 3 :: .blk g1 [.slice A ds.length ca] 48 :: L) w ∧ k ≤ ds.length) (fun k => ds.length - k) 0 ?_ ?_
 ·
  exact ⟨(Has.cons ha (by kernel_rfl) (by kernel_rfl) (Has.cons ha (by kernel_rfl) (by kernel_rfl) (Has.cons ha (by kernel_rfl) (by kernel_rfl) (Has.cons ha (by kernel_rfl) (by kernel_rfl) (Has.nil ha))))), s, Nat.zero_le _⟩
 clear ha s; rintro k a w ⟨ha, s, hp⟩
 refine zn1 ?_
 refine zv (.bool (decide (((k : Nat) : Int) < ((ds.length : Nat) : Int)))) ha ?_; clear ha; intro a ha
 refine zn2 ?_
 refine wp_seq ?_
 refine zzh (decide (((k : Nat) : Int) < ((ds.length : Nat) : Int))) ha ?_ ?_ <;> intro hb
 ·
  rw [hb] at ha; replace hb : (((k : Nat) : Int) < ((ds.length : Nat) : Int)) := of_decide_eq_true hb
  refine wp_skip ?_
  refine then_normal ?_
  refine wp_seq ?_
  refine wp_block ?_
  refine zn1 ?_
  refine zv (.int .i64 ((k : Nat) : Int)) ha ?_
  refine zzv (.int .i64 ((k : Nat) : Int)) ?_; clear ha; intro a ha
  refine zn3 ?_
  refine zv (.slice (some ⟨g2, 0, none⟩) ds.length ds.length) ha ?_
  refine zzv (.int .i64 ((k : Nat) : Int)) ?_
  refine zzv (.int .i64 ((k : Nat) : Int)) ?_
  refine zzw (.pointer (some ⟨g2, 0 + k * 1, none⟩)) (run_indexAddr (kd := .i64) (i := ((k : Nat) : Int)) (n := ds.length) (c := ds.length) k rfl Tryz.underlying54 Tryz.sizeOf3 (by kernel_rfl) (by kernel_rfl) rfl (by first | assumption | omega) _) ?_; clear ha; intro a ha
  refine zzd ha (ex_store_to (of_ := 0 + k * 1) 0 [.int .i64 ((k : Nat) : Int)] s (fillTo_put (by omega)) rfl rfl (by kernel_rfl) (by kernel_rfl) (Tryz.sizeOf3 _) rfl (by simp [Value.oneCell']) (by rw [fillTo_len (by omega)]; simp only [List.length_cons, List.length_nil]; omega)) ?_
  clear ha; rintro w a s ha
  dsimp only [List.set, putAt] at s
  refine wpList_nil ?_
  refine block_normal ?_
  refine then_normal ?_
  refine wp_region_lit ?_
  refine zw (.int .i64 ((k + 1 : Nat) : Int)) ha zar ?_
  refine zzv (.int .i64 ((k + 1 : Nat) : Int)) ?_; clear ha; intro a ha
  refine zn2 ?_
  exact ⟨k + 1, by omega, (Has.cons ha (by kernel_rfl) (by kernel_rfl) (Has.cons ha (by kernel_rfl) (by kernel_rfl) (Has.cons ha (by kernel_rfl) (by kernel_rfl) (Has.cons ha (by kernel_rfl) (by kernel_rfl) (Has.nil ha))))), s, by omega⟩
 rw [hb] at ha; replace hb : ¬ (((k : Nat) : Int) < ((ds.length : Nat) : Int)) := of_decide_eq_false hb
 have hk : k = ds.length := by omega
 subst hk
 rw [fillTo_all] at s
 replace s := own_blk (n := ds.length) (k := 1) (by simp) (by simp only [maxLen]; omega) s
 refine wp_exit ?_
 refine then_exit ?_
 refine then_exit ?_
 refine block_hit ?_
 refine then_normal ?_
 refine zn1 ?_
 refine zv (.slice (some ⟨g2, 0, none⟩) ds.length ds.length) ha ?_
 refine zzv (.func (.func 63) #[] #[.pointer (some ⟨g1, 0, none⟩)]) ?_; clear ha; intro a ha
 refine zzc ha (sort_idx W _ w g1 A ca ds (fun w s => ⟨(s.perm (perm_at (j := 0) rfl)).cell, hr _ s.tail⟩) hpost.2.1 hpost.1 _ _ ds.length s) ?_
 rintro _ w ⟨rfl, o_, ho_, s⟩
 refine ⟨_, rfl, ?_⟩; clear ha; intro a ha
 refine zn4 ?_
 refine zv (.slice (some ⟨g2, 0, none⟩) ds.length ds.length) ha ?_
 refine zzv (.slice (some ⟨g2, 0, none⟩) ds.length ds.length) ?_
 refine zzv (.int .i64 0) ?_; clear ha; intro a ha
 refine zn2 ?_
 refine wp_ret ?_
 refine ret_with (v := .tuple #[.slice (some ⟨g2, 0, none⟩) ds.length ds.length, .int .i64 0]) ha (results_2 rfl ha (res_tmp (by kernel_rfl) (by kernel_rfl)) (res_tmp (by kernel_rfl) (by kernel_rfl))) ?_
 replace s := s.k1_1
 exact ⟨_, _, o_, rfl, ho_, s⟩

theorem order_no (W : World) (L : List Chunk) (w : World) (A : Option Addr) (ca : Nat) (ds : List Dn) (hr : Knows L (DonesIn A ds)) (hn : Bn ds) (h0 : code (tns ds) ≠ 0) (s : St W L w) :
  Calls Tryz.prog 54 #[.slice A ds.length ca] w fun e w' => e = .returned (.tuple #[.slice none 0 0, .int .i64 (code (tns ds))]) ∧ St W L w' := by
 refine enter_args (l := [.slice A ds.length ca]) Tryz.func54 rfl rfl (Nat.le_of_ble_eq_true rfl) ?_
 intro a ha; replace ha : Has a 29 [(0, .slice A ds.length ca)] := ha
 refine zn1 ?_
 refine zze ha (ex_box [.slice A ds.length ca] s rfl (by kernel_rfl)) ?_
 clear ha; rintro _ w a ⟨g1, rfl, s⟩ ha
 refine zv (.slice none 0 0) ha ?_
 refine zzv (.int .i64 0) ?_; clear ha; intro a ha
 refine zn2 ?_
 refine wp_seq ?_
 refine zn1 ?_
 refine zw (.slice A ds.length ca) ha (zl1 0 0) ?_; clear ha; intro a ha
 refine zzc ha (check_any W _ w A ca ds (fun w s => hr w s.tail) hn s) ?_
 rintro _ w ⟨rfl, s⟩
 refine ⟨_, rfl, ?_⟩; clear ha; intro a ha
 refine zv (.int .i64 (code (tns ds))) ha ?_; clear ha; intro a ha
 refine zn4 ?_
 refine zv (.int .i64 (code (tns ds))) ha ?_
 refine zzw (.bool true) (run_known (show ((code (tns ds)) != (0 : Int)) = true from bne_iff_ne.2 (by omega)) (by kernel_rfl)) ?_; clear ha; intro a ha
 refine zn2 ?_
 refine wp_true ha rfl (by kernel_rfl) ?_
 refine zn1 ?_
 refine zv (.int .i64 (code (tns ds))) ha ?_
 refine zzv (.slice none 0 0) ?_
 refine zzv (.int .i64 (code (tns ds))) ?_; clear ha; intro a ha
 refine zn2 ?_
 refine zzt ?_
 refine ret_with (v := .tuple #[.slice none 0 0, .int .i64 (code (tns ds))]) ha (results_2 rfl ha (res_tmp (by kernel_rfl) (by kernel_rfl)) (res_tmp (by kernel_rfl) (by kernel_rfl))) ?_
 replace s := s.tail
 replace s : St W (L) w := s
 exact ⟨rfl, s⟩

theorem keys_any (W : World) (L : List Chunk) (w : World) (g : Nat) (s : St W L w) :
  Calls Tryz.prog 80 #[.map (some g)] w fun e w' => ∃ b, e = .returned (.func (.func 94) #[] #[.pointer (some ⟨b, 0, none⟩)]) ∧ St W (.blk b [.map (some g)] 81 :: L) w' := by
 refine enter_args (l := [.map (some g)]) Tryz.func80 rfl rfl (Nat.le_of_ble_eq_true rfl) ?_
 intro a ha; replace ha : Has a 4 [(0, .map (some g))] := ha
 refine zn1 ?_
 refine zze ha (ex_box [.map (some g)] s rfl (by kernel_rfl)) ?_
 clear ha; rintro _ w a ⟨g1, rfl, s⟩ ha
 refine zv (.nilFunc) ha ?_; clear ha; intro a ha
 refine zn4 ?_
 refine zv (.func (.func 94) #[] #[.pointer (some ⟨g1, 0, none⟩)]) ha ?_
 refine zzv (.func (.func 94) #[] #[.pointer (some ⟨g1, 0, none⟩)]) ?_; clear ha; intro a ha
 refine zn2 ?_
 refine wp_ret ?_
 refine zzr (v := .func (.func 94) #[] #[.pointer (some ⟨g1, 0, none⟩)]) ha ?_
 exact ⟨_, rfl, s⟩

theorem within_any (W : World) (hW : W.drawn = 0) (L : List Chunk) (w : World) (g : Nat) (D : List (List UInt8 × Value)) (R : List Rw) (hD : Of D R) (hRn : R.length ≤ 1000000) (hg : Knows L (MapIs Tryz.prog 9 encS g D)) (sf stt : K) (s : St W L w) :
  Calls Tryz.prog 66 #[.map (some g), .agg #[.string (str sf), .string (str stt)]] w fun e w' => ∃ A c, e = .returned (.slice A (within R sf stt).length c) ∧ St W (Own 115 2 A (within R sf stt).length c (rws (within R sf stt)) :: L) w' := by
 refine enter_args (l := [.map (some g), .agg #[.string (str sf), .string (str stt)]]) Tryz.func66 rfl rfl (Nat.le_of_ble_eq_true rfl) ?_
 intro a ha; replace ha : Has a 34 [(0, .map (some g)), (1, .agg #[.string (str sf), .string (str stt)])] := ha
 refine zn1 ?_
 refine zze ha (ex_box [.string (str sf), .string (str stt)] s rfl (by kernel_rfl)) ?_
 clear ha; rintro _ w a ⟨g1, rfl, s⟩ ha
 refine zv (.slice none 0 0) ha ?_; clear ha; intro a ha
 refine zn4 ?_
 refine zv (.slice none 0 0) ha ?_; clear ha; intro a ha
 refine zn2 ?_
 refine wp_seq ?_
 refine zn1 ?_
 refine zv (.map (some g)) ha ?_; clear ha; intro a ha
 refine zzc ha (keys_any W _ w g s) ?_
 rintro _ w ⟨b2, rfl, s⟩
 refine ⟨_, rfl, ?_⟩; clear ha; intro a ha
 refine zzc ha (sorted_ok W hW _ w b2 g D R hD (Knows.cells (j := 0) rfl) (fun w s => hg w s.tail.tail) hRn s) ?_
 rintro _ w ⟨A3, c4, rfl, s⟩
 refine ⟨_, rfl, ?_⟩; clear ha; intro a ha
 refine zv (.int .i64 ((R.length : Nat) : Int)) ha ?_
 refine zzv (.int .i64 0) ?_; clear ha; intro a ha
 refine zn2 ?_
 refine wp_block ?_
 replace s := Own.none_ (e := 115) (k := 2) none s
 replace s := ((s.at_ (j := 3) rfl).at_ (j := 2) rfl).at_ (j := 2) rfl
 replace s := s.k3_1
 refine wp_loopG (G := (Nat × Option Addr × Nat)) (fun ⟨k, B, cb⟩ a w => Has a 34 [(0, .map (some g)), (3, .pointer (some ⟨g1, 0, none⟩)), (10, .slice A3 R.length c4), (11, .int .i64 ((R.length : Nat) : Int)), (5, .slice B ((within (R.take k) sf stt).length) cb), (12, .int .i64 ((k : Nat) : Int))] ∧ St W (Own 115 2 B ((within (R.take k) sf stt).length) cb (rws (within (R.take k) sf stt)) :: Own 9 1 A3 R.length c4 (strs (kys R)) :: .blk g1 [.string (str sf), .string (str stt)] 32 :: L) w ∧ k ≤ R.length) (fun ⟨k, B, cb⟩ => R.length - k) (0, none, 0) ?_ ?_
 ·
  exact ⟨(Has.cons ha (by kernel_rfl) (by kernel_rfl) (Has.cons ha (by kernel_rfl) (by kernel_rfl) (Has.cons ha (by kernel_rfl) (by kernel_rfl) (Has.cons ha (by kernel_rfl) (by kernel_rfl) (Has.cons ha (by kernel_rfl) (by kernel_rfl) (Has.cons ha (by kernel_rfl) (by kernel_rfl) (Has.nil ha))))))), s, Nat.zero_le _⟩
 clear ha s; rintro ⟨k, B, cb⟩ a w ⟨ha, s, hp⟩
 refine zn1 ?_
 refine zv (.bool (decide (((k : Nat) : Int) < ((R.length : Nat) : Int)))) ha ?_; clear ha; intro a ha
 refine zn2 ?_
 refine wp_seq ?_
 refine zzh (decide (((k : Nat) : Int) < ((R.length : Nat) : Int))) ha ?_ ?_ <;> intro hb
 ·
  rw [hb] at ha; replace hb : (((k : Nat) : Int) < ((R.length : Nat) : Int)) := of_decide_eq_true hb
  obtain ⟨x, hx⟩ : ∃ x, R[k]? = some x := ⟨_, List.getElem?_eq_getElem (by omega)⟩
  obtain ⟨ad5, hA⟩ := Own.addr (s.at_ (j := 1) rfl) (by omega)
  subst hA
  have hwl := Nat.le_trans (within_le (R.take k) sf stt) (by rw [List.length_take]; exact Nat.min_le_left _ _)
  refine wp_skip ?_
  refine then_normal ?_
  refine wp_seq ?_
  refine wp_block ?_
  refine zn1 ?_
  refine zw (.pointer (some (ad5.add (k * 1)))) ha (run_indexAddr' (kd := .i64) (i := ((k : Nat) : Int)) (n := R.length) (c := c4) k rfl Tryz.underlying128 Tryz.sizeOf9 (by kernel_rfl) (by kernel_rfl) rfl (by first | assumption | omega) _) ?_
  refine zzw (.string (str x.key)) (run_loadRow1 (m := k) ((Own.reads (s.at_ (j := 1) rfl).1)) rfl (by kernel_rfl) Tryz.isAgg9 (strs_at (keys_at hx))) ?_
  refine zzv (.string (str x.key)) ?_; clear ha; intro a ha
  refine zn4 ?_
  refine zv (.pointer (some ⟨g1, 0, none⟩)) ha ?_
  refine zzw (.string (str sf)) (zl1 2 0) ?_
  refine zzv (.string (str x.key)) ?_
  refine zzw (.bool (decide (sf ≤ x.key))) (run_sleq (p := sf) (q := x.key) rfl (by kernel_rfl) (by kernel_rfl) _) ?_
  refine zzv (.bool (decide (sf ≤ x.key))) ?_; clear ha; intro a ha
  rcases Bool.eq_false_or_eq_true (decide (sf ≤ x.key)) with hb | hb
  ·
   rw [hb] at ha; replace hb : (sf ≤ x.key) := of_decide_eq_true hb
   refine zv (.string (str x.key)) ha ?_
   refine zzv (.pointer (some ⟨g1, 1, none⟩)) ?_
   refine zzw (.string (str stt)) (zl1 2 1) ?_
   refine zzw (.bool (decide (x.key < stt))) (run_slss (p := x.key) (q := stt) rfl (by kernel_rfl) (by kernel_rfl) _) ?_
   refine zzv (.bool (decide (x.key < stt))) ?_; clear ha; intro a ha
   refine zn2 ?_
   refine zzh (decide (x.key < stt)) ha ?_ ?_ <;> intro hb
   ·
    rw [hb] at ha; replace hb : (x.key < stt) := of_decide_eq_true hb
    refine wp_region_lit ?_
    refine zv (.slice B ((within (R.take k) sf stt).length) cb) ha ?_
    refine zzv (.map (some g)) ?_
    refine zzv (.string (str x.key)) ?_
    refine zzw (.agg #[.string (str x.key), .string (str x.val)]) (run_lookup (a := x.key) (.agg #[.string (str x.key), .string (str x.val)]) ((hg _ s.sat.tail.tail.tail)) rfl (by kernel_rfl) (by kernel_rfl) encS_inj keyed9 Tryz.underlying81 Tryz.zeroValue115 (key9 (hD.2.2 _ (List.mem_of_getElem? hx))) (by rw [hD.get_mem (List.mem_of_getElem? hx)]; rfl)) ?_; clear ha; intro a ha
    refine zze ha (ex_buildSlice elt33 _ zs33 [.string (str x.key), .string (str x.val)] s rfl (by kernel_rfl) (by decide)) ?_
    clear ha; rintro _ w a ⟨g6, rfl, s⟩ ha
    refine zze ha (ex_append (m := 1) (d' := 1) elt33 (by decide) 1 [.string (str x.key), .string (str x.val)] s rfl (by kernel_rfl) (by kernel_rfl) rfl (reads_blk (s.blkIs 0 rfl) rfl) (by simp [Value.oneCell']) (by simp only [maxLen]; omega) (by omega)) ?_
    clear ha; rintro _ w a ⟨A7, c8, rfl, hA_, s⟩ ha
    refine zv (.slice A7 ((within (R.take k) sf stt).length + 1) c8) ha ?_; clear ha; intro a ha
    refine wpList_nil ?_
    refine block_normal ?_
    refine then_normal ?_
    refine wp_region_lit ?_
    refine zw (.int .i64 ((k + 1 : Nat) : Int)) ha zar ?_
    refine zzv (.int .i64 ((k + 1 : Nat) : Int)) ?_; clear ha; intro a ha
    refine zn2 ?_
    replace s := ((s.at_ (j := 3) rfl).at_ (j := 3) rfl).at_ (j := 3) rfl
    replace s := s.k3_1
    have hw := within_snoc hx sf stt
    rw [show inS sf stt x = true from by unfold inS; simp [*]] at hw
    replace hw : within (R.take (k + 1)) sf stt = within (R.take k) sf stt ++ [x] := hw
    replace s : St W (Own 115 2 A7 ((within (R.take (k + 1)) sf stt).length) c8 (rws (within (R.take (k + 1)) sf stt)) :: Own 9 1 (some ad5) R.length c4 (strs (kys R)) :: .blk g1 [.string (str sf), .string (str stt)] 32 :: L) w := by rw [hw, rws_append, List.length_append]; exact s
    exact ⟨(k + 1, A7, c8), (show R.length - (k + 1) < R.length - k by omega), (Has.cons ha (by kernel_rfl) (by kernel_rfl) (Has.cons ha (by kernel_rfl) (by kernel_rfl) (Has.cons ha (by kernel_rfl) (by kernel_rfl) (Has.cons ha (by kernel_rfl) (by kernel_rfl) (Has.cons ha (by kernel_rfl) (by rw [hw]; rw [List.length_append]; kernel_rfl) (Has.cons ha (by kernel_rfl) (by kernel_rfl) (Has.nil ha))))))), s, (show k + 1 ≤ R.length by omega)⟩
   rw [hb] at ha; replace hb : ¬ (x.key < stt) := of_decide_eq_false hb
   refine wp_skip ?_
   refine block_normal ?_
   refine then_normal ?_
   refine wp_region_lit ?_
   refine zw (.int .i64 ((k + 1 : Nat) : Int)) ha zar ?_
   refine zzv (.int .i64 ((k + 1 : Nat) : Int)) ?_; clear ha; intro a ha
   refine zn2 ?_
   have hw := within_snoc hx sf stt
   rw [show inS sf stt x = false from by unfold inS; simp [*]] at hw
   replace hw : within (R.take (k + 1)) sf stt = within (R.take k) sf stt := by rw [hw]; simp
   rw [← hw] at s
   exact ⟨(k + 1, B, cb), (show R.length - (k + 1) < R.length - k by omega), (Has.cons ha (by kernel_rfl) (by kernel_rfl) (Has.cons ha (by kernel_rfl) (by kernel_rfl) (Has.cons ha (by kernel_rfl) (by kernel_rfl) (Has.cons ha (by kernel_rfl) (by kernel_rfl) (Has.cons ha (by kernel_rfl) (by rw [hw]; kernel_rfl) (Has.cons ha (by kernel_rfl) (by kernel_rfl) (Has.nil ha))))))), s, (show k + 1 ≤ R.length by omega)⟩
  rw [hb] at ha; replace hb : ¬ (sf ≤ x.key) := of_decide_eq_false hb
  refine zp ha ?_
  iterate 3 refine zzp ?_
  refine zzv (.bool false) ?_; clear ha; intro a ha
  refine zn2 ?_
  refine wp_false ha rfl (by kernel_rfl) ?_
  refine wp_skip ?_
  refine block_normal ?_
  refine then_normal ?_
  refine wp_region_lit ?_
  refine zw (.int .i64 ((k + 1 : Nat) : Int)) ha zar ?_
  refine zzv (.int .i64 ((k + 1 : Nat) : Int)) ?_; clear ha; intro a ha
  refine zn2 ?_
  have hw := within_snoc hx sf stt
  rw [show inS sf stt x = false from by unfold inS; simp [*]] at hw
  replace hw : within (R.take (k + 1)) sf stt = within (R.take k) sf stt := by rw [hw]; simp
  rw [← hw] at s
  exact ⟨(k + 1, B, cb), (show R.length - (k + 1) < R.length - k by omega), (Has.cons ha (by kernel_rfl) (by kernel_rfl) (Has.cons ha (by kernel_rfl) (by kernel_rfl) (Has.cons ha (by kernel_rfl) (by kernel_rfl) (Has.cons ha (by kernel_rfl) (by kernel_rfl) (Has.cons ha (by kernel_rfl) (by rw [hw]; kernel_rfl) (Has.cons ha (by kernel_rfl) (by kernel_rfl) (Has.nil ha))))))), s, (show k + 1 ≤ R.length by omega)⟩
 rw [hb] at ha; replace hb : ¬ (((k : Nat) : Int) < ((R.length : Nat) : Int)) := of_decide_eq_false hb
 have hk : k = R.length := by omega
 rw [hk, List.take_length] at s ha
 refine wp_exit ?_
 refine then_exit ?_
 refine then_exit ?_
 refine block_hit ?_
 refine then_normal ?_
 refine zn1 ?_
 refine zv (.slice B ((within R sf stt).length) cb) ha ?_
 refine zzv (.slice B ((within R sf stt).length) cb) ?_; clear ha; intro a ha
 refine zn2 ?_
 refine wp_ret ?_
 refine zzr (v := .slice B ((within R sf stt).length) cb) ha ?_
 replace s := s.k1_2
 exact ⟨_, _, rfl, s⟩

theorem same_any (W : World) (L : List Chunk) (w : World) (A B : Option Addr) (ca cb : Nat) (la lb : List Rw) (hra : Knows L fun w => Reads w 2 A la.length (rws la)) (hrb : Knows L fun w => Reads w 2 B lb.length (rws lb)) (hn : lb.length ≤ 140737488351232) (s : St W L w) :
  Calls Tryz.prog 71 #[.slice A la.length ca, .slice B lb.length cb] w fun e w' => e = .returned (.bool (decide (la = lb))) ∧ St W L w' := by
 refine enter_args (l := [.slice A la.length ca, .slice B lb.length cb]) Tryz.func71 rfl rfl (Nat.le_of_ble_eq_true rfl) ?_
 intro a ha; replace ha : Has a 26 [(0, .slice A la.length ca), (1, .slice B lb.length cb)] := ha
 refine zn1 ?_
 refine zv (.bool false) ha ?_; clear ha; intro a ha
 refine zn2 ?_
 refine wp_seq ?_
 refine zn1 ?_
 refine zv (.slice A la.length ca) ha ?_
 refine zzv (.int .i64 ((la.length : Nat) : Int)) ?_
 refine zzv (.slice B lb.length cb) ?_
 refine zzv (.int .i64 ((lb.length : Nat) : Int)) ?_
 refine zzv (.bool (((la.length : Nat) : Int) != ((lb.length : Nat) : Int))) ?_; clear ha; intro a ha
 refine zn2 ?_
 refine zzh (((la.length : Nat) : Int) != ((lb.length : Nat) : Int)) ha ?_ ?_ <;> intro hb
 ·
  rw [hb] at ha; replace hb := zbn hb
  refine zn1 ?_
  refine zv (.bool false) ha ?_; clear ha; intro a ha
  refine zn2 ?_
  refine zzt ?_
  refine zzr (v := .bool false) ha ?_
  refine ⟨?_, s⟩
  rw [decide_eq_false (fun e => by subst e; exact hb rfl)]
 rw [hb] at ha; replace hb := zbq hb
 refine wp_skip ?_
 refine then_normal ?_
 refine wp_seq ?_
 refine zn1 ?_
 refine zv (.int .i64 0) ha ?_; clear ha; intro a ha
 refine zn2 ?_
 refine wp_block ?_
 refine wp_loopG (G := Nat) (fun k a w => Has a 26 [(0, .slice A la.length ca), (1, .slice B lb.length cb), (5, .int .i64 ((k : Nat) : Int))] ∧ St W (L) w ∧ (k ≤ la.length ∧ la.take k = lb.take k)) (fun k => la.length - k) 0 ?_ ?_
 ·
  exact ⟨(Has.cons ha (by kernel_rfl) (by kernel_rfl) (Has.cons ha (by kernel_rfl) (by kernel_rfl) (Has.cons ha (by kernel_rfl) (by kernel_rfl) (Has.nil ha)))), s, ⟨Nat.zero_le _, rfl⟩⟩
 clear ha s; rintro k a w ⟨ha, s, hp⟩
 refine wp_seq ?_
 refine zn1 ?_
 refine zv (.int .i64 ((k : Nat) : Int)) ha ?_
 refine zzv (.slice A la.length ca) ?_
 refine zzv (.int .i64 ((la.length : Nat) : Int)) ?_
 refine zzv (.bool (decide (((k : Nat) : Int) < ((la.length : Nat) : Int)))) ?_; clear ha; intro a ha
 refine zn2 ?_
 refine zzh (decide (((k : Nat) : Int) < ((la.length : Nat) : Int))) ha ?_ ?_ <;> intro hb
 ·
  rw [hb] at ha; replace hb : (((k : Nat) : Int) < ((la.length : Nat) : Int)) := of_decide_eq_true hb
  obtain ⟨x, hx⟩ : ∃ x, la[k]? = some x := ⟨_, List.getElem?_eq_getElem (by omega)⟩
  obtain ⟨y, hy⟩ : ∃ y, lb[k]? = some y := ⟨_, List.getElem?_eq_getElem (by omega)⟩
  obtain ⟨ada, hA⟩ := Reads.addr (hra _ s.sat) (by omega)
  subst hA
  obtain ⟨adb, hB⟩ := Reads.addr (hrb _ s.sat) (by omega)
  subst hB
  refine wp_skip ?_
  refine then_normal ?_
  refine wp_seq ?_
  refine wp_block ?_
  refine wp_seq ?_
  refine wp_region_head 8 (fun w => Reads w 2 (some ada) la.length (rws la) ∧ Reads w 2 (some adb) lb.length (rws lb) ∧ True) (by kernel_rfl) (by decide) ?_
  replace s := s.drew; generalize _root_.Go.World.drew _ = w at s ⊢
  have hS : (fun w => Reads w 2 (some ada) la.length (rws la) ∧ Reads w 2 (some adb) lb.length (rws lb) ∧ True) w := ⟨(hra _ s.sat), (hrb _ s.sat), trivial⟩
  refine yk (i := 0) (.slice (some ada) la.length ca) ha hS ?_
  refine yyk (i := 1) (.int .i64 ((k : Nat) : Int)) hS ?_
  refine yyv (i := 2) (.pointer (some (ada.add (k * 2)))) (fun w hS => (run_indexAddr' (kd := .i64) (i := ((k : Nat) : Int)) (n := la.length) (c := ca) k rfl Tryz.underlying33 Tryz.sizeOf115 (by kernel_rfl) (by kernel_rfl) rfl (by first | assumption | omega) _)) hS ?_
  refine yyv (i := 3) (.agg #[.string (str x.key), .string (str x.val)]) (fun w hS => run_loadAtN (i := k * 2) [.string (str x.key), .string (str x.val)] hS.1 rfl (by kernel_rfl) Tryz.isAgg115 Tryz.sizeOf115 (fun q_ hq_ => rws_at hx hq_) rfl) hS ?_
  refine yyk (i := 4) (.slice (some adb) lb.length cb) hS ?_
  refine yyk (i := 5) (.int .i64 ((k : Nat) : Int)) hS ?_
  refine yyv (i := 6) (.pointer (some (adb.add (k * 2)))) (fun w hS => (run_indexAddr' (kd := .i64) (i := ((k : Nat) : Int)) (n := lb.length) (c := cb) k rfl Tryz.underlying33 Tryz.sizeOf115 (by kernel_rfl) (by kernel_rfl) rfl (by first | assumption | omega) _)) hS ?_
  refine yyv (i := 7) (.agg #[.string (str y.key), .string (str y.val)]) (fun w hS => run_loadAtN (i := k * 2) [.string (str y.key), .string (str y.val)] hS.2.1 rfl (by kernel_rfl) Tryz.isAgg115 Tryz.sizeOf115 (fun q_ hq_ => rws_at hy hq_) rfl) hS ?_; clear ha; intro a ha
  refine Head.done (by kernel_rfl) ?_
  clear hS; simp only [List.drop_succ_cons, List.drop_zero]
  refine zw (.bool (decide (x ≠ y))) ha (run_rw (x := x) (y := y) (.inr rfl) rfl (by kernel_rfl) (by kernel_rfl) _) ?_; clear ha; intro a ha
  refine zn2 ?_
  refine zzh (decide (x ≠ y)) ha ?_ ?_ <;> intro hb
  ·
   rw [hb] at ha; replace hb : (x ≠ y) := of_decide_eq_true hb
   refine zn1 ?_
   refine zv (.bool false) ha ?_; clear ha; intro a ha
   refine zn2 ?_
   refine wp_ret ?_
   refine block_ret ?_
   refine then_ret ?_
   refine then_ret ?_
   refine block_ret ?_
   refine then_ret ?_
   refine zzr (v := .bool false) ha ?_
   refine ⟨?_, s⟩
   rw [decide_eq_false (fun e => by subst e; rw [hx] at hy; cases hy; exact hb rfl)]
  rw [hb] at ha; replace hb : ¬ (x ≠ y) := of_decide_eq_false hb
  replace hb : x = y := Decidable.not_not.1 hb
  refine wp_skip ?_
  refine block_normal ?_
  refine then_normal ?_
  refine wp_region_lit ?_
  refine zv (.int .i64 ((k : Nat) : Int)) ha ?_
  refine zzw (.int .i64 ((k + 1 : Nat) : Int)) zar ?_
  refine zzv (.int .i64 ((k + 1 : Nat) : Int)) ?_; clear ha; intro a ha
  refine zn2 ?_
  exact ⟨k + 1, by omega, (Has.cons ha (by kernel_rfl) (by kernel_rfl) (Has.cons ha (by kernel_rfl) (by kernel_rfl) (Has.cons ha (by kernel_rfl) (by kernel_rfl) (Has.nil ha)))), s, by omega, by rw [take_snoc hx, take_snoc hy, hp.2, hb]⟩
 rw [hb] at ha; replace hb : ¬ (((k : Nat) : Int) < ((la.length : Nat) : Int)) := of_decide_eq_false hb
 refine wp_exit ?_
 refine then_exit ?_
 refine then_exit ?_
 refine block_hit ?_
 refine then_normal ?_
 refine zn1 ?_
 refine zv (.bool true) ha ?_; clear ha; intro a ha
 refine zn2 ?_
 refine wp_ret ?_
 refine zzr (v := .bool true) ha ?_
 refine ⟨?_, s⟩
 have h2 := hp.2
 rw [List.take_of_length_le (by omega), List.take_of_length_le (by omega)] at h2
 rw [decide_eq_true h2]

theorem equal_any (W : World) (L : List Chunk) (w : World) (A B : Option Addr) (ca cb : Nat) (la lb : List Rw) (hra : Knows L fun w => Reads w 2 A la.length (rws la)) (hrb : Knows L fun w => Reads w 2 B lb.length (rws lb)) (hn : lb.length ≤ 140737488351232) (s : St W L w) :
  Calls Tryz.prog 65 #[.slice A la.length ca, .slice B lb.length cb] w fun e w' => e = .returned (.bool (decide (la = lb))) ∧ St W L w' := by
 refine enter_args (l := [.slice A la.length ca, .slice B lb.length cb]) Tryz.func65 rfl rfl (Nat.le_of_ble_eq_true rfl) ?_
 intro a ha; replace ha : Has a 26 [(0, .slice A la.length ca), (1, .slice B lb.length cb)] := ha
 refine zn1 ?_
 refine zv (.bool false) ha ?_; clear ha; intro a ha
 refine zn2 ?_
 refine wp_seq ?_
 refine zn1 ?_
 refine zv (.slice A la.length ca) ha ?_
 refine zzv (.int .i64 ((la.length : Nat) : Int)) ?_
 refine zzv (.slice B lb.length cb) ?_
 refine zzv (.int .i64 ((lb.length : Nat) : Int)) ?_
 refine zzv (.bool (((la.length : Nat) : Int) != ((lb.length : Nat) : Int))) ?_; clear ha; intro a ha
 refine zn2 ?_
 refine zzh (((la.length : Nat) : Int) != ((lb.length : Nat) : Int)) ha ?_ ?_ <;> intro hb
 ·
  rw [hb] at ha; replace hb := zbn hb
  refine zn1 ?_
  refine zv (.bool false) ha ?_; clear ha; intro a ha
  refine zn2 ?_
  refine zzt ?_
  refine zzr (v := .bool false) ha ?_
  refine ⟨?_, s⟩
  rw [decide_eq_false (fun e => by subst e; exact hb rfl)]
 rw [hb] at ha; replace hb := zbq hb
 refine wp_skip ?_
 refine then_normal ?_
 refine wp_seq ?_
 refine zn1 ?_
 refine zv (.slice A la.length ca) ha ?_
 refine zzv (.int .i64 ((la.length : Nat) : Int)) ?_
 refine zzv (.int .i64 0) ?_; clear ha; intro a ha
 refine zn2 ?_
 refine wp_block ?_
 refine wp_loopG (G := Nat) (fun k a w => Has a 26 [(0, .slice A la.length ca), (1, .slice B lb.length cb), (12, .int .i64 ((la.length : Nat) : Int)), (13, .int .i64 ((k : Nat) : Int))] ∧ St W (L) w ∧ (k ≤ la.length ∧ la.take k = lb.take k)) (fun k => la.length - k) 0 ?_ ?_
 ·
  exact ⟨(Has.cons ha (by kernel_rfl) (by kernel_rfl) (Has.cons ha (by kernel_rfl) (by kernel_rfl) (Has.cons ha (by kernel_rfl) (by kernel_rfl) (Has.cons ha (by kernel_rfl) (by kernel_rfl) (Has.nil ha))))), s, ⟨Nat.zero_le _, rfl⟩⟩
 clear ha s; rintro k a w ⟨ha, s, hp⟩
 refine zn1 ?_
 refine zv (.bool (decide (((k : Nat) : Int) < ((la.length : Nat) : Int)))) ha ?_; clear ha; intro a ha
 refine zn2 ?_
 refine wp_seq ?_
 refine zzh (decide (((k : Nat) : Int) < ((la.length : Nat) : Int))) ha ?_ ?_ <;> intro hb
 ·
  rw [hb] at ha; replace hb : (((k : Nat) : Int) < ((la.length : Nat) : Int)) := of_decide_eq_true hb
  obtain ⟨x, hx⟩ : ∃ x, la[k]? = some x := ⟨_, List.getElem?_eq_getElem (by omega)⟩
  obtain ⟨y, hy⟩ : ∃ y, lb[k]? = some y := ⟨_, List.getElem?_eq_getElem (by omega)⟩
  obtain ⟨ada, hA⟩ := Reads.addr (hra _ s.sat) (by omega)
  subst hA
  obtain ⟨adb, hB⟩ := Reads.addr (hrb _ s.sat) (by omega)
  subst hB
  refine wp_skip ?_
  refine then_normal ?_
  refine wp_seq ?_
  refine wp_block ?_
  refine zn1 ?_
  refine zv (.int .i64 ((k : Nat) : Int)) ha ?_
  refine zzv (.int .i64 ((k : Nat) : Int)) ?_; clear ha; intro a ha
  refine zn2 ?_
  refine wp_seq ?_
  refine wp_region_head 8 (fun w => Reads w 2 (some ada) la.length (rws la) ∧ Reads w 2 (some adb) lb.length (rws lb) ∧ True) (by kernel_rfl) (by decide) ?_
  replace s := s.drew; generalize _root_.Go.World.drew _ = w at s ⊢
  have hS : (fun w => Reads w 2 (some ada) la.length (rws la) ∧ Reads w 2 (some adb) lb.length (rws lb) ∧ True) w := ⟨(hra _ s.sat), (hrb _ s.sat), trivial⟩
  refine yk (i := 0) (.slice (some ada) la.length ca) ha hS ?_
  refine yyk (i := 1) (.int .i64 ((k : Nat) : Int)) hS ?_
  refine yyv (i := 2) (.pointer (some (ada.add (k * 2)))) (fun w hS => (run_indexAddr' (kd := .i64) (i := ((k : Nat) : Int)) (n := la.length) (c := ca) k rfl Tryz.underlying33 Tryz.sizeOf115 (by kernel_rfl) (by kernel_rfl) rfl (by first | assumption | omega) _)) hS ?_
  refine yyv (i := 3) (.agg #[.string (str x.key), .string (str x.val)]) (fun w hS => run_loadAtN (i := k * 2) [.string (str x.key), .string (str x.val)] hS.1 rfl (by kernel_rfl) Tryz.isAgg115 Tryz.sizeOf115 (fun q_ hq_ => rws_at hx hq_) rfl) hS ?_
  refine yyk (i := 4) (.slice (some adb) lb.length cb) hS ?_
  refine yyk (i := 5) (.int .i64 ((k : Nat) : Int)) hS ?_
  refine yyv (i := 6) (.pointer (some (adb.add (k * 2)))) (fun w hS => (run_indexAddr' (kd := .i64) (i := ((k : Nat) : Int)) (n := lb.length) (c := cb) k rfl Tryz.underlying33 Tryz.sizeOf115 (by kernel_rfl) (by kernel_rfl) rfl (by first | assumption | omega) _)) hS ?_
  refine yyv (i := 7) (.agg #[.string (str y.key), .string (str y.val)]) (fun w hS => run_loadAtN (i := k * 2) [.string (str y.key), .string (str y.val)] hS.2.1 rfl (by kernel_rfl) Tryz.isAgg115 Tryz.sizeOf115 (fun q_ hq_ => rws_at hy hq_) rfl) hS ?_; clear ha; intro a ha
  refine Head.done (by kernel_rfl) ?_
  clear hS; simp only [List.drop_succ_cons, List.drop_zero]
  refine zw (.bool (decide (x ≠ y))) ha (run_rw (x := x) (y := y) (.inr rfl) rfl (by kernel_rfl) (by kernel_rfl) _) ?_; clear ha; intro a ha
  refine zn2 ?_
  refine zzh (decide (x ≠ y)) ha ?_ ?_ <;> intro hb
  ·
   rw [hb] at ha; replace hb : (x ≠ y) := of_decide_eq_true hb
   refine zn1 ?_
   refine zv (.bool false) ha ?_; clear ha; intro a ha
   refine zn2 ?_
   refine wp_ret ?_
   refine block_ret ?_
   refine then_ret ?_
   refine then_ret ?_
   refine block_ret ?_
   refine then_ret ?_
   refine zzr (v := .bool false) ha ?_
   refine ⟨?_, s⟩
   rw [decide_eq_false (fun e => by subst e; rw [hx] at hy; cases hy; exact hb rfl)]
  rw [hb] at ha; replace hb : ¬ (x ≠ y) := of_decide_eq_false hb
  replace hb : x = y := Decidable.not_not.1 hb
  refine wp_skip ?_
  refine block_normal ?_
  refine then_normal ?_
  refine wp_region_lit ?_
  refine zw (.int .i64 ((k + 1 : Nat) : Int)) ha zar ?_
  refine zzv (.int .i64 ((k + 1 : Nat) : Int)) ?_; clear ha; intro a ha
  refine zn2 ?_
  exact ⟨k + 1, by omega, (Has.cons ha (by kernel_rfl) (by kernel_rfl) (Has.cons ha (by kernel_rfl) (by kernel_rfl) (Has.cons ha (by kernel_rfl) (by kernel_rfl) (Has.cons ha (by kernel_rfl) (by kernel_rfl) (Has.nil ha))))), s, by omega, by rw [take_snoc hx, take_snoc hy, hp.2, hb]⟩
 rw [hb] at ha; replace hb : ¬ (((k : Nat) : Int) < ((la.length : Nat) : Int)) := of_decide_eq_false hb
 refine wp_exit ?_
 refine then_exit ?_
 refine then_exit ?_
 refine block_hit ?_
 refine then_normal ?_
 refine zn1 ?_
 refine zv (.bool true) ha ?_; clear ha; intro a ha
 refine zn2 ?_
 refine wp_ret ?_
 refine zzr (v := .bool true) ha ?_
 refine ⟨?_, s⟩
 have h2 := hp.2
 rw [List.take_of_length_le (by omega), List.take_of_length_le (by omega)] at h2
 rw [decide_eq_true h2]

end Go.Proofs.YtfcbjcohepkkfaaGreat.B
