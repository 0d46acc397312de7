import Derived.Test.YtfcbjcohepkkfaaGreatJ1
import Derived.Test.YtfcbjcohepkkfaaGreatSepY
namespace Go.Proofs.YtfcbjcohepkkfaaGreat.B
open Go.RowKit Go.Maps Go.Sort Go.Shelf Go.Proofs.YtfcbjcohepkkfaaGreat.Sep Go.Proofs.YtfcbjcohepkkfaaGreat.P
set_option linter.unusedVariables false
set_option linter.unusedSimpArgs false
/-! ### the look: two maps, and a block for each transaction -/
def ent (x : Int × Nat × Tx) : Int × Value := (x.1, .pointer (some ⟨x.2.1, 0, none⟩))
def txOf (T : List (Int × Nat × Tx)) (i : Int) : Tx := match T.find? fun x => decide (x.1 = i) with | some x => x.2.2 | none => Tx.zero
def Blks (T : List (Int × Nat × Tx)) : Chunk := star (T.map fun x => .blk x.2.1 (txv x.2.2) 72)
def BRest (T : List (Int × Nat × Tx)) (q : Nat) : Chunk := star ((T.map fun x => Chunk.blk x.2.1 (txv x.2.2) 72).eraseIdx q)
theorem Blks.nil {W w : World} {L : List Chunk} (s : St W L w) : St W (Blks [] :: L) w := ⟨Sat.star_iff.2 s.1, s.2⟩
theorem Blks.snoc {W w : World} {L : List Chunk} {T : List (Int × Nat × Tx)} {i : Int} {b : Nat} {t : Tx} (s : St W (.blk b (txv t) 72 :: Blks T :: L) w) : St W (Blks (T ++ [(i, b, t)]) :: L) w := by
 have s1 : St W (Blks T :: .blk b (txv t) 72 :: L) w := s.perm (List.Perm.swap _ _ _)
 have s2 := Sat.star_iff.1 s1.1
 refine ⟨Sat.star_iff.2 ?_, s.2⟩
 simpa using s2
theorem Blks.open_ {W w : World} {L : List Chunk} {T : List (Int × Nat × Tx)} {q b : Nat} {i : Int} {t : Tx} (hd : T[q]? = some (i, b, t)) (s : St W (Blks T :: L) w) : St W (.blk b (txv t) 72 :: BRest T q :: L) w := by
 have s1 := Sat.star_iff.1 s.1
 have h : (T.map fun x => Chunk.blk x.2.1 (txv x.2.2) 72)[q]? = some (.blk b (txv t) 72) := by rw [List.getElem?_map, hd]; rfl
 have s2 : St W (.blk b (txv t) 72 :: ((T.map fun x => Chunk.blk x.2.1 (txv x.2.2) 72).eraseIdx q ++ L)) w := by
  refine St.perm ⟨s1, s.2⟩ ?_
  exact (perm_at h).append_right L
 have s3 : St W ((T.map fun x => Chunk.blk x.2.1 (txv x.2.2) 72).eraseIdx q ++ (.blk b (txv t) 72 :: L)) w := s2.perm List.perm_middle.symm
 exact (show St W (BRest T q :: .blk b (txv t) 72 :: L) w from ⟨Sat.star_iff.2 s3.1, s3.2⟩).perm (List.Perm.swap _ _ _)
theorem Blks.close {W w : World} {L : List Chunk} {T : List (Int × Nat × Tx)} {q b : Nat} {i : Int} {t : Tx} (hd : T[q]? = some (i, b, t)) (t2 : Tx) (s : St W (.blk b (txv t2) 72 :: BRest T q :: L) w) : St W (Blks (T.set q (i, b, t2)) :: L) w := by
 have s1 : St W (BRest T q :: .blk b (txv t2) 72 :: L) w := s.perm (List.Perm.swap _ _ _)
 have s2 := Sat.star_iff.1 s1.1
 refine ⟨Sat.star_iff.2 ?_, s.2⟩
 rw [List.map_set]
 have h : (T.map fun x => Chunk.blk x.2.1 (txv x.2.2) 72)[q]? = some (.blk b (txv t) 72) := by rw [List.getElem?_map, hd]; rfl
 refine Sat.perm s2 ?_
 refine List.perm_middle.trans ?_
 exact (perm_set h (.blk b (txv t2) 72)).append_right L
theorem ent_set {T : List (Int × Nat × Tx)} {q b : Nat} {i : Int} {t : Tx} (hd : T[q]? = some (i, b, t)) (t2 : Tx) : (T.set q (i, b, t2)).map ent = T.map ent := by
 obtain ⟨hq, e⟩ := List.getElem?_eq_some_iff.1 hd
 rw [List.map_set]
 apply List.ext_getElem?
 intro k
 rw [List.getElem?_set]
 split
 ·
  rename_i h; subst h; simp [hq, e, ent]
 rfl
theorem ids_set {T : List (Int × Nat × Tx)} {q b : Nat} {i : Int} {t : Tx} (hd : T[q]? = some (i, b, t)) (t2 : Tx) : (T.set q (i, b, t2)).map (·.1) = T.map (·.1) := by
 have := congrArg (List.map Prod.fst) (ent_set hd t2)
 rw [List.map_map, List.map_map] at this
 exact this
theorem txOf_at {T : List (Int × Nat × Tx)} (hn : (T.map (·.1)).Nodup) {q b : Nat} {i : Int} {t : Tx} (h : T[q]? = some (i, b, t)) : txOf T i = t := by
 unfold txOf
 induction T generalizing q with
 | nil => cases h
 | cons x T ih =>
  rw [List.map_cons, List.nodup_cons] at hn
  cases q with
  | zero => cases h; simp
  | succ q =>
   have hx : x.1 ≠ i := fun e => hn.1 (e ▸ List.mem_map.2 ⟨_, List.mem_of_getElem? h, rfl⟩)
   rw [List.find?_cons_of_neg (by simpa using hx)]
   exact ih hn.2 h
theorem txOf_none {T : List (Int × Nat × Tx)} {i : Int} (h : ∀ x ∈ T, x.1 ≠ i) : txOf T i = Tx.zero := by
 unfold txOf
 rw [List.find?_eq_none.2 fun x hx => by simpa using h x hx]
theorem txOf_snoc {T : List (Int × Nat × Tx)} {i : Int} {b : Nat} (h : ∀ x ∈ T, x.1 ≠ i) (j : Int) : txOf (T ++ [(i, b, Tx.zero)]) j = txOf T j := by
 unfold txOf
 rw [List.find?_append]
 cases e : T.find? fun x => decide (x.1 = j) with
 | some x => rfl
 | none =>
  by_cases hj : i = j
  ·
   simp [hj]
  simp [hj]
theorem txOf_set {T : List (Int × Nat × Tx)} (hn : (T.map (·.1)).Nodup) {q b : Nat} {i : Int} {t : Tx} (h : T[q]? = some (i, b, t)) (t2 : Tx) (j : Int) : txOf (T.set q (i, b, t2)) j = if j = i then t2 else txOf T j := by
 by_cases hj : j = i
 ·
  subst hj
  rw [if_pos rfl]
  exact txOf_at (by rw [ids_set h]; exact hn) (by rw [List.getElem?_set_self (List.getElem?_eq_some_iff.1 h).1])
 rw [if_neg hj]
 unfold txOf
 induction T generalizing q with
 | nil => cases h
 | cons x T ih =>
  rw [List.map_cons, List.nodup_cons] at hn
  cases q with
  | zero => cases h; rw [List.set_cons_zero, List.find?_cons_of_neg (by simpa using Ne.symm hj), List.find?_cons_of_neg (by simpa using Ne.symm hj)]
  | succ q =>
   rw [List.set_cons_succ]
   by_cases hx : x.1 = j
   ·
    rw [List.find?_cons_of_pos (by simpa using hx), List.find?_cons_of_pos (by simpa using hx)]
   rw [List.find?_cons_of_neg (by simpa using hx), List.find?_cons_of_neg (by simpa using hx)]
   exact ih hn.2 h
theorem mget_ent {T : List (Int × Nat × Tx)} (hn : (T.map (·.1)).Nodup) {q b : Nat} {i : Int} {t : Tx} (h : T[q]? = some (i, b, t)) : mget (T.map ent) i = some (.pointer (some ⟨b, 0, none⟩)) := by
 induction T generalizing q with
 | nil => cases h
 | cons x T ih =>
  rw [List.map_cons, List.nodup_cons] at hn
  rw [List.map_cons, mget]
  cases q with
  | zero => cases h; rw [if_pos (show (ent (i, b, t)).1 = i from rfl)]; rfl
  | succ q =>
   have hx : x.1 ≠ i := fun e => hn.1 (e ▸ List.mem_map.2 ⟨_, List.mem_of_getElem? h, rfl⟩)
   rw [if_neg (show ¬ (ent x).1 = i from hx)]
   exact ih hn.2 h
theorem mget_ent_none {T : List (Int × Nat × Tx)} {i : Int} (h : ∀ x ∈ T, x.1 ≠ i) : mget (T.map ent) i = none := by
 induction T with
 | nil => rfl
 | cons x T ih =>
  rw [List.map_cons, mget, if_neg (show ¬ (ent x).1 = i from h x (by simp))]
  exact ih fun y hy => h y (by simp [hy])
theorem mput_ent {T : List (Int × Nat × Tx)} {i : Int} (h : ∀ x ∈ T, x.1 ≠ i) (b : Nat) (t : Tx) : mput (T.map ent) i (.pointer (some ⟨b, 0, none⟩)) = (T ++ [(i, b, t)]).map ent := by
 induction T with
 | nil => rfl
 | cons x T ih =>
  rw [List.map_cons, mput, if_neg (show ¬ (ent x).1 = i from h x (by simp)), ih fun y hy => h y (by simp [hy])]
  rfl
theorem tx_cases (T : List (Int × Nat × Tx)) (i : Int) : (∃ (q b : Nat) (t : Tx), T[q]? = some (i, b, t)) ∨ ∀ x ∈ T, x.1 ≠ i := by
 by_cases h : ∃ x ∈ T, x.1 = i
 ·
  obtain ⟨⟨j, b, t⟩, hx, rfl⟩ := h
  obtain ⟨q, hq, e⟩ := List.getElem_of_mem hx
  exact .inl ⟨q, b, t, by rw [List.getElem?_eq_getElem hq, e]⟩
 exact .inr fun x hx e => h ⟨x, hx, e⟩
structure LkOk (k : Look) (Dd : List (Int × Value)) (T : List (Int × Nat × Tx)) (n : Nat) : Prop where
 dn : ∀ m, (mget Dd m).getD (.bool false) = .bool (k.dn m)
 tx : ∀ i, txOf T i = k.tx i
 nodup : (T.map (·.1)).Nodup
 room : Dd.length ≤ n ∧ T.length ≤ n
 most : 0 ≤ k.most ∧ k.most ≤ 9007199254740991
theorem LkOk.snoc {k : Look} {Dd : List (Int × Value)} {T : List (Int × Nat × Tx)} {n : Nat} (h : LkOk k Dd T n) {i : Int} (hi : ∀ x ∈ T, x.1 ≠ i) (b : Nat) : LkOk k Dd (T ++ [(i, b, Tx.zero)]) (n + 1) :=
 ⟨h.dn, fun j => by rw [txOf_snoc hi]; exact h.tx j, by
  rw [List.map_append, List.nodup_append]
  refine ⟨h.nodup, by simp, fun a ha c hc => ?_⟩
  obtain ⟨x, hx, rfl⟩ := List.mem_map.1 ha
  rw [List.map_cons, List.map_nil, List.mem_singleton] at hc
  subst hc; exact hi x hx, ⟨by have := h.room.1; omega, by rw [List.length_append]; have := h.room.2; simp; omega⟩, h.most⟩
theorem LkOk.up {k : Look} {Dd : List (Int × Value)} {T : List (Int × Nat × Tx)} {n m : Nat} (h : LkOk k Dd T n) (hm : n ≤ m) : LkOk k Dd T m := ⟨h.dn, h.tx, h.nodup, ⟨by have := h.room.1; omega, by have := h.room.2; omega⟩, h.most⟩

theorem txn_old (W : World) (L : List Chunk) (w : World) (g gd gt : Nat) (k : Look) (Dd : List (Int × Value)) (T : List (Int × Nat × Tx)) (n : Nat) (hk : LkOk k Dd T n) (hn : n ≤ 1000000) (i : Int) (hi : 1 ≤ i ∧ i ≤ 9007199254740991) (q b : Nat) (t : Tx) (ht : T[q]? = some (i, b, t)) (s : St W (Chunk.blk g [.int .i64 k.ti, .int .i64 k.most, .map (some gd), .map (some gt)] 43 :: MapT Tryz.prog 3 encI gd Dd :: MapT Tryz.prog 3 encI gt (T.map ent) :: Blks T :: L) w) :
  Calls Tryz.prog 35 #[.pointer (some ⟨g, 0, none⟩), .int .i64 i] w fun e w' => e = .returned (.pointer (some ⟨b, 0, none⟩)) ∧ St W (Chunk.blk g [.int .i64 k.ti, .int .i64 k.most, .map (some gd), .map (some gt)] 43 :: MapT Tryz.prog 3 encI gd Dd :: MapT Tryz.prog 3 encI gt (T.map ent) :: Blks T :: L) w' := by
 refine enter_args (l := [.pointer (some ⟨g, 0, none⟩), .int .i64 i]) Tryz.func35 rfl rfl (Nat.le_of_ble_eq_true rfl) ?_
 intro a ha; replace ha : Has a 23 [(0, .pointer (some ⟨g, 0, none⟩)), (1, .int .i64 i)] := ha
 refine zn1 ?_
 refine zv (.pointer none) ha ?_; clear ha; intro a ha
 refine zn4 ?_
 refine zv (.pointer (some ⟨g, 0, none⟩)) ha ?_
 refine zzv (.pointer (some ⟨g, 0, none⟩)) ?_
 refine zzv (.pointer (some ⟨g, 3, none⟩)) ?_
 refine zzw (.map (some gt)) (zl1 0 3) ?_
 refine zzv (.int .i64 i) ?_
 refine zzw (.pointer (some ⟨b, 0, none⟩)) (run_lookup (a := i) (.pointer (some ⟨b, 0, none⟩)) (s.mapIs 2 rfl) rfl (by kernel_rfl) (by kernel_rfl) encI_inj keyed3 Tryz.underlying41 Tryz.zeroValue67 (key3 (by omega)) (by rw [mget_ent hk.nodup ht]; rfl)) ?_
 refine zzv (.pointer (some ⟨b, 0, none⟩)) ?_; clear ha; intro a ha
 refine zn2 ?_
 refine wp_seq ?_
 refine zn1 ?_
 refine zv (.pointer (some ⟨b, 0, none⟩)) ha ?_
 refine zzv (.bool false) ?_; clear ha; intro a ha
 refine zn2 ?_
 refine wp_false ha rfl (by kernel_rfl) ?_
 refine wp_skip ?_
 refine then_normal ?_
 refine zn1 ?_
 refine zv (.pointer (some ⟨b, 0, none⟩)) ha ?_
 refine zzv (.pointer (some ⟨b, 0, none⟩)) ?_; clear ha; intro a ha
 refine zn2 ?_
 refine wp_ret ?_
 refine zzr (v := .pointer (some ⟨b, 0, none⟩)) ha ?_
 exact ⟨rfl, s⟩

theorem txn_new (W : World) (L : List Chunk) (w : World) (g gd gt : Nat) (k : Look) (Dd : List (Int × Value)) (T : List (Int × Nat × Tx)) (n : Nat) (hk : LkOk k Dd T n) (hn : n ≤ 1000000) (i : Int) (hi : 1 ≤ i ∧ i ≤ 9007199254740991) (hi2 : ∀ x ∈ T, x.1 ≠ i) (s : St W (Chunk.blk g [.int .i64 k.ti, .int .i64 k.most, .map (some gd), .map (some gt)] 43 :: MapT Tryz.prog 3 encI gd Dd :: MapT Tryz.prog 3 encI gt (T.map ent) :: Blks T :: L) w) :
  Calls Tryz.prog 35 #[.pointer (some ⟨g, 0, none⟩), .int .i64 i] w fun e w' => ∃ b, e = .returned (.pointer (some ⟨b, 0, none⟩)) ∧ St W (Chunk.blk g [.int .i64 k.ti, .int .i64 k.most, .map (some gd), .map (some gt)] 43 :: MapT Tryz.prog 3 encI gd Dd :: MapT Tryz.prog 3 encI gt ((T ++ [(i, b, Tx.zero)]).map ent) :: Blks (T ++ [(i, b, Tx.zero)]) :: L) w' := by
 refine enter_args (l := [.pointer (some ⟨g, 0, none⟩), .int .i64 i]) Tryz.func35 rfl rfl (Nat.le_of_ble_eq_true rfl) ?_
 intro a ha; replace ha : Has a 23 [(0, .pointer (some ⟨g, 0, none⟩)), (1, .int .i64 i)] := ha
 refine zn1 ?_
 refine zv (.pointer none) ha ?_; clear ha; intro a ha
 refine zn4 ?_
 refine zv (.pointer (some ⟨g, 0, none⟩)) ha ?_
 refine zzv (.pointer (some ⟨g, 0, none⟩)) ?_
 refine zzv (.pointer (some ⟨g, 3, none⟩)) ?_
 refine zzw (.map (some gt)) (zl1 0 3) ?_
 refine zzv (.int .i64 i) ?_
 refine zzw (.pointer none) (run_lookup (a := i) (.pointer none) (s.mapIs 2 rfl) rfl (by kernel_rfl) (by kernel_rfl) encI_inj keyed3 Tryz.underlying41 Tryz.zeroValue67 (key3 (by omega)) (by rw [mget_ent_none hi2]; rfl)) ?_
 refine zzv (.pointer none) ?_; clear ha; intro a ha
 refine zn2 ?_
 refine wp_seq ?_
 refine zn1 ?_
 refine zv (.pointer none) ha ?_
 refine zzv (.bool true) ?_; clear ha; intro a ha
 refine zn2 ?_
 refine wp_true ha rfl (by kernel_rfl) ?_
 refine zn1 ?_
 refine zv (.agg #[.int .i64 0, .int .i64 0, .bool false, .int .i64 0, .int .i64 0, .int .i64 0, .int .i64 0, .int .i64 0, .int .i64 0, .string (str []), .string (str []), .string (str []), .string (str []), .bool false, .slice none 0 0, .int .i64 0, .int .i64 0, .int .i64 0, .int .i64 0, .bool false, .bool false, .int .i64 0, .int .i64 0, .int .i64 0]) ha ?_; clear ha; intro a ha
 refine zze ha (ex_box [.int .i64 0, .int .i64 0, .bool false, .int .i64 0, .int .i64 0, .int .i64 0, .int .i64 0, .int .i64 0, .int .i64 0, .string (str []), .string (str []), .string (str []), .string (str []), .bool false, .slice none 0 0, .int .i64 0, .int .i64 0, .int .i64 0, .int .i64 0, .bool false, .bool false, .int .i64 0, .int .i64 0, .int .i64 0] s rfl (by kernel_rfl)) ?_
 clear ha; rintro _ w a ⟨g1, rfl, s⟩ ha
 refine zv (.pointer (some ⟨g1, 0, none⟩)) ha ?_; clear ha; intro a ha
 refine zn3 ?_
 refine zv (.pointer (some ⟨g, 0, none⟩)) ha ?_
 refine zzv (.pointer (some ⟨g, 0, none⟩)) ?_
 refine zzv (.pointer (some ⟨g, 3, none⟩)) ?_
 refine zzw (.map (some gt)) (zl1 1 3) ?_
 refine zzv (.int .i64 i) ?_
 refine zzv (.pointer (some ⟨g1, 0, none⟩)) ?_; clear ha; intro a ha
 refine zzd ha (ex_mapUpdate (a := i) 3 (.pointer (some ⟨g1, 0, none⟩)) s rfl rfl (by kernel_rfl) (by kernel_rfl) (by kernel_rfl) encI_inj keyed3 Tryz.underlying41 (key3 (by omega)) (by rw [List.length_map]; have := hk.room.2; simp only [maxLen]; omega)) ?_
 clear ha; rintro w a s ha
 dsimp only [List.set, putAt] at s
 refine zn4 ?_
 refine zv (.pointer (some ⟨g1, 0, none⟩)) ha ?_
 refine zzv (.pointer (some ⟨g1, 0, none⟩)) ?_; clear ha; intro a ha
 refine zn2 ?_
 refine wp_ret ?_
 refine zzr (v := .pointer (some ⟨g1, 0, none⟩)) ha ?_
 replace s := ((((s.at_ (j := 3) rfl).at_ (j := 3) rfl).at_ (j := 3) rfl).at_ (j := 4) rfl).at_ (j := 4) rfl
 dsimp only [List.eraseIdx] at s
 replace s := Blks.snoc (i := i) (t := Tx.zero) s
 rw [mput_ent hi2 g1 Tx.zero] at s
 replace s := s.at_ (j := 3) rfl
 replace s := s.at_ (j := 3) rfl
 replace s := s.at_ (j := 3) rfl
 exact ⟨g1, rfl, s⟩

theorem txn_any (W : World) (L : List Chunk) (w : World) (g gd gt : Nat) (k : Look) (Dd : List (Int × Value)) (T : List (Int × Nat × Tx)) (n : Nat) (hk : LkOk k Dd T n) (hn : n ≤ 1000000) (i : Int) (hi : 1 ≤ i ∧ i ≤ 9007199254740991) (s : St W (Chunk.blk g [.int .i64 k.ti, .int .i64 k.most, .map (some gd), .map (some gt)] 43 :: MapT Tryz.prog 3 encI gd Dd :: MapT Tryz.prog 3 encI gt (T.map ent) :: Blks T :: L) w) :
  Calls Tryz.prog 35 #[.pointer (some ⟨g, 0, none⟩), .int .i64 i] w fun e w' => ∃ (T2 : List (Int × Nat × Tx)) (q b : Nat), e = .returned (.pointer (some ⟨b, 0, none⟩)) ∧ T2[q]? = some (i, b, k.tx i) ∧ LkOk k Dd T2 (n + 1) ∧ St W (Chunk.blk g [.int .i64 k.ti, .int .i64 k.most, .map (some gd), .map (some gt)] 43 :: MapT Tryz.prog 3 encI gd Dd :: MapT Tryz.prog 3 encI gt (T2.map ent) :: Blks T2 :: L) w' := by
 rcases tx_cases T i with ⟨q, b, t, ht⟩ | hi2
 ·
  refine (txn_old W L w g gd gt k Dd T n hk hn i hi q b t ht s).mono ?_
  rintro e w' ⟨rfl, s⟩
  have := txOf_at hk.nodup ht
  rw [hk.tx] at this
  exact ⟨T, q, b, rfl, by rw [this]; exact ht, hk.up (by omega), s⟩
 refine (txn_new W L w g gd gt k Dd T n hk hn i hi hi2 s).mono ?_
 rintro e w' ⟨b, rfl, s⟩
 have := txOf_none hi2
 rw [hk.tx] at this
 exact ⟨_, T.length, b, rfl, by rw [this]; simp, hk.snoc hi2 b, s⟩

end Go.Proofs.YtfcbjcohepkkfaaGreat.B
