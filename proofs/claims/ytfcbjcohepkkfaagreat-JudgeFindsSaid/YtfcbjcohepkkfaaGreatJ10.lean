import Derived.Test.YtfcbjcohepkkfaaGreatJ7
import Derived.Test.YtfcbjcohepkkfaaGreatSepY
namespace Go.Proofs.YtfcbjcohepkkfaaGreat.B
open Go.RowKit Go.Maps Go.Sort Go.Shelf Go.Proofs.YtfcbjcohepkkfaaGreat.Sep Go.Proofs.YtfcbjcohepkkfaaGreat.P
set_option linter.unusedVariables false
set_option linter.unusedSimpArgs false
theorem elt49 : Elt Tryz.prog 49 54 1 24 := ⟨by kernel_rfl, by kernel_rfl⟩
theorem zs49 : (Tryz.prog.info? 54).bind (fun i => i.zero.map (·.cells)) = some #[.slice none 0 0] := by kernel_rfl
theorem elt22 : Elt Tryz.prog 22 37 16 176 := ⟨by kernel_rfl, by kernel_rfl⟩
theorem zs22 : (Tryz.prog.info? 37).bind (fun i => i.zero.map (·.cells)) = some (evv ⟨0, 0, 0, 0, 0, 0, [], [], [], [], false, [], none, 0, 0, 0, 0, 0⟩).toArray := by kernel_rfl
theorem ordStep_len (tx : Int → Tx) (acc : List Pl) (p : Nat × Ev) : (ordStep tx acc p).length ≤ acc.length + 1 := by
 have h1 : ∀ t i, (newPl t i acc).length ≤ acc.length + 1 := fun t i => by unfold newPl; split <;> simp
 have h2 : ∀ a, (addPl p a).length = a.length := fun a => by unfold addPl; simp
 unfold ordStep
 split
 ·
  split
  ·
   rw [h2]; exact h1 _ _
  exact h1 _ _
 omega
theorem ordL_len (tx : Int → Tx) (l : List Ev) : (ordL tx l).length ≤ l.length := by
 have : ∀ (m : List (Nat × Ev)) (acc : List Pl), (m.foldl (ordStep tx) acc).length ≤ acc.length + m.length := by
  intro m
  induction m with
  | nil => intro acc; simp
  | cons p m ih => intro acc; have := ih (ordStep tx acc p); have := ordStep_len tx acc p; simp only [List.foldl_cons, List.length_cons]; omega
 have := this (numd l) []
 simpa [ordL, numd] using this
theorem putAt_nvs {ds : List Dn} {m : Nat} {d : Dn} (hd : ds[m]? = some d) (A : Option Addr) (c : Nat) (l : List Dd) : putAt (nvs ds) (m * 4 + 3) [.slice A l.length c] = nvs (ds.set m { d with A := A, c := c, l := l }) := by
 obtain ⟨hm, e0⟩ := List.getElem?_eq_some_iff.1 hd
 have e : ds = ds.take m ++ (d :: ds.drop (m + 1)) := by rw [← e0, ← List.drop_eq_getElem_cons hm, List.take_append_drop]
 have h1 : ∀ z : Dn, nvs (ds.take m ++ (z :: ds.drop (m + 1))) = nvs (ds.take m) ++ (nv z ++ nvs (ds.drop (m + 1))) := fun z => by simp [nvs]
 have l1 : (nvs (ds.take m)).length = m * 4 := by rw [nvs_len, List.length_take, Nat.min_eq_left (by omega)]
 rw [List.set_eq_take_append_cons_drop, if_pos hm, h1]
 show (nvs ds).set (m * 4 + 3) _ = _
 conv => lhs; rw [e, h1]
 rw [List.set_append_right _ _ (by omega), l1, Nat.add_sub_cancel_left]
 rfl
theorem putAt_ats {rs : List At} {m : Nat} (hm : m < rs.length) (a : At) : putAt (ats rs) (m * 1) (atv a) = ats (rs.set m a) := by
 show (ats rs).set (m * 1) _ = _
 unfold ats
 rw [Nat.mul_one, List.map_set]
theorem ats_at {rs : List At} {m : Nat} {a : At} (h : rs[m]? = some a) : (ats rs)[m]? = some (.slice a.A a.l.length a.c) := by simp [ats, h]
theorem ats_snoc (l : List At) (a : At) : ats l ++ atv a = ats (l ++ [a]) := by simp [ats, atv]
theorem nvs_snoc (ds : List Dn) (d : Dn) : nvs ds ++ nv d = nvs (ds ++ [d]) := by simp [nvs]
theorem ordStep_no {tx : Int → Tx} {acc : List Pl} {i : Nat} {x : Ev} (h : hasB x = false ∨ (tx x.id).comm = false) : ordStep tx acc (i, x) = acc := by
 unfold ordStep; rcases h with h | h <;> simp [h]
theorem newPl_some {t : Tx} {i : Int} {acc : List Pl} {n : Nat} (h : (acc.findIdx? fun q => decide (q.id = i)) = some n) : newPl t i acc = acc ∧ ∃ q, acc[n]? = some q ∧ q.id = i := by
 obtain ⟨hn, h1, _⟩ := List.findIdx?_eq_some_iff_getElem.1 h
 have h2 : acc[n].id = i := by simpa using h1
 exact ⟨by unfold newPl; rw [if_pos (List.any_eq_true.2 ⟨acc[n], List.getElem_mem hn, by simpa using h2⟩)], acc[n], List.getElem?_eq_getElem hn, h2⟩
theorem newPl_none {t : Tx} {i : Int} {acc : List Pl} (h : (acc.findIdx? fun q => decide (q.id = i)) = none) : newPl t i acc = acc ++ [⟨i, t.wall, t.logic, []⟩] := by
 have h1 := List.findIdx?_eq_none_iff.1 h
 unfold newPl
 rw [if_neg fun h2 => by obtain ⟨q, hq, e⟩ := List.any_eq_true.1 h2; have := h1 q hq; rw [e] at this; cases this]

theorem OrdOk.pick {acc : List Pl} {ds : List Dn} {rs : List At} {D : List (Int × Value)} (h : OrdOk acc ds rs D) {m : Nat} {q : Pl} (hq : acc[m]? = some q) : ∃ d a, ds[m]? = some d ∧ rs[m]? = some a ∧ d.l.length = q.th.length ∧ a.l.length = q.th.length := by
 obtain ⟨hm, _⟩ := List.getElem?_eq_some_iff.1 hq
 have hl := h.len
 refine ⟨ds[m]'(by omega), rs[m]'(by omega), List.getElem?_eq_getElem _, List.getElem?_eq_getElem _, ?_, ?_⟩
 ·
  have := congrArg (·[m]?) h.all
  simp only [List.getElem?_map, hq, List.getElem?_eq_getElem (show m < ds.length by omega), Option.map_some, Option.some.injEq, Prod.mk.injEq] at this
  rw [this.2.2.2, List.length_map]
 have := congrArg (·[m]?) h.at_
 simp only [List.getElem?_map, hq, List.getElem?_eq_getElem (show m < rs.length by omega), Option.map_some, Option.some.injEq] at this
 rw [this, List.length_map]
theorem newPl_th {t : Tx} {i : Int} {acc : List Pl} {b : Nat} (h : ∀ q ∈ acc, q.th.length ≤ b) : ∀ q ∈ newPl t i acc, q.th.length ≤ b := by
 intro q hq
 unfold newPl at hq
 split at hq
 ·
  exact h q hq
 rcases List.mem_append.1 hq with hq | hq
 ·
  exact h q hq
 rw [List.mem_singleton] at hq; subst hq; exact Nat.zero_le _
theorem ordStep_th {tx : Int → Tx} {acc : List Pl} {p : Nat × Ev} {b : Nat} (h : ∀ q ∈ acc, q.th.length ≤ b) : ∀ q ∈ ordStep tx acc p, q.th.length ≤ b + 1 := by
 have hn := newPl_th (t := tx p.2.id) (i := p.2.id) h
 intro q hq
 unfold ordStep at hq
 split at hq
 ·
  split at hq
  ·
   unfold addPl at hq
   obtain ⟨y, hy, e⟩ := List.mem_map.1 hq
   have := hn y hy
   split at e <;> subst e
   ·
    simp; omega
   omega
  have := hn q hq; omega
 have := h q hq; omega
theorem ordL_th (tx : Int → Tx) (l : List Ev) : ∀ q ∈ ordL tx l, q.th.length ≤ l.length := by
 have : ∀ (m : List (Nat × Ev)) (acc : List Pl) (b : Nat), (∀ q ∈ acc, q.th.length ≤ b) → ∀ q ∈ m.foldl (ordStep tx) acc, q.th.length ≤ b + m.length := by
  intro m
  induction m with
  | nil => intro acc b h q hq; simpa using h q hq
  | cons p m ih => intro acc b h q hq; have := ih (ordStep tx acc p) (b + 1) (ordStep_th h) q hq; simp only [List.length_cons]; omega
 have := this (numd l) [] 0 (fun q hq => by cases hq)
 simpa [ordL, numd] using this
theorem ordStep_nd {tx : Int → Tx} {acc : List Pl} {i : Nat} {x : Ev} (h1 : hasB x = true) (h2 : (tx x.id).comm = true) (h3 : didB (tx x.id).epoch x = false) : ordStep tx acc (i, x) = newPl (tx x.id) x.id acc := by
 unfold ordStep; simp [h1, h2, h3]
theorem ordStep_d {tx : Int → Tx} {acc : List Pl} {i : Nat} {x : Ev} (h1 : hasB x = true) (h2 : (tx x.id).comm = true) (h3 : didB (tx x.id).epoch x = true) : ordStep tx acc (i, x) = addPl (i, x) (newPl (tx x.id) x.id acc) := by
 unfold ordStep; simp [h1, h2, h3]

set_option maxRecDepth 100000 in
set_option maxHeartbeats 4000000 in
theorem order_any (W : World) (L : List Chunk) (w : World) (g gd gt : Nat) (k : Look) (Dd : List (Int × Value)) (T : List (Int × Nat × Tx)) (n : Nat) (hk : LkOk k Dd T n) (hn : n ≤ 1000000) (A : Option Addr) (ca : Nat) (l : List Ev) (hr : Knows L (EvsIn A l)) (hl : l.length ≤ 5000) (hn3 : n ≤ 100000) (hok : ∀ x ∈ l, hasB x = true → 1 ≤ x.id ∧ x.id ≤ 9007199254740991) (s : St W (Chunk.blk g [.int .i64 k.ti, .int .i64 k.most, .map (some gd), .map (some gt)] 43 :: MapT Tryz.prog 3 encI gd Dd :: MapT Tryz.prog 3 encI gt (T.map ent) :: Blks T :: L) w) :
  Calls Tryz.prog 18 #[.pointer (some ⟨g, 0, none⟩), .slice A l.length ca] w fun e w' => ∃ T2 A1 c1 ds B1 c2 rs D, e = .returned (.tuple #[.slice A1 ds.length c1, .slice B1 rs.length c2]) ∧ LkOk k Dd T2 (n + 10000) ∧ OrdOk (ordL k.tx l) ds rs D ∧ St W (Own 77 4 A1 ds.length c1 (nvs ds) :: Inn 79 ds :: Own 54 1 B1 rs.length c2 (ats rs) :: InnA rs :: Chunk.blk g [.int .i64 k.ti, .int .i64 k.most, .map (some gd), .map (some gt)] 43 :: MapT Tryz.prog 3 encI gd Dd :: MapT Tryz.prog 3 encI gt (T2.map ent) :: Blks T2 :: L) w' := by
 skip
 refine enter_args (l := [.pointer (some ⟨g, 0, none⟩), .slice A l.length ca]) Tryz.func18 rfl rfl (Nat.le_of_ble_eq_true rfl) ?_
 intro a ha; replace ha : Has a 124 [(0, .pointer (some ⟨g, 0, none⟩)), (1, .slice A l.length ca)] := ha
 refine zn1 ?_
 refine zv (.slice none 0 0) ha ?_
 refine zzv (.slice none 0 0) ?_; clear ha; intro a ha
 refine zn4 ?_
 refine zze ha (ex_makeMap Tryz.prog 3 encI s rfl) ?_
 clear ha; rintro _ w a ⟨g1, rfl, s⟩ ha
 refine zv (.map (some g1)) ha ?_; clear ha; intro a ha
 refine zn2 ?_
 refine wp_seq ?_
 refine zn1 ?_
 refine zv (.slice A l.length ca) ha ?_
 refine zzv (.int .i64 ((l.length : Nat) : Int)) ?_
 refine zzv (.int .i64 0) ?_; clear ha; intro a ha
 refine zn2 ?_
 refine wp_block ?_
 replace s := star_nil (F := fun d : Dn => Own 79 7 d.A d.l.length d.c (dvs d.l)) (star_nil (F := fun a : At => Own 3 1 a.A a.l.length a.c (nats a.l)) (Own.none_ (e := 77) (k := 4) none (Own.none_ (e := 54) (k := 1) none s)))
 replace s := ((((((((s.at_ (j := 4) rfl).at_ (j := 2) rfl).at_ (j := 4) rfl).at_ (j := 3) rfl).at_ (j := 4) rfl).at_ (j := 8) rfl).at_ (j := 8) rfl).at_ (j := 8) rfl).at_ (j := 8) rfl
 dsimp only [List.eraseIdx] at s
 refine wp_loopG (G := (Nat × List (Int × Nat × Tx) × Option Addr × Nat × List Dn × Option Addr × Nat × List At × List (Int × Value))) (fun ⟨i, T, A1, c1, ds, B1, c2, rs, D⟩ a w => Has a 124 [(0, .pointer (some ⟨g, 0, none⟩)), (6, .map (some g1)), (13, .slice A l.length ca), (14, .int .i64 ((l.length : Nat) : Int)), (4, .slice A1 ds.length c1), (5, .slice B1 rs.length c2), (15, .int .i64 ((i : Nat) : Int))] ∧ St W (.blk g [.int .i64 k.ti, .int .i64 k.most, .map (some gd), .map (some gt)] 43 :: MapT Tryz.prog 3 encI gd Dd :: MapT Tryz.prog 3 encI gt (T.map ent) :: Blks T :: Own 77 4 A1 ds.length c1 (nvs ds) :: star (ds.map fun d => Own 79 7 d.A d.l.length d.c (dvs d.l)) :: Own 54 1 B1 rs.length c2 (ats rs) :: star (rs.map fun a => Own 3 1 a.A a.l.length a.c (nats a.l)) :: MapT Tryz.prog 3 encI g1 D :: L) w ∧ (i ≤ l.length ∧ LkOk k Dd T (n + 2 * i) ∧ OrdOk (ordL k.tx (l.take i)) ds rs D)) (fun ⟨i, T, A1, c1, ds, B1, c2, rs, D⟩ => l.length - i) (0, T, none, 0, [], none, 0, [], []) ?_ ?_
 ·
  exact ⟨(Has.cons ha (by kernel_rfl) (by kernel_rfl) (Has.cons ha (by kernel_rfl) (by kernel_rfl) (Has.cons ha (by kernel_rfl) (by kernel_rfl) (Has.cons ha (by kernel_rfl) (by kernel_rfl) (Has.cons ha (by kernel_rfl) (by kernel_rfl) (Has.cons ha (by kernel_rfl) (by kernel_rfl) (Has.cons ha (by kernel_rfl) (by kernel_rfl) (Has.nil ha)))))))), s, ⟨Nat.zero_le _, hk, OrdOk.start⟩⟩
 clear ha s; rintro ⟨i, T, A1, c1, ds, B1, c2, rs, D⟩ a w ⟨ha, s, hp⟩
 refine zn1 ?_
 refine zv (.bool (decide (((i : Nat) : Int) < ((l.length : Nat) : Int)))) ha ?_; clear ha; intro a ha
 refine zn2 ?_
 refine wp_seq ?_
 refine zzh (decide (((i : Nat) : Int) < ((l.length : Nat) : Int))) ha ?_ ?_ <;> intro hb
 ·
  rw [hb] at ha; replace hb : (((i : Nat) : Int) < ((l.length : Nat) : Int)) := of_decide_eq_true hb
  have hk := hp.2.1
  have ho := hp.2.2
  have hol := ho.len
  have hoL := ordL_len k.tx (l.take i)
  rw [List.length_take, Nat.min_eq_left (by omega)] at hoL
  obtain ⟨x, hx⟩ : ∃ x, l[i]? = some x := ⟨_, List.getElem?_eq_getElem (by omega)⟩
  obtain ⟨ad, hA⟩ := Reads.addr (hr _ s.sat.tail.tail.tail.tail.tail.tail.tail.tail.tail).1 (by omega)
  subst hA
  refine wp_skip ?_
  refine then_normal ?_
  refine wp_seq ?_
  refine wp_block ?_
  refine zn1 ?_
  refine zv (.int .i64 ((i : Nat) : Int)) ha ?_
  refine zzw (.pointer (some (ad.add (i * 16)))) (run_indexAddr' (kd := .i64) (i := ((i : Nat) : Int)) (n := l.length) (c := ca) i rfl Tryz.underlying22 Tryz.sizeOf37 (by kernel_rfl) (by kernel_rfl) rfl (by first | assumption | omega) _) ?_
  refine zzw (.agg (evv x).toArray) (run_loadAtN (i := i * 16) (evv x) ((hr _ s.sat.tail.tail.tail.tail.tail.tail.tail.tail.tail).1) rfl (by kernel_rfl) Tryz.isAgg37 Tryz.sizeOf37 (fun q_ hq_ => evs_at hx hq_) rfl) ?_; clear ha; intro a ha
  refine zze ha (ex_alloc (evv ⟨0, 0, 0, 0, 0, 0, [], [], [], [], false, [], none, 0, 0, 0, 0, 0⟩) s rfl (Tryz.zeroValue37 _) (by kernel_rfl)) ?_
  clear ha; rintro _ w a ⟨g2, rfl, s⟩ ha
  refine zv (.int .i64 ((i : Nat) : Int)) ha ?_; clear ha; intro a ha
  refine zzd ha (ex_store (of_ := 0) 0 (evv x) s rfl rfl (by kernel_rfl) (by kernel_rfl) (Tryz.sizeOf37 _) rfl (by simp [evv, txv, Value.oneCell']) (Nat.le_of_ble_eq_true rfl)) ?_
  clear ha; rintro w a s ha
  dsimp only [List.set, putAt] at s
  refine zn2 ?_
  refine wp_seq ?_
  refine zn1 ?_
  refine zw (.agg (evv x).toArray) ha (zln 0 0) ?_; clear ha; intro a ha
  refine zzc ha (has_id W _ w x s) ?_
  rintro _ w ⟨rfl, s⟩
  refine ⟨_, rfl, ?_⟩; clear ha; intro a ha
  refine zv (.bool (!(hasB x))) ha ?_
  refine zzv (.bool (!(hasB x))) ?_; clear ha; intro a ha
  rcases Bool.eq_false_or_eq_true (!(hasB x)) with hb | hb
  ·
   rw [hb] at ha; skip
   have hstep : OrdOk (ordStep k.tx (ordL k.tx (l.take i)) (i, x)) ds rs D := by rw [ordStep_no (.inl (by simpa using hb))]; exact ho
   refine zp ha ?_
   iterate 8 refine zzp ?_
   refine zzv (.bool true) ?_; clear ha; intro a ha
   refine zn2 ?_
   refine wp_true ha rfl (by kernel_rfl) ?_
   refine wp_exit ?_
   refine then_exit ?_
   refine block_hit ?_
   refine then_normal ?_
   refine wp_region_lit ?_
   refine zw (.int .i64 ((i + 1 : Nat) : Int)) ha zar ?_
   refine zzv (.int .i64 ((i + 1 : Nat) : Int)) ?_; clear ha; intro a ha
   refine zn2 ?_
   replace s := ((((((((s.at_ (j := 9) rfl).at_ (j := 9) rfl).at_ (j := 9) rfl).at_ (j := 9) rfl).at_ (j := 9) rfl).at_ (j := 9) rfl).at_ (j := 9) rfl).at_ (j := 9) rfl).at_ (j := 9) rfl
   replace s := s.k9_1
   exact ⟨(i + 1, T, A1, c1, ds, B1, c2, rs, D), (show l.length - (i + 1) < l.length - i by omega), (Has.cons ha (by kernel_rfl) (by kernel_rfl) (Has.cons ha (by kernel_rfl) (by kernel_rfl) (Has.cons ha (by kernel_rfl) (by kernel_rfl) (Has.cons ha (by kernel_rfl) (by kernel_rfl) (Has.cons ha (by kernel_rfl) (by kernel_rfl) (Has.cons ha (by kernel_rfl) (by kernel_rfl) (Has.cons ha (by kernel_rfl) (by kernel_rfl) (Has.nil ha)))))))), s, (show i + 1 ≤ l.length by omega), hk.up (by omega), by rw [ordL_step hx]; exact hstep⟩
  rw [hb] at ha; skip
  have hhx : hasB x = true := by simpa using hb
  have hid := hok x (List.mem_of_getElem? hx) hhx
  refine zv (.pointer (some ⟨g, 0, none⟩)) ha ?_
  refine zzv (.pointer (some ⟨g2, 3, none⟩)) ?_
  refine zzw (.int .i64 x.id) (zl1 0 3) ?_; clear ha; intro a ha
  replace s := (((s.at_ (j := 4) rfl).at_ (j := 4) rfl).at_ (j := 4) rfl).at_ (j := 4) rfl
  dsimp only [List.eraseIdx] at s
  refine zzc ha (txn_any W _ w g gd gt k Dd T (n + 2 * i) hk (by omega) x.id hid s) ?_
  rintro _ w ⟨T, q, b, rfl, ht2, hk, s⟩
  obtain ⟨t, ht⟩ : ∃ t, t = k.tx x.id := ⟨_, rfl⟩
  rw [← ht] at ht2
  replace s := s.at_ (j := 3) rfl
  dsimp only [List.eraseIdx] at s
  replace s := Blks.open_ ht2 s
  refine ⟨_, rfl, ?_⟩; clear ha; intro a ha
  refine zv (.pointer (some ⟨b, 0, none⟩)) ha ?_
  refine zzv (.pointer (some ⟨b, 19, none⟩)) ?_
  refine zzv (.pointer (some ⟨b, 19, none⟩)) ?_
  refine zzw (.bool t.comm) (zl1 0 19) ?_
  refine zzv (.bool (!t.comm)) ?_
  refine zzv (.bool (!t.comm)) ?_; clear ha; intro a ha
  refine zn2 ?_
  refine zzh (!t.comm) ha ?_ ?_ <;> intro hb
  ·
   rw [hb] at ha; skip
   have hstep : OrdOk (ordStep k.tx (ordL k.tx (l.take i)) (i, x)) ds rs D := by rw [ordStep_no (.inr (by rw [← ht]; simpa using hb))]; exact ho
   refine wp_exit ?_
   refine then_exit ?_
   refine block_hit ?_
   refine then_normal ?_
   refine wp_region_lit ?_
   refine zw (.int .i64 ((i + 1 : Nat) : Int)) ha zar ?_
   refine zzv (.int .i64 ((i + 1 : Nat) : Int)) ?_; clear ha; intro a ha
   refine zn2 ?_
   replace s := Blks.back ht2 s
   replace s := ((((((((s.at_ (j := 9) rfl).at_ (j := 9) rfl).at_ (j := 9) rfl).at_ (j := 9) rfl).at_ (j := 9) rfl).at_ (j := 5) rfl).at_ (j := 8) rfl).at_ (j := 8) rfl).at_ (j := 8) rfl
   replace s := s.k9_1
   exact ⟨(i + 1, T, A1, c1, ds, B1, c2, rs, D), (show l.length - (i + 1) < l.length - i by omega), (Has.cons ha (by kernel_rfl) (by kernel_rfl) (Has.cons ha (by kernel_rfl) (by kernel_rfl) (Has.cons ha (by kernel_rfl) (by kernel_rfl) (Has.cons ha (by kernel_rfl) (by kernel_rfl) (Has.cons ha (by kernel_rfl) (by kernel_rfl) (Has.cons ha (by kernel_rfl) (by kernel_rfl) (Has.cons ha (by kernel_rfl) (by kernel_rfl) (Has.nil ha)))))))), s, (show i + 1 ≤ l.length by omega), hk.up (by omega), by rw [ordL_step hx]; exact hstep⟩
  rw [hb] at ha; skip
  have hcm : t.comm = true := by simpa using hb
  obtain ⟨pm, hpm⟩ : ∃ pm, pm = ((ordL k.tx (l.take i)).findIdx? fun q => decide (q.id = x.id)) := ⟨_, rfl⟩
  refine wp_skip ?_
  refine then_normal ?_
  refine zn1 ?_
  refine zv (.pointer (some ⟨g, 0, none⟩)) ha ?_
  refine zzv (.pointer (some ⟨g2, 3, none⟩)) ?_
  refine zzw (.int .i64 x.id) (zl1 5 3) ?_; clear ha; intro a ha
  replace s := Blks.back ht2 s
  replace s := ((s.at_ (j := 3) rfl).at_ (j := 3) rfl).at_ (j := 3) rfl
  dsimp only [List.eraseIdx] at s
  refine zzc ha (txn_any W _ w g gd gt k Dd T ((n + 2 * i) + 1) hk (by omega) x.id hid s) ?_
  rintro _ w ⟨T, q, b, rfl, ht2, hk, s⟩
  rw [← ht] at ht2
  replace s := s.at_ (j := 3) rfl
  dsimp only [List.eraseIdx] at s
  replace s := Blks.open_ ht2 s
  refine ⟨_, rfl, ?_⟩; clear ha; intro a ha
  refine zv (.pointer (some ⟨b, 0, none⟩)) ha ?_
  refine zzv (.pointer (some ⟨b, 19, none⟩)) ?_
  refine zzw (.agg #[.bool t.comm, .bool t.abrt, .int .i64 t.epoch, .int .i64 t.wall, .int .i64 t.logic]) (zln 0 19) ?_; clear ha; intro a ha
  refine zze ha (ex_alloc [.bool false, .bool false, .int .i64 0, .int .i64 0, .int .i64 0] s rfl (Tryz.zeroValue70 _) (by kernel_rfl)) ?_
  clear ha; rintro _ w a ⟨g3, rfl, s⟩ ha
  refine zzd ha (ex_store (of_ := 0) 0 [.bool t.comm, .bool t.abrt, .int .i64 t.epoch, .int .i64 t.wall, .int .i64 t.logic] s rfl rfl (by kernel_rfl) (by kernel_rfl) (Tryz.sizeOf70 _) rfl (by simp [Value.oneCell']) (Nat.le_of_ble_eq_true rfl)) ?_
  clear ha; rintro w a s ha
  dsimp only [List.set, putAt] at s
  refine zn4 ?_
  refine zv (.map (some g1)) ha ?_
  refine zzv (.pointer (some ⟨g2, 3, none⟩)) ?_
  refine zzw (.int .i64 x.id) (zl1 6 3) ?_
  refine zzw (.tuple #[.int .i64 ((pm.getD 0 : Nat) : Int), .bool pm.isSome]) (run_lookup_ok (a := x.id) (.int .i64 ((pm.getD 0 : Nat) : Int)) pm.isSome (s.mapIs 11 rfl) rfl (by kernel_rfl) (by kernel_rfl) encI_inj keyed3 Tryz.underlying73 Tryz.zeroValue3 (key3 (by omega)) (by rw [ho.place, ← hpm]; cases pm <;> rfl) (by rw [ho.place, ← hpm]; cases pm <;> rfl)) ?_
  refine zzv (.tuple #[.int .i64 ((pm.getD 0 : Nat) : Int), .bool pm.isSome]) ?_
  refine zzv (.int .i64 ((pm.getD 0 : Nat) : Int)) ?_
  refine zzv (.bool pm.isSome) ?_
  refine zzv (.int .i64 ((pm.getD 0 : Nat) : Int)) ?_
  refine zzv (.bool pm.isSome) ?_; clear ha; intro a ha
  refine zn2 ?_
  replace s := (s.at_ (j := 2) rfl).at_ (j := 2) rfl
  dsimp only [List.eraseIdx] at s
  replace s := Blks.back ht2 s
  refine wp_between (fun a w => ∃ (A1 : Option Addr) (c1 : Nat) (ds2 : List Dn) (B1 : Option Addr) (c2 : Nat) (rs2 : List At) (D2 : List (Int × Value)) (m : Nat) (q0 : Pl), Has a 124 [(0, .pointer (some ⟨g, 0, none⟩)), (6, .map (some g1)), (7, .int .i64 ((i : Nat) : Int)), (8, .pointer (some ⟨g2, 0, none⟩)), (9, .pointer (some ⟨g3, 0, none⟩)), (13, .slice (some ad) l.length ca), (14, .int .i64 ((l.length : Nat) : Int)), (15, .int .i64 ((i : Nat) : Int)), (4, .slice A1 ds2.length c1), (5, .slice B1 rs2.length c2), (10, .int .i64 ((m : Nat) : Int))] ∧ St W (.blk g [.int .i64 k.ti, .int .i64 k.most, .map (some gd), .map (some gt)] 43 :: MapT Tryz.prog 3 encI gd Dd :: MapT Tryz.prog 3 encI gt (T.map ent) :: Blks T :: Own 77 4 A1 ds2.length c1 (nvs ds2) :: star (ds2.map fun d => Own 79 7 d.A d.l.length d.c (dvs d.l)) :: Own 54 1 B1 rs2.length c2 (ats rs2) :: star (rs2.map fun a => Own 3 1 a.A a.l.length a.c (nats a.l)) :: MapT Tryz.prog 3 encI g1 D2 :: .blk g2 (evv x) 37 :: .blk g3 [.bool t.comm, .bool t.abrt, .int .i64 t.epoch, .int .i64 t.wall, .int .i64 t.logic] 70 :: L) w ∧ OrdOk (newPl t x.id (ordL k.tx (l.take i))) ds2 rs2 D2 ∧ (newPl t x.id (ordL k.tx (l.take i)))[m]? = some q0 ∧ q0.id = x.id) ?_ ?_
  ·
   skip
   refine zn1 ?_
   refine zv (.bool pm.isSome) ha ?_
   refine zzv (.bool (!pm.isSome)) ?_; clear ha; intro a ha
   refine zn2 ?_
   refine zzh (!pm.isSome) ha ?_ ?_ <;> intro hb
   ·
    rw [hb] at ha; skip
    have hfi : ((ordL k.tx (l.take i)).findIdx? fun q => decide (q.id = x.id)) = none := by rw [← hpm]; simpa using hb
    have hnp := newPl_none (t := t) hfi
    refine zn1 ?_
    refine zv (.slice A1 ds.length c1) ha ?_
    refine zzv (.int .i64 ((ds.length : Nat) : Int)) ?_
    refine zzv (.int .i64 ((ds.length : Nat) : Int)) ?_; clear ha; intro a ha
    refine zn4 ?_
    refine zv (.map (some g1)) ha ?_
    refine zzv (.pointer (some ⟨g2, 3, none⟩)) ?_
    refine zzw (.int .i64 x.id) (zl1 5 3) ?_
    refine zzv (.int .i64 ((ds.length : Nat) : Int)) ?_; clear ha; intro a ha
    refine zzd ha (ex_mapUpdate (a := x.id) 10 (.int .i64 ((ds.length : Nat) : Int)) s rfl rfl (by kernel_rfl) (by kernel_rfl) (by kernel_rfl) encI_inj keyed3 Tryz.underlying73 (key3 (by omega)) (by have h1 := ho.small; have h2 := ho.len.1; simp only [maxLen]; omega)) ?_
    clear ha; rintro w a s ha
    dsimp only [List.set, putAt] at s
    refine zn3 ?_
    refine zv (.slice A1 ds.length c1) ha ?_
    refine zzv (.pointer (some ⟨g2, 3, none⟩)) ?_
    refine zzw (.int .i64 x.id) (zl1 5 3) ?_
    refine zzv (.pointer (some ⟨g3, 3, none⟩)) ?_
    refine zzw (.agg #[.int .i64 t.wall, .int .i64 t.logic]) (zln 1 3) ?_
    refine zzv (.agg #[.int .i64 x.id, .int .i64 t.wall, .int .i64 t.logic, .slice none 0 0]) ?_; clear ha; intro a ha
    refine zze ha (ex_buildSlice elt48 _ zs48 [.int .i64 x.id, .int .i64 t.wall, .int .i64 t.logic, .slice none 0 0] s rfl (by kernel_rfl) (by decide)) ?_
    clear ha; rintro _ w a ⟨g4, rfl, s⟩ ha
    refine zze ha (ex_append (m := 1) (d' := 1) elt48 (by decide) 7 [.int .i64 x.id, .int .i64 t.wall, .int .i64 t.logic, .slice none 0 0] s rfl (by kernel_rfl) (by kernel_rfl) rfl (reads_blk (s.blkIs 0 rfl) rfl) (by simp [Value.oneCell']) (by simp only [maxLen]; omega) (by omega)) ?_
    clear ha; rintro _ w a ⟨A5, c6, rfl, hA_, s⟩ ha
    rw [show [.int .i64 x.id, .int .i64 t.wall, .int .i64 t.logic, .slice none 0 0] = nv (⟨x.id, t.wall, t.logic, none, 0, []⟩ : Dn) from rfl, nvs_snoc] at s
    replace s := s.at_ (j := 8) rfl
    replace s : St W (star (ds.map fun d => Own 79 7 d.A d.l.length d.c (dvs d.l)) :: .blk g4 [.int .i64 x.id, .int .i64 t.wall, .int .i64 t.logic, .slice none 0 0] 77 :: Blks T :: .blk g3 [.bool t.comm, .bool t.abrt, .int .i64 t.epoch, .int .i64 t.wall, .int .i64 t.logic] 70 :: .blk g [.int .i64 k.ti, .int .i64 k.most, .map (some gd), .map (some gt)] 43 :: MapT Tryz.prog 3 encI gd Dd :: MapT Tryz.prog 3 encI gt (T.map ent) :: .blk g2 (evv x) 37 :: Own 77 4 A5 (ds.length + 1) c6 (nvs (ds ++ [(⟨x.id, t.wall, t.logic, none, 0, []⟩ : Dn)])) :: Own 54 1 B1 rs.length c2 (ats rs) :: star (rs.map fun a => Own 3 1 a.A a.l.length a.c (nats a.l)) :: MapT Tryz.prog 3 encI g1 (mput D x.id (.int .i64 ((ds.length : Nat) : Int))) :: L) w := s
    replace s := star_snoc (F := fun d : Dn => Own 79 7 d.A d.l.length d.c (dvs d.l)) (⟨x.id, t.wall, t.logic, none, 0, []⟩ : Dn) (Own.none_ (e := 79) (k := 7) none s)
    refine zv (.slice B1 rs.length c2) ha ?_; clear ha; intro a ha
    refine zze ha (ex_buildSlice elt49 _ zs49 [.slice none 0 0] s rfl (by kernel_rfl) (by decide)) ?_
    clear ha; rintro _ w a ⟨g7, rfl, s⟩ ha
    refine zze ha (ex_append (m := 1) (d' := 1) elt49 (by decide) 10 [.slice none 0 0] s rfl (by kernel_rfl) (by kernel_rfl) rfl (reads_blk (s.blkIs 0 rfl) rfl) (by simp [Value.oneCell']) (by simp only [maxLen]; omega) (by omega)) ?_
    clear ha; rintro _ w a ⟨A8, c9, rfl, hA_, s⟩ ha
    rw [show [.slice none 0 0] = atv (⟨[], none, 0⟩ : At) from rfl, ats_snoc] at s
    replace s := s.at_ (j := 11) rfl
    replace s : St W (star (rs.map fun a => Own 3 1 a.A a.l.length a.c (nats a.l)) :: .blk g7 [.slice none 0 0] 54 :: star ((ds ++ [(⟨x.id, t.wall, t.logic, none, 0, []⟩ : Dn)]).map fun d => Own 79 7 d.A d.l.length d.c (dvs d.l)) :: .blk g4 [.int .i64 x.id, .int .i64 t.wall, .int .i64 t.logic, .slice none 0 0] 77 :: Blks T :: .blk g3 [.bool t.comm, .bool t.abrt, .int .i64 t.epoch, .int .i64 t.wall, .int .i64 t.logic] 70 :: .blk g [.int .i64 k.ti, .int .i64 k.most, .map (some gd), .map (some gt)] 43 :: MapT Tryz.prog 3 encI gd Dd :: MapT Tryz.prog 3 encI gt (T.map ent) :: .blk g2 (evv x) 37 :: Own 77 4 A5 (ds.length + 1) c6 (nvs (ds ++ [(⟨x.id, t.wall, t.logic, none, 0, []⟩ : Dn)])) :: Own 54 1 A8 (rs.length + 1) c9 (ats (rs ++ [(⟨[], none, 0⟩ : At)])) :: MapT Tryz.prog 3 encI g1 (mput D x.id (.int .i64 ((ds.length : Nat) : Int))) :: L) w := s
    replace s := star_snoc (F := fun a : At => Own 3 1 a.A a.l.length a.c (nats a.l)) (⟨[], none, 0⟩ : At) (Own.none_ (e := 3) (k := 1) none s)
    refine zv (.slice A5 (ds.length + 1) c6) ha ?_
    refine zzv (.slice A8 (rs.length + 1) c9) ?_; clear ha; intro a ha
    refine zn2 ?_
    have ho2 := ho.new (wall := t.wall) (logic := t.logic) hfi
    rw [← hnp, ← hol.1] at ho2
    have hq0 : (newPl t x.id (ordL k.tx (l.take i)))[ds.length]? = some ⟨x.id, t.wall, t.logic, []⟩ := by rw [hnp, hol.1, List.getElem?_append_right (Nat.le_refl _)]; simp
    have hqi : (⟨x.id, t.wall, t.logic, []⟩ : Pl).id = x.id := rfl
    generalize (⟨x.id, t.wall, t.logic, []⟩ : Pl) = q0 at hq0 hqi
    obtain ⟨ds2, hds2⟩ : ∃ z, z = ds ++ [(⟨x.id, t.wall, t.logic, none, 0, []⟩ : Dn)] := ⟨_, rfl⟩
    obtain ⟨rs2, hrs2⟩ : ∃ z, z = rs ++ [(⟨[], none, 0⟩ : At)] := ⟨_, rfl⟩
    have hl2 : ds.length + 1 = ds2.length := by rw [hds2]; simp
    have hr2 : rs.length + 1 = rs2.length := by rw [hrs2]; simp
    rw [← hds2, ← hrs2] at ho2
    rw [hl2, ← hds2, hr2, ← hrs2] at s
    rw [hl2, hr2] at ha
    replace s := ((((((((((s.at_ (j := 5) rfl).at_ (j := 9) rfl).at_ (j := 12) rfl).at_ (j := 3) rfl).at_ (j := 12) rfl).at_ (j := 6) rfl).at_ (j := 12) rfl).at_ (j := 9) rfl).at_ (j := 12) rfl).at_ (j := 12) rfl).at_ (j := 12) rfl
    replace s := s.k11_2
    exact ⟨A5, c6, ds2, A8, c9, rs2, mput D x.id (.int .i64 ((ds.length : Nat) : Int)), ds.length, q0, (Has.cons ha (by kernel_rfl) (by kernel_rfl) (Has.cons ha (by kernel_rfl) (by kernel_rfl) (Has.cons ha (by kernel_rfl) (by kernel_rfl) (Has.cons ha (by kernel_rfl) (by kernel_rfl) (Has.cons ha (by kernel_rfl) (by kernel_rfl) (Has.cons ha (by kernel_rfl) (by kernel_rfl) (Has.cons ha (by kernel_rfl) (by kernel_rfl) (Has.cons ha (by kernel_rfl) (by kernel_rfl) (Has.cons ha (by kernel_rfl) (by kernel_rfl) (Has.cons ha (by kernel_rfl) (by kernel_rfl) (Has.cons ha (by kernel_rfl) (by kernel_rfl) (Has.nil ha)))))))))))), s, ho2, hq0, hqi⟩
   rw [hb] at ha; skip
   obtain ⟨nn, hnn⟩ := Option.isSome_iff_exists.1 (show pm.isSome = true by simpa using hb)
   subst hnn
   have hnp := newPl_some (t := t) hpm.symm
   refine wp_skip ?_
   refine then_normal ?_
   obtain ⟨hac2, q0, hq0, hqi⟩ := hnp
   have ho2 : OrdOk (newPl t x.id (ordL k.tx (l.take i))) ds rs D := by rw [hac2]; exact ho
   rw [← hac2] at hq0
   replace s := ((((((((((s.at_ (j := 1) rfl).at_ (j := 5) rfl).at_ (j := 10) rfl).at_ (j := 10) rfl).at_ (j := 10) rfl).at_ (j := 10) rfl).at_ (j := 10) rfl).at_ (j := 7) rfl).at_ (j := 10) rfl).at_ (j := 10) rfl).at_ (j := 10) rfl
   dsimp only [List.eraseIdx] at s
   exact ⟨A1, c1, ds, B1, c2, rs, D, nn, q0, (Has.cons ha (by kernel_rfl) (by kernel_rfl) (Has.cons ha (by kernel_rfl) (by kernel_rfl) (Has.cons ha (by kernel_rfl) (by kernel_rfl) (Has.cons ha (by kernel_rfl) (by kernel_rfl) (Has.cons ha (by kernel_rfl) (by kernel_rfl) (Has.cons ha (by kernel_rfl) (by kernel_rfl) (Has.cons ha (by kernel_rfl) (by kernel_rfl) (Has.cons ha (by kernel_rfl) (by kernel_rfl) (Has.cons ha (by kernel_rfl) (by kernel_rfl) (Has.cons ha (by kernel_rfl) (by kernel_rfl) (Has.cons ha (by kernel_rfl) (by kernel_rfl) (Has.nil ha)))))))))))), s, ho2, hq0, hqi⟩
  clear ha s; rintro a w ⟨A1, c1, ds2, B1, c2, rs2, D2, m, q0, ha, s, ho2, hq0, hqi⟩
  have hol := ho2.len
  obtain ⟨d0, a0, hd0, ha0, hdl, hal⟩ := ho2.pick hq0
  have hm1 : m < ds2.length := (List.getElem?_eq_some_iff.1 hd0).1
  have hm2 : m < rs2.length := (List.getElem?_eq_some_iff.1 ha0).1
  have hth := newPl_th (t := t) (i := x.id) (ordL_th k.tx (l.take i)) q0 (List.mem_of_getElem? hq0)
  rw [List.length_take, Nat.min_eq_left (by omega)] at hth
  obtain ⟨a1, hAa1⟩ := Reads.addr (Own.reads (s.at_ (j := 4) rfl).1) (by omega)
  subst hAa1
  obtain ⟨b1, hAb1⟩ := Reads.addr (Own.reads (s.at_ (j := 6) rfl).1) (by omega)
  subst hAb1
  refine zn1 ?_
  refine zv (.pointer (some ⟨g2, 1, none⟩)) ha ?_
  refine zzw (.int .i64 x.kind) (zl1 9 1) ?_
  refine zzv (.bool (x.kind == (3 : Int))) ?_
  refine zzv (.bool (x.kind == (3 : Int))) ?_; clear ha; intro a ha
  rcases Bool.eq_false_or_eq_true (x.kind == (3 : Int)) with hb | hb
  ·
   rw [hb] at ha; replace hb := eq_of_beq hb
   have hk1 := hb
   refine zv (.pointer (some ⟨g2, 4, none⟩)) ha ?_
   refine zzw (.int .i64 x.epoch) (zl1 9 4) ?_
   refine zzv (.pointer (some ⟨g3, 2, none⟩)) ?_
   refine zzw (.int .i64 t.epoch) (zl1 10 2) ?_
   refine zzv (.bool (x.epoch == t.epoch)) ?_
   refine zzv (.bool (x.epoch == t.epoch)) ?_
   refine zzv (.bool (x.epoch == t.epoch)) ?_; clear ha; intro a ha
   rcases Bool.eq_false_or_eq_true (x.epoch == t.epoch) with hb | hb
   ·
    rw [hb] at ha; replace hb := eq_of_beq hb
    have hk2 := hb
    refine zv (.pointer (some ⟨g2, 14, none⟩)) ha ?_
    refine zzw (.int .i64 x.err) (zl1 9 14) ?_
    refine zzv (.bool (x.err == (0 : Int))) ?_
    refine zzv (.bool (x.err == (0 : Int))) ?_
    refine zzv (.bool (x.err == (0 : Int))) ?_; clear ha; intro a ha
    rcases Bool.eq_false_or_eq_true (x.err == (0 : Int)) with hb | hb
    ·
     rw [hb] at ha; replace hb := eq_of_beq hb
     have hk3 := hb
     refine zv (.pointer (some ⟨g2, 5, none⟩)) ha ?_
     refine zzw (.int .i64 x.op) (zl1 9 5) ?_
     refine zzv (.bool (decide (x.op ≤ (5 : Int)))) ?_
     refine zzv (.bool (decide (x.op ≤ (5 : Int)))) ?_; clear ha; intro a ha
     refine zn2 ?_
     refine zzh (decide (x.op ≤ (5 : Int))) ha ?_ ?_ <;> intro hb
     ·
      rw [hb] at ha; replace hb : (x.op ≤ (5 : Int)) := of_decide_eq_true hb
      have hk4 := hb
      refine wp_seq ?_
      replace s := s.at_ (j := 5) rfl
      dsimp only [List.eraseIdx] at s
      replace s := star_open hd0 s
      refine wp_region_head 22 (fun w => Reads w 4 (some a1) ds2.length (nvs ds2) ∧ BlkIs g2 (evv x) w ∧ True) (by kernel_rfl) (by decide) ?_
      replace s := s.drew; generalize _root_.Go.World.drew _ = w at s ⊢
      have hS : (fun w => Reads w 4 (some a1) ds2.length (nvs ds2) ∧ BlkIs g2 (evv x) w ∧ True) w := ⟨(Own.reads (s.at_ (j := 6) rfl).1), s.blkIs 10 rfl, trivial⟩
      refine yk (i := 0) (.slice (some a1) ds2.length c1) ha hS ?_
      refine yyk (i := 1) (.int .i64 ((m : Nat) : Int)) hS ?_
      refine yyk (i := 2) (.slice (some a1) ds2.length c1) hS ?_
      refine yyk (i := 3) (.int .i64 ((m : Nat) : Int)) hS ?_
      refine yyv (i := 4) (.pointer (some (a1.add (m * 4)))) (fun w hS => (run_indexAddr' (kd := .i64) (i := ((m : Nat) : Int)) (n := ds2.length) (c := c1) m rfl Tryz.underlying48 Tryz.sizeOf77 (by kernel_rfl) (by kernel_rfl) rfl (by first | assumption | omega) _)) hS ?_
      refine yyfa (i := 5) (.pointer (some (a1.add (m * 4 + 3)))) 75 hS ?_
      refine yyla (i := 6) (.slice d0.A d0.l.length d0.c) (m * 4 + 3) (fun _ hS => hS.1) (by rw [nvs_at hd0 (by omega)]; rfl) hS ?_
      refine yyk (i := 7) (.pointer (some ⟨g2, 5, none⟩)) hS ?_
      refine yyv (i := 8) (.int .i64 x.op) (fun w hS => run_load1 (of_ := 5) hS.2.1 rfl (by kernel_rfl) Tryz.isAgg3 rfl) hS ?_
      refine yyk (i := 9) (.pointer (some ⟨g2, 6, none⟩)) hS ?_
      refine yyv (i := 10) (.string (str x.key)) (fun w hS => run_load1 (of_ := 6) hS.2.1 rfl (by kernel_rfl) Tryz.isAgg9 rfl) hS ?_
      refine yyk (i := 11) (.pointer (some ⟨g2, 7, none⟩)) hS ?_
      refine yyv (i := 12) (.string (str x.val)) (fun w hS => run_load1 (of_ := 7) hS.2.1 rfl (by kernel_rfl) Tryz.isAgg9 rfl) hS ?_
      refine yyk (i := 13) (.pointer (some ⟨g2, 8, none⟩)) hS ?_
      refine yyv (i := 14) (.agg #[.string (str x.frm), .string (str x.to)]) (fun w hS => run_loadN (of_ := 8) [.string (str x.frm), .string (str x.to)] hS.2.1 rfl (by kernel_rfl) Tryz.isAgg32 Tryz.sizeOf32 rfl (Nat.le_of_ble_eq_true rfl)) hS ?_
      refine yyk (i := 15) (.pointer (some ⟨g2, 10, none⟩)) hS ?_
      refine yyv (i := 16) (.bool x.is) (fun w hS => run_load1 (of_ := 10) hS.2.1 rfl (by kernel_rfl) Tryz.isAgg4 rfl) hS ?_
      refine yyk (i := 17) (.pointer (some ⟨g2, 11, none⟩)) hS ?_
      refine yyv (i := 18) (.slice x.A x.rows.length x.c) (fun w hS => run_load1 (of_ := 11) hS.2.1 rfl (by kernel_rfl) Tryz.isAgg33 rfl) hS ?_
      refine yyk (i := 19) (.agg #[.int .i64 x.op, .string (str x.key), .string (str x.val), .string (str x.frm), .string (str x.to), .bool x.is, .slice x.A x.rows.length x.c]) hS ?_; clear ha; intro a ha
      refine hd_ex (i := 20) ha rfl (by kernel_rfl) (by kernel_rfl) (ex_buildSlice elt75 _ zs75 [.int .i64 x.op, .string (str x.key), .string (str x.val), .string (str x.frm), .string (str x.to), .bool x.is, .slice x.A x.rows.length x.c] s rfl (by kernel_rfl) (by decide)) ?_
      clear hS; rintro _ w ⟨g10, rfl, s⟩
      have hS : (fun w => Reads w 4 (some a1) ds2.length (nvs ds2) ∧ BlkIs g2 (evv x) w ∧ True) w := ⟨(Own.reads (s.at_ (j := 7) rfl).1), s.blkIs 11 rfl, trivial⟩
      refine ⟨hS, ?_⟩; clear ha; intro a ha
      refine hd_ex (i := 21) ha rfl (by kernel_rfl) (by kernel_rfl) (ex_append (m := 1) (d' := 1) elt75 (by decide) 1 [.int .i64 x.op, .string (str x.key), .string (str x.val), .string (str x.frm), .string (str x.to), .bool x.is, .slice x.A x.rows.length x.c] s rfl (by kernel_rfl) (by kernel_rfl) rfl (reads_blk (s.blkIs 0 rfl) rfl) (by simp [Value.oneCell']) (by simp only [maxLen]; omega) (by omega)) ?_
      clear hS; rintro _ w ⟨A11, c12, rfl, hA_, s⟩
      rw [show dvs d0.l ++ [.int .i64 x.op, .string (str x.key), .string (str x.val), .string (str x.frm), .string (str x.to), .bool x.is, .slice x.A x.rows.length x.c] = dvs (d0.l ++ [didOf x]) from by simp [dvs, dv, didOf], show d0.l.length + 1 = (d0.l ++ [didOf x]).length from by simp] at s
      have hS : (fun w => Reads w 4 (some a1) ds2.length (nvs ds2) ∧ BlkIs g2 (evv x) w ∧ True) w := ⟨(Own.reads (s.at_ (j := 7) rfl).1), s.blkIs 11 rfl, trivial⟩
      refine ⟨hS, ?_⟩; clear ha; intro a ha
      refine Head.done (by kernel_rfl) ?_
      clear hS; simp only [List.drop_succ_cons, List.drop_zero]
      refine zw (.pointer (some (a1.add (m * 4)))) ha (run_indexAddr' (kd := .i64) (i := ((m : Nat) : Int)) (n := ds2.length) (c := c1) m rfl Tryz.underlying48 Tryz.sizeOf77 (by kernel_rfl) (by kernel_rfl) rfl (by first | assumption | omega) _) ?_
      refine zzw (.pointer (some (a1.add (m * 4 + 3)))) (zfa 75) ?_; clear ha; intro a ha
      refine zzd ha (ex_store_own (i := m * 4 + 3) 7 [.slice A11 (d0.l.length + 1) c12] s (show putAt (nvs ds2) (m * 4 + 3) [.slice A11 (d0.l.length + 1) c12] = nvs (ds2.set m { d0 with A := A11, c := c12, l := d0.l ++ [didOf x] }) from by have hz := putAt_nvs hd0 A11 c12 (d0.l ++ [didOf x]); rw [List.length_append] at hz; exact hz) rfl rfl (by kernel_rfl) (by kernel_rfl) (Tryz.sizeOf75 _) rfl (by simp [Value.oneCell']) (by simp) (by rw [nvs_len]; simp only [List.length_cons, List.length_nil]; omega)) ?_
      clear ha; rintro w a s ha
      dsimp only [List.set, putAt] at s
      replace s := (s.at_ (j := 2) rfl).at_ (j := 2) rfl
      dsimp only [List.eraseIdx] at s
      replace s := star_close (F := fun d : Dn => Own 79 7 d.A d.l.length d.c (dvs d.l)) hd0 { d0 with A := A11, c := c12, l := d0.l ++ [didOf x] } s
      obtain ⟨ds3, hds3⟩ : ∃ z, z = ds2.set m { d0 with A := A11, c := c12, l := d0.l ++ [didOf x] } := ⟨_, rfl⟩
      have hl3 : ds2.length = ds3.length := by rw [hds3]; simp
      rw [← hds3, hl3] at s
      refine zn2 ?_
      replace s := s.at_ (j := 8) rfl
      dsimp only [List.eraseIdx] at s
      replace s := star_open ha0 s
      refine wp_region_lit ?_
      refine zv (.slice (some b1) rs2.length c2) ha ?_
      refine zzv (.int .i64 ((m : Nat) : Int)) ?_
      refine zzv (.slice (some b1) rs2.length c2) ?_
      refine zzv (.int .i64 ((m : Nat) : Int)) ?_
      refine zzw (.pointer (some (b1.add (m * 1)))) (run_indexAddr' (kd := .i64) (i := ((m : Nat) : Int)) (n := rs2.length) (c := c2) m rfl Tryz.underlying49 Tryz.sizeOf54 (by kernel_rfl) (by kernel_rfl) rfl (by first | assumption | omega) _) ?_
      refine zzw (.slice a0.A a0.l.length a0.c) (run_loadRow1 (m := m) ((Own.reads (s.at_ (j := 9) rfl).1)) rfl (by kernel_rfl) Tryz.isAgg54 (ats_at ha0)) ?_
      refine zzv (.int .i64 ((i : Nat) : Int)) ?_; clear ha; intro a ha
      refine zze ha (ex_buildSlice elt54 _ zs54 [.int .i64 ((i : Nat) : Int)] s rfl (by kernel_rfl) (by decide)) ?_
      clear ha; rintro _ w a ⟨g13, rfl, s⟩ ha
      refine zze ha (ex_append (m := 1) (d' := 1) elt54 (by decide) 1 [.int .i64 ((i : Nat) : Int)] s rfl (by kernel_rfl) (by kernel_rfl) rfl (reads_blk (s.blkIs 0 rfl) rfl) (by simp [Value.oneCell']) (by simp only [maxLen]; omega) (by omega)) ?_
      clear ha; rintro _ w a ⟨A14, c15, rfl, hA_, s⟩ ha
      rw [show nats a0.l ++ [.int .i64 ((i : Nat) : Int)] = nats (a0.l ++ [i]) from by simp [nats], show a0.l.length + 1 = (a0.l ++ [i]).length from by simp] at s
      refine zw (.pointer (some (b1.add (m * 1)))) ha (run_indexAddr' (kd := .i64) (i := ((m : Nat) : Int)) (n := rs2.length) (c := c2) m rfl Tryz.underlying49 Tryz.sizeOf54 (by kernel_rfl) (by kernel_rfl) rfl (by first | assumption | omega) _) ?_; clear ha; intro a ha
      refine zzd ha (ex_store_own (i := m * 1) 10 [.slice A14 (a0.l.length + 1) c15] s (show putAt (ats rs2) (m * 1) [.slice A14 (a0.l.length + 1) c15] = ats (rs2.set m (⟨a0.l ++ [i], A14, c15⟩ : At)) from by have hz := putAt_ats hm2 (⟨a0.l ++ [i], A14, c15⟩ : At); unfold atv at hz; rw [List.length_append] at hz; exact hz) rfl rfl (by kernel_rfl) (by kernel_rfl) (Tryz.sizeOf54 _) rfl (by simp [Value.oneCell']) (by simp) (by rw [show (ats rs2).length = rs2.length from by simp [ats]]; simp only [List.length_cons, List.length_nil]; omega)) ?_
      clear ha; rintro w a s ha
      dsimp only [List.set, putAt] at s
      replace s := (s.at_ (j := 2) rfl).at_ (j := 2) rfl
      dsimp only [List.eraseIdx] at s
      replace s := star_close (F := fun a : At => Own 3 1 a.A a.l.length a.c (nats a.l)) ha0 (⟨a0.l ++ [i], A14, c15⟩ : At) s
      obtain ⟨rs3, hrs3⟩ : ∃ z, z = rs2.set m (⟨a0.l ++ [i], A14, c15⟩ : At) := ⟨_, rfl⟩
      have hr3 : rs2.length = rs3.length := by rw [hrs3]; simp
      rw [← hrs3, hr3] at s
      have hstep : OrdOk (ordStep k.tx (ordL k.tx (l.take i)) (i, x)) ds3 rs3 D2 := by rw [ordStep_d hhx (by rw [← ht]; exact hcm) (by rw [← ht]; unfold didB; simp [hk1, hk2, hk3, hk4]), ← ht, addPl_at (newPl_mem (ordL_ids _ _)).2 hq0 hqi, hds3, hrs3]; exact ho2.add hq0 hd0 ha0 _ _ _ _
      refine wpList_nil ?_
      refine block_normal ?_
      refine then_normal ?_
      refine wp_region_lit ?_
      refine zw (.int .i64 ((i + 1 : Nat) : Int)) ha zar ?_
      refine zzv (.int .i64 ((i + 1 : Nat) : Int)) ?_; clear ha; intro a ha
      refine zn2 ?_
      rw [hl3, hr3] at ha
      replace s := ((((((((s.at_ (j := 10) rfl).at_ (j := 1) rfl).at_ (j := 10) rfl).at_ (j := 4) rfl).at_ (j := 10) rfl).at_ (j := 10) rfl).at_ (j := 10) rfl).at_ (j := 10) rfl).at_ (j := 10) rfl
      replace s := s.k9_4
      exact ⟨(i + 1, T, (some a1), c1, ds3, (some b1), c2, rs3, D2), (show l.length - (i + 1) < l.length - i by omega), (Has.cons ha (by kernel_rfl) (by kernel_rfl) (Has.cons ha (by kernel_rfl) (by kernel_rfl) (Has.cons ha (by kernel_rfl) (by kernel_rfl) (Has.cons ha (by kernel_rfl) (by kernel_rfl) (Has.cons ha (by kernel_rfl) (by kernel_rfl) (Has.cons ha (by kernel_rfl) (by kernel_rfl) (Has.cons ha (by kernel_rfl) (by kernel_rfl) (Has.nil ha)))))))), s, (show i + 1 ≤ l.length by omega), hk.up (by omega), by rw [ordL_step hx]; exact hstep⟩
     rw [hb] at ha; replace hb : ¬ (x.op ≤ (5 : Int)) := of_decide_eq_false hb
     have hstep : OrdOk (ordStep k.tx (ordL k.tx (l.take i)) (i, x)) ds2 rs2 D2 := by rw [ordStep_nd hhx (by rw [← ht]; exact hcm) (by rw [← ht]; unfold didB; simp [hk1, hk2, hk3, hb]), ← ht]; exact ho2
     refine wp_skip ?_
     refine block_normal ?_
     refine then_normal ?_
     refine wp_region_lit ?_
     refine zw (.int .i64 ((i + 1 : Nat) : Int)) ha zar ?_
     refine zzv (.int .i64 ((i + 1 : Nat) : Int)) ?_; clear ha; intro a ha
     refine zn2 ?_
     replace s := s.k9_2
     exact ⟨(i + 1, T, (some a1), c1, ds2, (some b1), c2, rs2, D2), (show l.length - (i + 1) < l.length - i by omega), (Has.cons ha (by kernel_rfl) (by kernel_rfl) (Has.cons ha (by kernel_rfl) (by kernel_rfl) (Has.cons ha (by kernel_rfl) (by kernel_rfl) (Has.cons ha (by kernel_rfl) (by kernel_rfl) (Has.cons ha (by kernel_rfl) (by kernel_rfl) (Has.cons ha (by kernel_rfl) (by kernel_rfl) (Has.cons ha (by kernel_rfl) (by kernel_rfl) (Has.nil ha)))))))), s, (show i + 1 ≤ l.length by omega), hk.up (by omega), by rw [ordL_step hx]; exact hstep⟩
    rw [hb] at ha; replace hb := ne_of_beq_false hb
    have hstep : OrdOk (ordStep k.tx (ordL k.tx (l.take i)) (i, x)) ds2 rs2 D2 := by rw [ordStep_nd hhx (by rw [← ht]; exact hcm) (by rw [← ht]; unfold didB; simp [hk1, hk2, hb]), ← ht]; exact ho2
    refine zp ha ?_
    iterate 2 refine zzp ?_
    refine zzv (.bool false) ?_; clear ha; intro a ha
    refine zn2 ?_
    refine wp_false ha rfl (by kernel_rfl) ?_
    refine wp_skip ?_
    refine block_normal ?_
    refine then_normal ?_
    refine wp_region_lit ?_
    refine zw (.int .i64 ((i + 1 : Nat) : Int)) ha zar ?_
    refine zzv (.int .i64 ((i + 1 : Nat) : Int)) ?_; clear ha; intro a ha
    refine zn2 ?_
    replace s := s.k9_2
    exact ⟨(i + 1, T, (some a1), c1, ds2, (some b1), c2, rs2, D2), (show l.length - (i + 1) < l.length - i by omega), (Has.cons ha (by kernel_rfl) (by kernel_rfl) (Has.cons ha (by kernel_rfl) (by kernel_rfl) (Has.cons ha (by kernel_rfl) (by kernel_rfl) (Has.cons ha (by kernel_rfl) (by kernel_rfl) (Has.cons ha (by kernel_rfl) (by kernel_rfl) (Has.cons ha (by kernel_rfl) (by kernel_rfl) (Has.cons ha (by kernel_rfl) (by kernel_rfl) (Has.nil ha)))))))), s, (show i + 1 ≤ l.length by omega), hk.up (by omega), by rw [ordL_step hx]; exact hstep⟩
   rw [hb] at ha; replace hb := ne_of_beq_false hb
   have hstep : OrdOk (ordStep k.tx (ordL k.tx (l.take i)) (i, x)) ds2 rs2 D2 := by rw [ordStep_nd hhx (by rw [← ht]; exact hcm) (by rw [← ht]; unfold didB; simp [hk1, hb]), ← ht]; exact ho2
   refine zp ha ?_
   iterate 2 refine zzp ?_
   refine zzv (.bool false) ?_
   refine zzv (.bool false) ?_
   iterate 3 refine zzp ?_
   refine zzv (.bool false) ?_; clear ha; intro a ha
   refine zn2 ?_
   refine wp_false ha rfl (by kernel_rfl) ?_
   refine wp_skip ?_
   refine block_normal ?_
   refine then_normal ?_
   refine wp_region_lit ?_
   refine zw (.int .i64 ((i + 1 : Nat) : Int)) ha zar ?_
   refine zzv (.int .i64 ((i + 1 : Nat) : Int)) ?_; clear ha; intro a ha
   refine zn2 ?_
   replace s := s.k9_2
   exact ⟨(i + 1, T, (some a1), c1, ds2, (some b1), c2, rs2, D2), (show l.length - (i + 1) < l.length - i by omega), (Has.cons ha (by kernel_rfl) (by kernel_rfl) (Has.cons ha (by kernel_rfl) (by kernel_rfl) (Has.cons ha (by kernel_rfl) (by kernel_rfl) (Has.cons ha (by kernel_rfl) (by kernel_rfl) (Has.cons ha (by kernel_rfl) (by kernel_rfl) (Has.cons ha (by kernel_rfl) (by kernel_rfl) (Has.cons ha (by kernel_rfl) (by kernel_rfl) (Has.nil ha)))))))), s, (show i + 1 ≤ l.length by omega), hk.up (by omega), by rw [ordL_step hx]; exact hstep⟩
  rw [hb] at ha; replace hb := ne_of_beq_false hb
  have hstep : OrdOk (ordStep k.tx (ordL k.tx (l.take i)) (i, x)) ds2 rs2 D2 := by rw [ordStep_nd hhx (by rw [← ht]; exact hcm) (by rw [← ht]; unfold didB; simp [hb]), ← ht]; exact ho2
  refine zp ha ?_
  iterate 4 refine zzp ?_
  refine zzv (.bool false) ?_
  refine zzv (.bool false) ?_
  iterate 3 refine zzp ?_
  refine zzv (.bool false) ?_
  refine zzv (.bool false) ?_
  iterate 3 refine zzp ?_
  refine zzv (.bool false) ?_; clear ha; intro a ha
  refine zn2 ?_
  refine wp_false ha rfl (by kernel_rfl) ?_
  refine wp_skip ?_
  refine block_normal ?_
  refine then_normal ?_
  refine wp_region_lit ?_
  refine zw (.int .i64 ((i + 1 : Nat) : Int)) ha zar ?_
  refine zzv (.int .i64 ((i + 1 : Nat) : Int)) ?_; clear ha; intro a ha
  refine zn2 ?_
  replace s := s.k9_2
  exact ⟨(i + 1, T, (some a1), c1, ds2, (some b1), c2, rs2, D2), (show l.length - (i + 1) < l.length - i by omega), (Has.cons ha (by kernel_rfl) (by kernel_rfl) (Has.cons ha (by kernel_rfl) (by kernel_rfl) (Has.cons ha (by kernel_rfl) (by kernel_rfl) (Has.cons ha (by kernel_rfl) (by kernel_rfl) (Has.cons ha (by kernel_rfl) (by kernel_rfl) (Has.cons ha (by kernel_rfl) (by kernel_rfl) (Has.cons ha (by kernel_rfl) (by kernel_rfl) (Has.nil ha)))))))), s, (show i + 1 ≤ l.length by omega), hk.up (by omega), by rw [ordL_step hx]; exact hstep⟩
 rw [hb] at ha; replace hb : ¬ (((i : Nat) : Int) < ((l.length : Nat) : Int)) := of_decide_eq_false hb
 refine wp_exit ?_
 refine then_exit ?_
 refine then_exit ?_
 refine block_hit ?_
 refine then_normal ?_
 refine zn1 ?_
 refine zv (.slice A1 ds.length c1) ha ?_
 refine zzv (.slice B1 rs.length c2) ?_
 refine zzv (.slice A1 ds.length c1) ?_
 refine zzv (.slice B1 rs.length c2) ?_; clear ha; intro a ha
 refine zn2 ?_
 refine wp_ret ?_
 refine ret_with (v := .tuple #[.slice A1 ds.length c1, .slice B1 rs.length c2]) ha (results_2 rfl ha (res_tmp (by kernel_rfl) (by kernel_rfl)) (res_tmp (by kernel_rfl) (by kernel_rfl))) ?_
 replace s := (((((((s.at_ (j := 3) rfl).at_ (j := 3) rfl).at_ (j := 3) rfl).at_ (j := 3) rfl).at_ (j := 7) rfl).at_ (j := 7) rfl).at_ (j := 7) rfl).at_ (j := 7) rfl
 replace s := s.k8_1
 have hlk := hp.2.1
 have hod := hp.2.2
 rw [List.take_of_length_le (by omega)] at hod
 exact ⟨T, A1, c1, ds, B1, c2, rs, D, rfl, hlk.up (by omega), hod, s⟩

end Go.Proofs.YtfcbjcohepkkfaaGreat.B
