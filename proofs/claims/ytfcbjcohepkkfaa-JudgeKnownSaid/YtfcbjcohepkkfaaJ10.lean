import Derived.Test.YtfcbjcohepkkfaaJ9
namespace Go.Proofs.Ytfcbjcohepkkfaa.B
open Go.RowKit Go.Maps Go.Sort Go.Shelf Go.Proofs.Ytfcbjcohepkkfaa.Sep Go.Proofs.Ytfcbjcohepkkfaa.P
set_option linter.unusedVariables false
set_option linter.unusedSimpArgs false
def ordPair (acc : List Pl) (i : Int) : Option Nat := acc.findIdx? fun q => decide (q.id = i)

theorem elt54 : Elt Try.prog 54 59 1 24 := ⟨by kernel_rfl, by kernel_rfl⟩
theorem zs54 : (Try.prog.info? 59).bind (fun i => i.zero.map (·.cells)) = some #[.slice none 0 0] := by kernel_rfl
theorem elt22 : Elt Try.prog 22 36 16 176 := ⟨by kernel_rfl, by kernel_rfl⟩
theorem zs22 : (Try.prog.info? 36).bind (fun i => i.zero.map (·.cells)) = some #[.int .i64 0, .int .i64 0, .int .i64 0, .int .i64 0, .int .i64 0, .int .i64 0, .string (str []), .string (str []), .string (str []), .string (str []), .bool false, .slice none 0 0, .int .i64 0, .int .i64 0, .int .i64 0, .int .i64 0] := by kernel_rfl
theorem ordStep_len (tx : Int → Tx) (acc : List Pl) (p : Nat × Ev) : (ordStep tx acc p).length ≤ acc.length + 1 := by
  have h1 : ∀ t i, (newPl t i acc).length ≤ acc.length + 1 := fun t i => by unfold newPl; split <;> simp
  have h2 : ∀ a, (addPl p a).length = a.length := fun a => by unfold addPl; simp
  unfold ordStep
  split
  · split
    · rw [h2]; exact h1 _ _
    · exact h1 _ _
  · omega
theorem ordL_len (tx : Int → Tx) (l : List Ev) : (ordL tx l).length ≤ l.length := by
  have : ∀ (m : List (Nat × Ev)) (acc : List Pl), (m.foldl (ordStep tx) acc).length ≤ acc.length + m.length := by
    intro m
    induction m with
    | nil => intro acc; simp
    | cons p m ih => intro acc; have := ih (ordStep tx acc p); have := ordStep_len tx acc p; simp only [List.foldl_cons, List.length_cons]; omega
  have := this (numd l) []
  simpa [ordL, numd] using this
theorem putAt_nvs {ds : List Dn} {m : Nat} {d : Dn} (hd : ds[m]? = some d) (A : Option Addr) (c : Nat) (l : List Dd) : putAt (nvs ds) (m * 4 + 3) [.slice A l.length c] = nvs (ds.set m { d with A := A, c := c, l := l }) := by
  obtain ⟨hm, e0⟩ := List.getElem?_eq_some_iff.1 hd
  have e : ds = ds.take m ++ (d :: ds.drop (m + 1)) := by rw [← e0, ← List.drop_eq_getElem_cons hm, List.take_append_drop]
  have h1 : ∀ z : Dn, nvs (ds.take m ++ (z :: ds.drop (m + 1))) = nvs (ds.take m) ++ (nv z ++ nvs (ds.drop (m + 1))) := fun z => by simp [nvs]
  have l1 : (nvs (ds.take m)).length = m * 4 := by rw [nvs_len, List.length_take, Nat.min_eq_left (by omega)]
  rw [List.set_eq_take_append_cons_drop, if_pos hm, h1]
  show (nvs ds).set (m * 4 + 3) _ = _
  conv => lhs; rw [e, h1]
  rw [List.set_append_right _ _ (by omega), l1, Nat.add_sub_cancel_left]
  rfl
theorem putAt_ats {rs : List At} {m : Nat} (hm : m < rs.length) (a : At) : putAt (ats rs) (m * 1) (atv a) = ats (rs.set m a) := by
  show (ats rs).set (m * 1) _ = _
  unfold ats
  rw [Nat.mul_one, List.map_set]
theorem ats_at {rs : List At} {m : Nat} {a : At} (h : rs[m]? = some a) : (ats rs)[m]? = some (.slice a.A a.l.length a.c) := by simp [ats, h]
theorem ats_snoc (l : List At) (a : At) : ats l ++ atv a = ats (l ++ [a]) := by simp [ats, atv]
theorem nvs_snoc (ds : List Dn) (d : Dn) : nvs ds ++ nv d = nvs (ds ++ [d]) := by simp [nvs]
theorem ordStep_no {tx : Int → Tx} {acc : List Pl} {i : Nat} {x : Ev} (h : hasB x = false ∨ (tx x.id).comm = false) : ordStep tx acc (i, x) = acc := by
  unfold ordStep; rcases h with h | h <;> simp [h]
theorem newPl_some {t : Tx} {i : Int} {acc : List Pl} {n : Nat} (h : (acc.findIdx? fun q => decide (q.id = i)) = some n) : newPl t i acc = acc ∧ ∃ q, acc[n]? = some q ∧ q.id = i := by
  obtain ⟨hn, h1, _⟩ := List.findIdx?_eq_some_iff_getElem.1 h
  have h2 : acc[n].id = i := by simpa using h1
  exact ⟨by unfold newPl; rw [if_pos (List.any_eq_true.2 ⟨acc[n], List.getElem_mem hn, by simpa using h2⟩)], acc[n], List.getElem?_eq_getElem hn, h2⟩
theorem newPl_none {t : Tx} {i : Int} {acc : List Pl} (h : (acc.findIdx? fun q => decide (q.id = i)) = none) : newPl t i acc = acc ++ [⟨i, t.wall, t.logic, []⟩] := by
  have h1 := List.findIdx?_eq_none_iff.1 h
  unfold newPl
  rw [if_neg fun h2 => by obtain ⟨q, hq, e⟩ := List.any_eq_true.1 h2; have := h1 q hq; rw [e] at this; cases this]

theorem OrdOk.pick {acc : List Pl} {ds : List Dn} {rs : List At} {D : List (Int × Value)} (h : OrdOk acc ds rs D) {m : Nat} {q : Pl} (hq : acc[m]? = some q) : ∃ d a, ds[m]? = some d ∧ rs[m]? = some a ∧ d.l.length = q.th.length ∧ a.l.length = q.th.length := by
  obtain ⟨hm, _⟩ := List.getElem?_eq_some_iff.1 hq
  have hl := h.len
  refine ⟨ds[m]'(by omega), rs[m]'(by omega), List.getElem?_eq_getElem _, List.getElem?_eq_getElem _, ?_, ?_⟩
  · have := congrArg (·[m]?) h.all
    simp only [List.getElem?_map, hq, List.getElem?_eq_getElem (show m < ds.length by omega), Option.map_some, Option.some.injEq, Prod.mk.injEq] at this
    rw [this.2.2.2, List.length_map]
  · have := congrArg (·[m]?) h.at_
    simp only [List.getElem?_map, hq, List.getElem?_eq_getElem (show m < rs.length by omega), Option.map_some, Option.some.injEq] at this
    rw [this, List.length_map]
theorem newPl_th {t : Tx} {i : Int} {acc : List Pl} {b : Nat} (h : ∀ q ∈ acc, q.th.length ≤ b) : ∀ q ∈ newPl t i acc, q.th.length ≤ b := by
  intro q hq
  unfold newPl at hq
  split at hq
  · exact h q hq
  · rcases List.mem_append.1 hq with hq | hq
    · exact h q hq
    · rw [List.mem_singleton] at hq; subst hq; exact Nat.zero_le _
theorem ordStep_th {tx : Int → Tx} {acc : List Pl} {p : Nat × Ev} {b : Nat} (h : ∀ q ∈ acc, q.th.length ≤ b) : ∀ q ∈ ordStep tx acc p, q.th.length ≤ b + 1 := by
  have hn := newPl_th (t := tx p.2.id) (i := p.2.id) h
  intro q hq
  unfold ordStep at hq
  split at hq
  · split at hq
    · unfold addPl at hq
      obtain ⟨y, hy, e⟩ := List.mem_map.1 hq
      have := hn y hy
      split at e <;> subst e
      · simp; omega
      · omega
    · have := hn q hq; omega
  · have := h q hq; omega
theorem ordL_th (tx : Int → Tx) (l : List Ev) : ∀ q ∈ ordL tx l, q.th.length ≤ l.length := by
  have : ∀ (m : List (Nat × Ev)) (acc : List Pl) (b : Nat), (∀ q ∈ acc, q.th.length ≤ b) → ∀ q ∈ m.foldl (ordStep tx) acc, q.th.length ≤ b + m.length := by
    intro m
    induction m with
    | nil => intro acc b h q hq; simpa using h q hq
    | cons p m ih => intro acc b h q hq; have := ih (ordStep tx acc p) (b + 1) (ordStep_th h) q hq; simp only [List.length_cons]; omega
  have := this (numd l) [] 0 (fun q hq => by cases hq)
  simpa [ordL, numd] using this
theorem ordStep_nd {tx : Int → Tx} {acc : List Pl} {i : Nat} {x : Ev} (h1 : hasB x = true) (h2 : (tx x.id).comm = true) (h3 : didB (tx x.id).epoch x = false) : ordStep tx acc (i, x) = newPl (tx x.id) x.id acc := by
  unfold ordStep; simp [h1, h2, h3]
theorem ordStep_d {tx : Int → Tx} {acc : List Pl} {i : Nat} {x : Ev} (h1 : hasB x = true) (h2 : (tx x.id).comm = true) (h3 : didB (tx x.id).epoch x = true) : ordStep tx acc (i, x) = addPl (i, x) (newPl (tx x.id) x.id acc) := by
  unfold ordStep; simp [h1, h2, h3]

set_option maxRecDepth 100000 in
set_option maxHeartbeats 4000000 in
theorem order_any (W : World) (L : List Chunk) (w : World) (g gd gt : Nat) (k : Look) (Dd : List (Int × Value)) (T : List (Int × Nat × Tx)) (n : Nat) (hk : LkOk k Dd T n) (hn : n ≤ 1000000) (A : Option Addr) (ca : Nat) (l : List Ev) (hr : Knows L (EvsIn A l)) (hl : l.length ≤ 5000) (hn3 : n ≤ 100000) (hok : ∀ x ∈ l, hasB x = true → 1 ≤ x.id ∧ x.id ≤ 9007199254740991) (s : St W (Chunk.blk g [.int .i64 k.ti, .int .i64 k.most, .map (some gd), .map (some gt)] 48 :: MapT Try.prog 3 encI gd Dd :: MapT Try.prog 3 encI gt (T.map ent) :: Blks T :: L) w) :
    Calls Try.prog 23 #[.pointer (some ⟨g, 0, none⟩), .slice A l.length ca] w fun e w' => ∃ T2 A1 c1 ds B1 c2 rs D, e = .returned (.tuple #[.slice A1 ds.length c1, .slice B1 rs.length c2]) ∧ LkOk k Dd T2 (n + 10000) ∧ OrdOk (ordL k.tx l) ds rs D ∧ St W (Own 72 4 A1 ds.length c1 (nvs ds) :: Inn 74 ds :: Own 59 1 B1 rs.length c2 (ats rs) :: InnA rs :: Chunk.blk g [.int .i64 k.ti, .int .i64 k.most, .map (some gd), .map (some gt)] 48 :: MapT Try.prog 3 encI gd Dd :: MapT Try.prog 3 encI gt (T2.map ent) :: Blks T2 :: L) w' := by
  skip
  refine enter_args (l := [.pointer (some ⟨g, 0, none⟩), .slice A l.length ca]) Try.func23 rfl rfl (Nat.le_of_ble_eq_true rfl) ?_
  intro a ha; replace ha : Has a 124 [(0, .pointer (some ⟨g, 0, none⟩)), (1, .slice A l.length ca)] := ha
  refine wp_seq ?_
  refine wp_region_lit ?_
  refine st_val (.slice none 0 0) ha (by kernel_rfl) (by kernel_rfl) ?_
  clear ha; intro a ha
  refine st_val (.slice none 0 0) ha (by kernel_rfl) (by kernel_rfl) ?_
  clear ha; intro a ha
  refine wpList_nil ?_
  refine then_normal ?_
  refine wp_seq ?_
  refine wp_region_lit ?_
  refine st_ex ha (by kernel_rfl) (ex_makeMap Try.prog 3 encI s rfl) ?_
  clear ha; rintro _ w a ⟨g1, rfl, s⟩ ha
  refine st_val (.map (some g1)) ha (by kernel_rfl) (by kernel_rfl) ?_
  clear ha; intro a ha
  refine wpList_nil ?_
  refine then_normal ?_
  refine wp_seq ?_
  refine wp_seq ?_
  refine wp_region_lit ?_
  refine st_val (.slice A l.length ca) ha (by kernel_rfl) (by kernel_rfl) ?_
  clear ha; intro a ha
  refine st_val (.int .i64 ((l.length : Nat) : Int)) ha (by kernel_rfl) (by kernel_rfl) ?_
  clear ha; intro a ha
  refine st_val (.int .i64 0) ha (by kernel_rfl) (by kernel_rfl) ?_
  clear ha; intro a ha
  refine wpList_nil ?_
  refine then_normal ?_
  refine wp_block ?_
  replace s := star_nil (F := fun d : Dn => Own 74 7 d.A d.l.length d.c (dvs d.l)) (star_nil (F := fun a : At => Own 3 1 a.A a.l.length a.c (nats a.l)) (Own.none_ (e := 72) (k := 4) none (Own.none_ (e := 59) (k := 1) none s)))
  replace s : St W (star (([] : List Dn).map fun d => Own 74 7 d.A d.l.length d.c (dvs d.l)) :: star (([] : List At).map fun a => Own 3 1 a.A a.l.length a.c (nats a.l)) :: Own 72 4 none 0 0 [] :: Own 59 1 none 0 0 [] :: MapT Try.prog 3 encI g1 [] :: .blk g [.int .i64 k.ti, .int .i64 k.most, .map (some gd), .map (some gt)] 48 :: MapT Try.prog 3 encI gd Dd :: MapT Try.prog 3 encI gt (T.map ent) :: Blks T :: L) w := s
  replace s := ((((((((s.at_ (j := 4) rfl).at_ (j := 2) rfl).at_ (j := 4) rfl).at_ (j := 3) rfl).at_ (j := 4) rfl).at_ (j := 8) rfl).at_ (j := 8) rfl).at_ (j := 8) rfl).at_ (j := 8) rfl
  replace s : St W (.blk g [.int .i64 k.ti, .int .i64 k.most, .map (some gd), .map (some gt)] 48 :: MapT Try.prog 3 encI gd Dd :: MapT Try.prog 3 encI gt (T.map ent) :: Blks T :: Own 72 4 none 0 0 [] :: star (([] : List Dn).map fun d => Own 74 7 d.A d.l.length d.c (dvs d.l)) :: Own 59 1 none 0 0 [] :: star (([] : List At).map fun a => Own 3 1 a.A a.l.length a.c (nats a.l)) :: MapT Try.prog 3 encI g1 [] :: L) w := s
  refine wp_loopG (G := (Nat × List (Int × Nat × Tx) × Option Addr × Nat × List Dn × Option Addr × Nat × List At × List (Int × Value))) (fun ⟨i, T, A1, c1, ds, B1, c2, rs, D⟩ a w => Has a 124 [(0, .pointer (some ⟨g, 0, none⟩)), (6, .map (some g1)), (13, .slice A l.length ca), (14, .int .i64 ((l.length : Nat) : Int)), (4, .slice A1 ds.length c1), (5, .slice B1 rs.length c2), (15, .int .i64 ((i : Nat) : Int))] ∧ St W (.blk g [.int .i64 k.ti, .int .i64 k.most, .map (some gd), .map (some gt)] 48 :: MapT Try.prog 3 encI gd Dd :: MapT Try.prog 3 encI gt (T.map ent) :: Blks T :: Own 72 4 A1 ds.length c1 (nvs ds) :: star (ds.map fun d => Own 74 7 d.A d.l.length d.c (dvs d.l)) :: Own 59 1 B1 rs.length c2 (ats rs) :: star (rs.map fun a => Own 3 1 a.A a.l.length a.c (nats a.l)) :: MapT Try.prog 3 encI g1 D :: L) w ∧ (i ≤ l.length ∧ LkOk k Dd T (n + 2 * i) ∧ OrdOk (ordL k.tx (l.take i)) ds rs D)) (fun ⟨i, T, A1, c1, ds, B1, c2, rs, D⟩ => l.length - i) (0, T, none, 0, [], none, 0, [], []) ?_ ?_
  · exact ⟨(Has.cons ha (by kernel_rfl) (by kernel_rfl) (Has.cons ha (by kernel_rfl) (by kernel_rfl) (Has.cons ha (by kernel_rfl) (by kernel_rfl) (Has.cons ha (by kernel_rfl) (by kernel_rfl) (Has.cons ha (by kernel_rfl) (by kernel_rfl) (Has.cons ha (by kernel_rfl) (by kernel_rfl) (Has.cons ha (by kernel_rfl) (by kernel_rfl) (Has.nil ha)))))))), s, ⟨Nat.zero_le _, hk, OrdOk.start⟩⟩
  · clear ha s; rintro ⟨i, T, A1, c1, ds, B1, c2, rs, D⟩ a w ⟨ha, s, hp⟩
    refine wp_seq ?_
    refine wp_region_lit ?_
    refine st_val (.bool (decide (((i : Nat) : Int) < ((l.length : Nat) : Int)))) ha (by kernel_rfl) (by kernel_rfl) ?_
    clear ha; intro a ha
    refine wpList_nil ?_
    refine then_normal ?_
    refine wp_seq ?_
    refine wp_part (decide (((i : Nat) : Int) < ((l.length : Nat) : Int))) ha rfl (by kernel_rfl) (fun hb => ?_) (fun hb => ?_)
    · rw [hb] at ha; replace hb : (((i : Nat) : Int) < ((l.length : Nat) : Int)) := of_decide_eq_true hb
      have hk := hp.2.1
      have ho := hp.2.2
      have hol := ho.len
      have hoL := ordL_len k.tx (l.take i)
      rw [List.length_take, Nat.min_eq_left (by omega)] at hoL
      obtain ⟨x, hx⟩ : ∃ x, l[i]? = some x := ⟨_, List.getElem?_eq_getElem (by omega)⟩
      obtain ⟨ad, hA⟩ := Reads.addr (hr _ s.sat.tail.tail.tail.tail.tail.tail.tail.tail.tail).1 (by omega)
      subst hA
      refine wp_skip ?_
      refine then_normal ?_
      refine wp_seq ?_
      refine wp_block ?_
      refine wp_seq ?_
      refine wp_region_lit ?_
      refine st_val (.int .i64 ((i : Nat) : Int)) ha (by kernel_rfl) (by kernel_rfl) ?_
      clear ha; intro a ha
      refine st_val (.pointer (some (ad.add (i * 16)))) ha (by kernel_rfl) (run_indexAddr' (kd := .i64) (i := ((i : Nat) : Int)) (n := l.length) (c := ca) i rfl Try.underlying22 Try.sizeOf36 (by kernel_rfl) (by kernel_rfl) rfl (by first | assumption | omega) _) ?_
      clear ha; intro a ha
      refine st_val (.agg (evv x).toArray) ha (by kernel_rfl) (run_loadAtN (i := i * 16) (evv x) ((hr _ s.sat.tail.tail.tail.tail.tail.tail.tail.tail.tail).1) rfl (by kernel_rfl) Try.isAgg36 Try.sizeOf36 (fun q_ hq_ => evs_at hx hq_) rfl) ?_
      clear ha; intro a ha
      refine st_ex ha (by kernel_rfl) (ex_alloc [.int .i64 0, .int .i64 0, .int .i64 0, .int .i64 0, .int .i64 0, .int .i64 0, .string (str []), .string (str []), .string (str []), .string (str []), .bool false, .slice none 0 0, .int .i64 0, .int .i64 0, .int .i64 0, .int .i64 0] s rfl (Try.zeroValue36 _) (by kernel_rfl)) ?_
      clear ha; rintro _ w a ⟨g2, rfl, s⟩ ha
      refine st_val (.int .i64 ((i : Nat) : Int)) ha (by kernel_rfl) (by kernel_rfl) ?_
      clear ha; intro a ha
      refine st_exd ha (by kernel_rfl) (ex_store (of_ := 0) 0 (evv x) s rfl rfl (by kernel_rfl) (by kernel_rfl) (Try.sizeOf36 _) rfl (by simp [evv, txv, Value.oneCell']) (Nat.le_of_ble_eq_true rfl)) ?_
      clear ha; rintro w a s ha
      replace s : St W (.blk g2 (evv x) 36 :: .blk g [.int .i64 k.ti, .int .i64 k.most, .map (some gd), .map (some gt)] 48 :: MapT Try.prog 3 encI gd Dd :: MapT Try.prog 3 encI gt (T.map ent) :: Blks T :: Own 72 4 A1 ds.length c1 (nvs ds) :: star (ds.map fun d => Own 74 7 d.A d.l.length d.c (dvs d.l)) :: Own 59 1 B1 rs.length c2 (ats rs) :: star (rs.map fun a => Own 3 1 a.A a.l.length a.c (nats a.l)) :: MapT Try.prog 3 encI g1 D :: L) w := s
      refine wpList_nil ?_
      refine then_normal ?_
      refine wp_seq ?_
      refine wp_seq ?_
      refine wp_region_lit ?_
      refine st_val (.agg (evv x).toArray) ha (by kernel_rfl) (run_loadN (of_ := 0) (evv x) (s.blkIs 0 rfl) rfl (by kernel_rfl) Try.isAgg36 Try.sizeOf36 rfl (Nat.le_of_ble_eq_true rfl)) ?_
      clear ha; intro a ha
      refine st_call ha (by kernel_rfl) (by kernel_rfl) (has_id W _ w x s) ?_
      rintro _ w ⟨rfl, s⟩
      refine ⟨_, rfl, ?_⟩; clear ha; intro a ha
      refine st_val (.bool (!(hasB x))) ha (by kernel_rfl) (by kernel_rfl) ?_
      clear ha; intro a ha
      refine st_val (.bool (!(hasB x))) ha (by kernel_rfl) (by kernel_rfl) ?_
      clear ha; intro a ha
      rcases Bool.eq_false_or_eq_true (!(hasB x)) with hb | hb
      · rw [hb] at ha; skip
        have hstep : OrdOk (ordStep k.tx (ordL k.tx (l.take i)) (i, x)) ds rs D := by rw [ordStep_no (.inl (by simpa using hb))]; exact ho
        refine st_pass ha (by kernel_rfl) ?_
        clear ha; intro a ha
        refine st_pass ha (by kernel_rfl) ?_
        clear ha; intro a ha
        refine st_pass ha (by kernel_rfl) ?_
        clear ha; intro a ha
        refine st_pass ha (by kernel_rfl) ?_
        clear ha; intro a ha
        refine st_pass ha (by kernel_rfl) ?_
        clear ha; intro a ha
        refine st_pass ha (by kernel_rfl) ?_
        clear ha; intro a ha
        refine st_pass ha (by kernel_rfl) ?_
        clear ha; intro a ha
        refine st_pass ha (by kernel_rfl) ?_
        clear ha; intro a ha
        refine st_pass ha (by kernel_rfl) ?_
        clear ha; intro a ha
        refine st_val (.bool true) ha (by kernel_rfl) (by kernel_rfl) ?_
        clear ha; intro a ha
        refine wpList_nil ?_
        refine then_normal ?_
        refine wp_true ha rfl (by kernel_rfl) ?_
        refine wp_exit ?_
        refine then_exit ?_
        refine block_hit ?_
        refine then_normal ?_
        refine wp_region_lit ?_
        refine st_val (.int .i64 ((i + 1 : Nat) : Int)) ha (by kernel_rfl) (run_arith (((i : Nat) : Int) + (1 : Int)) ((i + 1 : Nat) : Int) rfl (by kernel_rfl) (by kernel_rfl) (.inl ⟨rfl, rfl⟩) (by rw [wrap64_in (by omega)]; try omega) _) ?_
        clear ha; intro a ha
        refine st_val (.int .i64 ((i + 1 : Nat) : Int)) ha (by kernel_rfl) (by kernel_rfl) ?_
        clear ha; intro a ha
        refine wpList_nil ?_
        refine then_normal ?_
        replace s := ((((((((s.at_ (j := 9) rfl).at_ (j := 9) rfl).at_ (j := 9) rfl).at_ (j := 9) rfl).at_ (j := 9) rfl).at_ (j := 9) rfl).at_ (j := 9) rfl).at_ (j := 9) rfl).at_ (j := 9) rfl
        replace s : St W (.blk g [.int .i64 k.ti, .int .i64 k.most, .map (some gd), .map (some gt)] 48 :: MapT Try.prog 3 encI gd Dd :: MapT Try.prog 3 encI gt (T.map ent) :: Blks T :: Own 72 4 A1 ds.length c1 (nvs ds) :: star (ds.map fun d => Own 74 7 d.A d.l.length d.c (dvs d.l)) :: Own 59 1 B1 rs.length c2 (ats rs) :: star (rs.map fun a => Own 3 1 a.A a.l.length a.c (nats a.l)) :: MapT Try.prog 3 encI g1 D :: L) w := s.keep 9 1
        exact ⟨(i + 1, T, A1, c1, ds, B1, c2, rs, D), (show l.length - (i + 1) < l.length - i by omega), (Has.cons ha (by kernel_rfl) (by kernel_rfl) (Has.cons ha (by kernel_rfl) (by kernel_rfl) (Has.cons ha (by kernel_rfl) (by kernel_rfl) (Has.cons ha (by kernel_rfl) (by kernel_rfl) (Has.cons ha (by kernel_rfl) (by kernel_rfl) (Has.cons ha (by kernel_rfl) (by kernel_rfl) (Has.cons ha (by kernel_rfl) (by kernel_rfl) (Has.nil ha)))))))), s, (show i + 1 ≤ l.length by omega), hk.up (by omega), by rw [ordL_step hx]; exact hstep⟩
      · rw [hb] at ha; skip
        have hhx : hasB x = true := by simpa using hb
        have hid := hok x (List.mem_of_getElem? hx) hhx
        refine st_val (.pointer (some ⟨g, 0, none⟩)) ha (by kernel_rfl) (by kernel_rfl) ?_
        clear ha; intro a ha
        refine st_val (.pointer (some ⟨g2, 3, none⟩)) ha (by kernel_rfl) (by kernel_rfl) ?_
        clear ha; intro a ha
        refine st_val (.int .i64 x.id) ha (by kernel_rfl) (run_load1 (of_ := 3) (s.blkIs 0 rfl) rfl (by kernel_rfl) Try.isAgg3 rfl) ?_
        clear ha; intro a ha
        replace s := (((s.at_ (j := 4) rfl).at_ (j := 4) rfl).at_ (j := 4) rfl).at_ (j := 4) rfl
        replace s : St W (.blk g [.int .i64 k.ti, .int .i64 k.most, .map (some gd), .map (some gt)] 48 :: MapT Try.prog 3 encI gd Dd :: MapT Try.prog 3 encI gt (T.map ent) :: Blks T :: .blk g2 (evv x) 36 :: Own 72 4 A1 ds.length c1 (nvs ds) :: star (ds.map fun d => Own 74 7 d.A d.l.length d.c (dvs d.l)) :: Own 59 1 B1 rs.length c2 (ats rs) :: star (rs.map fun a => Own 3 1 a.A a.l.length a.c (nats a.l)) :: MapT Try.prog 3 encI g1 D :: L) w := s
        refine st_call ha (by kernel_rfl) (by kernel_rfl) (txn_any W _ w g gd gt k Dd T (n + 2 * i) hk (by omega) x.id hid s) ?_
        rintro _ w ⟨T, q, b, rfl, ht2, hk, s⟩
        obtain ⟨t, ht⟩ : ∃ t, t = k.tx x.id := ⟨_, rfl⟩
        rw [← ht] at ht2
        replace s := s.at_ (j := 3) rfl
        replace s : St W (Blks T :: .blk g [.int .i64 k.ti, .int .i64 k.most, .map (some gd), .map (some gt)] 48 :: MapT Try.prog 3 encI gd Dd :: MapT Try.prog 3 encI gt (T.map ent) :: .blk g2 (evv x) 36 :: Own 72 4 A1 ds.length c1 (nvs ds) :: star (ds.map fun d => Own 74 7 d.A d.l.length d.c (dvs d.l)) :: Own 59 1 B1 rs.length c2 (ats rs) :: star (rs.map fun a => Own 3 1 a.A a.l.length a.c (nats a.l)) :: MapT Try.prog 3 encI g1 D :: L) w := s
        replace s := Blks.open_ ht2 s
        replace s : St W (.blk b (txv t) 67 :: BRest T q :: .blk g [.int .i64 k.ti, .int .i64 k.most, .map (some gd), .map (some gt)] 48 :: MapT Try.prog 3 encI gd Dd :: MapT Try.prog 3 encI gt (T.map ent) :: .blk g2 (evv x) 36 :: Own 72 4 A1 ds.length c1 (nvs ds) :: star (ds.map fun d => Own 74 7 d.A d.l.length d.c (dvs d.l)) :: Own 59 1 B1 rs.length c2 (ats rs) :: star (rs.map fun a => Own 3 1 a.A a.l.length a.c (nats a.l)) :: MapT Try.prog 3 encI g1 D :: L) w := s
        refine ⟨_, rfl, ?_⟩; clear ha; intro a ha
        refine st_val (.pointer (some ⟨b, 0, none⟩)) ha (by kernel_rfl) (by kernel_rfl) ?_
        clear ha; intro a ha
        refine st_val (.pointer (some ⟨b, 19, none⟩)) ha (by kernel_rfl) (by kernel_rfl) ?_
        clear ha; intro a ha
        refine st_val (.pointer (some ⟨b, 19, none⟩)) ha (by kernel_rfl) (by kernel_rfl) ?_
        clear ha; intro a ha
        refine st_val (.bool t.comm) ha (by kernel_rfl) (run_load1 (of_ := 19) (s.blkIs 0 rfl) rfl (by kernel_rfl) Try.isAgg4 rfl) ?_
        clear ha; intro a ha
        refine st_val (.bool (!t.comm)) ha (by kernel_rfl) (by kernel_rfl) ?_
        clear ha; intro a ha
        refine st_val (.bool (!t.comm)) ha (by kernel_rfl) (by kernel_rfl) ?_
        clear ha; intro a ha
        refine wpList_nil ?_
        refine then_normal ?_
        refine wp_part (!t.comm) ha rfl (by kernel_rfl) (fun hb => ?_) (fun hb => ?_)
        · rw [hb] at ha; skip
          have hstep : OrdOk (ordStep k.tx (ordL k.tx (l.take i)) (i, x)) ds rs D := by rw [ordStep_no (.inr (by rw [← ht]; simpa using hb))]; exact ho
          refine wp_exit ?_
          refine then_exit ?_
          refine block_hit ?_
          refine then_normal ?_
          refine wp_region_lit ?_
          refine st_val (.int .i64 ((i + 1 : Nat) : Int)) ha (by kernel_rfl) (run_arith (((i : Nat) : Int) + (1 : Int)) ((i + 1 : Nat) : Int) rfl (by kernel_rfl) (by kernel_rfl) (.inl ⟨rfl, rfl⟩) (by rw [wrap64_in (by omega)]; try omega) _) ?_
          clear ha; intro a ha
          refine st_val (.int .i64 ((i + 1 : Nat) : Int)) ha (by kernel_rfl) (by kernel_rfl) ?_
          clear ha; intro a ha
          refine wpList_nil ?_
          refine then_normal ?_
          replace s := Blks.back ht2 s
          replace s : St W (Blks T :: .blk g [.int .i64 k.ti, .int .i64 k.most, .map (some gd), .map (some gt)] 48 :: MapT Try.prog 3 encI gd Dd :: MapT Try.prog 3 encI gt (T.map ent) :: .blk g2 (evv x) 36 :: Own 72 4 A1 ds.length c1 (nvs ds) :: star (ds.map fun d => Own 74 7 d.A d.l.length d.c (dvs d.l)) :: Own 59 1 B1 rs.length c2 (ats rs) :: star (rs.map fun a => Own 3 1 a.A a.l.length a.c (nats a.l)) :: MapT Try.prog 3 encI g1 D :: L) w := s
          replace s := ((((((((s.at_ (j := 9) rfl).at_ (j := 9) rfl).at_ (j := 9) rfl).at_ (j := 9) rfl).at_ (j := 9) rfl).at_ (j := 5) rfl).at_ (j := 8) rfl).at_ (j := 8) rfl).at_ (j := 8) rfl
          replace s : St W (.blk g [.int .i64 k.ti, .int .i64 k.most, .map (some gd), .map (some gt)] 48 :: MapT Try.prog 3 encI gd Dd :: MapT Try.prog 3 encI gt (T.map ent) :: Blks T :: Own 72 4 A1 ds.length c1 (nvs ds) :: star (ds.map fun d => Own 74 7 d.A d.l.length d.c (dvs d.l)) :: Own 59 1 B1 rs.length c2 (ats rs) :: star (rs.map fun a => Own 3 1 a.A a.l.length a.c (nats a.l)) :: MapT Try.prog 3 encI g1 D :: L) w := s.keep 9 1
          exact ⟨(i + 1, T, A1, c1, ds, B1, c2, rs, D), (show l.length - (i + 1) < l.length - i by omega), (Has.cons ha (by kernel_rfl) (by kernel_rfl) (Has.cons ha (by kernel_rfl) (by kernel_rfl) (Has.cons ha (by kernel_rfl) (by kernel_rfl) (Has.cons ha (by kernel_rfl) (by kernel_rfl) (Has.cons ha (by kernel_rfl) (by kernel_rfl) (Has.cons ha (by kernel_rfl) (by kernel_rfl) (Has.cons ha (by kernel_rfl) (by kernel_rfl) (Has.nil ha)))))))), s, (show i + 1 ≤ l.length by omega), hk.up (by omega), by rw [ordL_step hx]; exact hstep⟩
        · rw [hb] at ha; skip
          have hcm : t.comm = true := by simpa using hb
          obtain ⟨pm, hpm⟩ : ∃ pm, pm = ((ordL k.tx (l.take i)).findIdx? fun q => decide (q.id = x.id)) := ⟨_, rfl⟩
          refine wp_skip ?_
          refine then_normal ?_
          refine wp_seq ?_
          refine wp_region_lit ?_
          refine st_val (.pointer (some ⟨g, 0, none⟩)) ha (by kernel_rfl) (by kernel_rfl) ?_
          clear ha; intro a ha
          refine st_val (.pointer (some ⟨g2, 3, none⟩)) ha (by kernel_rfl) (by kernel_rfl) ?_
          clear ha; intro a ha
          refine st_val (.int .i64 x.id) ha (by kernel_rfl) (run_load1 (of_ := 3) (s.blkIs 5 rfl) rfl (by kernel_rfl) Try.isAgg3 rfl) ?_
          clear ha; intro a ha
          replace s := Blks.back ht2 s
          replace s : St W (Blks T :: .blk g [.int .i64 k.ti, .int .i64 k.most, .map (some gd), .map (some gt)] 48 :: MapT Try.prog 3 encI gd Dd :: MapT Try.prog 3 encI gt (T.map ent) :: .blk g2 (evv x) 36 :: Own 72 4 A1 ds.length c1 (nvs ds) :: star (ds.map fun d => Own 74 7 d.A d.l.length d.c (dvs d.l)) :: Own 59 1 B1 rs.length c2 (ats rs) :: star (rs.map fun a => Own 3 1 a.A a.l.length a.c (nats a.l)) :: MapT Try.prog 3 encI g1 D :: L) w := s
          replace s := ((s.at_ (j := 3) rfl).at_ (j := 3) rfl).at_ (j := 3) rfl
          replace s : St W (.blk g [.int .i64 k.ti, .int .i64 k.most, .map (some gd), .map (some gt)] 48 :: MapT Try.prog 3 encI gd Dd :: MapT Try.prog 3 encI gt (T.map ent) :: Blks T :: .blk g2 (evv x) 36 :: Own 72 4 A1 ds.length c1 (nvs ds) :: star (ds.map fun d => Own 74 7 d.A d.l.length d.c (dvs d.l)) :: Own 59 1 B1 rs.length c2 (ats rs) :: star (rs.map fun a => Own 3 1 a.A a.l.length a.c (nats a.l)) :: MapT Try.prog 3 encI g1 D :: L) w := s
          refine st_call ha (by kernel_rfl) (by kernel_rfl) (txn_any W _ w g gd gt k Dd T ((n + 2 * i) + 1) hk (by omega) x.id hid s) ?_
          rintro _ w ⟨T, q, b, rfl, ht2, hk, s⟩
          rw [← ht] at ht2
          replace s := s.at_ (j := 3) rfl
          replace s : St W (Blks T :: .blk g [.int .i64 k.ti, .int .i64 k.most, .map (some gd), .map (some gt)] 48 :: MapT Try.prog 3 encI gd Dd :: MapT Try.prog 3 encI gt (T.map ent) :: .blk g2 (evv x) 36 :: Own 72 4 A1 ds.length c1 (nvs ds) :: star (ds.map fun d => Own 74 7 d.A d.l.length d.c (dvs d.l)) :: Own 59 1 B1 rs.length c2 (ats rs) :: star (rs.map fun a => Own 3 1 a.A a.l.length a.c (nats a.l)) :: MapT Try.prog 3 encI g1 D :: L) w := s
          replace s := Blks.open_ ht2 s
          replace s : St W (.blk b (txv t) 67 :: BRest T q :: .blk g [.int .i64 k.ti, .int .i64 k.most, .map (some gd), .map (some gt)] 48 :: MapT Try.prog 3 encI gd Dd :: MapT Try.prog 3 encI gt (T.map ent) :: .blk g2 (evv x) 36 :: Own 72 4 A1 ds.length c1 (nvs ds) :: star (ds.map fun d => Own 74 7 d.A d.l.length d.c (dvs d.l)) :: Own 59 1 B1 rs.length c2 (ats rs) :: star (rs.map fun a => Own 3 1 a.A a.l.length a.c (nats a.l)) :: MapT Try.prog 3 encI g1 D :: L) w := s
          refine ⟨_, rfl, ?_⟩; clear ha; intro a ha
          refine st_val (.pointer (some ⟨b, 0, none⟩)) ha (by kernel_rfl) (by kernel_rfl) ?_
          clear ha; intro a ha
          refine st_val (.pointer (some ⟨b, 19, none⟩)) ha (by kernel_rfl) (by kernel_rfl) ?_
          clear ha; intro a ha
          refine st_val (.agg #[.bool t.comm, .bool t.abrt, .int .i64 t.epoch, .int .i64 t.wall, .int .i64 t.logic]) ha (by kernel_rfl) (run_loadN (of_ := 19) [.bool t.comm, .bool t.abrt, .int .i64 t.epoch, .int .i64 t.wall, .int .i64 t.logic] (s.blkIs 0 rfl) rfl (by kernel_rfl) Try.isAgg65 Try.sizeOf65 rfl (Nat.le_of_ble_eq_true rfl)) ?_
          clear ha; intro a ha
          refine st_ex ha (by kernel_rfl) (ex_alloc [.bool false, .bool false, .int .i64 0, .int .i64 0, .int .i64 0] s rfl (Try.zeroValue65 _) (by kernel_rfl)) ?_
          clear ha; rintro _ w a ⟨g3, rfl, s⟩ ha
          refine st_exd ha (by kernel_rfl) (ex_store (of_ := 0) 0 [.bool t.comm, .bool t.abrt, .int .i64 t.epoch, .int .i64 t.wall, .int .i64 t.logic] s rfl rfl (by kernel_rfl) (by kernel_rfl) (Try.sizeOf65 _) rfl (by simp [Value.oneCell']) (Nat.le_of_ble_eq_true rfl)) ?_
          clear ha; rintro w a s ha
          replace s : St W (.blk g3 [.bool t.comm, .bool t.abrt, .int .i64 t.epoch, .int .i64 t.wall, .int .i64 t.logic] 65 :: .blk b (txv t) 67 :: BRest T q :: .blk g [.int .i64 k.ti, .int .i64 k.most, .map (some gd), .map (some gt)] 48 :: MapT Try.prog 3 encI gd Dd :: MapT Try.prog 3 encI gt (T.map ent) :: .blk g2 (evv x) 36 :: Own 72 4 A1 ds.length c1 (nvs ds) :: star (ds.map fun d => Own 74 7 d.A d.l.length d.c (dvs d.l)) :: Own 59 1 B1 rs.length c2 (ats rs) :: star (rs.map fun a => Own 3 1 a.A a.l.length a.c (nats a.l)) :: MapT Try.prog 3 encI g1 D :: L) w := s
          refine wpList_nil ?_
          refine then_normal ?_
          refine wp_seq ?_
          refine wp_region_lit ?_
          refine st_val (.map (some g1)) ha (by kernel_rfl) (by kernel_rfl) ?_
          clear ha; intro a ha
          refine st_val (.pointer (some ⟨g2, 3, none⟩)) ha (by kernel_rfl) (by kernel_rfl) ?_
          clear ha; intro a ha
          refine st_val (.int .i64 x.id) ha (by kernel_rfl) (run_load1 (of_ := 3) (s.blkIs 6 rfl) rfl (by kernel_rfl) Try.isAgg3 rfl) ?_
          clear ha; intro a ha
          refine st_val (.tuple #[.int .i64 ((pm.getD 0 : Nat) : Int), .bool pm.isSome]) ha (by kernel_rfl) (run_lookup_ok (a := x.id) (.int .i64 ((pm.getD 0 : Nat) : Int)) pm.isSome (s.mapIs 11 rfl) rfl (by kernel_rfl) (by kernel_rfl) encI_inj keyed3 Try.underlying68 Try.zeroValue3 (key3 (by omega)) (by rw [ho.place, ← hpm]; cases pm <;> rfl) (by rw [ho.place, ← hpm]; cases pm <;> rfl)) ?_
          clear ha; intro a ha
          refine st_val (.tuple #[.int .i64 ((pm.getD 0 : Nat) : Int), .bool pm.isSome]) ha (by kernel_rfl) (by kernel_rfl) ?_
          clear ha; intro a ha
          refine st_val (.int .i64 ((pm.getD 0 : Nat) : Int)) ha (by kernel_rfl) (by kernel_rfl) ?_
          clear ha; intro a ha
          refine st_val (.bool pm.isSome) ha (by kernel_rfl) (by kernel_rfl) ?_
          clear ha; intro a ha
          refine st_val (.int .i64 ((pm.getD 0 : Nat) : Int)) ha (by kernel_rfl) (by kernel_rfl) ?_
          clear ha; intro a ha
          refine st_val (.bool pm.isSome) ha (by kernel_rfl) (by kernel_rfl) ?_
          clear ha; intro a ha
          refine wpList_nil ?_
          refine then_normal ?_
          replace s := (s.at_ (j := 2) rfl).at_ (j := 2) rfl
          replace s : St W (.blk b (txv t) 67 :: BRest T q :: .blk g3 [.bool t.comm, .bool t.abrt, .int .i64 t.epoch, .int .i64 t.wall, .int .i64 t.logic] 65 :: .blk g [.int .i64 k.ti, .int .i64 k.most, .map (some gd), .map (some gt)] 48 :: MapT Try.prog 3 encI gd Dd :: MapT Try.prog 3 encI gt (T.map ent) :: .blk g2 (evv x) 36 :: Own 72 4 A1 ds.length c1 (nvs ds) :: star (ds.map fun d => Own 74 7 d.A d.l.length d.c (dvs d.l)) :: Own 59 1 B1 rs.length c2 (ats rs) :: star (rs.map fun a => Own 3 1 a.A a.l.length a.c (nats a.l)) :: MapT Try.prog 3 encI g1 D :: L) w := s
          replace s := Blks.back ht2 s
          replace s : St W (Blks T :: .blk g3 [.bool t.comm, .bool t.abrt, .int .i64 t.epoch, .int .i64 t.wall, .int .i64 t.logic] 65 :: .blk g [.int .i64 k.ti, .int .i64 k.most, .map (some gd), .map (some gt)] 48 :: MapT Try.prog 3 encI gd Dd :: MapT Try.prog 3 encI gt (T.map ent) :: .blk g2 (evv x) 36 :: Own 72 4 A1 ds.length c1 (nvs ds) :: star (ds.map fun d => Own 74 7 d.A d.l.length d.c (dvs d.l)) :: Own 59 1 B1 rs.length c2 (ats rs) :: star (rs.map fun a => Own 3 1 a.A a.l.length a.c (nats a.l)) :: MapT Try.prog 3 encI g1 D :: L) w := s
          refine wp_between (fun a w => ∃ (A1 : Option Addr) (c1 : Nat) (ds2 : List Dn) (B1 : Option Addr) (c2 : Nat) (rs2 : List At) (D2 : List (Int × Value)) (m : Nat) (q0 : Pl), Has a 124 [(0, .pointer (some ⟨g, 0, none⟩)), (6, .map (some g1)), (7, .int .i64 ((i : Nat) : Int)), (8, .pointer (some ⟨g2, 0, none⟩)), (9, .pointer (some ⟨g3, 0, none⟩)), (13, .slice (some ad) l.length ca), (14, .int .i64 ((l.length : Nat) : Int)), (15, .int .i64 ((i : Nat) : Int)), (4, .slice A1 ds2.length c1), (5, .slice B1 rs2.length c2), (10, .int .i64 ((m : Nat) : Int))] ∧ St W (.blk g [.int .i64 k.ti, .int .i64 k.most, .map (some gd), .map (some gt)] 48 :: MapT Try.prog 3 encI gd Dd :: MapT Try.prog 3 encI gt (T.map ent) :: Blks T :: Own 72 4 A1 ds2.length c1 (nvs ds2) :: star (ds2.map fun d => Own 74 7 d.A d.l.length d.c (dvs d.l)) :: Own 59 1 B1 rs2.length c2 (ats rs2) :: star (rs2.map fun a => Own 3 1 a.A a.l.length a.c (nats a.l)) :: MapT Try.prog 3 encI g1 D2 :: .blk g2 (evv x) 36 :: .blk g3 [.bool t.comm, .bool t.abrt, .int .i64 t.epoch, .int .i64 t.wall, .int .i64 t.logic] 65 :: L) w ∧ OrdOk (newPl t x.id (ordL k.tx (l.take i))) ds2 rs2 D2 ∧ (newPl t x.id (ordL k.tx (l.take i)))[m]? = some q0 ∧ q0.id = x.id) ?_ ?_
          · skip
            refine wp_seq ?_
            refine wp_region_lit ?_
            refine st_val (.bool pm.isSome) ha (by kernel_rfl) (by kernel_rfl) ?_
            clear ha; intro a ha
            refine st_val (.bool (!pm.isSome)) ha (by kernel_rfl) (by kernel_rfl) ?_
            clear ha; intro a ha
            refine wpList_nil ?_
            refine then_normal ?_
            refine wp_part (!pm.isSome) ha rfl (by kernel_rfl) (fun hb => ?_) (fun hb => ?_)
            · rw [hb] at ha; skip
              have hfi : ((ordL k.tx (l.take i)).findIdx? fun q => decide (q.id = x.id)) = none := by rw [← hpm]; simpa using hb
              have hnp := newPl_none (t := t) hfi
              refine wp_seq ?_
              refine wp_region_lit ?_
              refine st_val (.slice A1 ds.length c1) ha (by kernel_rfl) (by kernel_rfl) ?_
              clear ha; intro a ha
              refine st_val (.int .i64 ((ds.length : Nat) : Int)) ha (by kernel_rfl) (by kernel_rfl) ?_
              clear ha; intro a ha
              refine st_val (.int .i64 ((ds.length : Nat) : Int)) ha (by kernel_rfl) (by kernel_rfl) ?_
              clear ha; intro a ha
              refine wpList_nil ?_
              refine then_normal ?_
              refine wp_seq ?_
              refine wp_region_lit ?_
              refine st_val (.map (some g1)) ha (by kernel_rfl) (by kernel_rfl) ?_
              clear ha; intro a ha
              refine st_val (.pointer (some ⟨g2, 3, none⟩)) ha (by kernel_rfl) (by kernel_rfl) ?_
              clear ha; intro a ha
              refine st_val (.int .i64 x.id) ha (by kernel_rfl) (run_load1 (of_ := 3) (s.blkIs 5 rfl) rfl (by kernel_rfl) Try.isAgg3 rfl) ?_
              clear ha; intro a ha
              refine st_val (.int .i64 ((ds.length : Nat) : Int)) ha (by kernel_rfl) (by kernel_rfl) ?_
              clear ha; intro a ha
              refine st_exd ha (by kernel_rfl) (ex_mapUpdate (a := x.id) 10 (.int .i64 ((ds.length : Nat) : Int)) s rfl rfl (by kernel_rfl) (by kernel_rfl) (by kernel_rfl) encI_inj keyed3 Try.underlying68 (key3 (by omega)) (by have h1 := ho.small; have h2 := ho.len.1; simp only [maxLen]; omega)) ?_
              clear ha; rintro w a s ha
              replace s : St W (Blks T :: .blk g3 [.bool t.comm, .bool t.abrt, .int .i64 t.epoch, .int .i64 t.wall, .int .i64 t.logic] 65 :: .blk g [.int .i64 k.ti, .int .i64 k.most, .map (some gd), .map (some gt)] 48 :: MapT Try.prog 3 encI gd Dd :: MapT Try.prog 3 encI gt (T.map ent) :: .blk g2 (evv x) 36 :: Own 72 4 A1 ds.length c1 (nvs ds) :: star (ds.map fun d => Own 74 7 d.A d.l.length d.c (dvs d.l)) :: Own 59 1 B1 rs.length c2 (ats rs) :: star (rs.map fun a => Own 3 1 a.A a.l.length a.c (nats a.l)) :: MapT Try.prog 3 encI g1 (mput D x.id (.int .i64 ((ds.length : Nat) : Int))) :: L) w := s
              refine wpList_nil ?_
              refine then_normal ?_
              refine wp_region_lit ?_
              refine st_val (.slice A1 ds.length c1) ha (by kernel_rfl) (by kernel_rfl) ?_
              clear ha; intro a ha
              refine st_val (.pointer (some ⟨g2, 3, none⟩)) ha (by kernel_rfl) (by kernel_rfl) ?_
              clear ha; intro a ha
              refine st_val (.int .i64 x.id) ha (by kernel_rfl) (run_load1 (of_ := 3) (s.blkIs 5 rfl) rfl (by kernel_rfl) Try.isAgg3 rfl) ?_
              clear ha; intro a ha
              refine st_val (.pointer (some ⟨g3, 3, none⟩)) ha (by kernel_rfl) (by kernel_rfl) ?_
              clear ha; intro a ha
              refine st_val (.agg #[.int .i64 t.wall, .int .i64 t.logic]) ha (by kernel_rfl) (run_loadN (of_ := 3) [.int .i64 t.wall, .int .i64 t.logic] (s.blkIs 1 rfl) rfl (by kernel_rfl) Try.isAgg34 Try.sizeOf34 rfl (Nat.le_of_ble_eq_true rfl)) ?_
              clear ha; intro a ha
              refine st_val (.agg #[.int .i64 x.id, .int .i64 t.wall, .int .i64 t.logic, .slice none 0 0]) ha (by kernel_rfl) (by kernel_rfl) ?_
              clear ha; intro a ha
              refine st_ex ha (by kernel_rfl) (ex_buildSlice elt53 _ zs53 [.int .i64 x.id, .int .i64 t.wall, .int .i64 t.logic, .slice none 0 0] s rfl (by kernel_rfl) (by decide)) ?_
              clear ha; rintro _ w a ⟨g4, rfl, s⟩ ha
              refine st_ex ha (by kernel_rfl) (ex_append (m := 1) (d' := 1) elt53 (by decide) 7 [.int .i64 x.id, .int .i64 t.wall, .int .i64 t.logic, .slice none 0 0] s rfl (by kernel_rfl) (by kernel_rfl) rfl (reads_blk (s.blkIs 0 rfl) rfl) (by simp [Value.oneCell']) (by simp only [maxLen]; omega) (by omega)) ?_
              clear ha; rintro _ w a ⟨A5, c6, rfl, hA_, s⟩ ha
              rw [show [.int .i64 x.id, .int .i64 t.wall, .int .i64 t.logic, .slice none 0 0] = nv (⟨x.id, t.wall, t.logic, none, 0, []⟩ : Dn) from rfl, nvs_snoc] at s
              replace s : St W (.blk g4 [.int .i64 x.id, .int .i64 t.wall, .int .i64 t.logic, .slice none 0 0] 72 :: Blks T :: .blk g3 [.bool t.comm, .bool t.abrt, .int .i64 t.epoch, .int .i64 t.wall, .int .i64 t.logic] 65 :: .blk g [.int .i64 k.ti, .int .i64 k.most, .map (some gd), .map (some gt)] 48 :: MapT Try.prog 3 encI gd Dd :: MapT Try.prog 3 encI gt (T.map ent) :: .blk g2 (evv x) 36 :: Own 72 4 A5 (ds.length + 1) c6 (nvs (ds ++ [(⟨x.id, t.wall, t.logic, none, 0, []⟩ : Dn)])) :: star (ds.map fun d => Own 74 7 d.A d.l.length d.c (dvs d.l)) :: Own 59 1 B1 rs.length c2 (ats rs) :: star (rs.map fun a => Own 3 1 a.A a.l.length a.c (nats a.l)) :: MapT Try.prog 3 encI g1 (mput D x.id (.int .i64 ((ds.length : Nat) : Int))) :: L) w := s
              replace s := s.at_ (j := 8) rfl
              replace s : St W (star (ds.map fun d => Own 74 7 d.A d.l.length d.c (dvs d.l)) :: .blk g4 [.int .i64 x.id, .int .i64 t.wall, .int .i64 t.logic, .slice none 0 0] 72 :: Blks T :: .blk g3 [.bool t.comm, .bool t.abrt, .int .i64 t.epoch, .int .i64 t.wall, .int .i64 t.logic] 65 :: .blk g [.int .i64 k.ti, .int .i64 k.most, .map (some gd), .map (some gt)] 48 :: MapT Try.prog 3 encI gd Dd :: MapT Try.prog 3 encI gt (T.map ent) :: .blk g2 (evv x) 36 :: Own 72 4 A5 (ds.length + 1) c6 (nvs (ds ++ [(⟨x.id, t.wall, t.logic, none, 0, []⟩ : Dn)])) :: Own 59 1 B1 rs.length c2 (ats rs) :: star (rs.map fun a => Own 3 1 a.A a.l.length a.c (nats a.l)) :: MapT Try.prog 3 encI g1 (mput D x.id (.int .i64 ((ds.length : Nat) : Int))) :: L) w := s
              replace s := star_snoc (F := fun d : Dn => Own 74 7 d.A d.l.length d.c (dvs d.l)) (⟨x.id, t.wall, t.logic, none, 0, []⟩ : Dn) (Own.none_ (e := 74) (k := 7) none s)
              replace s : St W (star ((ds ++ [(⟨x.id, t.wall, t.logic, none, 0, []⟩ : Dn)]).map fun d => Own 74 7 d.A d.l.length d.c (dvs d.l)) :: .blk g4 [.int .i64 x.id, .int .i64 t.wall, .int .i64 t.logic, .slice none 0 0] 72 :: Blks T :: .blk g3 [.bool t.comm, .bool t.abrt, .int .i64 t.epoch, .int .i64 t.wall, .int .i64 t.logic] 65 :: .blk g [.int .i64 k.ti, .int .i64 k.most, .map (some gd), .map (some gt)] 48 :: MapT Try.prog 3 encI gd Dd :: MapT Try.prog 3 encI gt (T.map ent) :: .blk g2 (evv x) 36 :: Own 72 4 A5 (ds.length + 1) c6 (nvs (ds ++ [(⟨x.id, t.wall, t.logic, none, 0, []⟩ : Dn)])) :: Own 59 1 B1 rs.length c2 (ats rs) :: star (rs.map fun a => Own 3 1 a.A a.l.length a.c (nats a.l)) :: MapT Try.prog 3 encI g1 (mput D x.id (.int .i64 ((ds.length : Nat) : Int))) :: L) w := s
              refine st_val (.slice B1 rs.length c2) ha (by kernel_rfl) (by kernel_rfl) ?_
              clear ha; intro a ha
              refine st_ex ha (by kernel_rfl) (ex_buildSlice elt54 _ zs54 [.slice none 0 0] s rfl (by kernel_rfl) (by decide)) ?_
              clear ha; rintro _ w a ⟨g7, rfl, s⟩ ha
              refine st_ex ha (by kernel_rfl) (ex_append (m := 1) (d' := 1) elt54 (by decide) 10 [.slice none 0 0] s rfl (by kernel_rfl) (by kernel_rfl) rfl (reads_blk (s.blkIs 0 rfl) rfl) (by simp [Value.oneCell']) (by simp only [maxLen]; omega) (by omega)) ?_
              clear ha; rintro _ w a ⟨A8, c9, rfl, hA_, s⟩ ha
              rw [show [.slice none 0 0] = atv (⟨[], none, 0⟩ : At) from rfl, ats_snoc] at s
              replace s : St W (.blk g7 [.slice none 0 0] 59 :: star ((ds ++ [(⟨x.id, t.wall, t.logic, none, 0, []⟩ : Dn)]).map fun d => Own 74 7 d.A d.l.length d.c (dvs d.l)) :: .blk g4 [.int .i64 x.id, .int .i64 t.wall, .int .i64 t.logic, .slice none 0 0] 72 :: Blks T :: .blk g3 [.bool t.comm, .bool t.abrt, .int .i64 t.epoch, .int .i64 t.wall, .int .i64 t.logic] 65 :: .blk g [.int .i64 k.ti, .int .i64 k.most, .map (some gd), .map (some gt)] 48 :: MapT Try.prog 3 encI gd Dd :: MapT Try.prog 3 encI gt (T.map ent) :: .blk g2 (evv x) 36 :: Own 72 4 A5 (ds.length + 1) c6 (nvs (ds ++ [(⟨x.id, t.wall, t.logic, none, 0, []⟩ : Dn)])) :: Own 59 1 A8 (rs.length + 1) c9 (ats (rs ++ [(⟨[], none, 0⟩ : At)])) :: star (rs.map fun a => Own 3 1 a.A a.l.length a.c (nats a.l)) :: MapT Try.prog 3 encI g1 (mput D x.id (.int .i64 ((ds.length : Nat) : Int))) :: L) w := s
              replace s := s.at_ (j := 11) rfl
              replace s : St W (star (rs.map fun a => Own 3 1 a.A a.l.length a.c (nats a.l)) :: .blk g7 [.slice none 0 0] 59 :: star ((ds ++ [(⟨x.id, t.wall, t.logic, none, 0, []⟩ : Dn)]).map fun d => Own 74 7 d.A d.l.length d.c (dvs d.l)) :: .blk g4 [.int .i64 x.id, .int .i64 t.wall, .int .i64 t.logic, .slice none 0 0] 72 :: Blks T :: .blk g3 [.bool t.comm, .bool t.abrt, .int .i64 t.epoch, .int .i64 t.wall, .int .i64 t.logic] 65 :: .blk g [.int .i64 k.ti, .int .i64 k.most, .map (some gd), .map (some gt)] 48 :: MapT Try.prog 3 encI gd Dd :: MapT Try.prog 3 encI gt (T.map ent) :: .blk g2 (evv x) 36 :: Own 72 4 A5 (ds.length + 1) c6 (nvs (ds ++ [(⟨x.id, t.wall, t.logic, none, 0, []⟩ : Dn)])) :: Own 59 1 A8 (rs.length + 1) c9 (ats (rs ++ [(⟨[], none, 0⟩ : At)])) :: MapT Try.prog 3 encI g1 (mput D x.id (.int .i64 ((ds.length : Nat) : Int))) :: L) w := s
              replace s := star_snoc (F := fun a : At => Own 3 1 a.A a.l.length a.c (nats a.l)) (⟨[], none, 0⟩ : At) (Own.none_ (e := 3) (k := 1) none s)
              replace s : St W (star ((rs ++ [(⟨[], none, 0⟩ : At)]).map fun a => Own 3 1 a.A a.l.length a.c (nats a.l)) :: .blk g7 [.slice none 0 0] 59 :: star ((ds ++ [(⟨x.id, t.wall, t.logic, none, 0, []⟩ : Dn)]).map fun d => Own 74 7 d.A d.l.length d.c (dvs d.l)) :: .blk g4 [.int .i64 x.id, .int .i64 t.wall, .int .i64 t.logic, .slice none 0 0] 72 :: Blks T :: .blk g3 [.bool t.comm, .bool t.abrt, .int .i64 t.epoch, .int .i64 t.wall, .int .i64 t.logic] 65 :: .blk g [.int .i64 k.ti, .int .i64 k.most, .map (some gd), .map (some gt)] 48 :: MapT Try.prog 3 encI gd Dd :: MapT Try.prog 3 encI gt (T.map ent) :: .blk g2 (evv x) 36 :: Own 72 4 A5 (ds.length + 1) c6 (nvs (ds ++ [(⟨x.id, t.wall, t.logic, none, 0, []⟩ : Dn)])) :: Own 59 1 A8 (rs.length + 1) c9 (ats (rs ++ [(⟨[], none, 0⟩ : At)])) :: MapT Try.prog 3 encI g1 (mput D x.id (.int .i64 ((ds.length : Nat) : Int))) :: L) w := s
              refine st_val (.slice A5 (ds.length + 1) c6) ha (by kernel_rfl) (by kernel_rfl) ?_
              clear ha; intro a ha
              refine st_val (.slice A8 (rs.length + 1) c9) ha (by kernel_rfl) (by kernel_rfl) ?_
              clear ha; intro a ha
              refine wpList_nil ?_
              refine then_normal ?_
              have ho2 := ho.new (wall := t.wall) (logic := t.logic) hfi
              rw [← hnp, ← hol.1] at ho2
              have hq0 : (newPl t x.id (ordL k.tx (l.take i)))[ds.length]? = some ⟨x.id, t.wall, t.logic, []⟩ := by rw [hnp, hol.1, List.getElem?_append_right (Nat.le_refl _)]; simp
              have hqi : (⟨x.id, t.wall, t.logic, []⟩ : Pl).id = x.id := rfl
              generalize (⟨x.id, t.wall, t.logic, []⟩ : Pl) = q0 at hq0 hqi
              obtain ⟨ds2, hds2⟩ : ∃ z, z = ds ++ [(⟨x.id, t.wall, t.logic, none, 0, []⟩ : Dn)] := ⟨_, rfl⟩
              obtain ⟨rs2, hrs2⟩ : ∃ z, z = rs ++ [(⟨[], none, 0⟩ : At)] := ⟨_, rfl⟩
              have hl2 : ds.length + 1 = ds2.length := by rw [hds2]; simp
              have hr2 : rs.length + 1 = rs2.length := by rw [hrs2]; simp
              rw [← hds2, ← hrs2] at ho2
              rw [hl2, ← hds2, hr2, ← hrs2] at s
              rw [hl2, hr2] at ha
              replace s : St W (star (rs2.map fun a => Own 3 1 a.A a.l.length a.c (nats a.l)) :: .blk g7 [.slice none 0 0] 59 :: star (ds2.map fun d => Own 74 7 d.A d.l.length d.c (dvs d.l)) :: .blk g4 [.int .i64 x.id, .int .i64 t.wall, .int .i64 t.logic, .slice none 0 0] 72 :: Blks T :: .blk g3 [.bool t.comm, .bool t.abrt, .int .i64 t.epoch, .int .i64 t.wall, .int .i64 t.logic] 65 :: .blk g [.int .i64 k.ti, .int .i64 k.most, .map (some gd), .map (some gt)] 48 :: MapT Try.prog 3 encI gd Dd :: MapT Try.prog 3 encI gt (T.map ent) :: .blk g2 (evv x) 36 :: Own 72 4 A5 ds2.length c6 (nvs ds2) :: Own 59 1 A8 rs2.length c9 (ats rs2) :: MapT Try.prog 3 encI g1 (mput D x.id (.int .i64 ((ds.length : Nat) : Int))) :: L) w := s
              replace s := ((((((((((s.at_ (j := 5) rfl).at_ (j := 9) rfl).at_ (j := 12) rfl).at_ (j := 3) rfl).at_ (j := 12) rfl).at_ (j := 6) rfl).at_ (j := 12) rfl).at_ (j := 9) rfl).at_ (j := 12) rfl).at_ (j := 12) rfl).at_ (j := 12) rfl
              replace s : St W (.blk g [.int .i64 k.ti, .int .i64 k.most, .map (some gd), .map (some gt)] 48 :: MapT Try.prog 3 encI gd Dd :: MapT Try.prog 3 encI gt (T.map ent) :: Blks T :: Own 72 4 A5 ds2.length c6 (nvs ds2) :: star (ds2.map fun d => Own 74 7 d.A d.l.length d.c (dvs d.l)) :: Own 59 1 A8 rs2.length c9 (ats rs2) :: star (rs2.map fun a => Own 3 1 a.A a.l.length a.c (nats a.l)) :: MapT Try.prog 3 encI g1 (mput D x.id (.int .i64 ((ds.length : Nat) : Int))) :: .blk g2 (evv x) 36 :: .blk g3 [.bool t.comm, .bool t.abrt, .int .i64 t.epoch, .int .i64 t.wall, .int .i64 t.logic] 65 :: L) w := s.keep 11 2
              exact ⟨A5, c6, ds2, A8, c9, rs2, mput D x.id (.int .i64 ((ds.length : Nat) : Int)), ds.length, q0, (Has.cons ha (by kernel_rfl) (by kernel_rfl) (Has.cons ha (by kernel_rfl) (by kernel_rfl) (Has.cons ha (by kernel_rfl) (by kernel_rfl) (Has.cons ha (by kernel_rfl) (by kernel_rfl) (Has.cons ha (by kernel_rfl) (by kernel_rfl) (Has.cons ha (by kernel_rfl) (by kernel_rfl) (Has.cons ha (by kernel_rfl) (by kernel_rfl) (Has.cons ha (by kernel_rfl) (by kernel_rfl) (Has.cons ha (by kernel_rfl) (by kernel_rfl) (Has.cons ha (by kernel_rfl) (by kernel_rfl) (Has.cons ha (by kernel_rfl) (by kernel_rfl) (Has.nil ha)))))))))))), s, ho2, hq0, hqi⟩
            · rw [hb] at ha; skip
              obtain ⟨nn, hnn⟩ := Option.isSome_iff_exists.1 (show pm.isSome = true by simpa using hb)
              subst hnn
              have hnp := newPl_some (t := t) hpm.symm
              refine wp_skip ?_
              refine then_normal ?_
              obtain ⟨hac2, q0, hq0, hqi⟩ := hnp
              have ho2 : OrdOk (newPl t x.id (ordL k.tx (l.take i))) ds rs D := by rw [hac2]; exact ho
              rw [← hac2] at hq0
              replace s := ((((((((((s.at_ (j := 1) rfl).at_ (j := 5) rfl).at_ (j := 10) rfl).at_ (j := 10) rfl).at_ (j := 10) rfl).at_ (j := 10) rfl).at_ (j := 10) rfl).at_ (j := 7) rfl).at_ (j := 10) rfl).at_ (j := 10) rfl).at_ (j := 10) rfl
              replace s : St W (.blk g [.int .i64 k.ti, .int .i64 k.most, .map (some gd), .map (some gt)] 48 :: MapT Try.prog 3 encI gd Dd :: MapT Try.prog 3 encI gt (T.map ent) :: Blks T :: Own 72 4 A1 ds.length c1 (nvs ds) :: star (ds.map fun d => Own 74 7 d.A d.l.length d.c (dvs d.l)) :: Own 59 1 B1 rs.length c2 (ats rs) :: star (rs.map fun a => Own 3 1 a.A a.l.length a.c (nats a.l)) :: MapT Try.prog 3 encI g1 D :: .blk g2 (evv x) 36 :: .blk g3 [.bool t.comm, .bool t.abrt, .int .i64 t.epoch, .int .i64 t.wall, .int .i64 t.logic] 65 :: L) w := s
              exact ⟨A1, c1, ds, B1, c2, rs, D, nn, q0, (Has.cons ha (by kernel_rfl) (by kernel_rfl) (Has.cons ha (by kernel_rfl) (by kernel_rfl) (Has.cons ha (by kernel_rfl) (by kernel_rfl) (Has.cons ha (by kernel_rfl) (by kernel_rfl) (Has.cons ha (by kernel_rfl) (by kernel_rfl) (Has.cons ha (by kernel_rfl) (by kernel_rfl) (Has.cons ha (by kernel_rfl) (by kernel_rfl) (Has.cons ha (by kernel_rfl) (by kernel_rfl) (Has.cons ha (by kernel_rfl) (by kernel_rfl) (Has.cons ha (by kernel_rfl) (by kernel_rfl) (Has.cons ha (by kernel_rfl) (by kernel_rfl) (Has.nil ha)))))))))))), s, ho2, hq0, hqi⟩
          · clear ha s; rintro a w ⟨A1, c1, ds2, B1, c2, rs2, D2, m, q0, ha, s, ho2, hq0, hqi⟩
            have hol := ho2.len
            obtain ⟨d0, a0, hd0, ha0, hdl, hal⟩ := ho2.pick hq0
            have hm1 : m < ds2.length := (List.getElem?_eq_some_iff.1 hd0).1
            have hm2 : m < rs2.length := (List.getElem?_eq_some_iff.1 ha0).1
            have hth := newPl_th (t := t) (i := x.id) (ordL_th k.tx (l.take i)) q0 (List.mem_of_getElem? hq0)
            rw [List.length_take, Nat.min_eq_left (by omega)] at hth
            obtain ⟨a1, hAa1⟩ := Reads.addr (Own.reads (s.at_ (j := 4) rfl).1) (by omega)
            subst hAa1
            obtain ⟨b1, hAb1⟩ := Reads.addr (Own.reads (s.at_ (j := 6) rfl).1) (by omega)
            subst hAb1
            refine wp_seq ?_
            refine wp_region_lit ?_
            refine st_val (.pointer (some ⟨g2, 1, none⟩)) ha (by kernel_rfl) (by kernel_rfl) ?_
            clear ha; intro a ha
            refine st_val (.int .i64 x.kind) ha (by kernel_rfl) (run_load1 (of_ := 1) (s.blkIs 9 rfl) rfl (by kernel_rfl) Try.isAgg3 rfl) ?_
            clear ha; intro a ha
            refine st_val (.bool (x.kind == (3 : Int))) ha (by kernel_rfl) (by kernel_rfl) ?_
            clear ha; intro a ha
            refine st_val (.bool (x.kind == (3 : Int))) ha (by kernel_rfl) (by kernel_rfl) ?_
            clear ha; intro a ha
            rcases Bool.eq_false_or_eq_true (x.kind == (3 : Int)) with hb | hb
            · rw [hb] at ha; have hb_ := hb; replace hb := eq_of_beq hb
              have hk1 := hb
              refine st_val (.pointer (some ⟨g2, 4, none⟩)) ha (by kernel_rfl) (by kernel_rfl) ?_
              clear ha; intro a ha
              refine st_val (.int .i64 x.epoch) ha (by kernel_rfl) (run_load1 (of_ := 4) (s.blkIs 9 rfl) rfl (by kernel_rfl) Try.isAgg3 rfl) ?_
              clear ha; intro a ha
              refine st_val (.pointer (some ⟨g3, 2, none⟩)) ha (by kernel_rfl) (by kernel_rfl) ?_
              clear ha; intro a ha
              refine st_val (.int .i64 t.epoch) ha (by kernel_rfl) (run_load1 (of_ := 2) (s.blkIs 10 rfl) rfl (by kernel_rfl) Try.isAgg3 rfl) ?_
              clear ha; intro a ha
              refine st_val (.bool (x.epoch == t.epoch)) ha (by kernel_rfl) (by kernel_rfl) ?_
              clear ha; intro a ha
              refine st_val (.bool (x.epoch == t.epoch)) ha (by kernel_rfl) (by kernel_rfl) ?_
              clear ha; intro a ha
              refine st_val (.bool (x.epoch == t.epoch)) ha (by kernel_rfl) (by kernel_rfl) ?_
              clear ha; intro a ha
              rcases Bool.eq_false_or_eq_true (x.epoch == t.epoch) with hb | hb
              · rw [hb] at ha; have hb_ := hb; replace hb := eq_of_beq hb
                have hk2 := hb
                refine st_val (.pointer (some ⟨g2, 14, none⟩)) ha (by kernel_rfl) (by kernel_rfl) ?_
                clear ha; intro a ha
                refine st_val (.int .i64 x.err) ha (by kernel_rfl) (run_load1 (of_ := 14) (s.blkIs 9 rfl) rfl (by kernel_rfl) Try.isAgg25 rfl) ?_
                clear ha; intro a ha
                refine st_val (.bool (x.err == (0 : Int))) ha (by kernel_rfl) (by kernel_rfl) ?_
                clear ha; intro a ha
                refine st_val (.bool (x.err == (0 : Int))) ha (by kernel_rfl) (by kernel_rfl) ?_
                clear ha; intro a ha
                refine st_val (.bool (x.err == (0 : Int))) ha (by kernel_rfl) (by kernel_rfl) ?_
                clear ha; intro a ha
                rcases Bool.eq_false_or_eq_true (x.err == (0 : Int)) with hb | hb
                · rw [hb] at ha; have hb_ := hb; replace hb := eq_of_beq hb
                  have hk3 := hb
                  refine st_val (.pointer (some ⟨g2, 5, none⟩)) ha (by kernel_rfl) (by kernel_rfl) ?_
                  clear ha; intro a ha
                  refine st_val (.int .i64 x.op) ha (by kernel_rfl) (run_load1 (of_ := 5) (s.blkIs 9 rfl) rfl (by kernel_rfl) Try.isAgg3 rfl) ?_
                  clear ha; intro a ha
                  refine st_val (.bool (decide (x.op ≤ (5 : Int)))) ha (by kernel_rfl) (by kernel_rfl) ?_
                  clear ha; intro a ha
                  refine st_val (.bool (decide (x.op ≤ (5 : Int)))) ha (by kernel_rfl) (by kernel_rfl) ?_
                  clear ha; intro a ha
                  refine wpList_nil ?_
                  refine then_normal ?_
                  refine wp_part (decide (x.op ≤ (5 : Int))) ha rfl (by kernel_rfl) (fun hb => ?_) (fun hb => ?_)
                  · rw [hb] at ha; replace hb : (x.op ≤ (5 : Int)) := of_decide_eq_true hb
                    have hk4 := hb
                    refine wp_seq ?_
                    replace s := s.at_ (j := 5) rfl
                    replace s : St W (star (ds2.map fun d => Own 74 7 d.A d.l.length d.c (dvs d.l)) :: .blk g [.int .i64 k.ti, .int .i64 k.most, .map (some gd), .map (some gt)] 48 :: MapT Try.prog 3 encI gd Dd :: MapT Try.prog 3 encI gt (T.map ent) :: Blks T :: Own 72 4 (some a1) ds2.length c1 (nvs ds2) :: Own 59 1 (some b1) rs2.length c2 (ats rs2) :: star (rs2.map fun a => Own 3 1 a.A a.l.length a.c (nats a.l)) :: MapT Try.prog 3 encI g1 D2 :: .blk g2 (evv x) 36 :: .blk g3 [.bool t.comm, .bool t.abrt, .int .i64 t.epoch, .int .i64 t.wall, .int .i64 t.logic] 65 :: L) w := s
                    replace s := star_open hd0 s
                    replace s : St W (Own 74 7 d0.A d0.l.length d0.c (dvs d0.l) :: star ((ds2.map fun d : Dn => Own 74 7 d.A d.l.length d.c (dvs d.l)).eraseIdx m) :: .blk g [.int .i64 k.ti, .int .i64 k.most, .map (some gd), .map (some gt)] 48 :: MapT Try.prog 3 encI gd Dd :: MapT Try.prog 3 encI gt (T.map ent) :: Blks T :: Own 72 4 (some a1) ds2.length c1 (nvs ds2) :: Own 59 1 (some b1) rs2.length c2 (ats rs2) :: star (rs2.map fun a => Own 3 1 a.A a.l.length a.c (nats a.l)) :: MapT Try.prog 3 encI g1 D2 :: .blk g2 (evv x) 36 :: .blk g3 [.bool t.comm, .bool t.abrt, .int .i64 t.epoch, .int .i64 t.wall, .int .i64 t.logic] 65 :: L) w := s
                    refine wp_region_head 22 (fun w => Reads w 4 (some a1) ds2.length (nvs ds2) ∧ BlkIs g2 (evv x) w ∧ True) (by kernel_rfl) (by decide) ?_
                    replace s := s.drew; generalize _root_.Go.World.drew _ = w at s ⊢
                    have hS : (fun w => Reads w 4 (some a1) ds2.length (nvs ds2) ∧ BlkIs g2 (evv x) w ∧ True) w := ⟨(Own.reads (s.at_ (j := 6) rfl).1), s.blkIs 10 rfl, trivial⟩
                    refine hd_val (i := 0) (.slice (some a1) ds2.length c1) ha rfl (by kernel_rfl) (fun _ _ _ h => h) (by kernel_rfl) (fun w hS => (by kernel_rfl)) hS ?_
                    clear ha; intro a ha
                    refine hd_val (i := 1) (.int .i64 ((m : Nat) : Int)) ha rfl (by kernel_rfl) (fun _ _ _ h => h) (by kernel_rfl) (fun w hS => (by kernel_rfl)) hS ?_
                    clear ha; intro a ha
                    refine hd_val (i := 2) (.slice (some a1) ds2.length c1) ha rfl (by kernel_rfl) (fun _ _ _ h => h) (by kernel_rfl) (fun w hS => (by kernel_rfl)) hS ?_
                    clear ha; intro a ha
                    refine hd_val (i := 3) (.int .i64 ((m : Nat) : Int)) ha rfl (by kernel_rfl) (fun _ _ _ h => h) (by kernel_rfl) (fun w hS => (by kernel_rfl)) hS ?_
                    clear ha; intro a ha
                    refine hd_val (i := 4) (.pointer (some (a1.add (m * 4)))) ha rfl (by kernel_rfl) (fun _ _ _ h => h) (by kernel_rfl) (fun w hS => (run_indexAddr' (kd := .i64) (i := ((m : Nat) : Int)) (n := ds2.length) (c := c1) m rfl Try.underlying53 Try.sizeOf72 (by kernel_rfl) (by kernel_rfl) rfl (by first | assumption | omega) _)) hS ?_
                    clear ha; intro a ha
                    refine hd_val (i := 5) (.pointer (some (a1.add (m * 4 + 3)))) ha rfl (by kernel_rfl) (fun _ _ _ h => h) (by kernel_rfl) (fun w hS => (run_fieldAddr_at (i := m * 4) (off := 3) rfl Try.underlying72 rfl Try.sizeOf70 (by kernel_rfl) _)) hS ?_
                    clear ha; intro a ha
                    refine hd_val (i := 6) (.slice d0.A d0.l.length d0.c) ha rfl (by kernel_rfl) (fun _ _ _ h => h) (by kernel_rfl) (fun w hS => run_loadAt1 (i := m * 4 + 3) hS.1 rfl (by kernel_rfl) Try.isAgg70 (by rw [nvs_at hd0 (by omega)]; rfl)) hS ?_
                    clear ha; intro a ha
                    refine hd_val (i := 7) (.pointer (some ⟨g2, 5, none⟩)) ha rfl (by kernel_rfl) (fun _ _ _ h => h) (by kernel_rfl) (fun w hS => (by kernel_rfl)) hS ?_
                    clear ha; intro a ha
                    refine hd_val (i := 8) (.int .i64 x.op) ha rfl (by kernel_rfl) (fun _ _ _ h => h) (by kernel_rfl) (fun w hS => run_load1 (of_ := 5) hS.2.1 rfl (by kernel_rfl) Try.isAgg3 rfl) hS ?_
                    clear ha; intro a ha
                    refine hd_val (i := 9) (.pointer (some ⟨g2, 6, none⟩)) ha rfl (by kernel_rfl) (fun _ _ _ h => h) (by kernel_rfl) (fun w hS => (by kernel_rfl)) hS ?_
                    clear ha; intro a ha
                    refine hd_val (i := 10) (.string (str x.key)) ha rfl (by kernel_rfl) (fun _ _ _ h => h) (by kernel_rfl) (fun w hS => run_load1 (of_ := 6) hS.2.1 rfl (by kernel_rfl) Try.isAgg9 rfl) hS ?_
                    clear ha; intro a ha
                    refine hd_val (i := 11) (.pointer (some ⟨g2, 7, none⟩)) ha rfl (by kernel_rfl) (fun _ _ _ h => h) (by kernel_rfl) (fun w hS => (by kernel_rfl)) hS ?_
                    clear ha; intro a ha
                    refine hd_val (i := 12) (.string (str x.val)) ha rfl (by kernel_rfl) (fun _ _ _ h => h) (by kernel_rfl) (fun w hS => run_load1 (of_ := 7) hS.2.1 rfl (by kernel_rfl) Try.isAgg9 rfl) hS ?_
                    clear ha; intro a ha
                    refine hd_val (i := 13) (.pointer (some ⟨g2, 8, none⟩)) ha rfl (by kernel_rfl) (fun _ _ _ h => h) (by kernel_rfl) (fun w hS => (by kernel_rfl)) hS ?_
                    clear ha; intro a ha
                    refine hd_val (i := 14) (.agg #[.string (str x.frm), .string (str x.to)]) ha rfl (by kernel_rfl) (fun _ _ _ h => h) (by kernel_rfl) (fun w hS => run_loadN (of_ := 8) [.string (str x.frm), .string (str x.to)] hS.2.1 rfl (by kernel_rfl) Try.isAgg31 Try.sizeOf31 rfl (Nat.le_of_ble_eq_true rfl)) hS ?_
                    clear ha; intro a ha
                    refine hd_val (i := 15) (.pointer (some ⟨g2, 10, none⟩)) ha rfl (by kernel_rfl) (fun _ _ _ h => h) (by kernel_rfl) (fun w hS => (by kernel_rfl)) hS ?_
                    clear ha; intro a ha
                    refine hd_val (i := 16) (.bool x.is) ha rfl (by kernel_rfl) (fun _ _ _ h => h) (by kernel_rfl) (fun w hS => run_load1 (of_ := 10) hS.2.1 rfl (by kernel_rfl) Try.isAgg4 rfl) hS ?_
                    clear ha; intro a ha
                    refine hd_val (i := 17) (.pointer (some ⟨g2, 11, none⟩)) ha rfl (by kernel_rfl) (fun _ _ _ h => h) (by kernel_rfl) (fun w hS => (by kernel_rfl)) hS ?_
                    clear ha; intro a ha
                    refine hd_val (i := 18) (.slice x.A x.rows.length x.c) ha rfl (by kernel_rfl) (fun _ _ _ h => h) (by kernel_rfl) (fun w hS => run_load1 (of_ := 11) hS.2.1 rfl (by kernel_rfl) Try.isAgg32 rfl) hS ?_
                    clear ha; intro a ha
                    refine hd_val (i := 19) (.agg #[.int .i64 x.op, .string (str x.key), .string (str x.val), .string (str x.frm), .string (str x.to), .bool x.is, .slice x.A x.rows.length x.c]) ha rfl (by kernel_rfl) (fun _ _ _ h => h) (by kernel_rfl) (fun w hS => (by kernel_rfl)) hS ?_
                    clear ha; intro a ha
                    refine hd_ex (i := 20) ha rfl (by kernel_rfl) (by kernel_rfl) (ex_buildSlice elt70 _ zs70 [.int .i64 x.op, .string (str x.key), .string (str x.val), .string (str x.frm), .string (str x.to), .bool x.is, .slice x.A x.rows.length x.c] s rfl (by kernel_rfl) (by decide)) ?_
                    clear hS; rintro _ w ⟨g10, rfl, s⟩
                    have hS : (fun w => Reads w 4 (some a1) ds2.length (nvs ds2) ∧ BlkIs g2 (evv x) w ∧ True) w := ⟨(Own.reads (s.at_ (j := 7) rfl).1), s.blkIs 11 rfl, trivial⟩
                    refine ⟨hS, ?_⟩; clear ha; intro a ha
                    refine hd_ex (i := 21) ha rfl (by kernel_rfl) (by kernel_rfl) (ex_append (m := 1) (d' := 1) elt70 (by decide) 1 [.int .i64 x.op, .string (str x.key), .string (str x.val), .string (str x.frm), .string (str x.to), .bool x.is, .slice x.A x.rows.length x.c] s rfl (by kernel_rfl) (by kernel_rfl) rfl (reads_blk (s.blkIs 0 rfl) rfl) (by simp [Value.oneCell']) (by simp only [maxLen]; omega) (by omega)) ?_
                    clear hS; rintro _ w ⟨A11, c12, rfl, hA_, s⟩
                    rw [show dvs d0.l ++ [.int .i64 x.op, .string (str x.key), .string (str x.val), .string (str x.frm), .string (str x.to), .bool x.is, .slice x.A x.rows.length x.c] = dvs (d0.l ++ [didOf x]) from by simp [dvs, dv, didOf], show d0.l.length + 1 = (d0.l ++ [didOf x]).length from by simp] at s
                    replace s : St W (.blk g10 [.int .i64 x.op, .string (str x.key), .string (str x.val), .string (str x.frm), .string (str x.to), .bool x.is, .slice x.A x.rows.length x.c] 74 :: Own 74 7 A11 ((d0.l ++ [didOf x]).length) c12 (dvs (d0.l ++ [didOf x])) :: star ((ds2.map fun d : Dn => Own 74 7 d.A d.l.length d.c (dvs d.l)).eraseIdx m) :: .blk g [.int .i64 k.ti, .int .i64 k.most, .map (some gd), .map (some gt)] 48 :: MapT Try.prog 3 encI gd Dd :: MapT Try.prog 3 encI gt (T.map ent) :: Blks T :: Own 72 4 (some a1) ds2.length c1 (nvs ds2) :: Own 59 1 (some b1) rs2.length c2 (ats rs2) :: star (rs2.map fun a => Own 3 1 a.A a.l.length a.c (nats a.l)) :: MapT Try.prog 3 encI g1 D2 :: .blk g2 (evv x) 36 :: .blk g3 [.bool t.comm, .bool t.abrt, .int .i64 t.epoch, .int .i64 t.wall, .int .i64 t.logic] 65 :: L) w := s
                    replace s : St W (.blk g10 [.int .i64 x.op, .string (str x.key), .string (str x.val), .string (str x.frm), .string (str x.to), .bool x.is, .slice x.A x.rows.length x.c] 74 :: Own 74 7 A11 ((d0.l ++ [didOf x]).length) c12 (dvs (d0.l ++ [didOf x])) :: star ((ds2.map fun d : Dn => Own 74 7 d.A d.l.length d.c (dvs d.l)).eraseIdx m) :: .blk g [.int .i64 k.ti, .int .i64 k.most, .map (some gd), .map (some gt)] 48 :: MapT Try.prog 3 encI gd Dd :: MapT Try.prog 3 encI gt (T.map ent) :: Blks T :: Own 72 4 (some a1) ds2.length c1 (nvs ds2) :: Own 59 1 (some b1) rs2.length c2 (ats rs2) :: star (rs2.map fun a => Own 3 1 a.A a.l.length a.c (nats a.l)) :: MapT Try.prog 3 encI g1 D2 :: .blk g2 (evv x) 36 :: .blk g3 [.bool t.comm, .bool t.abrt, .int .i64 t.epoch, .int .i64 t.wall, .int .i64 t.logic] 65 :: L) w := s
                    have hS : (fun w => Reads w 4 (some a1) ds2.length (nvs ds2) ∧ BlkIs g2 (evv x) w ∧ True) w := ⟨(Own.reads (s.at_ (j := 7) rfl).1), s.blkIs 11 rfl, trivial⟩
                    refine ⟨hS, ?_⟩; clear ha; intro a ha
                    refine Head.done (by kernel_rfl) ?_
                    clear hS; simp only [List.drop_succ_cons, List.drop_zero]
                    refine st_val (.pointer (some (a1.add (m * 4)))) ha (by kernel_rfl) (run_indexAddr' (kd := .i64) (i := ((m : Nat) : Int)) (n := ds2.length) (c := c1) m rfl Try.underlying53 Try.sizeOf72 (by kernel_rfl) (by kernel_rfl) rfl (by first | assumption | omega) _) ?_
                    clear ha; intro a ha
                    refine st_val (.pointer (some (a1.add (m * 4 + 3)))) ha (by kernel_rfl) (run_fieldAddr_at (i := m * 4) (off := 3) rfl Try.underlying72 rfl Try.sizeOf70 (by kernel_rfl) _) ?_
                    clear ha; intro a ha
                    refine st_exd ha (by kernel_rfl) (ex_store_own (i := m * 4 + 3) 7 [.slice A11 (d0.l.length + 1) c12] s (show putAt (nvs ds2) (m * 4 + 3) [.slice A11 (d0.l.length + 1) c12] = nvs (ds2.set m { d0 with A := A11, c := c12, l := d0.l ++ [didOf x] }) from by have hz := putAt_nvs hd0 A11 c12 (d0.l ++ [didOf x]); rw [List.length_append] at hz; exact hz) rfl rfl (by kernel_rfl) (by kernel_rfl) (Try.sizeOf70 _) rfl (by simp [Value.oneCell']) (by simp) (by rw [nvs_len]; simp only [List.length_cons, List.length_nil]; omega)) ?_
                    clear ha; rintro w a s ha
                    replace s : St W (.blk g10 [.int .i64 x.op, .string (str x.key), .string (str x.val), .string (str x.frm), .string (str x.to), .bool x.is, .slice x.A x.rows.length x.c] 74 :: Own 74 7 A11 ((d0.l ++ [didOf x]).length) c12 (dvs (d0.l ++ [didOf x])) :: star ((ds2.map fun d : Dn => Own 74 7 d.A d.l.length d.c (dvs d.l)).eraseIdx m) :: .blk g [.int .i64 k.ti, .int .i64 k.most, .map (some gd), .map (some gt)] 48 :: MapT Try.prog 3 encI gd Dd :: MapT Try.prog 3 encI gt (T.map ent) :: Blks T :: Own 72 4 (some a1) ds2.length c1 (nvs (ds2.set m { d0 with A := A11, c := c12, l := d0.l ++ [didOf x] })) :: Own 59 1 (some b1) rs2.length c2 (ats rs2) :: star (rs2.map fun a => Own 3 1 a.A a.l.length a.c (nats a.l)) :: MapT Try.prog 3 encI g1 D2 :: .blk g2 (evv x) 36 :: .blk g3 [.bool t.comm, .bool t.abrt, .int .i64 t.epoch, .int .i64 t.wall, .int .i64 t.logic] 65 :: L) w := s
                    replace s := (s.at_ (j := 2) rfl).at_ (j := 2) rfl
                    replace s : St W (Own 74 7 A11 ((d0.l ++ [didOf x]).length) c12 (dvs (d0.l ++ [didOf x])) :: star ((ds2.map fun d : Dn => Own 74 7 d.A d.l.length d.c (dvs d.l)).eraseIdx m) :: .blk g10 [.int .i64 x.op, .string (str x.key), .string (str x.val), .string (str x.frm), .string (str x.to), .bool x.is, .slice x.A x.rows.length x.c] 74 :: .blk g [.int .i64 k.ti, .int .i64 k.most, .map (some gd), .map (some gt)] 48 :: MapT Try.prog 3 encI gd Dd :: MapT Try.prog 3 encI gt (T.map ent) :: Blks T :: Own 72 4 (some a1) ds2.length c1 (nvs (ds2.set m { d0 with A := A11, c := c12, l := d0.l ++ [didOf x] })) :: Own 59 1 (some b1) rs2.length c2 (ats rs2) :: star (rs2.map fun a => Own 3 1 a.A a.l.length a.c (nats a.l)) :: MapT Try.prog 3 encI g1 D2 :: .blk g2 (evv x) 36 :: .blk g3 [.bool t.comm, .bool t.abrt, .int .i64 t.epoch, .int .i64 t.wall, .int .i64 t.logic] 65 :: L) w := s
                    replace s := star_close (F := fun d : Dn => Own 74 7 d.A d.l.length d.c (dvs d.l)) hd0 { d0 with A := A11, c := c12, l := d0.l ++ [didOf x] } s
                    replace s : St W (star ((ds2.set m { d0 with A := A11, c := c12, l := d0.l ++ [didOf x] }).map fun d => Own 74 7 d.A d.l.length d.c (dvs d.l)) :: .blk g10 [.int .i64 x.op, .string (str x.key), .string (str x.val), .string (str x.frm), .string (str x.to), .bool x.is, .slice x.A x.rows.length x.c] 74 :: .blk g [.int .i64 k.ti, .int .i64 k.most, .map (some gd), .map (some gt)] 48 :: MapT Try.prog 3 encI gd Dd :: MapT Try.prog 3 encI gt (T.map ent) :: Blks T :: Own 72 4 (some a1) ds2.length c1 (nvs (ds2.set m { d0 with A := A11, c := c12, l := d0.l ++ [didOf x] })) :: Own 59 1 (some b1) rs2.length c2 (ats rs2) :: star (rs2.map fun a => Own 3 1 a.A a.l.length a.c (nats a.l)) :: MapT Try.prog 3 encI g1 D2 :: .blk g2 (evv x) 36 :: .blk g3 [.bool t.comm, .bool t.abrt, .int .i64 t.epoch, .int .i64 t.wall, .int .i64 t.logic] 65 :: L) w := s
                    obtain ⟨ds3, hds3⟩ : ∃ z, z = ds2.set m { d0 with A := A11, c := c12, l := d0.l ++ [didOf x] } := ⟨_, rfl⟩
                    have hl3 : ds2.length = ds3.length := by rw [hds3]; simp
                    rw [← hds3, hl3] at s
                    replace s : St W (star (ds3.map fun d => Own 74 7 d.A d.l.length d.c (dvs d.l)) :: .blk g10 [.int .i64 x.op, .string (str x.key), .string (str x.val), .string (str x.frm), .string (str x.to), .bool x.is, .slice x.A x.rows.length x.c] 74 :: .blk g [.int .i64 k.ti, .int .i64 k.most, .map (some gd), .map (some gt)] 48 :: MapT Try.prog 3 encI gd Dd :: MapT Try.prog 3 encI gt (T.map ent) :: Blks T :: Own 72 4 (some a1) ds3.length c1 (nvs ds3) :: Own 59 1 (some b1) rs2.length c2 (ats rs2) :: star (rs2.map fun a => Own 3 1 a.A a.l.length a.c (nats a.l)) :: MapT Try.prog 3 encI g1 D2 :: .blk g2 (evv x) 36 :: .blk g3 [.bool t.comm, .bool t.abrt, .int .i64 t.epoch, .int .i64 t.wall, .int .i64 t.logic] 65 :: L) w := s
                    refine wpList_nil ?_
                    refine then_normal ?_
                    replace s := s.at_ (j := 8) rfl
                    replace s : St W (star (rs2.map fun a => Own 3 1 a.A a.l.length a.c (nats a.l)) :: star (ds3.map fun d => Own 74 7 d.A d.l.length d.c (dvs d.l)) :: .blk g10 [.int .i64 x.op, .string (str x.key), .string (str x.val), .string (str x.frm), .string (str x.to), .bool x.is, .slice x.A x.rows.length x.c] 74 :: .blk g [.int .i64 k.ti, .int .i64 k.most, .map (some gd), .map (some gt)] 48 :: MapT Try.prog 3 encI gd Dd :: MapT Try.prog 3 encI gt (T.map ent) :: Blks T :: Own 72 4 (some a1) ds3.length c1 (nvs ds3) :: Own 59 1 (some b1) rs2.length c2 (ats rs2) :: MapT Try.prog 3 encI g1 D2 :: .blk g2 (evv x) 36 :: .blk g3 [.bool t.comm, .bool t.abrt, .int .i64 t.epoch, .int .i64 t.wall, .int .i64 t.logic] 65 :: L) w := s
                    replace s := star_open ha0 s
                    replace s : St W (Own 3 1 a0.A a0.l.length a0.c (nats a0.l) :: star ((rs2.map fun a : At => Own 3 1 a.A a.l.length a.c (nats a.l)).eraseIdx m) :: star (ds3.map fun d => Own 74 7 d.A d.l.length d.c (dvs d.l)) :: .blk g10 [.int .i64 x.op, .string (str x.key), .string (str x.val), .string (str x.frm), .string (str x.to), .bool x.is, .slice x.A x.rows.length x.c] 74 :: .blk g [.int .i64 k.ti, .int .i64 k.most, .map (some gd), .map (some gt)] 48 :: MapT Try.prog 3 encI gd Dd :: MapT Try.prog 3 encI gt (T.map ent) :: Blks T :: Own 72 4 (some a1) ds3.length c1 (nvs ds3) :: Own 59 1 (some b1) rs2.length c2 (ats rs2) :: MapT Try.prog 3 encI g1 D2 :: .blk g2 (evv x) 36 :: .blk g3 [.bool t.comm, .bool t.abrt, .int .i64 t.epoch, .int .i64 t.wall, .int .i64 t.logic] 65 :: L) w := s
                    refine wp_region_lit ?_
                    refine st_val (.slice (some b1) rs2.length c2) ha (by kernel_rfl) (by kernel_rfl) ?_
                    clear ha; intro a ha
                    refine st_val (.int .i64 ((m : Nat) : Int)) ha (by kernel_rfl) (by kernel_rfl) ?_
                    clear ha; intro a ha
                    refine st_val (.slice (some b1) rs2.length c2) ha (by kernel_rfl) (by kernel_rfl) ?_
                    clear ha; intro a ha
                    refine st_val (.int .i64 ((m : Nat) : Int)) ha (by kernel_rfl) (by kernel_rfl) ?_
                    clear ha; intro a ha
                    refine st_val (.pointer (some (b1.add (m * 1)))) ha (by kernel_rfl) (run_indexAddr' (kd := .i64) (i := ((m : Nat) : Int)) (n := rs2.length) (c := c2) m rfl Try.underlying54 Try.sizeOf59 (by kernel_rfl) (by kernel_rfl) rfl (by first | assumption | omega) _) ?_
                    clear ha; intro a ha
                    refine st_val (.slice a0.A a0.l.length a0.c) ha (by kernel_rfl) (run_loadRow1 (m := m) ((Own.reads (s.at_ (j := 9) rfl).1)) rfl (by kernel_rfl) Try.isAgg59 (ats_at ha0)) ?_
                    clear ha; intro a ha
                    refine st_val (.int .i64 ((i : Nat) : Int)) ha (by kernel_rfl) (by kernel_rfl) ?_
                    clear ha; intro a ha
                    refine st_ex ha (by kernel_rfl) (ex_buildSlice elt59 _ zs59 [.int .i64 ((i : Nat) : Int)] s rfl (by kernel_rfl) (by decide)) ?_
                    clear ha; rintro _ w a ⟨g13, rfl, s⟩ ha
                    refine st_ex ha (by kernel_rfl) (ex_append (m := 1) (d' := 1) elt59 (by decide) 1 [.int .i64 ((i : Nat) : Int)] s rfl (by kernel_rfl) (by kernel_rfl) rfl (reads_blk (s.blkIs 0 rfl) rfl) (by simp [Value.oneCell']) (by simp only [maxLen]; omega) (by omega)) ?_
                    clear ha; rintro _ w a ⟨A14, c15, rfl, hA_, s⟩ ha
                    rw [show nats a0.l ++ [.int .i64 ((i : Nat) : Int)] = nats (a0.l ++ [i]) from by simp [nats], show a0.l.length + 1 = (a0.l ++ [i]).length from by simp] at s
                    replace s : St W (.blk g13 [.int .i64 ((i : Nat) : Int)] 3 :: Own 3 1 A14 ((a0.l ++ [i]).length) c15 (nats (a0.l ++ [i])) :: star ((rs2.map fun a : At => Own 3 1 a.A a.l.length a.c (nats a.l)).eraseIdx m) :: star (ds3.map fun d => Own 74 7 d.A d.l.length d.c (dvs d.l)) :: .blk g10 [.int .i64 x.op, .string (str x.key), .string (str x.val), .string (str x.frm), .string (str x.to), .bool x.is, .slice x.A x.rows.length x.c] 74 :: .blk g [.int .i64 k.ti, .int .i64 k.most, .map (some gd), .map (some gt)] 48 :: MapT Try.prog 3 encI gd Dd :: MapT Try.prog 3 encI gt (T.map ent) :: Blks T :: Own 72 4 (some a1) ds3.length c1 (nvs ds3) :: Own 59 1 (some b1) rs2.length c2 (ats rs2) :: MapT Try.prog 3 encI g1 D2 :: .blk g2 (evv x) 36 :: .blk g3 [.bool t.comm, .bool t.abrt, .int .i64 t.epoch, .int .i64 t.wall, .int .i64 t.logic] 65 :: L) w := s
                    replace s : St W (.blk g13 [.int .i64 ((i : Nat) : Int)] 3 :: Own 3 1 A14 ((a0.l ++ [i]).length) c15 (nats (a0.l ++ [i])) :: star ((rs2.map fun a : At => Own 3 1 a.A a.l.length a.c (nats a.l)).eraseIdx m) :: star (ds3.map fun d => Own 74 7 d.A d.l.length d.c (dvs d.l)) :: .blk g10 [.int .i64 x.op, .string (str x.key), .string (str x.val), .string (str x.frm), .string (str x.to), .bool x.is, .slice x.A x.rows.length x.c] 74 :: .blk g [.int .i64 k.ti, .int .i64 k.most, .map (some gd), .map (some gt)] 48 :: MapT Try.prog 3 encI gd Dd :: MapT Try.prog 3 encI gt (T.map ent) :: Blks T :: Own 72 4 (some a1) ds3.length c1 (nvs ds3) :: Own 59 1 (some b1) rs2.length c2 (ats rs2) :: MapT Try.prog 3 encI g1 D2 :: .blk g2 (evv x) 36 :: .blk g3 [.bool t.comm, .bool t.abrt, .int .i64 t.epoch, .int .i64 t.wall, .int .i64 t.logic] 65 :: L) w := s
                    refine st_val (.pointer (some (b1.add (m * 1)))) ha (by kernel_rfl) (run_indexAddr' (kd := .i64) (i := ((m : Nat) : Int)) (n := rs2.length) (c := c2) m rfl Try.underlying54 Try.sizeOf59 (by kernel_rfl) (by kernel_rfl) rfl (by first | assumption | omega) _) ?_
                    clear ha; intro a ha
                    refine st_exd ha (by kernel_rfl) (ex_store_own (i := m * 1) 10 [.slice A14 (a0.l.length + 1) c15] s (show putAt (ats rs2) (m * 1) [.slice A14 (a0.l.length + 1) c15] = ats (rs2.set m (⟨a0.l ++ [i], A14, c15⟩ : At)) from by have hz := putAt_ats hm2 (⟨a0.l ++ [i], A14, c15⟩ : At); unfold atv at hz; rw [List.length_append] at hz; exact hz) rfl rfl (by kernel_rfl) (by kernel_rfl) (Try.sizeOf59 _) rfl (by simp [Value.oneCell']) (by simp) (by rw [show (ats rs2).length = rs2.length from by simp [ats]]; simp only [List.length_cons, List.length_nil]; omega)) ?_
                    clear ha; rintro w a s ha
                    replace s : St W (.blk g13 [.int .i64 ((i : Nat) : Int)] 3 :: Own 3 1 A14 ((a0.l ++ [i]).length) c15 (nats (a0.l ++ [i])) :: star ((rs2.map fun a : At => Own 3 1 a.A a.l.length a.c (nats a.l)).eraseIdx m) :: star (ds3.map fun d => Own 74 7 d.A d.l.length d.c (dvs d.l)) :: .blk g10 [.int .i64 x.op, .string (str x.key), .string (str x.val), .string (str x.frm), .string (str x.to), .bool x.is, .slice x.A x.rows.length x.c] 74 :: .blk g [.int .i64 k.ti, .int .i64 k.most, .map (some gd), .map (some gt)] 48 :: MapT Try.prog 3 encI gd Dd :: MapT Try.prog 3 encI gt (T.map ent) :: Blks T :: Own 72 4 (some a1) ds3.length c1 (nvs ds3) :: Own 59 1 (some b1) rs2.length c2 (ats (rs2.set m (⟨a0.l ++ [i], A14, c15⟩ : At))) :: MapT Try.prog 3 encI g1 D2 :: .blk g2 (evv x) 36 :: .blk g3 [.bool t.comm, .bool t.abrt, .int .i64 t.epoch, .int .i64 t.wall, .int .i64 t.logic] 65 :: L) w := s
                    replace s := (s.at_ (j := 2) rfl).at_ (j := 2) rfl
                    replace s : St W (Own 3 1 A14 ((a0.l ++ [i]).length) c15 (nats (a0.l ++ [i])) :: star ((rs2.map fun a : At => Own 3 1 a.A a.l.length a.c (nats a.l)).eraseIdx m) :: .blk g13 [.int .i64 ((i : Nat) : Int)] 3 :: star (ds3.map fun d => Own 74 7 d.A d.l.length d.c (dvs d.l)) :: .blk g10 [.int .i64 x.op, .string (str x.key), .string (str x.val), .string (str x.frm), .string (str x.to), .bool x.is, .slice x.A x.rows.length x.c] 74 :: .blk g [.int .i64 k.ti, .int .i64 k.most, .map (some gd), .map (some gt)] 48 :: MapT Try.prog 3 encI gd Dd :: MapT Try.prog 3 encI gt (T.map ent) :: Blks T :: Own 72 4 (some a1) ds3.length c1 (nvs ds3) :: Own 59 1 (some b1) rs2.length c2 (ats (rs2.set m (⟨a0.l ++ [i], A14, c15⟩ : At))) :: MapT Try.prog 3 encI g1 D2 :: .blk g2 (evv x) 36 :: .blk g3 [.bool t.comm, .bool t.abrt, .int .i64 t.epoch, .int .i64 t.wall, .int .i64 t.logic] 65 :: L) w := s
                    replace s := star_close (F := fun a : At => Own 3 1 a.A a.l.length a.c (nats a.l)) ha0 (⟨a0.l ++ [i], A14, c15⟩ : At) s
                    replace s : St W (star ((rs2.set m (⟨a0.l ++ [i], A14, c15⟩ : At)).map fun a => Own 3 1 a.A a.l.length a.c (nats a.l)) :: .blk g13 [.int .i64 ((i : Nat) : Int)] 3 :: star (ds3.map fun d => Own 74 7 d.A d.l.length d.c (dvs d.l)) :: .blk g10 [.int .i64 x.op, .string (str x.key), .string (str x.val), .string (str x.frm), .string (str x.to), .bool x.is, .slice x.A x.rows.length x.c] 74 :: .blk g [.int .i64 k.ti, .int .i64 k.most, .map (some gd), .map (some gt)] 48 :: MapT Try.prog 3 encI gd Dd :: MapT Try.prog 3 encI gt (T.map ent) :: Blks T :: Own 72 4 (some a1) ds3.length c1 (nvs ds3) :: Own 59 1 (some b1) rs2.length c2 (ats (rs2.set m (⟨a0.l ++ [i], A14, c15⟩ : At))) :: MapT Try.prog 3 encI g1 D2 :: .blk g2 (evv x) 36 :: .blk g3 [.bool t.comm, .bool t.abrt, .int .i64 t.epoch, .int .i64 t.wall, .int .i64 t.logic] 65 :: L) w := s
                    obtain ⟨rs3, hrs3⟩ : ∃ z, z = rs2.set m (⟨a0.l ++ [i], A14, c15⟩ : At) := ⟨_, rfl⟩
                    have hr3 : rs2.length = rs3.length := by rw [hrs3]; simp
                    rw [← hrs3, hr3] at s
                    replace s : St W (star (rs3.map fun a => Own 3 1 a.A a.l.length a.c (nats a.l)) :: .blk g13 [.int .i64 ((i : Nat) : Int)] 3 :: star (ds3.map fun d => Own 74 7 d.A d.l.length d.c (dvs d.l)) :: .blk g10 [.int .i64 x.op, .string (str x.key), .string (str x.val), .string (str x.frm), .string (str x.to), .bool x.is, .slice x.A x.rows.length x.c] 74 :: .blk g [.int .i64 k.ti, .int .i64 k.most, .map (some gd), .map (some gt)] 48 :: MapT Try.prog 3 encI gd Dd :: MapT Try.prog 3 encI gt (T.map ent) :: Blks T :: Own 72 4 (some a1) ds3.length c1 (nvs ds3) :: Own 59 1 (some b1) rs3.length c2 (ats rs3) :: MapT Try.prog 3 encI g1 D2 :: .blk g2 (evv x) 36 :: .blk g3 [.bool t.comm, .bool t.abrt, .int .i64 t.epoch, .int .i64 t.wall, .int .i64 t.logic] 65 :: L) w := s
                    have hstep : OrdOk (ordStep k.tx (ordL k.tx (l.take i)) (i, x)) ds3 rs3 D2 := by rw [ordStep_d hhx (by rw [← ht]; exact hcm) (by rw [← ht]; unfold didB; simp [hk1, hk2, hk3, hk4]), ← ht, addPl_at (newPl_mem (ordL_ids _ _)).2 hq0 hqi, hds3, hrs3]; exact ho2.add hq0 hd0 ha0 _ _ _ _
                    replace s : St W (star (rs3.map fun a => Own 3 1 a.A a.l.length a.c (nats a.l)) :: .blk g13 [.int .i64 ((i : Nat) : Int)] 3 :: star (ds3.map fun d => Own 74 7 d.A d.l.length d.c (dvs d.l)) :: .blk g10 [.int .i64 x.op, .string (str x.key), .string (str x.val), .string (str x.frm), .string (str x.to), .bool x.is, .slice x.A x.rows.length x.c] 74 :: .blk g [.int .i64 k.ti, .int .i64 k.most, .map (some gd), .map (some gt)] 48 :: MapT Try.prog 3 encI gd Dd :: MapT Try.prog 3 encI gt (T.map ent) :: Blks T :: Own 72 4 (some a1) ds3.length c1 (nvs ds3) :: Own 59 1 (some b1) rs3.length c2 (ats rs3) :: MapT Try.prog 3 encI g1 D2 :: .blk g2 (evv x) 36 :: .blk g3 [.bool t.comm, .bool t.abrt, .int .i64 t.epoch, .int .i64 t.wall, .int .i64 t.logic] 65 :: L) w := s
                    refine wpList_nil ?_
                    refine block_normal ?_
                    refine then_normal ?_
                    refine wp_region_lit ?_
                    refine st_val (.int .i64 ((i + 1 : Nat) : Int)) ha (by kernel_rfl) (run_arith (((i : Nat) : Int) + (1 : Int)) ((i + 1 : Nat) : Int) rfl (by kernel_rfl) (by kernel_rfl) (.inl ⟨rfl, rfl⟩) (by rw [wrap64_in (by omega)]; try omega) _) ?_
                    clear ha; intro a ha
                    refine st_val (.int .i64 ((i + 1 : Nat) : Int)) ha (by kernel_rfl) (by kernel_rfl) ?_
                    clear ha; intro a ha
                    refine wpList_nil ?_
                    refine then_normal ?_
                    rw [hl3, hr3] at ha
                    replace s := ((((((((s.at_ (j := 10) rfl).at_ (j := 1) rfl).at_ (j := 10) rfl).at_ (j := 4) rfl).at_ (j := 10) rfl).at_ (j := 10) rfl).at_ (j := 10) rfl).at_ (j := 10) rfl).at_ (j := 10) rfl
                    replace s : St W (.blk g [.int .i64 k.ti, .int .i64 k.most, .map (some gd), .map (some gt)] 48 :: MapT Try.prog 3 encI gd Dd :: MapT Try.prog 3 encI gt (T.map ent) :: Blks T :: Own 72 4 (some a1) ds3.length c1 (nvs ds3) :: star (ds3.map fun d => Own 74 7 d.A d.l.length d.c (dvs d.l)) :: Own 59 1 (some b1) rs3.length c2 (ats rs3) :: star (rs3.map fun a => Own 3 1 a.A a.l.length a.c (nats a.l)) :: MapT Try.prog 3 encI g1 D2 :: L) w := s.keep 9 4
                    exact ⟨(i + 1, T, (some a1), c1, ds3, (some b1), c2, rs3, D2), (show l.length - (i + 1) < l.length - i by omega), (Has.cons ha (by kernel_rfl) (by kernel_rfl) (Has.cons ha (by kernel_rfl) (by kernel_rfl) (Has.cons ha (by kernel_rfl) (by kernel_rfl) (Has.cons ha (by kernel_rfl) (by kernel_rfl) (Has.cons ha (by kernel_rfl) (by kernel_rfl) (Has.cons ha (by kernel_rfl) (by kernel_rfl) (Has.cons ha (by kernel_rfl) (by kernel_rfl) (Has.nil ha)))))))), s, (show i + 1 ≤ l.length by omega), hk.up (by omega), by rw [ordL_step hx]; exact hstep⟩
                  · rw [hb] at ha; replace hb : ¬ (x.op ≤ (5 : Int)) := of_decide_eq_false hb
                    have hstep : OrdOk (ordStep k.tx (ordL k.tx (l.take i)) (i, x)) ds2 rs2 D2 := by rw [ordStep_nd hhx (by rw [← ht]; exact hcm) (by rw [← ht]; unfold didB; simp [hk1, hk2, hk3, hb]), ← ht]; exact ho2
                    refine wp_skip ?_
                    refine block_normal ?_
                    refine then_normal ?_
                    refine wp_region_lit ?_
                    refine st_val (.int .i64 ((i + 1 : Nat) : Int)) ha (by kernel_rfl) (run_arith (((i : Nat) : Int) + (1 : Int)) ((i + 1 : Nat) : Int) rfl (by kernel_rfl) (by kernel_rfl) (.inl ⟨rfl, rfl⟩) (by rw [wrap64_in (by omega)]; try omega) _) ?_
                    clear ha; intro a ha
                    refine st_val (.int .i64 ((i + 1 : Nat) : Int)) ha (by kernel_rfl) (by kernel_rfl) ?_
                    clear ha; intro a ha
                    refine wpList_nil ?_
                    refine then_normal ?_
                    replace s : St W (.blk g [.int .i64 k.ti, .int .i64 k.most, .map (some gd), .map (some gt)] 48 :: MapT Try.prog 3 encI gd Dd :: MapT Try.prog 3 encI gt (T.map ent) :: Blks T :: Own 72 4 (some a1) ds2.length c1 (nvs ds2) :: star (ds2.map fun d => Own 74 7 d.A d.l.length d.c (dvs d.l)) :: Own 59 1 (some b1) rs2.length c2 (ats rs2) :: star (rs2.map fun a => Own 3 1 a.A a.l.length a.c (nats a.l)) :: MapT Try.prog 3 encI g1 D2 :: L) w := s.keep 9 2
                    exact ⟨(i + 1, T, (some a1), c1, ds2, (some b1), c2, rs2, D2), (show l.length - (i + 1) < l.length - i by omega), (Has.cons ha (by kernel_rfl) (by kernel_rfl) (Has.cons ha (by kernel_rfl) (by kernel_rfl) (Has.cons ha (by kernel_rfl) (by kernel_rfl) (Has.cons ha (by kernel_rfl) (by kernel_rfl) (Has.cons ha (by kernel_rfl) (by kernel_rfl) (Has.cons ha (by kernel_rfl) (by kernel_rfl) (Has.cons ha (by kernel_rfl) (by kernel_rfl) (Has.nil ha)))))))), s, (show i + 1 ≤ l.length by omega), hk.up (by omega), by rw [ordL_step hx]; exact hstep⟩
                · rw [hb] at ha; have hb_ := hb; replace hb := ne_of_beq_false hb
                  have hstep : OrdOk (ordStep k.tx (ordL k.tx (l.take i)) (i, x)) ds2 rs2 D2 := by rw [ordStep_nd hhx (by rw [← ht]; exact hcm) (by rw [← ht]; unfold didB; simp [hk1, hk2, hb]), ← ht]; exact ho2
                  refine st_pass ha (by kernel_rfl) ?_
                  clear ha; intro a ha
                  refine st_pass ha (by kernel_rfl) ?_
                  clear ha; intro a ha
                  refine st_pass ha (by kernel_rfl) ?_
                  clear ha; intro a ha
                  refine st_val (.bool false) ha (by kernel_rfl) (by kernel_rfl) ?_
                  clear ha; intro a ha
                  refine wpList_nil ?_
                  refine then_normal ?_
                  refine wp_false ha rfl (by kernel_rfl) ?_
                  refine wp_skip ?_
                  refine block_normal ?_
                  refine then_normal ?_
                  refine wp_region_lit ?_
                  refine st_val (.int .i64 ((i + 1 : Nat) : Int)) ha (by kernel_rfl) (run_arith (((i : Nat) : Int) + (1 : Int)) ((i + 1 : Nat) : Int) rfl (by kernel_rfl) (by kernel_rfl) (.inl ⟨rfl, rfl⟩) (by rw [wrap64_in (by omega)]; try omega) _) ?_
                  clear ha; intro a ha
                  refine st_val (.int .i64 ((i + 1 : Nat) : Int)) ha (by kernel_rfl) (by kernel_rfl) ?_
                  clear ha; intro a ha
                  refine wpList_nil ?_
                  refine then_normal ?_
                  replace s : St W (.blk g [.int .i64 k.ti, .int .i64 k.most, .map (some gd), .map (some gt)] 48 :: MapT Try.prog 3 encI gd Dd :: MapT Try.prog 3 encI gt (T.map ent) :: Blks T :: Own 72 4 (some a1) ds2.length c1 (nvs ds2) :: star (ds2.map fun d => Own 74 7 d.A d.l.length d.c (dvs d.l)) :: Own 59 1 (some b1) rs2.length c2 (ats rs2) :: star (rs2.map fun a => Own 3 1 a.A a.l.length a.c (nats a.l)) :: MapT Try.prog 3 encI g1 D2 :: L) w := s.keep 9 2
                  exact ⟨(i + 1, T, (some a1), c1, ds2, (some b1), c2, rs2, D2), (show l.length - (i + 1) < l.length - i by omega), (Has.cons ha (by kernel_rfl) (by kernel_rfl) (Has.cons ha (by kernel_rfl) (by kernel_rfl) (Has.cons ha (by kernel_rfl) (by kernel_rfl) (Has.cons ha (by kernel_rfl) (by kernel_rfl) (Has.cons ha (by kernel_rfl) (by kernel_rfl) (Has.cons ha (by kernel_rfl) (by kernel_rfl) (Has.cons ha (by kernel_rfl) (by kernel_rfl) (Has.nil ha)))))))), s, (show i + 1 ≤ l.length by omega), hk.up (by omega), by rw [ordL_step hx]; exact hstep⟩
              · rw [hb] at ha; have hb_ := hb; replace hb := ne_of_beq_false hb
                have hstep : OrdOk (ordStep k.tx (ordL k.tx (l.take i)) (i, x)) ds2 rs2 D2 := by rw [ordStep_nd hhx (by rw [← ht]; exact hcm) (by rw [← ht]; unfold didB; simp [hk1, hb]), ← ht]; exact ho2
                refine st_pass ha (by kernel_rfl) ?_
                clear ha; intro a ha
                refine st_pass ha (by kernel_rfl) ?_
                clear ha; intro a ha
                refine st_pass ha (by kernel_rfl) ?_
                clear ha; intro a ha
                refine st_val (.bool false) ha (by kernel_rfl) (by kernel_rfl) ?_
                clear ha; intro a ha
                refine st_val (.bool false) ha (by kernel_rfl) (by kernel_rfl) ?_
                clear ha; intro a ha
                refine st_pass ha (by kernel_rfl) ?_
                clear ha; intro a ha
                refine st_pass ha (by kernel_rfl) ?_
                clear ha; intro a ha
                refine st_pass ha (by kernel_rfl) ?_
                clear ha; intro a ha
                refine st_val (.bool false) ha (by kernel_rfl) (by kernel_rfl) ?_
                clear ha; intro a ha
                refine wpList_nil ?_
                refine then_normal ?_
                refine wp_false ha rfl (by kernel_rfl) ?_
                refine wp_skip ?_
                refine block_normal ?_
                refine then_normal ?_
                refine wp_region_lit ?_
                refine st_val (.int .i64 ((i + 1 : Nat) : Int)) ha (by kernel_rfl) (run_arith (((i : Nat) : Int) + (1 : Int)) ((i + 1 : Nat) : Int) rfl (by kernel_rfl) (by kernel_rfl) (.inl ⟨rfl, rfl⟩) (by rw [wrap64_in (by omega)]; try omega) _) ?_
                clear ha; intro a ha
                refine st_val (.int .i64 ((i + 1 : Nat) : Int)) ha (by kernel_rfl) (by kernel_rfl) ?_
                clear ha; intro a ha
                refine wpList_nil ?_
                refine then_normal ?_
                replace s : St W (.blk g [.int .i64 k.ti, .int .i64 k.most, .map (some gd), .map (some gt)] 48 :: MapT Try.prog 3 encI gd Dd :: MapT Try.prog 3 encI gt (T.map ent) :: Blks T :: Own 72 4 (some a1) ds2.length c1 (nvs ds2) :: star (ds2.map fun d => Own 74 7 d.A d.l.length d.c (dvs d.l)) :: Own 59 1 (some b1) rs2.length c2 (ats rs2) :: star (rs2.map fun a => Own 3 1 a.A a.l.length a.c (nats a.l)) :: MapT Try.prog 3 encI g1 D2 :: L) w := s.keep 9 2
                exact ⟨(i + 1, T, (some a1), c1, ds2, (some b1), c2, rs2, D2), (show l.length - (i + 1) < l.length - i by omega), (Has.cons ha (by kernel_rfl) (by kernel_rfl) (Has.cons ha (by kernel_rfl) (by kernel_rfl) (Has.cons ha (by kernel_rfl) (by kernel_rfl) (Has.cons ha (by kernel_rfl) (by kernel_rfl) (Has.cons ha (by kernel_rfl) (by kernel_rfl) (Has.cons ha (by kernel_rfl) (by kernel_rfl) (Has.cons ha (by kernel_rfl) (by kernel_rfl) (Has.nil ha)))))))), s, (show i + 1 ≤ l.length by omega), hk.up (by omega), by rw [ordL_step hx]; exact hstep⟩
            · rw [hb] at ha; have hb_ := hb; replace hb := ne_of_beq_false hb
              have hstep : OrdOk (ordStep k.tx (ordL k.tx (l.take i)) (i, x)) ds2 rs2 D2 := by rw [ordStep_nd hhx (by rw [← ht]; exact hcm) (by rw [← ht]; unfold didB; simp [hb]), ← ht]; exact ho2
              refine st_pass ha (by kernel_rfl) ?_
              clear ha; intro a ha
              refine st_pass ha (by kernel_rfl) ?_
              clear ha; intro a ha
              refine st_pass ha (by kernel_rfl) ?_
              clear ha; intro a ha
              refine st_pass ha (by kernel_rfl) ?_
              clear ha; intro a ha
              refine st_pass ha (by kernel_rfl) ?_
              clear ha; intro a ha
              refine st_val (.bool false) ha (by kernel_rfl) (by kernel_rfl) ?_
              clear ha; intro a ha
              refine st_val (.bool false) ha (by kernel_rfl) (by kernel_rfl) ?_
              clear ha; intro a ha
              refine st_pass ha (by kernel_rfl) ?_
              clear ha; intro a ha
              refine st_pass ha (by kernel_rfl) ?_
              clear ha; intro a ha
              refine st_pass ha (by kernel_rfl) ?_
              clear ha; intro a ha
              refine st_val (.bool false) ha (by kernel_rfl) (by kernel_rfl) ?_
              clear ha; intro a ha
              refine st_val (.bool false) ha (by kernel_rfl) (by kernel_rfl) ?_
              clear ha; intro a ha
              refine st_pass ha (by kernel_rfl) ?_
              clear ha; intro a ha
              refine st_pass ha (by kernel_rfl) ?_
              clear ha; intro a ha
              refine st_pass ha (by kernel_rfl) ?_
              clear ha; intro a ha
              refine st_val (.bool false) ha (by kernel_rfl) (by kernel_rfl) ?_
              clear ha; intro a ha
              refine wpList_nil ?_
              refine then_normal ?_
              refine wp_false ha rfl (by kernel_rfl) ?_
              refine wp_skip ?_
              refine block_normal ?_
              refine then_normal ?_
              refine wp_region_lit ?_
              refine st_val (.int .i64 ((i + 1 : Nat) : Int)) ha (by kernel_rfl) (run_arith (((i : Nat) : Int) + (1 : Int)) ((i + 1 : Nat) : Int) rfl (by kernel_rfl) (by kernel_rfl) (.inl ⟨rfl, rfl⟩) (by rw [wrap64_in (by omega)]; try omega) _) ?_
              clear ha; intro a ha
              refine st_val (.int .i64 ((i + 1 : Nat) : Int)) ha (by kernel_rfl) (by kernel_rfl) ?_
              clear ha; intro a ha
              refine wpList_nil ?_
              refine then_normal ?_
              replace s : St W (.blk g [.int .i64 k.ti, .int .i64 k.most, .map (some gd), .map (some gt)] 48 :: MapT Try.prog 3 encI gd Dd :: MapT Try.prog 3 encI gt (T.map ent) :: Blks T :: Own 72 4 (some a1) ds2.length c1 (nvs ds2) :: star (ds2.map fun d => Own 74 7 d.A d.l.length d.c (dvs d.l)) :: Own 59 1 (some b1) rs2.length c2 (ats rs2) :: star (rs2.map fun a => Own 3 1 a.A a.l.length a.c (nats a.l)) :: MapT Try.prog 3 encI g1 D2 :: L) w := s.keep 9 2
              exact ⟨(i + 1, T, (some a1), c1, ds2, (some b1), c2, rs2, D2), (show l.length - (i + 1) < l.length - i by omega), (Has.cons ha (by kernel_rfl) (by kernel_rfl) (Has.cons ha (by kernel_rfl) (by kernel_rfl) (Has.cons ha (by kernel_rfl) (by kernel_rfl) (Has.cons ha (by kernel_rfl) (by kernel_rfl) (Has.cons ha (by kernel_rfl) (by kernel_rfl) (Has.cons ha (by kernel_rfl) (by kernel_rfl) (Has.cons ha (by kernel_rfl) (by kernel_rfl) (Has.nil ha)))))))), s, (show i + 1 ≤ l.length by omega), hk.up (by omega), by rw [ordL_step hx]; exact hstep⟩
    · rw [hb] at ha; replace hb : ¬ (((i : Nat) : Int) < ((l.length : Nat) : Int)) := of_decide_eq_false hb
      refine wp_exit ?_
      refine then_exit ?_
      refine then_exit ?_
      refine block_hit ?_
      refine then_normal ?_
      refine wp_seq ?_
      refine wp_region_lit ?_
      refine st_val (.slice A1 ds.length c1) ha (by kernel_rfl) (by kernel_rfl) ?_
      clear ha; intro a ha
      refine st_val (.slice B1 rs.length c2) ha (by kernel_rfl) (by kernel_rfl) ?_
      clear ha; intro a ha
      refine st_val (.slice A1 ds.length c1) ha (by kernel_rfl) (by kernel_rfl) ?_
      clear ha; intro a ha
      refine st_val (.slice B1 rs.length c2) ha (by kernel_rfl) (by kernel_rfl) ?_
      clear ha; intro a ha
      refine wpList_nil ?_
      refine then_normal ?_
      refine wp_ret ?_
      refine ret_with (v := .tuple #[.slice A1 ds.length c1, .slice B1 rs.length c2]) ha (results_2 rfl ha (res_tmp (by kernel_rfl) (by kernel_rfl)) (res_tmp (by kernel_rfl) (by kernel_rfl))) ?_
      replace s := (((((((s.at_ (j := 3) rfl).at_ (j := 3) rfl).at_ (j := 3) rfl).at_ (j := 3) rfl).at_ (j := 7) rfl).at_ (j := 7) rfl).at_ (j := 7) rfl).at_ (j := 7) rfl
      replace s : St W (Own 72 4 A1 ds.length c1 (nvs ds) :: star (ds.map fun d => Own 74 7 d.A d.l.length d.c (dvs d.l)) :: Own 59 1 B1 rs.length c2 (ats rs) :: star (rs.map fun a => Own 3 1 a.A a.l.length a.c (nats a.l)) :: .blk g [.int .i64 k.ti, .int .i64 k.most, .map (some gd), .map (some gt)] 48 :: MapT Try.prog 3 encI gd Dd :: MapT Try.prog 3 encI gt (T.map ent) :: Blks T :: L) w := s.keep 8 1
      have hlk := hp.2.1
      have hod := hp.2.2
      rw [List.take_of_length_le (by omega)] at hod
      exact ⟨T, A1, c1, ds, B1, c2, rs, D, rfl, hlk.up (by omega), hod, s⟩

end Go.Proofs.Ytfcbjcohepkkfaa.B
