import Derived.Test.YtfcbjcohepkkfaaGreatJ10
import Derived.Test.YtfcbjcohepkkfaaGreatSepY
namespace Go.Proofs.YtfcbjcohepkkfaaGreat.B
open Go.RowKit Go.Maps Go.Sort Go.Shelf Go.Proofs.YtfcbjcohepkkfaaGreat.Sep Go.Proofs.YtfcbjcohepkkfaaGreat.P
set_option linter.unusedVariables false
set_option linter.unusedSimpArgs false
/-! ### late -/
def dn0 : Dn := ⟨0, 0, 0, none, 0, []⟩
abbrev nva (d : Dn) : Value := .agg #[.int .i64 d.id, .int .i64 d.wall, .int .i64 d.logic, .slice d.A d.l.length d.c]
def knF (ds : List Dn) (i : Int) : Option Dn := ds.foldl (fun o d => if d.id = i then some d else o) none
def knD (ds : List Dn) : List (Int × Value) := ds.foldl (fun D d => mput D d.id (nva d)) []
theorem knD_snoc (ds : List Dn) (d : Dn) : knD (ds ++ [d]) = mput (knD ds) d.id (nva d) := by simp [knD]
theorem knD_get (ds : List Dn) (i : Int) : mget (knD ds) i = (knF ds i).map nva := by
 have : ∀ (ds : List Dn) (D : List (Int × Value)) (o : Option Dn), mget D i = o.map nva → mget (ds.foldl (fun D d => mput D d.id (nva d)) D) i = (ds.foldl (fun o d => if d.id = i then some d else o) o).map nva := by
  intro ds
  induction ds with
  | nil => intro D o h; exact h
  | cons d ds ih =>
   intro D o h
   refine ih _ _ ?_
   show mget (mput D d.id (nva d)) i = (if d.id = i then some d else o).map nva
   rw [mget_mput]
   by_cases e : i = d.id
   ·
    rw [if_pos e, if_pos e.symm]; rfl
   rw [if_neg e, if_neg (Ne.symm e)]; exact h
 exact this ds [] none rfl
theorem knD_len (ds : List Dn) : (knD ds).length ≤ ds.length := by
 have : ∀ (ds : List Dn) (D : List (Int × Value)), (ds.foldl (fun D d => mput D d.id (nva d)) D).length ≤ D.length + ds.length := by
  intro ds
  induction ds with
  | nil => intro D; simp
  | cons d ds ih => intro D; have := ih (mput D d.id (nva d)); have := mput_length_le D d.id (nva d); simp only [List.foldl_cons, List.length_cons]; omega
 simpa [knD] using this ds []
theorem knF_mem {ds : List Dn} {i : Int} {d : Dn} (h : knF ds i = some d) : d ∈ ds ∧ d.id = i := by
 have : ∀ (ds : List Dn) (o : Option Dn), ds.foldl (fun o d => if d.id = i then some d else o) o = some d → o = some d ∨ (d ∈ ds ∧ d.id = i) := by
  intro ds
  induction ds with
  | nil => intro o h; exact .inl h
  | cons z ds ih =>
   intro o h
   rcases ih _ h with h1 | h1
   ·
    dsimp only at h1
    split at h1
    ·
     rename_i e; cases h1; exact .inr ⟨by simp, e⟩
    exact .inl h1
   exact .inr ⟨List.mem_cons_of_mem _ h1.1, h1.2⟩
 rcases this ds none h with h1 | h1
 ·
  cases h1
 exact h1
def tolds (kn : Int → Option Dn) (x : Ev) : List Dn := if x.kind == 3 && comB x then [(kn x.id).getD dn0] else []
def behT (a b : Dn) : Bool := (decide (ltS a.wall a.logic b.wall b.logic) || (decide ((a.wall, a.logic) = (b.wall, b.logic)) && decide (b.id > a.id))) && touchL (a.l.map (·.t)) (b.l.map (·.t))
def badL (kn : Int → Option Dn) (told : List Dn) (x : Ev) : Bool := x.kind == 1 && (match kn x.id with | some a => told.any (behT a) | none => false)
def lateL (kn : Int → Option Dn) : List Dn → List Ev → Nat → Option Nat
 | _, [], _ => none
 | told, x :: l, i => if badL kn told x then some i else lateL kn (told ++ tolds kn x) l (i + 1)
def lateI : Option Nat → Int
 | some i => (i : Int)
 | none => -1
theorem lateL_append (kn : Int → Option Dn) (told : List Dn) (l m : List Ev) (i : Nat) : lateL kn told (l ++ m) i = (lateL kn told l i).or (lateL kn (told ++ l.flatMap (tolds kn)) m (i + l.length)) := by
 induction l generalizing told i with
 | nil => simp [lateL]
 | cons x l ih =>
  simp only [List.cons_append, lateL]
  split
  ·
   rfl
  rw [ih, List.flatMap_cons, List.append_assoc, List.length_cons, show i + 1 + l.length = i + (l.length + 1) by omega]
theorem late_step {kn : Int → Option Dn} {l : List Ev} {i : Nat} {x : Ev} {told told2 : List Dn} (h1 : told = (l.take i).flatMap (tolds kn)) (h2 : lateL kn [] (l.take i) 0 = none) (hx : l[i]? = some x) (h3 : told2 = told ++ tolds kn x) (h4 : badL kn told x = false) : told2 = (l.take (i + 1)).flatMap (tolds kn) ∧ lateL kn [] (l.take (i + 1)) 0 = none := by
 rw [take_snoc hx]
 refine ⟨by rw [List.flatMap_append, ← h1, h3]; simp, ?_⟩
 rw [lateL_append, h2, Option.none_or, List.nil_append, ← h1]
 unfold lateL
 rw [if_neg (by rw [h4]; decide)]; rfl
theorem late_hit {kn : Int → Option Dn} {l : List Ev} {i : Nat} {x : Ev} {told : List Dn} (h1 : told = (l.take i).flatMap (tolds kn)) (h2 : lateL kn [] (l.take i) 0 = none) (hx : l[i]? = some x) (h4 : badL kn told x = true) : lateL kn [] l 0 = some i := by
 obtain ⟨hi, e⟩ := List.getElem?_eq_some_iff.1 hx
 have e2 : l = l.take i ++ (x :: l.drop (i + 1)) := by rw [← e, ← List.drop_eq_getElem_cons hi, List.take_append_drop]
 have h3 := lateL_append kn [] (l.take i) (x :: l.drop (i + 1)) 0
 rw [← e2, h2, Option.none_or, List.nil_append, ← h1] at h3
 rw [h3]
 unfold lateL
 rw [if_pos h4, List.length_take, Nat.min_eq_left (by omega), Nat.zero_add]
theorem tolds_len (kn : Int → Option Dn) (l : List Ev) : (l.flatMap (tolds kn)).length ≤ l.length := by
 induction l with
 | nil => simp
 | cons x l ih =>
  have : (tolds kn x).length ≤ 1 := by unfold tolds; split <;> simp
  rw [List.flatMap_cons, List.length_append, List.length_cons]; omega
theorem tolds_mem {ds : List Dn} {l : List Ev} {z : Dn} (h : z ∈ l.flatMap (tolds (knF ds))) : z = dn0 ∨ z ∈ ds := by
 obtain ⟨x, _, hx⟩ := List.mem_flatMap.1 h
 unfold tolds at hx
 split at hx
 ·
  rw [List.mem_singleton] at hx
  cases e : knF ds x.id with
  | none => rw [e] at hx; exact .inl hx
  | some d => rw [e] at hx; exact .inr (hx ▸ (knF_mem e).1)
 cases hx
theorem told_knows {L : List Chunk} {A : Option Addr} {ds : List Dn} {z : Dn} (hd : Knows L (DonesIn A ds)) (h : z = dn0 ∨ z ∈ ds) : Knows L (DidsIn z.A z.l) := by
 rcases h with rfl | h
 ·
  exact fun w s => ⟨⟨rfl, by simp [dn0], by simp [dn0, dvs]⟩, fun x hx => by cases hx⟩
 exact fun w s => (hd w s).2 z h
theorem told_bl {ds : List Dn} {z : Dn} (hB : Bn ds) (h : z = dn0 ∨ z ∈ ds) : Bl z.l := by
 rcases h with rfl | h
 ·
  exact ⟨by simp [dn0], fun x hx => by cases hx⟩
 exact hB.2 z h

set_option maxRecDepth 100000 in
set_option maxHeartbeats 4000000 in
theorem late_any (W : World) (L : List Chunk) (w : World) (A : Option Addr) (ca : Nat) (l : List Ev) (hr : Knows L (EvsIn A l)) (hl : l.length ≤ 5000) (hi : ∀ x ∈ l, -9223372036854775808 ≤ x.id ∧ x.id ≤ 9223372036854775807) (Ad : Option Addr) (cd : Nat) (ds : List Dn) (hd : Knows L (DonesIn Ad ds)) (hB : Bn ds) (hdl : ds.length ≤ 5000) (hdi : ∀ d ∈ ds, -9223372036854775808 ≤ d.id ∧ d.id ≤ 9223372036854775807) (s : St W L w) :
  Calls Tryz.prog 20 #[.slice A l.length ca, .slice Ad ds.length cd] w fun e w' => e = .returned (.int .i64 (lateI (lateL (knF ds) [] l 0))) ∧ St W L w' := by
 refine enter_args (l := [.slice A l.length ca, .slice Ad ds.length cd]) Tryz.func20 rfl rfl (Nat.le_of_ble_eq_true rfl) ?_
 intro a ha; replace ha : Has a 97 [(0, .slice A l.length ca), (1, .slice Ad ds.length cd)] := ha
 refine zn1 ?_
 refine zv (.int .i64 0) ha ?_; clear ha; intro a ha
 refine zn4 ?_
 refine zze ha (ex_makeMap Tryz.prog 3 encI s rfl) ?_
 clear ha; rintro _ w a ⟨g1, rfl, s⟩ ha
 refine zv (.map (some g1)) ha ?_; clear ha; intro a ha
 refine zn2 ?_
 refine wp_seq ?_
 refine zn1 ?_
 refine zv (.slice Ad ds.length cd) ha ?_
 refine zzv (.int .i64 ((ds.length : Nat) : Int)) ?_
 refine zzv (.int .i64 0) ?_; clear ha; intro a ha
 refine zn2 ?_
 refine wp_block ?_
 refine wp_loopG (G := Nat) (fun j a w => Has a 97 [(0, .slice A l.length ca), (4, .int .i64 0), (5, .map (some g1)), (17, .slice Ad ds.length cd), (18, .int .i64 ((ds.length : Nat) : Int)), (19, .int .i64 ((j : Nat) : Int))] ∧ St W (MapT Tryz.prog 3 encI g1 (knD (ds.take j)) :: L) w ∧ (j ≤ ds.length)) (fun j => ds.length - j) 0 ?_ ?_
 ·
  exact ⟨(Has.cons ha (by kernel_rfl) (by kernel_rfl) (Has.cons ha (by kernel_rfl) (by kernel_rfl) (Has.cons ha (by kernel_rfl) (by kernel_rfl) (Has.cons ha (by kernel_rfl) (by kernel_rfl) (Has.cons ha (by kernel_rfl) (by kernel_rfl) (Has.cons ha (by kernel_rfl) (by kernel_rfl) (Has.nil ha))))))), s, Nat.zero_le _⟩
 clear ha s; rintro j a w ⟨ha, s, hp⟩
 refine zn1 ?_
 refine zv (.bool (decide (((j : Nat) : Int) < ((ds.length : Nat) : Int)))) ha ?_; clear ha; intro a ha
 refine zn2 ?_
 refine wp_seq ?_
 refine zzh (decide (((j : Nat) : Int) < ((ds.length : Nat) : Int))) ha ?_ ?_ <;> intro hb
 ·
  rw [hb] at ha; replace hb : (((j : Nat) : Int) < ((ds.length : Nat) : Int)) := of_decide_eq_true hb
  obtain ⟨d, hdj⟩ : ∃ d, ds[j]? = some d := ⟨_, List.getElem?_eq_getElem (by omega)⟩
  have hdd := hdi d (List.mem_of_getElem? hdj)
  obtain ⟨dd, hA⟩ := Reads.addr (hd _ s.sat.tail).1 (by omega)
  subst hA
  refine wp_skip ?_
  refine then_normal ?_
  refine wp_seq ?_
  refine wp_block ?_
  refine zn1 ?_
  refine zw (.pointer (some (dd.add (j * 4)))) ha (run_indexAddr' (kd := .i64) (i := ((j : Nat) : Int)) (n := ds.length) (c := cd) j rfl Tryz.underlying48 Tryz.sizeOf77 (by kernel_rfl) (by kernel_rfl) rfl (by first | assumption | omega) _) ?_
  refine zzw (.agg #[.int .i64 d.id, .int .i64 d.wall, .int .i64 d.logic, .slice d.A d.l.length d.c]) (run_loadAtN (i := j * 4) [.int .i64 d.id, .int .i64 d.wall, .int .i64 d.logic, .slice d.A d.l.length d.c] ((hd _ s.sat.tail).1) rfl (by kernel_rfl) Tryz.isAgg77 Tryz.sizeOf77 (fun q_ hq_ => nvs_at hdj hq_) rfl) ?_; clear ha; intro a ha
  refine zze ha (ex_alloc [.int .i64 0, .int .i64 0, .int .i64 0, .slice none 0 0] s rfl (Tryz.zeroValue77 _) (by kernel_rfl)) ?_
  clear ha; rintro _ w a ⟨g2, rfl, s⟩ ha
  refine zzd ha (ex_store (of_ := 0) 0 [.int .i64 d.id, .int .i64 d.wall, .int .i64 d.logic, .slice d.A d.l.length d.c] s rfl rfl (by kernel_rfl) (by kernel_rfl) (Tryz.sizeOf77 _) rfl (by simp [Value.oneCell']) (Nat.le_of_ble_eq_true rfl)) ?_
  clear ha; rintro w a s ha
  dsimp only [List.set, putAt] at s
  refine zn3 ?_
  refine zv (.map (some g1)) ha ?_
  refine zzv (.pointer (some ⟨g2, 0, none⟩)) ?_
  refine zzw (.int .i64 d.id) (zl1 0 0) ?_
  refine zzw (.agg #[.int .i64 d.id, .int .i64 d.wall, .int .i64 d.logic, .slice d.A d.l.length d.c]) (zln 0 0) ?_; clear ha; intro a ha
  refine zzd ha (ex_mapUpdate (a := d.id) 1 (.agg #[.int .i64 d.id, .int .i64 d.wall, .int .i64 d.logic, .slice d.A d.l.length d.c]) s rfl rfl (by kernel_rfl) (by kernel_rfl) (by kernel_rfl) encI_inj keyed3 Tryz.underlying85 (key3 (by omega)) (by have h := knD_len (ds.take j); rw [List.length_take] at h; simp only [maxLen]; omega)) ?_
  clear ha; rintro w a s ha
  dsimp only [List.set, putAt] at s
  refine wpList_nil ?_
  refine block_normal ?_
  refine then_normal ?_
  refine wp_region_lit ?_
  refine zw (.int .i64 ((j + 1 : Nat) : Int)) ha zar ?_
  refine zzv (.int .i64 ((j + 1 : Nat) : Int)) ?_; clear ha; intro a ha
  refine zn2 ?_
  replace s := s.at_ (j := 1) rfl
  replace s := s.k1_1
  rw [← knD_snoc, ← take_snoc hdj] at s
  exact ⟨j + 1, (show ds.length - (j + 1) < ds.length - j by omega), (Has.cons ha (by kernel_rfl) (by kernel_rfl) (Has.cons ha (by kernel_rfl) (by kernel_rfl) (Has.cons ha (by kernel_rfl) (by kernel_rfl) (Has.cons ha (by kernel_rfl) (by kernel_rfl) (Has.cons ha (by kernel_rfl) (by kernel_rfl) (Has.cons ha (by kernel_rfl) (by kernel_rfl) (Has.nil ha))))))), s, (show j + 1 ≤ ds.length by omega)⟩
 rw [hb] at ha; replace hb : ¬ (((j : Nat) : Int) < ((ds.length : Nat) : Int)) := of_decide_eq_false hb
 rw [List.take_of_length_le (by omega)] at s
 refine wp_exit ?_
 refine then_exit ?_
 refine then_exit ?_
 refine block_hit ?_
 refine then_normal ?_
 refine zn1 ?_
 refine zv (.slice none 0 0) ha ?_; clear ha; intro a ha
 refine zn2 ?_
 refine wp_seq ?_
 refine zn1 ?_
 refine zv (.slice A l.length ca) ha ?_
 refine zzv (.int .i64 ((l.length : Nat) : Int)) ?_
 refine zzv (.int .i64 0) ?_; clear ha; intro a ha
 refine zn2 ?_
 refine wp_block ?_
 replace s := Own.none_ (e := 77) (k := 4) none s
 replace s := s.at_ (j := 1) rfl
 dsimp only [List.eraseIdx] at s
 refine wp_loopG (G := (Nat × Option Addr × Nat × List Dn)) (fun ⟨i, A1, c1, told⟩ a w => Has a 97 [(4, .int .i64 0), (5, .map (some g1)), (28, .slice A l.length ca), (29, .int .i64 ((l.length : Nat) : Int)), (8, .slice A1 told.length c1), (30, .int .i64 ((i : Nat) : Int))] ∧ St W (MapT Tryz.prog 3 encI g1 (knD ds) :: Own 77 4 A1 told.length c1 (nvs told) :: L) w ∧ (i ≤ l.length ∧ told = (l.take i).flatMap (tolds (knF ds)) ∧ lateL (knF ds) [] (l.take i) 0 = none)) (fun ⟨i, A1, c1, told⟩ => l.length - i) (0, none, 0, []) ?_ ?_
 ·
  exact ⟨(Has.cons ha (by kernel_rfl) (by kernel_rfl) (Has.cons ha (by kernel_rfl) (by kernel_rfl) (Has.cons ha (by kernel_rfl) (by kernel_rfl) (Has.cons ha (by kernel_rfl) (by kernel_rfl) (Has.cons ha (by kernel_rfl) (by kernel_rfl) (Has.cons ha (by kernel_rfl) (by kernel_rfl) (Has.nil ha))))))), s, ⟨Nat.zero_le _, rfl, rfl⟩⟩
 clear ha s; rintro ⟨i, A1, c1, told⟩ a w ⟨ha, s, hp⟩
 refine zn1 ?_
 refine zv (.bool (decide (((i : Nat) : Int) < ((l.length : Nat) : Int)))) ha ?_; clear ha; intro a ha
 refine zn2 ?_
 refine wp_seq ?_
 refine zzh (decide (((i : Nat) : Int) < ((l.length : Nat) : Int))) ha ?_ ?_ <;> intro hb
 ·
  rw [hb] at ha; replace hb : (((i : Nat) : Int) < ((l.length : Nat) : Int)) := of_decide_eq_true hb
  obtain ⟨x, hx⟩ : ∃ x, l[i]? = some x := ⟨_, List.getElem?_eq_getElem (by omega)⟩
  have hxi := hi x (List.mem_of_getElem? hx)
  obtain ⟨ad, hA⟩ := Reads.addr (hr _ s.sat.tail.tail).1 (by omega)
  subst hA
  obtain ⟨y, hy⟩ : ∃ y, y = (knF ds x.id).getD dn0 := ⟨_, rfl⟩
  have htn := tolds_len (knF ds) (l.take i)
  rw [← hp.2.1, List.length_take] at htn
  refine wp_skip ?_
  refine then_normal ?_
  refine wp_seq ?_
  refine wp_block ?_
  refine zn1 ?_
  refine zv (.int .i64 ((i : Nat) : Int)) ha ?_
  refine zzw (.pointer (some (ad.add (i * 16)))) (run_indexAddr' (kd := .i64) (i := ((i : Nat) : Int)) (n := l.length) (c := ca) i rfl Tryz.underlying22 Tryz.sizeOf37 (by kernel_rfl) (by kernel_rfl) rfl (by first | assumption | omega) _) ?_
  refine zzw (.agg (evv x).toArray) (run_loadAtN (i := i * 16) (evv x) ((hr _ s.sat.tail.tail).1) rfl (by kernel_rfl) Tryz.isAgg37 Tryz.sizeOf37 (fun q_ hq_ => evs_at hx hq_) rfl) ?_; clear ha; intro a ha
  refine zze ha (ex_alloc (evv ⟨0, 0, 0, 0, 0, 0, [], [], [], [], false, [], none, 0, 0, 0, 0, 0⟩) s rfl (Tryz.zeroValue37 _) (by kernel_rfl)) ?_
  clear ha; rintro _ w a ⟨g3, rfl, s⟩ ha
  refine zv (.int .i64 ((i : Nat) : Int)) ha ?_; clear ha; intro a ha
  refine zzd ha (ex_store (of_ := 0) 0 (evv x) s rfl rfl (by kernel_rfl) (by kernel_rfl) (Tryz.sizeOf37 _) rfl (by simp [evv, txv, Value.oneCell']) (Nat.le_of_ble_eq_true rfl)) ?_
  clear ha; rintro w a s ha
  dsimp only [List.set, putAt] at s
  refine zn2 ?_
  refine wp_seq ?_
  refine zn1 ?_
  refine zv (.pointer (some ⟨g3, 1, none⟩)) ha ?_
  refine zzw (.int .i64 x.kind) (zl1 0 1) ?_
  refine zzv (.bool (x.kind == (3 : Int))) ?_
  refine zzv (.bool (x.kind == (3 : Int))) ?_; clear ha; intro a ha
  rcases Bool.eq_false_or_eq_true (x.kind == (3 : Int)) with hb | hb
  ·
   rw [hb] at ha; have hb_ := hb; replace hb := eq_of_beq hb
   have hk3 := hb
   have hk3_ := hb_
   have hnb : badL (knF ds) told x = false := by unfold badL; rw [beq_eq_false_iff_ne.2 (show x.kind ≠ 1 by omega)]; rfl
   refine zw (.agg (evv x).toArray) ha (zln 0 0) ?_; clear ha; intro a ha
   refine zzc ha (com_any W _ w x s) ?_
   rintro _ w ⟨rfl, s⟩
   refine ⟨_, rfl, ?_⟩; clear ha; intro a ha
   refine zv (.bool (comB x)) ha ?_; clear ha; intro a ha
   refine zn2 ?_
   refine zzh (comB x) ha ?_ ?_ <;> intro hb
   ·
    rw [hb] at ha; skip
    have hcm := hb
    refine wp_region_lit ?_
    refine zv (.slice A1 told.length c1) ha ?_
    refine zzv (.map (some g1)) ?_
    refine zzv (.pointer (some ⟨g3, 3, none⟩)) ?_
    refine zzw (.int .i64 x.id) (zl1 0 3) ?_
    refine zzw (.agg #[.int .i64 y.id, .int .i64 y.wall, .int .i64 y.logic, .slice y.A y.l.length y.c]) (run_lookup (a := x.id) (.agg #[.int .i64 y.id, .int .i64 y.wall, .int .i64 y.logic, .slice y.A y.l.length y.c]) (s.mapIs 1 rfl) rfl (by kernel_rfl) (by kernel_rfl) encI_inj keyed3 Tryz.underlying85 Tryz.zeroValue77 (key3 (by omega)) (by rw [knD_get, hy]; cases knF ds x.id <;> rfl)) ?_; clear ha; intro a ha
    refine zze ha (ex_buildSlice elt48 _ zs48 [.int .i64 y.id, .int .i64 y.wall, .int .i64 y.logic, .slice y.A y.l.length y.c] s rfl (by kernel_rfl) (by decide)) ?_
    clear ha; rintro _ w a ⟨g4, rfl, s⟩ ha
    refine zze ha (ex_append (m := 1) (d' := 1) elt48 (by decide) 3 [.int .i64 y.id, .int .i64 y.wall, .int .i64 y.logic, .slice y.A y.l.length y.c] s rfl (by kernel_rfl) (by kernel_rfl) rfl (reads_blk (s.blkIs 0 rfl) rfl) (by simp [Value.oneCell']) (by simp only [maxLen]; omega) (by omega)) ?_
    clear ha; rintro _ w a ⟨A5, c6, rfl, hA_, s⟩ ha
    rw [show [.int .i64 y.id, .int .i64 y.wall, .int .i64 y.logic, .slice y.A y.l.length y.c] = nv y from rfl, nvs_snoc] at s
    refine zv (.slice A5 (told.length + 1) c6) ha ?_; clear ha; intro a ha
    refine zn4 ?_
    refine zv (.map (some g1)) ha ?_
    refine zzv (.pointer (some ⟨g3, 3, none⟩)) ?_
    refine zzw (.int .i64 x.id) (zl1 1 3) ?_
    refine zzw (.tuple #[.agg #[.int .i64 y.id, .int .i64 y.wall, .int .i64 y.logic, .slice y.A y.l.length y.c], .bool ((knF ds x.id).isSome)]) (run_lookup_ok (a := x.id) (.agg #[.int .i64 y.id, .int .i64 y.wall, .int .i64 y.logic, .slice y.A y.l.length y.c]) ((knF ds x.id).isSome) (s.mapIs 2 rfl) rfl (by kernel_rfl) (by kernel_rfl) encI_inj keyed3 Tryz.underlying85 Tryz.zeroValue77 (key3 (by omega)) (by rw [knD_get, hy]; cases knF ds x.id <;> rfl) (by rw [knD_get]; cases knF ds x.id <;> rfl)) ?_
    refine zzv (.tuple #[.agg #[.int .i64 y.id, .int .i64 y.wall, .int .i64 y.logic, .slice y.A y.l.length y.c], .bool ((knF ds x.id).isSome)]) ?_
    refine zzv (.agg #[.int .i64 y.id, .int .i64 y.wall, .int .i64 y.logic, .slice y.A y.l.length y.c]) ?_
    refine zzv (.bool ((knF ds x.id).isSome)) ?_; clear ha; intro a ha
    refine zze ha (ex_alloc [.int .i64 0, .int .i64 0, .int .i64 0, .slice none 0 0] s rfl (Tryz.zeroValue77 _) (by kernel_rfl)) ?_
    clear ha; rintro _ w a ⟨g7, rfl, s⟩ ha
    refine zzd ha (ex_store (of_ := 0) 0 [.int .i64 y.id, .int .i64 y.wall, .int .i64 y.logic, .slice y.A y.l.length y.c] s rfl rfl (by kernel_rfl) (by kernel_rfl) (Tryz.sizeOf77 _) rfl (by simp [Value.oneCell']) (Nat.le_of_ble_eq_true rfl)) ?_
    clear ha; rintro w a s ha
    dsimp only [List.set, putAt] at s
    refine zv (.bool ((knF ds x.id).isSome)) ha ?_; clear ha; intro a ha
    refine zn2 ?_
    refine wp_seq ?_
    refine zn1 ?_
    refine zv (.pointer (some ⟨g3, 1, none⟩)) ha ?_
    refine zzw (.int .i64 x.kind) (zl1 2 1) ?_
    refine zzw (.bool true) (run_known (show (x.kind != (1 : Int)) = true from bne_iff_ne.2 (by omega)) (by kernel_rfl)) ?_
    refine zzv (.bool true) ?_
    iterate 2 refine zzp ?_
    refine zzv (.bool true) ?_; clear ha; intro a ha
    refine zn2 ?_
    refine wp_true ha rfl (by kernel_rfl) ?_
    refine wp_exit ?_
    refine then_exit ?_
    refine block_hit ?_
    refine then_normal ?_
    refine wp_region_lit ?_
    refine zw (.int .i64 ((i + 1 : Nat) : Int)) ha zar ?_
    refine zzv (.int .i64 ((i + 1 : Nat) : Int)) ?_; clear ha; intro a ha
    refine zn2 ?_
    replace s := (s.at_ (j := 4) rfl).at_ (j := 4) rfl
    replace s := s.k2_3
    obtain ⟨told2, ht2⟩ : ∃ q, q = told ++ [y] := ⟨_, rfl⟩
    have hl2 : told.length + 1 = told2.length := by rw [ht2]; simp
    rw [hl2, ← ht2] at s
    rw [hl2] at ha
    have htl : told2 = told ++ tolds (knF ds) x := by unfold tolds; rw [ht2, hy, if_pos (by rw [hk3_, hcm]; rfl)]
    have hst := late_step hp.2.1 hp.2.2 hx htl hnb
    exact ⟨(i + 1, A5, c6, told2), (show l.length - (i + 1) < l.length - i by omega), (Has.cons ha (by kernel_rfl) (by kernel_rfl) (Has.cons ha (by kernel_rfl) (by kernel_rfl) (Has.cons ha (by kernel_rfl) (by kernel_rfl) (Has.cons ha (by kernel_rfl) (by kernel_rfl) (Has.cons ha (by kernel_rfl) (by kernel_rfl) (Has.cons ha (by kernel_rfl) (by kernel_rfl) (Has.nil ha))))))), s, (show i + 1 ≤ l.length by omega), hst.1, hst.2⟩
   rw [hb] at ha; skip
   have hcm := hb
   refine wp_skip ?_
   refine then_normal ?_
   refine zn1 ?_
   refine zv (.map (some g1)) ha ?_
   refine zzv (.pointer (some ⟨g3, 3, none⟩)) ?_
   refine zzw (.int .i64 x.id) (zl1 0 3) ?_
   refine zzw (.tuple #[.agg #[.int .i64 y.id, .int .i64 y.wall, .int .i64 y.logic, .slice y.A y.l.length y.c], .bool ((knF ds x.id).isSome)]) (run_lookup_ok (a := x.id) (.agg #[.int .i64 y.id, .int .i64 y.wall, .int .i64 y.logic, .slice y.A y.l.length y.c]) ((knF ds x.id).isSome) (s.mapIs 1 rfl) rfl (by kernel_rfl) (by kernel_rfl) encI_inj keyed3 Tryz.underlying85 Tryz.zeroValue77 (key3 (by omega)) (by rw [knD_get, hy]; cases knF ds x.id <;> rfl) (by rw [knD_get]; cases knF ds x.id <;> rfl)) ?_
   refine zzv (.tuple #[.agg #[.int .i64 y.id, .int .i64 y.wall, .int .i64 y.logic, .slice y.A y.l.length y.c], .bool ((knF ds x.id).isSome)]) ?_
   refine zzv (.agg #[.int .i64 y.id, .int .i64 y.wall, .int .i64 y.logic, .slice y.A y.l.length y.c]) ?_
   refine zzv (.bool ((knF ds x.id).isSome)) ?_; clear ha; intro a ha
   refine zze ha (ex_alloc [.int .i64 0, .int .i64 0, .int .i64 0, .slice none 0 0] s rfl (Tryz.zeroValue77 _) (by kernel_rfl)) ?_
   clear ha; rintro _ w a ⟨g8, rfl, s⟩ ha
   refine zzd ha (ex_store (of_ := 0) 0 [.int .i64 y.id, .int .i64 y.wall, .int .i64 y.logic, .slice y.A y.l.length y.c] s rfl rfl (by kernel_rfl) (by kernel_rfl) (Tryz.sizeOf77 _) rfl (by simp [Value.oneCell']) (Nat.le_of_ble_eq_true rfl)) ?_
   clear ha; rintro w a s ha
   dsimp only [List.set, putAt] at s
   refine zv (.bool ((knF ds x.id).isSome)) ha ?_; clear ha; intro a ha
   refine zn2 ?_
   refine wp_seq ?_
   refine zn1 ?_
   refine zv (.pointer (some ⟨g3, 1, none⟩)) ha ?_
   refine zzw (.int .i64 x.kind) (zl1 1 1) ?_
   refine zzw (.bool true) (run_known (show (x.kind != (1 : Int)) = true from bne_iff_ne.2 (by omega)) (by kernel_rfl)) ?_
   refine zzv (.bool true) ?_
   iterate 2 refine zzp ?_
   refine zzv (.bool true) ?_; clear ha; intro a ha
   refine zn2 ?_
   refine wp_true ha rfl (by kernel_rfl) ?_
   refine wp_exit ?_
   refine then_exit ?_
   refine block_hit ?_
   refine then_normal ?_
   refine wp_region_lit ?_
   refine zw (.int .i64 ((i + 1 : Nat) : Int)) ha zar ?_
   refine zzv (.int .i64 ((i + 1 : Nat) : Int)) ?_; clear ha; intro a ha
   refine zn2 ?_
   replace s := (s.at_ (j := 3) rfl).at_ (j := 3) rfl
   replace s := s.k2_2
   have htl : told = told ++ tolds (knF ds) x := by unfold tolds; rw [if_neg (by rw [hcm, Bool.and_false]; decide), List.append_nil]
   have hst := late_step hp.2.1 hp.2.2 hx htl hnb
   exact ⟨(i + 1, A1, c1, told), (show l.length - (i + 1) < l.length - i by omega), (Has.cons ha (by kernel_rfl) (by kernel_rfl) (Has.cons ha (by kernel_rfl) (by kernel_rfl) (Has.cons ha (by kernel_rfl) (by kernel_rfl) (Has.cons ha (by kernel_rfl) (by kernel_rfl) (Has.cons ha (by kernel_rfl) (by kernel_rfl) (Has.cons ha (by kernel_rfl) (by kernel_rfl) (Has.nil ha))))))), s, (show i + 1 ≤ l.length by omega), hst.1, hst.2⟩
  rw [hb] at ha; have hb_ := hb; replace hb := ne_of_beq_false hb
  have hk3_ := hb_
  refine zp ha ?_
  refine zzp ?_
  refine zzv (.bool false) ?_; clear ha; intro a ha
  refine zn2 ?_
  refine wp_false ha rfl (by kernel_rfl) ?_
  refine wp_skip ?_
  refine then_normal ?_
  refine zn1 ?_
  refine zv (.map (some g1)) ha ?_
  refine zzv (.pointer (some ⟨g3, 3, none⟩)) ?_
  refine zzw (.int .i64 x.id) (zl1 0 3) ?_
  refine zzw (.tuple #[.agg #[.int .i64 y.id, .int .i64 y.wall, .int .i64 y.logic, .slice y.A y.l.length y.c], .bool ((knF ds x.id).isSome)]) (run_lookup_ok (a := x.id) (.agg #[.int .i64 y.id, .int .i64 y.wall, .int .i64 y.logic, .slice y.A y.l.length y.c]) ((knF ds x.id).isSome) (s.mapIs 1 rfl) rfl (by kernel_rfl) (by kernel_rfl) encI_inj keyed3 Tryz.underlying85 Tryz.zeroValue77 (key3 (by omega)) (by rw [knD_get, hy]; cases knF ds x.id <;> rfl) (by rw [knD_get]; cases knF ds x.id <;> rfl)) ?_
  refine zzv (.tuple #[.agg #[.int .i64 y.id, .int .i64 y.wall, .int .i64 y.logic, .slice y.A y.l.length y.c], .bool ((knF ds x.id).isSome)]) ?_
  refine zzv (.agg #[.int .i64 y.id, .int .i64 y.wall, .int .i64 y.logic, .slice y.A y.l.length y.c]) ?_
  refine zzv (.bool ((knF ds x.id).isSome)) ?_; clear ha; intro a ha
  refine zze ha (ex_alloc [.int .i64 0, .int .i64 0, .int .i64 0, .slice none 0 0] s rfl (Tryz.zeroValue77 _) (by kernel_rfl)) ?_
  clear ha; rintro _ w a ⟨g9, rfl, s⟩ ha
  refine zzd ha (ex_store (of_ := 0) 0 [.int .i64 y.id, .int .i64 y.wall, .int .i64 y.logic, .slice y.A y.l.length y.c] s rfl rfl (by kernel_rfl) (by kernel_rfl) (Tryz.sizeOf77 _) rfl (by simp [Value.oneCell']) (Nat.le_of_ble_eq_true rfl)) ?_
  clear ha; rintro w a s ha
  dsimp only [List.set, putAt] at s
  refine zv (.bool ((knF ds x.id).isSome)) ha ?_; clear ha; intro a ha
  refine zn2 ?_
  refine wp_seq ?_
  refine zn1 ?_
  refine zv (.pointer (some ⟨g3, 1, none⟩)) ha ?_
  refine zzw (.int .i64 x.kind) (zl1 1 1) ?_
  refine zzv (.bool (x.kind != (1 : Int))) ?_
  refine zzv (.bool (x.kind != (1 : Int))) ?_; clear ha; intro a ha
  rcases Bool.eq_false_or_eq_true (x.kind != (1 : Int)) with hb | hb
  ·
   rw [hb] at ha; have hb_ := hb; replace hb := zbn hb
   have hnb : badL (knF ds) told x = false := by unfold badL; rw [beq_eq_false_iff_ne.2 hb]; rfl
   refine zp ha ?_
   refine zzp ?_
   refine zzv (.bool true) ?_; clear ha; intro a ha
   refine zn2 ?_
   refine wp_true ha rfl (by kernel_rfl) ?_
   refine wp_exit ?_
   refine then_exit ?_
   refine block_hit ?_
   refine then_normal ?_
   refine wp_region_lit ?_
   refine zw (.int .i64 ((i + 1 : Nat) : Int)) ha zar ?_
   refine zzv (.int .i64 ((i + 1 : Nat) : Int)) ?_; clear ha; intro a ha
   refine zn2 ?_
   replace s := (s.at_ (j := 3) rfl).at_ (j := 3) rfl
   replace s := s.k2_2
   have htl : told = told ++ tolds (knF ds) x := by unfold tolds; rw [if_neg (by rw [hk3_]; simp), List.append_nil]
   have hst := late_step hp.2.1 hp.2.2 hx htl hnb
   exact ⟨(i + 1, A1, c1, told), (show l.length - (i + 1) < l.length - i by omega), (Has.cons ha (by kernel_rfl) (by kernel_rfl) (Has.cons ha (by kernel_rfl) (by kernel_rfl) (Has.cons ha (by kernel_rfl) (by kernel_rfl) (Has.cons ha (by kernel_rfl) (by kernel_rfl) (Has.cons ha (by kernel_rfl) (by kernel_rfl) (Has.cons ha (by kernel_rfl) (by kernel_rfl) (Has.nil ha))))))), s, (show i + 1 ≤ l.length by omega), hst.1, hst.2⟩
  rw [hb] at ha; have hb_ := hb; replace hb := zbq hb
  have hk1_ : (x.kind == 1) = true := beq_iff_eq.2 hb
  refine zv (.bool ((knF ds x.id).isSome)) ha ?_
  refine zzv (.bool (!((knF ds x.id).isSome))) ?_
  refine zzv (.bool (!((knF ds x.id).isSome))) ?_; clear ha; intro a ha
  refine zn2 ?_
  refine zzh (!((knF ds x.id).isSome)) ha ?_ ?_ <;> intro hb
  ·
   rw [hb] at ha; skip
   have hkn : knF ds x.id = none := by simpa using hb
   have hnb : badL (knF ds) told x = false := by unfold badL; rw [hkn]; simp
   refine wp_exit ?_
   refine then_exit ?_
   refine block_hit ?_
   refine then_normal ?_
   refine wp_region_lit ?_
   refine zw (.int .i64 ((i + 1 : Nat) : Int)) ha zar ?_
   refine zzv (.int .i64 ((i + 1 : Nat) : Int)) ?_; clear ha; intro a ha
   refine zn2 ?_
   replace s := (s.at_ (j := 3) rfl).at_ (j := 3) rfl
   replace s := s.k2_2
   have htl : told = told ++ tolds (knF ds) x := by unfold tolds; rw [if_neg (by rw [hk3_]; simp), List.append_nil]
   have hst := late_step hp.2.1 hp.2.2 hx htl hnb
   exact ⟨(i + 1, A1, c1, told), (show l.length - (i + 1) < l.length - i by omega), (Has.cons ha (by kernel_rfl) (by kernel_rfl) (Has.cons ha (by kernel_rfl) (by kernel_rfl) (Has.cons ha (by kernel_rfl) (by kernel_rfl) (Has.cons ha (by kernel_rfl) (by kernel_rfl) (Has.cons ha (by kernel_rfl) (by kernel_rfl) (Has.cons ha (by kernel_rfl) (by kernel_rfl) (Has.nil ha))))))), s, (show i + 1 ≤ l.length by omega), hst.1, hst.2⟩
  rw [hb] at ha; skip
  obtain ⟨y2, hkn⟩ := Option.isSome_iff_exists.1 (show (knF ds x.id).isSome = true by simpa using hb)
  have hyy : y = y2 := by rw [hy, hkn]; rfl
  subst hyy
  have hym : y = dn0 ∨ y ∈ ds := .inr (knF_mem hkn).1
  refine wp_skip ?_
  refine then_normal ?_
  refine zn1 ?_
  refine zv (.slice A1 told.length c1) ha ?_
  refine zzv (.int .i64 ((told.length : Nat) : Int)) ?_
  refine zzv (.int .i64 0) ?_; clear ha; intro a ha
  refine zn2 ?_
  refine wp_block ?_
  replace s := (s.at_ (j := 3) rfl).at_ (j := 3) rfl
  replace s := s.k3_1
  have hp1 := hp
  refine wp_loopG (G := Nat) (fun k a w => Has a 97 [(4, .int .i64 0), (5, .map (some g1)), (8, .slice A1 told.length c1), (9, .int .i64 ((i : Nat) : Int)), (11, .pointer (some ⟨g9, 0, none⟩)), (28, .slice (some ad) l.length ca), (29, .int .i64 ((l.length : Nat) : Int)), (30, .int .i64 ((i : Nat) : Int)), (63, .slice A1 told.length c1), (64, .int .i64 ((told.length : Nat) : Int)), (65, .int .i64 ((k : Nat) : Int))] ∧ St W (MapT Tryz.prog 3 encI g1 (knD ds) :: Own 77 4 A1 told.length c1 (nvs told) :: .blk g9 [.int .i64 y.id, .int .i64 y.wall, .int .i64 y.logic, .slice y.A y.l.length y.c] 77 :: L) w ∧ (k ≤ told.length ∧ (told.take k).any (behT y) = false)) (fun k => told.length - k) 0 ?_ ?_
  ·
   exact ⟨(Has.cons ha (by kernel_rfl) (by kernel_rfl) (Has.cons ha (by kernel_rfl) (by kernel_rfl) (Has.cons ha (by kernel_rfl) (by kernel_rfl) (Has.cons ha (by kernel_rfl) (by kernel_rfl) (Has.cons ha (by kernel_rfl) (by kernel_rfl) (Has.cons ha (by kernel_rfl) (by kernel_rfl) (Has.cons ha (by kernel_rfl) (by kernel_rfl) (Has.cons ha (by kernel_rfl) (by kernel_rfl) (Has.cons ha (by kernel_rfl) (by kernel_rfl) (Has.cons ha (by kernel_rfl) (by kernel_rfl) (Has.cons ha (by kernel_rfl) (by kernel_rfl) (Has.nil ha)))))))))))), s, ⟨Nat.zero_le _, rfl⟩⟩
  clear ha s; rintro k a w ⟨ha, s, hp⟩
  refine zn1 ?_
  refine zv (.bool (decide (((k : Nat) : Int) < ((told.length : Nat) : Int)))) ha ?_; clear ha; intro a ha
  refine zn2 ?_
  refine wp_seq ?_
  refine zzh (decide (((k : Nat) : Int) < ((told.length : Nat) : Int))) ha ?_ ?_ <;> intro hb
  ·
   rw [hb] at ha; replace hb : (((k : Nat) : Int) < ((told.length : Nat) : Int)) := of_decide_eq_true hb
   have hp2 := hp
   replace hp := hp1
   obtain ⟨z, hz⟩ : ∃ z, told[k]? = some z := ⟨_, List.getElem?_eq_getElem (by omega)⟩
   have hzm := tolds_mem (hp.2.1 ▸ List.mem_of_getElem? hz)
   obtain ⟨a1, hA1⟩ := Reads.addr (Own.reads (s.at_ (j := 1) rfl).1) (by omega)
   subst hA1
   refine wp_skip ?_
   refine then_normal ?_
   refine wp_seq ?_
   refine wp_block ?_
   refine zn1 ?_
   refine zw (.pointer (some (a1.add (k * 4)))) ha (run_indexAddr' (kd := .i64) (i := ((k : Nat) : Int)) (n := told.length) (c := c1) k rfl Tryz.underlying48 Tryz.sizeOf77 (by kernel_rfl) (by kernel_rfl) rfl (by first | assumption | omega) _) ?_
   refine zzw (.agg #[.int .i64 z.id, .int .i64 z.wall, .int .i64 z.logic, .slice z.A z.l.length z.c]) (run_loadAtN (i := k * 4) [.int .i64 z.id, .int .i64 z.wall, .int .i64 z.logic, .slice z.A z.l.length z.c] ((Own.reads (s.at_ (j := 1) rfl).1)) rfl (by kernel_rfl) Tryz.isAgg77 Tryz.sizeOf77 (fun q_ hq_ => nvs_at hz hq_) rfl) ?_; clear ha; intro a ha
   refine zze ha (ex_alloc [.int .i64 0, .int .i64 0, .int .i64 0, .slice none 0 0] s rfl (Tryz.zeroValue77 _) (by kernel_rfl)) ?_
   clear ha; rintro _ w a ⟨g10, rfl, s⟩ ha
   refine zzd ha (ex_store (of_ := 0) 0 [.int .i64 z.id, .int .i64 z.wall, .int .i64 z.logic, .slice z.A z.l.length z.c] s rfl rfl (by kernel_rfl) (by kernel_rfl) (Tryz.sizeOf77 _) rfl (by simp [Value.oneCell']) (Nat.le_of_ble_eq_true rfl)) ?_
   clear ha; rintro w a s ha
   dsimp only [List.set, putAt] at s
   refine zn4 ?_
   refine zv (.pointer (some ⟨g9, 1, none⟩)) ha ?_
   refine zzw (.agg #[.int .i64 y.wall, .int .i64 y.logic]) (zln 3 1) ?_
   refine zzv (.pointer (some ⟨g10, 1, none⟩)) ?_
   refine zzw (.agg #[.int .i64 z.wall, .int .i64 z.logic]) (zln 0 1) ?_; clear ha; intro a ha
   refine zzc ha (less_any W _ w y.wall y.logic z.wall z.logic s) ?_
   rintro _ w ⟨rfl, s⟩
   refine ⟨_, rfl, ?_⟩; clear ha; intro a ha
   refine zv (.bool (decide (ltS y.wall y.logic z.wall z.logic))) ha ?_; clear ha; intro a ha
   rcases Bool.eq_false_or_eq_true (decide (ltS y.wall y.logic z.wall z.logic)) with hb | hb
   ·
    rw [hb] at ha; replace hb : (ltS y.wall y.logic z.wall z.logic) := of_decide_eq_true hb
    have h1 := hb
    refine zp ha ?_
    iterate 11 refine zzp ?_
    refine zzv (.bool true) ?_
    refine zzv (.bool true) ?_; clear ha; intro a ha
    refine zn4 ?_
    refine zv (.bool true) ha ?_
    refine zzv (.bool true) ?_
    refine zzw (.agg #[.int .i64 y.id, .int .i64 y.wall, .int .i64 y.logic, .slice y.A y.l.length y.c]) (zln 3 0) ?_
    refine zzw (.agg #[.int .i64 z.id, .int .i64 z.wall, .int .i64 z.logic, .slice z.A z.l.length z.c]) (zln 0 0) ?_; clear ha; intro a ha
    refine zzc ha (touches_any W _ w y z (told_knows (fun w s => hd w s.tail.tail.tail.tail) hym) (told_knows (fun w s => hd w s.tail.tail.tail.tail) hzm) (told_bl hB hym) (told_bl hB hzm) s) ?_
    rintro _ w ⟨rfl, s⟩
    refine ⟨_, rfl, ?_⟩; clear ha; intro a ha
    refine zv (.bool (touchL (y.l.map (·.t)) (z.l.map (·.t)))) ha ?_; clear ha; intro a ha
    refine zn2 ?_
    refine zzh (touchL (y.l.map (·.t)) (z.l.map (·.t))) ha ?_ ?_ <;> intro hb
    ·
     rw [hb] at ha; skip
     have hyes : behT y z = true := by unfold behT; rw [decide_eq_true h1, hb]; rfl
     have hit := late_hit hp.2.1 hp.2.2 hx (show badL (knF ds) told x = true by unfold badL; rw [hkn, hk1_]; exact List.any_eq_true.2 ⟨z, List.mem_of_getElem? hz, hyes⟩)
     refine zn1 ?_
     refine zv (.int .i64 ((i : Nat) : Int)) ha ?_
     refine zzv (.int .i64 ((i : Nat) : Int)) ?_; clear ha; intro a ha
     refine zn2 ?_
     refine wp_ret ?_
     refine block_ret ?_
     refine then_ret ?_
     refine then_ret ?_
     refine block_ret ?_
     refine block_ret ?_
     refine then_ret ?_
     refine then_ret ?_
     refine block_ret ?_
     refine then_ret ?_
     refine zzr (v := .int .i64 ((i : Nat) : Int)) ha ?_
     replace s := s.tail.tail.tail.tail
     replace s : St W (L) w := s
     exact ⟨by rw [hit]; rfl, s⟩
    rw [hb] at ha; skip
    have hno : behT y z = false := by unfold behT; rw [hb, Bool.and_false]
    refine wp_skip ?_
    refine block_normal ?_
    refine then_normal ?_
    refine wp_region_lit ?_
    refine zw (.int .i64 ((k + 1 : Nat) : Int)) ha zar ?_
    refine zzv (.int .i64 ((k + 1 : Nat) : Int)) ?_; clear ha; intro a ha
    refine zn2 ?_
    replace s := ((s.at_ (j := 3) rfl).at_ (j := 3) rfl).at_ (j := 3) rfl
    replace s := s.k3_1
    exact ⟨k + 1, (show told.length - (k + 1) < told.length - k by omega), (Has.cons ha (by kernel_rfl) (by kernel_rfl) (Has.cons ha (by kernel_rfl) (by kernel_rfl) (Has.cons ha (by kernel_rfl) (by kernel_rfl) (Has.cons ha (by kernel_rfl) (by kernel_rfl) (Has.cons ha (by kernel_rfl) (by kernel_rfl) (Has.cons ha (by kernel_rfl) (by kernel_rfl) (Has.cons ha (by kernel_rfl) (by kernel_rfl) (Has.cons ha (by kernel_rfl) (by kernel_rfl) (Has.cons ha (by kernel_rfl) (by kernel_rfl) (Has.cons ha (by kernel_rfl) (by kernel_rfl) (Has.cons ha (by kernel_rfl) (by kernel_rfl) (Has.nil ha)))))))))))), s, (show k + 1 ≤ told.length by omega), by rw [take_snoc hz, List.any_append, hp2.2, Bool.false_or]; simp only [List.any_cons, List.any_nil, Bool.or_false]; exact hno⟩
   rw [hb] at ha; replace hb : ¬ (ltS y.wall y.logic z.wall z.logic) := of_decide_eq_false hb
   have h1 := hb
   refine zv (.pointer (some ⟨g9, 1, none⟩)) ha ?_
   refine zzw (.agg #[.int .i64 y.wall, .int .i64 y.logic]) (zln 3 1) ?_
   refine zzv (.pointer (some ⟨g10, 1, none⟩)) ?_
   refine zzw (.agg #[.int .i64 z.wall, .int .i64 z.logic]) (zln 0 1) ?_
   refine zzw (.bool (decide ((y.wall, y.logic) = (z.wall, z.logic)))) (run_stampeq rfl (by kernel_rfl) (by kernel_rfl) _) ?_
   refine zzv (.bool (decide ((y.wall, y.logic) = (z.wall, z.logic)))) ?_; clear ha; intro a ha
   rcases Bool.eq_false_or_eq_true (decide ((y.wall, y.logic) = (z.wall, z.logic))) with hb | hb
   ·
    rw [hb] at ha; replace hb : ((y.wall, y.logic) = (z.wall, z.logic)) := of_decide_eq_true hb
    have h2 := hb
    refine zv (.pointer (some ⟨g10, 0, none⟩)) ha ?_
    refine zzw (.int .i64 z.id) (zl1 0 0) ?_
    refine zzv (.pointer (some ⟨g9, 0, none⟩)) ?_
    refine zzw (.int .i64 y.id) (zl1 3 0) ?_
    refine zzv (.bool (decide (z.id > y.id))) ?_
    refine zzv (.bool (decide (z.id > y.id))) ?_
    refine zzv (.bool (decide (z.id > y.id))) ?_
    refine zzv (.bool (decide (z.id > y.id))) ?_; clear ha; intro a ha
    refine zn4 ?_
    refine zv (.bool (decide (z.id > y.id))) ha ?_
    refine zzv (.bool (decide (z.id > y.id))) ?_; clear ha; intro a ha
    rcases Bool.eq_false_or_eq_true (decide (z.id > y.id)) with hb | hb
    ·
     rw [hb] at ha; replace hb : (z.id > y.id) := of_decide_eq_true hb
     have h3 := hb
     refine zw (.agg #[.int .i64 y.id, .int .i64 y.wall, .int .i64 y.logic, .slice y.A y.l.length y.c]) ha (zln 3 0) ?_
     refine zzw (.agg #[.int .i64 z.id, .int .i64 z.wall, .int .i64 z.logic, .slice z.A z.l.length z.c]) (zln 0 0) ?_; clear ha; intro a ha
     refine zzc ha (touches_any W _ w y z (told_knows (fun w s => hd w s.tail.tail.tail.tail) hym) (told_knows (fun w s => hd w s.tail.tail.tail.tail) hzm) (told_bl hB hym) (told_bl hB hzm) s) ?_
     rintro _ w ⟨rfl, s⟩
     refine ⟨_, rfl, ?_⟩; clear ha; intro a ha
     refine zv (.bool (touchL (y.l.map (·.t)) (z.l.map (·.t)))) ha ?_; clear ha; intro a ha
     refine zn2 ?_
     refine zzh (touchL (y.l.map (·.t)) (z.l.map (·.t))) ha ?_ ?_ <;> intro hb
     ·
      rw [hb] at ha; skip
      have hyes : behT y z = true := by unfold behT; rw [decide_eq_false h1, decide_eq_true h2, decide_eq_true h3, hb]; rfl
      have hit := late_hit hp.2.1 hp.2.2 hx (show badL (knF ds) told x = true by unfold badL; rw [hkn, hk1_]; exact List.any_eq_true.2 ⟨z, List.mem_of_getElem? hz, hyes⟩)
      refine zn1 ?_
      refine zv (.int .i64 ((i : Nat) : Int)) ha ?_
      refine zzv (.int .i64 ((i : Nat) : Int)) ?_; clear ha; intro a ha
      refine zn2 ?_
      refine wp_ret ?_
      refine block_ret ?_
      refine then_ret ?_
      refine then_ret ?_
      refine block_ret ?_
      refine block_ret ?_
      refine then_ret ?_
      refine then_ret ?_
      refine block_ret ?_
      refine then_ret ?_
      refine zzr (v := .int .i64 ((i : Nat) : Int)) ha ?_
      replace s := s.tail.tail.tail.tail
      replace s : St W (L) w := s
      exact ⟨by rw [hit]; rfl, s⟩
     rw [hb] at ha; skip
     have hno : behT y z = false := by unfold behT; rw [hb, Bool.and_false]
     refine wp_skip ?_
     refine block_normal ?_
     refine then_normal ?_
     refine wp_region_lit ?_
     refine zw (.int .i64 ((k + 1 : Nat) : Int)) ha zar ?_
     refine zzv (.int .i64 ((k + 1 : Nat) : Int)) ?_; clear ha; intro a ha
     refine zn2 ?_
     replace s := ((s.at_ (j := 3) rfl).at_ (j := 3) rfl).at_ (j := 3) rfl
     replace s := s.k3_1
     exact ⟨k + 1, (show told.length - (k + 1) < told.length - k by omega), (Has.cons ha (by kernel_rfl) (by kernel_rfl) (Has.cons ha (by kernel_rfl) (by kernel_rfl) (Has.cons ha (by kernel_rfl) (by kernel_rfl) (Has.cons ha (by kernel_rfl) (by kernel_rfl) (Has.cons ha (by kernel_rfl) (by kernel_rfl) (Has.cons ha (by kernel_rfl) (by kernel_rfl) (Has.cons ha (by kernel_rfl) (by kernel_rfl) (Has.cons ha (by kernel_rfl) (by kernel_rfl) (Has.cons ha (by kernel_rfl) (by kernel_rfl) (Has.cons ha (by kernel_rfl) (by kernel_rfl) (Has.cons ha (by kernel_rfl) (by kernel_rfl) (Has.nil ha)))))))))))), s, (show k + 1 ≤ told.length by omega), by rw [take_snoc hz, List.any_append, hp2.2, Bool.false_or]; simp only [List.any_cons, List.any_nil, Bool.or_false]; exact hno⟩
    rw [hb] at ha; replace hb : ¬ (z.id > y.id) := of_decide_eq_false hb
    have hno : behT y z = false := by unfold behT; rw [decide_eq_false h1, decide_eq_true h2, decide_eq_false hb]; rfl
    refine zp ha ?_
    iterate 2 refine zzp ?_
    refine zzv (.bool false) ?_; clear ha; intro a ha
    refine zn2 ?_
    refine wp_false ha rfl (by kernel_rfl) ?_
    refine wp_skip ?_
    refine block_normal ?_
    refine then_normal ?_
    refine wp_region_lit ?_
    refine zw (.int .i64 ((k + 1 : Nat) : Int)) ha zar ?_
    refine zzv (.int .i64 ((k + 1 : Nat) : Int)) ?_; clear ha; intro a ha
    refine zn2 ?_
    replace s := ((s.at_ (j := 3) rfl).at_ (j := 3) rfl).at_ (j := 3) rfl
    replace s := s.k3_1
    exact ⟨k + 1, (show told.length - (k + 1) < told.length - k by omega), (Has.cons ha (by kernel_rfl) (by kernel_rfl) (Has.cons ha (by kernel_rfl) (by kernel_rfl) (Has.cons ha (by kernel_rfl) (by kernel_rfl) (Has.cons ha (by kernel_rfl) (by kernel_rfl) (Has.cons ha (by kernel_rfl) (by kernel_rfl) (Has.cons ha (by kernel_rfl) (by kernel_rfl) (Has.cons ha (by kernel_rfl) (by kernel_rfl) (Has.cons ha (by kernel_rfl) (by kernel_rfl) (Has.cons ha (by kernel_rfl) (by kernel_rfl) (Has.cons ha (by kernel_rfl) (by kernel_rfl) (Has.cons ha (by kernel_rfl) (by kernel_rfl) (Has.nil ha)))))))))))), s, (show k + 1 ≤ told.length by omega), by rw [take_snoc hz, List.any_append, hp2.2, Bool.false_or]; simp only [List.any_cons, List.any_nil, Bool.or_false]; exact hno⟩
   rw [hb] at ha; replace hb : ¬ ((y.wall, y.logic) = (z.wall, z.logic)) := of_decide_eq_false hb
   have hno : behT y z = false := by unfold behT; rw [decide_eq_false h1, decide_eq_false hb]; rfl
   refine zp ha ?_
   iterate 4 refine zzp ?_
   refine zzv (.bool false) ?_
   refine zzv (.bool false) ?_
   refine zzv (.bool false) ?_; clear ha; intro a ha
   refine zn4 ?_
   refine zv (.bool false) ha ?_
   refine zzv (.bool false) ?_
   iterate 3 refine zzp ?_
   refine zzv (.bool false) ?_; clear ha; intro a ha
   refine zn2 ?_
   refine wp_false ha rfl (by kernel_rfl) ?_
   refine wp_skip ?_
   refine block_normal ?_
   refine then_normal ?_
   refine wp_region_lit ?_
   refine zw (.int .i64 ((k + 1 : Nat) : Int)) ha zar ?_
   refine zzv (.int .i64 ((k + 1 : Nat) : Int)) ?_; clear ha; intro a ha
   refine zn2 ?_
   replace s := ((s.at_ (j := 3) rfl).at_ (j := 3) rfl).at_ (j := 3) rfl
   replace s := s.k3_1
   exact ⟨k + 1, (show told.length - (k + 1) < told.length - k by omega), (Has.cons ha (by kernel_rfl) (by kernel_rfl) (Has.cons ha (by kernel_rfl) (by kernel_rfl) (Has.cons ha (by kernel_rfl) (by kernel_rfl) (Has.cons ha (by kernel_rfl) (by kernel_rfl) (Has.cons ha (by kernel_rfl) (by kernel_rfl) (Has.cons ha (by kernel_rfl) (by kernel_rfl) (Has.cons ha (by kernel_rfl) (by kernel_rfl) (Has.cons ha (by kernel_rfl) (by kernel_rfl) (Has.cons ha (by kernel_rfl) (by kernel_rfl) (Has.cons ha (by kernel_rfl) (by kernel_rfl) (Has.cons ha (by kernel_rfl) (by kernel_rfl) (Has.nil ha)))))))))))), s, (show k + 1 ≤ told.length by omega), by rw [take_snoc hz, List.any_append, hp2.2, Bool.false_or]; simp only [List.any_cons, List.any_nil, Bool.or_false]; exact hno⟩
  rw [hb] at ha; replace hb : ¬ (((k : Nat) : Int) < ((told.length : Nat) : Int)) := of_decide_eq_false hb
  have hp2 := hp
  replace hp := hp1
  have hnb : badL (knF ds) told x = false := by have h2 := hp2.2; rw [List.take_of_length_le (by omega)] at h2; unfold badL; rw [hkn]; simp only [h2, Bool.and_false]
  refine wp_exit ?_
  refine then_exit ?_
  refine then_exit ?_
  refine block_hit ?_
  refine block_normal ?_
  refine then_normal ?_
  refine wp_region_lit ?_
  refine zw (.int .i64 ((i + 1 : Nat) : Int)) ha zar ?_
  refine zzv (.int .i64 ((i + 1 : Nat) : Int)) ?_; clear ha; intro a ha
  refine zn2 ?_
  replace s := s.k2_1
  have htl : told = told ++ tolds (knF ds) x := by unfold tolds; rw [if_neg (by rw [hk3_]; simp), List.append_nil]
  have hst := late_step hp.2.1 hp.2.2 hx htl hnb
  exact ⟨(i + 1, A1, c1, told), (show l.length - (i + 1) < l.length - i by omega), (Has.cons ha (by kernel_rfl) (by kernel_rfl) (Has.cons ha (by kernel_rfl) (by kernel_rfl) (Has.cons ha (by kernel_rfl) (by kernel_rfl) (Has.cons ha (by kernel_rfl) (by kernel_rfl) (Has.cons ha (by kernel_rfl) (by kernel_rfl) (Has.cons ha (by kernel_rfl) (by kernel_rfl) (Has.nil ha))))))), s, (show i + 1 ≤ l.length by omega), hst.1, hst.2⟩
 rw [hb] at ha; replace hb : ¬ (((i : Nat) : Int) < ((l.length : Nat) : Int)) := of_decide_eq_false hb
 refine wp_exit ?_
 refine then_exit ?_
 refine then_exit ?_
 refine block_hit ?_
 refine then_normal ?_
 refine zn1 ?_
 refine zv (.int .i64 (-1)) ha ?_; clear ha; intro a ha
 refine zn2 ?_
 refine wp_ret ?_
 refine zzr (v := .int .i64 (-1)) ha ?_
 replace s := s.tail.tail
 replace s : St W (L) w := s
 refine ⟨?_, s⟩
 have h2 := hp.2.2
 rw [List.take_of_length_le (by omega)] at h2
 rw [h2]; rfl

end Go.Proofs.YtfcbjcohepkkfaaGreat.B
