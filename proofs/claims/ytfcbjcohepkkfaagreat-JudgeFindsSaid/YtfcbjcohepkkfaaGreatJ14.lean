import Derived.Test.YtfcbjcohepkkfaaGreatJ13
import Derived.Test.YtfcbjcohepkkfaaGreatSepY
namespace Go.Proofs.YtfcbjcohepkkfaaGreat.B
open Go.RowKit Go.Maps Go.Sort Go.Shelf Go.Proofs.YtfcbjcohepkkfaaGreat.Sep Go.Proofs.YtfcbjcohepkkfaaGreat.P
set_option linter.unusedVariables false
set_option linter.unusedSimpArgs false
/-! ### what the statements are made of -/
theorem reads_drop {w : World} {k n c l : Nat} {A : Option Addr} {cs : List Value} (h : Reads w k A n cs) (hl : l ≤ n) (hn : n ≤ c) : Reads w k (slA A l c k) (n - l) (cs.drop (l * k)) := by
 have := h.sub hl (Nat.le_refl n) hn
 rwa [List.extract_eq_take_drop, List.take_of_length_le (by rw [List.length_drop, h.1]; exact Nat.le_refl _)] at this
theorem flatMap_drop {α : Type} {f : α → List Value} {n : Nat} (hf : ∀ x, (f x).length = n) (l : List α) (k : Nat) (hk : k ≤ l.length) : (l.flatMap f).drop (k * n) = (l.drop k).flatMap f := by
 have e : l.flatMap f = (l.take k).flatMap f ++ (l.drop k).flatMap f := by rw [← List.flatMap_append, List.take_append_drop]
 have l1 : ((l.take k).flatMap f).length = k * n := by rw [flatMap_len hf, List.length_take, Nat.min_eq_left hk]
 rw [e, ← l1, List.drop_left]
theorem flatMap_take {α : Type} {f : α → List Value} {n : Nat} (hf : ∀ x, (f x).length = n) (l : List α) (k : Nat) (hk : k ≤ l.length) : (l.flatMap f).take (k * n) = (l.take k).flatMap f := by
 have e : l.flatMap f = (l.take k).flatMap f ++ (l.drop k).flatMap f := by rw [← List.flatMap_append, List.take_append_drop]
 have l1 : ((l.take k).flatMap f).length = k * n := by rw [flatMap_len hf, List.length_take, Nat.min_eq_left hk]
 rw [e, ← l1, List.take_left]

def evE (kind node id : Int) : Ev := ⟨0, kind, node, id, 0, 0, [], [], [], [], false, [], none, 0, 0, 0, 0, 0⟩
def askE (id op : Int) (key : K) : Ev := ⟨0, 2, 1, id, 0, op, key, [], [], [], false, [], none, 0, 0, 0, 0, 0⟩
def doneE (id op : Int) (key val : K) : Ev := ⟨0, 3, 1, id, 0, op, key, val, [], [], op == 1, [], none, 0, 0, 0, 0, 0⟩
def comE (id wall : Int) : Ev := ⟨0, 3, 1, id, 0, 6, [], [], [], [], false, [], none, 0, wall, 0, 0, 0⟩
def goodL : List Ev := [evE 1 1 1, askE 1 3 [97], doneE 1 3 [97] [120], askE 1 6 [], comE 1 10, evE 1 1 2, askE 2 1 [97], doneE 2 1 [97] [120], askE 2 6 [], comE 2 20]
def okE (x : Ev) : Bool := x.rows.isEmpty && x.A.isNone && decide (-9223372036854775808 ≤ x.id) && decide (x.id ≤ 9223372036854775807) && decide (x.key.length ≤ 140737488351232)
theorem okE_iff {x : Ev} (h : okE x = true) : x.rows = [] ∧ x.A = none ∧ (-9223372036854775808 ≤ x.id ∧ x.id ≤ 9223372036854775807) ∧ x.key.length ≤ 140737488351232 := by
 simp only [okE, Bool.and_eq_true, decide_eq_true_eq, List.isEmpty_iff, Option.isNone_iff_eq_none] at h
 exact ⟨h.1.1.1.1, h.1.1.1.2, ⟨h.1.1.2, h.1.2⟩, h.2⟩
theorem bare_in {L : List Chunk} {A : Option Addr} {l : List Ev} (h : Knows L fun w => Reads w 16 A l.length (evs l)) (hok : l.all okE = true) : Knows L (EvsIn A l) := fun w s => ⟨h w s, fun x hx => by
 obtain ⟨h1, h2, _⟩ := okE_iff (List.all_eq_true.1 hok x hx)
 rw [h1, h2]; exact ⟨rfl, by simp, by simp⟩⟩
theorem find_lit (W : World) (hW : W.drawn = 0) (L : List Chunk) (w : World) (A : Option Addr) (ca : Nat) (l : List Ev) (hr : Knows L fun w => Reads w 16 A l.length (evs l)) (hok : l.all okE = true) (hn : l.length ≤ 5000) (well : Bool) (r b : Nat)
  (h : ∀ o, (code (tnsP (ordL (txsL l) l)) = 0 → well = true → findL (startL l) l 0 = none → IsOrd (tnsP (ordL (txsL l) l)) o) → resF l well o = (r, b)) (s : St W L w) :
  Calls Tryz.prog 5 #[.slice A l.length ca, .bool well] w fun e w' => e = .returned (.tuple #[.int .i64 ((r : Nat) : Int), .int .i64 ((b : Nat) : Int), .int .i64 0]) ∧ St W L w' := by
 refine (find_any W hW L w A ca l (bare_in hr hok) hn well (fun _ x hx => (okE_iff (List.all_eq_true.1 hok x hx)).2.2.1) (fun _ x hx => ?_) s).mono ?_
 ·
  have h1 := okE_iff (List.all_eq_true.1 hok x hx)
  exact ⟨by rw [h1.1]; simp, h1.2.2.2⟩
 rintro e w' ⟨o, ho, rfl, s⟩
 rw [h o ho]
 exact ⟨rfl, s⟩
theorem putAt_evs {l : List Ev} {i : Nat} (hi : i < l.length) (x : Ev) : putAt (evs l) (i * 16) (evv x) = evs (l.set i x) := by
 have e : l = l.take i ++ (l[i] :: l.drop (i + 1)) := by rw [← List.drop_eq_getElem_cons hi, List.take_append_drop]
 have h0 : (evs (l.take i)).length = i * 16 := by rw [evs_len, List.length_take, Nat.min_eq_left (by omega)]
 have h1 : evs l = evs (l.take i) ++ (evv l[i] ++ evs (l.drop (i + 1))) := (congrArg evs e).trans (by simp only [evs, List.flatMap_append, List.flatMap_cons])
 have hv : (evv x).length = 16 := rfl
 have hv2 : (evv l[i]).length = 16 := rfl
 rw [putAt_eq _ _ _ (by rw [evs_len, hv]; omega), List.set_eq_take_append_cons_drop, if_pos hi, h1, hv]
 rw [List.take_append_of_le_length (by omega), ← h0, List.take_length, List.drop_append, List.drop_of_length_le (by omega), List.nil_append, show (evs (l.take i)).length + 16 - (evs (l.take i)).length = 16 by omega, ← hv2, List.drop_left]
 simp [evs]
theorem reads_evs_drop {w : World} {c l : Nat} {A : Option Addr} {es : List Ev} (h : Reads w 16 A es.length (evs es)) (hl : l ≤ es.length) (hn : es.length ≤ c) : Reads w 16 (slA A l c 16) (es.drop l).length (evs (es.drop l)) := by
 have := reads_drop h hl hn
 rw [List.length_drop]
 unfold evs at this ⊢
 rwa [flatMap_drop (f := evv) (n := 16) (fun x => rfl) es l hl] at this
theorem reads_evs_take {w : World} {h : Nat} {A : Option Addr} {es : List Ev} (hr : Reads w 16 A es.length (evs es)) (hh : h ≤ es.length) : Reads w 16 A (es.take h).length (evs (es.take h)) := by
 have := Reads.take hr hh
 rw [List.length_take, Nat.min_eq_left hh]
 unfold evs at this ⊢
 have e : (es.flatMap evv).take (h * 16) = (es.take h).flatMap evv := flatMap_take (f := evv) (n := 16) (fun x => rfl) es h hh
 rwa [e] at this
theorem Own.of_blk {W w : World} {L : List Chunk} {g n k : Nat} {cs : List Value} {e : TypeId} (hl : cs.length = n * k) (hn : n ≤ 1000000) (s : St W (.blk g cs e :: L) w) : St W (Own e k (some ⟨g, 0, none⟩) n n cs :: L) w :=
 Own.close hl (Nat.le_refl _) (by simp only [maxLen]; omega) (by omega) (fun j u h => by rw [Nat.zero_add]; exact h) s

theorem ev_any (W : World) (L : List Chunk) (w : World) (pa pb pc : Int) (s : St W L w) :
  Calls Tryz.prog 30 #[.int .i64 pa, .int .i64 pb, .int .i64 pc] w fun e w' => e = .returned (.agg #[.int .i64 0, .int .i64 pa, .int .i64 pb, .int .i64 pc, .int .i64 0, .int .i64 0, .string (str []), .string (str []), .string (str []), .string (str []), .bool false, .slice none 0 0, .int .i64 0, .int .i64 0, .int .i64 0, .int .i64 0]) ∧ St W L w' := by
 refine enter_args (l := [.int .i64 pa, .int .i64 pb, .int .i64 pc]) Tryz.func30 rfl rfl (Nat.le_of_ble_eq_true rfl) ?_
 intro a ha; replace ha : Has a 11 [(0, .int .i64 pa), (1, .int .i64 pb), (2, .int .i64 pc)] := ha
 refine zn1 ?_
 refine zze ha (ex_alloc (evv ⟨0, 0, 0, 0, 0, 0, [], [], [], [], false, [], none, 0, 0, 0, 0, 0⟩) s rfl (Tryz.zeroValue37 _) (by kernel_rfl)) ?_
 clear ha; rintro _ w a ⟨g1, rfl, s⟩ ha
 refine zn4 ?_
 refine zv (.int .i64 pa) ha ?_
 refine zzv (.int .i64 pb) ?_
 refine zzv (.int .i64 pc) ?_
 refine zzv (.agg #[.int .i64 0, .int .i64 pa, .int .i64 pb, .int .i64 pc, .int .i64 0, .int .i64 0, .string (str []), .string (str []), .string (str []), .string (str []), .bool false, .slice none 0 0, .int .i64 0, .int .i64 0, .int .i64 0, .int .i64 0]) ?_; clear ha; intro a ha
 refine zzd ha (ex_store (of_ := 0) 0 [.int .i64 0, .int .i64 pa, .int .i64 pb, .int .i64 pc, .int .i64 0, .int .i64 0, .string (str []), .string (str []), .string (str []), .string (str []), .bool false, .slice none 0 0, .int .i64 0, .int .i64 0, .int .i64 0, .int .i64 0] s rfl rfl (by kernel_rfl) (by kernel_rfl) (Tryz.sizeOf37 _) rfl (by simp [Value.oneCell']) (Nat.le_of_ble_eq_true rfl)) ?_
 clear ha; rintro w a s ha
 dsimp only [List.set, putAt] at s
 refine zn2 ?_
 refine wp_ret ?_
 refine ret_with (v := .agg #[.int .i64 0, .int .i64 pa, .int .i64 pb, .int .i64 pc, .int .i64 0, .int .i64 0, .string (str []), .string (str []), .string (str []), .string (str []), .bool false, .slice none 0 0, .int .i64 0, .int .i64 0, .int .i64 0, .int .i64 0]) ha (results_1 rfl ha (res_cellN (s.blkIs 0 rfl) (by kernel_rfl) (by kernel_rfl) Tryz.isAgg37 Tryz.sizeOf37 rfl)) ?_
 replace s := s.tail
 replace s : St W (L) w := s
 exact ⟨rfl, s⟩

theorem ask_any (W : World) (L : List Chunk) (w : World) (pa pb : Int) (k : K) (s : St W L w) :
  Calls Tryz.prog 31 #[.int .i64 pa, .int .i64 pb, .string (str k)] w fun e w' => e = .returned (.agg #[.int .i64 0, .int .i64 2, .int .i64 1, .int .i64 pa, .int .i64 0, .int .i64 pb, .string (str k), .string (str []), .string (str []), .string (str []), .bool false, .slice none 0 0, .int .i64 0, .int .i64 0, .int .i64 0, .int .i64 0]) ∧ St W L w' := by
 refine enter_args (l := [.int .i64 pa, .int .i64 pb, .string (str k)]) Tryz.func31 rfl rfl (Nat.le_of_ble_eq_true rfl) ?_
 intro a ha; replace ha : Has a 11 [(0, .int .i64 pa), (1, .int .i64 pb), (2, .string (str k))] := ha
 refine zn1 ?_
 refine zze ha (ex_alloc (evv ⟨0, 0, 0, 0, 0, 0, [], [], [], [], false, [], none, 0, 0, 0, 0, 0⟩) s rfl (Tryz.zeroValue37 _) (by kernel_rfl)) ?_
 clear ha; rintro _ w a ⟨g1, rfl, s⟩ ha
 refine zn4 ?_
 refine zv (.int .i64 pa) ha ?_
 refine zzv (.int .i64 pb) ?_
 refine zzv (.string (str k)) ?_
 refine zzv (.agg #[.int .i64 0, .int .i64 2, .int .i64 1, .int .i64 pa, .int .i64 0, .int .i64 pb, .string (str k), .string (str []), .string (str []), .string (str []), .bool false, .slice none 0 0, .int .i64 0, .int .i64 0, .int .i64 0, .int .i64 0]) ?_; clear ha; intro a ha
 refine zzd ha (ex_store (of_ := 0) 0 [.int .i64 0, .int .i64 2, .int .i64 1, .int .i64 pa, .int .i64 0, .int .i64 pb, .string (str k), .string (str []), .string (str []), .string (str []), .bool false, .slice none 0 0, .int .i64 0, .int .i64 0, .int .i64 0, .int .i64 0] s rfl rfl (by kernel_rfl) (by kernel_rfl) (Tryz.sizeOf37 _) rfl (by simp [Value.oneCell']) (Nat.le_of_ble_eq_true rfl)) ?_
 clear ha; rintro w a s ha
 dsimp only [List.set, putAt] at s
 refine zn2 ?_
 refine wp_ret ?_
 refine ret_with (v := .agg #[.int .i64 0, .int .i64 2, .int .i64 1, .int .i64 pa, .int .i64 0, .int .i64 pb, .string (str k), .string (str []), .string (str []), .string (str []), .bool false, .slice none 0 0, .int .i64 0, .int .i64 0, .int .i64 0, .int .i64 0]) ha (results_1 rfl ha (res_cellN (s.blkIs 0 rfl) (by kernel_rfl) (by kernel_rfl) Tryz.isAgg37 Tryz.sizeOf37 rfl)) ?_
 replace s := s.tail
 replace s : St W (L) w := s
 exact ⟨rfl, s⟩

theorem done_any (W : World) (L : List Chunk) (w : World) (pa pb : Int) (k v : K) (s : St W L w) :
  Calls Tryz.prog 10 #[.int .i64 pa, .int .i64 pb, .string (str k), .string (str v)] w fun e w' => e = .returned (.agg #[.int .i64 0, .int .i64 3, .int .i64 1, .int .i64 pa, .int .i64 0, .int .i64 pb, .string (str k), .string (str v), .string (str []), .string (str []), .bool (pb == (1 : Int)), .slice none 0 0, .int .i64 0, .int .i64 0, .int .i64 0, .int .i64 0]) ∧ St W L w' := by
 refine enter_args (l := [.int .i64 pa, .int .i64 pb, .string (str k), .string (str v)]) Tryz.func10 rfl rfl (Nat.le_of_ble_eq_true rfl) ?_
 intro a ha; replace ha : Has a 16 [(0, .int .i64 pa), (1, .int .i64 pb), (2, .string (str k)), (3, .string (str v))] := ha
 refine zn1 ?_
 refine zze ha (ex_alloc (evv ⟨0, 0, 0, 0, 0, 0, [], [], [], [], false, [], none, 0, 0, 0, 0, 0⟩) s rfl (Tryz.zeroValue37 _) (by kernel_rfl)) ?_
 clear ha; rintro _ w a ⟨g1, rfl, s⟩ ha
 refine zn4 ?_
 refine zv (.int .i64 pa) ha ?_
 refine zzv (.int .i64 pb) ?_
 refine zzv (.string (str k)) ?_
 refine zzv (.string (str v)) ?_
 refine zzv (.int .i64 pb) ?_
 refine zzv (.bool (pb == (1 : Int))) ?_
 refine zzv (.agg #[.int .i64 0, .int .i64 3, .int .i64 1, .int .i64 pa, .int .i64 0, .int .i64 pb, .string (str k), .string (str v), .string (str []), .string (str []), .bool (pb == (1 : Int)), .slice none 0 0, .int .i64 0, .int .i64 0, .int .i64 0, .int .i64 0]) ?_; clear ha; intro a ha
 refine zzd ha (ex_store (of_ := 0) 0 [.int .i64 0, .int .i64 3, .int .i64 1, .int .i64 pa, .int .i64 0, .int .i64 pb, .string (str k), .string (str v), .string (str []), .string (str []), .bool (pb == (1 : Int)), .slice none 0 0, .int .i64 0, .int .i64 0, .int .i64 0, .int .i64 0] s rfl rfl (by kernel_rfl) (by kernel_rfl) (Tryz.sizeOf37 _) rfl (by simp [Value.oneCell']) (Nat.le_of_ble_eq_true rfl)) ?_
 clear ha; rintro w a s ha
 dsimp only [List.set, putAt] at s
 refine zn2 ?_
 refine wp_ret ?_
 refine ret_with (v := .agg #[.int .i64 0, .int .i64 3, .int .i64 1, .int .i64 pa, .int .i64 0, .int .i64 pb, .string (str k), .string (str v), .string (str []), .string (str []), .bool (pb == (1 : Int)), .slice none 0 0, .int .i64 0, .int .i64 0, .int .i64 0, .int .i64 0]) ha (results_1 rfl ha (res_cellN (s.blkIs 0 rfl) (by kernel_rfl) (by kernel_rfl) Tryz.isAgg37 Tryz.sizeOf37 rfl)) ?_
 replace s := s.tail
 replace s : St W (L) w := s
 exact ⟨rfl, s⟩

theorem coms_any (W : World) (L : List Chunk) (w : World) (pa pb : Int) (s : St W L w) :
  Calls Tryz.prog 32 #[.int .i64 pa, .int .i64 pb] w fun e w' => e = .returned (.agg #[.int .i64 0, .int .i64 3, .int .i64 1, .int .i64 pa, .int .i64 0, .int .i64 6, .string (str []), .string (str []), .string (str []), .string (str []), .bool false, .slice none 0 0, .int .i64 pb, .int .i64 0, .int .i64 0, .int .i64 0]) ∧ St W L w' := by
 refine enter_args (l := [.int .i64 pa, .int .i64 pb]) Tryz.func32 rfl rfl (Nat.le_of_ble_eq_true rfl) ?_
 intro a ha; replace ha : Has a 9 [(0, .int .i64 pa), (1, .int .i64 pb)] := ha
 refine zn1 ?_
 refine zze ha (ex_alloc (evv ⟨0, 0, 0, 0, 0, 0, [], [], [], [], false, [], none, 0, 0, 0, 0, 0⟩) s rfl (Tryz.zeroValue37 _) (by kernel_rfl)) ?_
 clear ha; rintro _ w a ⟨g1, rfl, s⟩ ha
 refine zn4 ?_
 refine zv (.int .i64 pa) ha ?_
 refine zzv (.int .i64 pb) ?_
 refine zzv (.agg #[.int .i64 pb, .int .i64 0]) ?_
 refine zzv (.agg #[.int .i64 0, .int .i64 3, .int .i64 1, .int .i64 pa, .int .i64 0, .int .i64 6, .string (str []), .string (str []), .string (str []), .string (str []), .bool false, .slice none 0 0, .int .i64 pb, .int .i64 0, .int .i64 0, .int .i64 0]) ?_; clear ha; intro a ha
 refine zzd ha (ex_store (of_ := 0) 0 [.int .i64 0, .int .i64 3, .int .i64 1, .int .i64 pa, .int .i64 0, .int .i64 6, .string (str []), .string (str []), .string (str []), .string (str []), .bool false, .slice none 0 0, .int .i64 pb, .int .i64 0, .int .i64 0, .int .i64 0] s rfl rfl (by kernel_rfl) (by kernel_rfl) (Tryz.sizeOf37 _) rfl (by simp [Value.oneCell']) (Nat.le_of_ble_eq_true rfl)) ?_
 clear ha; rintro w a s ha
 dsimp only [List.set, putAt] at s
 refine zn2 ?_
 refine wp_ret ?_
 refine ret_with (v := .agg #[.int .i64 0, .int .i64 3, .int .i64 1, .int .i64 pa, .int .i64 0, .int .i64 6, .string (str []), .string (str []), .string (str []), .string (str []), .bool false, .slice none 0 0, .int .i64 pb, .int .i64 0, .int .i64 0, .int .i64 0]) ha (results_1 rfl ha (res_cellN (s.blkIs 0 rfl) (by kernel_rfl) (by kernel_rfl) Tryz.isAgg37 Tryz.sizeOf37 rfl)) ?_
 replace s := s.tail
 replace s : St W (L) w := s
 exact ⟨rfl, s⟩

theorem with_any (W : World) (L : List Chunk) (w : World) (A : Option Addr) (ca : Nat) (l : List Ev) (hr : Knows L fun w => Reads w 16 A l.length (evs l)) (hn : l.length ≤ 5000) (i : Nat) (hil : i < l.length) (x : Ev) (s : St W L w) :
  Calls Tryz.prog 9 #[.slice A l.length ca, .int .i64 ((i : Nat) : Int), .agg (evv x).toArray] w fun e w' => ∃ A2 c2, e = .returned (.slice A2 l.length c2) ∧ St W (Own 37 16 A2 l.length c2 (evs (l.set i x)) :: L) w' := by
 refine enter_args (l := [.slice A l.length ca, .int .i64 ((i : Nat) : Int), .agg (evv x).toArray]) Tryz.func9 rfl rfl (Nat.le_of_ble_eq_true rfl) ?_
 intro a ha; replace ha : Has a 15 [(0, .slice A l.length ca), (1, .int .i64 ((i : Nat) : Int)), (2, .agg (evv x).toArray)] := ha
 refine zn1 ?_
 refine zze ha (ex_box (evv x) s rfl (by kernel_rfl)) ?_
 clear ha; rintro _ w a ⟨g1, rfl, s⟩ ha
 refine zv (.slice none 0 0) ha ?_; clear ha; intro a ha
 refine zn4 ?_
 refine zv (.slice A l.length ca) ha ?_; clear ha; intro a ha
 replace s := Own.none_ (e := 37) (k := 16) none s
 refine zze ha (ex_append (m := l.length) (d' := ca) elt22 (by decide) 0 (evs l) s rfl (by kernel_rfl) (by kernel_rfl) rfl (hr _ s.sat.tail.tail) (evs_one l) (by simp only [maxLen]; omega) (by omega)) ?_
 clear ha; rintro _ w a ⟨A2, c3, rfl, hA_, s⟩ ha
 rw [List.nil_append, Nat.zero_add] at s
 refine zv (.slice A2 (0 + l.length) c3) ha ?_; clear ha; intro a ha
 refine zn2 ?_
 refine wp_seq ?_
 rw [Nat.zero_add] at ha
 obtain ⟨a1, hA1⟩ := Reads.addr (Own.reads (s.at_ (j := 0) rfl).1) (by omega)
 subst hA1
 refine wp_region_lit ?_
 refine zv (.slice (some a1) l.length c3) ha ?_
 refine zzv (.int .i64 ((i : Nat) : Int)) ?_
 refine zzw (.agg (evv x).toArray) (zln 1 0) ?_
 refine zzw (.pointer (some (a1.add (i * 16)))) (run_indexAddr' (kd := .i64) (i := ((i : Nat) : Int)) (n := l.length) (c := c3) i rfl Tryz.underlying22 Tryz.sizeOf37 (by kernel_rfl) (by kernel_rfl) rfl (by first | assumption | omega) _) ?_; clear ha; intro a ha
 refine zzd ha (ex_store_own (i := i * 16) 0 (evv x) s (putAt_evs hil x) rfl rfl (by kernel_rfl) (by kernel_rfl) (Tryz.sizeOf37 _) rfl (by simp [evv, txv, Value.oneCell']) (by first | (simp; done) | (simp [evv]; done)) (by rw [evs_len]; first | (simp only [List.length_cons, List.length_nil]; omega) | (show i * 16 + 16 ≤ _; omega))) ?_
 clear ha; rintro w a s ha
 dsimp only [List.set, putAt] at s
 refine zn4 ?_
 refine zv (.slice (some a1) l.length c3) ha ?_
 refine zzv (.slice (some a1) l.length c3) ?_; clear ha; intro a ha
 refine zn2 ?_
 refine wp_ret ?_
 refine zzr (v := .slice (some a1) l.length c3) ha ?_
 replace s := s.k1_1
 exact ⟨_, _, rfl, s⟩

theorem finds_true (W : World) (hW : W.drawn = 0) (L : List Chunk) (w : World) (A : Option Addr) (ca : Nat) (l : List Ev) (hr : Knows L fun w => Reads w 16 A l.length (evs l)) (hok : l.all okE = true) (hn : l.length ≤ 5000) (well : Bool) (r b : Nat) (h : ∀ o, (code (tnsP (ordL (txsL l) l)) = 0 → well = true → findL (startL l) l 0 = none → IsOrd (tnsP (ordL (txsL l) l)) o) → resF l well o = (r, b)) (s : St W L w) :
  Calls Tryz.prog 8 #[.slice A l.length ca, .bool well, .int .i64 ((r : Nat) : Int), .int .i64 ((b : Nat) : Int)] w fun e w' => e = .returned (.bool true) ∧ St W L w' := by
 refine enter_args (l := [.slice A l.length ca, .bool well, .int .i64 ((r : Nat) : Int), .int .i64 ((b : Nat) : Int)]) Tryz.func8 rfl rfl (Nat.le_of_ble_eq_true rfl) ?_
 intro a ha; replace ha : Has a 31 [(0, .slice A l.length ca), (1, .bool well), (2, .int .i64 ((r : Nat) : Int)), (3, .int .i64 ((b : Nat) : Int))] := ha
 refine zn1 ?_
 refine zv (.bool false) ha ?_; clear ha; intro a ha
 refine zn4 ?_
 refine zv (.slice A l.length ca) ha ?_
 refine zzv (.bool well) ?_; clear ha; intro a ha
 refine zzc ha (find_lit W hW _ w A ca l (fun w s => hr w s) hok hn well r b h s) ?_
 rintro _ w ⟨rfl, s⟩
 refine ⟨_, rfl, ?_⟩; clear ha; intro a ha
 refine zv (.tuple #[.int .i64 ((r : Nat) : Int), .int .i64 ((b : Nat) : Int), .int .i64 0]) ha ?_
 refine zzv (.int .i64 ((r : Nat) : Int)) ?_
 refine zzv (.int .i64 ((b : Nat) : Int)) ?_
 refine zzv (.int .i64 0) ?_
 refine zzv (.int .i64 ((r : Nat) : Int)) ?_
 refine zzv (.int .i64 ((b : Nat) : Int)) ?_
 refine zzv (.int .i64 0) ?_; clear ha; intro a ha
 refine zn4 ?_
 refine zv (.int .i64 0) ha ?_
 refine zzv (.bool true) ?_
 refine zzv (.bool true) ?_
 refine zzv (.int .i64 ((r : Nat) : Int)) ?_
 refine zzv (.int .i64 ((r : Nat) : Int)) ?_
 refine zzw (.bool true) (run_known (beq_self_eq_true _) (show (execOp (evalE _) _).run _ _ = .ok (.value (.bool (((r : Nat) : Int) == ((r : Nat) : Int)))) _ from by kernel_rfl)) ?_
 refine zzv (.bool true) ?_
 refine zzv (.bool true) ?_
 refine zzv (.int .i64 ((b : Nat) : Int)) ?_
 refine zzv (.int .i64 ((b : Nat) : Int)) ?_
 refine zzw (.bool true) (run_known (beq_self_eq_true _) (show (execOp (evalE _) _).run _ _ = .ok (.value (.bool (((b : Nat) : Int) == ((b : Nat) : Int)))) _ from by kernel_rfl)) ?_
 refine zzv (.bool true) ?_
 refine zzv (.bool true) ?_; clear ha; intro a ha
 refine zn2 ?_
 refine wp_ret ?_
 refine zzr (v := .bool true) ha ?_
 exact ⟨rfl, s⟩

theorem good_any (W : World) (L : List Chunk) (w : World) (s : St W L w) :
  Calls Tryz.prog 7 #[] w fun e w' => ∃ A, e = .returned (.slice A 10 10) ∧ St W (Own 37 16 A 10 10 (evs goodL) :: L) w' := by
 refine enter_args (l := []) Tryz.func7 rfl rfl (Nat.le_of_ble_eq_true rfl) ?_
 intro a ha; replace ha : Has a 12 [] := ha
 refine zn1 ?_
 refine zv (.slice none 0 0) ha ?_; clear ha; intro a ha
 refine zn4 ?_
 refine zzc ha (ev_any W _ w 1 1 1 s) ?_
 rintro _ w ⟨rfl, s⟩
 refine ⟨_, rfl, ?_⟩; clear ha; intro a ha
 refine zzc ha (ask_any W _ w 1 3 [97] s) ?_
 rintro _ w ⟨rfl, s⟩
 refine ⟨_, rfl, ?_⟩; clear ha; intro a ha
 refine zzc ha (done_any W _ w 1 3 [97] [120] s) ?_
 rintro _ w ⟨rfl, s⟩
 refine ⟨_, rfl, ?_⟩; clear ha; intro a ha
 refine zzc ha (ask_any W _ w 1 6 [] s) ?_
 rintro _ w ⟨rfl, s⟩
 refine ⟨_, rfl, ?_⟩; clear ha; intro a ha
 refine zzc ha (coms_any W _ w 1 10 s) ?_
 rintro _ w ⟨rfl, s⟩
 refine ⟨_, rfl, ?_⟩; clear ha; intro a ha
 refine zzc ha (ev_any W _ w 1 1 2 s) ?_
 rintro _ w ⟨rfl, s⟩
 refine ⟨_, rfl, ?_⟩; clear ha; intro a ha
 refine zzc ha (ask_any W _ w 2 1 [97] s) ?_
 rintro _ w ⟨rfl, s⟩
 refine ⟨_, rfl, ?_⟩; clear ha; intro a ha
 refine zzc ha (done_any W _ w 2 1 [97] [120] s) ?_
 rintro _ w ⟨rfl, s⟩
 refine ⟨_, rfl, ?_⟩; clear ha; intro a ha
 refine zzc ha (ask_any W _ w 2 6 [] s) ?_
 rintro _ w ⟨rfl, s⟩
 refine ⟨_, rfl, ?_⟩; clear ha; intro a ha
 refine zzc ha (coms_any W _ w 2 20 s) ?_
 rintro _ w ⟨rfl, s⟩
 refine ⟨_, rfl, ?_⟩; clear ha; intro a ha
 refine zze ha (ex_buildSlice elt22 _ zs22 (evs [⟨0, 1, 1, 1, 0, 0, [], [], [], [], false, [], none, 0, 0, 0, 0, 0⟩, ⟨0, 2, 1, 1, 0, 3, [97], [], [], [], false, [], none, 0, 0, 0, 0, 0⟩, ⟨0, 3, 1, 1, 0, 3, [97], [120], [], [], false, [], none, 0, 0, 0, 0, 0⟩, ⟨0, 2, 1, 1, 0, 6, [], [], [], [], false, [], none, 0, 0, 0, 0, 0⟩, ⟨0, 3, 1, 1, 0, 6, [], [], [], [], false, [], none, 0, 10, 0, 0, 0⟩, ⟨0, 1, 1, 2, 0, 0, [], [], [], [], false, [], none, 0, 0, 0, 0, 0⟩, ⟨0, 2, 1, 2, 0, 1, [97], [], [], [], false, [], none, 0, 0, 0, 0, 0⟩, ⟨0, 3, 1, 2, 0, 1, [97], [120], [], [], true, [], none, 0, 0, 0, 0, 0⟩, ⟨0, 2, 1, 2, 0, 6, [], [], [], [], false, [], none, 0, 0, 0, 0, 0⟩, ⟨0, 3, 1, 2, 0, 6, [], [], [], [], false, [], none, 0, 20, 0, 0, 0⟩]) s rfl (by kernel_rfl) (by decide)) ?_
 clear ha; rintro _ w a ⟨g1, rfl, s⟩ ha
 refine zv (.slice (some ⟨g1, 0, none⟩) 10 10) ha ?_; clear ha; intro a ha
 refine zn2 ?_
 refine wp_ret ?_
 refine zzr (v := .slice (some ⟨g1, 0, none⟩) 10 10) ha ?_
 rw [show (evs [⟨0, 1, 1, 1, 0, 0, [], [], [], [], false, [], none, 0, 0, 0, 0, 0⟩, ⟨0, 2, 1, 1, 0, 3, [97], [], [], [], false, [], none, 0, 0, 0, 0, 0⟩, ⟨0, 3, 1, 1, 0, 3, [97], [120], [], [], false, [], none, 0, 0, 0, 0, 0⟩, ⟨0, 2, 1, 1, 0, 6, [], [], [], [], false, [], none, 0, 0, 0, 0, 0⟩, ⟨0, 3, 1, 1, 0, 6, [], [], [], [], false, [], none, 0, 10, 0, 0, 0⟩, ⟨0, 1, 1, 2, 0, 0, [], [], [], [], false, [], none, 0, 0, 0, 0, 0⟩, ⟨0, 2, 1, 2, 0, 1, [97], [], [], [], false, [], none, 0, 0, 0, 0, 0⟩, ⟨0, 3, 1, 2, 0, 1, [97], [120], [], [], true, [], none, 0, 0, 0, 0, 0⟩, ⟨0, 2, 1, 2, 0, 6, [], [], [], [], false, [], none, 0, 0, 0, 0, 0⟩, ⟨0, 3, 1, 2, 0, 6, [], [], [], [], false, [], none, 0, 20, 0, 0, 0⟩]) = evs goodL from by kernel_rfl] at s
 exact ⟨_, rfl, Own.of_blk rfl (by omega) s⟩

end Go.Proofs.YtfcbjcohepkkfaaGreat.B
