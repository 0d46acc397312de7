import Derived.Test.YtjdkpebnaohonaaProg
import Derived.Test.YtjdkpebnaohonaaP0
import Derived.Test.YtjdkpebnaohonaaSepK
import Derived.Test.YtjdkpebnaohonaaSepD
import Derived.Test.YtjdkpebnaohonaaLay
import Derived.Shelf.SlIterI.Nil
import Derived.Shelf.SortM.Plain
import Derived.Shelf.SortM.SortNone
namespace Go.Proofs.Ytjdkpebnaohonaa.B
open Go.RowKit Go.Maps Go.Sort Go.Shelf Go.Proofs.Ytjdkpebnaohonaa.Sep Go.Proofs.Ytjdkpebnaohonaa.P
set_option linter.unusedVariables false
set_option linter.unusedSimpArgs false

theorem elt22 : Elt Try.prog 22 37 2 16 := ⟨by kernel_rfl, by kernel_rfl⟩
theorem zs22 : (Try.prog.info? 37).bind (fun i => i.zero.map (·.cells)) = some #[.int .i64 0, .int .i64 0] := by kernel_rfl
theorem elt23 : Elt Try.prog 23 34 2 16 := ⟨by kernel_rfl, by kernel_rfl⟩
theorem zs23 : (Try.prog.info? 34).bind (fun i => i.zero.map (·.cells)) = some #[.int .i64 0, .int .i64 0] := by kernel_rfl
theorem elt25 : Elt Try.prog 25 3 1 8 := ⟨by kernel_rfl, by kernel_rfl⟩
theorem zs25 : (Try.prog.info? 3).bind (fun i => i.zero.map (·.cells)) = some #[.int .i64 0] := by kernel_rfl
theorem elt31 : Elt Try.prog 31 33 2 16 := ⟨by kernel_rfl, by kernel_rfl⟩
theorem zs31 : (Try.prog.info? 33).bind (fun i => i.zero.map (·.cells)) = some #[.int .i64 0, .int .i64 0] := by kernel_rfl
theorem keyed3 : Keyed Try.prog 3 := int_keyed Try.underlying3
theorem key3 {a : Int} (h : -9223372036854775808 ≤ a ∧ a ≤ 9223372036854775807) : keyOf Try.prog 3 (encI a) = some (.int .i64 a) := keyOf_int_mk Try.underlying3 (WalkArith.wf_i64 (by omega))
abbrev ints (l : List Int) : List Value := l.map encI
theorem ints_one (l : List Int) : ∀ u ∈ ints l, u.oneCell' = true := by
  intro u hu
  obtain ⟨x, _, rfl⟩ := List.mem_map.1 hu
  rfl
theorem ints_at {l : List Int} {i : Nat} {x : Int} (h : l[i]? = some x) : (ints l)[i]? = some (.int .i64 x) := by simp [ints, h, encI]
def eg (e : Arc) : List Value := [.int .i64 e.1, .int .i64 e.2]
def egs (l : List Arc) : List Value := l.flatMap eg
theorem egs_at {l : List Arc} {k : Nat} {s : Arc} (h : l[k]? = some s) {j : Nat} (hj : j < 2) : (egs l)[k * 2 + j]? = (eg s)[j]? := by
  unfold egs; rw [List.flatMap_def]
  exact flatten_at (k := 2) (fun r hr => by obtain ⟨d, _, rfl⟩ := List.mem_map.1 hr; rfl) (by rw [List.getElem?_map, h]; rfl) hj
theorem egs_len (l : List Arc) : (egs l).length = l.length * 2 := by
  unfold egs; rw [List.flatMap_def, flatten_len (k := 2) (fun r hr => by obtain ⟨x, _, rfl⟩ := List.mem_map.1 hr; rfl)]; simp
theorem egs_append (l m : List Arc) : egs (l ++ m) = egs l ++ egs m := by simp [egs]
theorem egs_one (l : List Arc) : ∀ u ∈ egs l, u.oneCell' = true := by
  intro u hu
  obtain ⟨s, _, h⟩ := List.mem_flatMap.1 hu
  simp [eg] at h
  rcases h with rfl | rfl <;> rfl
theorem egs_take {l : List Arc} {k : Nat} {x : Arc} (h : l[k]? = some x) : egs (l.take (k + 1)) = egs (l.take k) ++ eg x := by
  obtain ⟨hk, rfl⟩ := List.getElem?_eq_some_iff.1 h
  rw [List.take_succ_eq_append_getElem hk, egs_append]; simp [egs]
/-- A row among a map's: its address, its capacity, its numbers. -/
abbrev Row := Option Addr × Nat × List Int
def rv (r : Row) : Value := .slice r.1 r.2.2.length r.2.1
def rowC (r : Row) : Chunk := Own 3 1 r.1 r.2.2.length r.2.1 (ints r.2.2)
def vals (es : List (Int × Row)) : List (Int × Value) := es.map fun p => (p.1, rv p.2)
def lists (es : List (Int × Row)) : List (Int × List Int) := es.map fun p => (p.1, p.2.2.2)
def rows (es : List (Int × Row)) : List Chunk := es.map fun p => rowC p.2
def Grp (g : Nat) (es : List (Int × Row)) : Chunk := star (MapT Try.prog 3 encI g (vals es) :: rows es)
def row0 (es : List (Int × Row)) (a : Int) : Row := (mget es a).getD (none, 0, [])
def Rest (es : List (Int × Row)) (a : Int) : Chunk := star (rows (mdel es a))
section
variable {W w : World} {L : List Chunk} {g : Nat} {es : List (Int × Row)} {a : Int}
theorem vals_get (es : List (Int × Row)) (a : Int) : (mget (vals es) a).getD (.slice none 0 0) = rv (row0 es a) := by
  unfold vals row0
  rw [mget_map]
  cases mget es a <;> rfl
theorem lists_get (es : List (Int × Row)) (a : Int) : (mget (lists es) a).getD [] = (row0 es a).2.2 := by
  unfold lists row0
  rw [mget_map (fun r : Row => r.2.2)]
  cases mget es a <;> rfl
theorem vals_put (es : List (Int × Row)) (a : Int) (r : Row) : vals (mput es a r) = mput (vals es) a (rv r) := mput_map rv es a r
theorem lists_put (es : List (Int × Row)) (a : Int) (r : Row) : lists (mput es a r) = mput (lists es) a r.2.2 := mput_map (fun r : Row => r.2.2) es a r
theorem vals_keys (es : List (Int × Row)) : (vals es).map (·.1) = es.map (·.1) := by simp [vals]
theorem Grp.sat (s : Sat (Grp g es :: L) w) : Sat (MapT Try.prog 3 encI g (vals es) :: (rows es ++ L)) w := Sat.star_iff.1 s
theorem Grp.mapIs (s : Sat (Grp g es :: L) w) : MapIs Try.prog 3 encI g (vals es) w := (Grp.sat s).mapIs
theorem Grp.nodup (s : Sat (Grp g es :: L) w) : (es.map (·.1)).Nodup := by have := (Grp.mapIs s).nodup; rwa [vals_keys] at this
theorem Grp.new (s : St W (MapT Try.prog 3 encI g [] :: L) w) : St W (Grp g [] :: L) w := ⟨Sat.star_iff.2 s.1, s.2⟩
theorem Grp.reads (s : Sat (Grp g es :: L) w) (a : Int) : Reads w 1 (row0 es a).1 (row0 es a).2.2.length (ints (row0 es a).2.2) := by
  unfold row0
  cases h : mget es a with
  | none => exact ⟨by simp, by simp, by simp⟩
  | some r =>
    obtain ⟨j, hj⟩ := mget_mem h
    have hr : (rows es ++ L)[j]? = some (rowC r) := by
      have hl := (List.getElem?_eq_some_iff.1 hj).1
      rw [List.getElem?_append_left (by simpa [rows] using hl)]
      simp [rows, hj]
    exact Own.reads ((Grp.sat s).tail.perm (perm_at hr))
theorem rows_perm (hn : (es.map (·.1)).Nodup) (r : Row) : (rows (mput es a r)).Perm (rowC r :: rows (mdel es a)) := by
  cases e : mget es a with
  | none =>
    have h : ∀ p ∈ es, p.1 ≠ a := fun p hp e2 => by
      have : (mget es a).isSome = true := mget_isSome.2 (List.mem_map.2 ⟨p, hp, e2⟩)
      rw [e] at this; cases this
    rw [mput_new h, mdel_none h, rows, List.map_append]
    exact List.perm_append_singleton _ _
  | some u =>
    obtain ⟨j, hj⟩ := mget_mem e
    have hl := (List.getElem?_eq_some_iff.1 hj).1
    rw [mput_set hn hj, mdel_at hn hj, rows, List.map_set, rows, ChangeMaps.map_eraseIdx]
    exact (perm_set (x := rowC u) (by simp [hj]) (rowC r)).symm
theorem Grp.open_ (a : Int) (s : St W (Grp g es :: L) w) : St W (rowC (row0 es a) :: MapT Try.prog 3 encI g (vals es) :: Rest es a :: L) w := by
  have hn := Grp.nodup s.1
  have s1 : St W (MapT Try.prog 3 encI g (vals es) :: (rows es ++ L)) w := ⟨Grp.sat s.1, s.2⟩
  have key : ∀ {w : World}, St W (rowC (row0 es a) :: (rows (mdel es a) ++ (MapT Try.prog 3 encI g (vals es) :: L))) w → St W (rowC (row0 es a) :: MapT Try.prog 3 encI g (vals es) :: Rest es a :: L) w := by
    intro w s
    have s2 : St W ((rows (mdel es a) ++ (rowC (row0 es a) :: MapT Try.prog 3 encI g (vals es) :: L))) w := s.perm (by
      refine List.Perm.trans (List.perm_middle.symm) ?_
      exact List.Perm.refl _)
    have s3 : St W (Rest es a :: rowC (row0 es a) :: MapT Try.prog 3 encI g (vals es) :: L) w := ⟨Sat.star_iff.2 s2.1, s2.2⟩
    exact s3.perm ((List.Perm.swap _ _ _).trans (List.Perm.cons _ (List.Perm.swap _ _ _)))
  refine key ?_
  unfold row0
  cases e : mget es a with
  | none =>
    have h : ∀ p ∈ es, p.1 ≠ a := fun p hp e2 => by
      have : (mget es a).isSome = true := mget_isSome.2 (List.mem_map.2 ⟨p, hp, e2⟩)
      rw [e] at this; cases this
    rw [mdel_none h]
    exact Own.none_ none (s1.perm List.perm_middle.symm)
  | some r =>
    obtain ⟨j, hj⟩ := mget_mem e
    have hp : (rows es).Perm (rowC r :: rows (mdel es a)) := by
      have := rows_perm (a := a) hn r
      rwa [show mput es a r = es from by
        rw [mput_set hn hj]
        apply List.ext_getElem?
        intro i
        rw [List.getElem?_set]
        by_cases hi : j = i
        · subst hi; obtain ⟨h1, h2⟩ := List.getElem?_eq_some_iff.1 hj; simp [h1, h2]
        · rw [if_neg hi]] at this
    refine s1.perm ?_
    refine (List.perm_middle.symm).trans ?_
    exact hp.append_right _
theorem Grp.close (hn : (es.map (·.1)).Nodup) (r : Row) (s : St W (rowC r :: MapT Try.prog 3 encI g (mput (vals es) a (rv r)) :: Rest es a :: L) w) : St W (Grp g (mput es a r) :: L) w := by
  have s1 : St W (Rest es a :: rowC r :: MapT Try.prog 3 encI g (mput (vals es) a (rv r)) :: L) w := s.perm ((List.Perm.cons _ (List.Perm.swap _ _ _)).trans (List.Perm.swap _ _ _))
  have s2 : St W (rows (mdel es a) ++ (rowC r :: MapT Try.prog 3 encI g (mput (vals es) a (rv r)) :: L)) w := ⟨Sat.star_iff.1 s1.1, s1.2⟩
  have s3 : St W (MapT Try.prog 3 encI g (vals (mput es a r)) :: (rows (mput es a r) ++ L)) w := by
    rw [vals_put]
    refine s2.perm ?_
    refine List.perm_middle.trans ?_
    refine (List.Perm.cons _ List.perm_middle).trans ?_
    refine (List.Perm.swap _ _ _).trans (List.Perm.cons _ ?_)
    exact ((rows_perm hn r).symm.append_right L)
  exact ⟨Sat.star_iff.2 s3.1, s3.2⟩
theorem Own.shrink {e k : Nat} {A : Option Addr} {n c m : Nat} {cs : List Value} (s : St W (Own e k A n c cs :: L) w) (hm : m ≤ n) : St W (Own e k A m c (cs.take (m * k)) :: L) w := by
  refine ⟨s.1.head_imp ?_, s.2⟩
  rintro h ⟨x1, x2, x3, x⟩
  have hmk : m * k ≤ n * k := Nat.mul_le_mul_right k hm
  refine ⟨by rw [List.length_take, x1]; omega, by omega, x3, ?_⟩
  rcases x with rfl | ⟨g, off, all, rfl, hg, hl, hr⟩
  · exact .inl rfl
  · refine .inr ⟨g, off, all, rfl, hg, hl, fun j u hu => ?_⟩
    rw [List.getElem?_take] at hu
    split at hu
    · exact hr j u hu
    · cases hu
end
theorem sortsA (m : Nat) : AnyZI.SortsIn Try.prog Try.sortedA_ren Fence.wide m :=
  ⟨fun blk off cap ss W hH hblk hsz => callsIn_wide.2 (AnyM.slices_Sort_int Try.sortA blk off cap ss W hH hblk hsz),
   fun p cap W => callsIn_wide.2 (AnyM.slices_Sort_int_none Try.sortA p cap W)⟩
theorem lt_of_blkIs {b : Nat} {v : Value} {w : World} (h : BlkIs b [v] w) : b < w.heap.size := by
  have h0 := h 0
  unfold World.cell? at h0
  simp only [List.getElem?_cons_zero] at h0
  cases e : w.heap[b]? with
  | none => rw [e] at h0; cases h0
  | some o => exact lt_of_blk e
set_option maxHeartbeats 1000000 in
theorem sorted_ok (W : World) (hW : W.drawn = 0) (L : List Chunk) (w : World) (b g : Nat) (D : List (Int × Value)) (hb : Knows L (BlkIs b [.map (some g)])) (hg : Knows L (MapIs Try.prog 3 encI g D)) (hn : D.length ≤ 1000000) (s : St W L w) :
    Calls Try.prog 21 #[.func (.func 35) #[] #[.pointer (some ⟨b, 0, none⟩)]] w fun e w' => ∃ A c, e = .returned (.slice A D.length c) ∧ St W (Own 3 1 A D.length c (ints ((D.map (·.1)).mergeSort leI)) :: L) w' := by
  have hbw := hb w s.1
  obtain ⟨D0, hown, hsz, hperm⟩ := (hg w s.1).ints Try.underlying3
  have hcell : w.cell? ⟨b, 0, none⟩ = some (.map (some g)) := hbw 0
  have hseq : SeqGives Fence.wide 2 Try.prog 35 #[.pointer (some ⟨b, 0, none⟩)] encZ (fun ss => ss.Perm (intKeys D0)) (Maps.size D0) w :=
    AnyZI.keys_gives (ρ := Try.keysA_ren) { Try.keysA with } Fence.wide _ trivial rfl (by omega) b g D.length D0 _ (lt_of_blkIs hbw) hcell hown
  have cS := AnyZI.sorted_in Try.sortedA Fence.wide 5 trivial trivial trivial trivial rfl (by omega) (sortsA _) (enters_of Try.func34 (by kernel_rfl) rfl) 35 #[.pointer (some ⟨b, 0, none⟩)] trivial (enters_of Try.func35 (by kernel_rfl) rfl) _ _ (by rw [hsz]; simp only [maxLen]; omega) (by rw [hsz]; omega) _ hseq
  change CallsIn _ _ Try.prog 21 _ _ _ at cS
  refine (callsIn_wide.1 cS).mono ?_
  rintro e w' ⟨v, ss, rfl, hS, hrow, hnil, hbel⟩
  have hp : ss.Perm (D.map (·.1)) := hS.trans hperm
  have hlen : ss.length = D.length := by rw [hp.length_eq, List.length_map]
  rw [show (fun x y : Int => decide (x ≤ y)) = leI from rfl, sort_perm hp, hlen] at hrow
  obtain ⟨A, c, rfl, s2⟩ := St.of_row hW s hbel hrow
  exact ⟨A, c, rfl, s2⟩

def isIdB (n : Int) : Bool := decide (n ≥ (1 : Int)) && decide (n ≤ (9007199254740991 : Int))
theorem isId_any (W : World) (L : List Chunk) (w : World) (n : Int) (s : St W L w) :
    Calls Try.prog 20 #[.int .i64 n] w fun e w' => e = .returned (.bool (isIdB n)) ∧ St W L w' := by
  refine enter_args (l := [.int .i64 n]) Try.func20 rfl rfl (Nat.le_of_ble_eq_true rfl) ?_
  intro a ha; replace ha : Has a 9 [(0, .int .i64 n)] := ha
  refine wp_seq ?_
  refine wp_region_lit ?_
  refine st_val (.bool false) ha (by kernel_rfl) (by kernel_rfl) ?_
  clear ha; intro a ha
  refine wpList_nil ?_
  refine then_normal ?_
  refine wp_seq ?_
  refine wp_region_lit ?_
  refine st_val (.int .i64 n) ha (by kernel_rfl) (by kernel_rfl) ?_
  clear ha; intro a ha
  refine st_val (.bool (decide (n ≥ (1 : Int)))) ha (by kernel_rfl) (by kernel_rfl) ?_
  clear ha; intro a ha
  refine st_val (.bool (decide (n ≥ (1 : Int)))) ha (by kernel_rfl) (by kernel_rfl) ?_
  clear ha; intro a ha
  rcases Bool.eq_false_or_eq_true (decide (n ≥ (1 : Int))) with hb | hb
  · rw [hb] at ha; replace hb : (n ≥ (1 : Int)) := of_decide_eq_true hb
    refine st_val (.int .i64 n) ha (by kernel_rfl) (by kernel_rfl) ?_
    clear ha; intro a ha
    refine st_val (.bool (decide (n ≤ (9007199254740991 : Int)))) ha (by kernel_rfl) (by kernel_rfl) ?_
    clear ha; intro a ha
    refine st_val (.bool (decide (n ≤ (9007199254740991 : Int)))) ha (by kernel_rfl) (by kernel_rfl) ?_
    clear ha; intro a ha
    refine st_val (.bool (decide (n ≤ (9007199254740991 : Int)))) ha (by kernel_rfl) (by kernel_rfl) ?_
    clear ha; intro a ha
    refine wpList_nil ?_
    refine then_normal ?_
    refine wp_ret ?_
    refine ret_with (v := .bool (decide (n ≤ (9007199254740991 : Int)))) ha (results_1 rfl ha (res_tmp (by kernel_rfl) (by kernel_rfl))) ?_
    refine ⟨?_, s⟩
    congr 2
    unfold isIdB
    first | (rw [decide_eq_true (by assumption)]; rfl) | (rw [decide_eq_false (by assumption)]; rfl) | simp_all
  · rw [hb] at ha; replace hb : ¬ (n ≥ (1 : Int)) := of_decide_eq_false hb
    refine st_pass ha (by kernel_rfl) ?_
    clear ha; intro a ha
    refine st_pass ha (by kernel_rfl) ?_
    clear ha; intro a ha
    refine st_val (.bool false) ha (by kernel_rfl) (by kernel_rfl) ?_
    clear ha; intro a ha
    refine st_val (.bool false) ha (by kernel_rfl) (by kernel_rfl) ?_
    clear ha; intro a ha
    refine wpList_nil ?_
    refine then_normal ?_
    refine wp_ret ?_
    refine ret_with (v := .bool false) ha (results_1 rfl ha (res_tmp (by kernel_rfl) (by kernel_rfl))) ?_
    refine ⟨?_, s⟩
    congr 2
    unfold isIdB
    first | (rw [decide_eq_true (by assumption)]; rfl) | (rw [decide_eq_false (by assumption)]; rfl) | simp_all

theorem isNaN_any (W : World) (L : List Chunk) (w : World) (x : Int) (s : St W L w) :
    Calls Try.prog 36 #[.int .i64 x] w fun e w' => e = .returned (.bool false) ∧ St W L w' := by
  refine enter_args (l := [.int .i64 x]) Try.func36 rfl rfl (Nat.le_of_ble_eq_true rfl) ?_
  intro a ha; replace ha : Has a 6 [(0, .int .i64 x)] := ha
  refine wp_seq ?_
  refine wp_region_lit ?_
  refine st_val (.bool false) ha (by kernel_rfl) (by kernel_rfl) ?_
  clear ha; intro a ha
  refine wpList_nil ?_
  refine then_normal ?_
  refine wp_seq ?_
  refine wp_region_lit ?_
  refine st_val (.int .i64 x) ha (by kernel_rfl) (by kernel_rfl) ?_
  clear ha; intro a ha
  refine st_val (.int .i64 x) ha (by kernel_rfl) (by kernel_rfl) ?_
  clear ha; intro a ha
  refine st_val (.bool false) ha (by kernel_rfl) (run_known (bne_self_eq_false _) (show (execOp (evalE _) _).run _ _ = .ok (.value (.bool (x != x))) _ from by kernel_rfl)) ?_
  clear ha; intro a ha
  refine st_val (.bool false) ha (by kernel_rfl) (by kernel_rfl) ?_
  clear ha; intro a ha
  refine wpList_nil ?_
  refine then_normal ?_
  refine wp_ret ?_
  refine ret_with (v := .bool false) ha (results_1 rfl ha (res_tmp (by kernel_rfl) (by kernel_rfl))) ?_
  exact ⟨rfl, s⟩

def cmpI (x y : Int) : Int := if x < y then -1 else if x > y then 1 else 0
theorem cmp_any (W : World) (L : List Chunk) (w : World) (x y : Int) (s : St W L w) :
    Calls Try.prog 27 #[.int .i64 x, .int .i64 y] w fun e w' => e = .returned (.int .i64 (cmpI x y)) ∧ St W L w' := by
  refine enter_args (l := [.int .i64 x, .int .i64 y]) Try.func27 rfl rfl (Nat.le_of_ble_eq_true rfl) ?_
  intro a ha; replace ha : Has a 20 [(0, .int .i64 x), (1, .int .i64 y)] := ha
  refine wp_seq ?_
  refine wp_region_lit ?_
  refine st_val (.int .i64 0) ha (by kernel_rfl) (by kernel_rfl) ?_
  clear ha; intro a ha
  refine wpList_nil ?_
  refine then_normal ?_
  refine wp_seq ?_
  refine wp_region_lit ?_
  refine st_val (.int .i64 x) ha (by kernel_rfl) (by kernel_rfl) ?_
  clear ha; intro a ha
  refine st_call ha (by kernel_rfl) (by kernel_rfl) (isNaN_any W _ w x s) ?_
  rintro _ w ⟨rfl, s⟩
  replace s : St W (L) w := s
  refine ⟨_, rfl, ?_⟩; clear ha; intro a ha
  refine st_val (.bool false) ha (by kernel_rfl) (by kernel_rfl) ?_
  clear ha; intro a ha
  refine wpList_nil ?_
  refine then_normal ?_
  refine wp_seq ?_
  refine wp_region_lit ?_
  refine st_val (.int .i64 y) ha (by kernel_rfl) (by kernel_rfl) ?_
  clear ha; intro a ha
  refine st_call ha (by kernel_rfl) (by kernel_rfl) (isNaN_any W _ w y s) ?_
  rintro _ w ⟨rfl, s⟩
  replace s : St W (L) w := s
  refine ⟨_, rfl, ?_⟩; clear ha; intro a ha
  refine st_val (.bool false) ha (by kernel_rfl) (by kernel_rfl) ?_
  clear ha; intro a ha
  refine wpList_nil ?_
  refine then_normal ?_
  refine wp_seq ?_
  refine wp_seq ?_
  refine wp_region_lit ?_
  refine st_val (.bool false) ha (by kernel_rfl) (by kernel_rfl) ?_
  clear ha; intro a ha
  refine wpList_nil ?_
  refine then_normal ?_
  refine wp_false ha rfl (by kernel_rfl) ?_
  refine wp_skip ?_
  refine then_normal ?_
  refine wp_seq ?_
  refine wp_seq ?_
  refine wp_region_lit ?_
  refine st_val (.bool false) ha (by kernel_rfl) (by kernel_rfl) ?_
  clear ha; intro a ha
  refine wpList_nil ?_
  refine then_normal ?_
  refine wp_false ha rfl (by kernel_rfl) ?_
  refine wp_skip ?_
  refine then_normal ?_
  refine wp_seq ?_
  refine wp_seq ?_
  refine wp_region_lit ?_
  refine st_val (.int .i64 x) ha (by kernel_rfl) (by kernel_rfl) ?_
  clear ha; intro a ha
  refine st_val (.int .i64 y) ha (by kernel_rfl) (by kernel_rfl) ?_
  clear ha; intro a ha
  refine st_val (.bool (decide (x < y))) ha (by kernel_rfl) (by kernel_rfl) ?_
  clear ha; intro a ha
  refine wpList_nil ?_
  refine then_normal ?_
  refine wp_part (decide (x < y)) ha rfl (by kernel_rfl) (fun hb => ?_) (fun hb => ?_)
  · rw [hb] at ha; replace hb : (x < y) := of_decide_eq_true hb
    refine wp_seq ?_
    refine wp_region_lit ?_
    refine st_val (.int .i64 (-1)) ha (by kernel_rfl) (by kernel_rfl) ?_
    clear ha; intro a ha
    refine wpList_nil ?_
    refine then_normal ?_
    refine wp_ret ?_
    refine then_ret ?_
    refine ret_with (v := .int .i64 (-1)) ha (results_1 rfl ha (res_tmp (by kernel_rfl) (by kernel_rfl))) ?_
    refine ⟨?_, s⟩
    congr 2
    unfold cmpI
    first | (rw [if_pos (by assumption)]; done) | (rw [if_neg (by assumption), if_pos (by assumption)]; done) | (rw [if_neg (by assumption), if_neg (by assumption)]; done)
  · rw [hb] at ha; replace hb : ¬ (x < y) := of_decide_eq_false hb
    refine wp_skip ?_
    refine then_normal ?_
    refine wp_seq ?_
    refine wp_seq ?_
    refine wp_region_lit ?_
    refine st_val (.int .i64 x) ha (by kernel_rfl) (by kernel_rfl) ?_
    clear ha; intro a ha
    refine st_val (.int .i64 y) ha (by kernel_rfl) (by kernel_rfl) ?_
    clear ha; intro a ha
    refine st_val (.bool (decide (x > y))) ha (by kernel_rfl) (by kernel_rfl) ?_
    clear ha; intro a ha
    refine wpList_nil ?_
    refine then_normal ?_
    refine wp_part (decide (x > y)) ha rfl (by kernel_rfl) (fun hb => ?_) (fun hb => ?_)
    · rw [hb] at ha; replace hb : (x > y) := of_decide_eq_true hb
      refine wp_seq ?_
      refine wp_region_lit ?_
      refine st_val (.int .i64 1) ha (by kernel_rfl) (by kernel_rfl) ?_
      clear ha; intro a ha
      refine wpList_nil ?_
      refine then_normal ?_
      refine wp_ret ?_
      refine then_ret ?_
      refine ret_with (v := .int .i64 1) ha (results_1 rfl ha (res_tmp (by kernel_rfl) (by kernel_rfl))) ?_
      refine ⟨?_, s⟩
      congr 2
      unfold cmpI
      first | (rw [if_pos (by assumption)]; done) | (rw [if_neg (by assumption), if_pos (by assumption)]; done) | (rw [if_neg (by assumption), if_neg (by assumption)]; done)
    · rw [hb] at ha; replace hb : ¬ (x > y) := of_decide_eq_false hb
      refine wp_skip ?_
      refine then_normal ?_
      refine wp_seq ?_
      refine wp_region_lit ?_
      refine st_val (.int .i64 0) ha (by kernel_rfl) (by kernel_rfl) ?_
      clear ha; intro a ha
      refine wpList_nil ?_
      refine then_normal ?_
      refine wp_ret ?_
      refine ret_with (v := .int .i64 0) ha (results_1 rfl ha (res_tmp (by kernel_rfl) (by kernel_rfl))) ?_
      refine ⟨?_, s⟩
      congr 2
      unfold cmpI
      first | (rw [if_pos (by assumption)]; done) | (rw [if_neg (by assumption), if_pos (by assumption)]; done) | (rw [if_neg (by assumption), if_neg (by assumption)]; done)

theorem or_any (W : World) (L : List Chunk) (w : World) (x y : Int) (g : Nat) (s : St W (.blk g [.int .i64 x, .int .i64 y] 3 :: L) w) :
    Calls Try.prog 26 #[.slice (some ⟨g, 0, none⟩) 2 2] w fun e w' => e = .returned (.int .i64 (if x = 0 then y else x)) ∧ St W L w' := by
  refine enter_args (l := [.slice (some ⟨g, 0, none⟩) 2 2]) Try.func26 rfl rfl (Nat.le_of_ble_eq_true rfl) ?_
  intro a ha; replace ha : Has a 18 [(0, .slice (some ⟨g, 0, none⟩) 2 2)] := ha
  refine wp_seq ?_
  refine wp_region_lit ?_
  refine st_val (.int .i64 0) ha (by kernel_rfl) (by kernel_rfl) ?_
  clear ha; intro a ha
  refine wpList_nil ?_
  refine then_normal ?_
  refine wp_seq ?_
  refine wp_region_lit ?_
  refine st_val (.int .i64 0) ha (by kernel_rfl) (by kernel_rfl) ?_
  clear ha; intro a ha
  refine wpList_nil ?_
  refine then_normal ?_
  refine wp_seq ?_
  refine wp_seq ?_
  refine wp_region_lit ?_
  refine st_val (.slice (some ⟨g, 0, none⟩) 2 2) ha (by kernel_rfl) (by kernel_rfl) ?_
  clear ha; intro a ha
  refine st_val (.int .i64 2) ha (by kernel_rfl) (by kernel_rfl) ?_
  clear ha; intro a ha
  refine st_val (.int .i64 0) ha (by kernel_rfl) (by kernel_rfl) ?_
  clear ha; intro a ha
  refine wpList_nil ?_
  refine then_normal ?_
  refine wp_block ?_
  refine wp_loop_rounds 3 ?_
  show Code.rounds _ _ _ 3 _ _
  rw [rounds_succ]
  refine wp_seq ?_
  refine wp_region_lit ?_
  refine st_val (.bool true) ha (by kernel_rfl) (by kernel_rfl) ?_
  clear ha; intro a ha
  refine wpList_nil ?_
  refine then_normal ?_
  refine wp_seq ?_
  refine wp_true ha rfl (by kernel_rfl) ?_
  refine wp_skip ?_
  refine then_normal ?_
  refine wp_seq ?_
  refine wp_block ?_
  refine wp_seq ?_
  refine wp_region_lit ?_
  refine st_val (.pointer (some ⟨g, 0, none⟩)) ha (by kernel_rfl) (run_indexAddr (kd := .i64) (i := 0) (n := 2) (c := 2) 0 rfl Try.underlying25 Try.sizeOf3 (by kernel_rfl) (by kernel_rfl) rfl (by first | assumption | omega) _) ?_
  clear ha; intro a ha
  refine st_val (.int .i64 x) ha (by kernel_rfl) (run_load1 (of_ := 0) (s.blkIs 0 rfl) rfl (by kernel_rfl) Try.isAgg3 rfl) ?_
  clear ha; intro a ha
  refine st_val (.int .i64 x) ha (by kernel_rfl) (by kernel_rfl) ?_
  clear ha; intro a ha
  refine wpList_nil ?_
  refine then_normal ?_
  refine wp_seq ?_
  refine wp_region_lit ?_
  refine st_val (.int .i64 x) ha (by kernel_rfl) (by kernel_rfl) ?_
  clear ha; intro a ha
  refine st_val (.int .i64 0) ha (by kernel_rfl) (by kernel_rfl) ?_
  clear ha; intro a ha
  refine st_val (.bool (x != (0 : Int))) ha (by kernel_rfl) (by kernel_rfl) ?_
  clear ha; intro a ha
  refine wpList_nil ?_
  refine then_normal ?_
  refine wp_part (x != (0 : Int)) ha rfl (by kernel_rfl) (fun hb => ?_) (fun hb => ?_)
  · rw [hb] at ha; have hb_ := hb; replace hb := bne_iff_ne.1 hb
    refine wp_seq ?_
    refine wp_region_lit ?_
    refine st_val (.int .i64 x) ha (by kernel_rfl) (by kernel_rfl) ?_
    clear ha; intro a ha
    refine st_val (.int .i64 x) ha (by kernel_rfl) (by kernel_rfl) ?_
    clear ha; intro a ha
    refine wpList_nil ?_
    refine then_normal ?_
    refine wp_ret ?_
    refine block_ret ?_
    refine then_ret ?_
    refine then_ret ?_
    refine block_ret ?_
    refine then_ret ?_
    refine ret_with (v := .int .i64 x) ha (results_1 rfl ha (res_tmp (by kernel_rfl) (by kernel_rfl))) ?_
    replace s := s.tail
    replace s : St W (L) w := s
    refine ⟨?_, s⟩
    congr 2
    first | (rw [if_neg (by assumption)]; done) | (rw [if_pos (by assumption)]; done) | (rw [if_pos (by assumption)]; symm; assumption)
  · rw [hb] at ha; have hb_ := hb; replace hb := bne_eq_false_iff_eq.1 hb
    refine wp_skip ?_
    refine block_normal ?_
    refine then_normal ?_
    refine wp_region_lit ?_
    refine st_val (.int .i64 1) ha (by kernel_rfl) (by kernel_rfl) ?_
    clear ha; intro a ha
    refine st_val (.int .i64 1) ha (by kernel_rfl) (by kernel_rfl) ?_
    clear ha; intro a ha
    refine wpList_nil ?_
    refine then_normal ?_
    show Code.rounds _ _ _ 2 _ _
    rw [rounds_succ]
    refine wp_seq ?_
    refine wp_region_lit ?_
    refine st_val (.bool true) ha (by kernel_rfl) (by kernel_rfl) ?_
    clear ha; intro a ha
    refine wpList_nil ?_
    refine then_normal ?_
    refine wp_seq ?_
    refine wp_true ha rfl (by kernel_rfl) ?_
    refine wp_skip ?_
    refine then_normal ?_
    refine wp_seq ?_
    refine wp_block ?_
    refine wp_seq ?_
    refine wp_region_lit ?_
    refine st_val (.pointer (some ⟨g, 1, none⟩)) ha (by kernel_rfl) (run_indexAddr (kd := .i64) (i := 1) (n := 2) (c := 2) 1 rfl Try.underlying25 Try.sizeOf3 (by kernel_rfl) (by kernel_rfl) rfl (by first | assumption | omega) _) ?_
    clear ha; intro a ha
    refine st_val (.int .i64 y) ha (by kernel_rfl) (run_load1 (of_ := 1) (s.blkIs 0 rfl) rfl (by kernel_rfl) Try.isAgg3 rfl) ?_
    clear ha; intro a ha
    refine st_val (.int .i64 y) ha (by kernel_rfl) (by kernel_rfl) ?_
    clear ha; intro a ha
    refine wpList_nil ?_
    refine then_normal ?_
    refine wp_seq ?_
    refine wp_region_lit ?_
    refine st_val (.int .i64 y) ha (by kernel_rfl) (by kernel_rfl) ?_
    clear ha; intro a ha
    refine st_val (.int .i64 0) ha (by kernel_rfl) (by kernel_rfl) ?_
    clear ha; intro a ha
    refine st_val (.bool (y != (0 : Int))) ha (by kernel_rfl) (by kernel_rfl) ?_
    clear ha; intro a ha
    refine wpList_nil ?_
    refine then_normal ?_
    refine wp_part (y != (0 : Int)) ha rfl (by kernel_rfl) (fun hb => ?_) (fun hb => ?_)
    · rw [hb] at ha; have hb_ := hb; replace hb := bne_iff_ne.1 hb
      refine wp_seq ?_
      refine wp_region_lit ?_
      refine st_val (.int .i64 y) ha (by kernel_rfl) (by kernel_rfl) ?_
      clear ha; intro a ha
      refine st_val (.int .i64 y) ha (by kernel_rfl) (by kernel_rfl) ?_
      clear ha; intro a ha
      refine wpList_nil ?_
      refine then_normal ?_
      refine wp_ret ?_
      refine block_ret ?_
      refine then_ret ?_
      refine then_ret ?_
      refine block_ret ?_
      refine then_ret ?_
      refine ret_with (v := .int .i64 y) ha (results_1 rfl ha (res_tmp (by kernel_rfl) (by kernel_rfl))) ?_
      replace s := s.tail
      replace s : St W (L) w := s
      refine ⟨?_, s⟩
      congr 2
      first | (rw [if_neg (by assumption)]; done) | (rw [if_pos (by assumption)]; done) | (rw [if_pos (by assumption)]; symm; assumption)
    · rw [hb] at ha; have hb_ := hb; replace hb := bne_eq_false_iff_eq.1 hb
      refine wp_skip ?_
      refine block_normal ?_
      refine then_normal ?_
      refine wp_region_lit ?_
      refine st_val (.int .i64 2) ha (by kernel_rfl) (by kernel_rfl) ?_
      clear ha; intro a ha
      refine st_val (.int .i64 2) ha (by kernel_rfl) (by kernel_rfl) ?_
      clear ha; intro a ha
      refine wpList_nil ?_
      refine then_normal ?_
      show Code.rounds _ _ _ 1 _ _
      rw [rounds_succ]
      refine wp_seq ?_
      refine wp_region_lit ?_
      refine st_val (.bool false) ha (by kernel_rfl) (by kernel_rfl) ?_
      clear ha; intro a ha
      refine wpList_nil ?_
      refine then_normal ?_
      refine wp_seq ?_
      refine wp_false ha rfl (by kernel_rfl) ?_
      refine wp_exit ?_
      refine then_exit ?_
      refine then_exit ?_
      refine block_hit ?_
      refine then_normal ?_
      refine wp_seq ?_
      refine wp_region_lit ?_
      refine st_val (.int .i64 0) ha (by kernel_rfl) (by kernel_rfl) ?_
      clear ha; intro a ha
      refine st_val (.int .i64 0) ha (by kernel_rfl) (by kernel_rfl) ?_
      clear ha; intro a ha
      refine wpList_nil ?_
      refine then_normal ?_
      refine wp_ret ?_
      refine ret_with (v := .int .i64 0) ha (results_1 rfl ha (res_tmp (by kernel_rfl) (by kernel_rfl))) ?_
      replace s := s.tail
      replace s : St W (L) w := s
      refine ⟨?_, s⟩
      congr 2
      first | (rw [if_neg (by assumption)]; done) | (rw [if_pos (by assumption)]; done) | (rw [if_pos (by assumption)]; symm; assumption)

theorem keys_any (W : World) (L : List Chunk) (w : World) (g : Nat) (s : St W L w) :
    Calls Try.prog 22 #[.map (some g)] w fun e w' => ∃ b, e = .returned (.func (.func 35) #[] #[.pointer (some ⟨b, 0, none⟩)]) ∧ St W (.blk b [.map (some g)] 49 :: L) w' := by
  refine enter_args (l := [.map (some g)]) Try.func22 rfl rfl (Nat.le_of_ble_eq_true rfl) ?_
  intro a ha; replace ha : Has a 4 [(0, .map (some g))] := ha
  refine wp_seq ?_
  refine wp_region_lit ?_
  refine st_ex ha (by kernel_rfl) (ex_box [.map (some g)] s rfl (by kernel_rfl)) ?_
  clear ha; rintro _ w a ⟨g1, rfl, s⟩ ha
  replace s : St W (.blk g1 [.map (some g)] 49 :: L) w := s
  refine st_val (.nilFunc) ha (by kernel_rfl) (by kernel_rfl) ?_
  clear ha; intro a ha
  refine wpList_nil ?_
  refine then_normal ?_
  refine wp_seq ?_
  refine wp_region_lit ?_
  refine st_val (.func (.func 35) #[] #[.pointer (some ⟨g1, 0, none⟩)]) ha (by kernel_rfl) (by kernel_rfl) ?_
  clear ha; intro a ha
  refine st_val (.func (.func 35) #[] #[.pointer (some ⟨g1, 0, none⟩)]) ha (by kernel_rfl) (by kernel_rfl) ?_
  clear ha; intro a ha
  refine wpList_nil ?_
  refine then_normal ?_
  refine wp_ret ?_
  refine ret_with (v := .func (.func 35) #[] #[.pointer (some ⟨g1, 0, none⟩)]) ha (results_1 rfl ha (res_tmp (by kernel_rfl) (by kernel_rfl))) ?_
  exact ⟨_, rfl, s⟩

theorem clone_any (W : World) (L : List Chunk) (w : World) (A : Option Addr) (n c : Nat) (l : List Int) (hr : Knows L fun w => Reads w 1 A n (ints l)) (hl : l.length = n) (hn : n ≤ 1000000) (s : St W L w) :
    Calls Try.prog 23 #[.slice A n c] w fun e w' => ∃ A' c', e = .returned (.slice A' n c') ∧ St W (Own 3 1 A' n c' (ints l) :: L) w' := by
  refine enter_args (l := [.slice A n c]) Try.func23 rfl rfl (Nat.le_of_ble_eq_true rfl) ?_
  intro a ha; replace ha : Has a 8 [(0, .slice A n c)] := ha
  refine wp_seq ?_
  refine wp_region_lit ?_
  refine st_val (.slice none 0 0) ha (by kernel_rfl) (by kernel_rfl) ?_
  clear ha; intro a ha
  refine wpList_nil ?_
  refine then_normal ?_
  refine wp_seq ?_
  refine wp_seq ?_
  refine wp_region_lit ?_
  refine st_val (.slice A n c) ha (by kernel_rfl) (by kernel_rfl) ?_
  clear ha; intro a ha
  refine st_val (.bool A.isNone) ha (by kernel_rfl) (by have h : ∀ A n c w, (execOp (evalE []) ⟨none, .binOp .eql 25 (.const (.slice A n c)) (.const (.slice none 0 0)) 25, 0, "", #[], none⟩).run Try.prog w = .ok (.value (.bool (A.isNone))) w := (fun A _ _ _ => by cases A <;> kernel_rfl); exact h _ _ _ _) ?_
  clear ha; intro a ha
  refine wpList_nil ?_
  refine then_normal ?_
  refine wp_part A.isNone ha rfl (by kernel_rfl) (fun hb => ?_) (fun hb => ?_)
  · rw [hb] at ha; skip
    refine wp_seq ?_
    refine wp_region_lit ?_
    refine st_val (.slice none 0 0) ha (by kernel_rfl) (by kernel_rfl) ?_
    clear ha; intro a ha
    refine wpList_nil ?_
    refine then_normal ?_
    refine wp_ret ?_
    refine then_ret ?_
    refine ret_with (v := .slice none 0 0) ha (results_1 rfl ha (res_tmp (by kernel_rfl) (by kernel_rfl))) ?_
    have hn0 : n = 0 := by
        cases A with
        | some a => cases hb
        | none => exact Decidable.byContradiction fun h => (hr _ s.sat).2.1 (by omega) rfl
    subst hn0
    have : l = [] := List.eq_nil_of_length_eq_zero hl
    subst this
    exact ⟨_, _, rfl, Own.none_ none s⟩
  · rw [hb] at ha; skip
    refine wp_skip ?_
    refine then_normal ?_
    refine wp_seq ?_
    refine wp_region_lit ?_
    refine st_ex ha (by kernel_rfl) (ex_buildSlice elt25 _ zs25 [] s rfl (by kernel_rfl) (by decide)) ?_
    clear ha; rintro _ w a ⟨g1, rfl, s⟩ ha
    replace s : St W (.blk g1 [] 3 :: L) w := s
    refine st_val (.slice A n c) ha (by kernel_rfl) (by kernel_rfl) ?_
    clear ha; intro a ha
    replace s := Own.close (e := 3) (k := 1) (off := 0) (n := 0) (c := 0) (cs := []) (all := []) rfl (by omega) (by simp [maxLen]) (by simp) (by simp) s
    replace s : St W (Own 3 1 (some ⟨g1, 0, none⟩) 0 0 [] :: L) w := s
    refine st_ex ha (by kernel_rfl) (ex_append (m := n) (d' := c) elt25 (by decide) 0 (ints l) s rfl (by kernel_rfl) (by kernel_rfl) rfl (hr _ (Sat.drops (A := [Own 3 1 (some ⟨g1, 0, none⟩) 0 0 []]) s.sat)) (ints_one l) (by simp only [maxLen]; omega) (by omega)) ?_
    clear ha; rintro _ w a ⟨A2, c3, rfl, hA_, s⟩ ha
    replace s : St W (Own 3 1 A2 (0 + n) c3 ([] ++ (ints l)) :: L) w := s
    refine st_val (.slice A2 (0 + n) c3) ha (by kernel_rfl) (by kernel_rfl) ?_
    clear ha; intro a ha
    refine wpList_nil ?_
    refine then_normal ?_
    refine wp_ret ?_
    refine ret_with (v := .slice A2 (0 + n) c3) ha (results_1 rfl ha (res_tmp (by kernel_rfl) (by kernel_rfl))) ?_
    rw [Nat.zero_add] at s ⊢
    exact ⟨_, _, rfl, s⟩

end Go.Proofs.Ytjdkpebnaohonaa.B
