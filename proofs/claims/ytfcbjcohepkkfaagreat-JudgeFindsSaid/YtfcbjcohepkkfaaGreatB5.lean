import Derived.Test.YtfcbjcohepkkfaaGreatB4
import Derived.Test.YtfcbjcohepkkfaaGreatSepY
namespace Go.Proofs.YtfcbjcohepkkfaaGreat.B
open Go.RowKit Go.Maps Go.Sort Go.Shelf Go.Proofs.YtfcbjcohepkkfaaGreat.Sep Go.Proofs.YtfcbjcohepkkfaaGreat.P
set_option linter.unusedVariables false
set_option linter.unusedSimpArgs false
theorem next_none {R : List Rw} {d : Td} (h3 : d.op ≠ 3) (h4 : d.op ≠ 4) (h5 : d.op ≠ 5) : nextR R d = R := by unfold nextR; rw [if_neg h3, if_neg h4, if_neg h5]
theorem well_get_none {R : List Rw} {d : Td} (h1 : d.op = 1) (hf : R.find? (fun x => decide (x.key = d.key)) = none) : isWell R d = (!d.is && decide ([] = d.val)) := by
 unfold isWell lookR
 rw [if_pos h1, hf]
 show (!d.is && decide (d.val = [])) = _
 congr 1
 exact decide_eq_decide.2 ⟨Eq.symm, Eq.symm⟩
theorem well_get_some {R : List Rw} {d : Td} {r : Rw} (h1 : d.op = 1) (hf : R.find? (fun x => decide (x.key = d.key)) = some r) : isWell R d = (d.is && decide (r.val = d.val)) := by
 unfold isWell lookR
 rw [if_pos h1, hf]
 rfl
theorem well_none {R : List Rw} {d : Td} (h1 : d.op ≠ 1) (h2 : d.op ≠ 2) : isWell R d = true := by unfold isWell; rw [if_neg h1, if_neg h2]
theorem Of.drop_next {D : List (List UInt8 × Value)} {R l : List Rw} (h : Of D (dropK R l)) (x : Rw) : Of (mdel D x.key) (dropK R (l ++ [x])) := by rw [dropK_snoc]; exact h.del _
/-- What was found so far, in the variables of the one who looks. -/
def fst (f : Option (Nat × Nat)) : Nat := (f.map (·.1)).getD 0
def snd (f : Option (Nat × Nat)) : Nat := (f.map (·.2)).getD 0
theorem or_some {f : Option (Nat × Nat)} (h : f.isSome = true) (x : Nat × Nat) : f.or (some x) = f := by cases f <;> simp at *
theorem or_none {f : Option (Nat × Nat)} (h : f.isSome = false) (x : Nat × Nat) : f.or (some x) = some x := by cases f <;> simp at *

set_option maxRecDepth 100000 in
set_option maxHeartbeats 2000000 in
theorem do_any (W : World) (hW : W.drawn = 0) (L : List Chunk) (w : World) (g : Nat) (D : List (List UInt8 × Value)) (R : List Rw) (hD : Of D R) (hRn : R.length ≤ 1000000) (d : Dd) (hrw : Knows L fun w => Reads w 2 d.A d.t.rows.length (rws d.t.rows)) (hdl : d.t.rows.length ≤ 140737488351232) (hdk : d.t.key.length ≤ 140737488351232) (s : St W (MapT Tryz.prog 9 encS g D :: L) w) :
  Calls Tryz.prog 55 #[.map (some g), .agg (dv d).toArray] w fun e w' => ∃ D', e = .returned (.bool (isWell R d.t)) ∧ Of D' (nextR R d.t) ∧ St W (MapT Tryz.prog 9 encS g D' :: L) w' := by
 have hDl := hD.length
 refine enter_args (l := [.map (some g), .agg (dv d).toArray]) Tryz.func55 rfl rfl (Nat.le_of_ble_eq_true rfl) ?_
 intro a ha; replace ha : Has a 70 [(0, .map (some g)), (1, .agg (dv d).toArray)] := ha
 refine zn1 ?_
 refine zze ha (ex_box (dv d) s rfl (by kernel_rfl)) ?_
 clear ha; rintro _ w a ⟨g1, rfl, s⟩ ha
 refine zv (.bool false) ha ?_; clear ha; intro a ha
 refine zn2 ?_
 refine wp_seq ?_
 refine zn1 ?_
 refine zv (.pointer (some ⟨g1, 0, none⟩)) ha ?_
 refine zzw (.int .i64 d.t.op) (zl1 0 0) ?_; clear ha; intro a ha
 refine zn2 ?_
 refine wp_block ?_
 refine zn1 ?_
 refine zv (.bool (d.t.op == (1 : Int))) ha ?_
 refine zzv (.bool (d.t.op == (1 : Int))) ?_; clear ha; intro a ha
 refine zn2 ?_
 refine zzh (d.t.op == (1 : Int)) ha ?_ ?_ <;> intro hb
 ·
  rw [hb] at ha; replace hb := eq_of_beq hb
  have hop := hb
  refine zn1 ?_
  refine zv (.map (some g)) ha ?_
  refine zzv (.pointer (some ⟨g1, 1, none⟩)) ?_
  refine zzw (.string (str d.t.key)) (zl1 0 1) ?_; clear ha; intro a ha
  rcases hfd : R.find? (fun x => decide (x.key = d.t.key)) with _ | r
  ·
   skip
   refine zw (.tuple #[.agg #[.string (str []), .string (str [])], .bool false]) ha (run_lookup_ok (a := d.t.key) (.agg #[.string (str []), .string (str [])]) false (s.mapIs 1 rfl) rfl (by kernel_rfl) (by kernel_rfl) encS_inj keyed9 Tryz.underlying81 Tryz.zeroValue115 (key9 hdk) (by rw [hD.get, hfd]; rfl) (by rw [hD.get, hfd]; rfl)) ?_
   refine zzv (.tuple #[.agg #[.string (str []), .string (str [])], .bool false]) ?_
   refine zzv (.agg #[.string (str []), .string (str [])]) ?_
   refine zzv (.bool false) ?_; clear ha; intro a ha
   refine zze ha (ex_alloc [.string (str []), .string (str [])] s rfl (Tryz.zeroValue115 _) (by kernel_rfl)) ?_
   clear ha; rintro _ w a ⟨g2, rfl, s⟩ ha
   refine zzd ha (ex_store (of_ := 0) 0 [.string (str []), .string (str [])] s rfl rfl (by kernel_rfl) (by kernel_rfl) (Tryz.sizeOf115 _) rfl (by simp [Value.oneCell']) (Nat.le_of_ble_eq_true rfl)) ?_
   clear ha; rintro w a s ha
   dsimp only [List.set, putAt] at s
   refine zv (.bool false) ha ?_; clear ha; intro a ha
   refine zn4 ?_
   refine zv (.bool false) ha ?_
   refine zzv (.pointer (some ⟨g1, 5, none⟩)) ?_
   refine zzw (.bool d.t.is) (zl1 1 5) ?_
   refine zzv (.bool (false == d.t.is)) ?_
   refine zzv (.bool (false == d.t.is)) ?_; clear ha; intro a ha
   rcases Bool.eq_false_or_eq_true (false == d.t.is) with hb | hb
   ·
    rw [hb] at ha; replace hb := eq_of_beq hb
    refine zv (.pointer (some ⟨g2, 1, none⟩)) ha ?_
    refine zzw (.string (str [])) (zl1 0 1) ?_
    refine zzv (.pointer (some ⟨g1, 2, none⟩)) ?_
    refine zzw (.string (str d.t.val)) (zl1 1 2) ?_
    refine zzw (.bool (decide ([] = d.t.val))) (run_seql (p := []) (q := d.t.val) rfl (by kernel_rfl) (by kernel_rfl) _) ?_
    refine zzv (.bool (decide ([] = d.t.val))) ?_
    refine zzv (.bool (decide ([] = d.t.val))) ?_; clear ha; intro a ha
    refine zn2 ?_
    refine wp_ret ?_
    refine block_ret ?_
    refine then_ret ?_
    refine zzr (v := .bool (decide ([] = d.t.val))) ha ?_
    replace s := s.at_ (j := 2) rfl
    replace s := s.k1_2
    exact ⟨D, (by rw [well_get_none hop hfd]; revert hb; cases d.t.is <;> simp), (by rw [next_none (by omega) (by omega) (by omega)]; exact hD), s⟩
   rw [hb] at ha; replace hb := ne_of_beq_false hb
   refine zp ha ?_
   iterate 4 refine zzp ?_
   refine zzv (.bool false) ?_
   refine zzv (.bool false) ?_; clear ha; intro a ha
   refine zn2 ?_
   refine wp_ret ?_
   refine block_ret ?_
   refine then_ret ?_
   refine zzr (v := .bool false) ha ?_
   replace s := s.at_ (j := 2) rfl
   replace s := s.k1_2
   exact ⟨D, (by rw [well_get_none hop hfd]; revert hb; cases d.t.is <;> simp), (by rw [next_none (by omega) (by omega) (by omega)]; exact hD), s⟩
  skip
  refine zw (.tuple #[.agg #[.string (str r.key), .string (str r.val)], .bool true]) ha (run_lookup_ok (a := d.t.key) (.agg #[.string (str r.key), .string (str r.val)]) true (s.mapIs 1 rfl) rfl (by kernel_rfl) (by kernel_rfl) encS_inj keyed9 Tryz.underlying81 Tryz.zeroValue115 (key9 hdk) (by rw [hD.get, hfd]; rfl) (by rw [hD.get, hfd]; rfl)) ?_
  refine zzv (.tuple #[.agg #[.string (str r.key), .string (str r.val)], .bool true]) ?_
  refine zzv (.agg #[.string (str r.key), .string (str r.val)]) ?_
  refine zzv (.bool true) ?_; clear ha; intro a ha
  refine zze ha (ex_alloc [.string (str []), .string (str [])] s rfl (Tryz.zeroValue115 _) (by kernel_rfl)) ?_
  clear ha; rintro _ w a ⟨g3, rfl, s⟩ ha
  refine zzd ha (ex_store (of_ := 0) 0 [.string (str r.key), .string (str r.val)] s rfl rfl (by kernel_rfl) (by kernel_rfl) (Tryz.sizeOf115 _) rfl (by simp [Value.oneCell']) (Nat.le_of_ble_eq_true rfl)) ?_
  clear ha; rintro w a s ha
  dsimp only [List.set, putAt] at s
  refine zv (.bool true) ha ?_; clear ha; intro a ha
  refine zn4 ?_
  refine zv (.bool true) ha ?_
  refine zzv (.pointer (some ⟨g1, 5, none⟩)) ?_
  refine zzw (.bool d.t.is) (zl1 1 5) ?_
  refine zzv (.bool (true == d.t.is)) ?_
  refine zzv (.bool (true == d.t.is)) ?_; clear ha; intro a ha
  rcases Bool.eq_false_or_eq_true (true == d.t.is) with hb | hb
  ·
   rw [hb] at ha; replace hb := eq_of_beq hb
   refine zv (.pointer (some ⟨g3, 1, none⟩)) ha ?_
   refine zzw (.string (str r.val)) (zl1 0 1) ?_
   refine zzv (.pointer (some ⟨g1, 2, none⟩)) ?_
   refine zzw (.string (str d.t.val)) (zl1 1 2) ?_
   refine zzw (.bool (decide (r.val = d.t.val))) (run_seql (p := r.val) (q := d.t.val) rfl (by kernel_rfl) (by kernel_rfl) _) ?_
   refine zzv (.bool (decide (r.val = d.t.val))) ?_
   refine zzv (.bool (decide (r.val = d.t.val))) ?_; clear ha; intro a ha
   refine zn2 ?_
   refine wp_ret ?_
   refine block_ret ?_
   refine then_ret ?_
   refine zzr (v := .bool (decide (r.val = d.t.val))) ha ?_
   replace s := s.at_ (j := 2) rfl
   replace s := s.k1_2
   exact ⟨D, (by rw [well_get_some hop hfd]; revert hb; cases d.t.is <;> simp), (by rw [next_none (by omega) (by omega) (by omega)]; exact hD), s⟩
  rw [hb] at ha; replace hb := ne_of_beq_false hb
  refine zp ha ?_
  iterate 4 refine zzp ?_
  refine zzv (.bool false) ?_
  refine zzv (.bool false) ?_; clear ha; intro a ha
  refine zn2 ?_
  refine wp_ret ?_
  refine block_ret ?_
  refine then_ret ?_
  refine zzr (v := .bool false) ha ?_
  replace s := s.at_ (j := 2) rfl
  replace s := s.k1_2
  exact ⟨D, (by rw [well_get_some hop hfd]; revert hb; cases d.t.is <;> simp), (by rw [next_none (by omega) (by omega) (by omega)]; exact hD), s⟩
 rw [hb] at ha; replace hb := ne_of_beq_false hb
 have n1 := hb
 refine zn1 ?_
 refine zv (.bool (d.t.op == (2 : Int))) ha ?_
 refine zzv (.bool (d.t.op == (2 : Int))) ?_; clear ha; intro a ha
 refine zn2 ?_
 refine zzh (d.t.op == (2 : Int)) ha ?_ ?_ <;> intro hb
 ·
  rw [hb] at ha; replace hb := eq_of_beq hb
  have hop := hb
  refine wp_seq ?_
  refine wp_region_head 6 (fun w => BlkIs g1 (dv d) w ∧ True) (by kernel_rfl) (by decide) ?_
  replace s := s.drew; generalize _root_.Go.World.drew _ = w at s ⊢
  have hS : (fun w => BlkIs g1 (dv d) w ∧ True) w := ⟨s.blkIs 0 rfl, trivial⟩
  refine yk (i := 0) (.map (some g)) ha hS ?_
  refine yyk (i := 1) (.pointer (some ⟨g1, 3, none⟩)) hS ?_
  refine yyv (i := 2) (.agg #[.string (str d.t.frm), .string (str d.t.to)]) (fun w hS => run_loadN (of_ := 3) [.string (str d.t.frm), .string (str d.t.to)] hS.1 rfl (by kernel_rfl) Tryz.isAgg32 Tryz.sizeOf32 rfl (Nat.le_of_ble_eq_true rfl)) hS ?_
  refine yyk (i := 4) (.pointer (some ⟨g1, 6, none⟩)) hS ?_
  refine yyv (i := 5) (.slice d.A d.t.rows.length d.c) (fun w hS => run_load1 (of_ := 6) hS.1 rfl (by kernel_rfl) Tryz.isAgg33 rfl) hS ?_; clear ha; intro a ha
  refine hd_call (i := 3) ha rfl (by kernel_rfl) (by kernel_rfl) (by kernel_rfl) (within_any W hW _ w g D R hD hRn (Knows.mapIs (j := 1) rfl) d.t.frm d.t.to s) ?_
  clear hS; rintro _ w ⟨A4, c5, rfl, s⟩
  have hwl := within_le R d.t.frm d.t.to
  have hS : (fun w => BlkIs g1 (dv d) w ∧ True) w := ⟨s.blkIs 1 rfl, trivial⟩
  refine ⟨_, rfl, hS, ?_⟩; clear ha; intro a ha
  refine Head.done (by kernel_rfl) ?_
  clear hS; simp only [List.drop_succ_cons, List.drop_zero]
  refine zzc ha (equal_any W _ w A4 d.A c5 d.c (within R d.t.frm d.t.to) d.t.rows (Knows.own (j := 0) rfl) (fun w s => hrw w s.tail.tail.tail) hdl s) ?_
  rintro _ w ⟨rfl, s⟩
  refine ⟨_, rfl, ?_⟩; clear ha; intro a ha
  refine zv (.bool (decide ((within R d.t.frm d.t.to) = d.t.rows))) ha ?_; clear ha; intro a ha
  refine zn2 ?_
  refine wp_ret ?_
  refine block_ret ?_
  refine then_ret ?_
  refine zzr (v := .bool (decide ((within R d.t.frm d.t.to) = d.t.rows))) ha ?_
  replace s := s.at_ (j := 2) rfl
  replace s := s.k1_2
  exact ⟨D, (by unfold isWell; rw [if_neg n1, if_pos hop]), (by rw [next_none (by omega) (by omega) (by omega)]; exact hD), s⟩
 rw [hb] at ha; replace hb := ne_of_beq_false hb
 have n2 := hb
 refine zn1 ?_
 refine zv (.bool (d.t.op == (3 : Int))) ha ?_
 refine zzv (.bool (d.t.op == (3 : Int))) ?_; clear ha; intro a ha
 refine zn2 ?_
 refine zzh (d.t.op == (3 : Int)) ha ?_ ?_ <;> intro hb
 ·
  rw [hb] at ha; replace hb := eq_of_beq hb
  have hop := hb
  refine wp_region_lit ?_
  refine zv (.map (some g)) ha ?_
  refine zzv (.pointer (some ⟨g1, 1, none⟩)) ?_
  refine zzw (.string (str d.t.key)) (zl1 0 1) ?_
  refine zzv (.pointer (some ⟨g1, 1, none⟩)) ?_
  refine zzw (.string (str d.t.key)) (zl1 0 1) ?_
  refine zzv (.pointer (some ⟨g1, 2, none⟩)) ?_
  refine zzw (.string (str d.t.val)) (zl1 0 2) ?_
  refine zzv (.agg #[.string (str d.t.key), .string (str d.t.val)]) ?_; clear ha; intro a ha
  refine zzd ha (ex_mapUpdate (a := d.t.key) 1 (.agg #[.string (str d.t.key), .string (str d.t.val)]) s rfl rfl (by kernel_rfl) (by kernel_rfl) (by kernel_rfl) encS_inj keyed9 Tryz.underlying81 (key9 hdk) (by simp only [maxLen]; omega)) ?_
  clear ha; rintro w a s ha
  dsimp only [List.set, putAt] at s
  refine wpList_nil ?_
  refine block_normal ?_
  refine then_normal ?_
  refine zn1 ?_
  refine zv (.bool true) ha ?_; clear ha; intro a ha
  refine zn2 ?_
  refine wp_ret ?_
  refine zzr (v := .bool true) ha ?_
  replace s := s.at_ (j := 1) rfl
  replace s := s.k1_1
  exact ⟨mput D d.t.key (.agg #[.string (str d.t.key), .string (str d.t.val)]), (by rw [well_none (by omega) (by omega)]), (by unfold nextR; rw [if_pos hop]; exact hD.put ⟨d.t.key, d.t.val⟩ hdk), s⟩
 rw [hb] at ha; replace hb := ne_of_beq_false hb
 have n3 := hb
 refine zn1 ?_
 refine zv (.bool (d.t.op == (4 : Int))) ha ?_
 refine zzv (.bool (d.t.op == (4 : Int))) ?_; clear ha; intro a ha
 refine zn2 ?_
 refine zzh (d.t.op == (4 : Int)) ha ?_ ?_ <;> intro hb
 ·
  rw [hb] at ha; replace hb := eq_of_beq hb
  have hop := hb
  refine wp_region_lit ?_
  refine zv (.map (some g)) ha ?_
  refine zzv (.pointer (some ⟨g1, 1, none⟩)) ?_
  refine zzw (.string (str d.t.key)) (zl1 0 1) ?_; clear ha; intro a ha
  refine zze ha (ex_delete (a := d.t.key) 1 s rfl rfl (by kernel_rfl) (by kernel_rfl) encS_inj keyed9 Tryz.underlying81 (key9 hdk)) ?_
  clear ha; rintro _ w a ⟨rfl, s⟩ ha
  refine wpList_nil ?_
  refine block_normal ?_
  refine then_normal ?_
  refine zn1 ?_
  refine zv (.bool true) ha ?_; clear ha; intro a ha
  refine zn2 ?_
  refine wp_ret ?_
  refine zzr (v := .bool true) ha ?_
  replace s := s.at_ (j := 1) rfl
  replace s := s.k1_1
  exact ⟨mdel D d.t.key, (by rw [well_none (by omega) (by omega)]), (by unfold nextR; rw [if_neg n3, if_pos hop]; exact hD.del _), s⟩
 rw [hb] at ha; replace hb := ne_of_beq_false hb
 have n4 := hb
 refine zn1 ?_
 refine zv (.bool (d.t.op == (5 : Int))) ha ?_
 refine zzv (.bool (d.t.op == (5 : Int))) ?_; clear ha; intro a ha
 refine zn2 ?_
 refine zzh (d.t.op == (5 : Int)) ha ?_ ?_ <;> intro hb
 ·
  rw [hb] at ha; replace hb := eq_of_beq hb
  have hop := hb
  refine zn1 ?_
  refine zv (.map (some g)) ha ?_
  refine zzv (.pointer (some ⟨g1, 3, none⟩)) ?_
  refine zzw (.agg #[.string (str d.t.frm), .string (str d.t.to)]) (zln 0 3) ?_; clear ha; intro a ha
  refine zzc ha (within_any W hW _ w g D R hD hRn (Knows.mapIs (j := 1) rfl) d.t.frm d.t.to s) ?_
  rintro _ w ⟨A6, c7, rfl, s⟩
  have hwl := within_le R d.t.frm d.t.to
  refine ⟨_, rfl, ?_⟩; clear ha; intro a ha
  refine zv (.int .i64 (((within R d.t.frm d.t.to).length : Nat) : Int)) ha ?_
  refine zzv (.int .i64 0) ?_; clear ha; intro a ha
  refine zn2 ?_
  refine wp_block ?_
  replace s := (s.at_ (j := 2) rfl).at_ (j := 1) rfl
  replace s := s.k2_1
  refine wp_loopG (G := (Nat × List (List UInt8 × Value))) (fun ⟨k, D2⟩ a w => Has a 70 [(0, .map (some g)), (60, .slice A6 ((within R d.t.frm d.t.to).length) c7), (61, .int .i64 (((within R d.t.frm d.t.to).length : Nat) : Int)), (62, .int .i64 ((k : Nat) : Int))] ∧ St W (Own 115 2 A6 ((within R d.t.frm d.t.to).length) c7 (rws (within R d.t.frm d.t.to)) :: MapT Tryz.prog 9 encS g D2 :: L) w ∧ (k ≤ (within R d.t.frm d.t.to).length ∧ Of D2 (dropK R ((within R d.t.frm d.t.to).take k)))) (fun ⟨k, D2⟩ => (within R d.t.frm d.t.to).length - k) (0, D) ?_ ?_
  ·
   exact ⟨(Has.cons ha (by kernel_rfl) (by kernel_rfl) (Has.cons ha (by kernel_rfl) (by kernel_rfl) (Has.cons ha (by kernel_rfl) (by kernel_rfl) (Has.cons ha (by kernel_rfl) (by kernel_rfl) (Has.nil ha))))), s, ⟨Nat.zero_le _, hD⟩⟩
  clear ha s; rintro ⟨k, D2⟩ a w ⟨ha, s, hp⟩
  refine zn1 ?_
  refine zv (.bool (decide (((k : Nat) : Int) < (((within R d.t.frm d.t.to).length : Nat) : Int)))) ha ?_; clear ha; intro a ha
  refine zn2 ?_
  refine wp_seq ?_
  refine zzh (decide (((k : Nat) : Int) < (((within R d.t.frm d.t.to).length : Nat) : Int))) ha ?_ ?_ <;> intro hb
  ·
   rw [hb] at ha; replace hb : (((k : Nat) : Int) < (((within R d.t.frm d.t.to).length : Nat) : Int)) := of_decide_eq_true hb
   have hD2 := hp.2
   obtain ⟨x, hx⟩ : ∃ x, (within R d.t.frm d.t.to)[k]? = some x := ⟨_, List.getElem?_eq_getElem (by omega)⟩
   have hxk : x.key.length ≤ 140737488351232 := hD.2.2 x (List.mem_filter.1 (List.mem_of_getElem? hx)).1
   obtain ⟨ad8, hA⟩ := Own.addr (s.at_ (j := 0) rfl) (by omega)
   subst hA
   refine wp_skip ?_
   refine then_normal ?_
   refine wp_seq ?_
   refine wp_block ?_
   refine zn1 ?_
   refine zw (.pointer (some (ad8.add (k * 2)))) ha (run_indexAddr' (kd := .i64) (i := ((k : Nat) : Int)) (n := ((within R d.t.frm d.t.to).length)) (c := c7) k rfl Tryz.underlying33 Tryz.sizeOf115 (by kernel_rfl) (by kernel_rfl) rfl (by first | assumption | omega) _) ?_
   refine zzw (.agg #[.string (str x.key), .string (str x.val)]) (run_loadAtN (i := k * 2) [.string (str x.key), .string (str x.val)] ((Own.reads (s.at_ (j := 0) rfl).1)) rfl (by kernel_rfl) Tryz.isAgg115 Tryz.sizeOf115 (fun q_ hq_ => rws_at hx hq_) rfl) ?_; clear ha; intro a ha
   refine zze ha (ex_alloc [.string (str []), .string (str [])] s rfl (Tryz.zeroValue115 _) (by kernel_rfl)) ?_
   clear ha; rintro _ w a ⟨g9, rfl, s⟩ ha
   refine zzd ha (ex_store (of_ := 0) 0 [.string (str x.key), .string (str x.val)] s rfl rfl (by kernel_rfl) (by kernel_rfl) (Tryz.sizeOf115 _) rfl (by simp [Value.oneCell']) (Nat.le_of_ble_eq_true rfl)) ?_
   clear ha; rintro w a s ha
   dsimp only [List.set, putAt] at s
   refine zn3 ?_
   refine zv (.map (some g)) ha ?_
   refine zzv (.pointer (some ⟨g9, 0, none⟩)) ?_
   refine zzw (.string (str x.key)) (zl1 0 0) ?_; clear ha; intro a ha
   refine zze ha (ex_delete (a := x.key) 2 s rfl rfl (by kernel_rfl) (by kernel_rfl) encS_inj keyed9 Tryz.underlying81 (key9 hxk)) ?_
   clear ha; rintro _ w a ⟨rfl, s⟩ ha
   refine wpList_nil ?_
   refine block_normal ?_
   refine then_normal ?_
   refine wp_region_lit ?_
   refine zw (.int .i64 ((k + 1 : Nat) : Int)) ha zar ?_
   refine zzv (.int .i64 ((k + 1 : Nat) : Int)) ?_; clear ha; intro a ha
   refine zn2 ?_
   replace s := (s.at_ (j := 2) rfl).at_ (j := 2) rfl
   replace s := s.k2_1
   exact ⟨(k + 1, mdel D2 x.key), (show (within R d.t.frm d.t.to).length - (k + 1) < (within R d.t.frm d.t.to).length - k by omega), (Has.cons ha (by kernel_rfl) (by kernel_rfl) (Has.cons ha (by kernel_rfl) (by kernel_rfl) (Has.cons ha (by kernel_rfl) (by kernel_rfl) (Has.cons ha (by kernel_rfl) (by kernel_rfl) (Has.nil ha))))), s, (show k + 1 ≤ (within R d.t.frm d.t.to).length by omega), by rw [take_snoc hx]; exact hD2.drop_next x⟩
  rw [hb] at ha; replace hb : ¬ (((k : Nat) : Int) < (((within R d.t.frm d.t.to).length : Nat) : Int)) := of_decide_eq_false hb
  have hk : k = (within R d.t.frm d.t.to).length := by omega
  have hD2 := hp.2
  rw [hk, List.take_length, dropK_within hD.2.1] at hD2
  refine wp_exit ?_
  refine then_exit ?_
  refine then_exit ?_
  refine block_hit ?_
  refine block_normal ?_
  refine then_normal ?_
  refine zn1 ?_
  refine zv (.bool true) ha ?_; clear ha; intro a ha
  refine zn2 ?_
  refine wp_ret ?_
  refine zzr (v := .bool true) ha ?_
  replace s := s.at_ (j := 1) rfl
  replace s := s.k1_1
  exact ⟨D2, (by rw [well_none (by omega) (by omega)]), (by unfold nextR; rw [if_neg n3, if_neg n4, if_pos hop]; exact hD2), s⟩
 rw [hb] at ha; replace hb := ne_of_beq_false hb
 have n5 := hb
 refine wp_skip ?_
 refine block_normal ?_
 refine then_normal ?_
 refine zn1 ?_
 refine zv (.bool true) ha ?_; clear ha; intro a ha
 refine zn2 ?_
 refine wp_ret ?_
 refine zzr (v := .bool true) ha ?_
 replace s := s.at_ (j := 1) rfl
 replace s := s.k1_1
 exact ⟨D, (by rw [well_none (by omega) (by omega)]), (by rw [next_none n3 n4 n5]; exact hD), s⟩

end Go.Proofs.YtfcbjcohepkkfaaGreat.B
