import Derived.Test.YtfcbjcohepkkfaaB4
namespace Go.Proofs.Ytfcbjcohepkkfaa.B
open Go.RowKit Go.Maps Go.Sort Go.Shelf Go.Proofs.Ytfcbjcohepkkfaa.Sep Go.Proofs.Ytfcbjcohepkkfaa.P
set_option linter.unusedVariables false
set_option linter.unusedSimpArgs false
theorem next_none {R : List Rw} {d : Td} (h3 : d.op ≠ 3) (h4 : d.op ≠ 4) (h5 : d.op ≠ 5) : nextR R d = R := by unfold nextR; rw [if_neg h3, if_neg h4, if_neg h5]
theorem well_get_none {R : List Rw} {d : Td} (h1 : d.op = 1) (hf : R.find? (fun x => decide (x.key = d.key)) = none) : isWell R d = (!d.is && decide ([] = d.val)) := by
  unfold isWell lookR
  rw [if_pos h1, hf]
  show (!d.is && decide (d.val = [])) = _
  congr 1
  exact decide_eq_decide.2 ⟨Eq.symm, Eq.symm⟩
theorem well_get_some {R : List Rw} {d : Td} {r : Rw} (h1 : d.op = 1) (hf : R.find? (fun x => decide (x.key = d.key)) = some r) : isWell R d = (d.is && decide (r.val = d.val)) := by
  unfold isWell lookR
  rw [if_pos h1, hf]
  rfl
theorem well_none {R : List Rw} {d : Td} (h1 : d.op ≠ 1) (h2 : d.op ≠ 2) : isWell R d = true := by unfold isWell; rw [if_neg h1, if_neg h2]
theorem Of.drop_next {D : List (List UInt8 × Value)} {R l : List Rw} (h : Of D (dropK R l)) (x : Rw) : Of (mdel D x.key) (dropK R (l ++ [x])) := by rw [dropK_snoc]; exact h.del _
/-- What was found so far, in the variables of the one who looks. -/
def fst (f : Option (Nat × Nat)) : Nat := (f.map (·.1)).getD 0
def snd (f : Option (Nat × Nat)) : Nat := (f.map (·.2)).getD 0
theorem or_some {f : Option (Nat × Nat)} (h : f.isSome = true) (x : Nat × Nat) : f.or (some x) = f := by cases f <;> simp at *
theorem or_none {f : Option (Nat × Nat)} (h : f.isSome = false) (x : Nat × Nat) : f.or (some x) = some x := by cases f <;> simp at *

set_option maxRecDepth 100000 in
set_option maxHeartbeats 2000000 in
theorem do_any (W : World) (hW : W.drawn = 0) (L : List Chunk) (w : World) (g : Nat) (D : List (List UInt8 × Value)) (R : List Rw) (hD : Of D R) (hRn : R.length ≤ 1000000) (d : Dd) (hrw : Knows L fun w => Reads w 2 d.A d.t.rows.length (rws d.t.rows)) (hdl : d.t.rows.length ≤ 140737488351232) (hdk : d.t.key.length ≤ 140737488351232) (s : St W (MapT Try.prog 9 encS g D :: L) w) :
    Calls Try.prog 36 #[.map (some g), .agg #[.int .i64 d.t.op, .string (str d.t.key), .string (str d.t.val), .string (str d.t.frm), .string (str d.t.to), .bool d.t.is, .slice d.A d.t.rows.length d.c]] w fun e w' => ∃ D', e = .returned (.bool (isWell R d.t)) ∧ Of D' (nextR R d.t) ∧ St W (MapT Try.prog 9 encS g D' :: L) w' := by
  have hDl := hD.length
  refine enter_args (l := [.map (some g), .agg #[.int .i64 d.t.op, .string (str d.t.key), .string (str d.t.val), .string (str d.t.frm), .string (str d.t.to), .bool d.t.is, .slice d.A d.t.rows.length d.c]]) Try.func36 rfl rfl (Nat.le_of_ble_eq_true rfl) ?_
  intro a ha; replace ha : Has a 70 [(0, .map (some g)), (1, .agg #[.int .i64 d.t.op, .string (str d.t.key), .string (str d.t.val), .string (str d.t.frm), .string (str d.t.to), .bool d.t.is, .slice d.A d.t.rows.length d.c])] := ha
  refine wp_seq ?_
  refine wp_region_lit ?_
  refine st_ex ha (by kernel_rfl) (ex_box [.int .i64 d.t.op, .string (str d.t.key), .string (str d.t.val), .string (str d.t.frm), .string (str d.t.to), .bool d.t.is, .slice d.A d.t.rows.length d.c] s rfl (by kernel_rfl)) ?_
  clear ha; rintro _ w a ⟨g1, rfl, s⟩ ha
  replace s : St W (.blk g1 [.int .i64 d.t.op, .string (str d.t.key), .string (str d.t.val), .string (str d.t.frm), .string (str d.t.to), .bool d.t.is, .slice d.A d.t.rows.length d.c] 74 :: MapT Try.prog 9 encS g D :: L) w := s
  refine st_val (.bool false) ha (by kernel_rfl) (by kernel_rfl) ?_
  clear ha; intro a ha
  refine wpList_nil ?_
  refine then_normal ?_
  refine wp_seq ?_
  refine wp_seq ?_
  refine wp_region_lit ?_
  refine st_val (.pointer (some ⟨g1, 0, none⟩)) ha (by kernel_rfl) (by kernel_rfl) ?_
  clear ha; intro a ha
  refine st_val (.int .i64 d.t.op) ha (by kernel_rfl) (run_load1 (of_ := 0) (s.blkIs 0 rfl) rfl (by kernel_rfl) Try.isAgg3 rfl) ?_
  clear ha; intro a ha
  refine wpList_nil ?_
  refine then_normal ?_
  refine wp_block ?_
  refine wp_seq ?_
  refine wp_region_lit ?_
  refine st_val (.bool (d.t.op == (1 : Int))) ha (by kernel_rfl) (by kernel_rfl) ?_
  clear ha; intro a ha
  refine st_val (.bool (d.t.op == (1 : Int))) ha (by kernel_rfl) (by kernel_rfl) ?_
  clear ha; intro a ha
  refine wpList_nil ?_
  refine then_normal ?_
  refine wp_part (d.t.op == (1 : Int)) ha rfl (by kernel_rfl) (fun hb => ?_) (fun hb => ?_)
  · rw [hb] at ha; have hb_ := hb; replace hb := eq_of_beq hb
    have hop := hb
    refine wp_seq ?_
    refine wp_region_lit ?_
    refine st_val (.map (some g)) ha (by kernel_rfl) (by kernel_rfl) ?_
    clear ha; intro a ha
    refine st_val (.pointer (some ⟨g1, 1, none⟩)) ha (by kernel_rfl) (by kernel_rfl) ?_
    clear ha; intro a ha
    refine st_val (.string (str d.t.key)) ha (by kernel_rfl) (run_load1 (of_ := 1) (s.blkIs 0 rfl) rfl (by kernel_rfl) Try.isAgg9 rfl) ?_
    clear ha; intro a ha
    rcases hfd : R.find? (fun x => decide (x.key = d.t.key)) with _ | r
    · skip
      refine st_val (.tuple #[.agg #[.string (str []), .string (str [])], .bool false]) ha (by kernel_rfl) (run_lookup_ok (a := d.t.key) (.agg #[.string (str []), .string (str [])]) false (s.mapIs 1 rfl) rfl (by kernel_rfl) (by kernel_rfl) encS_inj keyed9 Try.underlying76 Try.zeroValue92 (key9 hdk) (by rw [hD.get, hfd]; rfl) (by rw [hD.get, hfd]; rfl)) ?_
      clear ha; intro a ha
      refine st_val (.tuple #[.agg #[.string (str []), .string (str [])], .bool false]) ha (by kernel_rfl) (by kernel_rfl) ?_
      clear ha; intro a ha
      refine st_val (.agg #[.string (str []), .string (str [])]) ha (by kernel_rfl) (by kernel_rfl) ?_
      clear ha; intro a ha
      refine st_val (.bool false) ha (by kernel_rfl) (by kernel_rfl) ?_
      clear ha; intro a ha
      refine st_ex ha (by kernel_rfl) (ex_alloc [.string (str []), .string (str [])] s rfl (Try.zeroValue92 _) (by kernel_rfl)) ?_
      clear ha; rintro _ w a ⟨g2, rfl, s⟩ ha
      replace s : St W (.blk g2 [.string (str []), .string (str [])] 92 :: .blk g1 [.int .i64 d.t.op, .string (str d.t.key), .string (str d.t.val), .string (str d.t.frm), .string (str d.t.to), .bool d.t.is, .slice d.A d.t.rows.length d.c] 74 :: MapT Try.prog 9 encS g D :: L) w := s
      refine st_exd ha (by kernel_rfl) (ex_store (of_ := 0) 0 [.string (str []), .string (str [])] s rfl rfl (by kernel_rfl) (by kernel_rfl) (Try.sizeOf92 _) rfl (by simp [Value.oneCell']) (Nat.le_of_ble_eq_true rfl)) ?_
      clear ha; rintro w a s ha
      replace s : St W (.blk g2 [.string (str []), .string (str [])] 92 :: .blk g1 [.int .i64 d.t.op, .string (str d.t.key), .string (str d.t.val), .string (str d.t.frm), .string (str d.t.to), .bool d.t.is, .slice d.A d.t.rows.length d.c] 74 :: MapT Try.prog 9 encS g D :: L) w := s
      refine st_val (.bool false) ha (by kernel_rfl) (by kernel_rfl) ?_
      clear ha; intro a ha
      refine wpList_nil ?_
      refine then_normal ?_
      refine wp_seq ?_
      refine wp_region_lit ?_
      refine st_val (.bool false) ha (by kernel_rfl) (by kernel_rfl) ?_
      clear ha; intro a ha
      refine st_val (.pointer (some ⟨g1, 5, none⟩)) ha (by kernel_rfl) (by kernel_rfl) ?_
      clear ha; intro a ha
      refine st_val (.bool d.t.is) ha (by kernel_rfl) (run_load1 (of_ := 5) (s.blkIs 1 rfl) rfl (by kernel_rfl) Try.isAgg4 rfl) ?_
      clear ha; intro a ha
      refine st_val (.bool (false == d.t.is)) ha (by kernel_rfl) (by kernel_rfl) ?_
      clear ha; intro a ha
      refine st_val (.bool (false == d.t.is)) ha (by kernel_rfl) (by kernel_rfl) ?_
      clear ha; intro a ha
      rcases Bool.eq_false_or_eq_true (false == d.t.is) with hb | hb
      · rw [hb] at ha; have hb_ := hb; replace hb := eq_of_beq hb
        refine st_val (.pointer (some ⟨g2, 1, none⟩)) ha (by kernel_rfl) (by kernel_rfl) ?_
        clear ha; intro a ha
        refine st_val (.string (str [])) ha (by kernel_rfl) (run_load1 (of_ := 1) (s.blkIs 0 rfl) rfl (by kernel_rfl) Try.isAgg9 rfl) ?_
        clear ha; intro a ha
        refine st_val (.pointer (some ⟨g1, 2, none⟩)) ha (by kernel_rfl) (by kernel_rfl) ?_
        clear ha; intro a ha
        refine st_val (.string (str d.t.val)) ha (by kernel_rfl) (run_load1 (of_ := 2) (s.blkIs 1 rfl) rfl (by kernel_rfl) Try.isAgg9 rfl) ?_
        clear ha; intro a ha
        refine st_val (.bool (decide ([] = d.t.val))) ha (by kernel_rfl) (run_seql (p := []) (q := d.t.val) rfl (by kernel_rfl) (by kernel_rfl) _) ?_
        clear ha; intro a ha
        refine st_val (.bool (decide ([] = d.t.val))) ha (by kernel_rfl) (by kernel_rfl) ?_
        clear ha; intro a ha
        refine st_val (.bool (decide ([] = d.t.val))) ha (by kernel_rfl) (by kernel_rfl) ?_
        clear ha; intro a ha
        refine wpList_nil ?_
        refine then_normal ?_
        refine wp_ret ?_
        refine block_ret ?_
        refine then_ret ?_
        refine ret_with (v := .bool (decide ([] = d.t.val))) ha (results_1 rfl ha (res_tmp (by kernel_rfl) (by kernel_rfl))) ?_
        replace s := s.at_ (j := 2) rfl
        replace s : St W (MapT Try.prog 9 encS g D :: .blk g2 [.string (str []), .string (str [])] 92 :: .blk g1 [.int .i64 d.t.op, .string (str d.t.key), .string (str d.t.val), .string (str d.t.frm), .string (str d.t.to), .bool d.t.is, .slice d.A d.t.rows.length d.c] 74 :: L) w := s
        replace s : St W (MapT Try.prog 9 encS g D :: L) w := St.mid (A := [MapT Try.prog 9 encS g D]) (B := [.blk g2 [.string (str []), .string (str [])] 92, .blk g1 [.int .i64 d.t.op, .string (str d.t.key), .string (str d.t.val), .string (str d.t.frm), .string (str d.t.to), .bool d.t.is, .slice d.A d.t.rows.length d.c] 74]) s
        exact ⟨D, (by rw [well_get_none hop hfd]; revert hb; cases d.t.is <;> simp), (by rw [next_none (by omega) (by omega) (by omega)]; exact hD), s⟩
      · rw [hb] at ha; have hb_ := hb; replace hb := ne_of_beq_false hb
        refine st_pass ha (by kernel_rfl) ?_
        clear ha; intro a ha
        refine st_pass ha (by kernel_rfl) ?_
        clear ha; intro a ha
        refine st_pass ha (by kernel_rfl) ?_
        clear ha; intro a ha
        refine st_pass ha (by kernel_rfl) ?_
        clear ha; intro a ha
        refine st_pass ha (by kernel_rfl) ?_
        clear ha; intro a ha
        refine st_val (.bool false) ha (by kernel_rfl) (by kernel_rfl) ?_
        clear ha; intro a ha
        refine st_val (.bool false) ha (by kernel_rfl) (by kernel_rfl) ?_
        clear ha; intro a ha
        refine wpList_nil ?_
        refine then_normal ?_
        refine wp_ret ?_
        refine block_ret ?_
        refine then_ret ?_
        refine ret_with (v := .bool false) ha (results_1 rfl ha (res_tmp (by kernel_rfl) (by kernel_rfl))) ?_
        replace s := s.at_ (j := 2) rfl
        replace s : St W (MapT Try.prog 9 encS g D :: .blk g2 [.string (str []), .string (str [])] 92 :: .blk g1 [.int .i64 d.t.op, .string (str d.t.key), .string (str d.t.val), .string (str d.t.frm), .string (str d.t.to), .bool d.t.is, .slice d.A d.t.rows.length d.c] 74 :: L) w := s
        replace s : St W (MapT Try.prog 9 encS g D :: L) w := St.mid (A := [MapT Try.prog 9 encS g D]) (B := [.blk g2 [.string (str []), .string (str [])] 92, .blk g1 [.int .i64 d.t.op, .string (str d.t.key), .string (str d.t.val), .string (str d.t.frm), .string (str d.t.to), .bool d.t.is, .slice d.A d.t.rows.length d.c] 74]) s
        exact ⟨D, (by rw [well_get_none hop hfd]; revert hb; cases d.t.is <;> simp), (by rw [next_none (by omega) (by omega) (by omega)]; exact hD), s⟩
    · skip
      refine st_val (.tuple #[.agg #[.string (str r.key), .string (str r.val)], .bool true]) ha (by kernel_rfl) (run_lookup_ok (a := d.t.key) (.agg #[.string (str r.key), .string (str r.val)]) true (s.mapIs 1 rfl) rfl (by kernel_rfl) (by kernel_rfl) encS_inj keyed9 Try.underlying76 Try.zeroValue92 (key9 hdk) (by rw [hD.get, hfd]; rfl) (by rw [hD.get, hfd]; rfl)) ?_
      clear ha; intro a ha
      refine st_val (.tuple #[.agg #[.string (str r.key), .string (str r.val)], .bool true]) ha (by kernel_rfl) (by kernel_rfl) ?_
      clear ha; intro a ha
      refine st_val (.agg #[.string (str r.key), .string (str r.val)]) ha (by kernel_rfl) (by kernel_rfl) ?_
      clear ha; intro a ha
      refine st_val (.bool true) ha (by kernel_rfl) (by kernel_rfl) ?_
      clear ha; intro a ha
      refine st_ex ha (by kernel_rfl) (ex_alloc [.string (str []), .string (str [])] s rfl (Try.zeroValue92 _) (by kernel_rfl)) ?_
      clear ha; rintro _ w a ⟨g3, rfl, s⟩ ha
      replace s : St W (.blk g3 [.string (str []), .string (str [])] 92 :: .blk g1 [.int .i64 d.t.op, .string (str d.t.key), .string (str d.t.val), .string (str d.t.frm), .string (str d.t.to), .bool d.t.is, .slice d.A d.t.rows.length d.c] 74 :: MapT Try.prog 9 encS g D :: L) w := s
      refine st_exd ha (by kernel_rfl) (ex_store (of_ := 0) 0 [.string (str r.key), .string (str r.val)] s rfl rfl (by kernel_rfl) (by kernel_rfl) (Try.sizeOf92 _) rfl (by simp [Value.oneCell']) (Nat.le_of_ble_eq_true rfl)) ?_
      clear ha; rintro w a s ha
      replace s : St W (.blk g3 [.string (str r.key), .string (str r.val)] 92 :: .blk g1 [.int .i64 d.t.op, .string (str d.t.key), .string (str d.t.val), .string (str d.t.frm), .string (str d.t.to), .bool d.t.is, .slice d.A d.t.rows.length d.c] 74 :: MapT Try.prog 9 encS g D :: L) w := s
      refine st_val (.bool true) ha (by kernel_rfl) (by kernel_rfl) ?_
      clear ha; intro a ha
      refine wpList_nil ?_
      refine then_normal ?_
      refine wp_seq ?_
      refine wp_region_lit ?_
      refine st_val (.bool true) ha (by kernel_rfl) (by kernel_rfl) ?_
      clear ha; intro a ha
      refine st_val (.pointer (some ⟨g1, 5, none⟩)) ha (by kernel_rfl) (by kernel_rfl) ?_
      clear ha; intro a ha
      refine st_val (.bool d.t.is) ha (by kernel_rfl) (run_load1 (of_ := 5) (s.blkIs 1 rfl) rfl (by kernel_rfl) Try.isAgg4 rfl) ?_
      clear ha; intro a ha
      refine st_val (.bool (true == d.t.is)) ha (by kernel_rfl) (by kernel_rfl) ?_
      clear ha; intro a ha
      refine st_val (.bool (true == d.t.is)) ha (by kernel_rfl) (by kernel_rfl) ?_
      clear ha; intro a ha
      rcases Bool.eq_false_or_eq_true (true == d.t.is) with hb | hb
      · rw [hb] at ha; have hb_ := hb; replace hb := eq_of_beq hb
        refine st_val (.pointer (some ⟨g3, 1, none⟩)) ha (by kernel_rfl) (by kernel_rfl) ?_
        clear ha; intro a ha
        refine st_val (.string (str r.val)) ha (by kernel_rfl) (run_load1 (of_ := 1) (s.blkIs 0 rfl) rfl (by kernel_rfl) Try.isAgg9 rfl) ?_
        clear ha; intro a ha
        refine st_val (.pointer (some ⟨g1, 2, none⟩)) ha (by kernel_rfl) (by kernel_rfl) ?_
        clear ha; intro a ha
        refine st_val (.string (str d.t.val)) ha (by kernel_rfl) (run_load1 (of_ := 2) (s.blkIs 1 rfl) rfl (by kernel_rfl) Try.isAgg9 rfl) ?_
        clear ha; intro a ha
        refine st_val (.bool (decide (r.val = d.t.val))) ha (by kernel_rfl) (run_seql (p := r.val) (q := d.t.val) rfl (by kernel_rfl) (by kernel_rfl) _) ?_
        clear ha; intro a ha
        refine st_val (.bool (decide (r.val = d.t.val))) ha (by kernel_rfl) (by kernel_rfl) ?_
        clear ha; intro a ha
        refine st_val (.bool (decide (r.val = d.t.val))) ha (by kernel_rfl) (by kernel_rfl) ?_
        clear ha; intro a ha
        refine wpList_nil ?_
        refine then_normal ?_
        refine wp_ret ?_
        refine block_ret ?_
        refine then_ret ?_
        refine ret_with (v := .bool (decide (r.val = d.t.val))) ha (results_1 rfl ha (res_tmp (by kernel_rfl) (by kernel_rfl))) ?_
        replace s := s.at_ (j := 2) rfl
        replace s : St W (MapT Try.prog 9 encS g D :: .blk g3 [.string (str r.key), .string (str r.val)] 92 :: .blk g1 [.int .i64 d.t.op, .string (str d.t.key), .string (str d.t.val), .string (str d.t.frm), .string (str d.t.to), .bool d.t.is, .slice d.A d.t.rows.length d.c] 74 :: L) w := s
        replace s : St W (MapT Try.prog 9 encS g D :: L) w := St.mid (A := [MapT Try.prog 9 encS g D]) (B := [.blk g3 [.string (str r.key), .string (str r.val)] 92, .blk g1 [.int .i64 d.t.op, .string (str d.t.key), .string (str d.t.val), .string (str d.t.frm), .string (str d.t.to), .bool d.t.is, .slice d.A d.t.rows.length d.c] 74]) s
        exact ⟨D, (by rw [well_get_some hop hfd]; revert hb; cases d.t.is <;> simp), (by rw [next_none (by omega) (by omega) (by omega)]; exact hD), s⟩
      · rw [hb] at ha; have hb_ := hb; replace hb := ne_of_beq_false hb
        refine st_pass ha (by kernel_rfl) ?_
        clear ha; intro a ha
        refine st_pass ha (by kernel_rfl) ?_
        clear ha; intro a ha
        refine st_pass ha (by kernel_rfl) ?_
        clear ha; intro a ha
        refine st_pass ha (by kernel_rfl) ?_
        clear ha; intro a ha
        refine st_pass ha (by kernel_rfl) ?_
        clear ha; intro a ha
        refine st_val (.bool false) ha (by kernel_rfl) (by kernel_rfl) ?_
        clear ha; intro a ha
        refine st_val (.bool false) ha (by kernel_rfl) (by kernel_rfl) ?_
        clear ha; intro a ha
        refine wpList_nil ?_
        refine then_normal ?_
        refine wp_ret ?_
        refine block_ret ?_
        refine then_ret ?_
        refine ret_with (v := .bool false) ha (results_1 rfl ha (res_tmp (by kernel_rfl) (by kernel_rfl))) ?_
        replace s := s.at_ (j := 2) rfl
        replace s : St W (MapT Try.prog 9 encS g D :: .blk g3 [.string (str r.key), .string (str r.val)] 92 :: .blk g1 [.int .i64 d.t.op, .string (str d.t.key), .string (str d.t.val), .string (str d.t.frm), .string (str d.t.to), .bool d.t.is, .slice d.A d.t.rows.length d.c] 74 :: L) w := s
        replace s : St W (MapT Try.prog 9 encS g D :: L) w := St.mid (A := [MapT Try.prog 9 encS g D]) (B := [.blk g3 [.string (str r.key), .string (str r.val)] 92, .blk g1 [.int .i64 d.t.op, .string (str d.t.key), .string (str d.t.val), .string (str d.t.frm), .string (str d.t.to), .bool d.t.is, .slice d.A d.t.rows.length d.c] 74]) s
        exact ⟨D, (by rw [well_get_some hop hfd]; revert hb; cases d.t.is <;> simp), (by rw [next_none (by omega) (by omega) (by omega)]; exact hD), s⟩
  · rw [hb] at ha; have hb_ := hb; replace hb := ne_of_beq_false hb
    have n1 := hb
    refine wp_seq ?_
    refine wp_region_lit ?_
    refine st_val (.bool (d.t.op == (2 : Int))) ha (by kernel_rfl) (by kernel_rfl) ?_
    clear ha; intro a ha
    refine st_val (.bool (d.t.op == (2 : Int))) ha (by kernel_rfl) (by kernel_rfl) ?_
    clear ha; intro a ha
    refine wpList_nil ?_
    refine then_normal ?_
    refine wp_part (d.t.op == (2 : Int)) ha rfl (by kernel_rfl) (fun hb => ?_) (fun hb => ?_)
    · rw [hb] at ha; have hb_ := hb; replace hb := eq_of_beq hb
      have hop := hb
      refine wp_seq ?_
      refine wp_region_head 6 (fun w => BlkIs g1 [.int .i64 d.t.op, .string (str d.t.key), .string (str d.t.val), .string (str d.t.frm), .string (str d.t.to), .bool d.t.is, .slice d.A d.t.rows.length d.c] w ∧ True) (by kernel_rfl) (by decide) ?_
      replace s := s.drew; generalize _root_.Go.World.drew _ = w at s ⊢
      have hS : (fun w => BlkIs g1 [.int .i64 d.t.op, .string (str d.t.key), .string (str d.t.val), .string (str d.t.frm), .string (str d.t.to), .bool d.t.is, .slice d.A d.t.rows.length d.c] w ∧ True) w := ⟨s.blkIs 0 rfl, trivial⟩
      refine hd_val (i := 0) (.map (some g)) ha rfl (by kernel_rfl) (fun _ _ _ h => h) (by kernel_rfl) (fun w hS => (by kernel_rfl)) hS ?_
      clear ha; intro a ha
      refine hd_val (i := 1) (.pointer (some ⟨g1, 3, none⟩)) ha rfl (by kernel_rfl) (fun _ _ _ h => h) (by kernel_rfl) (fun w hS => (by kernel_rfl)) hS ?_
      clear ha; intro a ha
      refine hd_val (i := 2) (.agg #[.string (str d.t.frm), .string (str d.t.to)]) ha rfl (by kernel_rfl) (fun _ _ _ h => h) (by kernel_rfl) (fun w hS => run_loadN (of_ := 3) [.string (str d.t.frm), .string (str d.t.to)] hS.1 rfl (by kernel_rfl) Try.isAgg31 Try.sizeOf31 rfl (Nat.le_of_ble_eq_true rfl)) hS ?_
      clear ha; intro a ha
      refine hd_val (i := 4) (.pointer (some ⟨g1, 6, none⟩)) ha rfl (by kernel_rfl) (fun _ _ _ h => h) (by kernel_rfl) (fun w hS => (by kernel_rfl)) hS ?_
      clear ha; intro a ha
      refine hd_val (i := 5) (.slice d.A d.t.rows.length d.c) ha rfl (by kernel_rfl) (fun _ _ _ h => h) (by kernel_rfl) (fun w hS => run_load1 (of_ := 6) hS.1 rfl (by kernel_rfl) Try.isAgg32 rfl) hS ?_
      clear ha; intro a ha
      refine hd_call (i := 3) ha rfl (by kernel_rfl) (by kernel_rfl) (by kernel_rfl) (within_any W hW _ w g D R hD hRn (Knows.mapIs (j := 1) rfl) d.t.frm d.t.to s) ?_
      clear hS; rintro _ w ⟨A4, c5, rfl, s⟩
      have hwl := within_le R d.t.frm d.t.to
      replace s : St W (Own 92 2 A4 ((within R d.t.frm d.t.to).length) c5 (rws (within R d.t.frm d.t.to)) :: .blk g1 [.int .i64 d.t.op, .string (str d.t.key), .string (str d.t.val), .string (str d.t.frm), .string (str d.t.to), .bool d.t.is, .slice d.A d.t.rows.length d.c] 74 :: MapT Try.prog 9 encS g D :: L) w := s
      have hS : (fun w => BlkIs g1 [.int .i64 d.t.op, .string (str d.t.key), .string (str d.t.val), .string (str d.t.frm), .string (str d.t.to), .bool d.t.is, .slice d.A d.t.rows.length d.c] w ∧ True) w := ⟨s.blkIs 1 rfl, trivial⟩
      refine ⟨_, rfl, hS, ?_⟩; clear ha; intro a ha
      refine Head.done (by kernel_rfl) ?_
      clear hS; simp only [List.drop_succ_cons, List.drop_zero]
      refine st_call ha (by kernel_rfl) (by kernel_rfl) (equal_any W _ w A4 d.A c5 d.c (within R d.t.frm d.t.to) d.t.rows (Knows.own (j := 0) rfl) (fun w s => hrw w s.tail.tail.tail) hdl s) ?_
      rintro _ w ⟨rfl, s⟩
      replace s : St W (Own 92 2 A4 ((within R d.t.frm d.t.to).length) c5 (rws (within R d.t.frm d.t.to)) :: .blk g1 [.int .i64 d.t.op, .string (str d.t.key), .string (str d.t.val), .string (str d.t.frm), .string (str d.t.to), .bool d.t.is, .slice d.A d.t.rows.length d.c] 74 :: MapT Try.prog 9 encS g D :: L) w := s
      refine ⟨_, rfl, ?_⟩; clear ha; intro a ha
      refine st_val (.bool (decide ((within R d.t.frm d.t.to) = d.t.rows))) ha (by kernel_rfl) (by kernel_rfl) ?_
      clear ha; intro a ha
      refine wpList_nil ?_
      refine then_normal ?_
      refine wp_ret ?_
      refine block_ret ?_
      refine then_ret ?_
      refine ret_with (v := .bool (decide ((within R d.t.frm d.t.to) = d.t.rows))) ha (results_1 rfl ha (res_tmp (by kernel_rfl) (by kernel_rfl))) ?_
      replace s := s.at_ (j := 2) rfl
      replace s : St W (MapT Try.prog 9 encS g D :: Own 92 2 A4 ((within R d.t.frm d.t.to).length) c5 (rws (within R d.t.frm d.t.to)) :: .blk g1 [.int .i64 d.t.op, .string (str d.t.key), .string (str d.t.val), .string (str d.t.frm), .string (str d.t.to), .bool d.t.is, .slice d.A d.t.rows.length d.c] 74 :: L) w := s
      replace s : St W (MapT Try.prog 9 encS g D :: L) w := St.mid (A := [MapT Try.prog 9 encS g D]) (B := [Own 92 2 A4 ((within R d.t.frm d.t.to).length) c5 (rws (within R d.t.frm d.t.to)), .blk g1 [.int .i64 d.t.op, .string (str d.t.key), .string (str d.t.val), .string (str d.t.frm), .string (str d.t.to), .bool d.t.is, .slice d.A d.t.rows.length d.c] 74]) s
      exact ⟨D, (by unfold isWell; rw [if_neg n1, if_pos hop]), (by rw [next_none (by omega) (by omega) (by omega)]; exact hD), s⟩
    · rw [hb] at ha; have hb_ := hb; replace hb := ne_of_beq_false hb
      have n2 := hb
      refine wp_seq ?_
      refine wp_region_lit ?_
      refine st_val (.bool (d.t.op == (3 : Int))) ha (by kernel_rfl) (by kernel_rfl) ?_
      clear ha; intro a ha
      refine st_val (.bool (d.t.op == (3 : Int))) ha (by kernel_rfl) (by kernel_rfl) ?_
      clear ha; intro a ha
      refine wpList_nil ?_
      refine then_normal ?_
      refine wp_part (d.t.op == (3 : Int)) ha rfl (by kernel_rfl) (fun hb => ?_) (fun hb => ?_)
      · rw [hb] at ha; have hb_ := hb; replace hb := eq_of_beq hb
        have hop := hb
        refine wp_region_lit ?_
        refine st_val (.map (some g)) ha (by kernel_rfl) (by kernel_rfl) ?_
        clear ha; intro a ha
        refine st_val (.pointer (some ⟨g1, 1, none⟩)) ha (by kernel_rfl) (by kernel_rfl) ?_
        clear ha; intro a ha
        refine st_val (.string (str d.t.key)) ha (by kernel_rfl) (run_load1 (of_ := 1) (s.blkIs 0 rfl) rfl (by kernel_rfl) Try.isAgg9 rfl) ?_
        clear ha; intro a ha
        refine st_val (.pointer (some ⟨g1, 1, none⟩)) ha (by kernel_rfl) (by kernel_rfl) ?_
        clear ha; intro a ha
        refine st_val (.string (str d.t.key)) ha (by kernel_rfl) (run_load1 (of_ := 1) (s.blkIs 0 rfl) rfl (by kernel_rfl) Try.isAgg9 rfl) ?_
        clear ha; intro a ha
        refine st_val (.pointer (some ⟨g1, 2, none⟩)) ha (by kernel_rfl) (by kernel_rfl) ?_
        clear ha; intro a ha
        refine st_val (.string (str d.t.val)) ha (by kernel_rfl) (run_load1 (of_ := 2) (s.blkIs 0 rfl) rfl (by kernel_rfl) Try.isAgg9 rfl) ?_
        clear ha; intro a ha
        refine st_val (.agg #[.string (str d.t.key), .string (str d.t.val)]) ha (by kernel_rfl) (by kernel_rfl) ?_
        clear ha; intro a ha
        refine st_exd ha (by kernel_rfl) (ex_mapUpdate (a := d.t.key) 1 (.agg #[.string (str d.t.key), .string (str d.t.val)]) s rfl rfl (by kernel_rfl) (by kernel_rfl) (by kernel_rfl) encS_inj keyed9 Try.underlying76 (key9 hdk) (by simp only [maxLen]; omega)) ?_
        clear ha; rintro w a s ha
        replace s : St W (.blk g1 [.int .i64 d.t.op, .string (str d.t.key), .string (str d.t.val), .string (str d.t.frm), .string (str d.t.to), .bool d.t.is, .slice d.A d.t.rows.length d.c] 74 :: MapT Try.prog 9 encS g (mput D d.t.key (.agg #[.string (str d.t.key), .string (str d.t.val)])) :: L) w := s
        refine wpList_nil ?_
        refine block_normal ?_
        refine then_normal ?_
        refine wp_seq ?_
        refine wp_region_lit ?_
        refine st_val (.bool true) ha (by kernel_rfl) (by kernel_rfl) ?_
        clear ha; intro a ha
        refine wpList_nil ?_
        refine then_normal ?_
        refine wp_ret ?_
        refine ret_with (v := .bool true) ha (results_1 rfl ha (res_tmp (by kernel_rfl) (by kernel_rfl))) ?_
        replace s := s.at_ (j := 1) rfl
        replace s : St W (MapT Try.prog 9 encS g (mput D d.t.key (.agg #[.string (str d.t.key), .string (str d.t.val)])) :: .blk g1 [.int .i64 d.t.op, .string (str d.t.key), .string (str d.t.val), .string (str d.t.frm), .string (str d.t.to), .bool d.t.is, .slice d.A d.t.rows.length d.c] 74 :: L) w := s
        replace s : St W (MapT Try.prog 9 encS g (mput D d.t.key (.agg #[.string (str d.t.key), .string (str d.t.val)])) :: L) w := St.mid (A := [MapT Try.prog 9 encS g (mput D d.t.key (.agg #[.string (str d.t.key), .string (str d.t.val)]))]) (B := [.blk g1 [.int .i64 d.t.op, .string (str d.t.key), .string (str d.t.val), .string (str d.t.frm), .string (str d.t.to), .bool d.t.is, .slice d.A d.t.rows.length d.c] 74]) s
        exact ⟨mput D d.t.key (.agg #[.string (str d.t.key), .string (str d.t.val)]), (by rw [well_none (by omega) (by omega)]), (by unfold nextR; rw [if_pos hop]; exact hD.put ⟨d.t.key, d.t.val⟩ hdk), s⟩
      · rw [hb] at ha; have hb_ := hb; replace hb := ne_of_beq_false hb
        have n3 := hb
        refine wp_seq ?_
        refine wp_region_lit ?_
        refine st_val (.bool (d.t.op == (4 : Int))) ha (by kernel_rfl) (by kernel_rfl) ?_
        clear ha; intro a ha
        refine st_val (.bool (d.t.op == (4 : Int))) ha (by kernel_rfl) (by kernel_rfl) ?_
        clear ha; intro a ha
        refine wpList_nil ?_
        refine then_normal ?_
        refine wp_part (d.t.op == (4 : Int)) ha rfl (by kernel_rfl) (fun hb => ?_) (fun hb => ?_)
        · rw [hb] at ha; have hb_ := hb; replace hb := eq_of_beq hb
          have hop := hb
          refine wp_region_lit ?_
          refine st_val (.map (some g)) ha (by kernel_rfl) (by kernel_rfl) ?_
          clear ha; intro a ha
          refine st_val (.pointer (some ⟨g1, 1, none⟩)) ha (by kernel_rfl) (by kernel_rfl) ?_
          clear ha; intro a ha
          refine st_val (.string (str d.t.key)) ha (by kernel_rfl) (run_load1 (of_ := 1) (s.blkIs 0 rfl) rfl (by kernel_rfl) Try.isAgg9 rfl) ?_
          clear ha; intro a ha
          refine st_ex ha (by kernel_rfl) (ex_delete (a := d.t.key) 1 s rfl rfl (by kernel_rfl) (by kernel_rfl) encS_inj keyed9 Try.underlying76 (key9 hdk)) ?_
          clear ha; rintro _ w a ⟨rfl, s⟩ ha
          replace s : St W (.blk g1 [.int .i64 d.t.op, .string (str d.t.key), .string (str d.t.val), .string (str d.t.frm), .string (str d.t.to), .bool d.t.is, .slice d.A d.t.rows.length d.c] 74 :: MapT Try.prog 9 encS g (mdel D d.t.key) :: L) w := s
          refine wpList_nil ?_
          refine block_normal ?_
          refine then_normal ?_
          refine wp_seq ?_
          refine wp_region_lit ?_
          refine st_val (.bool true) ha (by kernel_rfl) (by kernel_rfl) ?_
          clear ha; intro a ha
          refine wpList_nil ?_
          refine then_normal ?_
          refine wp_ret ?_
          refine ret_with (v := .bool true) ha (results_1 rfl ha (res_tmp (by kernel_rfl) (by kernel_rfl))) ?_
          replace s := s.at_ (j := 1) rfl
          replace s : St W (MapT Try.prog 9 encS g (mdel D d.t.key) :: .blk g1 [.int .i64 d.t.op, .string (str d.t.key), .string (str d.t.val), .string (str d.t.frm), .string (str d.t.to), .bool d.t.is, .slice d.A d.t.rows.length d.c] 74 :: L) w := s
          replace s : St W (MapT Try.prog 9 encS g (mdel D d.t.key) :: L) w := St.mid (A := [MapT Try.prog 9 encS g (mdel D d.t.key)]) (B := [.blk g1 [.int .i64 d.t.op, .string (str d.t.key), .string (str d.t.val), .string (str d.t.frm), .string (str d.t.to), .bool d.t.is, .slice d.A d.t.rows.length d.c] 74]) s
          exact ⟨mdel D d.t.key, (by rw [well_none (by omega) (by omega)]), (by unfold nextR; rw [if_neg n3, if_pos hop]; exact hD.del _), s⟩
        · rw [hb] at ha; have hb_ := hb; replace hb := ne_of_beq_false hb
          have n4 := hb
          refine wp_seq ?_
          refine wp_region_lit ?_
          refine st_val (.bool (d.t.op == (5 : Int))) ha (by kernel_rfl) (by kernel_rfl) ?_
          clear ha; intro a ha
          refine st_val (.bool (d.t.op == (5 : Int))) ha (by kernel_rfl) (by kernel_rfl) ?_
          clear ha; intro a ha
          refine wpList_nil ?_
          refine then_normal ?_
          refine wp_part (d.t.op == (5 : Int)) ha rfl (by kernel_rfl) (fun hb => ?_) (fun hb => ?_)
          · rw [hb] at ha; have hb_ := hb; replace hb := eq_of_beq hb
            have hop := hb
            refine wp_seq ?_
            refine wp_region_lit ?_
            refine st_val (.map (some g)) ha (by kernel_rfl) (by kernel_rfl) ?_
            clear ha; intro a ha
            refine st_val (.pointer (some ⟨g1, 3, none⟩)) ha (by kernel_rfl) (by kernel_rfl) ?_
            clear ha; intro a ha
            refine st_val (.agg #[.string (str d.t.frm), .string (str d.t.to)]) ha (by kernel_rfl) (run_loadN (of_ := 3) [.string (str d.t.frm), .string (str d.t.to)] (s.blkIs 0 rfl) rfl (by kernel_rfl) Try.isAgg31 Try.sizeOf31 rfl (Nat.le_of_ble_eq_true rfl)) ?_
            clear ha; intro a ha
            refine st_call ha (by kernel_rfl) (by kernel_rfl) (within_any W hW _ w g D R hD hRn (Knows.mapIs (j := 1) rfl) d.t.frm d.t.to s) ?_
            rintro _ w ⟨A6, c7, rfl, s⟩
            have hwl := within_le R d.t.frm d.t.to
            replace s : St W (Own 92 2 A6 ((within R d.t.frm d.t.to).length) c7 (rws (within R d.t.frm d.t.to)) :: .blk g1 [.int .i64 d.t.op, .string (str d.t.key), .string (str d.t.val), .string (str d.t.frm), .string (str d.t.to), .bool d.t.is, .slice d.A d.t.rows.length d.c] 74 :: MapT Try.prog 9 encS g D :: L) w := s
            refine ⟨_, rfl, ?_⟩; clear ha; intro a ha
            refine st_val (.int .i64 (((within R d.t.frm d.t.to).length : Nat) : Int)) ha (by kernel_rfl) (by kernel_rfl) ?_
            clear ha; intro a ha
            refine st_val (.int .i64 0) ha (by kernel_rfl) (by kernel_rfl) ?_
            clear ha; intro a ha
            refine wpList_nil ?_
            refine then_normal ?_
            refine wp_block ?_
            replace s := s.at_ (j := 2) rfl
            replace s : St W (MapT Try.prog 9 encS g D :: Own 92 2 A6 ((within R d.t.frm d.t.to).length) c7 (rws (within R d.t.frm d.t.to)) :: .blk g1 [.int .i64 d.t.op, .string (str d.t.key), .string (str d.t.val), .string (str d.t.frm), .string (str d.t.to), .bool d.t.is, .slice d.A d.t.rows.length d.c] 74 :: L) w := s
            replace s := s.at_ (j := 1) rfl
            replace s : St W (Own 92 2 A6 ((within R d.t.frm d.t.to).length) c7 (rws (within R d.t.frm d.t.to)) :: MapT Try.prog 9 encS g D :: .blk g1 [.int .i64 d.t.op, .string (str d.t.key), .string (str d.t.val), .string (str d.t.frm), .string (str d.t.to), .bool d.t.is, .slice d.A d.t.rows.length d.c] 74 :: L) w := s
            replace s : St W (Own 92 2 A6 ((within R d.t.frm d.t.to).length) c7 (rws (within R d.t.frm d.t.to)) :: MapT Try.prog 9 encS g D :: L) w := St.mid (A := [Own 92 2 A6 ((within R d.t.frm d.t.to).length) c7 (rws (within R d.t.frm d.t.to)), MapT Try.prog 9 encS g D]) (B := [.blk g1 [.int .i64 d.t.op, .string (str d.t.key), .string (str d.t.val), .string (str d.t.frm), .string (str d.t.to), .bool d.t.is, .slice d.A d.t.rows.length d.c] 74]) s
            refine wp_loopG (G := (Nat × List (List UInt8 × Value))) (fun ⟨k, D2⟩ a w => Has a 70 [(0, .map (some g)), (60, .slice A6 ((within R d.t.frm d.t.to).length) c7), (61, .int .i64 (((within R d.t.frm d.t.to).length : Nat) : Int)), (62, .int .i64 ((k : Nat) : Int))] ∧ St W (Own 92 2 A6 ((within R d.t.frm d.t.to).length) c7 (rws (within R d.t.frm d.t.to)) :: MapT Try.prog 9 encS g D2 :: L) w ∧ (k ≤ (within R d.t.frm d.t.to).length ∧ Of D2 (dropK R ((within R d.t.frm d.t.to).take k)))) (fun ⟨k, D2⟩ => (within R d.t.frm d.t.to).length - k) (0, D) ?_ ?_
            · exact ⟨(Has.cons ha (by kernel_rfl) (by kernel_rfl) (Has.cons ha (by kernel_rfl) (by kernel_rfl) (Has.cons ha (by kernel_rfl) (by kernel_rfl) (Has.cons ha (by kernel_rfl) (by kernel_rfl) (Has.nil ha))))), s, ⟨Nat.zero_le _, hD⟩⟩
            · clear ha s; rintro ⟨k, D2⟩ a w ⟨ha, s, hp⟩
              refine wp_seq ?_
              refine wp_region_lit ?_
              refine st_val (.bool (decide (((k : Nat) : Int) < (((within R d.t.frm d.t.to).length : Nat) : Int)))) ha (by kernel_rfl) (by kernel_rfl) ?_
              clear ha; intro a ha
              refine wpList_nil ?_
              refine then_normal ?_
              refine wp_seq ?_
              refine wp_part (decide (((k : Nat) : Int) < (((within R d.t.frm d.t.to).length : Nat) : Int))) ha rfl (by kernel_rfl) (fun hb => ?_) (fun hb => ?_)
              · rw [hb] at ha; replace hb : (((k : Nat) : Int) < (((within R d.t.frm d.t.to).length : Nat) : Int)) := of_decide_eq_true hb
                have hD2 := hp.2
                obtain ⟨x, hx⟩ : ∃ x, (within R d.t.frm d.t.to)[k]? = some x := ⟨_, List.getElem?_eq_getElem (by omega)⟩
                have hxk : x.key.length ≤ 140737488351232 := hD.2.2 x (List.mem_filter.1 (List.mem_of_getElem? hx)).1
                obtain ⟨ad8, hA⟩ := Own.addr (s.at_ (j := 0) rfl) (by omega)
                subst hA
                refine wp_skip ?_
                refine then_normal ?_
                refine wp_seq ?_
                refine wp_block ?_
                refine wp_seq ?_
                refine wp_region_lit ?_
                refine st_val (.pointer (some (ad8.add (k * 2)))) ha (by kernel_rfl) (run_indexAddr' (kd := .i64) (i := ((k : Nat) : Int)) (n := ((within R d.t.frm d.t.to).length)) (c := c7) k rfl Try.underlying32 Try.sizeOf92 (by kernel_rfl) (by kernel_rfl) rfl (by first | assumption | omega) _) ?_
                clear ha; intro a ha
                refine st_val (.agg #[.string (str x.key), .string (str x.val)]) ha (by kernel_rfl) (run_loadAtN (i := k * 2) [.string (str x.key), .string (str x.val)] ((Own.reads (s.at_ (j := 0) rfl).1)) rfl (by kernel_rfl) Try.isAgg92 Try.sizeOf92 (fun q_ hq_ => rws_at hx hq_) rfl) ?_
                clear ha; intro a ha
                refine st_ex ha (by kernel_rfl) (ex_alloc [.string (str []), .string (str [])] s rfl (Try.zeroValue92 _) (by kernel_rfl)) ?_
                clear ha; rintro _ w a ⟨g9, rfl, s⟩ ha
                replace s : St W (.blk g9 [.string (str []), .string (str [])] 92 :: Own 92 2 (some ad8) ((within R d.t.frm d.t.to).length) c7 (rws (within R d.t.frm d.t.to)) :: MapT Try.prog 9 encS g D2 :: L) w := s
                refine st_exd ha (by kernel_rfl) (ex_store (of_ := 0) 0 [.string (str x.key), .string (str x.val)] s rfl rfl (by kernel_rfl) (by kernel_rfl) (Try.sizeOf92 _) rfl (by simp [Value.oneCell']) (Nat.le_of_ble_eq_true rfl)) ?_
                clear ha; rintro w a s ha
                replace s : St W (.blk g9 [.string (str x.key), .string (str x.val)] 92 :: Own 92 2 (some ad8) ((within R d.t.frm d.t.to).length) c7 (rws (within R d.t.frm d.t.to)) :: MapT Try.prog 9 encS g D2 :: L) w := s
                refine wpList_nil ?_
                refine then_normal ?_
                refine wp_region_lit ?_
                refine st_val (.map (some g)) ha (by kernel_rfl) (by kernel_rfl) ?_
                clear ha; intro a ha
                refine st_val (.pointer (some ⟨g9, 0, none⟩)) ha (by kernel_rfl) (by kernel_rfl) ?_
                clear ha; intro a ha
                refine st_val (.string (str x.key)) ha (by kernel_rfl) (run_load1 (of_ := 0) (s.blkIs 0 rfl) rfl (by kernel_rfl) Try.isAgg9 rfl) ?_
                clear ha; intro a ha
                refine st_ex ha (by kernel_rfl) (ex_delete (a := x.key) 2 s rfl rfl (by kernel_rfl) (by kernel_rfl) encS_inj keyed9 Try.underlying76 (key9 hxk)) ?_
                clear ha; rintro _ w a ⟨rfl, s⟩ ha
                replace s : St W (.blk g9 [.string (str x.key), .string (str x.val)] 92 :: Own 92 2 (some ad8) ((within R d.t.frm d.t.to).length) c7 (rws (within R d.t.frm d.t.to)) :: MapT Try.prog 9 encS g (mdel D2 x.key) :: L) w := s
                refine wpList_nil ?_
                refine block_normal ?_
                refine then_normal ?_
                refine wp_region_lit ?_
                refine st_val (.int .i64 ((k + 1 : Nat) : Int)) ha (by kernel_rfl) (run_arith (((k : Nat) : Int) + (1 : Int)) ((k + 1 : Nat) : Int) rfl (by kernel_rfl) (by kernel_rfl) (.inl ⟨rfl, rfl⟩) (by rw [wrap64_in (by omega)]; try omega) _) ?_
                clear ha; intro a ha
                refine st_val (.int .i64 ((k + 1 : Nat) : Int)) ha (by kernel_rfl) (by kernel_rfl) ?_
                clear ha; intro a ha
                refine wpList_nil ?_
                refine then_normal ?_
                replace s := s.at_ (j := 2) rfl
                replace s : St W (MapT Try.prog 9 encS g (mdel D2 x.key) :: .blk g9 [.string (str x.key), .string (str x.val)] 92 :: Own 92 2 (some ad8) ((within R d.t.frm d.t.to).length) c7 (rws (within R d.t.frm d.t.to)) :: L) w := s
                replace s := s.at_ (j := 2) rfl
                replace s : St W (Own 92 2 (some ad8) ((within R d.t.frm d.t.to).length) c7 (rws (within R d.t.frm d.t.to)) :: MapT Try.prog 9 encS g (mdel D2 x.key) :: .blk g9 [.string (str x.key), .string (str x.val)] 92 :: L) w := s
                replace s : St W (Own 92 2 (some ad8) ((within R d.t.frm d.t.to).length) c7 (rws (within R d.t.frm d.t.to)) :: MapT Try.prog 9 encS g (mdel D2 x.key) :: L) w := St.mid (A := [Own 92 2 (some ad8) ((within R d.t.frm d.t.to).length) c7 (rws (within R d.t.frm d.t.to)), MapT Try.prog 9 encS g (mdel D2 x.key)]) (B := [.blk g9 [.string (str x.key), .string (str x.val)] 92]) s
                exact ⟨(k + 1, mdel D2 x.key), (show (within R d.t.frm d.t.to).length - (k + 1) < (within R d.t.frm d.t.to).length - k by omega), (Has.cons ha (by kernel_rfl) (by kernel_rfl) (Has.cons ha (by kernel_rfl) (by kernel_rfl) (Has.cons ha (by kernel_rfl) (by kernel_rfl) (Has.cons ha (by kernel_rfl) (by kernel_rfl) (Has.nil ha))))), s, (show k + 1 ≤ (within R d.t.frm d.t.to).length by omega), by rw [take_snoc hx]; exact hD2.drop_next x⟩
              · rw [hb] at ha; replace hb : ¬ (((k : Nat) : Int) < (((within R d.t.frm d.t.to).length : Nat) : Int)) := of_decide_eq_false hb
                have hk : k = (within R d.t.frm d.t.to).length := by omega
                have hD2 := hp.2
                rw [hk, List.take_length, dropK_within hD.2.1] at hD2
                refine wp_exit ?_
                refine then_exit ?_
                refine then_exit ?_
                refine block_hit ?_
                refine block_normal ?_
                refine then_normal ?_
                refine wp_seq ?_
                refine wp_region_lit ?_
                refine st_val (.bool true) ha (by kernel_rfl) (by kernel_rfl) ?_
                clear ha; intro a ha
                refine wpList_nil ?_
                refine then_normal ?_
                refine wp_ret ?_
                refine ret_with (v := .bool true) ha (results_1 rfl ha (res_tmp (by kernel_rfl) (by kernel_rfl))) ?_
                replace s := s.at_ (j := 1) rfl
                replace s : St W (MapT Try.prog 9 encS g D2 :: Own 92 2 A6 ((within R d.t.frm d.t.to).length) c7 (rws (within R d.t.frm d.t.to)) :: L) w := s
                replace s : St W (MapT Try.prog 9 encS g D2 :: L) w := St.mid (A := [MapT Try.prog 9 encS g D2]) (B := [Own 92 2 A6 ((within R d.t.frm d.t.to).length) c7 (rws (within R d.t.frm d.t.to))]) s
                exact ⟨D2, (by rw [well_none (by omega) (by omega)]), (by unfold nextR; rw [if_neg n3, if_neg n4, if_pos hop]; exact hD2), s⟩
          · rw [hb] at ha; have hb_ := hb; replace hb := ne_of_beq_false hb
            have n5 := hb
            refine wp_skip ?_
            refine block_normal ?_
            refine then_normal ?_
            refine wp_seq ?_
            refine wp_region_lit ?_
            refine st_val (.bool true) ha (by kernel_rfl) (by kernel_rfl) ?_
            clear ha; intro a ha
            refine wpList_nil ?_
            refine then_normal ?_
            refine wp_ret ?_
            refine ret_with (v := .bool true) ha (results_1 rfl ha (res_tmp (by kernel_rfl) (by kernel_rfl))) ?_
            replace s := s.at_ (j := 1) rfl
            replace s : St W (MapT Try.prog 9 encS g D :: .blk g1 [.int .i64 d.t.op, .string (str d.t.key), .string (str d.t.val), .string (str d.t.frm), .string (str d.t.to), .bool d.t.is, .slice d.A d.t.rows.length d.c] 74 :: L) w := s
            replace s : St W (MapT Try.prog 9 encS g D :: L) w := St.mid (A := [MapT Try.prog 9 encS g D]) (B := [.blk g1 [.int .i64 d.t.op, .string (str d.t.key), .string (str d.t.val), .string (str d.t.frm), .string (str d.t.to), .bool d.t.is, .slice d.A d.t.rows.length d.c] 74]) s
            exact ⟨D, (by rw [well_none (by omega) (by omega)]), (by rw [next_none n3 n4 n5]; exact hD), s⟩

end Go.Proofs.Ytfcbjcohepkkfaa.B
