import Derived.Test.YtidfniglnmfphaaB19
namespace Go.Proofs.Ytidfniglnmfphaa.B
open Go.RowKit Go.Maps Go.Sort Go.Shelf Go.Proofs.Ytidfniglnmfphaa.Sep Go.Proofs.Ytidfniglnmfphaa.P
set_option linter.unusedVariables false
set_option linter.unusedSimpArgs false
/-- An answer that is another one. -/
def spoil (d : Td) (h : Int) : Td :=
  if d.op = 1 then (if d.is = false ∨ h = 0 then { d with val := d.val ++ [63], is := true } else { d with is := false, val := [] })
  else if h = 0 ∧ 0 < d.rows.length then { d with rows := d.rows.drop 1 } else { d with rows := d.rows ++ [⟨[63], []⟩] }
theorem spoil_op (d : Td) (h : Int) : (spoil d h).op = d.op := by
  unfold spoil; split <;> split <;> rfl
theorem spoil_key (d : Td) (h : Int) : (spoil d h).key = d.key := by
  unfold spoil; split <;> split <;> rfl
theorem spoil_rows (d : Td) (h : Int) : (spoil d h).rows.length ≤ d.rows.length + 1 := by
  unfold spoil; split <;> split <;> simp <;> omega
theorem spoil_bad {d : Td} {h : Int} (h1 : d.op = 1 ∨ d.op = 2) (R : List Rw) (hw : isWell R d = true) : isWell R (spoil d h) = false := by
  unfold spoil
  by_cases e1 : d.op = 1
  · rw [if_pos e1]
    unfold isWell at hw
    rw [if_pos e1] at hw
    split
    · rename_i e2
      unfold isWell
      rw [if_pos (show ({ d with val := d.val ++ [63], is := true } : Td).op = 1 from e1)]
      show (match lookR R d.key with | none => !true && decide (d.val ++ [63] = []) | some v => true && decide (v = d.val ++ [63])) = false
      cases hl : lookR R d.key with
      | none => rfl
      | some v =>
        rw [hl] at hw
        simp only [Bool.and_eq_true, decide_eq_true_eq] at hw
        rw [hw.2]
        simp
    · rename_i e2
      unfold isWell
      rw [if_pos (show ({ d with is := false, val := [] } : Td).op = 1 from e1)]
      show (match lookR R d.key with | none => !false && decide (([] : K) = []) | some v => false && decide (v = [])) = false
      cases hl : lookR R d.key with
      | none =>
        rw [hl] at hw
        simp only [Bool.and_eq_true, Bool.not_eq_true', decide_eq_true_eq] at hw
        exact absurd (.inl hw.1) e2
      | some v => rfl
  · have e2 : d.op = 2 := h1.resolve_left e1
    rw [if_neg e1]
    unfold isWell at hw
    rw [if_neg e1, if_pos e2] at hw
    have hw := of_decide_eq_true hw
    split
    · rename_i e3
      unfold isWell
      rw [if_neg (show ¬ ({ d with rows := d.rows.drop 1 } : Td).op = 1 from e1), if_pos (show ({ d with rows := d.rows.drop 1 } : Td).op = 2 from e2)]
      refine decide_eq_false fun h => ?_
      have := congrArg List.length (hw.symm.trans h)
      simp at this; omega
    · unfold isWell
      rw [if_neg (show ¬ ({ d with rows := d.rows ++ [⟨[63], []⟩] } : Td).op = 1 from e1), if_pos (show ({ d with rows := d.rows ++ [⟨[63], []⟩] } : Td).op = 2 from e2)]
      refine decide_eq_false fun h => ?_
      have := congrArg List.length (hw.symm.trans h)
      simp at this
theorem scan_small {rs : List Tn} {o : List Nat} {i j n : Nat} {d : Td} (ho : IsOrd rs o) (hq : first [] (things rs o) = none) (hi : i < rs.length) (hd : (tAt rs i).l[j]? = some d) (h2 : d.op = 2) (hm : many rs ≤ n) : d.rows.length ≤ n := by
  have hmem : ((i, j), d) ∈ things rs o := List.mem_flatMap.2 ⟨i, ho.1.mem_iff.2 (List.mem_range.2 hi), List.mem_of_getElem? (i := j) (by rw [label_at, hd]; rfl)⟩
  obtain ⟨k, hk, e⟩ := List.getElem_of_mem hmem
  have hw := first_none.1 hq k _ (by rw [List.getElem?_eq_getElem hk, e])
  unfold isWell at hw
  rw [if_neg (by rw [h2]; decide), if_pos h2] at hw
  have hw : within (left [] ((things rs o).take k)) d.frm d.to = d.rows := of_decide_eq_true hw
  have h3 := congrArg List.length hw
  have h4 : (within (left [] ((things rs o).take k)) d.frm d.to).length ≤ (left [] ((things rs o).take k)).length := within_le _ _ _
  have h5 := left_length [] ((things rs o).take k)
  have h6 := things_len ho
  simp only [List.length_nil, List.length_take] at h5
  omega
theorem many_take_le (ds : List Dn) (k : Nat) : many (tns (ds.take k)) ≤ many (tns ds) := by
  have e : many (tns ds) = many (tns (ds.take k)) + many (tns (ds.drop k)) := by
    conv => lhs; rw [← List.take_append_drop k ds]
    simp only [many, tns, List.map_append, List.sum_append]
  omega
theorem row_knows {L : List Chunk} {A : Option Addr} {es fs : List Dn} {k p : Nat} {e : Dn} {x : Dd} (hr : Knows L (DonesIn A es)) (hc : Copy es fs) (he : fs[k]? = some e) (hx : e.l[p]? = some x) : Knows L fun w => Reads w 2 x.A x.t.rows.length (rws x.t.rows) := fun w s => by
  obtain ⟨y, hy, e1⟩ := hc.mem (List.mem_of_getElem? he)
  exact ((hr w s).2 y hy).2 x (by rw [e1]; exact List.mem_of_getElem? hx)
theorem set_same {fs : List Dn} {k : Nat} {e : Dn} (he : fs[k]? = some e) : fs.set k { e with l := e.l } = fs := by
  obtain ⟨h, e1⟩ := List.getElem?_eq_some_iff.1 he
  rw [show ({ e with l := e.l } : Dn) = fs[k] from e1.symm, List.set_getElem_self]
theorem set_tns {fs : List Dn} {k p : Nat} {e : Dn} (he : fs[k]? = some e) (x : Dd) : tns (fs.set k { e with l := e.l.set p x }) = setT (tns fs) k p x.t := by
  unfold setT
  rw [tAt_of he]
  unfold tns
  rw [List.map_set]
  simp [Dn.t, List.map_set]
theorem set_bn {fs : List Dn} (h : Bn fs) {k p : Nat} {e : Dn} (he : fs[k]? = some e) {x x2 : Dd} (hx : e.l[p]? = some x) (h1 : x2.t.rows.length ≤ 140737488351232) (h2 : x2.t.key = x.t.key) : Bn (fs.set k { e with l := e.l.set p x2 }) := ⟨by rw [List.length_set]; exact h.1, fun d hd => by
  rcases List.mem_or_eq_of_mem_set hd with hd | rfl
  · exact h.2 d hd
  · have hb := h.row he
    refine ⟨by rw [List.length_set]; exact hb.1, fun y hy => ?_⟩
    rcases List.mem_or_eq_of_mem_set hy with hy | rfl
    · exact hb.2 y hy
    · exact ⟨h1, by rw [h2]; exact (hb.row hx).2⟩⟩
theorem set_knows {L : List Chunk} {i j e1 e2 n c k p : Nat} {A C : Option Addr} {es fs : List Dn} {e : Dn} {x2 : Dd} (hi : L[i]? = some (Own e1 4 C n c (nvs (fs.set k { e with l := e.l.set p x2 })))) (hl : fs.length = n) (hj : L[j]? = some (Inn e2 (fs.set k { e with l := e.l.set p x2 }))) (hr : Knows L (DonesIn A es)) (hc : Copy es fs) (he : fs[k]? = some e) (hx : Knows L fun w => Reads w 2 x2.A x2.t.rows.length (rws x2.t.rows)) : Knows L (DonesIn C (fs.set k { e with l := e.l.set p x2 })) := by
  intro w s
  subst hl
  refine ⟨by rw [List.length_set]; exact Own.reads (s.perm (perm_at hi)), fun d hd => ⟨?_, fun x h3 => ?_⟩⟩
  · have s2 := Sat.star_iff.1 (s.perm (perm_at hj))
    obtain ⟨q, hq, e3⟩ := List.getElem_of_mem hd
    have h2 : (((fs.set k { e with l := e.l.set p x2 }).map fun d => Own e2 7 d.A d.l.length d.c (dvs d.l)) ++ L.eraseIdx j)[q]? = some (Own e2 7 d.A d.l.length d.c (dvs d.l)) := by
      rw [List.getElem?_append_left (by simpa using hq), List.getElem?_map, List.getElem?_eq_getElem hq, e3]; rfl
    exact Own.reads (s2.perm (perm_at h2))
  · have old : ∀ d ∈ fs, ∀ x ∈ d.l, Reads w 2 x.A x.t.rows.length (rws x.t.rows) := fun d hd x hx => by
      obtain ⟨y, hy, e4⟩ := hc.mem hd
      exact ((hr w s).2 y hy).2 x (by rw [e4]; exact hx)
    rcases List.mem_or_eq_of_mem_set hd with hd | rfl
    · exact old d hd x h3
    · rcases List.mem_or_eq_of_mem_set h3 with h3 | rfl
      · exact old e (List.mem_of_getElem? he) x h3
      · exact hx w s
theorem found_at {ds : List Tn} {o : List Nat} {i j : Nat} (h : first [] (things ds o) = some (i, j)) : ((fst (found ds o) : Nat) : Int) = (i : Int) ∧ ((snd (found ds o) : Nat) : Int) = (j : Int) ∧ (found ds o).isSome = true := by
  unfold found; rw [h]; exact ⟨rfl, rfl, rfl⟩

theorem spoilt_any (W : World) (L : List Chunk) (w : World) (x : Dd) (how : Int) (hr : Knows L fun w => Reads w 2 x.A x.t.rows.length (rws x.t.rows)) (hcl : x.t.rows.length ≤ x.c) (hrl : x.t.rows.length ≤ 140737488351232) (hvl : x.t.val.length ≤ 140737488351232) (hop : x.t.op = 1 ∨ x.t.op = 2) (hr2 : x.t.op = 2 → x.t.rows.length ≤ 1000000) (s : St W L w) :
    Calls Try.prog 23 #[.agg #[.int .i64 x.t.op, .string (str x.t.key), .string (str x.t.val), .string (str x.t.frm), .string (str x.t.to), .bool x.t.is, .slice x.A x.t.rows.length x.c], .int .i64 how] w fun e w' => ∃ x2 : Dd, e = .returned (.agg #[.int .i64 x2.t.op, .string (str x2.t.key), .string (str x2.t.val), .string (str x2.t.frm), .string (str x2.t.to), .bool x2.t.is, .slice x2.A x2.t.rows.length x2.c]) ∧ x2.t = spoil x.t how ∧ St W (Kn (fun w => Reads w 2 x.A x.t.rows.length (rws x.t.rows) → Reads w 2 x2.A x2.t.rows.length (rws x2.t.rows)) :: L) w' := by
  refine enter_args (l := [.agg #[.int .i64 x.t.op, .string (str x.t.key), .string (str x.t.val), .string (str x.t.frm), .string (str x.t.to), .bool x.t.is, .slice x.A x.t.rows.length x.c], .int .i64 how]) Try.func23 rfl rfl (Nat.le_of_ble_eq_true rfl) ?_
  intro a ha; replace ha : Has a 44 [(0, .agg #[.int .i64 x.t.op, .string (str x.t.key), .string (str x.t.val), .string (str x.t.frm), .string (str x.t.to), .bool x.t.is, .slice x.A x.t.rows.length x.c]), (1, .int .i64 how)] := ha
  refine wp_seq ?_
  refine wp_region_lit ?_
  refine st_ex ha (by kernel_rfl) (ex_box [.int .i64 x.t.op, .string (str x.t.key), .string (str x.t.val), .string (str x.t.frm), .string (str x.t.to), .bool x.t.is, .slice x.A x.t.rows.length x.c] s rfl (by kernel_rfl)) ?_
  clear ha; rintro _ w a ⟨g1, rfl, s⟩ ha
  replace s : St W (.blk g1 [.int .i64 x.t.op, .string (str x.t.key), .string (str x.t.val), .string (str x.t.frm), .string (str x.t.to), .bool x.t.is, .slice x.A x.t.rows.length x.c] 51 :: L) w := s
  refine st_ex ha (by kernel_rfl) (ex_alloc [.int .i64 0, .string (str []), .string (str []), .string (str []), .string (str []), .bool false, .slice none 0 0] s rfl (Try.zeroValue51 _) (by kernel_rfl)) ?_
  clear ha; rintro _ w a ⟨g2, rfl, s⟩ ha
  replace s : St W (.blk g2 [.int .i64 0, .string (str []), .string (str []), .string (str []), .string (str []), .bool false, .slice none 0 0] 51 :: .blk g1 [.int .i64 x.t.op, .string (str x.t.key), .string (str x.t.val), .string (str x.t.frm), .string (str x.t.to), .bool x.t.is, .slice x.A x.t.rows.length x.c] 51 :: L) w := s
  refine wpList_nil ?_
  refine then_normal ?_
  refine wp_seq ?_
  refine wp_seq ?_
  refine wp_region_lit ?_
  refine st_val (.pointer (some ⟨g1, 0, none⟩)) ha (by kernel_rfl) (by kernel_rfl) ?_
  clear ha; intro a ha
  refine st_val (.int .i64 x.t.op) ha (by kernel_rfl) (run_load1 (of_ := 0) (s.blkIs 1 rfl) rfl (by kernel_rfl) Try.isAgg3 rfl) ?_
  clear ha; intro a ha
  refine st_val (.bool (x.t.op == (1 : Int))) ha (by kernel_rfl) (by kernel_rfl) ?_
  clear ha; intro a ha
  refine wpList_nil ?_
  refine then_normal ?_
  refine wp_part (x.t.op == (1 : Int)) ha rfl (by kernel_rfl) (fun hb => ?_) (fun hb => ?_)
  · rw [hb] at ha; have hb_ := hb; replace hb := eq_of_beq hb
    have h1 : x.t.op = 1 := by simpa using hb
    refine wp_seq ?_
    refine wp_seq ?_
    refine wp_region_lit ?_
    refine st_val (.pointer (some ⟨g1, 5, none⟩)) ha (by kernel_rfl) (by kernel_rfl) ?_
    clear ha; intro a ha
    refine st_val (.bool x.t.is) ha (by kernel_rfl) (run_load1 (of_ := 5) (s.blkIs 1 rfl) rfl (by kernel_rfl) Try.isAgg4 rfl) ?_
    clear ha; intro a ha
    refine st_val (.bool (!x.t.is)) ha (by kernel_rfl) (by kernel_rfl) ?_
    clear ha; intro a ha
    refine st_val (.bool (!x.t.is)) ha (by kernel_rfl) (by kernel_rfl) ?_
    clear ha; intro a ha
    rcases Bool.eq_false_or_eq_true (!x.t.is) with hb | hb
    · rw [hb] at ha; skip
      have hnis : x.t.is = false := by simpa using hb
      refine st_pass ha (by kernel_rfl) ?_
      clear ha; intro a ha
      refine st_pass ha (by kernel_rfl) ?_
      clear ha; intro a ha
      refine st_val (.bool true) ha (by kernel_rfl) (by kernel_rfl) ?_
      clear ha; intro a ha
      refine wpList_nil ?_
      refine then_normal ?_
      refine wp_true ha rfl (by kernel_rfl) ?_
      refine wp_seq ?_
      refine wp_region_lit ?_
      refine st_val (.pointer (some ⟨g1, 2, none⟩)) ha (by kernel_rfl) (by kernel_rfl) ?_
      clear ha; intro a ha
      refine st_val (.string (str x.t.val)) ha (by kernel_rfl) (run_load1 (of_ := 2) (s.blkIs 1 rfl) rfl (by kernel_rfl) Try.isAgg9 rfl) ?_
      clear ha; intro a ha
      refine st_val (.string (str (x.t.val ++ [63]))) ha (by kernel_rfl) (run_sadd rfl (by kernel_rfl) (by kernel_rfl) (by first | omega | (simp only [List.length_cons, List.length_nil]; omega)) _) ?_
      clear ha; intro a ha
      refine st_val (.pointer (some ⟨g1, 2, none⟩)) ha (by kernel_rfl) (by kernel_rfl) ?_
      clear ha; intro a ha
      refine st_exd ha (by kernel_rfl) (ex_store (of_ := 2) 1 [.string (str (x.t.val ++ [63]))] s rfl rfl (by kernel_rfl) (by kernel_rfl) (Try.sizeOf9 _) rfl (by simp [Value.oneCell']) (Nat.le_of_ble_eq_true rfl)) ?_
      clear ha; rintro w a s ha
      replace s : St W (.blk g2 [.int .i64 0, .string (str []), .string (str []), .string (str []), .string (str []), .bool false, .slice none 0 0] 51 :: .blk g1 [.int .i64 x.t.op, .string (str x.t.key), .string (str (x.t.val ++ [63])), .string (str x.t.frm), .string (str x.t.to), .bool x.t.is, .slice x.A x.t.rows.length x.c] 51 :: L) w := s
      refine wpList_nil ?_
      refine then_normal ?_
      refine wp_region_lit ?_
      refine st_val (.pointer (some ⟨g1, 5, none⟩)) ha (by kernel_rfl) (by kernel_rfl) ?_
      clear ha; intro a ha
      refine st_exd ha (by kernel_rfl) (ex_store (of_ := 5) 1 [.bool true] s rfl rfl (by kernel_rfl) (by kernel_rfl) (Try.sizeOf4 _) rfl (by simp [Value.oneCell']) (Nat.le_of_ble_eq_true rfl)) ?_
      clear ha; rintro w a s ha
      replace s : St W (.blk g2 [.int .i64 0, .string (str []), .string (str []), .string (str []), .string (str []), .bool false, .slice none 0 0] 51 :: .blk g1 [.int .i64 x.t.op, .string (str x.t.key), .string (str (x.t.val ++ [63])), .string (str x.t.frm), .string (str x.t.to), .bool true, .slice x.A x.t.rows.length x.c] 51 :: L) w := s
      refine wpList_nil ?_
      refine then_normal ?_
      refine wp_seq ?_
      refine wp_region_lit ?_
      refine st_val (.agg #[.int .i64 x.t.op, .string (str x.t.key), .string (str (x.t.val ++ [63])), .string (str x.t.frm), .string (str x.t.to), .bool true, .slice x.A x.t.rows.length x.c]) ha (by kernel_rfl) (run_loadN (of_ := 0) [.int .i64 x.t.op, .string (str x.t.key), .string (str (x.t.val ++ [63])), .string (str x.t.frm), .string (str x.t.to), .bool true, .slice x.A x.t.rows.length x.c] (s.blkIs 1 rfl) rfl (by kernel_rfl) Try.isAgg51 Try.sizeOf51 rfl (Nat.le_of_ble_eq_true rfl)) ?_
      clear ha; intro a ha
      refine st_exd ha (by kernel_rfl) (ex_store (of_ := 0) 0 [.int .i64 x.t.op, .string (str x.t.key), .string (str (x.t.val ++ [63])), .string (str x.t.frm), .string (str x.t.to), .bool true, .slice x.A x.t.rows.length x.c] s rfl rfl (by kernel_rfl) (by kernel_rfl) (Try.sizeOf51 _) rfl (by simp [Value.oneCell']) (Nat.le_of_ble_eq_true rfl)) ?_
      clear ha; rintro w a s ha
      replace s : St W (.blk g2 [.int .i64 x.t.op, .string (str x.t.key), .string (str (x.t.val ++ [63])), .string (str x.t.frm), .string (str x.t.to), .bool true, .slice x.A x.t.rows.length x.c] 51 :: .blk g1 [.int .i64 x.t.op, .string (str x.t.key), .string (str (x.t.val ++ [63])), .string (str x.t.frm), .string (str x.t.to), .bool true, .slice x.A x.t.rows.length x.c] 51 :: L) w := s
      refine wpList_nil ?_
      refine then_normal ?_
      refine wp_ret ?_
      refine then_ret ?_
      refine ret_with (v := .agg #[.int .i64 x.t.op, .string (str x.t.key), .string (str (x.t.val ++ [63])), .string (str x.t.frm), .string (str x.t.to), .bool true, .slice x.A x.t.rows.length x.c]) ha (results_1 rfl ha (res_cellN (s.blkIs 0 rfl) (by kernel_rfl) (by kernel_rfl) Try.isAgg51 Try.sizeOf51 rfl)) ?_
      replace s := s.tail.tail
      replace s : St W (L) w := s
      refine ⟨⟨{ x.t with val := (x.t.val ++ [63]), is := true }, x.A, x.c⟩, rfl, ?_, kn_of (M := []) (fun w _ h => h) s⟩
      unfold spoil
      rw [if_pos h1]
      first | rw [if_pos (.inl (by simpa using hnis))] | rw [if_pos (.inr (by first | assumption | omega))] | rw [if_neg (by rintro (h | h) <;> simp_all)]
    · rw [hb] at ha; skip
      refine st_val (.int .i64 how) ha (by kernel_rfl) (by kernel_rfl) ?_
      clear ha; intro a ha
      refine st_val (.bool (how == (0 : Int))) ha (by kernel_rfl) (by kernel_rfl) ?_
      clear ha; intro a ha
      refine st_val (.bool (how == (0 : Int))) ha (by kernel_rfl) (by kernel_rfl) ?_
      clear ha; intro a ha
      refine wpList_nil ?_
      refine then_normal ?_
      refine wp_part (how == (0 : Int)) ha rfl (by kernel_rfl) (fun hb => ?_) (fun hb => ?_)
      · rw [hb] at ha; have hb_ := hb; replace hb := eq_of_beq hb
        refine wp_seq ?_
        refine wp_region_lit ?_
        refine st_val (.pointer (some ⟨g1, 2, none⟩)) ha (by kernel_rfl) (by kernel_rfl) ?_
        clear ha; intro a ha
        refine st_val (.string (str x.t.val)) ha (by kernel_rfl) (run_load1 (of_ := 2) (s.blkIs 1 rfl) rfl (by kernel_rfl) Try.isAgg9 rfl) ?_
        clear ha; intro a ha
        refine st_val (.string (str (x.t.val ++ [63]))) ha (by kernel_rfl) (run_sadd rfl (by kernel_rfl) (by kernel_rfl) (by first | omega | (simp only [List.length_cons, List.length_nil]; omega)) _) ?_
        clear ha; intro a ha
        refine st_val (.pointer (some ⟨g1, 2, none⟩)) ha (by kernel_rfl) (by kernel_rfl) ?_
        clear ha; intro a ha
        refine st_exd ha (by kernel_rfl) (ex_store (of_ := 2) 1 [.string (str (x.t.val ++ [63]))] s rfl rfl (by kernel_rfl) (by kernel_rfl) (Try.sizeOf9 _) rfl (by simp [Value.oneCell']) (Nat.le_of_ble_eq_true rfl)) ?_
        clear ha; rintro w a s ha
        replace s : St W (.blk g2 [.int .i64 0, .string (str []), .string (str []), .string (str []), .string (str []), .bool false, .slice none 0 0] 51 :: .blk g1 [.int .i64 x.t.op, .string (str x.t.key), .string (str (x.t.val ++ [63])), .string (str x.t.frm), .string (str x.t.to), .bool x.t.is, .slice x.A x.t.rows.length x.c] 51 :: L) w := s
        refine wpList_nil ?_
        refine then_normal ?_
        refine wp_region_lit ?_
        refine st_val (.pointer (some ⟨g1, 5, none⟩)) ha (by kernel_rfl) (by kernel_rfl) ?_
        clear ha; intro a ha
        refine st_exd ha (by kernel_rfl) (ex_store (of_ := 5) 1 [.bool true] s rfl rfl (by kernel_rfl) (by kernel_rfl) (Try.sizeOf4 _) rfl (by simp [Value.oneCell']) (Nat.le_of_ble_eq_true rfl)) ?_
        clear ha; rintro w a s ha
        replace s : St W (.blk g2 [.int .i64 0, .string (str []), .string (str []), .string (str []), .string (str []), .bool false, .slice none 0 0] 51 :: .blk g1 [.int .i64 x.t.op, .string (str x.t.key), .string (str (x.t.val ++ [63])), .string (str x.t.frm), .string (str x.t.to), .bool true, .slice x.A x.t.rows.length x.c] 51 :: L) w := s
        refine wpList_nil ?_
        refine then_normal ?_
        refine wp_seq ?_
        refine wp_region_lit ?_
        refine st_val (.agg #[.int .i64 x.t.op, .string (str x.t.key), .string (str (x.t.val ++ [63])), .string (str x.t.frm), .string (str x.t.to), .bool true, .slice x.A x.t.rows.length x.c]) ha (by kernel_rfl) (run_loadN (of_ := 0) [.int .i64 x.t.op, .string (str x.t.key), .string (str (x.t.val ++ [63])), .string (str x.t.frm), .string (str x.t.to), .bool true, .slice x.A x.t.rows.length x.c] (s.blkIs 1 rfl) rfl (by kernel_rfl) Try.isAgg51 Try.sizeOf51 rfl (Nat.le_of_ble_eq_true rfl)) ?_
        clear ha; intro a ha
        refine st_exd ha (by kernel_rfl) (ex_store (of_ := 0) 0 [.int .i64 x.t.op, .string (str x.t.key), .string (str (x.t.val ++ [63])), .string (str x.t.frm), .string (str x.t.to), .bool true, .slice x.A x.t.rows.length x.c] s rfl rfl (by kernel_rfl) (by kernel_rfl) (Try.sizeOf51 _) rfl (by simp [Value.oneCell']) (Nat.le_of_ble_eq_true rfl)) ?_
        clear ha; rintro w a s ha
        replace s : St W (.blk g2 [.int .i64 x.t.op, .string (str x.t.key), .string (str (x.t.val ++ [63])), .string (str x.t.frm), .string (str x.t.to), .bool true, .slice x.A x.t.rows.length x.c] 51 :: .blk g1 [.int .i64 x.t.op, .string (str x.t.key), .string (str (x.t.val ++ [63])), .string (str x.t.frm), .string (str x.t.to), .bool true, .slice x.A x.t.rows.length x.c] 51 :: L) w := s
        refine wpList_nil ?_
        refine then_normal ?_
        refine wp_ret ?_
        refine then_ret ?_
        refine ret_with (v := .agg #[.int .i64 x.t.op, .string (str x.t.key), .string (str (x.t.val ++ [63])), .string (str x.t.frm), .string (str x.t.to), .bool true, .slice x.A x.t.rows.length x.c]) ha (results_1 rfl ha (res_cellN (s.blkIs 0 rfl) (by kernel_rfl) (by kernel_rfl) Try.isAgg51 Try.sizeOf51 rfl)) ?_
        replace s := s.tail.tail
        replace s : St W (L) w := s
        refine ⟨⟨{ x.t with val := (x.t.val ++ [63]), is := true }, x.A, x.c⟩, rfl, ?_, kn_of (M := []) (fun w _ h => h) s⟩
        unfold spoil
        rw [if_pos h1]
        first | rw [if_pos (.inl (by simpa using hnis))] | rw [if_pos (.inr (by first | assumption | omega))] | rw [if_neg (by rintro (h | h) <;> simp_all)]
      · rw [hb] at ha; have hb_ := hb; replace hb := ne_of_beq_false hb
        refine wp_seq ?_
        refine wp_region_lit ?_
        refine st_val (.pointer (some ⟨g1, 5, none⟩)) ha (by kernel_rfl) (by kernel_rfl) ?_
        clear ha; intro a ha
        refine st_exd ha (by kernel_rfl) (ex_store (of_ := 5) 1 [.bool false] s rfl rfl (by kernel_rfl) (by kernel_rfl) (Try.sizeOf4 _) rfl (by simp [Value.oneCell']) (Nat.le_of_ble_eq_true rfl)) ?_
        clear ha; rintro w a s ha
        replace s : St W (.blk g2 [.int .i64 0, .string (str []), .string (str []), .string (str []), .string (str []), .bool false, .slice none 0 0] 51 :: .blk g1 [.int .i64 x.t.op, .string (str x.t.key), .string (str x.t.val), .string (str x.t.frm), .string (str x.t.to), .bool false, .slice x.A x.t.rows.length x.c] 51 :: L) w := s
        refine wpList_nil ?_
        refine then_normal ?_
        refine wp_region_lit ?_
        refine st_val (.pointer (some ⟨g1, 2, none⟩)) ha (by kernel_rfl) (by kernel_rfl) ?_
        clear ha; intro a ha
        refine st_exd ha (by kernel_rfl) (ex_store (of_ := 2) 1 [.string (str [])] s rfl rfl (by kernel_rfl) (by kernel_rfl) (Try.sizeOf9 _) rfl (by simp [Value.oneCell']) (Nat.le_of_ble_eq_true rfl)) ?_
        clear ha; rintro w a s ha
        replace s : St W (.blk g2 [.int .i64 0, .string (str []), .string (str []), .string (str []), .string (str []), .bool false, .slice none 0 0] 51 :: .blk g1 [.int .i64 x.t.op, .string (str x.t.key), .string (str []), .string (str x.t.frm), .string (str x.t.to), .bool false, .slice x.A x.t.rows.length x.c] 51 :: L) w := s
        refine wpList_nil ?_
        refine then_normal ?_
        refine wp_seq ?_
        refine wp_region_lit ?_
        refine st_val (.agg #[.int .i64 x.t.op, .string (str x.t.key), .string (str []), .string (str x.t.frm), .string (str x.t.to), .bool false, .slice x.A x.t.rows.length x.c]) ha (by kernel_rfl) (run_loadN (of_ := 0) [.int .i64 x.t.op, .string (str x.t.key), .string (str []), .string (str x.t.frm), .string (str x.t.to), .bool false, .slice x.A x.t.rows.length x.c] (s.blkIs 1 rfl) rfl (by kernel_rfl) Try.isAgg51 Try.sizeOf51 rfl (Nat.le_of_ble_eq_true rfl)) ?_
        clear ha; intro a ha
        refine st_exd ha (by kernel_rfl) (ex_store (of_ := 0) 0 [.int .i64 x.t.op, .string (str x.t.key), .string (str []), .string (str x.t.frm), .string (str x.t.to), .bool false, .slice x.A x.t.rows.length x.c] s rfl rfl (by kernel_rfl) (by kernel_rfl) (Try.sizeOf51 _) rfl (by simp [Value.oneCell']) (Nat.le_of_ble_eq_true rfl)) ?_
        clear ha; rintro w a s ha
        replace s : St W (.blk g2 [.int .i64 x.t.op, .string (str x.t.key), .string (str []), .string (str x.t.frm), .string (str x.t.to), .bool false, .slice x.A x.t.rows.length x.c] 51 :: .blk g1 [.int .i64 x.t.op, .string (str x.t.key), .string (str []), .string (str x.t.frm), .string (str x.t.to), .bool false, .slice x.A x.t.rows.length x.c] 51 :: L) w := s
        refine wpList_nil ?_
        refine then_normal ?_
        refine wp_ret ?_
        refine then_ret ?_
        refine ret_with (v := .agg #[.int .i64 x.t.op, .string (str x.t.key), .string (str []), .string (str x.t.frm), .string (str x.t.to), .bool false, .slice x.A x.t.rows.length x.c]) ha (results_1 rfl ha (res_cellN (s.blkIs 0 rfl) (by kernel_rfl) (by kernel_rfl) Try.isAgg51 Try.sizeOf51 rfl)) ?_
        replace s := s.tail.tail
        replace s : St W (L) w := s
        refine ⟨⟨{ x.t with val := [], is := false }, x.A, x.c⟩, rfl, ?_, kn_of (M := []) (fun w _ h => h) s⟩
        unfold spoil
        rw [if_pos h1]
        first | rw [if_pos (.inl (by simpa using hnis))] | rw [if_pos (.inr (by first | assumption | omega))] | rw [if_neg (by rintro (h | h) <;> simp_all)]
  · rw [hb] at ha; have hb_ := hb; replace hb := ne_of_beq_false hb
    have n1 : ¬ x.t.op = 1 := by simpa using hb
    have hr3 := hr2 (hop.resolve_left n1)
    refine wp_skip ?_
    refine then_normal ?_
    refine wp_seq ?_
    refine wp_seq ?_
    refine wp_region_lit ?_
    refine st_val (.int .i64 how) ha (by kernel_rfl) (by kernel_rfl) ?_
    clear ha; intro a ha
    refine st_val (.bool (how == (0 : Int))) ha (by kernel_rfl) (by kernel_rfl) ?_
    clear ha; intro a ha
    refine st_val (.bool (how == (0 : Int))) ha (by kernel_rfl) (by kernel_rfl) ?_
    clear ha; intro a ha
    rcases Bool.eq_false_or_eq_true (how == (0 : Int)) with hb | hb
    · rw [hb] at ha; have hb_ := hb; replace hb := eq_of_beq hb
      refine st_val (.pointer (some ⟨g1, 6, none⟩)) ha (by kernel_rfl) (by kernel_rfl) ?_
      clear ha; intro a ha
      refine st_val (.slice x.A x.t.rows.length x.c) ha (by kernel_rfl) (run_load1 (of_ := 6) (s.blkIs 1 rfl) rfl (by kernel_rfl) Try.isAgg35 rfl) ?_
      clear ha; intro a ha
      refine st_val (.int .i64 ((x.t.rows.length : Nat) : Int)) ha (by kernel_rfl) (by kernel_rfl) ?_
      clear ha; intro a ha
      refine st_val (.bool (decide (((x.t.rows.length : Nat) : Int) > (0 : Int)))) ha (by kernel_rfl) (by kernel_rfl) ?_
      clear ha; intro a ha
      refine st_val (.bool (decide (((x.t.rows.length : Nat) : Int) > (0 : Int)))) ha (by kernel_rfl) (by kernel_rfl) ?_
      clear ha; intro a ha
      refine wpList_nil ?_
      refine then_normal ?_
      refine wp_part (decide (((x.t.rows.length : Nat) : Int) > (0 : Int))) ha rfl (by kernel_rfl) (fun hb => ?_) (fun hb => ?_)
      · rw [hb] at ha; replace hb : (((x.t.rows.length : Nat) : Int) > (0 : Int)) := of_decide_eq_true hb
        refine wp_seq ?_
        refine wp_region_lit ?_
        refine st_val (.pointer (some ⟨g1, 6, none⟩)) ha (by kernel_rfl) (by kernel_rfl) ?_
        clear ha; intro a ha
        refine st_val (.slice x.A x.t.rows.length x.c) ha (by kernel_rfl) (run_load1 (of_ := 6) (s.blkIs 1 rfl) rfl (by kernel_rfl) Try.isAgg35 rfl) ?_
        clear ha; intro a ha
        refine st_val (.slice (slA x.A 1 x.c 2) (x.t.rows.length - 1) (x.c - 1)) ha (by kernel_rfl) (run_slice (n := x.t.rows.length) (c := x.c) 1 x.t.rows.length x.c rfl Try.underlying35 Try.sizeOf54 (by kernel_rfl) (fun h => by cases h) bnd_none bnd_none (bnd_some .i64 (by kernel_rfl)) (by omega) (by omega) (by omega) _) ?_
        clear ha; intro a ha
        refine st_val (.pointer (some ⟨g1, 6, none⟩)) ha (by kernel_rfl) (by kernel_rfl) ?_
        clear ha; intro a ha
        refine st_exd ha (by kernel_rfl) (ex_store (of_ := 6) 1 [.slice (slA x.A 1 x.c 2) (x.t.rows.length - 1) (x.c - 1)] s rfl rfl (by kernel_rfl) (by kernel_rfl) (Try.sizeOf35 _) rfl (by simp [Value.oneCell']) (Nat.le_of_ble_eq_true rfl)) ?_
        clear ha; rintro w a s ha
        replace s : St W (.blk g2 [.int .i64 0, .string (str []), .string (str []), .string (str []), .string (str []), .bool false, .slice none 0 0] 51 :: .blk g1 [.int .i64 x.t.op, .string (str x.t.key), .string (str x.t.val), .string (str x.t.frm), .string (str x.t.to), .bool x.t.is, .slice (slA x.A 1 x.c 2) (x.t.rows.length - 1) (x.c - 1)] 51 :: L) w := s
        refine wpList_nil ?_
        refine then_normal ?_
        refine wp_seq ?_
        refine wp_region_lit ?_
        refine st_val (.agg #[.int .i64 x.t.op, .string (str x.t.key), .string (str x.t.val), .string (str x.t.frm), .string (str x.t.to), .bool x.t.is, .slice (slA x.A 1 x.c 2) (x.t.rows.length - 1) (x.c - 1)]) ha (by kernel_rfl) (run_loadN (of_ := 0) [.int .i64 x.t.op, .string (str x.t.key), .string (str x.t.val), .string (str x.t.frm), .string (str x.t.to), .bool x.t.is, .slice (slA x.A 1 x.c 2) (x.t.rows.length - 1) (x.c - 1)] (s.blkIs 1 rfl) rfl (by kernel_rfl) Try.isAgg51 Try.sizeOf51 rfl (Nat.le_of_ble_eq_true rfl)) ?_
        clear ha; intro a ha
        refine st_exd ha (by kernel_rfl) (ex_store (of_ := 0) 0 [.int .i64 x.t.op, .string (str x.t.key), .string (str x.t.val), .string (str x.t.frm), .string (str x.t.to), .bool x.t.is, .slice (slA x.A 1 x.c 2) (x.t.rows.length - 1) (x.c - 1)] s rfl rfl (by kernel_rfl) (by kernel_rfl) (Try.sizeOf51 _) rfl (by simp [Value.oneCell']) (Nat.le_of_ble_eq_true rfl)) ?_
        clear ha; rintro w a s ha
        replace s : St W (.blk g2 [.int .i64 x.t.op, .string (str x.t.key), .string (str x.t.val), .string (str x.t.frm), .string (str x.t.to), .bool x.t.is, .slice (slA x.A 1 x.c 2) (x.t.rows.length - 1) (x.c - 1)] 51 :: .blk g1 [.int .i64 x.t.op, .string (str x.t.key), .string (str x.t.val), .string (str x.t.frm), .string (str x.t.to), .bool x.t.is, .slice (slA x.A 1 x.c 2) (x.t.rows.length - 1) (x.c - 1)] 51 :: L) w := s
        refine wpList_nil ?_
        refine then_normal ?_
        refine wp_ret ?_
        refine then_ret ?_
        refine ret_with (v := .agg #[.int .i64 x.t.op, .string (str x.t.key), .string (str x.t.val), .string (str x.t.frm), .string (str x.t.to), .bool x.t.is, .slice (slA x.A 1 x.c 2) (x.t.rows.length - 1) (x.c - 1)]) ha (results_1 rfl ha (res_cellN (s.blkIs 0 rfl) (by kernel_rfl) (by kernel_rfl) Try.isAgg51 Try.sizeOf51 rfl)) ?_
        replace s := s.tail.tail
        replace s : St W (L) w := s
        refine ⟨⟨{ x.t with rows := x.t.rows.drop 1 }, slA x.A 1 x.c 2, x.c - 1⟩, by simp only [List.length_drop], ?_, kn_of (M := []) (fun w _ h => ?_) s⟩
        · unfold spoil; rw [if_neg n1, if_pos ⟨by first | assumption | omega, by omega⟩]
        · have h2 := reads_drop h (l := 1) (by omega) hcl
          rw [rws, flatMap_drop (n := 2) (fun _ => rfl) x.t.rows 1 (by omega)] at h2
          show Reads w 2 (slA x.A 1 x.c 2) (x.t.rows.drop 1).length (rws (x.t.rows.drop 1))
          rw [List.length_drop]; exact h2
      · rw [hb] at ha; replace hb : ¬ (((x.t.rows.length : Nat) : Int) > (0 : Int)) := of_decide_eq_false hb
        refine wp_skip ?_
        refine then_normal ?_
        refine wp_seq ?_
        refine wp_region_lit ?_
        refine st_val (.pointer (some ⟨g1, 6, none⟩)) ha (by kernel_rfl) (by kernel_rfl) ?_
        clear ha; intro a ha
        refine st_val (.slice x.A x.t.rows.length x.c) ha (by kernel_rfl) (run_load1 (of_ := 6) (s.blkIs 1 rfl) rfl (by kernel_rfl) Try.isAgg35 rfl) ?_
        clear ha; intro a ha
        replace s := Own.none_ (e := 54) (k := 2) none s
        replace s : St W (Own 54 2 none 0 0 [] :: .blk g2 [.int .i64 0, .string (str []), .string (str []), .string (str []), .string (str []), .bool false, .slice none 0 0] 51 :: .blk g1 [.int .i64 x.t.op, .string (str x.t.key), .string (str x.t.val), .string (str x.t.frm), .string (str x.t.to), .bool x.t.is, .slice x.A x.t.rows.length x.c] 51 :: L) w := s
        refine st_ex ha (by kernel_rfl) (ex_append (m := x.t.rows.length) (d' := x.c) elt35 (by decide) 0 (rws x.t.rows) s rfl (by kernel_rfl) (by kernel_rfl) rfl (hr _ s.sat.tail.tail.tail) (rws_one _) (by simp only [maxLen]; omega) (by omega)) ?_
        clear ha; rintro _ w a ⟨A3, c4, rfl, hA_, s⟩ ha
        replace s : St W (Own 54 2 A3 (0 + x.t.rows.length) c4 ([] ++ (rws x.t.rows)) :: .blk g2 [.int .i64 0, .string (str []), .string (str []), .string (str []), .string (str []), .bool false, .slice none 0 0] 51 :: .blk g1 [.int .i64 x.t.op, .string (str x.t.key), .string (str x.t.val), .string (str x.t.frm), .string (str x.t.to), .bool x.t.is, .slice x.A x.t.rows.length x.c] 51 :: L) w := s
        refine st_val (.agg #[.string (str [63]), .string (str [])]) ha (by kernel_rfl) (by kernel_rfl) ?_
        clear ha; intro a ha
        refine st_ex ha (by kernel_rfl) (ex_buildSlice elt35 _ zs35 [.string (str [63]), .string (str [])] s rfl (by kernel_rfl) (by decide)) ?_
        clear ha; rintro _ w a ⟨g5, rfl, s⟩ ha
        replace s : St W (.blk g5 [.string (str [63]), .string (str [])] 54 :: Own 54 2 A3 (0 + x.t.rows.length) c4 ([] ++ (rws x.t.rows)) :: .blk g2 [.int .i64 0, .string (str []), .string (str []), .string (str []), .string (str []), .bool false, .slice none 0 0] 51 :: .blk g1 [.int .i64 x.t.op, .string (str x.t.key), .string (str x.t.val), .string (str x.t.frm), .string (str x.t.to), .bool x.t.is, .slice x.A x.t.rows.length x.c] 51 :: L) w := s
        refine st_ex ha (by kernel_rfl) (ex_append (m := 1) (d' := 1) elt35 (by decide) 1 [.string (str [63]), .string (str [])] s rfl (by kernel_rfl) (by kernel_rfl) rfl (reads_blk (s.blkIs 0 rfl) rfl) (by simp [Value.oneCell']) (by simp only [maxLen]; omega) (by omega)) ?_
        clear ha; rintro _ w a ⟨A6, c7, rfl, hA_, s⟩ ha
        replace s : St W (.blk g5 [.string (str [63]), .string (str [])] 54 :: Own 54 2 A6 (0 + x.t.rows.length + 1) c7 (([] ++ (rws x.t.rows)) ++ [.string (str [63]), .string (str [])]) :: .blk g2 [.int .i64 0, .string (str []), .string (str []), .string (str []), .string (str []), .bool false, .slice none 0 0] 51 :: .blk g1 [.int .i64 x.t.op, .string (str x.t.key), .string (str x.t.val), .string (str x.t.frm), .string (str x.t.to), .bool x.t.is, .slice x.A x.t.rows.length x.c] 51 :: L) w := s
        refine st_val (.pointer (some ⟨g1, 6, none⟩)) ha (by kernel_rfl) (by kernel_rfl) ?_
        clear ha; intro a ha
        refine st_exd ha (by kernel_rfl) (ex_store (of_ := 6) 3 [.slice A6 (0 + x.t.rows.length + 1) c7] s rfl rfl (by kernel_rfl) (by kernel_rfl) (Try.sizeOf35 _) rfl (by simp [Value.oneCell']) (Nat.le_of_ble_eq_true rfl)) ?_
        clear ha; rintro w a s ha
        replace s : St W (.blk g5 [.string (str [63]), .string (str [])] 54 :: Own 54 2 A6 (0 + x.t.rows.length + 1) c7 (([] ++ (rws x.t.rows)) ++ [.string (str [63]), .string (str [])]) :: .blk g2 [.int .i64 0, .string (str []), .string (str []), .string (str []), .string (str []), .bool false, .slice none 0 0] 51 :: .blk g1 [.int .i64 x.t.op, .string (str x.t.key), .string (str x.t.val), .string (str x.t.frm), .string (str x.t.to), .bool x.t.is, .slice A6 (0 + x.t.rows.length + 1) c7] 51 :: L) w := s
        refine wpList_nil ?_
        refine then_normal ?_
        refine wp_seq ?_
        refine wp_region_lit ?_
        refine st_val (.agg #[.int .i64 x.t.op, .string (str x.t.key), .string (str x.t.val), .string (str x.t.frm), .string (str x.t.to), .bool x.t.is, .slice A6 (0 + x.t.rows.length + 1) c7]) ha (by kernel_rfl) (run_loadN (of_ := 0) [.int .i64 x.t.op, .string (str x.t.key), .string (str x.t.val), .string (str x.t.frm), .string (str x.t.to), .bool x.t.is, .slice A6 (0 + x.t.rows.length + 1) c7] (s.blkIs 3 rfl) rfl (by kernel_rfl) Try.isAgg51 Try.sizeOf51 rfl (Nat.le_of_ble_eq_true rfl)) ?_
        clear ha; intro a ha
        refine st_exd ha (by kernel_rfl) (ex_store (of_ := 0) 2 [.int .i64 x.t.op, .string (str x.t.key), .string (str x.t.val), .string (str x.t.frm), .string (str x.t.to), .bool x.t.is, .slice A6 (0 + x.t.rows.length + 1) c7] s rfl rfl (by kernel_rfl) (by kernel_rfl) (Try.sizeOf51 _) rfl (by simp [Value.oneCell']) (Nat.le_of_ble_eq_true rfl)) ?_
        clear ha; rintro w a s ha
        replace s : St W (.blk g5 [.string (str [63]), .string (str [])] 54 :: Own 54 2 A6 (0 + x.t.rows.length + 1) c7 (([] ++ (rws x.t.rows)) ++ [.string (str [63]), .string (str [])]) :: .blk g2 [.int .i64 x.t.op, .string (str x.t.key), .string (str x.t.val), .string (str x.t.frm), .string (str x.t.to), .bool x.t.is, .slice A6 (0 + x.t.rows.length + 1) c7] 51 :: .blk g1 [.int .i64 x.t.op, .string (str x.t.key), .string (str x.t.val), .string (str x.t.frm), .string (str x.t.to), .bool x.t.is, .slice A6 (0 + x.t.rows.length + 1) c7] 51 :: L) w := s
        refine wpList_nil ?_
        refine then_normal ?_
        refine wp_ret ?_
        refine ret_with (v := .agg #[.int .i64 x.t.op, .string (str x.t.key), .string (str x.t.val), .string (str x.t.frm), .string (str x.t.to), .bool x.t.is, .slice A6 (0 + x.t.rows.length + 1) c7]) ha (results_1 rfl ha (res_cellN (s.blkIs 2 rfl) (by kernel_rfl) (by kernel_rfl) Try.isAgg51 Try.sizeOf51 rfl)) ?_
        replace s := s.at_ (j := 1) rfl
        replace s : St W (Own 54 2 A6 (0 + x.t.rows.length + 1) c7 (([] ++ (rws x.t.rows)) ++ [.string (str [63]), .string (str [])]) :: .blk g5 [.string (str [63]), .string (str [])] 54 :: .blk g2 [.int .i64 x.t.op, .string (str x.t.key), .string (str x.t.val), .string (str x.t.frm), .string (str x.t.to), .bool x.t.is, .slice A6 (0 + x.t.rows.length + 1) c7] 51 :: .blk g1 [.int .i64 x.t.op, .string (str x.t.key), .string (str x.t.val), .string (str x.t.frm), .string (str x.t.to), .bool x.t.is, .slice A6 (0 + x.t.rows.length + 1) c7] 51 :: L) w := s
        replace s : St W (Own 54 2 A6 (0 + x.t.rows.length + 1) c7 (([] ++ (rws x.t.rows)) ++ [.string (str [63]), .string (str [])]) :: L) w := St.mid (A := [Own 54 2 A6 (0 + x.t.rows.length + 1) c7 (([] ++ (rws x.t.rows)) ++ [.string (str [63]), .string (str [])])]) (B := [.blk g5 [.string (str [63]), .string (str [])] 54, .blk g2 [.int .i64 x.t.op, .string (str x.t.key), .string (str x.t.val), .string (str x.t.frm), .string (str x.t.to), .bool x.t.is, .slice A6 (0 + x.t.rows.length + 1) c7] 51, .blk g1 [.int .i64 x.t.op, .string (str x.t.key), .string (str x.t.val), .string (str x.t.frm), .string (str x.t.to), .bool x.t.is, .slice A6 (0 + x.t.rows.length + 1) c7] 51]) s
        refine ⟨⟨{ x.t with rows := x.t.rows ++ [⟨[63], []⟩] }, A6, c7⟩, by simp only [List.length_append, List.length_singleton, Nat.zero_add], ?_, kn_of (M := [_]) (fun w s h => ?_) s⟩
        · unfold spoil; rw [if_neg n1, if_neg (fun h => by first | omega | exact absurd h.1 (by assumption))]
        · have h2 := Own.reads s
          show Reads w 2 A6 (x.t.rows ++ ([⟨[63], []⟩] : List Rw)).length (rws (x.t.rows ++ ([⟨[63], []⟩] : List Rw)))
          rw [List.length_append, rws_append]
          simpa [rws, rv] using h2
    · rw [hb] at ha; have hb_ := hb; replace hb := ne_of_beq_false hb
      refine st_pass ha (by kernel_rfl) ?_
      clear ha; intro a ha
      refine st_pass ha (by kernel_rfl) ?_
      clear ha; intro a ha
      refine st_pass ha (by kernel_rfl) ?_
      clear ha; intro a ha
      refine st_pass ha (by kernel_rfl) ?_
      clear ha; intro a ha
      refine st_val (.bool false) ha (by kernel_rfl) (by kernel_rfl) ?_
      clear ha; intro a ha
      refine wpList_nil ?_
      refine then_normal ?_
      refine wp_false ha rfl (by kernel_rfl) ?_
      refine wp_skip ?_
      refine then_normal ?_
      refine wp_seq ?_
      refine wp_region_lit ?_
      refine st_val (.pointer (some ⟨g1, 6, none⟩)) ha (by kernel_rfl) (by kernel_rfl) ?_
      clear ha; intro a ha
      refine st_val (.slice x.A x.t.rows.length x.c) ha (by kernel_rfl) (run_load1 (of_ := 6) (s.blkIs 1 rfl) rfl (by kernel_rfl) Try.isAgg35 rfl) ?_
      clear ha; intro a ha
      replace s := Own.none_ (e := 54) (k := 2) none s
      replace s : St W (Own 54 2 none 0 0 [] :: .blk g2 [.int .i64 0, .string (str []), .string (str []), .string (str []), .string (str []), .bool false, .slice none 0 0] 51 :: .blk g1 [.int .i64 x.t.op, .string (str x.t.key), .string (str x.t.val), .string (str x.t.frm), .string (str x.t.to), .bool x.t.is, .slice x.A x.t.rows.length x.c] 51 :: L) w := s
      refine st_ex ha (by kernel_rfl) (ex_append (m := x.t.rows.length) (d' := x.c) elt35 (by decide) 0 (rws x.t.rows) s rfl (by kernel_rfl) (by kernel_rfl) rfl (hr _ s.sat.tail.tail.tail) (rws_one _) (by simp only [maxLen]; omega) (by omega)) ?_
      clear ha; rintro _ w a ⟨A8, c9, rfl, hA_, s⟩ ha
      replace s : St W (Own 54 2 A8 (0 + x.t.rows.length) c9 ([] ++ (rws x.t.rows)) :: .blk g2 [.int .i64 0, .string (str []), .string (str []), .string (str []), .string (str []), .bool false, .slice none 0 0] 51 :: .blk g1 [.int .i64 x.t.op, .string (str x.t.key), .string (str x.t.val), .string (str x.t.frm), .string (str x.t.to), .bool x.t.is, .slice x.A x.t.rows.length x.c] 51 :: L) w := s
      refine st_val (.agg #[.string (str [63]), .string (str [])]) ha (by kernel_rfl) (by kernel_rfl) ?_
      clear ha; intro a ha
      refine st_ex ha (by kernel_rfl) (ex_buildSlice elt35 _ zs35 [.string (str [63]), .string (str [])] s rfl (by kernel_rfl) (by decide)) ?_
      clear ha; rintro _ w a ⟨g10, rfl, s⟩ ha
      replace s : St W (.blk g10 [.string (str [63]), .string (str [])] 54 :: Own 54 2 A8 (0 + x.t.rows.length) c9 ([] ++ (rws x.t.rows)) :: .blk g2 [.int .i64 0, .string (str []), .string (str []), .string (str []), .string (str []), .bool false, .slice none 0 0] 51 :: .blk g1 [.int .i64 x.t.op, .string (str x.t.key), .string (str x.t.val), .string (str x.t.frm), .string (str x.t.to), .bool x.t.is, .slice x.A x.t.rows.length x.c] 51 :: L) w := s
      refine st_ex ha (by kernel_rfl) (ex_append (m := 1) (d' := 1) elt35 (by decide) 1 [.string (str [63]), .string (str [])] s rfl (by kernel_rfl) (by kernel_rfl) rfl (reads_blk (s.blkIs 0 rfl) rfl) (by simp [Value.oneCell']) (by simp only [maxLen]; omega) (by omega)) ?_
      clear ha; rintro _ w a ⟨A11, c12, rfl, hA_, s⟩ ha
      replace s : St W (.blk g10 [.string (str [63]), .string (str [])] 54 :: Own 54 2 A11 (0 + x.t.rows.length + 1) c12 (([] ++ (rws x.t.rows)) ++ [.string (str [63]), .string (str [])]) :: .blk g2 [.int .i64 0, .string (str []), .string (str []), .string (str []), .string (str []), .bool false, .slice none 0 0] 51 :: .blk g1 [.int .i64 x.t.op, .string (str x.t.key), .string (str x.t.val), .string (str x.t.frm), .string (str x.t.to), .bool x.t.is, .slice x.A x.t.rows.length x.c] 51 :: L) w := s
      refine st_val (.pointer (some ⟨g1, 6, none⟩)) ha (by kernel_rfl) (by kernel_rfl) ?_
      clear ha; intro a ha
      refine st_exd ha (by kernel_rfl) (ex_store (of_ := 6) 3 [.slice A11 (0 + x.t.rows.length + 1) c12] s rfl rfl (by kernel_rfl) (by kernel_rfl) (Try.sizeOf35 _) rfl (by simp [Value.oneCell']) (Nat.le_of_ble_eq_true rfl)) ?_
      clear ha; rintro w a s ha
      replace s : St W (.blk g10 [.string (str [63]), .string (str [])] 54 :: Own 54 2 A11 (0 + x.t.rows.length + 1) c12 (([] ++ (rws x.t.rows)) ++ [.string (str [63]), .string (str [])]) :: .blk g2 [.int .i64 0, .string (str []), .string (str []), .string (str []), .string (str []), .bool false, .slice none 0 0] 51 :: .blk g1 [.int .i64 x.t.op, .string (str x.t.key), .string (str x.t.val), .string (str x.t.frm), .string (str x.t.to), .bool x.t.is, .slice A11 (0 + x.t.rows.length + 1) c12] 51 :: L) w := s
      refine wpList_nil ?_
      refine then_normal ?_
      refine wp_seq ?_
      refine wp_region_lit ?_
      refine st_val (.agg #[.int .i64 x.t.op, .string (str x.t.key), .string (str x.t.val), .string (str x.t.frm), .string (str x.t.to), .bool x.t.is, .slice A11 (0 + x.t.rows.length + 1) c12]) ha (by kernel_rfl) (run_loadN (of_ := 0) [.int .i64 x.t.op, .string (str x.t.key), .string (str x.t.val), .string (str x.t.frm), .string (str x.t.to), .bool x.t.is, .slice A11 (0 + x.t.rows.length + 1) c12] (s.blkIs 3 rfl) rfl (by kernel_rfl) Try.isAgg51 Try.sizeOf51 rfl (Nat.le_of_ble_eq_true rfl)) ?_
      clear ha; intro a ha
      refine st_exd ha (by kernel_rfl) (ex_store (of_ := 0) 2 [.int .i64 x.t.op, .string (str x.t.key), .string (str x.t.val), .string (str x.t.frm), .string (str x.t.to), .bool x.t.is, .slice A11 (0 + x.t.rows.length + 1) c12] s rfl rfl (by kernel_rfl) (by kernel_rfl) (Try.sizeOf51 _) rfl (by simp [Value.oneCell']) (Nat.le_of_ble_eq_true rfl)) ?_
      clear ha; rintro w a s ha
      replace s : St W (.blk g10 [.string (str [63]), .string (str [])] 54 :: Own 54 2 A11 (0 + x.t.rows.length + 1) c12 (([] ++ (rws x.t.rows)) ++ [.string (str [63]), .string (str [])]) :: .blk g2 [.int .i64 x.t.op, .string (str x.t.key), .string (str x.t.val), .string (str x.t.frm), .string (str x.t.to), .bool x.t.is, .slice A11 (0 + x.t.rows.length + 1) c12] 51 :: .blk g1 [.int .i64 x.t.op, .string (str x.t.key), .string (str x.t.val), .string (str x.t.frm), .string (str x.t.to), .bool x.t.is, .slice A11 (0 + x.t.rows.length + 1) c12] 51 :: L) w := s
      refine wpList_nil ?_
      refine then_normal ?_
      refine wp_ret ?_
      refine ret_with (v := .agg #[.int .i64 x.t.op, .string (str x.t.key), .string (str x.t.val), .string (str x.t.frm), .string (str x.t.to), .bool x.t.is, .slice A11 (0 + x.t.rows.length + 1) c12]) ha (results_1 rfl ha (res_cellN (s.blkIs 2 rfl) (by kernel_rfl) (by kernel_rfl) Try.isAgg51 Try.sizeOf51 rfl)) ?_
      replace s := s.at_ (j := 1) rfl
      replace s : St W (Own 54 2 A11 (0 + x.t.rows.length + 1) c12 (([] ++ (rws x.t.rows)) ++ [.string (str [63]), .string (str [])]) :: .blk g10 [.string (str [63]), .string (str [])] 54 :: .blk g2 [.int .i64 x.t.op, .string (str x.t.key), .string (str x.t.val), .string (str x.t.frm), .string (str x.t.to), .bool x.t.is, .slice A11 (0 + x.t.rows.length + 1) c12] 51 :: .blk g1 [.int .i64 x.t.op, .string (str x.t.key), .string (str x.t.val), .string (str x.t.frm), .string (str x.t.to), .bool x.t.is, .slice A11 (0 + x.t.rows.length + 1) c12] 51 :: L) w := s
      replace s : St W (Own 54 2 A11 (0 + x.t.rows.length + 1) c12 (([] ++ (rws x.t.rows)) ++ [.string (str [63]), .string (str [])]) :: L) w := St.mid (A := [Own 54 2 A11 (0 + x.t.rows.length + 1) c12 (([] ++ (rws x.t.rows)) ++ [.string (str [63]), .string (str [])])]) (B := [.blk g10 [.string (str [63]), .string (str [])] 54, .blk g2 [.int .i64 x.t.op, .string (str x.t.key), .string (str x.t.val), .string (str x.t.frm), .string (str x.t.to), .bool x.t.is, .slice A11 (0 + x.t.rows.length + 1) c12] 51, .blk g1 [.int .i64 x.t.op, .string (str x.t.key), .string (str x.t.val), .string (str x.t.frm), .string (str x.t.to), .bool x.t.is, .slice A11 (0 + x.t.rows.length + 1) c12] 51]) s
      refine ⟨⟨{ x.t with rows := x.t.rows ++ [⟨[63], []⟩] }, A11, c12⟩, by simp only [List.length_append, List.length_singleton, Nat.zero_add], ?_, kn_of (M := [_]) (fun w s h => ?_) s⟩
      · unfold spoil; rw [if_neg n1, if_neg (fun h => by first | omega | exact absurd h.1 (by assumption))]
      · have h2 := Own.reads s
        show Reads w 2 A11 (x.t.rows ++ ([⟨[63], []⟩] : List Rw)).length (rws (x.t.rows ++ ([⟨[63], []⟩] : List Rw)))
        rw [List.length_append, rws_append]
        simpa [rws, rv] using h2

end Go.Proofs.Ytidfniglnmfphaa.B
