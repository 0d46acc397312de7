import Derived.Test.YtagbmfdheppmoaaGreatDoorK4
import Derived.LaidEqlPtr
import Derived.KernelRfl
namespace Go.Proofs.YtagbmfdheppmoaaGreatDoor.B
open Go.RowKit Go.Proofs.YtagbmfdheppmoaaGreatDoor.Sep
set_option linter.unusedVariables false
set_option linter.unusedSimpArgs false

theorem ld_raw {x : Nd} {f : Nat → Option Nat} {i : Nat} {o : Option Nat} (hi : i < 16) (h : f i = o) : (ncF x f)[3 + i * 1]? = some (ptrO o) := by rw [Nat.mul_one, ncF_next x f hi, h]
theorem c16_get {oc : Nat → Value} {i : Nat} {v : Value} (hi : i < 16) (h : oc i = v) : (c16 oc).toArray[i]? = some v := by
  rcases (show i = 0 ∨ i = 1 ∨ i = 2 ∨ i = 3 ∨ i = 4 ∨ i = 5 ∨ i = 6 ∨ i = 7 ∨ i = 8 ∨ i = 9 ∨ i = 10 ∨ i = 11 ∨ i = 12 ∨ i = 13 ∨ i = 14 ∨ i = 15 by omega) with e | e | e | e | e | e | e | e | e | e | e | e | e | e | e | e <;> (subst e; rw [← h]; rfl)
theorem ptrO_one (o : Option Nat) : (ptrO o).oneCell' = true := by cases o <;> rfl
theorem ptrO_cells (o : Option Nat) : (ptrO o).cells = #[ptrO o] := by cases o <;> rfl
section
variable {P : Program} {o : Oper} {E : Env} {w W : World} {L : List Chunk}
theorem run_indexAgg {t e len : Nat} {x ix : Operand} {cs : Array Value} {kd : IntKind} {z : Int} {v : Value} (m : Nat) (ho : o.op = .index t x ix) (hu : P.underlying t = some (.array len e)) (hz : ∀ w, (sizeOf e).run P w = .ok 1 w) (ha : ∀ w, (isAgg e).run P w = .ok false w)
    (hx : evalE E x = .agg cs) (hi : evalE E ix = .int kd z) (hm : z = (m : Int)) (hlt : m < len) (hv : cs[m]? = some v) :
    ∀ w, (execOp (evalE E) o).run P w = .ok (.value v) w := by
  intro w
  subst hm
  simp [execOp, ho, Instr.index, asIntOf, hi, hx, run_underlying hu, hz, hlt, Go.part, ha, hv]
theorem ex_nextB {l : List Nd} {F : Nat → Nat → Option Nat} {p i : Nat} {q : Option Nat} {x : Nd} {t : TypeId} {a b : Operand} (hx : l[p]? = some x) (hi : i < 16) (s : St W (SkF l F :: L) w) (ho : o.op = .store t a b) (ha : evalE E a = .pointer (some ⟨x.g, 3 + i * 1, none⟩)) (hb : evalE E b = ptrO q) (hz : ∀ w, (sizeOf t).run P w = .ok 1 w) :
    ∃ w1, (execOp (evalE E) o).run P w = .ok .skip w1 ∧ St W (SkF l (updF F p i q) :: L) w1 := by
  rw [Nat.mul_one] at ha
  have h0 := rowsF_at (F := F) (q := 0) hx
  rw [Nat.zero_add] at h0
  have := ex_storeB (P := P) (E := E) (o := o) p [ptrO q] s h0 ho ha (by rw [hb, ptrO_cells]) (hz w) rfl (fun v hv => by simp at hv; subst hv; exact ptrO_one q) (by rw [ncF_len]; simp; omega)
  rwa [rowsF_set hx hi] at this
theorem ex_newB {f : Nat → Option Nat} {j i g : Nat} {q : Option Nat} {x : Nd} {t t' : TypeId} {a b : Operand} (hi : i < 16) (s : St W L w) (hj : L[j]? = some (.blk g (ncF x f) t')) (ho : o.op = .store t a b) (ha : evalE E a = .pointer (some ⟨g, 3 + i * 1, none⟩)) (hb : evalE E b = ptrO q) (hz : ∀ w, (sizeOf t).run P w = .ok 1 w) :
    ∃ w1, (execOp (evalE E) o).run P w = .ok .skip w1 ∧ St W (L.set j (.blk g (ncF x fun j => if j = i then q else f j) t')) w1 := by
  rw [Nat.mul_one] at ha
  have := ex_store (P := P) (E := E) (o := o) j [ptrO q] s hj ho ha (by rw [hb, ptrO_cells]) (hz w) rfl (fun v hv => by simp at hv; subst hv; exact ptrO_one q) (by rw [ncF_len]; simp; omega)
  rwa [ncF_put hi] at this
theorem ex_valB {l : List Nd} {F : Nat → Nat → Option Nat} {p : Nat} {v : K} {x : Nd} {t : TypeId} {a b : Operand} (hx : l[p]? = some x) (s : St W (SkF l F :: L) w) (ho : o.op = .store t a b) (ha : evalE E a = .pointer (some ⟨x.g, 1, none⟩)) (hb : evalE E b = .string (str v)) (hz : ∀ w, (sizeOf t).run P w = .ok 1 w) :
    ∃ w1, (execOp (evalE E) o).run P w = .ok .skip w1 ∧ St W (SkF (l.set p { x with v := v }) F :: L) w1 := by
  have h0 := rowsF_at (F := F) (q := 0) hx
  rw [Nat.zero_add] at h0
  have := ex_storeB (P := P) (E := E) (o := o) p [.string (str v)] s h0 ho ha (by rw [hb]; rfl) (hz w) rfl (fun v hv => by simp at hv; subst hv; rfl) (by rw [ncF_len]; simp)
  have e := rowsF_setv (F := F) (v := v) (q := 0) hx
  rw [Nat.zero_add] at e
  rwa [e] at this
end

theorem Put_spec (W : World) (L : List Chunk) (w : World) (gl : Nat) (hd : Nd) (r : List Nd) (key val : K) (st : Nat) (h1 : 1 ≤ st) (h16 : st ≤ 16) (hlen : r.length < 1000000000) (ok : SkOk (hd :: r)) (s : St W (.blk gl [.pointer (some ⟨hd.g, 0, none⟩), .int .i64 ((r.length : Nat) : Int)] 220 :: SkF (hd :: r) (canon (hd :: r)) :: L) w) :
    Calls Tryz.prog 72 #[.pointer (some ⟨gl, 0, none⟩), .string (str key), .string (str val), .int .i64 ((st : Nat) : Int)] w fun e w' => ∃ r' : List Nd, e = .returned (.bool true) ∧ SkOk (hd :: r') ∧ r'.map kv = tput (r.map kv) key val ∧ St W (.blk gl [.pointer (some ⟨hd.g, 0, none⟩), .int .i64 ((r'.length : Nat) : Int)] 220 :: SkF (hd :: r') (canon (hd :: r')) :: L) w' := by
  refine enter_args (l := [.pointer (some ⟨gl, 0, none⟩), .string (str key), .string (str val), .int .i64 ((st : Nat) : Int)]) Tryz.func72 rfl rfl (Nat.le_of_ble_eq_true rfl) ?_
  intro a ha; replace ha : Has a 72 [(0, .pointer (some ⟨gl, 0, none⟩)), (1, .string (str key)), (2, .string (str val)), (3, .int .i64 ((st : Nat) : Int))] := ha
  refine wp_seq ?_
  refine wp_region_lit ?_
  refine st_val (.bool false) ha (by kernel_rfl) (by kernel_rfl) ?_
  clear ha; intro a ha
  refine wpList_nil ?_
  refine then_normal ?_
  refine wp_seq ?_
  refine wp_seq ?_
  refine wp_region_lit ?_
  refine st_val (.pointer (some ⟨gl, 0, none⟩)) ha (by kernel_rfl) (by kernel_rfl) ?_
  clear ha; intro a ha
  refine st_call ha (by kernel_rfl) (by kernel_rfl) (lnone_spec W _ _ gl hd r _ s) ?_
  rintro _ w ⟨rfl, s⟩
  refine ⟨_, rfl, ?_⟩; clear ha; intro a ha
  refine st_val (.bool false) ha (by kernel_rfl) (by kernel_rfl) ?_
  clear ha; intro a ha
  refine st_val (.int .i64 ((st : Nat) : Int)) ha (by kernel_rfl) (by kernel_rfl) ?_
  clear ha; intro a ha
  refine st_val (.bool false) ha (by kernel_rfl) (run_known (show (decide (((st : Nat) : Int) < (1 : Int))) = false from decide_eq_false (by omega)) (by kernel_rfl)) ?_
  clear ha; intro a ha
  refine st_val (.bool false) ha (by kernel_rfl) (by kernel_rfl) ?_
  clear ha; intro a ha
  refine st_val (.bool false) ha (by kernel_rfl) (by kernel_rfl) ?_
  clear ha; intro a ha
  refine st_val (.int .i64 ((st : Nat) : Int)) ha (by kernel_rfl) (by kernel_rfl) ?_
  clear ha; intro a ha
  refine st_val (.bool false) ha (by kernel_rfl) (run_known (show (decide (((st : Nat) : Int) > (16 : Int))) = false from decide_eq_false (by omega)) (by kernel_rfl)) ?_
  clear ha; intro a ha
  refine st_val (.bool false) ha (by kernel_rfl) (by kernel_rfl) ?_
  clear ha; intro a ha
  refine wpList_nil ?_
  refine then_normal ?_
  refine wp_false ha rfl (by kernel_rfl) ?_
  refine wp_skip ?_
  refine then_normal ?_
  refine wp_seq ?_
  refine wp_seq ?_
  refine wp_region_lit ?_
  refine st_val (.pointer (some ⟨gl, 0, none⟩)) ha (by kernel_rfl) (by kernel_rfl) ?_
  clear ha; intro a ha
  refine st_val (.string (str key)) ha (by kernel_rfl) (by kernel_rfl) ?_
  clear ha; intro a ha
  cases hf : fnd r key
  · skip
    refine st_call ha (by kernel_rfl) (by kernel_rfl) (find_no W _ _ gl hd r _ key ok hf s) ?_
    rintro _ w ⟨rfl, s⟩
    refine ⟨_, rfl, ?_⟩; clear ha; intro a ha
    refine st_val (.pointer none) ha (by kernel_rfl) (by kernel_rfl) ?_
    clear ha; intro a ha
    refine wpList_nil ?_
    refine then_normal ?_
    refine wp_seq ?_
    refine wp_region_lit ?_
    refine st_val (.pointer none) ha (by kernel_rfl) (by kernel_rfl) ?_
    clear ha; intro a ha
    refine st_val (.bool false) ha (by kernel_rfl) (by kernel_rfl) ?_
    clear ha; intro a ha
    refine wpList_nil ?_
    refine then_normal ?_
    refine wp_false ha rfl (by kernel_rfl) ?_
    refine wp_skip ?_
    refine then_normal ?_
    refine wp_seq ?_
    refine wp_region_lit ?_
    refine st_val (.string (str key)) ha (by kernel_rfl) (by kernel_rfl) ?_
    clear ha; intro a ha
    refine st_val (.string (str val)) ha (by kernel_rfl) (by kernel_rfl) ?_
    clear ha; intro a ha
    refine st_val (.int .i64 ((st : Nat) : Int)) ha (by kernel_rfl) (by kernel_rfl) ?_
    clear ha; intro a ha
    refine st_val (.agg #[.string (str key), .string (str val), .int .i64 ((st : Nat) : Int), .pointer none, .pointer none, .pointer none, .pointer none, .pointer none, .pointer none, .pointer none, .pointer none, .pointer none, .pointer none, .pointer none, .pointer none, .pointer none, .pointer none, .pointer none, .pointer none]) ha (by kernel_rfl) (by kernel_rfl) ?_
    clear ha; intro a ha
    refine st_ex ha (by kernel_rfl) (ex_box [.string (str key), .string (str val), .int .i64 ((st : Nat) : Int), .pointer none, .pointer none, .pointer none, .pointer none, .pointer none, .pointer none, .pointer none, .pointer none, .pointer none, .pointer none, .pointer none, .pointer none, .pointer none, .pointer none, .pointer none, .pointer none] s rfl (by kernel_rfl)) ?_
    clear ha; rintro _ w a ⟨g1, rfl, s⟩ ha
    refine st_val (.pointer (some ⟨g1, 0, none⟩)) ha (by kernel_rfl) (by kernel_rfl) ?_
    clear ha; intro a ha
    refine wpList_nil ?_
    refine then_normal ?_
    refine wp_seq ?_
    refine wp_seq ?_
    refine wp_region_lit ?_
    refine st_val (.pointer (some ⟨gl, 0, none⟩)) ha (by kernel_rfl) (by kernel_rfl) ?_
    clear ha; intro a ha
    refine st_val (.string (str key)) ha (by kernel_rfl) (by kernel_rfl) ?_
    clear ha; intro a ha
    replace s := (s.at_ (j := 2) rfl).at_ (j := 2) rfl
    replace s : St W (.blk gl [.pointer (some ⟨hd.g, 0, none⟩), .int .i64 ((r.length : Nat) : Int)] 220 :: SkF (hd :: r) (canon (hd :: r)) :: .blk g1 [.string (str key), .string (str val), .int .i64 ((st : Nat) : Int), .pointer none, .pointer none, .pointer none, .pointer none, .pointer none, .pointer none, .pointer none, .pointer none, .pointer none, .pointer none, .pointer none, .pointer none, .pointer none, .pointer none, .pointer none, .pointer none] 181 :: L) w := s
    refine st_call ha (by kernel_rfl) (by kernel_rfl) (ahead_spec W _ _ gl hd r _ key ok s) ?_
    rintro _ w ⟨oc, rfl, hA, s⟩
    refine ⟨_, rfl, ?_⟩; clear ha; intro a ha
    refine st_val (.int .i64 0) ha (by kernel_rfl) (by kernel_rfl) ?_
    clear ha; intro a ha
    refine wpList_nil ?_
    refine then_normal ?_
    refine wp_block ?_
    obtain ⟨q0, y0, h0, hy0, _⟩ := hA 0 (by omega) (by omega)
    replace s := ((s.at_ (j := 1) rfl).at_ (j := 1) rfl).at_ (j := 2) rfl
    replace s : St W (.blk g1 [.string (str key), .string (str val), .int .i64 ((st : Nat) : Int), .pointer none, .pointer none, .pointer none, .pointer none, .pointer none, .pointer none, .pointer none, .pointer none, .pointer none, .pointer none, .pointer none, .pointer none, .pointer none, .pointer none, .pointer none, .pointer none] 181 :: .blk gl [.pointer (some ⟨hd.g, 0, none⟩), .int .i64 ((r.length : Nat) : Int)] 220 :: SkF (hd :: r) (canon (hd :: r)) :: L) w := s
    rw [← insF_zero (hd :: r) key g1] at s
    refine wp_loopG (G := Nat) (fun i a w => Has a 72 [(0, .pointer (some ⟨gl, 0, none⟩)), (1, .string (str key)), (2, .string (str val)), (3, .int .i64 ((st : Nat) : Int)), (10, .pointer (some ⟨g1, 0, none⟩)), (39, .agg #[oc 0, oc 1, oc 2, oc 3, oc 4, oc 5, oc 6, oc 7, oc 8, oc 9, oc 10, oc 11, oc 12, oc 13, oc 14, oc 15]), (40, .int .i64 ((i : Nat) : Int))] ∧ St W (.blk g1 (ncF (⟨key, val, st, g1⟩ : Nd) (nwF (hd :: r) q0 i)) 181 :: .blk gl [.pointer (some ⟨hd.g, 0, none⟩), .int .i64 ((r.length : Nat) : Int)] 220 :: SkF (hd :: r) (insF (hd :: r) key g1 i) :: L) w ∧ (i ≤ st)) (fun i => 16 - i) 0 ?_ ?_
    · exact ⟨(Has.cons ha (by kernel_rfl) (by kernel_rfl) (Has.cons ha (by kernel_rfl) (by kernel_rfl) (Has.cons ha (by kernel_rfl) (by kernel_rfl) (Has.cons ha (by kernel_rfl) (by kernel_rfl) (Has.cons ha (by kernel_rfl) (by kernel_rfl) (Has.cons ha (by kernel_rfl) (by kernel_rfl) (Has.cons ha (by kernel_rfl) (by kernel_rfl) (Has.nil ha)))))))), s, Nat.zero_le _⟩
    · clear ha s; rintro i a w ⟨ha, s, hp⟩
      refine wp_seq ?_
      refine wp_region_lit ?_
      refine st_val (.bool (decide (((i : Nat) : Int) < (16 : Int)))) ha (by kernel_rfl) (by kernel_rfl) ?_
      clear ha; intro a ha
      refine wpList_nil ?_
      refine then_normal ?_
      refine wp_seq ?_
      refine wp_part (decide (((i : Nat) : Int) < (16 : Int))) ha rfl (by kernel_rfl) (fun hb => ?_) (fun hb => ?_)
      · rw [hb] at ha; replace hb : (((i : Nat) : Int) < (16 : Int)) := of_decide_eq_true hb
        refine wp_skip ?_
        refine then_normal ?_
        refine wp_seq ?_
        refine wp_block ?_
        refine wp_seq ?_
        refine wp_region_lit ?_
        refine st_val (.int .i64 ((i : Nat) : Int)) ha (by kernel_rfl) (by kernel_rfl) ?_
        clear ha; intro a ha
        skip
        · have hi16 : i < 16 := by omega
          obtain ⟨q, y, hlast, hy, hoc⟩ := hA i (by omega) hi16
          refine st_val (.pointer (some ⟨y.g, 0, none⟩)) ha (by kernel_rfl) (run_indexAgg (kd := .i64) i rfl Tryz.underlying179 Tryz.sizeOf177 Tryz.isAgg177 (by kernel_rfl) (by kernel_rfl) rfl (by omega) (c16_get hi16 hoc) _) ?_
          clear ha; intro a ha
          refine st_val (.int .i64 ((i : Nat) : Int)) ha (by kernel_rfl) (by kernel_rfl) ?_
          clear ha; intro a ha
          refine st_val (.pointer (some ⟨y.g, 0, none⟩)) ha (by kernel_rfl) (by kernel_rfl) ?_
          clear ha; intro a ha
          refine wpList_nil ?_
          refine then_normal ?_
          refine wp_seq ?_
          refine wp_seq ?_
          refine wp_region_lit ?_
          refine st_val (.int .i64 ((i : Nat) : Int)) ha (by kernel_rfl) (by kernel_rfl) ?_
          clear ha; intro a ha
          refine st_val (.int .i64 ((st : Nat) : Int)) ha (by kernel_rfl) (by kernel_rfl) ?_
          clear ha; intro a ha
          refine st_val (.bool (((i : Nat) : Int) == ((st : Nat) : Int))) ha (by kernel_rfl) (by kernel_rfl) ?_
          clear ha; intro a ha
          refine wpList_nil ?_
          refine then_normal ?_
          refine wp_part (((i : Nat) : Int) == ((st : Nat) : Int)) ha rfl (by kernel_rfl) (fun hb => ?_) (fun hb => ?_)
          · rw [hb] at ha; have hb_ := hb; replace hb := eq_of_beq hb
            have hist : i = st := by omega
            refine wp_exit ?_
            refine then_exit ?_
            refine block_miss (by rfl) ?_
            refine then_exit ?_
            refine then_exit ?_
            refine block_hit ?_
            refine then_normal ?_
            refine wp_seq ?_
            refine wp_region_lit ?_
            refine st_val (.pointer (some ⟨gl, 0, none⟩)) ha (by kernel_rfl) (by kernel_rfl) ?_
            clear ha; intro a ha
            refine st_val (.pointer (some ⟨gl, 0, none⟩)) ha (by kernel_rfl) (by kernel_rfl) ?_
            clear ha; intro a ha
            refine st_val (.pointer (some ⟨gl, 1, none⟩)) ha (by kernel_rfl) (by kernel_rfl) ?_
            clear ha; intro a ha
            refine st_val (.int .i64 ((r.length : Nat) : Int)) ha (by kernel_rfl) (run_load1 (of_ := 1) (s.blkIs 1 rfl) rfl (by kernel_rfl) Tryz.isAgg3 rfl) ?_
            clear ha; intro a ha
            refine st_val (.int .i64 ((r.length + 1 : Nat) : Int)) ha (by kernel_rfl) (run_arith (((r.length : Nat) : Int) + (1 : Int)) ((r.length + 1 : Nat) : Int) rfl (by kernel_rfl) (by kernel_rfl) (.inl ⟨rfl, rfl⟩) (by rw [wrap64_in (by omega)]; try omega) _) ?_
            clear ha; intro a ha
            refine st_val (.pointer (some ⟨gl, 0, none⟩)) ha (by kernel_rfl) (by kernel_rfl) ?_
            clear ha; intro a ha
            refine st_val (.pointer (some ⟨gl, 1, none⟩)) ha (by kernel_rfl) (by kernel_rfl) ?_
            clear ha; intro a ha
            refine st_exd ha (by kernel_rfl) (ex_store (of_ := 1) 1 [.int .i64 ((r.length + 1 : Nat) : Int)] s rfl rfl (by kernel_rfl) (by kernel_rfl) (Tryz.sizeOf3 _) rfl (by simp [Value.oneCell']) (Nat.le_of_ble_eq_true rfl)) ?_
            clear ha; rintro w a s ha
            replace s : St W (.blk g1 (ncF (⟨key, val, st, g1⟩ : Nd) (nwF (hd :: r) q0 i)) 181 :: .blk gl [.pointer (some ⟨hd.g, 0, none⟩), .int .i64 ((r.length + 1 : Nat) : Int)] 220 :: SkF (hd :: r) (insF (hd :: r) key g1 i) :: L) w := s
            refine wpList_nil ?_
            refine then_normal ?_
            refine wp_seq ?_
            refine wp_region_lit ?_
            refine st_val (.bool true) ha (by kernel_rfl) (by kernel_rfl) ?_
            clear ha; intro a ha
            refine wpList_nil ?_
            refine then_normal ?_
            refine wp_ret ?_
            refine ret_with (v := .bool true) ha (results_1 rfl ha (res_tmp (by kernel_rfl) (by kernel_rfl))) ?_
            replace s := ((s.at_ (j := 1) rfl).at_ (j := 2) rfl).at_ (j := 2) rfl
            replace s : St W (.blk g1 (ncF (⟨key, val, st, g1⟩ : Nd) (nwF (hd :: r) q0 i)) 181 :: SkF (hd :: r) (insF (hd :: r) key g1 i) :: .blk gl [.pointer (some ⟨hd.g, 0, none⟩), .int .i64 ((r.length + 1 : Nat) : Int)] 220 :: L) w := s
            subst hist
            obtain ⟨r2, b1, b2, b3, b4⟩ := ins_ok (x := ⟨key, val, i, g1⟩) ok h0 hf rfl ⟨by show 1 ≤ i; omega, by show i ≤ 16; omega⟩
            have s2 := bs_perm (bs_add s) (rowsF_perm_ins ok h0 (x := ⟨key, val, i, g1⟩) (by show i ≤ 16; omega))
            rw [b1] at s2
            refine ⟨r2, rfl, b2, b3, ?_⟩
            rw [b4]
            exact s2.perm (List.Perm.swap ..)
          · rw [hb] at ha; have hb_ := hb; replace hb := ne_of_beq_false hb
            have hist : i < st := by omega
            refine wp_skip ?_
            refine then_normal ?_
            refine wp_region_head 17 (fun w => BlkIs y.g (ncF y ((insF (hd :: r) key g1 i) q)) w ∧ True) (by kernel_rfl) (by decide) ?_
            replace s := s.drew; generalize _root_.Go.World.drew _ = w at s ⊢
            have hS : (fun w => BlkIs y.g (ncF y ((insF (hd :: r) key g1 i) q)) w ∧ True) w := ⟨skF_at hy (s.at_ (j := 2) rfl).1, trivial⟩
            refine hd_val (i := 0) (.pointer (some ⟨g1, 0, none⟩)) ha rfl (by kernel_rfl) (fun _ _ _ h => h) (by kernel_rfl) (fun w hS => (by kernel_rfl)) hS ?_
            clear ha; intro a ha
            refine hd_val (i := 1) (.int .i64 ((i : Nat) : Int)) ha rfl (by kernel_rfl) (fun _ _ _ h => h) (by kernel_rfl) (fun w hS => (by kernel_rfl)) hS ?_
            clear ha; intro a ha
            refine hd_val (i := 2) (.pointer (some ⟨y.g, 0, none⟩)) ha rfl (by kernel_rfl) (fun _ _ _ h => h) (by kernel_rfl) (fun w hS => (by kernel_rfl)) hS ?_
            clear ha; intro a ha
            refine hd_val (i := 3) (.int .i64 ((i : Nat) : Int)) ha rfl (by kernel_rfl) (fun _ _ _ h => h) (by kernel_rfl) (fun w hS => (by kernel_rfl)) hS ?_
            clear ha; intro a ha
            refine hd_val (i := 4) (.pointer (some ⟨y.g, 0, none⟩)) ha rfl (by kernel_rfl) (fun _ _ _ h => h) (by kernel_rfl) (fun w hS => (by kernel_rfl)) hS ?_
            clear ha; intro a ha
            refine hd_val (i := 5) (.int .i64 ((i : Nat) : Int)) ha rfl (by kernel_rfl) (fun _ _ _ h => h) (by kernel_rfl) (fun w hS => (by kernel_rfl)) hS ?_
            clear ha; intro a ha
            refine hd_val (i := 6) (.pointer (some ⟨y.g, 0, none⟩)) ha rfl (by kernel_rfl) (fun _ _ _ h => h) (by kernel_rfl) (fun w hS => (by kernel_rfl)) hS ?_
            clear ha; intro a ha
            refine hd_val (i := 7) (.pointer (some ⟨y.g, 3, none⟩)) ha rfl (by kernel_rfl) (fun _ _ _ h => h) (by kernel_rfl) (fun w hS => (by kernel_rfl)) hS ?_
            clear ha; intro a ha
            refine hd_val (i := 8) (.pointer (some ⟨y.g, 3 + i * 1, none⟩)) ha rfl (by kernel_rfl) (fun _ _ _ h => h) (by kernel_rfl) (fun w hS => (run_indexArrO (kd := .i64) (of_ := 3) (z := ((i : Nat) : Int)) i rfl Tryz.underlying179 Tryz.sizeOf177 (by kernel_rfl) (by kernel_rfl) rfl (by first | assumption | omega) _)) hS ?_
            clear ha; intro a ha
            refine hd_val (i := 9) (ptrO (nxt i ((hd :: r).drop (q0 + 1)))) ha rfl (by kernel_rfl) (fun _ _ _ h => h) (by kernel_rfl) (fun w hS => run_load1 (of_ := 3 + i * 1) (cs := ncF y ((insF (hd :: r) key g1 i) q)) hS.1 rfl (by kernel_rfl) Tryz.isAgg177 (ld_raw hi16 (by simp only [insF, Nat.lt_irrefl, false_and, if_false]; exact canon_last ok hlast h0))) hS ?_
            clear ha; intro a ha
            refine hd_val (i := 10) (.pointer (some ⟨g1, 0, none⟩)) ha rfl (by kernel_rfl) (fun _ _ _ h => h) (by kernel_rfl) (fun w hS => (by kernel_rfl)) hS ?_
            clear ha; intro a ha
            refine hd_val (i := 11) (.pointer (some ⟨g1, 0, none⟩)) ha rfl (by kernel_rfl) (fun _ _ _ h => h) (by kernel_rfl) (fun w hS => (by kernel_rfl)) hS ?_
            clear ha; intro a ha
            refine hd_val (i := 12) (.pointer (some ⟨g1, 3, none⟩)) ha rfl (by kernel_rfl) (fun _ _ _ h => h) (by kernel_rfl) (fun w hS => (by kernel_rfl)) hS ?_
            clear ha; intro a ha
            refine hd_val (i := 13) (.pointer (some ⟨g1, 3 + i * 1, none⟩)) ha rfl (by kernel_rfl) (fun _ _ _ h => h) (by kernel_rfl) (fun w hS => (run_indexArrO (kd := .i64) (of_ := 3) (z := ((i : Nat) : Int)) i rfl Tryz.underlying179 Tryz.sizeOf177 (by kernel_rfl) (by kernel_rfl) rfl (by first | assumption | omega) _)) hS ?_
            clear ha; intro a ha
            refine hd_val (i := 15) (.pointer (some ⟨y.g, 0, none⟩)) ha rfl (by kernel_rfl) (fun _ _ _ h => h) (by kernel_rfl) (fun w hS => (by kernel_rfl)) hS ?_
            clear ha; intro a ha
            refine hd_val (i := 16) (.pointer (some ⟨y.g, 3, none⟩)) ha rfl (by kernel_rfl) (fun _ _ _ h => h) (by kernel_rfl) (fun w hS => (by kernel_rfl)) hS ?_
            clear ha; intro a ha
            refine hd_exd (i := 14) ha rfl (by kernel_rfl) (by kernel_rfl) ((fun h => by rw [nwF_put] at h; exact h) (ex_newB (x := (⟨key, val, st, g1⟩ : Nd)) (q := nxt i ((hd :: r).drop (q0 + 1))) hi16 s (j := 0) rfl rfl (by kernel_rfl) (by kernel_rfl) Tryz.sizeOf177)) ?_
            clear hS; rintro w s
            replace s : St W (.blk g1 (ncF (⟨key, val, st, g1⟩ : Nd) (nwF (hd :: r) q0 (i + 1))) 181 :: .blk gl [.pointer (some ⟨hd.g, 0, none⟩), .int .i64 ((r.length : Nat) : Int)] 220 :: SkF (hd :: r) (insF (hd :: r) key g1 i) :: L) w := s
            have hS : (fun w => BlkIs y.g (ncF y ((insF (hd :: r) key g1 i) q)) w ∧ True) w := ⟨skF_at hy (s.at_ (j := 2) rfl).1, trivial⟩
            refine ⟨hS, ?_⟩; clear ha; intro a ha
            refine Head.done (by kernel_rfl) ?_
            clear hS; simp only [List.drop_succ_cons, List.drop_zero]
            refine st_val (.pointer (some ⟨y.g, 3 + i * 1, none⟩)) ha (by kernel_rfl) (run_indexArrO (kd := .i64) (of_ := 3) (z := ((i : Nat) : Int)) i rfl Tryz.underlying179 Tryz.sizeOf177 (by kernel_rfl) (by kernel_rfl) rfl (by first | assumption | omega) _) ?_
            clear ha; intro a ha
            replace s := s.at_ (j := 2) rfl
            replace s : St W (SkF (hd :: r) (insF (hd :: r) key g1 i) :: .blk g1 (ncF (⟨key, val, st, g1⟩ : Nd) (nwF (hd :: r) q0 (i + 1))) 181 :: .blk gl [.pointer (some ⟨hd.g, 0, none⟩), .int .i64 ((r.length : Nat) : Int)] 220 :: L) w := s
            refine st_exd ha (by kernel_rfl) ((fun h => by rw [insF_upd hlast] at h; exact h) (ex_nextB (q := some g1) hy hi16 s rfl (by kernel_rfl) (by kernel_rfl) Tryz.sizeOf177)) ?_
            clear ha; rintro w a s ha
            replace s : St W (SkF (hd :: r) (insF (hd :: r) key g1 (i + 1)) :: .blk g1 (ncF (⟨key, val, st, g1⟩ : Nd) (nwF (hd :: r) q0 (i + 1))) 181 :: .blk gl [.pointer (some ⟨hd.g, 0, none⟩), .int .i64 ((r.length : Nat) : Int)] 220 :: L) w := s
            refine wpList_nil ?_
            refine block_normal ?_
            refine then_normal ?_
            refine wp_region_lit ?_
            refine st_val (.int .i64 ((i + 1 : Nat) : Int)) ha (by kernel_rfl) (run_arith (((i : Nat) : Int) + (1 : Int)) ((i + 1 : Nat) : Int) rfl (by kernel_rfl) (by kernel_rfl) (.inl ⟨rfl, rfl⟩) (by rw [wrap64_in (by omega)]; try omega) _) ?_
            clear ha; intro a ha
            refine st_val (.int .i64 ((i + 1 : Nat) : Int)) ha (by kernel_rfl) (by kernel_rfl) ?_
            clear ha; intro a ha
            refine wpList_nil ?_
            refine then_normal ?_
            replace s := (s.at_ (j := 2) rfl).at_ (j := 2) rfl
            replace s : St W (.blk g1 (ncF (⟨key, val, st, g1⟩ : Nd) (nwF (hd :: r) q0 (i + 1))) 181 :: .blk gl [.pointer (some ⟨hd.g, 0, none⟩), .int .i64 ((r.length : Nat) : Int)] 220 :: SkF (hd :: r) (insF (hd :: r) key g1 (i + 1)) :: L) w := s
            exact ⟨i + 1, by omega, (Has.cons ha (by kernel_rfl) (by kernel_rfl) (Has.cons ha (by kernel_rfl) (by kernel_rfl) (Has.cons ha (by kernel_rfl) (by kernel_rfl) (Has.cons ha (by kernel_rfl) (by kernel_rfl) (Has.cons ha (by kernel_rfl) (by kernel_rfl) (Has.cons ha (by kernel_rfl) (by kernel_rfl) (Has.cons ha (by kernel_rfl) (by kernel_rfl) (Has.nil ha)))))))), s, by omega⟩
      · rw [hb] at ha; replace hb : ¬ (((i : Nat) : Int) < (16 : Int)) := of_decide_eq_false hb
        have hist : i = st := by omega
        refine wp_exit ?_
        refine then_exit ?_
        refine then_exit ?_
        refine block_hit ?_
        refine then_normal ?_
        refine wp_seq ?_
        refine wp_region_lit ?_
        refine st_val (.pointer (some ⟨gl, 0, none⟩)) ha (by kernel_rfl) (by kernel_rfl) ?_
        clear ha; intro a ha
        refine st_val (.pointer (some ⟨gl, 0, none⟩)) ha (by kernel_rfl) (by kernel_rfl) ?_
        clear ha; intro a ha
        refine st_val (.pointer (some ⟨gl, 1, none⟩)) ha (by kernel_rfl) (by kernel_rfl) ?_
        clear ha; intro a ha
        refine st_val (.int .i64 ((r.length : Nat) : Int)) ha (by kernel_rfl) (run_load1 (of_ := 1) (s.blkIs 1 rfl) rfl (by kernel_rfl) Tryz.isAgg3 rfl) ?_
        clear ha; intro a ha
        refine st_val (.int .i64 ((r.length + 1 : Nat) : Int)) ha (by kernel_rfl) (run_arith (((r.length : Nat) : Int) + (1 : Int)) ((r.length + 1 : Nat) : Int) rfl (by kernel_rfl) (by kernel_rfl) (.inl ⟨rfl, rfl⟩) (by rw [wrap64_in (by omega)]; try omega) _) ?_
        clear ha; intro a ha
        refine st_val (.pointer (some ⟨gl, 0, none⟩)) ha (by kernel_rfl) (by kernel_rfl) ?_
        clear ha; intro a ha
        refine st_val (.pointer (some ⟨gl, 1, none⟩)) ha (by kernel_rfl) (by kernel_rfl) ?_
        clear ha; intro a ha
        refine st_exd ha (by kernel_rfl) (ex_store (of_ := 1) 1 [.int .i64 ((r.length + 1 : Nat) : Int)] s rfl rfl (by kernel_rfl) (by kernel_rfl) (Tryz.sizeOf3 _) rfl (by simp [Value.oneCell']) (Nat.le_of_ble_eq_true rfl)) ?_
        clear ha; rintro w a s ha
        replace s : St W (.blk g1 (ncF (⟨key, val, st, g1⟩ : Nd) (nwF (hd :: r) q0 i)) 181 :: .blk gl [.pointer (some ⟨hd.g, 0, none⟩), .int .i64 ((r.length + 1 : Nat) : Int)] 220 :: SkF (hd :: r) (insF (hd :: r) key g1 i) :: L) w := s
        refine wpList_nil ?_
        refine then_normal ?_
        refine wp_seq ?_
        refine wp_region_lit ?_
        refine st_val (.bool true) ha (by kernel_rfl) (by kernel_rfl) ?_
        clear ha; intro a ha
        refine wpList_nil ?_
        refine then_normal ?_
        refine wp_ret ?_
        refine ret_with (v := .bool true) ha (results_1 rfl ha (res_tmp (by kernel_rfl) (by kernel_rfl))) ?_
        replace s := ((s.at_ (j := 1) rfl).at_ (j := 2) rfl).at_ (j := 2) rfl
        replace s : St W (.blk g1 (ncF (⟨key, val, st, g1⟩ : Nd) (nwF (hd :: r) q0 i)) 181 :: SkF (hd :: r) (insF (hd :: r) key g1 i) :: .blk gl [.pointer (some ⟨hd.g, 0, none⟩), .int .i64 ((r.length + 1 : Nat) : Int)] 220 :: L) w := s
        subst hist
        obtain ⟨r2, b1, b2, b3, b4⟩ := ins_ok (x := ⟨key, val, i, g1⟩) ok h0 hf rfl ⟨by show 1 ≤ i; omega, by show i ≤ 16; omega⟩
        have s2 := bs_perm (bs_add s) (rowsF_perm_ins ok h0 (x := ⟨key, val, i, g1⟩) (by show i ≤ 16; omega))
        rw [b1] at s2
        refine ⟨r2, rfl, b2, b3, ?_⟩
        rw [b4]
        exact s2.perm (List.Perm.swap ..)
  · rename_i x; obtain ⟨p, hp0, hx, hxk⟩ := fnd_at (hd := hd) hf
    refine st_call ha (by kernel_rfl) (by kernel_rfl) (find_yes W _ _ gl hd r _ key ok hf s) ?_
    rintro _ w ⟨rfl, s⟩
    refine ⟨_, rfl, ?_⟩; clear ha; intro a ha
    refine st_val (.pointer (some ⟨x.g, 0, none⟩)) ha (by kernel_rfl) (by kernel_rfl) ?_
    clear ha; intro a ha
    refine wpList_nil ?_
    refine then_normal ?_
    refine wp_seq ?_
    refine wp_region_lit ?_
    refine st_val (.pointer (some ⟨x.g, 0, none⟩)) ha (by kernel_rfl) (by kernel_rfl) ?_
    clear ha; intro a ha
    refine st_val (.bool true) ha (by kernel_rfl) (by kernel_rfl) ?_
    clear ha; intro a ha
    refine wpList_nil ?_
    refine then_normal ?_
    refine wp_true ha rfl (by kernel_rfl) ?_
    refine wp_seq ?_
    refine wp_region_lit ?_
    refine st_val (.pointer (some ⟨x.g, 0, none⟩)) ha (by kernel_rfl) (by kernel_rfl) ?_
    clear ha; intro a ha
    refine st_val (.string (str val)) ha (by kernel_rfl) (by kernel_rfl) ?_
    clear ha; intro a ha
    refine st_val (.pointer (some ⟨x.g, 0, none⟩)) ha (by kernel_rfl) (by kernel_rfl) ?_
    clear ha; intro a ha
    refine st_val (.pointer (some ⟨x.g, 1, none⟩)) ha (by kernel_rfl) (by kernel_rfl) ?_
    clear ha; intro a ha
    replace s := s.at_ (j := 1) rfl
    replace s : St W (SkF (hd :: r) (canon (hd :: r)) :: .blk gl [.pointer (some ⟨hd.g, 0, none⟩), .int .i64 ((r.length : Nat) : Int)] 220 :: L) w := s
    refine st_exd ha (by kernel_rfl) (ex_valB (v := val) hx s rfl (by kernel_rfl) (by kernel_rfl) Tryz.sizeOf9) ?_
    clear ha; rintro w a s ha
    replace s : St W (SkF ((hd :: r).set p { x with v := val }) (canon (hd :: r)) :: .blk gl [.pointer (some ⟨hd.g, 0, none⟩), .int .i64 ((r.length : Nat) : Int)] 220 :: L) w := s
    refine wpList_nil ?_
    refine then_normal ?_
    refine wp_seq ?_
    refine wp_region_lit ?_
    refine st_val (.bool true) ha (by kernel_rfl) (by kernel_rfl) ?_
    clear ha; intro a ha
    refine wpList_nil ?_
    refine then_normal ?_
    refine wp_ret ?_
    refine then_ret ?_
    refine ret_with (v := .bool true) ha (results_1 rfl ha (res_tmp (by kernel_rfl) (by kernel_rfl))) ?_
    obtain ⟨q, rfl⟩ : ∃ q, p = q + 1 := ⟨p - 1, by omega⟩
    have hx' : r[q]? = some x := by simpa using hx
    obtain ⟨a1, a2, a3⟩ := put_ok (val := val) ok hx' hxk
    rw [← canon_set (y := { x with v := val }) hx rfl rfl, List.set_cons_succ] at s
    refine ⟨_, rfl, a1, a2, ?_⟩
    rw [a3]
    exact s.perm (List.Perm.swap ..)

theorem skF_heap {l : List Nd} {F : Nat → Nat → Option Nat} {L : List Chunk} {w : World} (s : Sat (SkF l F :: L) w) {p : Nat} {x : Nd} (hx : l[p]? = some x) : ∃ cs, w.heap[x.g]? = some (.cells cs 181 (0, 0)) := by
  have h0 := rowsF_at (F := F) (q := 0) hx
  have st : St w (SkF l F :: L) w := ⟨s, Ext.refl w⟩
  exact ⟨_, ((St.bs_iff.1 st).at_ (bs_idx h0)).1.blk⟩
theorem canon_node (l : List Nd) (q i : Nat) : canon l q i = none ∨ ∃ (q' : Nat) (y : Nd), l[q']? = some y ∧ canon l q i = some y.g := by
  unfold canon
  split
  · split
    · rcases nxt_cases i l q with ⟨a, _⟩ | ⟨q', y, _, b, _, c, _⟩
      · exact .inl a
      · exact .inr ⟨q', y, b, c⟩
    · exact .inl rfl
  · exact .inl rfl
theorem run_ptreqB {o : Oper} {E : Env} {l : List Nd} {F : Nat → Nat → Option Nat} {L : List Chunk} {w : World} {p : Nat} {x : Nd} {c : Option Nat} {a b : Operand} {t' : TypeId} (s : Sat (SkF l F :: L) w) (hx : l[p]? = some x) (ho : o.op = .binOp .eql 177 a b t') (ha : evalE E a = ptrO c) (hb : evalE E b = .pointer (some ⟨x.g, 0, none⟩))
    (hin : c = none ∨ ∃ (q' : Nat) (y : Nd), l[q']? = some y ∧ c = some y.g) : (execOp (evalE E) o).run Tryz.prog w = .ok (.value (.bool (decide (c = some x.g)))) w := by
  have hi : (Tryz.prog.info? 181).map (·.size) = some 19 := by kernel_rfl
  obtain ⟨j, hj, hs⟩ := Option.map_eq_some_iff.1 hi
  have hu : Tryz.prog.underlying 177 = some (.pointer 181) := Tryz.underlying177
  have key : (binOp .eql 177 (ptrO c) (.pointer (some ⟨x.g, 0, none⟩))).run Tryz.prog w = .ok (.bool (decide (c = some x.g))) w := by
    rcases hin with rfl | ⟨q', y, hy, rfl⟩
    · have h : ∀ d : Nat, (Op.equalIn (d + 1) 177 (.pointer none) (.pointer (some ⟨x.g, 0, none⟩))).run Tryz.prog w = .ok false w := fun d => by simp [Op.equalIn, run_underlying hu]
      show (binOp .eql 177 (.pointer none) (.pointer (some ⟨x.g, 0, none⟩))).run Tryz.prog w = _
      simp only [binOp]
      simp [Op.equal, Op.maxDepth, h 9999]
    · show (binOp .eql 177 (.pointer (some ⟨y.g, 0, none⟩)) (.pointer (some ⟨x.g, 0, none⟩))).run Tryz.prog w = _
      by_cases e : y.g = x.g
      · rw [e]
        rw [run_eql_ptr_same w _ hu hj]
        simp
      · obtain ⟨c1, h1⟩ := skF_heap s hy
        obtain ⟨c2, h2⟩ := skF_heap s hx
        rw [run_eql_ptr_other w hu hj (by rw [hs]; decide) (fun h => e (congrArg Addr.block h)) h1 h2]
        simp [e]
  simp [execOp, ho, ha, hb, key, eqGuard, go_sem]

theorem del_no {r : List Nd} {key : K} (h : fnd r key = none) : r.map kv = tdel (r.map kv) key := by
  unfold tdel
  rw [List.filter_eq_self.2]
  intro y hy
  obtain ⟨z, hz, rfl⟩ := List.mem_map.1 hy
  rw [Bool.not_eq_true']
  exact decide_eq_false (fnd_none h z hz)

theorem delF_own {hd : Nd} {r : List Nd} {key : K} {q0 p i : Nat} {x : Nd} (h0 : LastAt (hd :: r) key 0 q0) (hp : 0 < p) (hx : (hd :: r)[p]? = some x) (hk : x.k = key) : delF (hd :: r) key p x.g i p i = canon (hd :: r) p i := delF_at

theorem Drop_spec (W : World) (L : List Chunk) (w : World) (gl : Nat) (hd : Nd) (r : List Nd) (key : K) (hlen : r.length < 1000000000) (ok : SkOk (hd :: r)) (s : St W (.blk gl [.pointer (some ⟨hd.g, 0, none⟩), .int .i64 ((r.length : Nat) : Int)] 220 :: SkF (hd :: r) (canon (hd :: r)) :: L) w) :
    Calls Tryz.prog 71 #[.pointer (some ⟨gl, 0, none⟩), .string (str key)] w fun e w' => ∃ r' : List Nd, e = .returned (.bool (fnd r key).isSome) ∧ SkOk (hd :: r') ∧ r'.map kv = tdel (r.map kv) key ∧ St W (.blk gl [.pointer (some ⟨hd.g, 0, none⟩), .int .i64 ((r'.length : Nat) : Int)] 220 :: SkF (hd :: r') (canon (hd :: r')) :: L) w' := by
  refine enter_args (l := [.pointer (some ⟨gl, 0, none⟩), .string (str key)]) Tryz.func71 rfl rfl (Nat.le_of_ble_eq_true rfl) ?_
  intro a ha; replace ha : Has a 47 [(0, .pointer (some ⟨gl, 0, none⟩)), (1, .string (str key))] := ha
  refine wp_seq ?_
  refine wp_region_lit ?_
  refine st_val (.bool false) ha (by kernel_rfl) (by kernel_rfl) ?_
  clear ha; intro a ha
  refine wpList_nil ?_
  refine then_normal ?_
  refine wp_seq ?_
  refine wp_region_lit ?_
  refine st_val (.pointer (some ⟨gl, 0, none⟩)) ha (by kernel_rfl) (by kernel_rfl) ?_
  clear ha; intro a ha
  refine st_val (.string (str key)) ha (by kernel_rfl) (by kernel_rfl) ?_
  clear ha; intro a ha
  cases hf : fnd r key
  · skip
    refine st_call ha (by kernel_rfl) (by kernel_rfl) (find_no W _ _ gl hd r _ key ok hf s) ?_
    rintro _ w ⟨rfl, s⟩
    refine ⟨_, rfl, ?_⟩; clear ha; intro a ha
    refine st_val (.pointer none) ha (by kernel_rfl) (by kernel_rfl) ?_
    clear ha; intro a ha
    refine wpList_nil ?_
    refine then_normal ?_
    refine wp_seq ?_
    refine wp_seq ?_
    refine wp_region_lit ?_
    refine st_val (.pointer none) ha (by kernel_rfl) (by kernel_rfl) ?_
    clear ha; intro a ha
    refine st_val (.bool true) ha (by kernel_rfl) (by kernel_rfl) ?_
    clear ha; intro a ha
    refine wpList_nil ?_
    refine then_normal ?_
    refine wp_true ha rfl (by kernel_rfl) ?_
    refine wp_seq ?_
    refine wp_region_lit ?_
    refine st_val (.bool false) ha (by kernel_rfl) (by kernel_rfl) ?_
    clear ha; intro a ha
    refine wpList_nil ?_
    refine then_normal ?_
    refine wp_ret ?_
    refine then_ret ?_
    refine ret_with (v := .bool false) ha (results_1 rfl ha (res_tmp (by kernel_rfl) (by kernel_rfl))) ?_
    exact ⟨r, rfl, ok, del_no hf, s⟩
  · rename_i x; obtain ⟨p, hp0, hx, hxk⟩ := fnd_at (hd := hd) hf
    refine st_call ha (by kernel_rfl) (by kernel_rfl) (find_yes W _ _ gl hd r _ key ok hf s) ?_
    rintro _ w ⟨rfl, s⟩
    refine ⟨_, rfl, ?_⟩; clear ha; intro a ha
    refine st_val (.pointer (some ⟨x.g, 0, none⟩)) ha (by kernel_rfl) (by kernel_rfl) ?_
    clear ha; intro a ha
    refine wpList_nil ?_
    refine then_normal ?_
    refine wp_seq ?_
    refine wp_seq ?_
    refine wp_region_lit ?_
    refine st_val (.pointer (some ⟨x.g, 0, none⟩)) ha (by kernel_rfl) (by kernel_rfl) ?_
    clear ha; intro a ha
    refine st_val (.bool false) ha (by kernel_rfl) (by kernel_rfl) ?_
    clear ha; intro a ha
    refine wpList_nil ?_
    refine then_normal ?_
    refine wp_false ha rfl (by kernel_rfl) ?_
    refine wp_skip ?_
    refine then_normal ?_
    refine wp_seq ?_
    refine wp_seq ?_
    refine wp_region_lit ?_
    refine st_val (.pointer (some ⟨gl, 0, none⟩)) ha (by kernel_rfl) (by kernel_rfl) ?_
    clear ha; intro a ha
    refine st_val (.string (str key)) ha (by kernel_rfl) (by kernel_rfl) ?_
    clear ha; intro a ha
    refine st_call ha (by kernel_rfl) (by kernel_rfl) (ahead_spec W _ _ gl hd r _ key ok s) ?_
    rintro _ w ⟨oc, rfl, hA, s⟩
    refine ⟨_, rfl, ?_⟩; clear ha; intro a ha
    refine st_val (.int .i64 0) ha (by kernel_rfl) (by kernel_rfl) ?_
    clear ha; intro a ha
    refine wpList_nil ?_
    refine then_normal ?_
    refine wp_block ?_
    obtain ⟨q0, y0, h0, hy0, _⟩ := hA 0 (by omega) (by omega)
    rw [← delF_zero (hd :: r) key p x.g] at s
    refine wp_loopG (G := Nat) (fun i a w => Has a 47 [(0, .pointer (some ⟨gl, 0, none⟩)), (1, .string (str key)), (5, .pointer (some ⟨x.g, 0, none⟩)), (15, .agg #[oc 0, oc 1, oc 2, oc 3, oc 4, oc 5, oc 6, oc 7, oc 8, oc 9, oc 10, oc 11, oc 12, oc 13, oc 14, oc 15]), (16, .int .i64 ((i : Nat) : Int))] ∧ St W (.blk gl [.pointer (some ⟨hd.g, 0, none⟩), .int .i64 ((r.length : Nat) : Int)] 220 :: SkF (hd :: r) (delF (hd :: r) key p x.g i) :: L) w ∧ (i ≤ 16)) (fun i => 16 - i) 0 ?_ ?_
    · exact ⟨(Has.cons ha (by kernel_rfl) (by kernel_rfl) (Has.cons ha (by kernel_rfl) (by kernel_rfl) (Has.cons ha (by kernel_rfl) (by kernel_rfl) (Has.cons ha (by kernel_rfl) (by kernel_rfl) (Has.cons ha (by kernel_rfl) (by kernel_rfl) (Has.nil ha)))))), s, Nat.zero_le _⟩
    · clear ha s; rintro i a w ⟨ha, s, hp⟩
      refine wp_seq ?_
      refine wp_region_lit ?_
      refine st_val (.bool (decide (((i : Nat) : Int) < (16 : Int)))) ha (by kernel_rfl) (by kernel_rfl) ?_
      clear ha; intro a ha
      refine wpList_nil ?_
      refine then_normal ?_
      refine wp_seq ?_
      refine wp_part (decide (((i : Nat) : Int) < (16 : Int))) ha rfl (by kernel_rfl) (fun hb => ?_) (fun hb => ?_)
      · rw [hb] at ha; replace hb : (((i : Nat) : Int) < (16 : Int)) := of_decide_eq_true hb
        refine wp_skip ?_
        refine then_normal ?_
        refine wp_seq ?_
        refine wp_block ?_
        refine wp_seq ?_
        refine wp_region_lit ?_
        refine st_val (.int .i64 ((i : Nat) : Int)) ha (by kernel_rfl) (by kernel_rfl) ?_
        clear ha; intro a ha
        skip
        · have hi16 : i < 16 := by omega
          obtain ⟨q, y, hlast, hy, hoc⟩ := hA i (by omega) hi16
          refine st_val (.pointer (some ⟨y.g, 0, none⟩)) ha (by kernel_rfl) (run_indexAgg (kd := .i64) i rfl Tryz.underlying179 Tryz.sizeOf177 Tryz.isAgg177 (by kernel_rfl) (by kernel_rfl) rfl (by omega) (c16_get hi16 hoc) _) ?_
          clear ha; intro a ha
          refine st_val (.int .i64 ((i : Nat) : Int)) ha (by kernel_rfl) (by kernel_rfl) ?_
          clear ha; intro a ha
          refine st_val (.pointer (some ⟨y.g, 0, none⟩)) ha (by kernel_rfl) (by kernel_rfl) ?_
          clear ha; intro a ha
          refine wpList_nil ?_
          refine then_normal ?_
          refine wp_seq ?_
          refine wp_region_lit ?_
          refine st_val (.pointer (some ⟨y.g, 0, none⟩)) ha (by kernel_rfl) (by kernel_rfl) ?_
          clear ha; intro a ha
          refine st_val (.int .i64 ((i : Nat) : Int)) ha (by kernel_rfl) (by kernel_rfl) ?_
          clear ha; intro a ha
          refine st_val (.pointer (some ⟨y.g, 0, none⟩)) ha (by kernel_rfl) (by kernel_rfl) ?_
          clear ha; intro a ha
          refine st_val (.pointer (some ⟨y.g, 3, none⟩)) ha (by kernel_rfl) (by kernel_rfl) ?_
          clear ha; intro a ha
          refine st_val (.pointer (some ⟨y.g, 3 + i * 1, none⟩)) ha (by kernel_rfl) (run_indexArrO (kd := .i64) (of_ := 3) (z := ((i : Nat) : Int)) i rfl Tryz.underlying179 Tryz.sizeOf177 (by kernel_rfl) (by kernel_rfl) rfl (by first | assumption | omega) _) ?_
          clear ha; intro a ha
          refine st_val (ptrO (canon (hd :: r) q i)) ha (by kernel_rfl) (run_load1 (of_ := 3 + i * 1) (cs := ncF y ((delF (hd :: r) key p x.g i) q)) (skF_at hy (s.at_ (j := 1) rfl).1) rfl (by kernel_rfl) Tryz.isAgg177 (ld_raw hi16 delF_at)) ?_
          clear ha; intro a ha
          refine st_val (.pointer (some ⟨x.g, 0, none⟩)) ha (by kernel_rfl) (by kernel_rfl) ?_
          clear ha; intro a ha
          refine st_val (.bool (decide (canon (hd :: r) q i = some x.g))) ha (by kernel_rfl) (run_ptreqB (c := canon (hd :: r) q i) ((s.at_ (j := 1) rfl).1) hx rfl (by kernel_rfl) (by kernel_rfl) (canon_node _ _ _)) ?_
          clear ha; intro a ha
          refine wpList_nil ?_
          refine then_normal ?_
          refine wp_part (decide (canon (hd :: r) q i = some x.g)) ha rfl (by kernel_rfl) (fun hb => ?_) (fun hb => ?_)
          · rw [hb] at ha; replace hb : (canon (hd :: r) q i = some x.g) := of_decide_eq_true hb
            refine wp_region_head 10 (fun w => BlkIs x.g (ncF x ((delF (hd :: r) key p x.g i) p)) w ∧ True) (by kernel_rfl) (by decide) ?_
            replace s := s.drew; generalize _root_.Go.World.drew _ = w at s ⊢
            have hS : (fun w => BlkIs x.g (ncF x ((delF (hd :: r) key p x.g i) p)) w ∧ True) w := ⟨skF_at hx (s.at_ (j := 1) rfl).1, trivial⟩
            refine hd_val (i := 0) (.pointer (some ⟨y.g, 0, none⟩)) ha rfl (by kernel_rfl) (fun _ _ _ h => h) (by kernel_rfl) (fun w hS => (by kernel_rfl)) hS ?_
            clear ha; intro a ha
            refine hd_val (i := 1) (.int .i64 ((i : Nat) : Int)) ha rfl (by kernel_rfl) (fun _ _ _ h => h) (by kernel_rfl) (fun w hS => (by kernel_rfl)) hS ?_
            clear ha; intro a ha
            refine hd_val (i := 2) (.pointer (some ⟨x.g, 0, none⟩)) ha rfl (by kernel_rfl) (fun _ _ _ h => h) (by kernel_rfl) (fun w hS => (by kernel_rfl)) hS ?_
            clear ha; intro a ha
            refine hd_val (i := 3) (.int .i64 ((i : Nat) : Int)) ha rfl (by kernel_rfl) (fun _ _ _ h => h) (by kernel_rfl) (fun w hS => (by kernel_rfl)) hS ?_
            clear ha; intro a ha
            refine hd_val (i := 4) (.pointer (some ⟨x.g, 0, none⟩)) ha rfl (by kernel_rfl) (fun _ _ _ h => h) (by kernel_rfl) (fun w hS => (by kernel_rfl)) hS ?_
            clear ha; intro a ha
            refine hd_val (i := 5) (.pointer (some ⟨x.g, 3, none⟩)) ha rfl (by kernel_rfl) (fun _ _ _ h => h) (by kernel_rfl) (fun w hS => (by kernel_rfl)) hS ?_
            clear ha; intro a ha
            refine hd_val (i := 6) (.pointer (some ⟨x.g, 3 + i * 1, none⟩)) ha rfl (by kernel_rfl) (fun _ _ _ h => h) (by kernel_rfl) (fun w hS => (run_indexArrO (kd := .i64) (of_ := 3) (z := ((i : Nat) : Int)) i rfl Tryz.underlying179 Tryz.sizeOf177 (by kernel_rfl) (by kernel_rfl) rfl (by first | assumption | omega) _)) hS ?_
            clear ha; intro a ha
            refine hd_val (i := 7) (ptrO (canon (hd :: r) p i)) ha rfl (by kernel_rfl) (fun _ _ _ h => h) (by kernel_rfl) (fun w hS => run_load1 (of_ := 3 + i * 1) (cs := ncF x ((delF (hd :: r) key p x.g i) p)) hS.1 rfl (by kernel_rfl) Tryz.isAgg177 (ld_raw hi16 (delF_own h0 hp0 hx hxk))) hS ?_
            clear ha; intro a ha
            refine hd_val (i := 8) (.pointer (some ⟨y.g, 0, none⟩)) ha rfl (by kernel_rfl) (fun _ _ _ h => h) (by kernel_rfl) (fun w hS => (by kernel_rfl)) hS ?_
            clear ha; intro a ha
            refine hd_val (i := 9) (.pointer (some ⟨y.g, 3, none⟩)) ha rfl (by kernel_rfl) (fun _ _ _ h => h) (by kernel_rfl) (fun w hS => (by kernel_rfl)) hS ?_
            clear ha; intro a ha
            refine Head.done (by kernel_rfl) ?_
            clear hS; simp only [List.drop_succ_cons, List.drop_zero]
            refine st_val (.pointer (some ⟨y.g, 3 + i * 1, none⟩)) ha (by kernel_rfl) (run_indexArrO (kd := .i64) (of_ := 3) (z := ((i : Nat) : Int)) i rfl Tryz.underlying179 Tryz.sizeOf177 (by kernel_rfl) (by kernel_rfl) rfl (by first | assumption | omega) _) ?_
            clear ha; intro a ha
            replace s := s.at_ (j := 1) rfl
            replace s : St W (SkF (hd :: r) (delF (hd :: r) key p x.g i) :: .blk gl [.pointer (some ⟨hd.g, 0, none⟩), .int .i64 ((r.length : Nat) : Int)] 220 :: L) w := s
            refine st_exd ha (by kernel_rfl) ((fun h => by rw [delF_upd hlast hb] at h; exact h) (ex_nextB (q := canon (hd :: r) p i) hy hi16 s rfl (by kernel_rfl) (by kernel_rfl) Tryz.sizeOf177)) ?_
            clear ha; rintro w a s ha
            replace s : St W (SkF (hd :: r) (delF (hd :: r) key p x.g (i + 1)) :: .blk gl [.pointer (some ⟨hd.g, 0, none⟩), .int .i64 ((r.length : Nat) : Int)] 220 :: L) w := s
            refine wpList_nil ?_
            refine block_normal ?_
            refine then_normal ?_
            refine wp_region_lit ?_
            refine st_val (.int .i64 ((i + 1 : Nat) : Int)) ha (by kernel_rfl) (run_arith (((i : Nat) : Int) + (1 : Int)) ((i + 1 : Nat) : Int) rfl (by kernel_rfl) (by kernel_rfl) (.inl ⟨rfl, rfl⟩) (by rw [wrap64_in (by omega)]; try omega) _) ?_
            clear ha; intro a ha
            refine st_val (.int .i64 ((i + 1 : Nat) : Int)) ha (by kernel_rfl) (by kernel_rfl) ?_
            clear ha; intro a ha
            refine wpList_nil ?_
            refine then_normal ?_
            replace s := s.at_ (j := 1) rfl
            replace s : St W (.blk gl [.pointer (some ⟨hd.g, 0, none⟩), .int .i64 ((r.length : Nat) : Int)] 220 :: SkF (hd :: r) (delF (hd :: r) key p x.g (i + 1)) :: L) w := s
            exact ⟨i + 1, by omega, (Has.cons ha (by kernel_rfl) (by kernel_rfl) (Has.cons ha (by kernel_rfl) (by kernel_rfl) (Has.cons ha (by kernel_rfl) (by kernel_rfl) (Has.cons ha (by kernel_rfl) (by kernel_rfl) (Has.cons ha (by kernel_rfl) (by kernel_rfl) (Has.nil ha)))))), s, by omega⟩
          · rw [hb] at ha; replace hb : ¬ (canon (hd :: r) q i = some x.g) := of_decide_eq_false hb
            refine wp_skip ?_
            refine block_normal ?_
            refine then_normal ?_
            refine wp_region_lit ?_
            refine st_val (.int .i64 ((i + 1 : Nat) : Int)) ha (by kernel_rfl) (run_arith (((i : Nat) : Int) + (1 : Int)) ((i + 1 : Nat) : Int) rfl (by kernel_rfl) (by kernel_rfl) (.inl ⟨rfl, rfl⟩) (by rw [wrap64_in (by omega)]; try omega) _) ?_
            clear ha; intro a ha
            refine st_val (.int .i64 ((i + 1 : Nat) : Int)) ha (by kernel_rfl) (by kernel_rfl) ?_
            clear ha; intro a ha
            refine wpList_nil ?_
            refine then_normal ?_
            rw [delF_not hlast hb] at s
            exact ⟨i + 1, by omega, (Has.cons ha (by kernel_rfl) (by kernel_rfl) (Has.cons ha (by kernel_rfl) (by kernel_rfl) (Has.cons ha (by kernel_rfl) (by kernel_rfl) (Has.cons ha (by kernel_rfl) (by kernel_rfl) (Has.cons ha (by kernel_rfl) (by kernel_rfl) (Has.nil ha)))))), s, by omega⟩
      · rw [hb] at ha; replace hb : ¬ (((i : Nat) : Int) < (16 : Int)) := of_decide_eq_false hb
        have hist : i = 16 := by omega
        refine wp_exit ?_
        refine then_exit ?_
        refine then_exit ?_
        refine block_hit ?_
        refine then_normal ?_
        refine wp_seq ?_
        refine wp_region_lit ?_
        refine st_val (.pointer (some ⟨gl, 0, none⟩)) ha (by kernel_rfl) (by kernel_rfl) ?_
        clear ha; intro a ha
        refine st_val (.pointer (some ⟨gl, 0, none⟩)) ha (by kernel_rfl) (by kernel_rfl) ?_
        clear ha; intro a ha
        refine st_val (.pointer (some ⟨gl, 1, none⟩)) ha (by kernel_rfl) (by kernel_rfl) ?_
        clear ha; intro a ha
        refine st_val (.int .i64 ((r.length : Nat) : Int)) ha (by kernel_rfl) (run_load1 (of_ := 1) (s.blkIs 0 rfl) rfl (by kernel_rfl) Tryz.isAgg3 rfl) ?_
        clear ha; intro a ha
        refine st_val (.int .i64 (((r.length : Nat) : Int) - (1 : Int))) ha (by kernel_rfl) (run_arith (((r.length : Nat) : Int) - (1 : Int)) (((r.length : Nat) : Int) - (1 : Int)) rfl (by kernel_rfl) (by kernel_rfl) (.inr (.inl ⟨rfl, rfl⟩)) (by rw [wrap64_in (by omega)]) _) ?_
        clear ha; intro a ha
        refine st_val (.pointer (some ⟨gl, 0, none⟩)) ha (by kernel_rfl) (by kernel_rfl) ?_
        clear ha; intro a ha
        refine st_val (.pointer (some ⟨gl, 1, none⟩)) ha (by kernel_rfl) (by kernel_rfl) ?_
        clear ha; intro a ha
        refine st_exd ha (by kernel_rfl) (ex_store (of_ := 1) 0 [.int .i64 (((r.length : Nat) : Int) - (1 : Int))] s rfl rfl (by kernel_rfl) (by kernel_rfl) (Tryz.sizeOf3 _) rfl (by simp [Value.oneCell']) (Nat.le_of_ble_eq_true rfl)) ?_
        clear ha; rintro w a s ha
        replace s : St W (.blk gl [.pointer (some ⟨hd.g, 0, none⟩), .int .i64 (((r.length : Nat) : Int) - (1 : Int))] 220 :: SkF (hd :: r) (delF (hd :: r) key p x.g i) :: L) w := s
        refine wpList_nil ?_
        refine then_normal ?_
        refine wp_seq ?_
        refine wp_region_lit ?_
        refine st_val (.bool true) ha (by kernel_rfl) (by kernel_rfl) ?_
        clear ha; intro a ha
        refine wpList_nil ?_
        refine then_normal ?_
        refine wp_ret ?_
        refine ret_with (v := .bool true) ha (results_1 rfl ha (res_tmp (by kernel_rfl) (by kernel_rfl))) ?_
        subst hist
        have s2 := s.at_ (j := 1) rfl
        have hp1 := own_place ok h0 hp0 hx hxk
        subst hp1
        have hx' : r[q0]? = some x := by simpa using hx
        obtain ⟨cs, hcs⟩ := rowsF_perm_del ok (skF_nodup s2.1) h0 hx hxk
        have s3 := bs_tail (bs_perm s2 hcs)
        obtain ⟨r2, b1, b2, b3, b4⟩ := del_ok ok hx' hxk
        rw [b1] at s3
        refine ⟨r2, rfl, b2, b3, ?_⟩
        have e : ((r.length : Nat) : Int) - 1 = ((r2.length : Nat) : Int) := by omega
        rw [← e]
        exact s3.perm (List.Perm.swap ..)

end Go.Proofs.YtagbmfdheppmoaaGreatDoor.B
