import Derived.Test.YtagbmfdheppmoaaGreatDoorK5
import Derived.Test.YtagbmfdheppmoaaGreatDoorSepU
import Derived.KernelRfl
namespace Go.Proofs.YtagbmfdheppmoaaGreatDoor.B
open Go.RowKit Go.Proofs.YtagbmfdheppmoaaGreatDoor.Sep
set_option linter.unusedVariables false
set_option linter.unusedSimpArgs false

/-- A table: its block, the block of its draws, its list, the nodes. -/
def Tb (gt : Nat) (rows : List Rw) : Chunk := ex fun x : Nat × Nat × Int × Nd × List Nd × Int =>
  star [fact (SkOk (x.2.2.2.1 :: x.2.2.2.2.1) ∧ x.2.2.2.2.1.map kv = rows ∧ ∀ y ∈ rows, y.1.length ≤ 1000000), .blk gt [.pointer (some ⟨x.1, 0, none⟩), .func (.func 127) #[] #[.pointer (some ⟨x.2.1, 0, none⟩)], .int .i64 x.2.2.1] 117, .blk x.2.1 [.int .u64 x.2.2.2.2.2] 224,
    .blk x.1 [.pointer (some ⟨x.2.2.2.1.g, 0, none⟩), .int .i64 ((x.2.2.2.2.1.length : Nat) : Int)] 220, SkF (x.2.2.2.1 :: x.2.2.2.2.1) (canon (x.2.2.2.1 :: x.2.2.2.2.1))]
section
variable {W w : World} {L : List Chunk} {gt : Nat} {rows : List Rw}
theorem tb_open (s : St W (Tb gt rows :: L) w) : ∃ (gl gx : Nat) (sd : Int) (hd : Nd) (r : List Nd) (X : Int), SkOk (hd :: r) ∧ r.map kv = rows ∧ (∀ y ∈ rows, y.1.length ≤ 1000000) ∧
    St W (.blk gt [.pointer (some ⟨gl, 0, none⟩), .func (.func 127) #[] #[.pointer (some ⟨gx, 0, none⟩)], .int .i64 sd] 117 :: .blk gx [.int .u64 X] 224 :: .blk gl [.pointer (some ⟨hd.g, 0, none⟩), .int .i64 ((r.length : Nat) : Int)] 220 :: SkF (hd :: r) (canon (hd :: r)) :: L) w := by
  obtain ⟨⟨gl, gx, sd, hd, r, X⟩, s1⟩ := Sat.ex_iff.1 s.1
  obtain ⟨⟨ok, hr, hb⟩, s2⟩ := Sat.fact_iff.1 (Sat.star_iff.1 s1)
  exact ⟨gl, gx, sd, hd, r, X, ok, hr, hb, s2, s.2⟩
theorem tb_close {gl gx : Nat} {sd : Int} {hd : Nd} {r : List Nd} {X : Int} (ok : SkOk (hd :: r)) (hr : r.map kv = rows) (hb : ∀ y ∈ rows, y.1.length ≤ 1000000)
    (s : St W (.blk gt [.pointer (some ⟨gl, 0, none⟩), .func (.func 127) #[] #[.pointer (some ⟨gx, 0, none⟩)], .int .i64 sd] 117 :: .blk gx [.int .u64 X] 224 :: .blk gl [.pointer (some ⟨hd.g, 0, none⟩), .int .i64 ((r.length : Nat) : Int)] 220 :: SkF (hd :: r) (canon (hd :: r)) :: L) w) : St W (Tb gt rows :: L) w :=
  ⟨Sat.ex_iff.2 ⟨(gl, gx, sd, hd, r, X), Sat.star_iff.2 (Sat.fact_iff.2 ⟨⟨ok, hr, hb⟩, s.1⟩)⟩, s.2⟩
theorem tb_rise (s : St W (Tb gt rows :: L) w) : Rise rows := by
  obtain ⟨gl, gx, sd, hd, r, X, ok, hr, _, _⟩ := tb_open s
  rw [← hr]; exact ok.rise
end
section
variable {P : Program} {o : Oper} {E : Env} {w W : World} {L : List Chunk}
theorem ex_shr {t t' : TypeId} {x y : Operand} {k yk : IntKind} {a b : Int} (s : St W L w) (ho : o.op = .binOp .shr t x y t') (hx : evalE E x = .int k a) (hy : evalE E y = .int yk b) (hb : 0 ≤ b) :
    ∃ v w1, (execOp (evalE E) o).run P w = .ok (.value v) w1 ∧ ∃ n, v = .int k n ∧ St W L w1 := by
  have : ¬ b < 0 := by omega
  refine ⟨.int k (a.fdiv (2 ^ min b.toNat k.bits)), w, ?_, _, rfl, s⟩
  simp [execOp, ho, hx, hy, binOp, Op.shift, this, eqGuard]
theorem ex_xor {t t' : TypeId} {x y : Operand} {k : IntKind} {a b : Int} (s : St W L w) (ho : o.op = .binOp .xor t x y t') (hx : evalE E x = .int k a) (hy : evalE E y = .int k b) :
    ∃ v w1, (execOp (evalE E) o).run P w = .ok (.value v) w1 ∧ ∃ n, v = .int k n ∧ St W L w1 := by
  refine ⟨.int k (k.wrap (BitVec.ofInt k.bits a ^^^ BitVec.ofInt k.bits b).toNat), w, ?_, _, rfl, s⟩
  simp [execOp, ho, hx, hy, binOp, Op.intBits, eqGuard]
theorem ex_and {t t' : TypeId} {x y : Operand} {k : IntKind} {a b : Int} (s : St W L w) (ho : o.op = .binOp .and t x y t') (hx : evalE E x = .int k a) (hy : evalE E y = .int k b) :
    ∃ v w1, (execOp (evalE E) o).run P w = .ok (.value v) w1 ∧ ∃ n, v = .int k n ∧ St W L w1 := by
  refine ⟨.int k (k.wrap (BitVec.ofInt k.bits a &&& BitVec.ofInt k.bits b).toNat), w, ?_, _, rfl, s⟩
  simp [execOp, ho, hx, hy, binOp, Op.intBits, eqGuard]
end

theorem draw_spec (W : World) (L : List Chunk) (w : World) (gx : Nat) (X : Int) (s : St W (.blk gx [.int .u64 X] 224 :: L) w) :
    Calls Tryz.prog 127 #[.pointer (some ⟨gx, 0, none⟩)] w fun e w' => ∃ (n : Nat) (X' : Int), e = .returned (.int .i64 ((n : Nat) : Int)) ∧ 1 ≤ n ∧ n ≤ 16 ∧ St W (.blk gx [.int .u64 X'] 224 :: L) w' := by
  refine enter_args (l := [.pointer (some ⟨gx, 0, none⟩)]) Tryz.func127 rfl rfl (Nat.le_of_ble_eq_true rfl) ?_
  intro a ha; replace ha : Has a 27 [(0, .pointer (some ⟨gx, 0, none⟩))] := ha
  refine wp_seq ?_
  refine wp_region_lit ?_
  refine st_val (.int .i64 0) ha (by kernel_rfl) (by kernel_rfl) ?_
  clear ha; intro a ha
  refine wpList_nil ?_
  refine then_normal ?_
  refine wp_seq ?_
  refine wp_region_lit ?_
  refine st_val (.int .u64 X) ha (by kernel_rfl) (run_load1 (of_ := 0) (s.blkIs 0 rfl) rfl (by kernel_rfl) Tryz.isAgg224 rfl) ?_
  clear ha; intro a ha
  refine st_val (.int .u64 (IntKind.u64.wrap (X + (11400714819323198485 : Int)))) ha (by kernel_rfl) (run_arith (X + (11400714819323198485 : Int)) (IntKind.u64.wrap (X + (11400714819323198485 : Int))) rfl (by kernel_rfl) (by kernel_rfl) (.inl ⟨rfl, rfl⟩) rfl _) ?_
  clear ha; intro a ha
  refine st_exd ha (by kernel_rfl) (ex_store (of_ := 0) 0 [.int .u64 (IntKind.u64.wrap (X + (11400714819323198485 : Int)))] s rfl rfl (by kernel_rfl) (by kernel_rfl) (Tryz.sizeOf224 _) rfl (by simp [Value.oneCell']) (Nat.le_of_ble_eq_true rfl)) ?_
  clear ha; rintro w a s ha
  replace s : St W (.blk gx [.int .u64 (IntKind.u64.wrap (X + (11400714819323198485 : Int)))] 224 :: L) w := s
  refine wpList_nil ?_
  refine then_normal ?_
  refine wp_seq ?_
  refine wp_region_lit ?_
  refine st_val (.int .u64 (IntKind.u64.wrap (X + (11400714819323198485 : Int)))) ha (by kernel_rfl) (run_load1 (of_ := 0) (s.blkIs 0 rfl) rfl (by kernel_rfl) Tryz.isAgg224 rfl) ?_
  clear ha; intro a ha
  refine st_val (.int .u64 (IntKind.u64.wrap (X + (11400714819323198485 : Int)))) ha (by kernel_rfl) (run_load1 (of_ := 0) (s.blkIs 0 rfl) rfl (by kernel_rfl) Tryz.isAgg224 rfl) ?_
  clear ha; intro a ha
  refine st_ex ha (by kernel_rfl) (ex_shr (k := .u64) (yk := .u64) (a := (IntKind.u64.wrap (X + (11400714819323198485 : Int)))) (b := 31) s rfl (by kernel_rfl) (by kernel_rfl) (by decide)) ?_
  clear ha; rintro _ w a ⟨n1, rfl, s⟩ ha
  replace s : St W (.blk gx [.int .u64 (IntKind.u64.wrap (X + (11400714819323198485 : Int)))] 224 :: L) w := s
  refine st_ex ha (by kernel_rfl) (ex_xor (k := .u64) (a := (IntKind.u64.wrap (X + (11400714819323198485 : Int)))) (b := n1) s rfl (by kernel_rfl) (by kernel_rfl)) ?_
  clear ha; rintro _ w a ⟨n2, rfl, s⟩ ha
  replace s : St W (.blk gx [.int .u64 (IntKind.u64.wrap (X + (11400714819323198485 : Int)))] 224 :: L) w := s
  refine st_val (.int .u64 (IntKind.u64.wrap (n2 * (11400714819323198485 : Int)))) ha (by kernel_rfl) (run_arith (n2 * (11400714819323198485 : Int)) (IntKind.u64.wrap (n2 * (11400714819323198485 : Int))) rfl (by kernel_rfl) (by kernel_rfl) (.inr (.inr ⟨rfl, rfl⟩)) rfl _) ?_
  clear ha; intro a ha
  refine st_val (.int .u64 (IntKind.u64.wrap (n2 * (11400714819323198485 : Int)))) ha (by kernel_rfl) (by kernel_rfl) ?_
  clear ha; intro a ha
  refine wpList_nil ?_
  refine then_normal ?_
  refine wp_seq ?_
  refine wp_region_lit ?_
  refine st_val (.int .u64 (IntKind.u64.wrap (n2 * (11400714819323198485 : Int)))) ha (by kernel_rfl) (by kernel_rfl) ?_
  clear ha; intro a ha
  refine st_val (.int .u64 (IntKind.u64.wrap (n2 * (11400714819323198485 : Int)))) ha (by kernel_rfl) (by kernel_rfl) ?_
  clear ha; intro a ha
  refine st_ex ha (by kernel_rfl) (ex_shr (k := .u64) (yk := .u64) (a := (IntKind.u64.wrap (n2 * (11400714819323198485 : Int)))) (b := 29) s rfl (by kernel_rfl) (by kernel_rfl) (by decide)) ?_
  clear ha; rintro _ w a ⟨n3, rfl, s⟩ ha
  replace s : St W (.blk gx [.int .u64 (IntKind.u64.wrap (X + (11400714819323198485 : Int)))] 224 :: L) w := s
  refine st_ex ha (by kernel_rfl) (ex_xor (k := .u64) (a := (IntKind.u64.wrap (n2 * (11400714819323198485 : Int)))) (b := n3) s rfl (by kernel_rfl) (by kernel_rfl)) ?_
  clear ha; rintro _ w a ⟨n4, rfl, s⟩ ha
  replace s : St W (.blk gx [.int .u64 (IntKind.u64.wrap (X + (11400714819323198485 : Int)))] 224 :: L) w := s
  refine st_val (.int .u64 n4) ha (by kernel_rfl) (by kernel_rfl) ?_
  clear ha; intro a ha
  refine wpList_nil ?_
  refine then_normal ?_
  refine wp_seq ?_
  refine wp_region_lit ?_
  refine st_val (.int .i64 1) ha (by kernel_rfl) (by kernel_rfl) ?_
  clear ha; intro a ha
  refine wpList_nil ?_
  refine then_normal ?_
  refine wp_seq ?_
  refine wp_block ?_
  refine wp_loopG (G := Nat × Int) (fun ⟨n, y⟩ a w => Has a 27 [(0, .pointer (some ⟨gx, 0, none⟩)), (2, .int .u64 y), (3, .int .i64 ((n : Nat) : Int))] ∧ St W (.blk gx [.int .u64 (IntKind.u64.wrap (X + (11400714819323198485 : Int)))] 224 :: L) w ∧ (1 ≤ n ∧ n ≤ 16)) (fun ⟨n, y⟩ => 16 - n) ⟨1, n4⟩ ?_ ?_
  · exact ⟨(Has.cons ha (by kernel_rfl) (by kernel_rfl) (Has.cons ha (by kernel_rfl) (by kernel_rfl) (Has.cons ha (by kernel_rfl) (by kernel_rfl) (Has.nil ha)))), s, by omega⟩
  · clear ha s; rintro ⟨n, y⟩ a w ⟨ha, s, hp⟩
    obtain ⟨hn1, hn2⟩ := hp
    refine wp_seq ?_
    refine wp_seq ?_
    refine wp_region_lit ?_
    refine st_val (.int .i64 ((n : Nat) : Int)) ha (by kernel_rfl) (by kernel_rfl) ?_
    clear ha; intro a ha
    refine st_val (.bool (decide (((n : Nat) : Int) < (16 : Int)))) ha (by kernel_rfl) (by kernel_rfl) ?_
    clear ha; intro a ha
    refine st_val (.bool (decide (((n : Nat) : Int) < (16 : Int)))) ha (by kernel_rfl) (by kernel_rfl) ?_
    clear ha; intro a ha
    rcases Bool.eq_false_or_eq_true (decide (((n : Nat) : Int) < (16 : Int))) with hb | hb
    · rw [hb] at ha; replace hb : (((n : Nat) : Int) < (16 : Int)) := of_decide_eq_true hb
      refine st_val (.int .u64 y) ha (by kernel_rfl) (by kernel_rfl) ?_
      clear ha; intro a ha
      refine st_ex ha (by kernel_rfl) (ex_and (k := .u64) (a := y) (b := 1) s rfl (by kernel_rfl) (by kernel_rfl)) ?_
      clear ha; rintro _ w a ⟨n5, rfl, s⟩ ha
      replace s : St W (.blk gx [.int .u64 (IntKind.u64.wrap (X + (11400714819323198485 : Int)))] 224 :: L) w := s
      refine st_val (.bool (n5 == (1 : Int))) ha (by kernel_rfl) (by kernel_rfl) ?_
      clear ha; intro a ha
      refine st_val (.bool (n5 == (1 : Int))) ha (by kernel_rfl) (by kernel_rfl) ?_
      clear ha; intro a ha
      refine wpList_nil ?_
      refine then_normal ?_
      refine wp_part (n5 == (1 : Int)) ha rfl (by kernel_rfl) (fun hb => ?_) (fun hb => ?_)
      · rw [hb] at ha; have hb_ := hb; replace hb := eq_of_beq hb
        refine wp_skip ?_
        refine then_normal ?_
        refine wp_seq ?_
        refine wp_block ?_
        refine wp_region_lit ?_
        refine st_val (.int .i64 ((n : Nat) : Int)) ha (by kernel_rfl) (by kernel_rfl) ?_
        clear ha; intro a ha
        refine st_val (.int .i64 ((n + 1 : Nat) : Int)) ha (by kernel_rfl) (run_arith (((n : Nat) : Int) + (1 : Int)) ((n + 1 : Nat) : Int) rfl (by kernel_rfl) (by kernel_rfl) (.inl ⟨rfl, rfl⟩) (by rw [wrap64_in (by omega)]; try omega) _) ?_
        clear ha; intro a ha
        refine st_val (.int .i64 ((n + 1 : Nat) : Int)) ha (by kernel_rfl) (by kernel_rfl) ?_
        clear ha; intro a ha
        refine wpList_nil ?_
        refine block_normal ?_
        refine then_normal ?_
        refine wp_region_lit ?_
        refine st_val (.int .u64 y) ha (by kernel_rfl) (by kernel_rfl) ?_
        clear ha; intro a ha
        refine st_ex ha (by kernel_rfl) (ex_shr (k := .u64) (yk := .u64) (a := y) (b := 1) s rfl (by kernel_rfl) (by kernel_rfl) (by decide)) ?_
        clear ha; rintro _ w a ⟨n6, rfl, s⟩ ha
        replace s : St W (.blk gx [.int .u64 (IntKind.u64.wrap (X + (11400714819323198485 : Int)))] 224 :: L) w := s
        refine st_val (.int .u64 n6) ha (by kernel_rfl) (by kernel_rfl) ?_
        clear ha; intro a ha
        refine wpList_nil ?_
        refine then_normal ?_
        exact ⟨⟨n + 1, n6⟩, by show 16 - (n + 1) < 16 - n; omega, (Has.cons ha (by kernel_rfl) (by kernel_rfl) (Has.cons ha (by kernel_rfl) (by kernel_rfl) (Has.cons ha (by kernel_rfl) (by kernel_rfl) (Has.nil ha)))), s, by omega⟩
      · rw [hb] at ha; have hb_ := hb; replace hb := ne_of_beq_false hb
        refine wp_exit ?_
        refine then_exit ?_
        refine then_exit ?_
        refine block_hit ?_
        refine then_normal ?_
        refine wp_seq ?_
        refine wp_region_lit ?_
        refine st_val (.int .i64 ((n : Nat) : Int)) ha (by kernel_rfl) (by kernel_rfl) ?_
        clear ha; intro a ha
        refine st_val (.int .i64 ((n : Nat) : Int)) ha (by kernel_rfl) (by kernel_rfl) ?_
        clear ha; intro a ha
        refine wpList_nil ?_
        refine then_normal ?_
        refine wp_ret ?_
        refine ret_with (v := .int .i64 ((n : Nat) : Int)) ha (results_1 rfl ha (res_tmp (by kernel_rfl) (by kernel_rfl))) ?_
        exact ⟨n, _, rfl, hn1, hn2, s⟩
    · rw [hb] at ha; replace hb : ¬ (((n : Nat) : Int) < (16 : Int)) := of_decide_eq_false hb
      refine st_pass ha (by kernel_rfl) ?_
      clear ha; intro a ha
      refine st_pass ha (by kernel_rfl) ?_
      clear ha; intro a ha
      refine st_pass ha (by kernel_rfl) ?_
      clear ha; intro a ha
      refine st_val (.bool false) ha (by kernel_rfl) (by kernel_rfl) ?_
      clear ha; intro a ha
      refine wpList_nil ?_
      refine then_normal ?_
      refine wp_false ha rfl (by kernel_rfl) ?_
      refine wp_exit ?_
      refine then_exit ?_
      refine then_exit ?_
      refine block_hit ?_
      refine then_normal ?_
      refine wp_seq ?_
      refine wp_region_lit ?_
      refine st_val (.int .i64 ((n : Nat) : Int)) ha (by kernel_rfl) (by kernel_rfl) ?_
      clear ha; intro a ha
      refine st_val (.int .i64 ((n : Nat) : Int)) ha (by kernel_rfl) (by kernel_rfl) ?_
      clear ha; intro a ha
      refine wpList_nil ?_
      refine then_normal ?_
      refine wp_ret ?_
      refine ret_with (v := .int .i64 ((n : Nat) : Int)) ha (results_1 rfl ha (res_tmp (by kernel_rfl) (by kernel_rfl))) ?_
      exact ⟨n, _, rfl, hn1, hn2, s⟩

theorem drawing_spec (W : World) (L : List Chunk) (w : World) (sd : Int) (s : St W L w) :
    Calls Tryz.prog 76 #[.int .i64 sd] w fun e w' => ∃ g : Nat, e = .returned (.func (.func 127) #[] #[.pointer (some ⟨g, 0, none⟩)]) ∧ St W (.blk g [.int .u64 (IntKind.u64.wrap sd)] 224 :: L) w' := by
  refine enter_args (l := [.int .i64 sd]) Tryz.func76 rfl rfl (Nat.le_of_ble_eq_true rfl) ?_
  intro a ha; replace ha : Has a 7 [(0, .int .i64 sd)] := ha
  refine wp_seq ?_
  refine wp_region_lit ?_
  refine st_val (.nilFunc) ha (by kernel_rfl) (by kernel_rfl) ?_
  clear ha; intro a ha
  refine wpList_nil ?_
  refine then_normal ?_
  refine wp_seq ?_
  refine wp_region_lit ?_
  refine st_val (.int .i64 sd) ha (by kernel_rfl) (by kernel_rfl) ?_
  clear ha; intro a ha
  refine st_val (.int .u64 (IntKind.u64.wrap sd)) ha (by kernel_rfl) (by kernel_rfl) ?_
  clear ha; intro a ha
  refine st_ex ha (by kernel_rfl) (ex_alloc [.int .u64 0] s rfl (Tryz.zeroValue224 _) (by kernel_rfl)) ?_
  clear ha; rintro _ w a ⟨g1, rfl, s⟩ ha
  refine st_exd ha (by kernel_rfl) (ex_store (of_ := 0) 0 [.int .u64 (IntKind.u64.wrap sd)] s rfl rfl (by kernel_rfl) (by kernel_rfl) (Tryz.sizeOf224 _) rfl (by simp [Value.oneCell']) (Nat.le_of_ble_eq_true rfl)) ?_
  clear ha; rintro w a s ha
  replace s : St W (.blk g1 [.int .u64 (IntKind.u64.wrap sd)] 224 :: L) w := s
  refine wpList_nil ?_
  refine then_normal ?_
  refine wp_seq ?_
  refine wp_region_lit ?_
  refine st_val (.func (.func 127) #[] #[.pointer (some ⟨g1, 0, none⟩)]) ha (by kernel_rfl) (by kernel_rfl) ?_
  clear ha; intro a ha
  refine st_val (.func (.func 127) #[] #[.pointer (some ⟨g1, 0, none⟩)]) ha (by kernel_rfl) (by kernel_rfl) ?_
  clear ha; intro a ha
  refine wpList_nil ?_
  refine then_normal ?_
  refine wp_ret ?_
  refine ret_with (v := .func (.func 127) #[] #[.pointer (some ⟨g1, 0, none⟩)]) ha (results_1 rfl ha (res_tmp (by kernel_rfl) (by kernel_rfl))) ?_
  exact ⟨g1, rfl, s⟩

theorem TNew_spec (W : World) (L : List Chunk) (w : World) (sd : Int) (s : St W L w) :
    Calls Tryz.prog 29 #[.int .i64 sd] w fun e w' => ∃ gt : Nat, e = .returned (.pointer (some ⟨gt, 0, none⟩)) ∧ St W (Tb gt [] :: L) w' := by
  refine enter_args (l := [.int .i64 sd]) Tryz.func29 rfl rfl (Nat.le_of_ble_eq_true rfl) ?_
  intro a ha; replace ha : Has a 9 [(0, .int .i64 sd)] := ha
  refine wp_seq ?_
  refine wp_region_lit ?_
  refine st_val (.pointer none) ha (by kernel_rfl) (by kernel_rfl) ?_
  clear ha; intro a ha
  refine wpList_nil ?_
  refine then_normal ?_
  refine wp_seq ?_
  refine wp_region_lit ?_
  refine st_call ha (by kernel_rfl) (by kernel_rfl) (New_spec W _ _ s) ?_
  rintro _ w ⟨gl, hd, rfl, ok, s⟩
  refine ⟨_, rfl, ?_⟩; clear ha; intro a ha
  refine st_val (.int .i64 sd) ha (by kernel_rfl) (by kernel_rfl) ?_
  clear ha; intro a ha
  refine st_call ha (by kernel_rfl) (by kernel_rfl) (drawing_spec W _ _ sd s) ?_
  rintro _ w ⟨g2, rfl, s⟩
  refine ⟨_, rfl, ?_⟩; clear ha; intro a ha
  refine st_val (.int .i64 sd) ha (by kernel_rfl) (by kernel_rfl) ?_
  clear ha; intro a ha
  refine st_val (.agg #[.pointer (some ⟨gl, 0, none⟩), .func (.func 127) #[] #[.pointer (some ⟨g2, 0, none⟩)], .int .i64 sd]) ha (by kernel_rfl) (by kernel_rfl) ?_
  clear ha; intro a ha
  refine st_ex ha (by kernel_rfl) (ex_box [.pointer (some ⟨gl, 0, none⟩), .func (.func 127) #[] #[.pointer (some ⟨g2, 0, none⟩)], .int .i64 sd] s rfl (by kernel_rfl)) ?_
  clear ha; rintro _ w a ⟨g1, rfl, s⟩ ha
  refine st_val (.pointer (some ⟨g1, 0, none⟩)) ha (by kernel_rfl) (by kernel_rfl) ?_
  clear ha; intro a ha
  refine wpList_nil ?_
  refine then_normal ?_
  refine wp_ret ?_
  refine ret_with (v := .pointer (some ⟨g1, 0, none⟩)) ha (results_1 rfl ha (res_tmp (by kernel_rfl) (by kernel_rfl))) ?_
  exact ⟨g1, rfl, tb_close (r := []) ok rfl (fun y h => by cases h) s⟩

theorem none_spec (W : World) (L : List Chunk) (w : World) (gt : Nat) (rows : List Rw) (s : St W (Tb gt rows :: L) w) :
    Calls Tryz.prog 45 #[.pointer (some ⟨gt, 0, none⟩)] w fun e w' => e = .returned (.bool false) ∧ St W (Tb gt rows :: L) w' := by
  obtain ⟨gl, gx, sd, hd, r, X, ok, hrw, hbd, s⟩ := tb_open s
  refine enter_args (l := [.pointer (some ⟨gt, 0, none⟩)]) Tryz.func45 rfl rfl (Nat.le_of_ble_eq_true rfl) ?_
  intro a ha; replace ha : Has a 12 [(0, .pointer (some ⟨gt, 0, none⟩))] := ha
  refine wp_seq ?_
  refine wp_region_lit ?_
  refine st_val (.bool false) ha (by kernel_rfl) (by kernel_rfl) ?_
  clear ha; intro a ha
  refine wpList_nil ?_
  refine then_normal ?_
  refine wp_seq ?_
  refine wp_region_lit ?_
  refine st_val (.pointer (some ⟨gt, 0, none⟩)) ha (by kernel_rfl) (by kernel_rfl) ?_
  clear ha; intro a ha
  refine st_val (.bool false) ha (by kernel_rfl) (by kernel_rfl) ?_
  clear ha; intro a ha
  refine st_val (.bool false) ha (by kernel_rfl) (by kernel_rfl) ?_
  clear ha; intro a ha
  refine st_val (.pointer (some ⟨gt, 0, none⟩)) ha (by kernel_rfl) (by kernel_rfl) ?_
  clear ha; intro a ha
  refine st_val (.pointer (some ⟨gt, 0, none⟩)) ha (by kernel_rfl) (by kernel_rfl) ?_
  clear ha; intro a ha
  refine st_val (.pointer (some ⟨gt, 0, none⟩)) ha (by kernel_rfl) (by kernel_rfl) ?_
  clear ha; intro a ha
  refine st_val (.pointer (some ⟨gl, 0, none⟩)) ha (by kernel_rfl) (run_load1 (of_ := 0) (s.blkIs 0 rfl) rfl (by kernel_rfl) Tryz.isAgg114 rfl) ?_
  clear ha; intro a ha
  refine st_val (.bool false) ha (by kernel_rfl) (by kernel_rfl) ?_
  clear ha; intro a ha
  refine st_val (.bool false) ha (by kernel_rfl) (by kernel_rfl) ?_
  clear ha; intro a ha
  refine st_val (.bool false) ha (by kernel_rfl) (by kernel_rfl) ?_
  clear ha; intro a ha
  refine wpList_nil ?_
  refine then_normal ?_
  refine wp_ret ?_
  refine ret_with (v := .bool false) ha (results_1 rfl ha (res_tmp (by kernel_rfl) (by kernel_rfl))) ?_
  exact ⟨rfl, tb_close ok hrw hbd s⟩

section
variable (W : World) (L : List Chunk) (w : World) (gl : Nat) (hd : Nd) (r : List Nd) (many : Int) (key : K)
theorem Get_yes (ok : SkOk (hd :: r)) {x : Nd} (hf : fnd r key = some x) (s : St W (.blk gl [.pointer (some ⟨hd.g, 0, none⟩), .int .i64 many] 220 :: SkF (hd :: r) (canon (hd :: r)) :: L) w) :
    Calls Tryz.prog 46 #[.pointer (some ⟨gl, 0, none⟩), .string (str key)] w fun e w' => e = .returned (.tuple #[.string (str x.v), .bool true]) ∧ St W (.blk gl [.pointer (some ⟨hd.g, 0, none⟩), .int .i64 many] 220 :: SkF (hd :: r) (canon (hd :: r)) :: L) w' :=
  (Get_spec W L w gl hd r many key ok s).mono fun e w' ⟨h, s⟩ => ⟨by rw [h, hf], s⟩
theorem Get_no (ok : SkOk (hd :: r)) (hf : fnd r key = none) (s : St W (.blk gl [.pointer (some ⟨hd.g, 0, none⟩), .int .i64 many] 220 :: SkF (hd :: r) (canon (hd :: r)) :: L) w) :
    Calls Tryz.prog 46 #[.pointer (some ⟨gl, 0, none⟩), .string (str key)] w fun e w' => e = .returned (.tuple #[.string (str []), .bool false]) ∧ St W (.blk gl [.pointer (some ⟨hd.g, 0, none⟩), .int .i64 many] 220 :: SkF (hd :: r) (canon (hd :: r)) :: L) w' :=
  (Get_spec W L w gl hd r many key ok s).mono fun e w' ⟨h, s⟩ => ⟨by rw [h, hf], s⟩
theorem First_yes (ok : SkOk (hd :: r)) {x : Nd} (hf : nf r key = some x) (s : St W (.blk gl [.pointer (some ⟨hd.g, 0, none⟩), .int .i64 many] 220 :: SkF (hd :: r) (canon (hd :: r)) :: L) w) :
    Calls Tryz.prog 98 #[.pointer (some ⟨gl, 0, none⟩), .string (str key)] w fun e w' => e = .returned (.tuple #[.string (str x.k), .bool true]) ∧ St W (.blk gl [.pointer (some ⟨hd.g, 0, none⟩), .int .i64 many] 220 :: SkF (hd :: r) (canon (hd :: r)) :: L) w' :=
  (First_spec W L w gl hd r many key ok s).mono fun e w' ⟨h, s⟩ => ⟨by rw [h, hf], s⟩
theorem First_no (ok : SkOk (hd :: r)) (hf : nf r key = none) (s : St W (.blk gl [.pointer (some ⟨hd.g, 0, none⟩), .int .i64 many] 220 :: SkF (hd :: r) (canon (hd :: r)) :: L) w) :
    Calls Tryz.prog 98 #[.pointer (some ⟨gl, 0, none⟩), .string (str key)] w fun e w' => e = .returned (.tuple #[.string (str []), .bool false]) ∧ St W (.blk gl [.pointer (some ⟨hd.g, 0, none⟩), .int .i64 many] 220 :: SkF (hd :: r) (canon (hd :: r)) :: L) w' :=
  (First_spec W L w gl hd r many key ok s).mono fun e w' ⟨h, s⟩ => ⟨by rw [h, hf], s⟩
end

theorem TGet_spec (W : World) (L : List Chunk) (w : World) (gt : Nat) (rows : List Rw) (key : K) (s : St W (Tb gt rows :: L) w) :
    Calls Tryz.prog 16 #[.pointer (some ⟨gt, 0, none⟩), .string (str key)] w fun e w' => e = .returned (match tget rows key with | some v => .tuple #[.string (str v), .bool true] | none => .tuple #[.string (str []), .bool false]) ∧ St W (Tb gt rows :: L) w' := by
  obtain ⟨gl, gx, sd, hd, r, X, ok, hrw, hbd, s⟩ := tb_open s
  refine enter_args (l := [.pointer (some ⟨gt, 0, none⟩), .string (str key)]) Tryz.func16 rfl rfl (Nat.le_of_ble_eq_true rfl) ?_
  intro a ha; replace ha : Has a 16 [(0, .pointer (some ⟨gt, 0, none⟩)), (1, .string (str key))] := ha
  refine wp_seq ?_
  refine wp_region_lit ?_
  refine st_val (.string (str [])) ha (by kernel_rfl) (by kernel_rfl) ?_
  clear ha; intro a ha
  refine st_val (.bool false) ha (by kernel_rfl) (by kernel_rfl) ?_
  clear ha; intro a ha
  refine wpList_nil ?_
  refine then_normal ?_
  refine wp_seq ?_
  refine wp_seq ?_
  refine wp_region_lit ?_
  refine st_val (.pointer (some ⟨gt, 0, none⟩)) ha (by kernel_rfl) (by kernel_rfl) ?_
  clear ha; intro a ha
  refine st_call ha (by kernel_rfl) (by kernel_rfl) ((none_spec W _ _ gt _ (tb_close ok hrw hbd s)).mono fun e w h => (show _ ∧ _ from ⟨h.1, tb_open h.2⟩)) ?_
  rintro _ w ⟨rfl, gl, gx, sd, hd, r, X, ok, hrw, -, s⟩
  refine ⟨_, rfl, ?_⟩; clear ha; intro a ha
  refine wpList_nil ?_
  refine then_normal ?_
  refine wp_false ha rfl (by kernel_rfl) ?_
  refine wp_skip ?_
  refine then_normal ?_
  refine wp_seq ?_
  refine wp_region_lit ?_
  refine st_val (.pointer (some ⟨gt, 0, none⟩)) ha (by kernel_rfl) (by kernel_rfl) ?_
  clear ha; intro a ha
  refine st_val (.pointer (some ⟨gt, 0, none⟩)) ha (by kernel_rfl) (by kernel_rfl) ?_
  clear ha; intro a ha
  refine st_val (.pointer (some ⟨gt, 0, none⟩)) ha (by kernel_rfl) (by kernel_rfl) ?_
  clear ha; intro a ha
  refine st_val (.pointer (some ⟨gl, 0, none⟩)) ha (by kernel_rfl) (run_load1 (of_ := 0) (s.blkIs 0 rfl) rfl (by kernel_rfl) Tryz.isAgg114 rfl) ?_
  clear ha; intro a ha
  refine st_val (.string (str key)) ha (by kernel_rfl) (by kernel_rfl) ?_
  clear ha; intro a ha
  cases hf : fnd r key
  · skip
    replace s := (s.at_ (j := 3) rfl).at_ (j := 3) rfl
    replace s : St W (.blk gl [.pointer (some ⟨hd.g, 0, none⟩), .int .i64 ((r.length : Nat) : Int)] 220 :: SkF (hd :: r) (canon (hd :: r)) :: .blk gt [.pointer (some ⟨gl, 0, none⟩), .func (.func 127) #[] #[.pointer (some ⟨gx, 0, none⟩)], .int .i64 sd] 117 :: .blk gx [.int .u64 X] 224 :: L) w := s
    refine st_call ha (by kernel_rfl) (by kernel_rfl) (Get_no W _ _ gl hd r _ key ok hf s) ?_
    rintro _ w ⟨rfl, s⟩
    refine ⟨_, rfl, ?_⟩; clear ha; intro a ha
    refine st_val (.string (str [])) ha (by kernel_rfl) (by kernel_rfl) ?_
    clear ha; intro a ha
    refine st_val (.bool false) ha (by kernel_rfl) (by kernel_rfl) ?_
    clear ha; intro a ha
    refine st_val (.string (str [])) ha (by kernel_rfl) (by kernel_rfl) ?_
    clear ha; intro a ha
    refine st_val (.bool false) ha (by kernel_rfl) (by kernel_rfl) ?_
    clear ha; intro a ha
    refine wpList_nil ?_
    refine then_normal ?_
    refine wp_ret ?_
    refine ret_with (v := .tuple #[.string (str []), .bool false]) ha (results_2 rfl ha (res_tmp (by kernel_rfl) (by kernel_rfl)) (res_tmp (by kernel_rfl) (by kernel_rfl))) ?_
    replace s := (((s.at_ (j := 1) rfl).at_ (j := 1) rfl).at_ (j := 3) rfl).at_ (j := 3) rfl
    replace s : St W (.blk gt [.pointer (some ⟨gl, 0, none⟩), .func (.func 127) #[] #[.pointer (some ⟨gx, 0, none⟩)], .int .i64 sd] 117 :: .blk gx [.int .u64 X] 224 :: .blk gl [.pointer (some ⟨hd.g, 0, none⟩), .int .i64 ((r.length : Nat) : Int)] 220 :: SkF (hd :: r) (canon (hd :: r)) :: L) w := s
    exact ⟨by rw [← hrw, fnd_get, hf]; rfl, tb_close ok hrw hbd s⟩
  · rename_i x
    replace s := (s.at_ (j := 3) rfl).at_ (j := 3) rfl
    replace s : St W (.blk gl [.pointer (some ⟨hd.g, 0, none⟩), .int .i64 ((r.length : Nat) : Int)] 220 :: SkF (hd :: r) (canon (hd :: r)) :: .blk gt [.pointer (some ⟨gl, 0, none⟩), .func (.func 127) #[] #[.pointer (some ⟨gx, 0, none⟩)], .int .i64 sd] 117 :: .blk gx [.int .u64 X] 224 :: L) w := s
    refine st_call ha (by kernel_rfl) (by kernel_rfl) (Get_yes W _ _ gl hd r _ key ok hf s) ?_
    rintro _ w ⟨rfl, s⟩
    refine ⟨_, rfl, ?_⟩; clear ha; intro a ha
    refine st_val (.string (str x.v)) ha (by kernel_rfl) (by kernel_rfl) ?_
    clear ha; intro a ha
    refine st_val (.bool true) ha (by kernel_rfl) (by kernel_rfl) ?_
    clear ha; intro a ha
    refine st_val (.string (str x.v)) ha (by kernel_rfl) (by kernel_rfl) ?_
    clear ha; intro a ha
    refine st_val (.bool true) ha (by kernel_rfl) (by kernel_rfl) ?_
    clear ha; intro a ha
    refine wpList_nil ?_
    refine then_normal ?_
    refine wp_ret ?_
    refine ret_with (v := .tuple #[.string (str x.v), .bool true]) ha (results_2 rfl ha (res_tmp (by kernel_rfl) (by kernel_rfl)) (res_tmp (by kernel_rfl) (by kernel_rfl))) ?_
    replace s := (((s.at_ (j := 1) rfl).at_ (j := 1) rfl).at_ (j := 3) rfl).at_ (j := 3) rfl
    replace s : St W (.blk gt [.pointer (some ⟨gl, 0, none⟩), .func (.func 127) #[] #[.pointer (some ⟨gx, 0, none⟩)], .int .i64 sd] 117 :: .blk gx [.int .u64 X] 224 :: .blk gl [.pointer (some ⟨hd.g, 0, none⟩), .int .i64 ((r.length : Nat) : Int)] 220 :: SkF (hd :: r) (canon (hd :: r)) :: L) w := s
    exact ⟨by rw [← hrw, fnd_get, hf]; rfl, tb_close ok hrw hbd s⟩

theorem All_spec (W : World) (L : List Chunk) (w : World) (gt : Nat) (from_ to_ : K) (s : St W L w) :
    Calls Tryz.prog 54 #[.pointer (some ⟨gt, 0, none⟩), .string (str from_), .string (str to_)] w fun e w' => ∃ b1 b2 b3 : Nat, e = .returned (.func (.func 97) #[] #[.pointer (some ⟨b1, 0, none⟩), .pointer (some ⟨b2, 0, none⟩), .pointer (some ⟨b3, 0, none⟩)]) ∧ St W (.blk b1 [.pointer (some ⟨gt, 0, none⟩)] 24 :: .blk b2 [.string (str from_)] 9 :: .blk b3 [.string (str to_)] 9 :: L) w' := by
  refine enter_args (l := [.pointer (some ⟨gt, 0, none⟩), .string (str from_), .string (str to_)]) Tryz.func54 rfl rfl (Nat.le_of_ble_eq_true rfl) ?_
  intro a ha; replace ha : Has a 8 [(0, .pointer (some ⟨gt, 0, none⟩)), (1, .string (str from_)), (2, .string (str to_))] := ha
  refine wp_seq ?_
  refine wp_region_lit ?_
  refine st_ex ha (by kernel_rfl) (ex_box [.pointer (some ⟨gt, 0, none⟩)] s rfl (by kernel_rfl)) ?_
  clear ha; rintro _ w a ⟨g1, rfl, s⟩ ha
  refine st_ex ha (by kernel_rfl) (ex_box [.string (str from_)] s rfl (by kernel_rfl)) ?_
  clear ha; rintro _ w a ⟨g2, rfl, s⟩ ha
  refine st_ex ha (by kernel_rfl) (ex_box [.string (str to_)] s rfl (by kernel_rfl)) ?_
  clear ha; rintro _ w a ⟨g3, rfl, s⟩ ha
  refine st_val (.nilFunc) ha (by kernel_rfl) (by kernel_rfl) ?_
  clear ha; intro a ha
  refine wpList_nil ?_
  refine then_normal ?_
  refine wp_seq ?_
  refine wp_region_lit ?_
  refine st_val (.func (.func 97) #[] #[.pointer (some ⟨g1, 0, none⟩), .pointer (some ⟨g2, 0, none⟩), .pointer (some ⟨g3, 0, none⟩)]) ha (by kernel_rfl) (by kernel_rfl) ?_
  clear ha; intro a ha
  refine st_val (.func (.func 97) #[] #[.pointer (some ⟨g1, 0, none⟩), .pointer (some ⟨g2, 0, none⟩), .pointer (some ⟨g3, 0, none⟩)]) ha (by kernel_rfl) (by kernel_rfl) ?_
  clear ha; intro a ha
  refine wpList_nil ?_
  refine then_normal ?_
  refine wp_ret ?_
  refine ret_with (v := .func (.func 97) #[] #[.pointer (some ⟨g1, 0, none⟩), .pointer (some ⟨g2, 0, none⟩), .pointer (some ⟨g3, 0, none⟩)]) ha (results_1 rfl ha (res_tmp (by kernel_rfl) (by kernel_rfl))) ?_
  replace s := (s.at_ (j := 1) rfl).at_ (j := 2) rfl
  replace s : St W (.blk g1 [.pointer (some ⟨gt, 0, none⟩)] 24 :: .blk g2 [.string (str from_)] 9 :: .blk g3 [.string (str to_)] 9 :: L) w := s
  exact ⟨g1, g2, g3, rfl, s⟩

theorem lt_snoc0 : ∀ (z k : K), z < k ++ [0] ↔ ¬ k < z
  | [], [] => by decide
  | a :: xs, [] => by
    have h1 : ¬ a < 0 := UInt8.not_lt_zero
    simp [List.cons_lt_cons_iff, h1]
  | [], b :: bs => by simp
  | a :: xs, b :: bs => by
    rw [List.cons_append, List.cons_lt_cons_iff, List.cons_lt_cons_iff, lt_snoc0 xs bs]
    by_cases h1 : a < b
    · have h2 : ¬ b < a := fun h => UInt8.lt_irrefl _ (UInt8.lt_trans h1 h)
      have h3 : ¬ b = a := fun h => UInt8.lt_irrefl _ (h ▸ h1)
      simp [h1, h2, h3]
    · by_cases h2 : a = b
      · subst h2; simp
      · have h3 : b < a := by
          rcases UInt8.lt_or_lt_of_ne h2 with h | h
          · exact absurd h h1
          · exact h
        have h4 : ¬ b = a := fun h => h2 h.symm
        simp [h1, h2, h3]

/-- The rows from a key on; of these, the ones below another key. -/
def after (rows : List Rw) (k : K) : List Rw := rows.filter fun x => !decide (x.1 < k)
def below_ (to_ : K) (x : Rw) : Bool := decide (to_ = []) || decide (x.1 < to_)
def seg (rows : List Rw) (from_ to_ : K) : List Rw := (after rows from_).takeWhile (below_ to_)
theorem nf_after (r : List Nd) (k : K) : (nf r k).map kv = (after (r.map kv) k).head? := by
  unfold nf after
  rw [List.head?_filter, List.find?_map]
  rfl
theorem after_next {rows : List Rw} (h : Rise rows) {k : K} {x : Rw} {t : List Rw} (e : after rows k = x :: t) : after rows (x.1 ++ [0]) = t := by
  have hx : ¬ x.1 < k := by
    have : x ∈ after rows k := by rw [e]; exact List.mem_cons_self ..
    have := (List.mem_filter.1 this).2
    simpa using this
  have e1 : after rows (x.1 ++ [0]) = (after rows k).filter fun y => decide (x.1 < y.1) := by
    unfold after
    rw [List.filter_filter]
    refine List.filter_congr fun y hy => ?_
    have h1 := lt_snoc0 y.1 x.1
    by_cases h2 : x.1 < y.1
    · have h3 : ¬ y.1 < k := fun h => hx (klt_trans h2 h)
      simp [h1, h2, h3]
    · simp [h1, h2]
  rw [e1, e]
  have hp : (x :: t).Pairwise fun a b => a.1 < b.1 := by rw [← e]; exact List.Pairwise.filter _ h
  rw [List.filter_cons_of_neg (by simp [klt_irrefl]), List.filter_eq_self.2 fun y hy => decide_eq_true ((List.pairwise_cons.1 hp).1 y hy)]
theorem take_at {α : Type} {p : α → Bool} : ∀ {l : List α} {i : Nat} {x : α}, l[i]? = some x → i ≤ (l.takeWhile p).length → (p x = true → (l.takeWhile p)[i]? = some x ∧ i + 1 ≤ (l.takeWhile p).length) ∧ (p x = false → i = (l.takeWhile p).length)
  | [], i, x, h, _ => by simp at h
  | y :: l, i, x, h, hi => by
    by_cases hy : p y = true
    · rw [List.takeWhile_cons_of_pos hy] at hi ⊢
      cases i with
      | zero => simp at h; subst h; simp [hy]
      | succ i =>
        have := take_at (p := p) (l := l) (i := i) (x := x) (by simpa using h) (by simpa using hi)
        simpa using this
    · rw [List.takeWhile_cons_of_neg hy] at hi ⊢
      have : i = 0 := by simpa using hi
      subst this
      simp at h; subst h
      simp [hy]
theorem fnd_self {r : List Nd} (h : r.Pairwise fun x y => x.k < y.k) {z : Nd} (hz : z ∈ r) : fnd r z.k = some z := by
  induction r with
  | nil => cases hz
  | cons y r ih =>
    have h1 := List.pairwise_cons.1 h
    rcases List.mem_cons.1 hz with rfl | hz
    · simp [fnd]
    · have : ¬ y.k = z.k := fun e => by have := h1.1 z hz; rw [e] at this; exact klt_irrefl _ this
      have := ih h1.2 hz
      simpa [fnd, ‹¬ y.k = z.k›] using this
def row2 (x : Rw) : List Value := [.string (str x.1), .string (str x.2)]
theorem run_yieldcall {P : Program} {o : Oper} {E : Env} {w : World} {l : Nat} {rc : Loop} {x a b : Operand} {t1 t2 : TypeId} {u v : Value} (ho : o.op = .call { callee := .value x, args := #[a, b], argTypes := #[t1, t2] }) (hx : evalE E x = .func (.yield l) #[] #[]) (ha : evalE E a = u) (hb : evalE E b = v) (hl : w.heap[l]? = some (.loop rc)) (hs : 2 = rc.params.size) :
    (execOp (evalE E) o).run P w = .ok (.round l rc.fn ((rc.params.zip #[u, v]).foldl (fun t (q, a) => t.setIfInBounds q a) rc.tmps) rc.assign rc.body) w := by
  have := run_yield (P := P) (args := #[u, v]) hl hs
  simp [execOp, ho, resolve, invoke, hx, ha, hb, Deferred.ofValue, this]

end Go.Proofs.YtagbmfdheppmoaaGreatDoor.B
