import Derived.Test.YtagbmfdheppmoaaGreatDoorS1
import Derived.Test.YtagbmfdheppmoaaGreatDoorC0
import Derived.Test.YtagbmfdheppmoaaGreatDoorC1
import Derived.KernelRfl
namespace Go.Proofs.YtagbmfdheppmoaaGreatDoor.B
open Go.RowKit Go.Proofs.YtagbmfdheppmoaaGreatDoor.Sep
set_option linter.unusedVariables false
set_option linter.unusedSimpArgs false

theorem elt101 : Elt Tryz.prog 101 5 1 1 := ⟨by kernel_rfl, by kernel_rfl⟩
theorem zs101 : (Tryz.prog.info? 5).bind (fun i => i.zero.map (·.cells)) = some #[.int .u8 0] := by kernel_rfl
open Vm (vkey vkey0 vtx stx stv txnv)
theorem wrap_u8 (x : Int) : IntKind.u8.wrap x = x % 256 := by simp [IntKind.wrap, IntKind.bits, IntKind.signed]
theorem conv_u8 (n : Nat) (h : n < 256) : IntKind.u8.wrap ((n : Nat) : Int) = (((UInt8.ofNat n).toNat : Nat) : Int) := by
  rw [wrap_u8, UInt8.toNat_ofNat', Nat.mod_eq_of_lt (by simpa using h)]
  exact Int.emod_eq_of_lt (by omega) (by omega)
theorem ex_bstr {W w : World} {L : List Chunk} {P : Program} {E : Env} {o : Oper} {st dt e : TypeId} {x : Operand} {g c t' : Nat} {b : UInt8} (j : Nat) (s : St W L w) (hj : L[j]? = some (.blk g [.int .u8 ((b.toNat : Nat) : Int)] t')) (ho : o.op = .convert st dt x) (hx : evalE E x = .slice (some ⟨g, 0, none⟩) 1 c)
    (hs : P.underlying st = some (.slice e)) (he : P.underlying e = some (.int .u8)) (hd : P.underlying dt = some .string) :
    ∃ v w1, (execOp (evalE E) o).run P w = .ok (.value v) w1 ∧ v = .string (str [b]) ∧ St W L w1 := by
  refine ⟨_, w, ?_, rfl, s⟩
  have hb := s.blkIs j hj
  have hc : ∀ i (hi : i < [b].length), w.cell? ((⟨g, 0, none⟩ : Addr).add i) = some (.int .u8 (([b][i].toNat : Nat) : Int)) := by
    intro i hi
    obtain rfl : i = 0 := by simpa using hi
    exact (reads_blk (k := 1) (n := 1) hb rfl).2.2 _ rfl 0 _ rfl
  have := run_convert_bytes_back (P := P) w st dt e ⟨g, 0, none⟩ c [b] hs he hd hc
  simp only [execOp, ho, hx]
  have e1 : ([b] : List UInt8).length = 1 := rfl
  rw [e1] at this
  simp [this]
  rfl
theorem ne_stamp {o : Oper} {E : Env} {x y : Operand} {u : TypeId} {z : Int} (ho : o.op = .binOp .neq 33 x y u) (hx : evalE E x = .agg #[.int .i64 z, .int .i64 0]) (hy : evalE E y = .agg #[.int .i64 z, .int .i64 0]) (w : World) : (execOp (evalE E) o).run Tryz.prog w = .ok (.value (.bool false)) w := by
  letI := Vm.VK [] (fun _ => z) (Vm.hold_nil _)
  have hq : Vm.eqD Tryz.prog 10000 33 (.agg [.isym .i64 ⟨0, [1]⟩, .int .i64 0]) (.agg [.isym .i64 ⟨0, [1]⟩, .int .i64 0]) = some true := by kernel_rfl
  have d : Vm.Den Vm.P0 (.agg [.isym .i64 ⟨0, [1]⟩, .int .i64 0]) (.agg #[.int .i64 z, .int .i64 0]) := Vm.DL.agg (.cons (Vm.VK.int _ _ _ _ (by rw [Vm.VK.eval1]; omega)) (.cons (.int ..) .nil))
  have hr := Vm.eqD_run (ρ := Vm.P0) 10000 33 _ _ true _ _ w hq d d
  have hm : Tryz.prog.eqGuardType Tryz.prog.depth 33 = false := by kernel_rfl
  have hg := run_eqGuard_agg (P := Tryz.prog) w .neq 33 x y #[.int .i64 z, .int .i64 0] #[.int .i64 z, .int .i64 0] hm
  simp [execOp, ho, hx, hy, hg, run_neq_struct, hr, Result.andThen]
theorem hpick {a : Act} {N : Nat} {E : Env} : ∀ {E' : Env} (ha : Has a N E) (h : E'.all (fun p => Sep.isIn E p.1) = true := by kernel_rfl) (e : E'.map (fun p => (p.1, Sep.look E p.1)) = E' := by kernel_rfl), Has a N E'
  | [], ha, _, _ => Has.nil ha
  | (t, v) :: E', ha, h, e => by
    rw [List.all_cons, Bool.and_eq_true] at h
    rw [List.map_cons] at e
    injection e with e1 e2
    injection e1 with _ e3
    exact Has.cons ha h.1 e3 (hpick ha h.2 e2)
theorem vr_len (la lb : List P2) : (VR [] la lb).length = la.length + lb.length := by simp [VR, VA, VB]
theorem op_ok1 (c : UInt8) (i : Int) (v : K) : ∀ o ∈ [((vkey c i, v, false) : O3)], OpOk o := fun o ho => by
  cases List.mem_singleton.1 ho
  exact ⟨vkey_nil _ _, fun h => (by cases h), by show (vkey c i).length ≤ _; unfold vkey; simp⟩
theorem fillA {n m : Nat} {g b : Bool} (h : m + 1 ≤ 131) (hb : b = !(decide (m + 1 = n) && g)) : appl (VR [] (fill n g m) []) [(vkey 97 ((m + 1 : Nat) : Int), vtx b, false)] = VR [] (fill n g (m + 1)) [] := by
  subst hb
  exact tput_a h _
theorem fillB {n m : Nat} {g b : Bool} (la : List P2) (h : m + 1 ≤ 131) (hb : b = !(decide (m + 1 = n) && g)) : appl (VR [] la (fill n g m)) [(vkey 98 ((m + 1 : Nat) : Int), vtx b, false)] = VR [] la (fill n g (m + 1)) := by
  subst hb
  exact tput_b la h _
theorem swOps_ok (w : Int) (la lb : List P2) : ∀ o ∈ swOps w (vs2 la lb), OpOk o := by
  intro o ho
  rcases List.mem_cons.1 ho with rfl | ho
  · exact ⟨by simp, fun h => (by cases h), by simp⟩
  · have := dels_del o ho
    exact ⟨this.2.2.1, fun _ => this.2.1, this.2.2.2⟩
/-- What is read on either side of the sweep. -/
def selL (k : Nat) (la lb : List P2) : List P2 := match k with | 0 => la | _ => lb
theorem ch_ab {k : Nat} (h : k < 2) : UInt8.ofNat (97 + k) = 97 ∨ UInt8.ofNat (97 + k) = 98 := by
  rcases (show k = 0 ∨ k = 1 by omega) with rfl | rfl
  · exact .inl rfl
  · exact .inr rfl
theorem seg_k {th : List Rw} {la lb : List P2} (ht : Th th) (h : Rise (VR th la lb)) {i : Int} (hi : In i) (ha : Ok la) (hb : Ok lb) {k : Nat} (hk : k < 2) : seg (VR th la lb) (vkey (UInt8.ofNat (97 + k)) i) (vkey0 (UInt8.ofNat (97 + k)) ++ [0]) = (pre (UInt8.ofNat (97 + k)) (low i (selL k la lb))).map vrow := by
  rcases (show k = 0 ∨ k = 1 by omega) with rfl | rfl
  · exact seg_a ht h hi ha
  · exact seg_b ht h hi hb
theorem pre_ok {c : UInt8} (hc : c = 97 ∨ c = 98) {l : List P2} (h : Ok l) : ∀ x ∈ pre c l, VOk x := fun x hx => by
  obtain ⟨p, hp, rfl⟩ := List.mem_map.1 hx
  exact ⟨hc, h p hp⟩
theorem sel_ok {la lb : List P2} (ha : Ok la) (hb : Ok lb) (k : Nat) : Ok (selL k la lb) := by cases k; exact ha; exact hb
theorem filt_ok {l : List P2} (h : Ok l) (p : P2 → Bool) : Ok (l.filter p) := fun q hq => h q (List.mem_filter.1 hq).1
theorem key_form (c : UInt8) (i : Int) (vs : List V3) : ∃ (b : Bool) (z e : Int), keyR c i vs = .tuple #[fnd15 c b z, .int .i64 e] := by
  rcases keyR_cases c i vs with h | ⟨x, h⟩ | ⟨x, h⟩
  · exact ⟨_, _, _, h⟩
  · exact ⟨_, _, _, h⟩
  · exact ⟨_, _, _, h⟩
theorem fnd_inj {c : UInt8} {b1 b2 : Bool} {z1 z2 e1 e2 : Int} (h : Value.tuple #[fnd15 c b1 z1, .int .i64 e1] = Value.tuple #[fnd15 c b2 z2, .int .i64 e2]) : b1 = b2 ∧ z1 = z2 ∧ e1 = e2 := by
  simp only [fnd15, Value.tuple.injEq, Array.mk.injEq, List.cons.injEq, Value.agg.injEq, Value.bool.injEq, Value.int.injEq, true_and, and_true] at h
  exact ⟨h.1.1, h.1.2, h.2⟩
theorem reads_rel {w i : Int} (hw : w < i) {la lb : List P2} (ha : Ok la) (hb : Ok lb) (da : Desc la) (db : Desc lb) {k : Nat} (hk : k < 2) {b1 b2 : Bool} {z1 z2 e1 e2 : Int}
    (h1 : keyR (UInt8.ofNat (97 + k)) i (pre (UInt8.ofNat (97 + k)) (low i (selL k la lb))) = .tuple #[fnd15 (UInt8.ofNat (97 + k)) b1 z1, .int .i64 e1])
    (h2 : keyR (UInt8.ofNat (97 + k)) i (pre (UInt8.ofNat (97 + k)) (low i (selL k (la.filter (stays w la lb 97)) (lb.filter (stays w la lb 98))))) = .tuple #[fnd15 (UInt8.ofNat (97 + k)) b2 z2, .int .i64 e2]) :
    e1 = e2 ∧ b1 = b2 ∧ (e1 = 121 → z1 = z2) := by
  have key : ∀ (c : UInt8) (l : List P2) (st : P2 → Bool), (keyR c i (pre c (low i (l.filter st))) = keyR c i (pre c (low i l)) ∨ (∃ x : V3, keyR c i (pre c (low i l)) = .tuple #[fnd15 c false x.2.1, .int .i64 0] ∧ keyR c i (pre c (low i (l.filter st))) = .tuple #[fnd15 c false 0, .int .i64 0])) →
      keyR c i (pre c (low i l)) = .tuple #[fnd15 c b1 z1, .int .i64 e1] → keyR c i (pre c (low i (l.filter st))) = .tuple #[fnd15 c b2 z2, .int .i64 e2] → e1 = e2 ∧ b1 = b2 ∧ (e1 = 121 → z1 = z2) := by
    intro c l st h h1 h2
    rcases h with h | ⟨x, h3, h4⟩
    · rw [h, h1] at h2
      obtain ⟨a1, a2, a3⟩ := fnd_inj h2
      exact ⟨a3, a1, fun _ => a2⟩
    · rw [h3] at h1
      rw [h4] at h2
      obtain ⟨a1, a2, a3⟩ := fnd_inj h1
      obtain ⟨c1, c2, c3⟩ := fnd_inj h2
      exact ⟨a3.symm.trans c3, a1.symm.trans c1, fun e => by omega⟩
  rcases (show k = 0 ∨ k = 1 by omega) with rfl | rfl
  · exact key 97 la _ (read_same hw ha da (fun p hp h => stays_high 97 ha hb (ha p hp) h) fun p t e h => newest_a ha hb da e h) h1 h2
  · exact key 98 lb _ (read_same hw hb db (fun p hp h => stays_high 98 ha hb (hb p hp) h) fun p t e h => newest_b ha hb db e h) h1 h2

end Go.Proofs.YtagbmfdheppmoaaGreatDoor.B
