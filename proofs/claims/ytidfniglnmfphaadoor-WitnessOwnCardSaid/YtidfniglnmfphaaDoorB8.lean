import Derived.Test.YtidfniglnmfphaaDoorB7
namespace Go.Proofs.YtidfniglnmfphaaDoor.B
open Go.RowKit Go.Maps Go.Sort Go.Shelf Go.Proofs.YtidfniglnmfphaaDoor.Sep Go.Proofs.YtidfniglnmfphaaDoor.P
set_option linter.unusedVariables false
set_option linter.unusedSimpArgs false
theorem ids_take {ds : List Dn} {j : Nat} {d : Dn} (h : ds[j]? = some d) : ids (tns (ds.take (j + 1))) = ids (tns (ds.take j)) ++ [d.id] := by
  rw [take_snoc h]; simp [ids, Dn.t]
theorem ids_hit {ds : List Dn} {j k : Nat} {d : Dn} (h : ds[j]? = some d) (hj : j < k) : d.id ∈ ids (tns (ds.take k)) := by
  refine List.mem_map.2 ⟨d.t, List.mem_map.2 ⟨d, ?_, rfl⟩, rfl⟩
  have := List.mem_of_getElem? (show (ds.take k)[j]? = some d by rw [List.getElem?_take, if_pos hj]; exact h)
  exact this
theorem eqSt (x y u v : Int) (w : World) : (Op.equalIn 10000 25 (.agg #[.int .i64 x, .int .i64 y]) (.agg #[.int .i64 u, .int .i64 v])).run Tryd.prog w = .ok (decide (x = u ∧ y = v)) w := by
  have u3 := Tryd.underlying3
  have a3 := Tryd.isAgg3
  have z3 := Tryd.sizeOf3
  have hS : Tryd.prog.underlying 25 = some (.struct (Tryd.prog.fieldsOf 25)) := by kernel_rfl
  have hp : Tryd.prog.stoodInHeld 25 = false := by kernel_rfl
  rw [show (10000 : Nat) = 9999 + 1 from rfl, run_equalIn_struct w 9999 25 _ _ hS hp]
  simp only [Program.fieldsOf, Tryd.underlying25]
  go_simp
  by_cases h1 : x = u <;> by_cases h2 : y = v <;> simp [h1, h2]
theorem run_st {o : Oper} {E : Env} {op : BinOp} {a b : Operand} {x y u v : Int} {yt : TypeId} (hop : op = .eql ∨ op = .neq) (ho : o.op = .binOp op 25 a b yt) (hx : evalE E a = .agg #[.int .i64 x, .int .i64 y]) (hy : evalE E b = .agg #[.int .i64 u, .int .i64 v]) :
    ∀ w, (execOp (evalE E) o).run Tryd.prog w = .ok (.value (.bool (if op = .eql then decide (x = u ∧ y = v) else decide (¬ (x = u ∧ y = v))))) w := by
  intro w
  have hm : Tryd.prog.eqGuardType Tryd.prog.depth 25 = false := by kernel_rfl
  have g : ∀ op a b u v, (eqGuard op 25 a b (.agg u) (.agg v)).run Tryd.prog w = .ok () w := fun op a b u v => run_eqGuard_agg w op 25 a b _ _ hm
  rcases hop with rfl | rfl
  · simp [execOp, ho, hx, hy, run_eql_struct, eqSt, g]
  · simp [execOp, ho, hx, hy, run_neq_struct, eqSt, g]

theorem nats_set (u : List Nat) (r k : Nat) : putAt (nats u) (r * 1) [.int .i64 ((k : Nat) : Int)] = nats (u.set r k) := by
  rw [Nat.mul_one]
  show (nats u).set r _ = _
  simp [nats]
theorem nats_rep (n : Nat) : List.replicate n (.int .i64 0) = nats (List.replicate n 0) := by simp [nats]

end Go.Proofs.YtidfniglnmfphaaDoor.B
