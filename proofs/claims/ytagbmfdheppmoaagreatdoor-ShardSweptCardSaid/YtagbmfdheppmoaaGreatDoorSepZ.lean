import Derived.Test.YtagbmfdheppmoaaGreatDoorSepF
import Derived.KernelRfl
/-
  Short forms: what the kernel settles by itself is left out of the text.
-/
namespace Go.Proofs.YtagbmfdheppmoaaGreatDoor.Sep
open Go.RowKit
section
variable {P : Program} {ops : Array Oper} {Q Q2 : Exit → Act → World → Prop} {a : Act} {w W : World} {o : Oper} {rest : List Oper} {N : Nat} {E : Env} {S : World → Prop}
theorem zv (v : Value) (ha : Has a N E) (h : ∀ a, Has a N (putE E o.dst v) → wpList P ops Q rest a w) (hB : (covers E o N && (wants E ops o == some true)) = true := by kernel_rfl) (hr : (execOp (evalE E) o).run P w = .ok (.value v) w := by kernel_rfl) : wpList P ops Q (o :: rest) a w := st_val v ha hB hr h
theorem zw (v : Value) (ha : Has a N E) (hr : (execOp (evalE E) o).run P w = .ok (.value v) w) (h : ∀ a, Has a N (putE E o.dst v) → wpList P ops Q rest a w) (hB : (covers E o N && (wants E ops o == some true)) = true := by kernel_rfl) : wpList P ops Q (o :: rest) a w := st_val v ha hB hr h
theorem zp (ha : Has a N E) (h : ∀ a, Has a N (putE E o.dst undef) → wpList P ops Q rest a w) (hB : (covers E { o with op := .alloc 0 } N && (wants E ops o == some false)) = true := by kernel_rfl) : wpList P ops Q (o :: rest) a w := st_pass ha hB h
theorem yv {n g f i : Nat} {listed : Array Bool} (v : Value) (ha : Has a N E) (hr : ∀ w, S w → (execOp (evalE E) o).run P w = .ok (.value v) w) (hS : S w)
    (h : ∀ a, Has a N (putE E o.dst v) → Head P .any ops Q S n g f (listed.setIfInBounds i true) a w) (hi : ops[i]? = some o := by rfl)
    (hR : (Region.noSelect ops && decide (n < ops.size) && Region.sinkB .any ops n && Region.chainB .any ops n && decide (i < n) && Region.free .any ops listed i && (Region.ready .any ops listed).contains i) = true := by kernel_rfl)
    (hQ : ∀ c a w, Q (.panic c) (a.put o.dst v) w → Q (.panic c) a w := by exact fun _ _ _ h => h) (hB : (covers E o N && (wants E ops o == some true)) = true := by kernel_rfl) : Head P .any ops Q S n g (f + 1) listed a w := hd_val v ha hi hR hQ hB hr hS h
theorem yk {n g f i : Nat} {listed : Array Bool} (v : Value) (ha : Has a N E) (hS : S w)
    (h : ∀ a, Has a N (putE E o.dst v) → Head P .any ops Q S n g f (listed.setIfInBounds i true) a w) (hi : ops[i]? = some o := by rfl)
    (hR : (Region.noSelect ops && decide (n < ops.size) && Region.sinkB .any ops n && Region.chainB .any ops n && decide (i < n) && Region.free .any ops listed i && (Region.ready .any ops listed).contains i) = true := by kernel_rfl)
    (hQ : ∀ c a w, Q (.panic c) (a.put o.dst v) w → Q (.panic c) a w := by exact fun _ _ _ h => h) (hB : (covers E o N && (wants E ops o == some true)) = true := by kernel_rfl)
    (hr : ∀ w, S w → (execOp (evalE E) o).run P w = .ok (.value v) w := by intro _ _; kernel_rfl) : Head P .any ops Q S n g (f + 1) listed a w := hd_val v ha hi hR hQ hB hr hS h
theorem yp {n g f i : Nat} {listed : Array Bool} (ha : Has a N E) (hS : S w)
    (h : ∀ a, Has a N (putE E o.dst undef) → Head P .any ops Q S n g f (listed.setIfInBounds i true) a w) (hi : ops[i]? = some o := by rfl)
    (hR : (Region.noSelect ops && decide (n < ops.size) && Region.sinkB .any ops n && Region.chainB .any ops n && decide (i < n) && Region.free .any ops listed i && (Region.ready .any ops listed).contains i) = true := by kernel_rfl)
    (hQ : ∀ c a w, Q (.panic c) (a.put o.dst undef) w → Q (.panic c) a w := by exact fun _ _ _ h => h) (hB : (covers E { o with op := .alloc 0 } N && (wants E ops o == some false)) = true := by kernel_rfl) : Head P .any ops Q S n g (f + 1) listed a w := hd_pass ha hi hR hQ hB hS h
/-- The same, one behind the other: what came ahead stands as 'for every state'. -/
theorem zzv (v : Value) (h : ∀ a, Has a N (putE E o.dst v) → wpList P ops Q rest a w) (hB : (covers E o N && (wants E ops o == some true)) = true := by kernel_rfl) (hr : (execOp (evalE E) o).run P w = .ok (.value v) w := by kernel_rfl) : ∀ a, Has a N E → wpList P ops Q (o :: rest) a w := fun a ha => st_val v ha hB hr h
theorem zzw (v : Value) (hr : (execOp (evalE E) o).run P w = .ok (.value v) w) (h : ∀ a, Has a N (putE E o.dst v) → wpList P ops Q rest a w) (hB : (covers E o N && (wants E ops o == some true)) = true := by kernel_rfl) : ∀ a, Has a N E → wpList P ops Q (o :: rest) a w := fun a ha => st_val v ha hB hr h
theorem zzp (h : ∀ a, Has a N (putE E o.dst undef) → wpList P ops Q rest a w) (hB : (covers E { o with op := .alloc 0 } N && (wants E ops o == some false)) = true := by kernel_rfl) : ∀ a, Has a N E → wpList P ops Q (o :: rest) a w := fun a ha => st_pass ha hB h
theorem yyv {n g f i : Nat} {listed : Array Bool} (v : Value) (hr : ∀ w, S w → (execOp (evalE E) o).run P w = .ok (.value v) w) (hS : S w)
    (h : ∀ a, Has a N (putE E o.dst v) → Head P .any ops Q S n g f (listed.setIfInBounds i true) a w) (hi : ops[i]? = some o := by rfl)
    (hR : (Region.noSelect ops && decide (n < ops.size) && Region.sinkB .any ops n && Region.chainB .any ops n && decide (i < n) && Region.free .any ops listed i && (Region.ready .any ops listed).contains i) = true := by kernel_rfl)
    (hQ : ∀ c a w, Q (.panic c) (a.put o.dst v) w → Q (.panic c) a w := by exact fun _ _ _ h => h) (hB : (covers E o N && (wants E ops o == some true)) = true := by kernel_rfl) : ∀ a, Has a N E → Head P .any ops Q S n g (f + 1) listed a w := fun a ha => hd_val v ha hi hR hQ hB hr hS h
theorem yyk {n g f i : Nat} {listed : Array Bool} (v : Value) (hS : S w)
    (h : ∀ a, Has a N (putE E o.dst v) → Head P .any ops Q S n g f (listed.setIfInBounds i true) a w) (hi : ops[i]? = some o := by rfl)
    (hR : (Region.noSelect ops && decide (n < ops.size) && Region.sinkB .any ops n && Region.chainB .any ops n && decide (i < n) && Region.free .any ops listed i && (Region.ready .any ops listed).contains i) = true := by kernel_rfl)
    (hQ : ∀ c a w, Q (.panic c) (a.put o.dst v) w → Q (.panic c) a w := by exact fun _ _ _ h => h) (hB : (covers E o N && (wants E ops o == some true)) = true := by kernel_rfl)
    (hr : ∀ w, S w → (execOp (evalE E) o).run P w = .ok (.value v) w := by intro _ _; kernel_rfl) : ∀ a, Has a N E → Head P .any ops Q S n g (f + 1) listed a w := fun a ha => hd_val v ha hi hR hQ hB hr hS h
theorem yyp {n g f i : Nat} {listed : Array Bool} (hS : S w)
    (h : ∀ a, Has a N (putE E o.dst undef) → Head P .any ops Q S n g f (listed.setIfInBounds i true) a w) (hi : ops[i]? = some o := by rfl)
    (hR : (Region.noSelect ops && decide (n < ops.size) && Region.sinkB .any ops n && Region.chainB .any ops n && decide (i < n) && Region.free .any ops listed i && (Region.ready .any ops listed).contains i) = true := by kernel_rfl)
    (hQ : ∀ c a w, Q (.panic c) (a.put o.dst undef) w → Q (.panic c) a w := by exact fun _ _ _ h => h) (hB : (covers E { o with op := .alloc 0 } N && (wants E ops o == some false)) = true := by kernel_rfl) : ∀ a, Has a N E → Head P .any ops Q S n g (f + 1) listed a w := fun a ha => hd_pass ha hi hR hQ hB hS h
theorem zn2 {x : Act → World → Prop} (h : x a w) : wpList P ops (Exit.then x Q) [] a w := wpList_nil (then_normal h)
theorem zn3 {id : Nat} {l : List Oper} (h : wpList P l.toArray Q2 l a w) : wpList P ops (Exit.then ((Code.region id l.toArray false).wp P Q2) Q) [] a w := wpList_nil (then_normal (wp_region_lit h))
theorem zn4 {id : Nat} {l : List Oper} {y : Code} (h : wpList P l.toArray (Exit.then (y.wp P Q2) Q2) l a w) : wpList P ops (Exit.then ((Code.seq (Code.region id l.toArray false) y).wp P Q2) Q) [] a w := wpList_nil (then_normal (wp_seq (wp_region_lit h)))
theorem zn1 {id : Nat} {l : List Oper} {y : Code} (h : wpList P l.toArray (Exit.then (y.wp P Q) Q) l a w) : (Code.seq (Code.region id l.toArray false) y).wp P Q a w := wp_seq (wp_region_lit h)
end
end Go.Proofs.YtagbmfdheppmoaaGreatDoor.Sep
