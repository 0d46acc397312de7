import Derived.Test.YtfcbjcohepkkfaaGreatB7
import Derived.Test.YtfcbjcohepkkfaaGreatSepY
/-
 What was seen: events, what a transaction's state is, the rules 1 to 6, one event behind the other. No program in sight.
-/
namespace Go.Proofs.YtfcbjcohepkkfaaGreat.P
open Go.Proofs.YtfcbjcohepkkfaaGreat.B
set_option linter.unusedVariables false
/-- An event; A, c: where its rows lie. -/
structure Ev where
 ti : Int
 kind : Int
 node : Int
 id : Int
 epoch : Int
 op : Int
 key : K
 val : K
 frm : K
 to : K
 is : Bool
 rows : List Rw
 A : Option Addr
 c : Nat
 wall : Int
 logic : Int
 err : Int
 status : Int
def Ev.zero : Ev := ⟨0, 0, 0, 0, 0, 0, [], [], [], [], false, [], none, 0, 0, 0, 0, 0⟩
/-- What is known of a transaction. -/
structure Tx where
 node : Int
 stand : Int
 began : Bool
 ask : Ev
 comm : Bool
 abrt : Bool
 epoch : Int
 wall : Int
 logic : Int
def Tx.zero : Tx := ⟨0, 0, false, Ev.zero, false, false, 0, 0, 0⟩
def hasB (x : Ev) : Bool := decide (x.kind ≥ 1) && decide (x.kind ≤ 4)
def comB (x : Ev) : Bool := (x.kind == 3 && x.op == 6 && x.err == 0) || (x.kind == 4 && x.status == 3)
def abrB (x : Ev) : Bool := (x.kind == 3 && ((x.op == 7 && x.err == 0) || x.err == 200)) || (x.kind == 4 && x.status == 4)
def mayB (ti : Int) (x : Ev) : Bool :=
 if x.kind < 1 ∨ 6 < x.kind ∨ x.ti < ti ∨ x.node < 1 ∨ 4 < x.node then false
 else if hasB x = false then true
 else if x.id < 1 ∨ 9007199254740991 < x.id ∨ x.epoch < 0 ∨ 9007199254740991 < x.epoch ∨ codeS x.wall x.logic ≠ 0 then false
 else if x.kind = 2 ∨ x.kind = 3 then decide (x.op ≥ 1) && decide (x.op ≤ 7)
 else if x.kind = 4 then decide (x.status ≥ 0) && decide (x.status ≤ 4)
 else true
def nodesB (dn : Int → Bool) (x : Ev) : Bool := if x.kind = 6 then dn x.node else if x.kind = 4 then true else !dn x.node
def beginsB (most : Int) (x : Ev) : Bool := (x.kind != 1) || x.id == most + 1
def asksB (t : Tx) (x : Ev) : Bool := (x.kind != 2) || (t.began && t.node == x.node && t.stand == 0)
def answersB (t : Tx) (x : Ev) : Bool :=
 (x.kind != 3) || (t.stand == 1 && t.ask.node == x.node && t.ask.op == x.op && decide (t.ask.key = x.key) && decide ((t.ask.frm, t.ask.to) = (x.frm, x.to)) && decide (x.epoch ≥ t.ask.epoch))
def agreesB (t : Tx) (x : Ev) : Bool :=
 if hasB x = false then true
 else if comB x then !t.abrt && (!t.comm || (t.epoch == x.epoch && decide ((t.wall, t.logic) = (x.wall, x.logic))))
 else if abrB x then !t.comm else true
def endTx (x : Ev) (t : Tx) : Tx :=
 if comB x then { t with comm := true, abrt := false, epoch := x.epoch, wall := x.wall, logic := x.logic } else if abrB x then { t with abrt := true } else t
def ownTx (x : Ev) (t : Tx) : Tx :=
 if x.kind = 1 then { t with began := true, node := x.node } else if x.kind = 2 then { t with ask := x, stand := 1 }
 else if x.kind = 3 then { t with stand := if x.err = 0 ∧ x.op ≥ 6 then 3 else 0 } else t
def stepTx (x : Ev) (i : Int) (t : Tx) : Tx :=
 if x.kind = 5 then (if t.node = x.node then { t with stand := 2 } else t)
 else if x.kind = 6 then t
 else if i = x.id then endTx x (ownTx x t) else t
structure Look where
 ti : Int
 most : Int
 dn : Int → Bool
 tx : Int → Tx
def seeL (k : Look) (x : Ev) : Look :=
 ⟨x.ti, if x.kind = 1 then x.id else k.most, fun n => if x.kind = 5 ∧ n = x.node then true else if x.kind = 6 ∧ n = x.node then false else k.dn n, fun i => stepTx x i (k.tx i)⟩
/-- The first rule that an event breaks; 0: none. -/
def ruleL (k : Look) (x : Ev) : Nat :=
 if mayB k.ti x = false then 1 else if nodesB k.dn x = false then 2 else if beginsB k.most x = false then 3
 else if asksB (k.tx x.id) x = false then 4 else if answersB (k.tx x.id) x = false then 5 else if agreesB (k.tx x.id) x = false then 6 else 0
def findL : Look → List Ev → Nat → Option (Nat × Nat)
 | _, [], _ => none
 | k, x :: l, i => if ruleL k x = 0 then findL (seeL k x) l (i + 1) else some (ruleL k x, i)
def startL (l : List Ev) : Look := ⟨(l.head?.map (·.ti)).getD 0, 0, fun _ => false, fun _ => Tx.zero⟩
theorem findL_append (k : Look) (l m : List Ev) (i : Nat) : findL k (l ++ m) i = (findL k l i).or (findL (l.foldl seeL k) m (i + l.length)) := by
 induction l generalizing k i with
 | nil => simp [findL]
 | cons x l ih =>
  simp only [List.cons_append, findL]
  split
  ·
   rw [ih]; simp only [List.foldl_cons, List.length_cons]; rw [show i + 1 + l.length = i + (l.length + 1) by omega]
  rfl
end Go.Proofs.YtfcbjcohepkkfaaGreat.P
