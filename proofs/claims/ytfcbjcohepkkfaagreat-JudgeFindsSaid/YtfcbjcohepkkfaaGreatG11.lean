import Derived.Test.YtfcbjcohepkkfaaGreatG10
import Derived.Test.YtfcbjcohepkkfaaGreatSepY
namespace Go.Proofs.YtfcbjcohepkkfaaGreat.B
open Go.RowKit Go.Maps Go.Sort Go.Shelf Go.Proofs.YtfcbjcohepkkfaaGreat.Sep Go.Proofs.YtfcbjcohepkkfaaGreat.P
set_option linter.unusedVariables false
set_option linter.unusedSimpArgs false

theorem finds_law (W : World) (hW : W.drawn = 0) (L : List Chunk) (w : World) (A : Option Addr) (ca : Nat) (l : List Ev) (hr : Knows L (EvsIn A l)) (hn : l.length ≤ ca ∧ l.length ≤ 140737488351232) (hi : ∀ x ∈ l, -9223372036854775808 ≤ x.id ∧ x.id ≤ 9223372036854775807) (hbe : Be l) (well : Bool) (s : St W L w) :
  Calls Tryz.prog 3 #[.slice A l.length ca, .bool well] w fun e w' => e = .returned (.bool true) ∧ St W L w' := by
 refine enter_args (l := [.slice A l.length ca, .bool well]) Tryz.func3 rfl rfl (Nat.le_of_ble_eq_true rfl) ?_
 intro a ha; replace ha : Has a 63 [(0, .slice A l.length ca), (1, .bool well)] := ha
 refine zn1 ?_
 refine zv (.bool false) ha ?_; clear ha; intro a ha
 refine zn2 ?_
 refine wp_seq ?_
 refine zn1 ?_
 refine zv (.slice A l.length ca) ha ?_
 refine zzv (.int .i64 ((l.length : Nat) : Int)) ?_
 refine zzv (.bool (decide (((l.length : Nat) : Int) > (120 : Int)))) ?_; clear ha; intro a ha
 refine zn2 ?_
 refine zzh (decide (((l.length : Nat) : Int) > (120 : Int))) ha ?_ ?_ <;> intro hb
 ·
  rw [hb] at ha; replace hb : (((l.length : Nat) : Int) > (120 : Int)) := of_decide_eq_true hb
  refine wp_seq ?_
  refine zn1 ?_
  refine zv (.slice A l.length ca) ha ?_
  refine zzv (.int .i64 ((l.length : Nat) : Int)) ?_
  refine zzv (.bool (decide (((l.length : Nat) : Int) ≤ (5000 : Int)))) ?_; clear ha; intro a ha
  refine zn2 ?_
  refine zzh (decide (((l.length : Nat) : Int) ≤ (5000 : Int))) ha ?_ ?_ <;> intro hb
  ·
   rw [hb] at ha; replace hb : (((l.length : Nat) : Int) ≤ (5000 : Int)) := of_decide_eq_true hb
   refine zn1 ?_
   refine zzc ha (works_true W hW _ w s) ?_
   rintro _ w ⟨rfl, s⟩
   refine ⟨_, rfl, ?_⟩; clear ha; intro a ha
   refine zv (.bool true) ha ?_; clear ha; intro a ha
   refine zn2 ?_
   refine zzt ?_
   refine then_ret ?_
   refine zzr (v := .bool true) ha ?_
   exact ⟨rfl, s⟩
  rw [hb] at ha; replace hb : ¬ (((l.length : Nat) : Int) ≤ (5000 : Int)) := of_decide_eq_false hb
  refine wp_skip ?_
  refine then_normal ?_
  refine zn1 ?_
  refine zv (.slice A l.length ca) ha ?_
  refine zzv (.bool well) ?_; clear ha; intro a ha
  refine zzc ha (find_limit W _ w A l.length ca (by omega) well s) ?_
  rintro _ w ⟨rfl, s⟩
  refine ⟨_, rfl, ?_⟩; clear ha; intro a ha
  refine zv (.tuple #[.int .i64 0, .int .i64 0, .int .i64 5]) ha ?_
  refine zzv (.int .i64 0) ?_
  refine zzv (.int .i64 0) ?_
  refine zzv (.int .i64 5) ?_
  refine zzv (.int .i64 0) ?_
  refine zzv (.int .i64 0) ?_
  refine zzv (.int .i64 5) ?_; clear ha; intro a ha
  refine zn4 ?_
  refine zv (.int .i64 5) ha ?_
  refine zzv (.bool true) ?_
  refine zzv (.bool true) ?_; clear ha; intro a ha
  refine zzc ha (works_true W hW _ w s) ?_
  rintro _ w ⟨rfl, s⟩
  refine ⟨_, rfl, ?_⟩; clear ha; intro a ha
  refine zv (.bool true) ha ?_
  refine zzv (.bool true) ?_; clear ha; intro a ha
  refine zn2 ?_
  refine zzt ?_
  refine zzr (v := .bool true) ha ?_
  exact ⟨rfl, s⟩
 rw [hb] at ha; replace hb : ¬ (((l.length : Nat) : Int) > (120 : Int)) := of_decide_eq_false hb
 refine wp_skip ?_
 refine then_normal ?_
 refine zn1 ?_
 refine zv (.slice A l.length ca) ha ?_
 refine zzv (.bool well) ?_; clear ha; intro a ha
 refine zzc ha (find_any W hW _ w A ca l (fun w s => hr w s) (by omega) well (fun _ => hi) (fun _ => hbe) s) ?_
 rintro _ w ⟨o1, ho1, rfl, s⟩
 refine ⟨_, rfl, ?_⟩; clear ha; intro a ha
 refine zv (.tuple #[.int .i64 (((resF l well o1).1 : Nat) : Int), .int .i64 (((resF l well o1).2 : Nat) : Int), .int .i64 0]) ha ?_
 refine zzv (.int .i64 (((resF l well o1).1 : Nat) : Int)) ?_
 refine zzv (.int .i64 (((resF l well o1).2 : Nat) : Int)) ?_
 refine zzv (.int .i64 0) ?_
 refine zzv (.int .i64 (((resF l well o1).1 : Nat) : Int)) ?_
 refine zzv (.int .i64 (((resF l well o1).2 : Nat) : Int)) ?_
 refine zzv (.int .i64 0) ?_; clear ha; intro a ha
 refine zn4 ?_
 refine zv (.slice A l.length ca) ha ?_
 refine zzv (.bool well) ?_; clear ha; intro a ha
 refine zzc ha (rfind_any W _ w A ca l (fun w s => hr w s) (by omega) hbe well s) ?_
 rintro _ w ⟨o2, ho2, rfl, s⟩
 have hre : resF l well o1 = resR l well o2 := res_eq ho1 ho2
 refine ⟨_, rfl, ?_⟩; clear ha; intro a ha
 refine zv (.tuple #[.int .i64 (((resR l well o2).1 : Nat) : Int), .int .i64 (((resR l well o2).2 : Nat) : Int), .int .i64 0]) ha ?_
 refine zzv (.int .i64 (((resR l well o2).1 : Nat) : Int)) ?_
 refine zzv (.int .i64 (((resR l well o2).2 : Nat) : Int)) ?_
 refine zzv (.int .i64 0) ?_
 refine zzv (.int .i64 (((resR l well o2).1 : Nat) : Int)) ?_
 refine zzv (.int .i64 (((resR l well o2).2 : Nat) : Int)) ?_
 refine zzv (.int .i64 0) ?_; clear ha; intro a ha
 refine zn4 ?_
 refine zv (.int .i64 (((resF l well o1).1 : Nat) : Int)) ha ?_
 refine zzv (.int .i64 (((resR l well o2).1 : Nat) : Int)) ?_
 refine zzw (.bool true) (run_known (show ((((resF l well o1).1 : Nat) : Int) == (((resR l well o2).1 : Nat) : Int)) = true from by rw [hre]; exact beq_self_eq_true _) (by kernel_rfl)) ?_
 refine zzv (.bool true) ?_
 refine zzv (.int .i64 (((resF l well o1).2 : Nat) : Int)) ?_
 refine zzv (.int .i64 (((resR l well o2).2 : Nat) : Int)) ?_
 refine zzw (.bool true) (run_known (show ((((resF l well o1).2 : Nat) : Int) == (((resR l well o2).2 : Nat) : Int)) = true from by rw [hre]; exact beq_self_eq_true _) (by kernel_rfl)) ?_
 refine zzv (.bool true) ?_
 refine zzv (.bool true) ?_
 refine zzv (.int .i64 0) ?_
 refine zzv (.int .i64 0) ?_
 refine zzv (.bool true) ?_
 refine zzv (.bool true) ?_
 refine zzv (.bool true) ?_; clear ha; intro a ha
 refine zzc ha (works_true W hW _ w s) ?_
 rintro _ w ⟨rfl, s⟩
 refine ⟨_, rfl, ?_⟩; clear ha; intro a ha
 refine zv (.bool true) ha ?_
 refine zzv (.bool true) ?_; clear ha; intro a ha
 refine zn2 ?_
 refine wp_ret ?_
 refine zzr (v := .bool true) ha ?_
 exact ⟨rfl, s⟩

end Go.Proofs.YtfcbjcohepkkfaaGreat.B
