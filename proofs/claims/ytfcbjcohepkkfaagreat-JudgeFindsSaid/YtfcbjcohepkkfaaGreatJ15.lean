import Derived.Test.YtfcbjcohepkkfaaGreatJ14
import Derived.Test.YtfcbjcohepkkfaaGreatSepY
namespace Go.Proofs.YtfcbjcohepkkfaaGreat.B
open Go.RowKit Go.Maps Go.Sort Go.Shelf Go.Proofs.YtfcbjcohepkkfaaGreat.Sep Go.Proofs.YtfcbjcohepkkfaaGreat.P
set_option linter.unusedVariables false
set_option linter.unusedSimpArgs false
/-! ### lists that are written out -/
theorem Knows.own {L : List Chunk} {j e k n c : Nat} {A : Option Addr} {cs : List Value} (h : L[j]? = some (Own e k A n c cs)) : Knows L fun w => Reads w k A n cs := fun w s => Own.reads (Sat.perm s (perm_at h))
def isOrdB (T : List Tn) (o : List Nat) : Bool := decide (o.Perm (List.range T.length)) && decide (o.Pairwise fun i k => less (tAt T i) (tAt T k))
theorem isOrdB_iff {T : List Tn} {o : List Nat} (h : isOrdB T o = true) : IsOrd T o := by
 simp only [isOrdB, Bool.and_eq_true, decide_eq_true_eq] at h
 exact h
theorem lit_rule {l : List Ev} {well : Bool} {r b : Nat} (h : findL (startL l) l 0 = some (r, b)) : ∀ o, (code (tnsP (ordL (txsL l) l)) = 0 → well = true → findL (startL l) l 0 = none → IsOrd (tnsP (ordL (txsL l) l)) o) → resF l well o = (r, b) := fun o _ => resF_rule h well o
theorem lit_not {l : List Ev} (h : findL (startL l) l 0 = none) : ∀ o, (code (tnsP (ordL (txsL l) l)) = 0 → false = true → findL (startL l) l 0 = none → IsOrd (tnsP (ordL (txsL l) l)) o) → resF l false o = (0, 0) := fun o _ => resF_not h o
theorem lit_well {l : List Ev} {r b : Nat} (o0 : List Nat) (h0 : code (tnsP (ordL (txsL l) l)) = 0) (hf : findL (startL l) l 0 = none) (ho : isOrdB (tnsP (ordL (txsL l) l)) o0 = true) (h : resF l true o0 = (r, b)) : ∀ o, (code (tnsP (ordL (txsL l) l)) = 0 → true = true → findL (startL l) l 0 = none → IsOrd (tnsP (ordL (txsL l) l)) o) → resF l true o = (r, b) := by
 intro o h1
 rw [(h1 h0 rfl hf).unique (isOrdB_iff ho)]
 exact h

set_option maxRecDepth 100000 in
set_option maxHeartbeats 4000000 in
theorem works_true (W : World) (hW : W.drawn = 0) (L : List Chunk) (w : World) (s : St W L w) :
  Calls Tryz.prog 4 #[] w fun e w' => e = .returned (.bool true) ∧ St W L w' := by
 refine enter_args (l := []) Tryz.func4 rfl rfl (Nat.le_of_ble_eq_true rfl) ?_
 intro a ha; replace ha : Has a 29 [] := ha
 refine zn1 ?_
 refine zv (.bool false) ha ?_; clear ha; intro a ha
 refine zn4 ?_
 refine zzc ha (good_any W _ w s) ?_
 rintro _ w ⟨A1, rfl, s⟩
 refine ⟨_, rfl, ?_⟩; clear ha; intro a ha
 refine zv (.slice A1 10 10) ha ?_; clear ha; intro a ha
 refine zn4 ?_
 refine zv (.slice A1 10 10) ha ?_; clear ha; intro a ha
 refine zzc ha (finds_true W hW _ w A1 10 goodL (Knows.own (j := 0) rfl) (by kernel_rfl) (by decide) true 0 0 (lit_well [0, 1] (by kernel_rfl) (by kernel_rfl) (by kernel_rfl) (by kernel_rfl)) s) ?_
 rintro _ w ⟨rfl, s⟩
 refine ⟨_, rfl, ?_⟩; clear ha; intro a ha
 refine zv (.bool true) ha ?_
 refine zzv (.slice A1 10 10) ?_; clear ha; intro a ha
 refine zzc ha (done_any W _ w 2 1 [97] [121] s) ?_
 rintro _ w ⟨rfl, s⟩
 refine ⟨_, rfl, ?_⟩; clear ha; intro a ha
 refine zzc ha (with_any W _ w A1 10 goodL (Knows.own (j := 0) rfl) (by decide) 7 (by decide) ⟨0, 3, 1, 2, 0, 1, [97], [121], [], [], true, [], none, 0, 0, 0, 0, 0⟩ s) ?_
 rintro _ w ⟨A2, c3, rfl, s⟩
 refine ⟨_, rfl, ?_⟩; clear ha; intro a ha
 refine zzc ha (finds_true W hW _ w A2 c3 (goodL.set 7 ⟨0, 3, 1, 2, 0, 1, [97], [121], [], [], true, [], none, 0, 0, 0, 0, 0⟩) (Knows.own (j := 0) rfl) (by kernel_rfl) (by decide) true 7 7 (lit_well [0, 1] (by kernel_rfl) (by kernel_rfl) (by kernel_rfl) (by kernel_rfl)) s) ?_
 rintro _ w ⟨rfl, s⟩
 refine ⟨_, rfl, ?_⟩; clear ha; intro a ha
 refine zv (.bool true) ha ?_
 refine zzv (.bool true) ?_
 refine zzv (.slice A1 10 10) ?_; clear ha; intro a ha
 refine zzc ha (done_any W _ w 2 1 [97] [121] s) ?_
 rintro _ w ⟨rfl, s⟩
 refine ⟨_, rfl, ?_⟩; clear ha; intro a ha
 refine zzc ha (with_any W _ w A1 10 goodL (Knows.own (j := 1) rfl) (by decide) 7 (by decide) ⟨0, 3, 1, 2, 0, 1, [97], [121], [], [], true, [], none, 0, 0, 0, 0, 0⟩ s) ?_
 rintro _ w ⟨A4, c5, rfl, s⟩
 refine ⟨_, rfl, ?_⟩; clear ha; intro a ha
 refine zzc ha (finds_true W hW _ w A4 c5 (goodL.set 7 ⟨0, 3, 1, 2, 0, 1, [97], [121], [], [], true, [], none, 0, 0, 0, 0, 0⟩) (Knows.own (j := 0) rfl) (by kernel_rfl) (by decide) false 0 0 (lit_not (by kernel_rfl)) s) ?_
 rintro _ w ⟨rfl, s⟩
 refine ⟨_, rfl, ?_⟩; clear ha; intro a ha
 refine zv (.bool true) ha ?_
 refine zzv (.bool true) ?_
 refine zzv (.slice A1 10 10) ?_
 refine zzw (.slice (slA A1 1 10 16) (10 - 1) (10 - 1)) (run_slice (n := 10) (c := 10) 1 10 10 rfl Tryz.underlying22 Tryz.sizeOf37 (by kernel_rfl) (fun h => by cases h) bnd_none bnd_none (bnd_some .i64 (by kernel_rfl)) (by omega) (by omega) (by omega) _) ?_; clear ha; intro a ha
 refine zzc ha (finds_true W hW _ w (slA A1 1 10 16) (10 - 1) ((goodL).drop 1) (fun w s => reads_evs_drop (c := 10) (Knows.own (j := 2) rfl w s) (by decide) (by decide)) (by kernel_rfl) (by decide) true 4 0 (lit_rule (by kernel_rfl)) s) ?_
 rintro _ w ⟨rfl, s⟩
 refine ⟨_, rfl, ?_⟩; clear ha; intro a ha
 refine zv (.bool true) ha ?_
 refine zzv (.bool true) ?_
 refine zzv (.slice A1 10 10) ?_
 refine zzv (.agg (evv ⟨0, 4, 1, 1, 0, 0, [], [], [], [], false, [], none, 0, 0, 0, 0, 4⟩).toArray) ?_; clear ha; intro a ha
 refine zze ha (ex_buildSlice elt22 _ zs22 (evv ⟨0, 4, 1, 1, 0, 0, [], [], [], [], false, [], none, 0, 0, 0, 0, 4⟩) s rfl (by kernel_rfl) (by decide)) ?_
 clear ha; rintro _ w a ⟨g6, rfl, s⟩ ha
 refine zze ha (ex_append (m := 1) (d' := 1) elt22 (by decide) 3 (evv ⟨0, 4, 1, 1, 0, 0, [], [], [], [], false, [], none, 0, 0, 0, 0, 4⟩) s rfl (by kernel_rfl) (by kernel_rfl) rfl (reads_blk (s.blkIs 0 rfl) rfl) (by simp [evv, txv, Value.oneCell']) (by simp only [maxLen]; omega) (by omega)) ?_
 clear ha; rintro _ w a ⟨A7, c8, rfl, hA_, s⟩ ha
 rw [show (evv ⟨0, 4, 1, 1, 0, 0, [], [], [], [], false, [], none, 0, 0, 0, 0, 4⟩) = evs [⟨0, 4, 1, 1, 0, 0, [], [], [], [], false, [], none, 0, 0, 0, 0, 4⟩] from by kernel_rfl, ← evs_append] at s
 refine zzc ha (finds_true W hW _ w A7 c8 (goodL ++ [⟨0, 4, 1, 1, 0, 0, [], [], [], [], false, [], none, 0, 0, 0, 0, 4⟩]) (Knows.own (j := 3) rfl) (by kernel_rfl) (by decide) false 6 10 (lit_rule (by kernel_rfl)) s) ?_
 rintro _ w ⟨rfl, s⟩
 refine ⟨_, rfl, ?_⟩; clear ha; intro a ha
 refine zv (.bool true) ha ?_
 refine zzv (.bool true) ?_; clear ha; intro a ha
 refine zn2 ?_
 refine wp_ret ?_
 refine zzr (v := .bool true) ha ?_
 replace s := s.tail.tail.tail.tail
 replace s : St W (L) w := s
 exact ⟨rfl, s⟩

end Go.Proofs.YtfcbjcohepkkfaaGreat.B
