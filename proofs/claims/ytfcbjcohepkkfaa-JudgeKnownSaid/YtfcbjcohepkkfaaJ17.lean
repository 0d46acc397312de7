import Derived.Test.YtfcbjcohepkkfaaJ15
import Derived.Test.YtfcbjcohepkkfaaSepF
namespace Go.Proofs.Ytfcbjcohepkkfaa.B
open Go.RowKit Go.Maps Go.Sort Go.Shelf Go.Proofs.Ytfcbjcohepkkfaa.Sep Go.Proofs.Ytfcbjcohepkkfaa.P
set_option linter.unusedVariables false
set_option linter.unusedSimpArgs false
/-! ### JudgeKnown -/
theorem evv_one (x : Ev) : ∀ u ∈ evv x, u.oneCell' = true := fun u hu => evs_one [x] u (by simpa [evs] using hu)
theorem reads_evs_tk {w : World} {A : Option Addr} (es : List Ev) (h n : Nat) (hr : Reads w 16 A n (evs es)) (hn : es.length = n) (hh : h ≤ n) : Reads w 16 A h (evs (es.take h)) := by
  have := Reads.take hr hh
  have e : (es.flatMap evv).take (h * 16) = (es.take h).flatMap evv := flatMap_take (f := evv) (n := 16) (fun x => rfl) es h (by omega)
  unfold evs at this ⊢
  rwa [e] at this
theorem Knows.forkedOld {L : List Chunk} {j e k n c n' c' : Nat} {A A' : Option Addr} {cs news : List Value} (h : L[j]? = some (Forked e k A n c cs A' n' c' news)) : Knows L fun w => Reads w k A n cs := fun w s => Forked.old (Sat.perm s (perm_at h))
theorem Knows.forkedNew {L : List Chunk} {j e n c n' c' : Nat} {A A' : Option Addr} {X lit : List Ev} (h : L[j]? = some (Forked e 16 A n c (evs X) A' n' c' (evs lit))) : Knows L fun w => Reads w 16 A' n' (evs (X ++ lit)) := fun w s => by
  rw [evs_append]
  exact Forked.new (Sat.perm s (perm_at h))

theorem e_any (W : World) (L : List Chunk) (w : World) (gl : Nat) (A : Option Addr) (x : Ev) (s : St W (Chunk.blk gl [.slice A 10 10] 22 :: Own 36 16 A 10 10 (evs goodL) :: L) w) :
    Calls Try.prog 9 #[.agg (evv x).toArray, .pointer (some ⟨gl, 0, none⟩)] w fun e w' => ∃ A2 c2, e = .returned (.slice A2 11 c2) ∧ St W (Own 36 16 A2 11 c2 (evs (goodL ++ [x])) :: Chunk.blk gl [.slice A 10 10] 22 :: Own 36 16 A 10 10 (evs goodL) :: L) w' := by
  refine enter_args (l := [.agg (evv x).toArray, .pointer (some ⟨gl, 0, none⟩)]) Try.func9 rfl rfl (Nat.le_of_ble_eq_true rfl) ?_
  intro a ha; replace ha : Has a 9 [(0, .agg (evv x).toArray), (1, .pointer (some ⟨gl, 0, none⟩))] := ha
  refine wp_seq ?_
  refine wp_region_lit ?_
  refine st_ex ha (by kernel_rfl) (ex_box (evv x) s rfl (by kernel_rfl)) ?_
  clear ha; rintro _ w a ⟨g1, rfl, s⟩ ha
  refine st_val (.slice none 0 0) ha (by kernel_rfl) (by kernel_rfl) ?_
  clear ha; intro a ha
  refine wpList_nil ?_
  refine then_normal ?_
  refine wp_seq ?_
  replace s := Own.none_ (e := 36) (k := 16) none s
  replace s : St W (Own 36 16 none 0 0 [] :: .blk g1 (evv x) 36 :: .blk gl [.slice A 10 10] 22 :: Own 36 16 A 10 10 (evs goodL) :: L) w := s
  refine wp_region_head 4 (fun w => BlkIs gl [.slice A 10 10] w ∧ BlkIs g1 (evv x) w ∧ True) (by kernel_rfl) (by decide) ?_
  replace s := s.drew; generalize _root_.Go.World.drew _ = w at s ⊢
  have hS : (fun w => BlkIs gl [.slice A 10 10] w ∧ BlkIs g1 (evv x) w ∧ True) w := ⟨s.blkIs 2 rfl, s.blkIs 1 rfl, trivial⟩
  refine hd_val (i := 0) (.slice A 10 10) ha rfl (by kernel_rfl) (fun _ _ _ h => h) (by kernel_rfl) (fun w hS => run_load1 (of_ := 0) hS.1 rfl (by kernel_rfl) Try.isAgg22 rfl) hS ?_
  clear ha; intro a ha
  refine hd_val (i := 2) (.agg (evv x).toArray) ha rfl (by kernel_rfl) (fun _ _ _ h => h) (by kernel_rfl) (fun w hS => run_loadN (of_ := 0) (evv x) hS.2.1 rfl (by kernel_rfl) Try.isAgg36 Try.sizeOf36 rfl (Nat.le_of_ble_eq_true rfl)) hS ?_
  clear ha; intro a ha
  refine Head.two (i := 1) (j := 3) (by kernel_rfl) ?_ ?_
  · skip
    refine hat_ex (i := 1) ha rfl (by kernel_rfl) (ex_append (m := 10) (d' := 10) elt22 (by decide) 0 (evs goodL) s rfl (by kernel_rfl) (by kernel_rfl) rfl (Own.reads (s.at_ (j := 3) rfl).1) (evs_one _) (by simp only [maxLen]; omega) (by omega)) ?_
    clear hS; rintro _ w ⟨A2, c3, rfl, hA_, s⟩
    rw [List.nil_append] at s
    replace s : St W (Own 36 16 A2 10 c3 (evs goodL) :: .blk g1 (evv x) 36 :: .blk gl [.slice A 10 10] 22 :: Own 36 16 A 10 10 (evs goodL) :: L) w := s
    replace s : St W (Own 36 16 A2 10 c3 (evs goodL) :: .blk g1 (evv x) 36 :: .blk gl [.slice A 10 10] 22 :: Own 36 16 A 10 10 (evs goodL) :: L) w := s
    have hS : (fun w => BlkIs gl [.slice A 10 10] w ∧ BlkIs g1 (evv x) w ∧ True) w := ⟨s.blkIs 2 rfl, s.blkIs 1 rfl, trivial⟩
    refine ⟨hS, ?_⟩; clear ha; intro a ha
    refine hd_ex (i := 3) ha rfl (by kernel_rfl) (by kernel_rfl) (ex_buildSlice elt22 _ zs22 (evv x) s rfl (by kernel_rfl) (by decide)) ?_
    clear hS; rintro _ w ⟨g4, rfl, s⟩
    have hS : (fun w => BlkIs gl [.slice A 10 10] w ∧ BlkIs g1 (evv x) w ∧ True) w := ⟨s.blkIs 3 rfl, s.blkIs 2 rfl, trivial⟩
    refine ⟨hS, ?_⟩; clear ha; intro a ha
    refine Head.done (by kernel_rfl) ?_
    clear hS; simp only [List.drop_succ_cons, List.drop_zero]
    refine st_ex ha (by kernel_rfl) (ex_append (m := 1) (d' := 1) elt22 (by decide) 1 (evv x) s rfl (by kernel_rfl) (by kernel_rfl) rfl (reads_blk (s.blkIs 0 rfl) rfl) (by simp [evv, txv, Value.oneCell']) (by simp only [maxLen]; omega) (by omega)) ?_
    clear ha; rintro _ w a ⟨A5, c6, rfl, hA_, s⟩ ha
    rw [show evs goodL ++ (evv x) = evs (goodL ++ [x]) from evs_snoc goodL x] at s
    replace s : St W (.blk g4 (evv x) 36 :: Own 36 16 A5 11 c6 (evs (goodL ++ [x])) :: .blk g1 (evv x) 36 :: .blk gl [.slice A 10 10] 22 :: Own 36 16 A 10 10 (evs goodL) :: L) w := s
    replace s : St W (.blk g4 (evv x) 36 :: Own 36 16 A5 11 c6 (evs (goodL ++ [x])) :: .blk g1 (evv x) 36 :: .blk gl [.slice A 10 10] 22 :: Own 36 16 A 10 10 (evs goodL) :: L) w := s
    refine st_val (.slice A5 11 c6) ha (by kernel_rfl) (by kernel_rfl) ?_
    clear ha; intro a ha
    refine wpList_nil ?_
    refine then_normal ?_
    refine wp_ret ?_
    refine ret_with (v := .slice A5 11 c6) ha (results_1 rfl ha (res_tmp (by kernel_rfl) (by kernel_rfl))) ?_
    replace s := ((s.at_ (j := 4) rfl).at_ (j := 4) rfl).at_ (j := 3) rfl
    replace s : St W (Own 36 16 A5 11 c6 (evs (goodL ++ [x])) :: .blk gl [.slice A 10 10] 22 :: Own 36 16 A 10 10 (evs goodL) :: L) w := s.keep 3 2
    exact ⟨_, _, rfl, s⟩
  · skip
    refine hat_ex (i := 3) ha rfl (by kernel_rfl) (ex_buildSlice elt22 _ zs22 (evv x) s rfl (by kernel_rfl) (by decide)) ?_
    clear hS; rintro _ w ⟨g7, rfl, s⟩
    have hS : (fun w => BlkIs gl [.slice A 10 10] w ∧ BlkIs g1 (evv x) w ∧ True) w := ⟨s.blkIs 3 rfl, s.blkIs 2 rfl, trivial⟩
    refine ⟨hS, ?_⟩; clear ha; intro a ha
    refine hd_ex (i := 1) ha rfl (by kernel_rfl) (by kernel_rfl) (ex_append (m := 10) (d' := 10) elt22 (by decide) 1 (evs goodL) s rfl (by kernel_rfl) (by kernel_rfl) rfl (Own.reads (s.at_ (j := 4) rfl).1) (evs_one _) (by simp only [maxLen]; omega) (by omega)) ?_
    clear hS; rintro _ w ⟨A8, c9, rfl, hA_, s⟩
    rw [List.nil_append] at s
    replace s : St W (.blk g7 (evv x) 36 :: Own 36 16 A8 10 c9 (evs goodL) :: .blk g1 (evv x) 36 :: .blk gl [.slice A 10 10] 22 :: Own 36 16 A 10 10 (evs goodL) :: L) w := s
    replace s : St W (.blk g7 (evv x) 36 :: Own 36 16 A8 10 c9 (evs goodL) :: .blk g1 (evv x) 36 :: .blk gl [.slice A 10 10] 22 :: Own 36 16 A 10 10 (evs goodL) :: L) w := s
    have hS : (fun w => BlkIs gl [.slice A 10 10] w ∧ BlkIs g1 (evv x) w ∧ True) w := ⟨s.blkIs 3 rfl, s.blkIs 2 rfl, trivial⟩
    refine ⟨hS, ?_⟩; clear ha; intro a ha
    refine Head.done (by kernel_rfl) ?_
    clear hS; simp only [List.drop_succ_cons, List.drop_zero]
    refine st_ex ha (by kernel_rfl) (ex_append (m := 1) (d' := 1) elt22 (by decide) 1 (evv x) s rfl (by kernel_rfl) (by kernel_rfl) rfl (reads_blk (s.blkIs 0 rfl) rfl) (by simp [evv, txv, Value.oneCell']) (by simp only [maxLen]; omega) (by omega)) ?_
    clear ha; rintro _ w a ⟨A10, c11, rfl, hA_, s⟩ ha
    rw [show evs goodL ++ (evv x) = evs (goodL ++ [x]) from evs_snoc goodL x] at s
    replace s : St W (.blk g7 (evv x) 36 :: Own 36 16 A10 11 c11 (evs (goodL ++ [x])) :: .blk g1 (evv x) 36 :: .blk gl [.slice A 10 10] 22 :: Own 36 16 A 10 10 (evs goodL) :: L) w := s
    replace s : St W (.blk g7 (evv x) 36 :: Own 36 16 A10 11 c11 (evs (goodL ++ [x])) :: .blk g1 (evv x) 36 :: .blk gl [.slice A 10 10] 22 :: Own 36 16 A 10 10 (evs goodL) :: L) w := s
    refine st_val (.slice A10 11 c11) ha (by kernel_rfl) (by kernel_rfl) ?_
    clear ha; intro a ha
    refine wpList_nil ?_
    refine then_normal ?_
    refine wp_ret ?_
    refine ret_with (v := .slice A10 11 c11) ha (results_1 rfl ha (res_tmp (by kernel_rfl) (by kernel_rfl))) ?_
    replace s := ((s.at_ (j := 4) rfl).at_ (j := 4) rfl).at_ (j := 3) rfl
    replace s : St W (Own 36 16 A10 11 c11 (evs (goodL ++ [x])) :: .blk gl [.slice A 10 10] 22 :: Own 36 16 A 10 10 (evs goodL) :: L) w := s.keep 3 2
    exact ⟨_, _, rfl, s⟩

end Go.Proofs.Ytfcbjcohepkkfaa.B
