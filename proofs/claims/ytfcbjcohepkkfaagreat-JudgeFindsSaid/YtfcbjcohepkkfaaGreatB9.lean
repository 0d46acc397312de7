import Derived.Test.YtfcbjcohepkkfaaGreatB8
import Derived.Test.YtfcbjcohepkkfaaGreatSepY
namespace Go.Proofs.YtfcbjcohepkkfaaGreat.B
open Go.RowKit Go.Maps Go.Sort Go.Shelf Go.Proofs.YtfcbjcohepkkfaaGreat.Sep Go.Proofs.YtfcbjcohepkkfaaGreat.P
set_option linter.unusedVariables false
set_option linter.unusedSimpArgs false
theorem without_snoc {R : List Rw} {k : Nat} {x : Rw} (h : R[k]? = some x) (f t : K) : without (R.take (k + 1)) f t = without (R.take k) f t ++ (if inS f t x then [] else [x]) := by
 rw [take_snoc h]; unfold without; rw [List.filter_append]; cases e : inS f t x <;> simp [e]
theorem without_le (R : List Rw) (f t : K) : (without R f t).length ≤ R.length := List.length_filter_le _ _
theorem rws_drop (R : List Rw) (k : Nat) (hk : k ≤ R.length) : (rws R).extract (k * 2) (R.length * 2) = rws (R.drop k) := by
 rw [List.extract_eq_take_drop]
 have e : rws R = rws (R.take k) ++ rws (R.drop k) := by rw [← rws_append, List.take_append_drop]
 have l1 : (rws (R.take k)).length = k * 2 := by rw [rws_len, List.length_take, Nat.min_eq_left hk]
 have l2 : (rws (R.drop k)).length = R.length * 2 - k * 2 := by rw [rws_len, List.length_drop]; omega
 rw [e, ← l1, List.drop_left, l1, ← l2, List.take_length]
theorem put_all {R : List Rw} {r : Rw} {k : Nat} (h : ∀ y ∈ R.take k, y.key < r.key) (hk : k = R.length) : put R r = R ++ [r] := by
 subst hk
 rw [List.take_length] at h
 induction R with
 | nil => rfl
 | cons x R ih => unfold put; rw [if_pos (h x (by simp)), ih fun y hy => h y (by simp [hy])]; rfl
theorem put_at : ∀ {R : List Rw} {r x : Rw} {k : Nat}, (∀ y ∈ R.take k, y.key < r.key) → R[k]? = some x → ¬ x.key < r.key → put R r = R.take k ++ r :: (if x.key = r.key then R.drop (k + 1) else R.drop k)
 | [], r, x, k, h, hx, hn => by simp at hx
 | y :: R, r, x, 0, h, hx, hn => by
  simp at hx; subst hx
  unfold put
  rw [if_neg hn]
  split <;> simp
 | y :: R, r, x, k + 1, h, hx, hn => by
  unfold put
  rw [if_pos (h y (by simp)), put_at (k := k) (fun z hz => h z (by simp [hz])) (by simpa using hx) hn]
  simp
theorem results_5 {P : Program} {a : Act} {N : Nat} {E : Env} {fn : Func} {w : World} {r1 r2 r3 r4 r5 : ResultVar} {v1 v2 v3 v4 v5 : Value} (h : fn.results = #[r1, r2, r3, r4, r5]) (ha : Has a N E) (h1 : resIs P E w r1 v1) (h2 : resIs P E w r2 v2) (h3 : resIs P E w r3 v3) (h4 : resIs P E w r4 v4) (h5 : resIs P E w r5 v5) :
  (results fn a.tmps).run P w = .ok (.tuple #[v1, v2, v3, v4, v5]) w := by
 rw [results_eq]
 simp [h, resIs_run ha h1, resIs_run ha h2, resIs_run ha h3, resIs_run ha h4, resIs_run ha h5]

theorem rwithin_any (W : World) (L : List Chunk) (w : World) (A : Option Addr) (ca : Nat) (R : List Rw) (hr : Knows L fun w => Reads w 2 A R.length (rws R)) (hRn : R.length ≤ 1000000) (sf stt : K) (s : St W L w) :
  Calls Tryz.prog 70 #[.slice A R.length ca, .agg #[.string (str sf), .string (str stt)]] w fun e w' => ∃ A c, e = .returned (.slice A (within R sf stt).length c) ∧ St W (Own 115 2 A (within R sf stt).length c (rws (within R sf stt)) :: L) w' := by
 refine enter_args (l := [.slice A R.length ca, .agg #[.string (str sf), .string (str stt)]]) Tryz.func70 rfl rfl (Nat.le_of_ble_eq_true rfl) ?_
 intro a ha; replace ha : Has a 39 [(0, .slice A R.length ca), (1, .agg #[.string (str sf), .string (str stt)])] := ha
 refine zn1 ?_
 refine zze ha (ex_box [.string (str sf), .string (str stt)] s rfl (by kernel_rfl)) ?_
 clear ha; rintro _ w a ⟨g1, rfl, s⟩ ha
 refine zv (.slice none 0 0) ha ?_; clear ha; intro a ha
 refine zn4 ?_
 refine zv (.slice none 0 0) ha ?_; clear ha; intro a ha
 refine zn2 ?_
 refine wp_seq ?_
 refine zn1 ?_
 refine zv (.int .i64 0) ha ?_; clear ha; intro a ha
 refine zn2 ?_
 refine wp_block ?_
 replace s := Own.none_ (e := 115) (k := 2) none s
 refine wp_loopG (G := (Nat × Option Addr × Nat)) (fun ⟨k, B, cb⟩ a w => Has a 39 [(0, .slice A R.length ca), (3, .pointer (some ⟨g1, 0, none⟩)), (5, .slice B ((within (R.take k) sf stt).length) cb), (6, .int .i64 ((k : Nat) : Int))] ∧ St W (Own 115 2 B ((within (R.take k) sf stt).length) cb (rws (within (R.take k) sf stt)) :: .blk g1 [.string (str sf), .string (str stt)] 32 :: L) w ∧ k ≤ R.length) (fun ⟨k, B, cb⟩ => R.length - k) (0, none, 0) ?_ ?_
 ·
  exact ⟨(Has.cons ha (by kernel_rfl) (by kernel_rfl) (Has.cons ha (by kernel_rfl) (by kernel_rfl) (Has.cons ha (by kernel_rfl) (by kernel_rfl) (Has.cons ha (by kernel_rfl) (by kernel_rfl) (Has.nil ha))))), s, Nat.zero_le _⟩
 clear ha s; rintro ⟨k, B, cb⟩ a w ⟨ha, s, hp⟩
 refine wp_seq ?_
 refine zn1 ?_
 refine zv (.int .i64 ((k : Nat) : Int)) ha ?_
 refine zzv (.slice A R.length ca) ?_
 refine zzv (.int .i64 ((R.length : Nat) : Int)) ?_
 refine zzv (.bool (decide (((k : Nat) : Int) < ((R.length : Nat) : Int)))) ?_; clear ha; intro a ha
 refine zn2 ?_
 refine zzh (decide (((k : Nat) : Int) < ((R.length : Nat) : Int))) ha ?_ ?_ <;> intro hb
 ·
  rw [hb] at ha; replace hb : (((k : Nat) : Int) < ((R.length : Nat) : Int)) := of_decide_eq_true hb
  obtain ⟨x, hx⟩ : ∃ x, R[k]? = some x := ⟨_, List.getElem?_eq_getElem (by omega)⟩
  obtain ⟨ad, hA⟩ := Reads.addr (hr _ s.sat.tail.tail) (by omega)
  subst hA
  have hwl := Nat.le_trans (within_le (R.take k) sf stt) (by rw [List.length_take]; exact Nat.min_le_left _ _)
  refine wp_skip ?_
  refine then_normal ?_
  refine wp_seq ?_
  refine wp_block ?_
  refine wp_seq ?_
  refine wp_region_head 16 (fun w => Reads w 2 (some ad) R.length (rws R) ∧ BlkIs g1 [.string (str sf), .string (str stt)] w ∧ True) (by kernel_rfl) (by decide) ?_
  replace s := s.drew; generalize _root_.Go.World.drew _ = w at s ⊢
  have hS : (fun w => Reads w 2 (some ad) R.length (rws R) ∧ BlkIs g1 [.string (str sf), .string (str stt)] w ∧ True) w := ⟨(hr _ s.sat.tail.tail), s.blkIs 1 rfl, trivial⟩
  refine yk (i := 0) (.slice (some ad) R.length ca) ha hS ?_
  refine yyk (i := 1) (.int .i64 ((k : Nat) : Int)) hS ?_
  refine yyv (i := 2) (.pointer (some (ad.add (k * 2)))) (fun w hS => (run_indexAddr' (kd := .i64) (i := ((k : Nat) : Int)) (n := R.length) (c := ca) k rfl Tryz.underlying33 Tryz.sizeOf115 (by kernel_rfl) (by kernel_rfl) rfl (by first | assumption | omega) _)) hS ?_
  refine yyfa (i := 3) (.pointer (some (ad.add (k * 2 + 0)))) 9 hS ?_
  refine yyla (i := 4) (.string (str x.key)) (k * 2 + 0) (fun _ hS => hS.1) (by rw [rws_at hx (by omega)]; rfl) hS ?_
  refine yyk (i := 5) (.pointer (some ⟨g1, 0, none⟩)) hS ?_
  refine yyv (i := 6) (.string (str sf)) (fun w hS => run_load1 (of_ := 0) hS.2.1 rfl (by kernel_rfl) Tryz.isAgg9 rfl) hS ?_
  refine yyv (i := 7) (.bool (decide (sf ≤ x.key))) (fun w hS => (run_sgeq (p := x.key) (q := sf) rfl (by kernel_rfl) (by kernel_rfl) _)) hS ?_
  refine yyk (i := 8) (.bool (decide (sf ≤ x.key))) hS ?_; clear ha; intro a ha
  rcases Bool.eq_false_or_eq_true (decide (sf ≤ x.key)) with hb | hb
  ·
   rw [hb] at ha; replace hb : (sf ≤ x.key) := of_decide_eq_true hb
   refine yk (i := 9) (.slice (some ad) R.length ca) ha hS ?_
   refine yyk (i := 10) (.int .i64 ((k : Nat) : Int)) hS ?_
   refine yyv (i := 11) (.pointer (some (ad.add (k * 2)))) (fun w hS => (run_indexAddr' (kd := .i64) (i := ((k : Nat) : Int)) (n := R.length) (c := ca) k rfl Tryz.underlying33 Tryz.sizeOf115 (by kernel_rfl) (by kernel_rfl) rfl (by first | assumption | omega) _)) hS ?_
   refine yyfa (i := 12) (.pointer (some (ad.add (k * 2 + 0)))) 9 hS ?_
   refine yyla (i := 13) (.string (str x.key)) (k * 2 + 0) (fun _ hS => hS.1) (by rw [rws_at hx (by omega)]; rfl) hS ?_
   refine yyk (i := 14) (.pointer (some ⟨g1, 1, none⟩)) hS ?_
   refine yyv (i := 15) (.string (str stt)) (fun w hS => run_load1 (of_ := 1) hS.2.1 rfl (by kernel_rfl) Tryz.isAgg9 rfl) hS ?_; clear ha; intro a ha
   refine Head.done (by kernel_rfl) ?_
   clear hS; simp only [List.drop_succ_cons, List.drop_zero]
   refine zw (.bool (decide (x.key < stt))) ha (run_slss (p := x.key) (q := stt) rfl (by kernel_rfl) (by kernel_rfl) _) ?_
   refine zzv (.bool (decide (x.key < stt))) ?_; clear ha; intro a ha
   refine zn2 ?_
   refine zzh (decide (x.key < stt)) ha ?_ ?_ <;> intro hb
   ·
    rw [hb] at ha; replace hb : (x.key < stt) := of_decide_eq_true hb
    refine wp_region_lit ?_
    refine zv (.slice B ((within (R.take k) sf stt).length) cb) ha ?_
    refine zzv (.slice (some ad) R.length ca) ?_
    refine zzv (.int .i64 ((k : Nat) : Int)) ?_
    refine zzw (.pointer (some (ad.add (k * 2)))) (run_indexAddr' (kd := .i64) (i := ((k : Nat) : Int)) (n := R.length) (c := ca) k rfl Tryz.underlying33 Tryz.sizeOf115 (by kernel_rfl) (by kernel_rfl) rfl (by first | assumption | omega) _) ?_
    refine zzw (.agg #[.string (str x.key), .string (str x.val)]) (run_loadAtN (i := k * 2) [.string (str x.key), .string (str x.val)] ((hr _ s.sat.tail.tail)) rfl (by kernel_rfl) Tryz.isAgg115 Tryz.sizeOf115 (fun q_ hq_ => rws_at hx hq_) rfl) ?_; clear ha; intro a ha
    refine zze ha (ex_buildSlice elt33 _ zs33 [.string (str x.key), .string (str x.val)] s rfl (by kernel_rfl) (by decide)) ?_
    clear ha; rintro _ w a ⟨g2, rfl, s⟩ ha
    refine zze ha (ex_append (m := 1) (d' := 1) elt33 (by decide) 1 [.string (str x.key), .string (str x.val)] s rfl (by kernel_rfl) (by kernel_rfl) rfl (reads_blk (s.blkIs 0 rfl) rfl) (by simp [Value.oneCell']) (by simp only [maxLen]; omega) (by omega)) ?_
    clear ha; rintro _ w a ⟨A3, c4, rfl, hA_, s⟩ ha
    refine zv (.slice A3 ((within (R.take k) sf stt).length + 1) c4) ha ?_; clear ha; intro a ha
    refine wpList_nil ?_
    refine block_normal ?_
    refine then_normal ?_
    refine wp_region_lit ?_
    refine zv (.int .i64 ((k : Nat) : Int)) ha ?_
    refine zzw (.int .i64 ((k + 1 : Nat) : Int)) zar ?_
    refine zzv (.int .i64 ((k + 1 : Nat) : Int)) ?_; clear ha; intro a ha
    refine zn2 ?_
    replace s := (s.at_ (j := 2) rfl).at_ (j := 2) rfl
    replace s := s.k2_1
    have hw := within_snoc hx sf stt
    rw [show inS sf stt x = true from by unfold inS; first | (rw [decide_eq_true (by assumption), decide_eq_true (by assumption)]; rfl) | (rw [decide_eq_false (by assumption)]; rfl) | (rw [decide_eq_false (show ¬ (x.key < stt) from fun h => kle_iff.1 (by assumption) h), Bool.and_false]) | (rw [decide_eq_false (show ¬ (sf ≤ x.key) from fun h => kle_iff.1 h (by assumption))]; rfl) | (rw [decide_eq_true (show sf ≤ x.key from kle_iff.2 (by assumption)), decide_eq_true (show x.key < stt from Decidable.not_not.1 (fun h => (by assumption : ¬ stt ≤ x.key) (kle_iff.2 h)))]; rfl) | simp [*]] at hw
    replace hw : within (R.take (k + 1)) sf stt = within (R.take k) sf stt ++ [x] := hw
    replace s : St W (Own 115 2 A3 ((within (R.take (k + 1)) sf stt).length) c4 (rws (within (R.take (k + 1)) sf stt)) :: .blk g1 [.string (str sf), .string (str stt)] 32 :: L) w := by rw [hw, rws_append, List.length_append]; exact s
    exact ⟨(k + 1, A3, c4), (show R.length - (k + 1) < R.length - k by omega), (Has.cons ha (by kernel_rfl) (by kernel_rfl) (Has.cons ha (by kernel_rfl) (by kernel_rfl) (Has.cons ha (by kernel_rfl) (by rw [hw]; rw [List.length_append]; kernel_rfl) (Has.cons ha (by kernel_rfl) (by kernel_rfl) (Has.nil ha))))), s, (show k + 1 ≤ R.length by omega)⟩
   rw [hb] at ha; replace hb : ¬ (x.key < stt) := of_decide_eq_false hb
   refine wp_skip ?_
   refine block_normal ?_
   refine then_normal ?_
   refine wp_region_lit ?_
   refine zv (.int .i64 ((k : Nat) : Int)) ha ?_
   refine zzw (.int .i64 ((k + 1 : Nat) : Int)) zar ?_
   refine zzv (.int .i64 ((k + 1 : Nat) : Int)) ?_; clear ha; intro a ha
   refine zn2 ?_
   have hw := within_snoc hx sf stt
   rw [show inS sf stt x = false from by unfold inS; first | (rw [decide_eq_true (by assumption), decide_eq_true (by assumption)]; rfl) | (rw [decide_eq_false (by assumption)]; rfl) | (rw [decide_eq_false (show ¬ (x.key < stt) from fun h => kle_iff.1 (by assumption) h), Bool.and_false]) | (rw [decide_eq_false (show ¬ (sf ≤ x.key) from fun h => kle_iff.1 h (by assumption))]; rfl) | (rw [decide_eq_true (show sf ≤ x.key from kle_iff.2 (by assumption)), decide_eq_true (show x.key < stt from Decidable.not_not.1 (fun h => (by assumption : ¬ stt ≤ x.key) (kle_iff.2 h)))]; rfl) | simp [*]] at hw
   replace hw : within (R.take (k + 1)) sf stt = within (R.take k) sf stt := by rw [hw]; simp
   rw [← hw] at s
   exact ⟨(k + 1, B, cb), (show R.length - (k + 1) < R.length - k by omega), (Has.cons ha (by kernel_rfl) (by kernel_rfl) (Has.cons ha (by kernel_rfl) (by kernel_rfl) (Has.cons ha (by kernel_rfl) (by rw [hw]; kernel_rfl) (Has.cons ha (by kernel_rfl) (by kernel_rfl) (Has.nil ha))))), s, (show k + 1 ≤ R.length by omega)⟩
  rw [hb] at ha; replace hb : ¬ (sf ≤ x.key) := of_decide_eq_false hb
  refine yp (i := 9) ha hS ?_
  refine yyp (i := 10) hS ?_
  refine yyp (i := 11) hS ?_
  refine yyp (i := 12) hS ?_
  refine yyp (i := 13) hS ?_
  refine yyp (i := 14) hS ?_
  refine yyp (i := 15) hS ?_; clear ha; intro a ha
  refine Head.done (by kernel_rfl) ?_
  clear hS; simp only [List.drop_succ_cons, List.drop_zero]
  refine zp ha ?_
  refine zzv (.bool false) ?_; clear ha; intro a ha
  refine zn2 ?_
  refine wp_false ha rfl (by kernel_rfl) ?_
  refine wp_skip ?_
  refine block_normal ?_
  refine then_normal ?_
  refine wp_region_lit ?_
  refine zv (.int .i64 ((k : Nat) : Int)) ha ?_
  refine zzw (.int .i64 ((k + 1 : Nat) : Int)) zar ?_
  refine zzv (.int .i64 ((k + 1 : Nat) : Int)) ?_; clear ha; intro a ha
  refine zn2 ?_
  have hw := within_snoc hx sf stt
  rw [show inS sf stt x = false from by unfold inS; first | (rw [decide_eq_true (by assumption), decide_eq_true (by assumption)]; rfl) | (rw [decide_eq_false (by assumption)]; rfl) | (rw [decide_eq_false (show ¬ (x.key < stt) from fun h => kle_iff.1 (by assumption) h), Bool.and_false]) | (rw [decide_eq_false (show ¬ (sf ≤ x.key) from fun h => kle_iff.1 h (by assumption))]; rfl) | (rw [decide_eq_true (show sf ≤ x.key from kle_iff.2 (by assumption)), decide_eq_true (show x.key < stt from Decidable.not_not.1 (fun h => (by assumption : ¬ stt ≤ x.key) (kle_iff.2 h)))]; rfl) | simp [*]] at hw
  replace hw : within (R.take (k + 1)) sf stt = within (R.take k) sf stt := by rw [hw]; simp
  rw [← hw] at s
  exact ⟨(k + 1, B, cb), (show R.length - (k + 1) < R.length - k by omega), (Has.cons ha (by kernel_rfl) (by kernel_rfl) (Has.cons ha (by kernel_rfl) (by kernel_rfl) (Has.cons ha (by kernel_rfl) (by rw [hw]; kernel_rfl) (Has.cons ha (by kernel_rfl) (by kernel_rfl) (Has.nil ha))))), s, (show k + 1 ≤ R.length by omega)⟩
 rw [hb] at ha; replace hb : ¬ (((k : Nat) : Int) < ((R.length : Nat) : Int)) := of_decide_eq_false hb
 have hk : k = R.length := by omega
 rw [hk, List.take_length] at s ha
 refine wp_exit ?_
 refine then_exit ?_
 refine then_exit ?_
 refine block_hit ?_
 refine then_normal ?_
 refine zn1 ?_
 refine zv (.slice B ((within R sf stt).length) cb) ha ?_
 refine zzv (.slice B ((within R sf stt).length) cb) ?_; clear ha; intro a ha
 refine zn2 ?_
 refine wp_ret ?_
 refine zzr (v := .slice B ((within R sf stt).length) cb) ha ?_
 replace s := s.k1_1
 exact ⟨_, _, rfl, s⟩

theorem rwithout_any (W : World) (L : List Chunk) (w : World) (A : Option Addr) (ca : Nat) (R : List Rw) (hr : Knows L fun w => Reads w 2 A R.length (rws R)) (hRn : R.length ≤ 1000000) (sf stt : K) (s : St W L w) :
  Calls Tryz.prog 73 #[.slice A R.length ca, .agg #[.string (str sf), .string (str stt)]] w fun e w' => ∃ A c, e = .returned (.slice A (without R sf stt).length c) ∧ St W (Own 115 2 A (without R sf stt).length c (rws (without R sf stt)) :: L) w' := by
 refine enter_args (l := [.slice A R.length ca, .agg #[.string (str sf), .string (str stt)]]) Tryz.func73 rfl rfl (Nat.le_of_ble_eq_true rfl) ?_
 intro a ha; replace ha : Has a 39 [(0, .slice A R.length ca), (1, .agg #[.string (str sf), .string (str stt)])] := ha
 refine zn1 ?_
 refine zze ha (ex_box [.string (str sf), .string (str stt)] s rfl (by kernel_rfl)) ?_
 clear ha; rintro _ w a ⟨g1, rfl, s⟩ ha
 refine zv (.slice none 0 0) ha ?_; clear ha; intro a ha
 refine zn4 ?_
 refine zv (.slice none 0 0) ha ?_; clear ha; intro a ha
 refine zn2 ?_
 refine wp_seq ?_
 refine zn1 ?_
 refine zv (.int .i64 0) ha ?_; clear ha; intro a ha
 refine zn2 ?_
 refine wp_block ?_
 replace s := Own.none_ (e := 115) (k := 2) none s
 refine wp_loopG (G := (Nat × Option Addr × Nat)) (fun ⟨k, B, cb⟩ a w => Has a 39 [(0, .slice A R.length ca), (3, .pointer (some ⟨g1, 0, none⟩)), (5, .slice B ((without (R.take k) sf stt).length) cb), (6, .int .i64 ((k : Nat) : Int))] ∧ St W (Own 115 2 B ((without (R.take k) sf stt).length) cb (rws (without (R.take k) sf stt)) :: .blk g1 [.string (str sf), .string (str stt)] 32 :: L) w ∧ k ≤ R.length) (fun ⟨k, B, cb⟩ => R.length - k) (0, none, 0) ?_ ?_
 ·
  exact ⟨(Has.cons ha (by kernel_rfl) (by kernel_rfl) (Has.cons ha (by kernel_rfl) (by kernel_rfl) (Has.cons ha (by kernel_rfl) (by kernel_rfl) (Has.cons ha (by kernel_rfl) (by kernel_rfl) (Has.nil ha))))), s, Nat.zero_le _⟩
 clear ha s; rintro ⟨k, B, cb⟩ a w ⟨ha, s, hp⟩
 refine wp_seq ?_
 refine zn1 ?_
 refine zv (.int .i64 ((k : Nat) : Int)) ha ?_
 refine zzv (.slice A R.length ca) ?_
 refine zzv (.int .i64 ((R.length : Nat) : Int)) ?_
 refine zzv (.bool (decide (((k : Nat) : Int) < ((R.length : Nat) : Int)))) ?_; clear ha; intro a ha
 refine zn2 ?_
 refine zzh (decide (((k : Nat) : Int) < ((R.length : Nat) : Int))) ha ?_ ?_ <;> intro hb
 ·
  rw [hb] at ha; replace hb : (((k : Nat) : Int) < ((R.length : Nat) : Int)) := of_decide_eq_true hb
  obtain ⟨x, hx⟩ : ∃ x, R[k]? = some x := ⟨_, List.getElem?_eq_getElem (by omega)⟩
  obtain ⟨ad, hA⟩ := Reads.addr (hr _ s.sat.tail.tail) (by omega)
  subst hA
  have hwl := Nat.le_trans (without_le (R.take k) sf stt) (by rw [List.length_take]; exact Nat.min_le_left _ _)
  refine wp_skip ?_
  refine then_normal ?_
  refine wp_seq ?_
  refine wp_block ?_
  refine wp_seq ?_
  refine wp_region_head 16 (fun w => Reads w 2 (some ad) R.length (rws R) ∧ BlkIs g1 [.string (str sf), .string (str stt)] w ∧ True) (by kernel_rfl) (by decide) ?_
  replace s := s.drew; generalize _root_.Go.World.drew _ = w at s ⊢
  have hS : (fun w => Reads w 2 (some ad) R.length (rws R) ∧ BlkIs g1 [.string (str sf), .string (str stt)] w ∧ True) w := ⟨(hr _ s.sat.tail.tail), s.blkIs 1 rfl, trivial⟩
  refine yk (i := 0) (.slice (some ad) R.length ca) ha hS ?_
  refine yyk (i := 1) (.int .i64 ((k : Nat) : Int)) hS ?_
  refine yyv (i := 2) (.pointer (some (ad.add (k * 2)))) (fun w hS => (run_indexAddr' (kd := .i64) (i := ((k : Nat) : Int)) (n := R.length) (c := ca) k rfl Tryz.underlying33 Tryz.sizeOf115 (by kernel_rfl) (by kernel_rfl) rfl (by first | assumption | omega) _)) hS ?_
  refine yyfa (i := 3) (.pointer (some (ad.add (k * 2 + 0)))) 9 hS ?_
  refine yyla (i := 4) (.string (str x.key)) (k * 2 + 0) (fun _ hS => hS.1) (by rw [rws_at hx (by omega)]; rfl) hS ?_
  refine yyk (i := 5) (.pointer (some ⟨g1, 0, none⟩)) hS ?_
  refine yyv (i := 6) (.string (str sf)) (fun w hS => run_load1 (of_ := 0) hS.2.1 rfl (by kernel_rfl) Tryz.isAgg9 rfl) hS ?_
  refine yyv (i := 7) (.bool (decide (x.key < sf))) (fun w hS => (run_slss (p := x.key) (q := sf) rfl (by kernel_rfl) (by kernel_rfl) _)) hS ?_
  refine yyk (i := 8) (.bool (decide (x.key < sf))) hS ?_; clear ha; intro a ha
  rcases Bool.eq_false_or_eq_true (decide (x.key < sf)) with hb | hb
  ·
   rw [hb] at ha; replace hb : (x.key < sf) := of_decide_eq_true hb
   refine yp (i := 9) ha hS ?_
   refine yyp (i := 10) hS ?_
   refine yyp (i := 11) hS ?_
   refine yyp (i := 12) hS ?_
   refine yyp (i := 13) hS ?_
   refine yyp (i := 14) hS ?_
   refine yyp (i := 15) hS ?_; clear ha; intro a ha
   refine Head.done (by kernel_rfl) ?_
   clear hS; simp only [List.drop_succ_cons, List.drop_zero]
   refine zp ha ?_
   refine zzv (.bool true) ?_; clear ha; intro a ha
   refine zn2 ?_
   refine wp_true ha rfl (by kernel_rfl) ?_
   refine wp_region_lit ?_
   refine zv (.slice B ((without (R.take k) sf stt).length) cb) ha ?_
   refine zzv (.slice (some ad) R.length ca) ?_
   refine zzv (.int .i64 ((k : Nat) : Int)) ?_
   refine zzw (.pointer (some (ad.add (k * 2)))) (run_indexAddr' (kd := .i64) (i := ((k : Nat) : Int)) (n := R.length) (c := ca) k rfl Tryz.underlying33 Tryz.sizeOf115 (by kernel_rfl) (by kernel_rfl) rfl (by first | assumption | omega) _) ?_
   refine zzw (.agg #[.string (str x.key), .string (str x.val)]) (run_loadAtN (i := k * 2) [.string (str x.key), .string (str x.val)] ((hr _ s.sat.tail.tail)) rfl (by kernel_rfl) Tryz.isAgg115 Tryz.sizeOf115 (fun q_ hq_ => rws_at hx hq_) rfl) ?_; clear ha; intro a ha
   refine zze ha (ex_buildSlice elt33 _ zs33 [.string (str x.key), .string (str x.val)] s rfl (by kernel_rfl) (by decide)) ?_
   clear ha; rintro _ w a ⟨g2, rfl, s⟩ ha
   refine zze ha (ex_append (m := 1) (d' := 1) elt33 (by decide) 1 [.string (str x.key), .string (str x.val)] s rfl (by kernel_rfl) (by kernel_rfl) rfl (reads_blk (s.blkIs 0 rfl) rfl) (by simp [Value.oneCell']) (by simp only [maxLen]; omega) (by omega)) ?_
   clear ha; rintro _ w a ⟨A3, c4, rfl, hA_, s⟩ ha
   refine zv (.slice A3 ((without (R.take k) sf stt).length + 1) c4) ha ?_; clear ha; intro a ha
   refine wpList_nil ?_
   refine block_normal ?_
   refine then_normal ?_
   refine wp_region_lit ?_
   refine zv (.int .i64 ((k : Nat) : Int)) ha ?_
   refine zzw (.int .i64 ((k + 1 : Nat) : Int)) zar ?_
   refine zzv (.int .i64 ((k + 1 : Nat) : Int)) ?_; clear ha; intro a ha
   refine zn2 ?_
   replace s := (s.at_ (j := 2) rfl).at_ (j := 2) rfl
   replace s := s.k2_1
   have hw := without_snoc hx sf stt
   rw [show inS sf stt x = false from by unfold inS; first | (rw [decide_eq_true (by assumption), decide_eq_true (by assumption)]; rfl) | (rw [decide_eq_false (by assumption)]; rfl) | (rw [decide_eq_false (show ¬ (x.key < stt) from fun h => kle_iff.1 (by assumption) h), Bool.and_false]) | (rw [decide_eq_false (show ¬ (sf ≤ x.key) from fun h => kle_iff.1 h (by assumption))]; rfl) | (rw [decide_eq_true (show sf ≤ x.key from kle_iff.2 (by assumption)), decide_eq_true (show x.key < stt from Decidable.not_not.1 (fun h => (by assumption : ¬ stt ≤ x.key) (kle_iff.2 h)))]; rfl) | simp [*]] at hw
   replace hw : without (R.take (k + 1)) sf stt = without (R.take k) sf stt ++ [x] := hw
   replace s : St W (Own 115 2 A3 ((without (R.take (k + 1)) sf stt).length) c4 (rws (without (R.take (k + 1)) sf stt)) :: .blk g1 [.string (str sf), .string (str stt)] 32 :: L) w := by rw [hw, rws_append, List.length_append]; exact s
   exact ⟨(k + 1, A3, c4), (show R.length - (k + 1) < R.length - k by omega), (Has.cons ha (by kernel_rfl) (by kernel_rfl) (Has.cons ha (by kernel_rfl) (by kernel_rfl) (Has.cons ha (by kernel_rfl) (by rw [hw]; rw [List.length_append]; kernel_rfl) (Has.cons ha (by kernel_rfl) (by kernel_rfl) (Has.nil ha))))), s, (show k + 1 ≤ R.length by omega)⟩
  rw [hb] at ha; replace hb : ¬ (x.key < sf) := of_decide_eq_false hb
  refine yk (i := 9) (.slice (some ad) R.length ca) ha hS ?_
  refine yyk (i := 10) (.int .i64 ((k : Nat) : Int)) hS ?_
  refine yyv (i := 11) (.pointer (some (ad.add (k * 2)))) (fun w hS => (run_indexAddr' (kd := .i64) (i := ((k : Nat) : Int)) (n := R.length) (c := ca) k rfl Tryz.underlying33 Tryz.sizeOf115 (by kernel_rfl) (by kernel_rfl) rfl (by first | assumption | omega) _)) hS ?_
  refine yyfa (i := 12) (.pointer (some (ad.add (k * 2 + 0)))) 9 hS ?_
  refine yyla (i := 13) (.string (str x.key)) (k * 2 + 0) (fun _ hS => hS.1) (by rw [rws_at hx (by omega)]; rfl) hS ?_
  refine yyk (i := 14) (.pointer (some ⟨g1, 1, none⟩)) hS ?_
  refine yyv (i := 15) (.string (str stt)) (fun w hS => run_load1 (of_ := 1) hS.2.1 rfl (by kernel_rfl) Tryz.isAgg9 rfl) hS ?_; clear ha; intro a ha
  refine Head.done (by kernel_rfl) ?_
  clear hS; simp only [List.drop_succ_cons, List.drop_zero]
  refine zw (.bool (decide (stt ≤ x.key))) ha (run_sgeq (p := x.key) (q := stt) rfl (by kernel_rfl) (by kernel_rfl) _) ?_
  refine zzv (.bool (decide (stt ≤ x.key))) ?_; clear ha; intro a ha
  refine zn2 ?_
  refine zzh (decide (stt ≤ x.key)) ha ?_ ?_ <;> intro hb
  ·
   rw [hb] at ha; replace hb : (stt ≤ x.key) := of_decide_eq_true hb
   refine wp_region_lit ?_
   refine zv (.slice B ((without (R.take k) sf stt).length) cb) ha ?_
   refine zzv (.slice (some ad) R.length ca) ?_
   refine zzv (.int .i64 ((k : Nat) : Int)) ?_
   refine zzw (.pointer (some (ad.add (k * 2)))) (run_indexAddr' (kd := .i64) (i := ((k : Nat) : Int)) (n := R.length) (c := ca) k rfl Tryz.underlying33 Tryz.sizeOf115 (by kernel_rfl) (by kernel_rfl) rfl (by first | assumption | omega) _) ?_
   refine zzw (.agg #[.string (str x.key), .string (str x.val)]) (run_loadAtN (i := k * 2) [.string (str x.key), .string (str x.val)] ((hr _ s.sat.tail.tail)) rfl (by kernel_rfl) Tryz.isAgg115 Tryz.sizeOf115 (fun q_ hq_ => rws_at hx hq_) rfl) ?_; clear ha; intro a ha
   refine zze ha (ex_buildSlice elt33 _ zs33 [.string (str x.key), .string (str x.val)] s rfl (by kernel_rfl) (by decide)) ?_
   clear ha; rintro _ w a ⟨g5, rfl, s⟩ ha
   refine zze ha (ex_append (m := 1) (d' := 1) elt33 (by decide) 1 [.string (str x.key), .string (str x.val)] s rfl (by kernel_rfl) (by kernel_rfl) rfl (reads_blk (s.blkIs 0 rfl) rfl) (by simp [Value.oneCell']) (by simp only [maxLen]; omega) (by omega)) ?_
   clear ha; rintro _ w a ⟨A6, c7, rfl, hA_, s⟩ ha
   refine zv (.slice A6 ((without (R.take k) sf stt).length + 1) c7) ha ?_; clear ha; intro a ha
   refine wpList_nil ?_
   refine block_normal ?_
   refine then_normal ?_
   refine wp_region_lit ?_
   refine zv (.int .i64 ((k : Nat) : Int)) ha ?_
   refine zzw (.int .i64 ((k + 1 : Nat) : Int)) zar ?_
   refine zzv (.int .i64 ((k + 1 : Nat) : Int)) ?_; clear ha; intro a ha
   refine zn2 ?_
   replace s := (s.at_ (j := 2) rfl).at_ (j := 2) rfl
   replace s := s.k2_1
   have hw := without_snoc hx sf stt
   rw [show inS sf stt x = false from by unfold inS; first | (rw [decide_eq_true (by assumption), decide_eq_true (by assumption)]; rfl) | (rw [decide_eq_false (by assumption)]; rfl) | (rw [decide_eq_false (show ¬ (x.key < stt) from fun h => kle_iff.1 (by assumption) h), Bool.and_false]) | (rw [decide_eq_false (show ¬ (sf ≤ x.key) from fun h => kle_iff.1 h (by assumption))]; rfl) | (rw [decide_eq_true (show sf ≤ x.key from kle_iff.2 (by assumption)), decide_eq_true (show x.key < stt from Decidable.not_not.1 (fun h => (by assumption : ¬ stt ≤ x.key) (kle_iff.2 h)))]; rfl) | simp [*]] at hw
   replace hw : without (R.take (k + 1)) sf stt = without (R.take k) sf stt ++ [x] := hw
   replace s : St W (Own 115 2 A6 ((without (R.take (k + 1)) sf stt).length) c7 (rws (without (R.take (k + 1)) sf stt)) :: .blk g1 [.string (str sf), .string (str stt)] 32 :: L) w := by rw [hw, rws_append, List.length_append]; exact s
   exact ⟨(k + 1, A6, c7), (show R.length - (k + 1) < R.length - k by omega), (Has.cons ha (by kernel_rfl) (by kernel_rfl) (Has.cons ha (by kernel_rfl) (by kernel_rfl) (Has.cons ha (by kernel_rfl) (by rw [hw]; rw [List.length_append]; kernel_rfl) (Has.cons ha (by kernel_rfl) (by kernel_rfl) (Has.nil ha))))), s, (show k + 1 ≤ R.length by omega)⟩
  rw [hb] at ha; replace hb : ¬ (stt ≤ x.key) := of_decide_eq_false hb
  refine wp_skip ?_
  refine block_normal ?_
  refine then_normal ?_
  refine wp_region_lit ?_
  refine zv (.int .i64 ((k : Nat) : Int)) ha ?_
  refine zzw (.int .i64 ((k + 1 : Nat) : Int)) zar ?_
  refine zzv (.int .i64 ((k + 1 : Nat) : Int)) ?_; clear ha; intro a ha
  refine zn2 ?_
  have hw := without_snoc hx sf stt
  rw [show inS sf stt x = true from by unfold inS; first | (rw [decide_eq_true (by assumption), decide_eq_true (by assumption)]; rfl) | (rw [decide_eq_false (by assumption)]; rfl) | (rw [decide_eq_false (show ¬ (x.key < stt) from fun h => kle_iff.1 (by assumption) h), Bool.and_false]) | (rw [decide_eq_false (show ¬ (sf ≤ x.key) from fun h => kle_iff.1 h (by assumption))]; rfl) | (rw [decide_eq_true (show sf ≤ x.key from kle_iff.2 (by assumption)), decide_eq_true (show x.key < stt from Decidable.not_not.1 (fun h => (by assumption : ¬ stt ≤ x.key) (kle_iff.2 h)))]; rfl) | simp [*]] at hw
  replace hw : without (R.take (k + 1)) sf stt = without (R.take k) sf stt := by rw [hw]; simp
  rw [← hw] at s
  exact ⟨(k + 1, B, cb), (show R.length - (k + 1) < R.length - k by omega), (Has.cons ha (by kernel_rfl) (by kernel_rfl) (Has.cons ha (by kernel_rfl) (by kernel_rfl) (Has.cons ha (by kernel_rfl) (by rw [hw]; kernel_rfl) (Has.cons ha (by kernel_rfl) (by kernel_rfl) (Has.nil ha))))), s, (show k + 1 ≤ R.length by omega)⟩
 rw [hb] at ha; replace hb : ¬ (((k : Nat) : Int) < ((R.length : Nat) : Int)) := of_decide_eq_false hb
 have hk : k = R.length := by omega
 rw [hk, List.take_length] at s ha
 refine wp_exit ?_
 refine then_exit ?_
 refine then_exit ?_
 refine block_hit ?_
 refine then_normal ?_
 refine zn1 ?_
 refine zv (.slice B ((without R sf stt).length) cb) ha ?_
 refine zzv (.slice B ((without R sf stt).length) cb) ?_; clear ha; intro a ha
 refine zn2 ?_
 refine wp_ret ?_
 refine zzr (v := .slice B ((without R sf stt).length) cb) ha ?_
 replace s := s.k1_1
 exact ⟨_, _, rfl, s⟩

theorem rput_any (W : World) (L : List Chunk) (w : World) (A : Option Addr) (ca : Nat) (R : List Rw) (hr : Knows L fun w => Reads w 2 A R.length (rws R)) (hRn : R.length ≤ 1000000) (hca : R.length ≤ ca) (r : Rw) (s : St W L w) :
  Calls Tryz.prog 72 #[.slice A R.length ca, .agg #[.string (str r.key), .string (str r.val)]] w fun e w' => ∃ A c, e = .returned (.slice A (put R r).length c) ∧ St W (Own 115 2 A (put R r).length c (rws (put R r)) :: L) w' := by
 refine enter_args (l := [.slice A R.length ca, .agg #[.string (str r.key), .string (str r.val)]]) Tryz.func72 rfl rfl (Nat.le_of_ble_eq_true rfl) ?_
 intro a ha; replace ha : Has a 55 [(0, .slice A R.length ca), (1, .agg #[.string (str r.key), .string (str r.val)])] := ha
 refine zn1 ?_
 refine zze ha (ex_box [.string (str r.key), .string (str r.val)] s rfl (by kernel_rfl)) ?_
 clear ha; rintro _ w a ⟨g1, rfl, s⟩ ha
 refine zv (.slice none 0 0) ha ?_; clear ha; intro a ha
 refine zn4 ?_
 refine zv (.slice none 0 0) ha ?_; clear ha; intro a ha
 refine zn4 ?_
 refine zv (.int .i64 0) ha ?_; clear ha; intro a ha
 refine zn2 ?_
 refine wp_seq ?_
 refine wp_block ?_
 replace s := Own.none_ (e := 115) (k := 2) none s
 refine wp_loopG (G := (Nat × Option Addr × Nat)) (fun ⟨k, B, cb⟩ a w => Has a 55 [(0, .slice A R.length ca), (3, .pointer (some ⟨g1, 0, none⟩)), (5, .slice B k cb), (6, .int .i64 ((k : Nat) : Int))] ∧ St W (Own 115 2 B k cb (rws (R.take k)) :: .blk g1 [.string (str r.key), .string (str r.val)] 115 :: L) w ∧ (k ≤ R.length ∧ ∀ y ∈ R.take k, y.key < r.key)) (fun ⟨k, B, cb⟩ => R.length - k) (0, none, 0) ?_ ?_
 ·
  exact ⟨(Has.cons ha (by kernel_rfl) (by kernel_rfl) (Has.cons ha (by kernel_rfl) (by kernel_rfl) (Has.cons ha (by kernel_rfl) (by kernel_rfl) (Has.cons ha (by kernel_rfl) (by kernel_rfl) (Has.nil ha))))), s, ⟨Nat.zero_le _, fun y hy => by simp at hy⟩⟩
 clear ha s; rintro ⟨k, B, cb⟩ a w ⟨ha, s, hp⟩
 refine wp_seq ?_
 refine wp_seq ?_
 by_cases hkl : k < R.length
 ·
  skip
  obtain ⟨x, hx⟩ : ∃ x, R[k]? = some x := ⟨_, List.getElem?_eq_getElem (by omega)⟩
  obtain ⟨ad, hA⟩ := Reads.addr (hr _ s.sat.tail.tail) (by omega)
  subst hA
  refine wp_region_head 12 (fun w => Reads w 2 (some ad) R.length (rws R) ∧ BlkIs g1 [.string (str r.key), .string (str r.val)] w ∧ True) (by kernel_rfl) (by decide) ?_
  replace s := s.drew; generalize _root_.Go.World.drew _ = w at s ⊢
  have hS : (fun w => Reads w 2 (some ad) R.length (rws R) ∧ BlkIs g1 [.string (str r.key), .string (str r.val)] w ∧ True) w := ⟨(hr _ s.sat.tail.tail), s.blkIs 1 rfl, trivial⟩
  refine yk (i := 0) (.int .i64 ((k : Nat) : Int)) ha hS ?_
  refine yyk (i := 1) (.slice (some ad) R.length ca) hS ?_
  refine yyk (i := 2) (.int .i64 ((R.length : Nat) : Int)) hS ?_
  refine yyv (i := 3) (.bool true) (fun w hS => (run_known (show (decide (((k : Nat) : Int) < ((R.length : Nat) : Int))) = true from decide_eq_true (by omega)) (by kernel_rfl))) hS ?_
  refine yyk (i := 4) (.bool true) hS ?_
  refine yyk (i := 5) (.slice (some ad) R.length ca) hS ?_
  refine yyk (i := 6) (.int .i64 ((k : Nat) : Int)) hS ?_
  refine yyv (i := 7) (.pointer (some (ad.add (k * 2)))) (fun w hS => (run_indexAddr' (kd := .i64) (i := ((k : Nat) : Int)) (n := R.length) (c := ca) k rfl Tryz.underlying33 Tryz.sizeOf115 (by kernel_rfl) (by kernel_rfl) rfl (by first | assumption | omega) _)) hS ?_
  refine yyfa (i := 8) (.pointer (some (ad.add (k * 2 + 0)))) 9 hS ?_
  refine yyla (i := 9) (.string (str x.key)) (k * 2 + 0) (fun _ hS => hS.1) (by rw [rws_at hx (by omega)]; rfl) hS ?_
  refine yyk (i := 10) (.pointer (some ⟨g1, 0, none⟩)) hS ?_
  refine yyv (i := 11) (.string (str r.key)) (fun w hS => run_load1 (of_ := 0) hS.2.1 rfl (by kernel_rfl) Tryz.isAgg9 rfl) hS ?_; clear ha; intro a ha
  refine Head.done (by kernel_rfl) ?_
  clear hS; simp only [List.drop_succ_cons, List.drop_zero]
  refine zw (.bool (decide (x.key < r.key))) ha (run_slss (p := x.key) (q := r.key) rfl (by kernel_rfl) (by kernel_rfl) _) ?_
  refine zzv (.bool (decide (x.key < r.key))) ?_; clear ha; intro a ha
  refine zn2 ?_
  refine zzh (decide (x.key < r.key)) ha ?_ ?_ <;> intro hb
  ·
   rw [hb] at ha; replace hb : (x.key < r.key) := of_decide_eq_true hb
   refine wp_skip ?_
   refine then_normal ?_
   refine wp_block ?_
   refine zn1 ?_
   refine zv (.slice B k cb) ha ?_
   refine zzv (.slice (some ad) R.length ca) ?_
   refine zzv (.int .i64 ((k : Nat) : Int)) ?_
   refine zzw (.pointer (some (ad.add (k * 2)))) (run_indexAddr' (kd := .i64) (i := ((k : Nat) : Int)) (n := R.length) (c := ca) k rfl Tryz.underlying33 Tryz.sizeOf115 (by kernel_rfl) (by kernel_rfl) rfl (by first | assumption | omega) _) ?_
   refine zzw (.agg #[.string (str x.key), .string (str x.val)]) (run_loadAtN (i := k * 2) [.string (str x.key), .string (str x.val)] ((hr _ s.sat.tail.tail)) rfl (by kernel_rfl) Tryz.isAgg115 Tryz.sizeOf115 (fun q_ hq_ => rws_at hx hq_) rfl) ?_; clear ha; intro a ha
   refine zze ha (ex_buildSlice elt33 _ zs33 [.string (str x.key), .string (str x.val)] s rfl (by kernel_rfl) (by decide)) ?_
   clear ha; rintro _ w a ⟨g2, rfl, s⟩ ha
   refine zze ha (ex_append (m := 1) (d' := 1) elt33 (by decide) 1 [.string (str x.key), .string (str x.val)] s rfl (by kernel_rfl) (by kernel_rfl) rfl (reads_blk (s.blkIs 0 rfl) rfl) (by simp [Value.oneCell']) (by simp only [maxLen]; omega) (by omega)) ?_
   clear ha; rintro _ w a ⟨A3, c4, rfl, hA_, s⟩ ha
   refine zv (.slice A3 (k + 1) c4) ha ?_; clear ha; intro a ha
   refine zn3 ?_
   refine zv (.int .i64 ((k : Nat) : Int)) ha ?_
   refine zzw (.int .i64 ((k + 1 : Nat) : Int)) zar ?_
   refine zzv (.int .i64 ((k + 1 : Nat) : Int)) ?_; clear ha; intro a ha
   refine wpList_nil ?_
   refine block_normal ?_
   refine then_normal ?_
   replace s := (s.at_ (j := 2) rfl).at_ (j := 2) rfl
   replace s := s.k2_1
   rw [show [.string (str x.key), .string (str x.val)] = rv x from rfl, ← rws_snoc hx] at s
   exact ⟨(k + 1, A3, c4), (show R.length - (k + 1) < R.length - k by omega), (Has.cons ha (by kernel_rfl) (by kernel_rfl) (Has.cons ha (by kernel_rfl) (by kernel_rfl) (Has.cons ha (by kernel_rfl) (by kernel_rfl) (Has.cons ha (by kernel_rfl) (by kernel_rfl) (Has.nil ha))))), s, (show k + 1 ≤ R.length by omega), fun y hy => by rw [take_snoc hx] at hy; exact (List.mem_append.1 hy).elim (hp.2 y) (fun hy => by rw [List.mem_singleton.1 hy]; exact hb)⟩
  rw [hb] at ha; replace hb : ¬ (x.key < r.key) := of_decide_eq_false hb
  have hlt := hp.2
  have hnl : ¬ x.key < r.key := hb
  refine wp_exit ?_
  refine then_exit ?_
  refine then_exit ?_
  refine block_hit ?_
  refine then_normal ?_
  refine zn1 ?_
  refine zv (.slice B k cb) ha ?_
  refine zzw (.agg #[.string (str r.key), .string (str r.val)]) (zln 1 0) ?_; clear ha; intro a ha
  refine zze ha (ex_buildSlice elt33 _ zs33 [.string (str r.key), .string (str r.val)] s rfl (by kernel_rfl) (by decide)) ?_
  clear ha; rintro _ w a ⟨g5, rfl, s⟩ ha
  refine zze ha (ex_append (m := 1) (d' := 1) elt33 (by decide) 1 [.string (str r.key), .string (str r.val)] s rfl (by kernel_rfl) (by kernel_rfl) rfl (reads_blk (s.blkIs 0 rfl) rfl) (by simp [Value.oneCell']) (by simp only [maxLen]; omega) (by omega)) ?_
  clear ha; rintro _ w a ⟨A6, c7, rfl, hA_, s⟩ ha
  refine zv (.slice A6 (k + 1) c7) ha ?_; clear ha; intro a ha
  refine zn2 ?_
  refine wp_seq ?_
  refine wp_seq ?_
  refine wp_region_head 12 (fun w => Reads w 2 (some ad) R.length (rws R) ∧ BlkIs g1 [.string (str r.key), .string (str r.val)] w ∧ True) (by kernel_rfl) (by decide) ?_
  replace s := s.drew; generalize _root_.Go.World.drew _ = w at s ⊢
  have hS : (fun w => Reads w 2 (some ad) R.length (rws R) ∧ BlkIs g1 [.string (str r.key), .string (str r.val)] w ∧ True) w := ⟨(hr _ s.sat.tail.tail.tail), s.blkIs 2 rfl, trivial⟩
  refine yk (i := 0) (.int .i64 ((k : Nat) : Int)) ha hS ?_
  refine yyk (i := 1) (.slice (some ad) R.length ca) hS ?_
  refine yyk (i := 2) (.int .i64 ((R.length : Nat) : Int)) hS ?_
  refine yyv (i := 3) (.bool true) (fun w hS => (run_known (show (decide (((k : Nat) : Int) < ((R.length : Nat) : Int))) = true from decide_eq_true (by omega)) (by kernel_rfl))) hS ?_
  refine yyk (i := 4) (.bool true) hS ?_
  refine yyk (i := 5) (.slice (some ad) R.length ca) hS ?_
  refine yyk (i := 6) (.int .i64 ((k : Nat) : Int)) hS ?_
  refine yyv (i := 7) (.pointer (some (ad.add (k * 2)))) (fun w hS => (run_indexAddr' (kd := .i64) (i := ((k : Nat) : Int)) (n := R.length) (c := ca) k rfl Tryz.underlying33 Tryz.sizeOf115 (by kernel_rfl) (by kernel_rfl) rfl (by first | assumption | omega) _)) hS ?_
  refine yyfa (i := 8) (.pointer (some (ad.add (k * 2 + 0)))) 9 hS ?_
  refine yyla (i := 9) (.string (str x.key)) (k * 2 + 0) (fun _ hS => hS.1) (by rw [rws_at hx (by omega)]; rfl) hS ?_
  refine yyk (i := 10) (.pointer (some ⟨g1, 0, none⟩)) hS ?_
  refine yyv (i := 11) (.string (str r.key)) (fun w hS => run_load1 (of_ := 0) hS.2.1 rfl (by kernel_rfl) Tryz.isAgg9 rfl) hS ?_; clear ha; intro a ha
  refine Head.done (by kernel_rfl) ?_
  clear hS; simp only [List.drop_succ_cons, List.drop_zero]
  refine zw (.bool (decide (x.key = r.key))) ha (run_seql (p := x.key) (q := r.key) rfl (by kernel_rfl) (by kernel_rfl) _) ?_
  refine zzv (.bool (decide (x.key = r.key))) ?_; clear ha; intro a ha
  refine zn2 ?_
  refine zzh (decide (x.key = r.key)) ha ?_ ?_ <;> intro hb
  ·
   rw [hb] at ha; replace hb : (x.key = r.key) := of_decide_eq_true hb
   refine wp_region_lit ?_
   refine zv (.int .i64 ((k : Nat) : Int)) ha ?_
   refine zzw (.int .i64 ((k + 1 : Nat) : Int)) zar ?_
   refine zzv (.int .i64 ((k + 1 : Nat) : Int)) ?_; clear ha; intro a ha
   refine zn4 ?_
   refine zv (.slice A6 (k + 1) c7) ha ?_
   refine zzv (.slice (some ad) R.length ca) ?_
   refine zzv (.int .i64 ((k + 1 : Nat) : Int)) ?_
   refine zzw (.slice (slA (some ad) (k + 1) ca 2) (R.length - (k + 1)) (ca - (k + 1))) (run_slice (n := R.length) (c := ca) (k + 1) R.length ca rfl Tryz.underlying33 Tryz.sizeOf115 (by kernel_rfl) (fun h => by cases h) bnd_none bnd_none (bnd_some .i64 (by kernel_rfl)) (by omega) (by omega) (by omega) _) ?_; clear ha; intro a ha
   refine zze ha (ex_append (m := (R.length - (k + 1))) (d' := (ca - (k + 1))) elt33 (by decide) 1 (rws (R.drop (k + 1))) s rfl (by kernel_rfl) (by kernel_rfl) rfl (rws_drop R (k + 1) (by omega) ▸ ((hr _ s.sat.tail.tail.tail)).sub (l := k + 1) (h := R.length) (c := ca) (by omega) (Nat.le_refl _) hca) (rws_one _) (by simp only [maxLen]; omega) (by omega)) ?_
   clear ha; rintro _ w a ⟨A8, c9, rfl, hA_, s⟩ ha
   refine zv (.slice A8 (k + 1 + (R.length - (k + 1))) c9) ha ?_; clear ha; intro a ha
   refine zn2 ?_
   refine wp_ret ?_
   refine zzr (v := .slice A8 (k + 1 + (R.length - (k + 1))) c9) ha ?_
   replace s := s.at_ (j := 1) rfl
   replace s := s.k1_2
   have hlen : (put R r).length = k + 1 + (R.length - (k + 1)) := by rw [show put R r = R.take k ++ [r] ++ R.drop (k + 1) from by rw [put_at hlt hx hnl, if_pos hb]; simp]; simp only [List.length_append, List.length_take, List.length_drop, List.length_cons, List.length_nil]; omega
   have hcs : rws (put R r) = rws (R.take k) ++ [.string (str r.key), .string (str r.val)] ++ rws (R.drop (k + 1)) := by rw [show put R r = R.take k ++ [r] ++ R.drop (k + 1) from by rw [put_at hlt hx hnl, if_pos hb]; simp]; rw [rws_append, rws_append]; rfl
   rw [hlen, hcs]
   exact ⟨_, _, rfl, s⟩
  rw [hb] at ha; replace hb : ¬ (x.key = r.key) := of_decide_eq_false hb
  refine wp_skip ?_
  refine then_normal ?_
  refine zn1 ?_
  refine zv (.slice A6 (k + 1) c7) ha ?_
  refine zzv (.slice (some ad) R.length ca) ?_
  refine zzv (.int .i64 ((k : Nat) : Int)) ?_
  refine zzw (.slice (slA (some ad) k ca 2) (R.length - k) (ca - k)) (run_slice (n := R.length) (c := ca) k R.length ca rfl Tryz.underlying33 Tryz.sizeOf115 (by kernel_rfl) (fun h => by cases h) bnd_none bnd_none (bnd_some .i64 (by kernel_rfl)) (by omega) (by omega) (by omega) _) ?_; clear ha; intro a ha
  refine zze ha (ex_append (m := (R.length - k)) (d' := (ca - k)) elt33 (by decide) 1 (rws (R.drop (k))) s rfl (by kernel_rfl) (by kernel_rfl) rfl (rws_drop R (k) (by omega) ▸ ((hr _ s.sat.tail.tail.tail)).sub (l := k) (h := R.length) (c := ca) (by omega) (Nat.le_refl _) hca) (rws_one _) (by simp only [maxLen]; omega) (by omega)) ?_
  clear ha; rintro _ w a ⟨A10, c11, rfl, hA_, s⟩ ha
  refine zv (.slice A10 (k + 1 + (R.length - k)) c11) ha ?_; clear ha; intro a ha
  refine zn2 ?_
  refine wp_ret ?_
  refine zzr (v := .slice A10 (k + 1 + (R.length - k)) c11) ha ?_
  replace s := s.at_ (j := 1) rfl
  replace s := s.k1_2
  have hlen : (put R r).length = k + 1 + (R.length - (k)) := by rw [show put R r = R.take k ++ [r] ++ R.drop k from by rw [put_at hlt hx hnl, if_neg hb]; simp]; simp only [List.length_append, List.length_take, List.length_drop, List.length_cons, List.length_nil]; omega
  have hcs : rws (put R r) = rws (R.take k) ++ [.string (str r.key), .string (str r.val)] ++ rws (R.drop (k)) := by rw [show put R r = R.take k ++ [r] ++ R.drop k from by rw [put_at hlt hx hnl, if_neg hb]; simp]; rw [rws_append, rws_append]; rfl
  rw [hlen, hcs]
  exact ⟨_, _, rfl, s⟩
 have hlt := hp.2
 refine wp_region_head 12 (fun w => True) (by kernel_rfl) (by decide) ?_
 replace s := s.drew; generalize _root_.Go.World.drew _ = w at s ⊢
 have hS : (fun w => True) w := trivial
 refine yk (i := 0) (.int .i64 ((k : Nat) : Int)) ha hS ?_
 refine yyk (i := 1) (.slice A R.length ca) hS ?_
 refine yyk (i := 2) (.int .i64 ((R.length : Nat) : Int)) hS ?_
 refine yyv (i := 3) (.bool false) (fun w hS => (run_known (show (decide (((k : Nat) : Int) < ((R.length : Nat) : Int))) = false from decide_eq_false (by omega)) (by kernel_rfl))) hS ?_
 refine yyk (i := 4) (.bool false) hS ?_
 refine yyp (i := 5) hS ?_
 refine yyp (i := 6) hS ?_
 refine yyp (i := 7) hS ?_
 refine yyp (i := 8) hS ?_
 refine yyp (i := 9) hS ?_
 refine yyp (i := 10) hS ?_
 refine yyp (i := 11) hS ?_; clear ha; intro a ha
 refine Head.done (by kernel_rfl) ?_
 clear hS; simp only [List.drop_succ_cons, List.drop_zero]
 refine zp ha ?_
 refine zzv (.bool false) ?_; clear ha; intro a ha
 refine zn2 ?_
 refine wp_false ha rfl (by kernel_rfl) ?_
 refine wp_exit ?_
 refine then_exit ?_
 refine then_exit ?_
 refine block_hit ?_
 refine then_normal ?_
 refine zn1 ?_
 refine zv (.slice B k cb) ha ?_
 refine zzw (.agg #[.string (str r.key), .string (str r.val)]) (zln 1 0) ?_; clear ha; intro a ha
 refine zze ha (ex_buildSlice elt33 _ zs33 [.string (str r.key), .string (str r.val)] s rfl (by kernel_rfl) (by decide)) ?_
 clear ha; rintro _ w a ⟨g12, rfl, s⟩ ha
 refine zze ha (ex_append (m := 1) (d' := 1) elt33 (by decide) 1 [.string (str r.key), .string (str r.val)] s rfl (by kernel_rfl) (by kernel_rfl) rfl (reads_blk (s.blkIs 0 rfl) rfl) (by simp [Value.oneCell']) (by simp only [maxLen]; omega) (by omega)) ?_
 clear ha; rintro _ w a ⟨A13, c14, rfl, hA_, s⟩ ha
 refine zv (.slice A13 (k + 1) c14) ha ?_; clear ha; intro a ha
 refine zn2 ?_
 refine wp_seq ?_
 refine wp_seq ?_
 refine wp_region_head 12 (fun w => True) (by kernel_rfl) (by decide) ?_
 replace s := s.drew; generalize _root_.Go.World.drew _ = w at s ⊢
 have hS : (fun w => True) w := trivial
 refine yk (i := 0) (.int .i64 ((k : Nat) : Int)) ha hS ?_
 refine yyk (i := 1) (.slice A R.length ca) hS ?_
 refine yyk (i := 2) (.int .i64 ((R.length : Nat) : Int)) hS ?_
 refine yyv (i := 3) (.bool false) (fun w hS => (run_known (show (decide (((k : Nat) : Int) < ((R.length : Nat) : Int))) = false from decide_eq_false (by omega)) (by kernel_rfl))) hS ?_
 refine yyk (i := 4) (.bool false) hS ?_
 refine yyp (i := 5) hS ?_
 refine yyp (i := 6) hS ?_
 refine yyp (i := 7) hS ?_
 refine yyp (i := 8) hS ?_
 refine yyp (i := 9) hS ?_
 refine yyp (i := 10) hS ?_
 refine yyp (i := 11) hS ?_; clear ha; intro a ha
 refine Head.done (by kernel_rfl) ?_
 clear hS; simp only [List.drop_succ_cons, List.drop_zero]
 refine zp ha ?_
 refine zzv (.bool false) ?_; clear ha; intro a ha
 refine zn2 ?_
 refine wp_false ha rfl (by kernel_rfl) ?_
 refine wp_skip ?_
 refine then_normal ?_
 refine zn1 ?_
 refine zv (.slice A13 (k + 1) c14) ha ?_
 refine zzv (.slice A R.length ca) ?_
 refine zzv (.int .i64 ((k : Nat) : Int)) ?_
 refine zzw (.slice (slA A k ca 2) (R.length - k) (ca - k)) (run_slice (n := R.length) (c := ca) k R.length ca rfl Tryz.underlying33 Tryz.sizeOf115 (by kernel_rfl) (fun h => by cases h) bnd_none bnd_none (bnd_some .i64 (by kernel_rfl)) (by omega) (by omega) (by omega) _) ?_; clear ha; intro a ha
 refine zze ha (ex_append (m := (R.length - k)) (d' := (ca - k)) elt33 (by decide) 1 (rws (R.drop (k))) s rfl (by kernel_rfl) (by kernel_rfl) rfl (rws_drop R (k) (by omega) ▸ ((hr _ s.sat.tail.tail.tail)).sub (l := k) (h := R.length) (c := ca) (by omega) (Nat.le_refl _) hca) (rws_one _) (by simp only [maxLen]; omega) (by omega)) ?_
 clear ha; rintro _ w a ⟨A15, c16, rfl, hA_, s⟩ ha
 refine zv (.slice A15 (k + 1 + (R.length - k)) c16) ha ?_; clear ha; intro a ha
 refine zn2 ?_
 refine wp_ret ?_
 refine zzr (v := .slice A15 (k + 1 + (R.length - k)) c16) ha ?_
 replace s := s.at_ (j := 1) rfl
 replace s := s.k1_2
 have hlen : (put R r).length = k + 1 + (R.length - (k)) := by rw [show put R r = R.take k ++ [r] ++ R.drop (k) from by rw [put_all hlt (by omega), List.take_of_length_le (by omega), List.drop_of_length_le (by omega), List.append_nil]]; simp only [List.length_append, List.length_take, List.length_drop, List.length_cons, List.length_nil]; omega
 have hcs : rws (put R r) = rws (R.take k) ++ [.string (str r.key), .string (str r.val)] ++ rws (R.drop (k)) := by rw [show put R r = R.take k ++ [r] ++ R.drop (k) from by rw [put_all hlt (by omega), List.take_of_length_le (by omega), List.drop_of_length_le (by omega), List.append_nil]]; rw [rws_append, rws_append]; rfl
 rw [hlen, hcs]
 exact ⟨_, _, rfl, s⟩

end Go.Proofs.YtfcbjcohepkkfaaGreat.B
