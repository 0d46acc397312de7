import Derived.Test.YtfcbjcohepkkfaaB1
import Derived.Test.YtfcbjcohepkkfaaSepV
namespace Go.Proofs.Ytfcbjcohepkkfaa.B
open Go.RowKit Go.Maps Go.Sort Go.Shelf Go.Proofs.Ytfcbjcohepkkfaa.Sep Go.Proofs.Ytfcbjcohepkkfaa.P
set_option linter.unusedVariables false
set_option linter.unusedSimpArgs false
theorem keyed3 : Keyed Try.prog 3 := int_keyed Try.underlying3
theorem key3 {a : Int} (h : -9223372036854775808 ≤ a ∧ a ≤ 9223372036854775807) : keyOf Try.prog 3 (encI a) = some (.int .i64 a) := keyOf_int_mk Try.underlying3 (WalkArith.wf_i64 (by omega))
/-- The map of the ids that were seen. -/
def idm (l : List Tn) : List (Int × Value) := l.map fun t => (t.id, .int .i64 1)
def seen (l : List Tn) (x : Int) : Int := if x ∈ ids l then 1 else 0
theorem seen_pos {l : List Tn} {x : Int} : seen l x > 0 ↔ x ∈ ids l := by unfold seen; split <;> simp [*]
theorem idm_len (l : List Tn) : (idm l).length = l.length := by simp [idm]
theorem idm_new {l : List Tn} {x : Tn} (h : x.id ∉ ids l) : mput (idm l) x.id (.int .i64 1) = idm (l ++ [x]) := by
  rw [mput_new (fun p hp e => h (by
    obtain ⟨t, ht, rfl⟩ := List.mem_map.1 hp
    exact List.mem_map.2 ⟨t, ht, e⟩))]
  simp [idm]
theorem idm_get (l : List Tn) (x : Int) : (mget (idm l) x).getD (.int .i64 0) = .int .i64 (seen l x) := by
  unfold seen
  by_cases h : x ∈ ids l
  · rw [if_pos h]
    have h1 : (mget (idm l) x).isSome = true := mget_isSome.2 (by simpa [idm, ids] using h)
    obtain ⟨v, hv⟩ := Option.isSome_iff_exists.1 h1
    obtain ⟨j, hj⟩ := mget_mem hv
    rw [hv]
    have := List.mem_of_getElem? hj
    obtain ⟨t, _, e⟩ := List.mem_map.1 this
    cases e; rfl
  · rw [if_neg h]
    have h1 : mget (idm l) x = none := by
      cases e : mget (idm l) x with
      | none => rfl
      | some v =>
        have : (mget (idm l) x).isSome = true := by rw [e]; rfl
        exact absurd (by simpa [idm, ids] using mget_isSome.1 this) h
    rw [h1]; rfl
theorem many_take {ds : List Dn} {k : Nat} {d : Dn} (h : ds[k]? = some d) : many (tns (ds.take (k + 1))) = many (tns (ds.take k)) + d.l.length := by
  rw [take_snoc h]; simp [many, Dn.t]
theorem many_le (ds : List Dn) (k : Nat) : many (tns (ds.take k)) ≤ many (tns ds) := by
  have : ds = ds.take k ++ ds.drop k := (List.take_append_drop k ds).symm
  rw [show many (tns ds) = many (tns (ds.take k ++ ds.drop k)) by rw [← this]]
  simp only [many, tns, List.map_append, List.sum_append]
  omega
theorem okL_snoc {l : List Tn} {x : Tn} : okL (l ++ [x]) ↔ okL l ∧ okN x ∧ x.id ∉ ids l := by
  unfold okL ids
  rw [List.map_append, List.nodup_append]
  simp only [List.map_cons, List.map_nil, List.mem_append, List.mem_singleton]
  constructor
  · rintro ⟨h1, h2, _, h4⟩
    exact ⟨⟨fun d hd => h1 d (.inl hd), h2⟩, h1 x (.inr rfl), fun h => h4 _ h _ rfl rfl⟩
  · rintro ⟨⟨h1, h2⟩, h3, h4⟩
    refine ⟨fun d hd => hd.elim (h1 d) (fun e => e ▸ h3), h2, by simp, fun y hy z hz e => ?_⟩
    subst hz; subst e; exact h4 hy
theorem okL_take {l : List Tn} {k : Nat} (h : okL l) : okL (l.take k) :=
  ⟨fun d hd => h.1 d (List.mem_of_mem_take hd), by
    have := h.2
    unfold ids at *
    rw [List.map_take]
    exact List.Nodup.sublist (List.take_sublist _ _) this⟩
theorem tns_take (ds : List Dn) (k : Nat) : tns (ds.take k) = (tns ds).take k := List.map_take
theorem not_okL {ds : List Dn} {k : Nat} {d : Dn} (h : ds[k]? = some d) (hn : ¬ (okN d.t ∧ d.id ∉ ids (tns (ds.take k)))) : ¬ okL (tns ds) := fun e => hn (by
  have h1 := okL_take (k := k + 1) e
  rw [← tns_take, take_snoc h, tns, List.map_append] at h1
  exact (okL_snoc.1 h1).2)
theorem okL_next {ds : List Dn} {k : Nat} {d : Dn} (h : ds[k]? = some d) (h0 : okL (tns (ds.take k))) (h1 : okN d.t) (h2 : d.id ∉ ids (tns (ds.take k))) : okL (tns (ds.take (k + 1))) := by
  rw [take_snoc h, tns, List.map_append]
  exact okL_snoc.2 ⟨h0, h1, h2⟩
theorem bad_any_iff {l : List Dd} : l.any bad = true ↔ ¬ ∀ x ∈ l.map (·.t), okT x := by
  simp [bad]
theorem idm_snoc {ds : List Dn} {k : Nat} {d : Dn} (h : ds[k]? = some d) (hn : d.id ∉ ids (tns (ds.take k))) : mput (idm (tns (ds.take k))) d.id (.int .i64 1) = idm (tns (ds.take (k + 1))) := by
  rw [take_snoc h, tns, tns, List.map_append]
  exact idm_new (x := d.t) hn
theorem codeS_zero {x y : Int} : codeS x y = 0 ↔ okS x y := by unfold codeS; split <;> simp [*]
theorem code_limit {ds : List Dn} (h : ¬ few (tns ds)) : code (tns ds) = 5 := by unfold code; rw [if_pos h]
theorem code_bad {ds : List Dn} (h : few (tns ds)) (k : ¬ okL (tns ds)) : code (tns ds) = 2 := by unfold code; rw [if_neg (by simpa using h), if_neg k]

set_option maxRecDepth 100000 in
set_option maxHeartbeats 2000000 in
theorem check_any (W : World) (L : List Chunk) (w : World) (A : Option Addr) (ca : Nat) (ds : List Dn) (hr : Knows L (DonesIn A ds)) (hn : Bn ds) (s : St W L w) :
    Calls Try.prog 39 #[.slice A ds.length ca] w fun e w' => e = .returned (.int .i64 (code (tns ds))) ∧ St W L w' := by
  refine enter_args (l := [.slice A ds.length ca]) Try.func39 rfl rfl (Nat.le_of_ble_eq_true rfl) ?_
  intro a ha; replace ha : Has a 61 [(0, .slice A ds.length ca)] := ha
  refine wp_seq ?_
  refine wp_region_lit ?_
  refine st_val (.int .i64 0) ha (by kernel_rfl) (by kernel_rfl) ?_
  clear ha; intro a ha
  refine wpList_nil ?_
  refine then_normal ?_
  refine wp_seq ?_
  refine wp_seq ?_
  refine wp_region_lit ?_
  refine st_val (.slice A ds.length ca) ha (by kernel_rfl) (by kernel_rfl) ?_
  clear ha; intro a ha
  refine st_val (.int .i64 ((ds.length : Nat) : Int)) ha (by kernel_rfl) (by kernel_rfl) ?_
  clear ha; intro a ha
  refine st_val (.bool (decide (((ds.length : Nat) : Int) > (1000 : Int)))) ha (by kernel_rfl) (by kernel_rfl) ?_
  clear ha; intro a ha
  refine wpList_nil ?_
  refine then_normal ?_
  refine wp_part (decide (((ds.length : Nat) : Int) > (1000 : Int))) ha rfl (by kernel_rfl) (fun hb => ?_) (fun hb => ?_)
  · rw [hb] at ha; replace hb : (((ds.length : Nat) : Int) > (1000 : Int)) := of_decide_eq_true hb
    refine wp_seq ?_
    refine wp_region_lit ?_
    refine st_val (.int .i64 5) ha (by kernel_rfl) (by kernel_rfl) ?_
    clear ha; intro a ha
    refine wpList_nil ?_
    refine then_normal ?_
    refine wp_ret ?_
    refine then_ret ?_
    refine ret_with (v := .int .i64 5) ha (results_1 rfl ha (res_tmp (by kernel_rfl) (by kernel_rfl))) ?_
    refine ⟨?_, s⟩
    rw [code_limit (fun h => ?_)]
    have h1 := h.1
    have h2 := h.2
    simp only [List.length_map] at h1
    omega
  · rw [hb] at ha; replace hb : ¬ (((ds.length : Nat) : Int) > (1000 : Int)) := of_decide_eq_false hb
    refine wp_skip ?_
    refine then_normal ?_
    refine wp_seq ?_
    refine wp_region_lit ?_
    refine st_val (.int .i64 0) ha (by kernel_rfl) (by kernel_rfl) ?_
    clear ha; intro a ha
    refine wpList_nil ?_
    refine then_normal ?_
    refine wp_seq ?_
    refine wp_seq ?_
    refine wp_region_lit ?_
    refine st_val (.slice A ds.length ca) ha (by kernel_rfl) (by kernel_rfl) ?_
    clear ha; intro a ha
    refine st_val (.int .i64 ((ds.length : Nat) : Int)) ha (by kernel_rfl) (by kernel_rfl) ?_
    clear ha; intro a ha
    refine st_val (.int .i64 0) ha (by kernel_rfl) (by kernel_rfl) ?_
    clear ha; intro a ha
    refine wpList_nil ?_
    refine then_normal ?_
    refine wp_block ?_
    have hm0 : many (tns (ds.take 0)) = 0 := rfl
    refine wp_loopG (G := Nat) (fun k a w => Has a 61 [(0, .slice A ds.length ca), (12, .slice A ds.length ca), (13, .int .i64 ((ds.length : Nat) : Int)), (3, .int .i64 ((many (tns (ds.take k)) : Nat) : Int)), (14, .int .i64 ((k : Nat) : Int))] ∧ St W (L) w ∧ (k ≤ ds.length ∧ many (tns (ds.take k)) ≤ 10000)) (fun k => ds.length - k) 0 ?_ ?_
    · exact ⟨(Has.cons ha (by kernel_rfl) (by kernel_rfl) (Has.cons ha (by kernel_rfl) (by kernel_rfl) (Has.cons ha (by kernel_rfl) (by kernel_rfl) (Has.cons ha (by kernel_rfl) (by kernel_rfl) (Has.cons ha (by kernel_rfl) (by kernel_rfl) (Has.nil ha)))))), s, ⟨Nat.zero_le _, by rw [hm0]; omega⟩⟩
    · clear ha s; rintro k a w ⟨ha, s, hp⟩
      refine wp_seq ?_
      refine wp_region_lit ?_
      refine st_val (.bool (decide (((k : Nat) : Int) < ((ds.length : Nat) : Int)))) ha (by kernel_rfl) (by kernel_rfl) ?_
      clear ha; intro a ha
      refine wpList_nil ?_
      refine then_normal ?_
      refine wp_seq ?_
      refine wp_part (decide (((k : Nat) : Int) < ((ds.length : Nat) : Int))) ha rfl (by kernel_rfl) (fun hb => ?_) (fun hb => ?_)
      · rw [hb] at ha; replace hb : (((k : Nat) : Int) < ((ds.length : Nat) : Int)) := of_decide_eq_true hb
        obtain ⟨d, hd⟩ : ∃ d, ds[k]? = some d := ⟨_, List.getElem?_eq_getElem (by omega)⟩
        have hdl := (hn.row hd).1
        obtain ⟨ad, hA⟩ := Reads.addr (hr _ s.sat).1 (by omega)
        subst hA
        refine wp_skip ?_
        refine then_normal ?_
        refine wp_seq ?_
        refine wp_block ?_
        refine wp_seq ?_
        refine wp_region_lit ?_
        refine st_val (.pointer (some (ad.add (k * 4)))) ha (by kernel_rfl) (run_indexAddr' (kd := .i64) (i := ((k : Nat) : Int)) (n := ds.length) (c := ca) k rfl Try.underlying53 Try.sizeOf72 (by kernel_rfl) (by kernel_rfl) rfl (by first | assumption | omega) _) ?_
        clear ha; intro a ha
        refine st_val (.agg #[.int .i64 d.id, .int .i64 d.wall, .int .i64 d.logic, .slice d.A d.l.length d.c]) ha (by kernel_rfl) (run_loadAtN (i := k * 4) [.int .i64 d.id, .int .i64 d.wall, .int .i64 d.logic, .slice d.A d.l.length d.c] ((hr _ s.sat).1) rfl (by kernel_rfl) Try.isAgg72 Try.sizeOf72 (fun q_ hq_ => nvs_at hd hq_) rfl) ?_
        clear ha; intro a ha
        refine st_ex ha (by kernel_rfl) (ex_alloc [.int .i64 0, .int .i64 0, .int .i64 0, .slice none 0 0] s rfl (Try.zeroValue72 _) (by kernel_rfl)) ?_
        clear ha; rintro _ w a ⟨g1, rfl, s⟩ ha
        replace s : St W (.blk g1 [.int .i64 0, .int .i64 0, .int .i64 0, .slice none 0 0] 72 :: L) w := s
        refine st_exd ha (by kernel_rfl) (ex_store (of_ := 0) 0 [.int .i64 d.id, .int .i64 d.wall, .int .i64 d.logic, .slice d.A d.l.length d.c] s rfl rfl (by kernel_rfl) (by kernel_rfl) (Try.sizeOf72 _) rfl (by simp [Value.oneCell']) (Nat.le_of_ble_eq_true rfl)) ?_
        clear ha; rintro w a s ha
        replace s : St W (.blk g1 [.int .i64 d.id, .int .i64 d.wall, .int .i64 d.logic, .slice d.A d.l.length d.c] 72 :: L) w := s
        refine wpList_nil ?_
        refine then_normal ?_
        refine wp_seq ?_
        refine wp_region_lit ?_
        refine st_val (.int .i64 ((many (tns (ds.take k)) : Nat) : Int)) ha (by kernel_rfl) (by kernel_rfl) ?_
        clear ha; intro a ha
        refine st_val (.pointer (some ⟨g1, 3, none⟩)) ha (by kernel_rfl) (by kernel_rfl) ?_
        clear ha; intro a ha
        refine st_val (.slice d.A d.l.length d.c) ha (by kernel_rfl) (run_load1 (of_ := 3) (s.blkIs 0 rfl) rfl (by kernel_rfl) Try.isAgg70 rfl) ?_
        clear ha; intro a ha
        refine st_val (.int .i64 ((d.l.length : Nat) : Int)) ha (by kernel_rfl) (by kernel_rfl) ?_
        clear ha; intro a ha
        refine st_val (.int .i64 ((many (tns (ds.take k)) + d.l.length : Nat) : Int)) ha (by kernel_rfl) (run_arith (((many (tns (ds.take k)) : Nat) : Int) + ((d.l.length : Nat) : Int)) ((many (tns (ds.take k)) + d.l.length : Nat) : Int) rfl (by kernel_rfl) (by kernel_rfl) (.inl ⟨rfl, rfl⟩) (by rw [wrap64_in (by omega)]; try omega) _) ?_
        clear ha; intro a ha
        refine st_val (.int .i64 ((many (tns (ds.take k)) + d.l.length : Nat) : Int)) ha (by kernel_rfl) (by kernel_rfl) ?_
        clear ha; intro a ha
        refine wpList_nil ?_
        refine then_normal ?_
        refine wp_seq ?_
        refine wp_region_lit ?_
        refine st_val (.int .i64 ((many (tns (ds.take k)) + d.l.length : Nat) : Int)) ha (by kernel_rfl) (by kernel_rfl) ?_
        clear ha; intro a ha
        refine st_val (.bool (decide (((many (tns (ds.take k)) + d.l.length : Nat) : Int) > (10000 : Int)))) ha (by kernel_rfl) (by kernel_rfl) ?_
        clear ha; intro a ha
        refine wpList_nil ?_
        refine then_normal ?_
        refine wp_part (decide (((many (tns (ds.take k)) + d.l.length : Nat) : Int) > (10000 : Int))) ha rfl (by kernel_rfl) (fun hb => ?_) (fun hb => ?_)
        · rw [hb] at ha; replace hb : (((many (tns (ds.take k)) + d.l.length : Nat) : Int) > (10000 : Int)) := of_decide_eq_true hb
          refine wp_seq ?_
          refine wp_region_lit ?_
          refine st_val (.int .i64 5) ha (by kernel_rfl) (by kernel_rfl) ?_
          clear ha; intro a ha
          refine wpList_nil ?_
          refine then_normal ?_
          refine wp_ret ?_
          refine block_ret ?_
          refine then_ret ?_
          refine then_ret ?_
          refine block_ret ?_
          refine then_ret ?_
          refine ret_with (v := .int .i64 5) ha (results_1 rfl ha (res_tmp (by kernel_rfl) (by kernel_rfl))) ?_
          replace s := s.tail
          replace s : St W (L) w := s
          refine ⟨?_, s⟩
          rw [code_limit (fun h => ?_)]
          have h1 := h.1
          have h2 := h.2
          simp only [List.length_map] at h1
          have h3 := many_le ds (k + 1)
          rw [many_take hd] at h3
          omega
        · rw [hb] at ha; replace hb : ¬ (((many (tns (ds.take k)) + d.l.length : Nat) : Int) > (10000 : Int)) := of_decide_eq_false hb
          refine wp_skip ?_
          refine block_normal ?_
          refine then_normal ?_
          refine wp_region_lit ?_
          refine st_val (.int .i64 ((k + 1 : Nat) : Int)) ha (by kernel_rfl) (run_arith (((k : Nat) : Int) + (1 : Int)) ((k + 1 : Nat) : Int) rfl (by kernel_rfl) (by kernel_rfl) (.inl ⟨rfl, rfl⟩) (by rw [wrap64_in (by omega)]; try omega) _) ?_
          clear ha; intro a ha
          refine st_val (.int .i64 ((k + 1 : Nat) : Int)) ha (by kernel_rfl) (by kernel_rfl) ?_
          clear ha; intro a ha
          refine wpList_nil ?_
          refine then_normal ?_
          replace s := s.tail
          replace s : St W (L) w := s
          have hmt := many_take hd
          exact ⟨k + 1, by omega, (Has.cons ha (by kernel_rfl) (by kernel_rfl) (Has.cons ha (by kernel_rfl) (by kernel_rfl) (Has.cons ha (by kernel_rfl) (by kernel_rfl) (Has.cons ha (by kernel_rfl) (Eq.trans (b := .int .i64 ((many (tns (ds.take k)) + d.l.length : Nat) : Int)) (by kernel_rfl) (by rw [many_take hd])) (Has.cons ha (by kernel_rfl) (by kernel_rfl) (Has.nil ha)))))), s, by omega, by omega⟩
      · rw [hb] at ha; replace hb : ¬ (((k : Nat) : Int) < ((ds.length : Nat) : Int)) := of_decide_eq_false hb
        have hk : k = ds.length := by omega
        have hmany : many (tns ds) ≤ 10000 := by have := hp.2; rwa [hk, List.take_length] at this
        have hfew : few (tns ds) := ⟨by simp only [List.length_map]; omega, hmany⟩
        refine wp_exit ?_
        refine then_exit ?_
        refine then_exit ?_
        refine block_hit ?_
        refine then_normal ?_
        refine wp_seq ?_
        refine wp_region_lit ?_
        refine st_ex ha (by kernel_rfl) (ex_makeMap Try.prog 3 encI s rfl) ?_
        clear ha; rintro _ w a ⟨g2, rfl, s⟩ ha
        replace s : St W (MapT Try.prog 3 encI g2 [] :: L) w := s
        refine st_val (.map (some g2)) ha (by kernel_rfl) (by kernel_rfl) ?_
        clear ha; intro a ha
        refine wpList_nil ?_
        refine then_normal ?_
        refine wp_seq ?_
        refine wp_seq ?_
        refine wp_region_lit ?_
        refine st_val (.slice A ds.length ca) ha (by kernel_rfl) (by kernel_rfl) ?_
        clear ha; intro a ha
        refine st_val (.int .i64 ((ds.length : Nat) : Int)) ha (by kernel_rfl) (by kernel_rfl) ?_
        clear ha; intro a ha
        refine st_val (.int .i64 0) ha (by kernel_rfl) (by kernel_rfl) ?_
        clear ha; intro a ha
        refine wpList_nil ?_
        refine then_normal ?_
        refine wp_block ?_
        refine wp_loopG (G := Nat) (fun k a w => Has a 61 [(27, .slice A ds.length ca), (28, .int .i64 ((ds.length : Nat) : Int)), (6, .map (some g2)), (29, .int .i64 ((k : Nat) : Int))] ∧ St W (MapT Try.prog 3 encI g2 (idm (tns (ds.take k))) :: L) w ∧ (k ≤ ds.length ∧ okL (tns (ds.take k)))) (fun k => ds.length - k) 0 ?_ ?_
        · exact ⟨(Has.cons ha (by kernel_rfl) (by kernel_rfl) (Has.cons ha (by kernel_rfl) (by kernel_rfl) (Has.cons ha (by kernel_rfl) (by kernel_rfl) (Has.cons ha (by kernel_rfl) (by kernel_rfl) (Has.nil ha))))), s, ⟨Nat.zero_le _, by simp [okL, ids]⟩⟩
        · clear ha s; rintro k a w ⟨ha, s, hp⟩
          refine wp_seq ?_
          refine wp_region_lit ?_
          refine st_val (.bool (decide (((k : Nat) : Int) < ((ds.length : Nat) : Int)))) ha (by kernel_rfl) (by kernel_rfl) ?_
          clear ha; intro a ha
          refine wpList_nil ?_
          refine then_normal ?_
          refine wp_seq ?_
          refine wp_part (decide (((k : Nat) : Int) < ((ds.length : Nat) : Int))) ha rfl (by kernel_rfl) (fun hb => ?_) (fun hb => ?_)
          · rw [hb] at ha; replace hb : (((k : Nat) : Int) < ((ds.length : Nat) : Int)) := of_decide_eq_true hb
            obtain ⟨d, hd⟩ : ∃ d, ds[k]? = some d := ⟨_, List.getElem?_eq_getElem (by omega)⟩
            have hdl := (hn.row hd).1
            obtain ⟨ad, hA⟩ := Reads.addr (hr _ s.sat.tail).1 (by omega)
            subst hA
            have hok := hp.2
            refine wp_skip ?_
            refine then_normal ?_
            refine wp_seq ?_
            refine wp_block ?_
            refine wp_seq ?_
            refine wp_region_lit ?_
            refine st_val (.pointer (some (ad.add (k * 4)))) ha (by kernel_rfl) (run_indexAddr' (kd := .i64) (i := ((k : Nat) : Int)) (n := ds.length) (c := ca) k rfl Try.underlying53 Try.sizeOf72 (by kernel_rfl) (by kernel_rfl) rfl (by first | assumption | omega) _) ?_
            clear ha; intro a ha
            refine st_val (.agg #[.int .i64 d.id, .int .i64 d.wall, .int .i64 d.logic, .slice d.A d.l.length d.c]) ha (by kernel_rfl) (run_loadAtN (i := k * 4) [.int .i64 d.id, .int .i64 d.wall, .int .i64 d.logic, .slice d.A d.l.length d.c] ((hr _ s.sat.tail).1) rfl (by kernel_rfl) Try.isAgg72 Try.sizeOf72 (fun q_ hq_ => nvs_at hd hq_) rfl) ?_
            clear ha; intro a ha
            refine st_ex ha (by kernel_rfl) (ex_alloc [.int .i64 0, .int .i64 0, .int .i64 0, .slice none 0 0] s rfl (Try.zeroValue72 _) (by kernel_rfl)) ?_
            clear ha; rintro _ w a ⟨g3, rfl, s⟩ ha
            replace s : St W (.blk g3 [.int .i64 0, .int .i64 0, .int .i64 0, .slice none 0 0] 72 :: MapT Try.prog 3 encI g2 (idm (tns (ds.take k))) :: L) w := s
            refine st_exd ha (by kernel_rfl) (ex_store (of_ := 0) 0 [.int .i64 d.id, .int .i64 d.wall, .int .i64 d.logic, .slice d.A d.l.length d.c] s rfl rfl (by kernel_rfl) (by kernel_rfl) (Try.sizeOf72 _) rfl (by simp [Value.oneCell']) (Nat.le_of_ble_eq_true rfl)) ?_
            clear ha; rintro w a s ha
            replace s : St W (.blk g3 [.int .i64 d.id, .int .i64 d.wall, .int .i64 d.logic, .slice d.A d.l.length d.c] 72 :: MapT Try.prog 3 encI g2 (idm (tns (ds.take k))) :: L) w := s
            refine wpList_nil ?_
            refine then_normal ?_
            refine wp_seq ?_
            refine wp_seq ?_
            refine wp_region_lit ?_
            refine st_val (.pointer (some ⟨g3, 0, none⟩)) ha (by kernel_rfl) (by kernel_rfl) ?_
            clear ha; intro a ha
            refine st_val (.int .i64 d.id) ha (by kernel_rfl) (run_load1 (of_ := 0) (s.blkIs 0 rfl) rfl (by kernel_rfl) Try.isAgg3 rfl) ?_
            clear ha; intro a ha
            refine st_val (.bool (decide (d.id < (1 : Int)))) ha (by kernel_rfl) (by kernel_rfl) ?_
            clear ha; intro a ha
            refine st_val (.bool (decide (d.id < (1 : Int)))) ha (by kernel_rfl) (by kernel_rfl) ?_
            clear ha; intro a ha
            rcases Bool.eq_false_or_eq_true (decide (d.id < (1 : Int))) with hb | hb
            · rw [hb] at ha; replace hb : (d.id < (1 : Int)) := of_decide_eq_true hb
              refine st_pass ha (by kernel_rfl) ?_
              clear ha; intro a ha
              refine st_pass ha (by kernel_rfl) ?_
              clear ha; intro a ha
              refine st_pass ha (by kernel_rfl) ?_
              clear ha; intro a ha
              refine st_val (.bool true) ha (by kernel_rfl) (by kernel_rfl) ?_
              clear ha; intro a ha
              refine st_val (.bool true) ha (by kernel_rfl) (by kernel_rfl) ?_
              clear ha; intro a ha
              refine st_pass ha (by kernel_rfl) ?_
              clear ha; intro a ha
              refine st_pass ha (by kernel_rfl) ?_
              clear ha; intro a ha
              refine st_pass ha (by kernel_rfl) ?_
              clear ha; intro a ha
              refine st_pass ha (by kernel_rfl) ?_
              clear ha; intro a ha
              refine st_pass ha (by kernel_rfl) ?_
              clear ha; intro a ha
              refine st_val (.bool true) ha (by kernel_rfl) (by kernel_rfl) ?_
              clear ha; intro a ha
              refine st_val (.bool true) ha (by kernel_rfl) (by kernel_rfl) ?_
              clear ha; intro a ha
              refine st_pass ha (by kernel_rfl) ?_
              clear ha; intro a ha
              refine st_pass ha (by kernel_rfl) ?_
              clear ha; intro a ha
              refine st_pass ha (by kernel_rfl) ?_
              clear ha; intro a ha
              refine st_pass ha (by kernel_rfl) ?_
              clear ha; intro a ha
              refine st_val (.bool true) ha (by kernel_rfl) (by kernel_rfl) ?_
              clear ha; intro a ha
              refine wpList_nil ?_
              refine then_normal ?_
              refine wp_true ha rfl (by kernel_rfl) ?_
              refine wp_seq ?_
              refine wp_region_lit ?_
              refine st_val (.int .i64 2) ha (by kernel_rfl) (by kernel_rfl) ?_
              clear ha; intro a ha
              refine wpList_nil ?_
              refine then_normal ?_
              refine wp_ret ?_
              refine then_ret ?_
              refine block_ret ?_
              refine then_ret ?_
              refine then_ret ?_
              refine block_ret ?_
              refine then_ret ?_
              refine ret_with (v := .int .i64 2) ha (results_1 rfl ha (res_tmp (by kernel_rfl) (by kernel_rfl))) ?_
              replace s := s.tail.tail
              replace s : St W (L) w := s
              refine ⟨?_, s⟩
              rw [code_bad hfew (not_okL hd fun h => ?_)]
              obtain ⟨⟨h1, h2, h3⟩, h4⟩ := h
              simp only [Dn.t] at h1 h2 h3
              first | exact h4 hb | exact hnst (by unfold okS; omega) | exact hnall h3 | omega
            · rw [hb] at ha; replace hb : ¬ (d.id < (1 : Int)) := of_decide_eq_false hb
              refine st_val (.pointer (some ⟨g3, 0, none⟩)) ha (by kernel_rfl) (by kernel_rfl) ?_
              clear ha; intro a ha
              refine st_val (.int .i64 d.id) ha (by kernel_rfl) (run_load1 (of_ := 0) (s.blkIs 0 rfl) rfl (by kernel_rfl) Try.isAgg3 rfl) ?_
              clear ha; intro a ha
              refine st_val (.bool (decide (d.id > (9007199254740991 : Int)))) ha (by kernel_rfl) (by kernel_rfl) ?_
              clear ha; intro a ha
              refine st_val (.bool (decide (d.id > (9007199254740991 : Int)))) ha (by kernel_rfl) (by kernel_rfl) ?_
              clear ha; intro a ha
              refine st_val (.bool (decide (d.id > (9007199254740991 : Int)))) ha (by kernel_rfl) (by kernel_rfl) ?_
              clear ha; intro a ha
              rcases Bool.eq_false_or_eq_true (decide (d.id > (9007199254740991 : Int))) with hb | hb
              · rw [hb] at ha; replace hb : (d.id > (9007199254740991 : Int)) := of_decide_eq_true hb
                refine st_pass ha (by kernel_rfl) ?_
                clear ha; intro a ha
                refine st_pass ha (by kernel_rfl) ?_
                clear ha; intro a ha
                refine st_pass ha (by kernel_rfl) ?_
                clear ha; intro a ha
                refine st_pass ha (by kernel_rfl) ?_
                clear ha; intro a ha
                refine st_pass ha (by kernel_rfl) ?_
                clear ha; intro a ha
                refine st_val (.bool true) ha (by kernel_rfl) (by kernel_rfl) ?_
                clear ha; intro a ha
                refine st_val (.bool true) ha (by kernel_rfl) (by kernel_rfl) ?_
                clear ha; intro a ha
                refine st_pass ha (by kernel_rfl) ?_
                clear ha; intro a ha
                refine st_pass ha (by kernel_rfl) ?_
                clear ha; intro a ha
                refine st_pass ha (by kernel_rfl) ?_
                clear ha; intro a ha
                refine st_pass ha (by kernel_rfl) ?_
                clear ha; intro a ha
                refine st_val (.bool true) ha (by kernel_rfl) (by kernel_rfl) ?_
                clear ha; intro a ha
                refine wpList_nil ?_
                refine then_normal ?_
                refine wp_true ha rfl (by kernel_rfl) ?_
                refine wp_seq ?_
                refine wp_region_lit ?_
                refine st_val (.int .i64 2) ha (by kernel_rfl) (by kernel_rfl) ?_
                clear ha; intro a ha
                refine wpList_nil ?_
                refine then_normal ?_
                refine wp_ret ?_
                refine then_ret ?_
                refine block_ret ?_
                refine then_ret ?_
                refine then_ret ?_
                refine block_ret ?_
                refine then_ret ?_
                refine ret_with (v := .int .i64 2) ha (results_1 rfl ha (res_tmp (by kernel_rfl) (by kernel_rfl))) ?_
                replace s := s.tail.tail
                replace s : St W (L) w := s
                refine ⟨?_, s⟩
                rw [code_bad hfew (not_okL hd fun h => ?_)]
                obtain ⟨⟨h1, h2, h3⟩, h4⟩ := h
                simp only [Dn.t] at h1 h2 h3
                first | exact h4 hb | exact hnst (by unfold okS; omega) | exact hnall h3 | omega
              · rw [hb] at ha; replace hb : ¬ (d.id > (9007199254740991 : Int)) := of_decide_eq_false hb
                refine st_val (.map (some g2)) ha (by kernel_rfl) (by kernel_rfl) ?_
                clear ha; intro a ha
                refine st_val (.pointer (some ⟨g3, 0, none⟩)) ha (by kernel_rfl) (by kernel_rfl) ?_
                clear ha; intro a ha
                refine st_val (.int .i64 d.id) ha (by kernel_rfl) (run_load1 (of_ := 0) (s.blkIs 0 rfl) rfl (by kernel_rfl) Try.isAgg3 rfl) ?_
                clear ha; intro a ha
                refine st_val (.int .i64 (seen (tns (ds.take k)) d.id)) ha (by kernel_rfl) (run_lookup (a := d.id) (.int .i64 (seen (tns (ds.take k)) d.id)) (s.mapIs 1 rfl) rfl (by kernel_rfl) (by kernel_rfl) encI_inj keyed3 Try.underlying68 Try.zeroValue3 (key3 (by omega)) (idm_get _ _)) ?_
                clear ha; intro a ha
                refine st_val (.bool (decide ((seen (tns (ds.take k)) d.id) > (0 : Int)))) ha (by kernel_rfl) (by kernel_rfl) ?_
                clear ha; intro a ha
                refine st_val (.bool (decide ((seen (tns (ds.take k)) d.id) > (0 : Int)))) ha (by kernel_rfl) (by kernel_rfl) ?_
                clear ha; intro a ha
                refine st_val (.bool (decide ((seen (tns (ds.take k)) d.id) > (0 : Int)))) ha (by kernel_rfl) (by kernel_rfl) ?_
                clear ha; intro a ha
                rcases Bool.eq_false_or_eq_true (decide ((seen (tns (ds.take k)) d.id) > (0 : Int))) with hb | hb
                · rw [hb] at ha; replace hb : ((seen (tns (ds.take k)) d.id) > (0 : Int)) := of_decide_eq_true hb
                  replace hb := seen_pos.1 hb
                  refine st_pass ha (by kernel_rfl) ?_
                  clear ha; intro a ha
                  refine st_pass ha (by kernel_rfl) ?_
                  clear ha; intro a ha
                  refine st_pass ha (by kernel_rfl) ?_
                  clear ha; intro a ha
                  refine st_pass ha (by kernel_rfl) ?_
                  clear ha; intro a ha
                  refine st_val (.bool true) ha (by kernel_rfl) (by kernel_rfl) ?_
                  clear ha; intro a ha
                  refine wpList_nil ?_
                  refine then_normal ?_
                  refine wp_true ha rfl (by kernel_rfl) ?_
                  refine wp_seq ?_
                  refine wp_region_lit ?_
                  refine st_val (.int .i64 2) ha (by kernel_rfl) (by kernel_rfl) ?_
                  clear ha; intro a ha
                  refine wpList_nil ?_
                  refine then_normal ?_
                  refine wp_ret ?_
                  refine then_ret ?_
                  refine block_ret ?_
                  refine then_ret ?_
                  refine then_ret ?_
                  refine block_ret ?_
                  refine then_ret ?_
                  refine ret_with (v := .int .i64 2) ha (results_1 rfl ha (res_tmp (by kernel_rfl) (by kernel_rfl))) ?_
                  replace s := s.tail.tail
                  replace s : St W (L) w := s
                  refine ⟨?_, s⟩
                  rw [code_bad hfew (not_okL hd fun h => ?_)]
                  obtain ⟨⟨h1, h2, h3⟩, h4⟩ := h
                  simp only [Dn.t] at h1 h2 h3
                  first | exact h4 hb | exact hnst (by unfold okS; omega) | exact hnall h3 | omega
                · rw [hb] at ha; replace hb : ¬ ((seen (tns (ds.take k)) d.id) > (0 : Int)) := of_decide_eq_false hb
                  have hns := fun h => hb (seen_pos.2 h)
                  refine st_val (.pointer (some ⟨g3, 1, none⟩)) ha (by kernel_rfl) (by kernel_rfl) ?_
                  clear ha; intro a ha
                  refine st_val (.agg #[.int .i64 d.wall, .int .i64 d.logic]) ha (by kernel_rfl) (run_loadN (of_ := 1) [.int .i64 d.wall, .int .i64 d.logic] (s.blkIs 0 rfl) rfl (by kernel_rfl) Try.isAgg34 Try.sizeOf34 rfl (Nat.le_of_ble_eq_true rfl)) ?_
                  clear ha; intro a ha
                  refine st_call ha (by kernel_rfl) (by kernel_rfl) (schk_any W _ w d.wall d.logic s) ?_
                  rintro _ w ⟨rfl, s⟩
                  replace s : St W (.blk g3 [.int .i64 d.id, .int .i64 d.wall, .int .i64 d.logic, .slice d.A d.l.length d.c] 72 :: MapT Try.prog 3 encI g2 (idm (tns (ds.take k))) :: L) w := s
                  refine ⟨_, rfl, ?_⟩; clear ha; intro a ha
                  refine st_val (.bool ((codeS d.wall d.logic) != (0 : Int))) ha (by kernel_rfl) (by kernel_rfl) ?_
                  clear ha; intro a ha
                  refine st_val (.bool ((codeS d.wall d.logic) != (0 : Int))) ha (by kernel_rfl) (by kernel_rfl) ?_
                  clear ha; intro a ha
                  refine wpList_nil ?_
                  refine then_normal ?_
                  refine wp_part ((codeS d.wall d.logic) != (0 : Int)) ha rfl (by kernel_rfl) (fun hb => ?_) (fun hb => ?_)
                  · rw [hb] at ha; have hb_ := hb; replace hb := bne_iff_ne.1 hb
                    have hnst : ¬ okS d.wall d.logic := fun h => hb (codeS_zero.2 h)
                    refine wp_seq ?_
                    refine wp_region_lit ?_
                    refine st_val (.int .i64 2) ha (by kernel_rfl) (by kernel_rfl) ?_
                    clear ha; intro a ha
                    refine wpList_nil ?_
                    refine then_normal ?_
                    refine wp_ret ?_
                    refine then_ret ?_
                    refine block_ret ?_
                    refine then_ret ?_
                    refine then_ret ?_
                    refine block_ret ?_
                    refine then_ret ?_
                    refine ret_with (v := .int .i64 2) ha (results_1 rfl ha (res_tmp (by kernel_rfl) (by kernel_rfl))) ?_
                    replace s := s.tail.tail
                    replace s : St W (L) w := s
                    refine ⟨?_, s⟩
                    rw [code_bad hfew (not_okL hd fun h => ?_)]
                    obtain ⟨⟨h1, h2, h3⟩, h4⟩ := h
                    simp only [Dn.t] at h1 h2 h3
                    first | exact h4 hb | exact hnst (by unfold okS; omega) | exact hnall h3 | omega
                  · rw [hb] at ha; have hb_ := hb; replace hb := bne_eq_false_iff_eq.1 hb
                    replace hb := codeS_zero.1 hb
                    have hst := hb
                    unfold okS at hst
                    refine wp_skip ?_
                    refine then_normal ?_
                    refine wp_seq ?_
                    refine wp_region_lit ?_
                    refine st_val (.map (some g2)) ha (by kernel_rfl) (by kernel_rfl) ?_
                    clear ha; intro a ha
                    refine st_val (.pointer (some ⟨g3, 0, none⟩)) ha (by kernel_rfl) (by kernel_rfl) ?_
                    clear ha; intro a ha
                    refine st_val (.int .i64 d.id) ha (by kernel_rfl) (run_load1 (of_ := 0) (s.blkIs 0 rfl) rfl (by kernel_rfl) Try.isAgg3 rfl) ?_
                    clear ha; intro a ha
                    refine st_exd ha (by kernel_rfl) (ex_mapUpdate (a := d.id) 1 (.int .i64 1) s rfl rfl (by kernel_rfl) (by kernel_rfl) (by kernel_rfl) encI_inj keyed3 Try.underlying68 (key3 (by omega)) (by rw [idm_len]; simp only [List.length_map, List.length_take, maxLen]; omega)) ?_
                    clear ha; rintro w a s ha
                    replace s : St W (.blk g3 [.int .i64 d.id, .int .i64 d.wall, .int .i64 d.logic, .slice d.A d.l.length d.c] 72 :: MapT Try.prog 3 encI g2 (mput (idm (tns (ds.take k))) d.id (.int .i64 1)) :: L) w := s
                    refine wpList_nil ?_
                    refine then_normal ?_
                    refine wp_seq ?_
                    refine wp_region_lit ?_
                    refine st_val (.pointer (some ⟨g3, 3, none⟩)) ha (by kernel_rfl) (by kernel_rfl) ?_
                    clear ha; intro a ha
                    refine st_val (.slice d.A d.l.length d.c) ha (by kernel_rfl) (run_load1 (of_ := 3) (s.blkIs 0 rfl) rfl (by kernel_rfl) Try.isAgg70 rfl) ?_
                    clear ha; intro a ha
                    refine st_call ha (by kernel_rfl) (by kernel_rfl) (contains_bad W _ w d.A d.c d.l (fun w s => (hr _ s.tail.tail).row hd) hdl s) ?_
                    rintro _ w ⟨rfl, s⟩
                    replace s : St W (.blk g3 [.int .i64 d.id, .int .i64 d.wall, .int .i64 d.logic, .slice d.A d.l.length d.c] 72 :: MapT Try.prog 3 encI g2 (mput (idm (tns (ds.take k))) d.id (.int .i64 1)) :: L) w := s
                    refine ⟨_, rfl, ?_⟩; clear ha; intro a ha
                    refine wpList_nil ?_
                    refine then_normal ?_
                    refine wp_part (d.l.any bad) ha rfl (by kernel_rfl) (fun hb => ?_) (fun hb => ?_)
                    · rw [hb] at ha; skip
                      have hnall := bad_any_iff.1 hb
                      refine wp_seq ?_
                      refine wp_region_lit ?_
                      refine st_val (.int .i64 2) ha (by kernel_rfl) (by kernel_rfl) ?_
                      clear ha; intro a ha
                      refine wpList_nil ?_
                      refine then_normal ?_
                      refine wp_ret ?_
                      refine block_ret ?_
                      refine then_ret ?_
                      refine then_ret ?_
                      refine block_ret ?_
                      refine then_ret ?_
                      refine ret_with (v := .int .i64 2) ha (results_1 rfl ha (res_tmp (by kernel_rfl) (by kernel_rfl))) ?_
                      replace s := s.tail.tail
                      replace s : St W (L) w := s
                      refine ⟨?_, s⟩
                      rw [code_bad hfew (not_okL hd fun h => ?_)]
                      obtain ⟨⟨h1, h2, h3⟩, h4⟩ := h
                      simp only [Dn.t] at h1 h2 h3
                      first | exact h4 hb | exact hnst (by unfold okS; omega) | exact hnall h3 | omega
                    · rw [hb] at ha; skip
                      have hall := Decidable.not_not.1 (mt bad_any_iff.2 (by rw [hb]; decide))
                      refine wp_skip ?_
                      refine block_normal ?_
                      refine then_normal ?_
                      refine wp_region_lit ?_
                      refine st_val (.int .i64 ((k + 1 : Nat) : Int)) ha (by kernel_rfl) (run_arith (((k : Nat) : Int) + (1 : Int)) ((k + 1 : Nat) : Int) rfl (by kernel_rfl) (by kernel_rfl) (.inl ⟨rfl, rfl⟩) (by rw [wrap64_in (by omega)]; try omega) _) ?_
                      clear ha; intro a ha
                      refine st_val (.int .i64 ((k + 1 : Nat) : Int)) ha (by kernel_rfl) (by kernel_rfl) ?_
                      clear ha; intro a ha
                      refine wpList_nil ?_
                      refine then_normal ?_
                      replace s := s.at_ (j := 1) rfl
                      replace s : St W (MapT Try.prog 3 encI g2 (mput (idm (tns (ds.take k))) d.id (.int .i64 1)) :: .blk g3 [.int .i64 d.id, .int .i64 d.wall, .int .i64 d.logic, .slice d.A d.l.length d.c] 72 :: L) w := s
                      replace s : St W (MapT Try.prog 3 encI g2 (mput (idm (tns (ds.take k))) d.id (.int .i64 1)) :: L) w := St.mid (A := [MapT Try.prog 3 encI g2 (mput (idm (tns (ds.take k))) d.id (.int .i64 1))]) (B := [.blk g3 [.int .i64 d.id, .int .i64 d.wall, .int .i64 d.logic, .slice d.A d.l.length d.c] 72]) s
                      rw [idm_snoc hd hns] at s
                      exact ⟨k + 1, by omega, (Has.cons ha (by kernel_rfl) (by kernel_rfl) (Has.cons ha (by kernel_rfl) (by kernel_rfl) (Has.cons ha (by kernel_rfl) (by kernel_rfl) (Has.cons ha (by kernel_rfl) (by kernel_rfl) (Has.nil ha))))), s, by omega, okL_next hd hok ⟨by simp only [Dn.t]; omega, by simp only [Dn.t]; exact hst, hall⟩ hns⟩
          · rw [hb] at ha; replace hb : ¬ (((k : Nat) : Int) < ((ds.length : Nat) : Int)) := of_decide_eq_false hb
            have hk : k = ds.length := by omega
            have hok := hp.2
            rw [hk, List.take_length] at hok
            refine wp_exit ?_
            refine then_exit ?_
            refine then_exit ?_
            refine block_hit ?_
            refine then_normal ?_
            refine wp_seq ?_
            refine wp_region_lit ?_
            refine st_val (.int .i64 0) ha (by kernel_rfl) (by kernel_rfl) ?_
            clear ha; intro a ha
            refine wpList_nil ?_
            refine then_normal ?_
            refine wp_ret ?_
            refine ret_with (v := .int .i64 0) ha (results_1 rfl ha (res_tmp (by kernel_rfl) (by kernel_rfl))) ?_
            replace s := s.tail
            replace s : St W (L) w := s
            refine ⟨?_, s⟩
            rw [code_zero.2 ⟨hfew, hok⟩]

end Go.Proofs.Ytfcbjcohepkkfaa.B
