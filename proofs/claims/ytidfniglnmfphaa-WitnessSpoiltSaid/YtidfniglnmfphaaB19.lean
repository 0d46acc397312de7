import Derived.Test.YtidfniglnmfphaaB18
namespace Go.Proofs.Ytidfniglnmfphaa.B
open Go.RowKit Go.Maps Go.Sort Go.Shelf Go.Proofs.Ytidfniglnmfphaa.Sep Go.Proofs.Ytidfniglnmfphaa.P
set_option linter.unusedVariables false
set_option linter.unusedSimpArgs false
theorem Copy.cb {ds ds2 : List Dn} (h : Copy ds ds2) (hn : Cb ds) : Cb ds2 := fun d hd => by
  obtain ⟨x, hx, e⟩ := h.mem hd
  rw [← e]; exact hn x hx
theorem right_n (W : World) (L : List Chunk) (w : World) (B : Option Addr) (cb n : Nat) (d2 : List Dn) (hl : d2.length = n) (hk : Knows L (DonesIn B d2)) (hn : Bn d2) (h0 : code (tns d2) = 0) (s : St W L w) :
    Calls Try.prog 20 #[.slice B n cb] w fun e w' => ∃ C c es o, e = .returned (.slice C n c) ∧ es.length = n ∧ IsOrd (tns d2) o ∧ IsRight (tns d2) o (tns es) ∧ Bn es ∧ (Cb d2 → Cb es) ∧ St W (Kn (fun w => DonesIn B d2 w → DonesIn C es w) :: L) w' := by
  subst hl
  refine (right_any W L w B cb d2 hk hn h0 s).mono ?_
  rintro e w' ⟨C, c, es, X, o, rfl, ho, hi, hR, s⟩
  have hl : es.length = d2.length := by simpa using hi.len
  exact ⟨C, c, es, o, rfl, hl, ho, hi, right_bn hn ho hi hR, fun h => right_cb ho hi h hR, right_knows hl hR s⟩
theorem right_c (W : World) (L : List Chunk) (w : World) (B : Option Addr) (cb : Nat) (ds d2 : List Dn) (hk : Knows L (DonesIn B d2)) (hn : Bn ds) (hc : Copy ds d2) (h0 : code (tns ds) = 0) (s : St W L w) :
    Calls Try.prog 20 #[.slice B ds.length cb] w fun e w' => ∃ C c es o, e = .returned (.slice C ds.length c) ∧ es.length = ds.length ∧ IsOrd (tns ds) o ∧ IsRight (tns ds) o (tns es) ∧ Bn es ∧ (Cb ds → Cb es) ∧ St W (Kn (fun w => DonesIn B d2 w → DonesIn C es w) :: L) w' := by
  have := right_n W L w B cb ds.length d2 hc.length hk (hc.bn hn) (by rw [hc.tns]; exact h0) s
  rw [hc.tns] at this
  refine this.mono ?_
  rintro e w' ⟨C, c, es, o, h1, h2, h3, h4, h5, h6, s⟩
  exact ⟨C, c, es, o, h1, h2, h3, h4, h5, fun h => h6 (hc.cb h), s⟩
theorem with_n (W : World) (L : List Chunk) (w : World) (B : Option Addr) (cb n : Nat) (es : List Dn) (hl : es.length = n) (hk : Knows L (DonesIn B es)) (hn : Bn es) (hsm : es.length ≤ 1000000) (hsl : ∀ d ∈ es, d.l.length ≤ 1000000) (s : St W L w) :
    Calls Try.prog 19 #[.slice B n cb] w fun e w' => ∃ C c fs, e = .returned (.slice C n c) ∧ Copy es fs ∧ fs.length = n ∧ St W (Own 27 4 C n c (nvs fs) :: Inn 51 fs :: L) w' := by
  subst hl
  exact with_any W L w B cb es hk hn hsm hsl s
theorem inn_knows {L : List Chunk} {j e2 : Nat} {A : Option Addr} {ds ds2 : List Dn} (hj : L[j]? = some (Inn e2 ds2)) (hr : Knows L (DonesIn A ds)) (hc : Copy ds ds2) : Knows L fun w => ∀ d ∈ ds2, DidsIn d.A d.l w := by
  intro w s d hd
  refine ⟨?_, fun x hx => ?_⟩
  · have s2 := Sat.star_iff.1 (s.perm (perm_at hj))
    obtain ⟨q, hq, e⟩ := List.getElem_of_mem hd
    have : (ds2.map fun d => Own e2 7 d.A d.l.length d.c (dvs d.l))[q]? = some (Own e2 7 d.A d.l.length d.c (dvs d.l)) := by
      rw [List.getElem?_map, List.getElem?_eq_getElem hq, e]; rfl
    have h2 : ((ds2.map fun d => Own e2 7 d.A d.l.length d.c (dvs d.l)) ++ L.eraseIdx j)[q]? = some (Own e2 7 d.A d.l.length d.c (dvs d.l)) := by
      rw [List.getElem?_append_left (by simpa using hq)]; exact this
    exact Own.reads (s2.perm (perm_at h2))
  · obtain ⟨y, hy, e⟩ := hc.mem hd
    exact ((hr w s).2 y hy).2 x (by rw [e]; exact hx)
theorem snoc_knows {L : List Chunk} {i e1 n c : Nat} {C : Option Addr} {fs : List Dn} {d : Dn} (hi : L[i]? = some (Own e1 4 C n c (nvs (fs ++ [d])))) (hl : fs.length + 1 = n) (hf : Knows L fun w => ∀ d ∈ fs, DidsIn d.A d.l w) (hd : Knows L (DidsIn d.A d.l)) : Knows L (DonesIn C (fs ++ [d])) := by
  intro w s
  subst hl
  refine ⟨by rw [List.length_append]; exact Own.reads (s.perm (perm_at hi)), fun e he => ?_⟩
  rcases List.mem_append.1 he with he | he
  · exact hf w s e he
  · rw [List.mem_singleton.1 he]; exact hd w s
theorem finds_n (W : World) (hW : W.drawn = 0) (L : List Chunk) (w : World) (A : Option Addr) (ca n : Nat) (ds : List Dn) (hl : ds.length = n) (hr : Knows L (DonesIn A ds)) (hn : Bn ds) (txn did : Int) (want : Bool) (h0 : code (tns ds) = 0) {o : List Nat} (ho : IsOrd (tns ds) o) (hf : ((fst (found (tns ds) o) : Nat) : Int) = txn ∧ ((snd (found (tns ds) o) : Nat) : Int) = did ∧ (found (tns ds) o).isSome = want) (s : St W L w) :
    Calls Try.prog 21 #[.slice A n ca, .int .i64 txn, .int .i64 did, .bool want] w fun e w' => e = .returned (.bool true) ∧ St W L w' := by
  subst hl
  exact finds_true W hW L w A ca ds hr hn txn did want h0 (fun p hp => by obtain rfl := ho.unique hp; exact hf) s
theorem found_quiet {ds : List Tn} {o : List Nat} (h : first [] (things ds o) = none) : ((fst (found ds o) : Nat) : Int) = 0 ∧ ((snd (found ds o) : Nat) : Int) = 0 ∧ (found ds o).isSome = false := by
  unfold found; rw [h]; exact ⟨rfl, rfl, rfl⟩
theorem le_many2 {ds : List Dn} {d : Dn} (h : d ∈ ds) {n : Nat} (hm : many (tns ds) ≤ n) : d.l.length ≤ n := Nat.le_trans (le_many h) hm
theorem kn_mp {L : List Chunk} {j : Nat} {p q : World → Prop} (h : L[j]? = some (Kn fun w => p w → q w)) (hp : Knows L p) : Knows L q := fun w s => Knows.kn (p := fun w => p w → q w) h w s (hp w s)
def lastD (g : Nat) (D : Option Addr) (cD : Nat) (R : List Rw) : Dn := ⟨9007199254740991, 1099511627776, 1048575, some ⟨g, 0, none⟩, 1, [⟨⟨2, [], [], [], [255, 255, 255], false, R⟩, D, cD⟩]⟩
theorem last_bn {fs : List Dn} (h : Bn fs) (hs : fs.length ≤ 1000000) (g : Nat) (D : Option Addr) (cD : Nat) {R : List Rw} (hR : R.length ≤ 1000000) : Bn (fs ++ [lastD g D cD R]) := ⟨by simp; omega, fun d hd => by
  rcases List.mem_append.1 hd with hd | hd
  · exact h.2 d hd
  · rw [List.mem_singleton.1 hd]
    refine ⟨by simp [lastD], fun x hx => ?_⟩
    rw [List.mem_singleton.1 hx]; exact ⟨by show R.length ≤ _; omega, by simp⟩⟩
theorem last_tns (fs : List Dn) (g : Nat) (D : Option Addr) (cD : Nat) (R : List Rw) : tns (fs ++ [lastD g D cD R]) = tns fs ++ [lastT R] := by simp [tns, lastD, lastT, Dn.t]

set_option maxRecDepth 100000 in
set_option maxHeartbeats 4000000 in
theorem right_true (W : World) (hW : W.drawn = 0) (L : List Chunk) (w : World) (A : Option Addr) (ca : Nat) (ds : List Dn) (hr : Knows L (DonesIn A ds)) (hn : Bn ds) (hca : ds.length ≤ ca) (s : St W L w) :
    Calls Try.prog 4 #[.slice A ds.length ca] w fun e w' => e = .returned (.bool true) ∧ St W L w' := by
  refine enter_args (l := [.slice A ds.length ca]) Try.func4 rfl rfl (Nat.le_of_ble_eq_true rfl) ?_
  intro a ha; replace ha : Has a 92 [(0, .slice A ds.length ca)] := ha
  refine wp_seq ?_
  refine wp_region_lit ?_
  refine st_val (.bool false) ha (by kernel_rfl) (by kernel_rfl) ?_
  clear ha; intro a ha
  refine wpList_nil ?_
  refine then_normal ?_
  refine wp_seq ?_
  refine wp_seq ?_
  refine wp_region_lit ?_
  refine st_call ha (by kernel_rfl) (by kernel_rfl) (works_true W hW _ w s) ?_
  rintro _ w ⟨rfl, s⟩
  replace s : St W (L) w := s
  refine ⟨_, rfl, ?_⟩; clear ha; intro a ha
  refine st_val (.bool false) ha (by kernel_rfl) (by kernel_rfl) ?_
  clear ha; intro a ha
  refine wpList_nil ?_
  refine then_normal ?_
  refine wp_false ha rfl (by kernel_rfl) ?_
  refine wp_skip ?_
  refine then_normal ?_
  refine wp_seq ?_
  refine wp_seq ?_
  refine wp_region_lit ?_
  refine st_val (.slice A ds.length ca) ha (by kernel_rfl) (by kernel_rfl) ?_
  clear ha; intro a ha
  refine st_call ha (by kernel_rfl) (by kernel_rfl) (few_any W _ w A ca ds (fun w s => hr w s) hn s) ?_
  rintro _ w ⟨rfl, s⟩
  replace s : St W (L) w := s
  refine ⟨_, rfl, ?_⟩; clear ha; intro a ha
  refine st_val (.bool (!(small (tns ds)))) ha (by kernel_rfl) (by kernel_rfl) ?_
  clear ha; intro a ha
  refine wpList_nil ?_
  refine then_normal ?_
  refine wp_part (!(small (tns ds))) ha rfl (by kernel_rfl) (fun hb => ?_) (fun hb => ?_)
  · rw [hb] at ha; skip
    refine wp_seq ?_
    refine wp_region_lit ?_
    refine st_val (.bool true) ha (by kernel_rfl) (by kernel_rfl) ?_
    clear ha; intro a ha
    refine wpList_nil ?_
    refine then_normal ?_
    refine wp_ret ?_
    refine then_ret ?_
    refine ret_with (v := .bool true) ha (results_1 rfl ha (res_tmp (by kernel_rfl) (by kernel_rfl))) ?_
    exact ⟨rfl, s⟩
  · rw [hb] at ha; skip
    have hsm := small_few (ds := tns ds) (by simpa using hb)
    rw [List.length_map] at hsm
    have hsl : ∀ d ∈ ds, d.l.length ≤ 1000000 := fun d hd => by have := le_many2 hd hsm.2; omega
    refine wp_skip ?_
    refine then_normal ?_
    refine wp_seq ?_
    refine wp_region_lit ?_
    refine st_val (.slice A ds.length ca) ha (by kernel_rfl) (by kernel_rfl) ?_
    clear ha; intro a ha
    by_cases h0 : code (tns ds) = 0
    · have hpost := order_post h0
      refine st_call ha (by kernel_rfl) (by kernel_rfl) (order_ok W _ w A ca ds (fun w s => hr w s) hn h0 s) ?_
      rintro _ w ⟨B1, c2, o3, rfl, ho3, s⟩
      replace s : St W (Own 3 1 B1 ds.length c2 (nats o3) :: L) w := s
      refine ⟨_, rfl, ?_⟩; clear ha; intro a ha
      refine st_val (.tuple #[.slice B1 ds.length c2, .int .i64 0]) ha (by kernel_rfl) (by kernel_rfl) ?_
      clear ha; intro a ha
      refine st_val (.slice B1 ds.length c2) ha (by kernel_rfl) (by kernel_rfl) ?_
      clear ha; intro a ha
      refine st_val (.int .i64 0) ha (by kernel_rfl) (by kernel_rfl) ?_
      clear ha; intro a ha
      refine st_val (.slice B1 ds.length c2) ha (by kernel_rfl) (by kernel_rfl) ?_
      clear ha; intro a ha
      refine st_val (.int .i64 0) ha (by kernel_rfl) (by kernel_rfl) ?_
      clear ha; intro a ha
      refine wpList_nil ?_
      refine then_normal ?_
      refine wp_seq ?_
      refine wp_seq ?_
      refine wp_region_lit ?_
      refine st_val (.int .i64 0) ha (by kernel_rfl) (by kernel_rfl) ?_
      clear ha; intro a ha
      refine st_val (.bool false) ha (by kernel_rfl) (by kernel_rfl) ?_
      clear ha; intro a ha
      refine wpList_nil ?_
      refine then_normal ?_
      refine wp_false ha rfl (by kernel_rfl) ?_
      refine wp_skip ?_
      refine then_normal ?_
      refine wp_seq ?_
      refine wp_region_lit ?_
      refine st_val (.slice A ds.length ca) ha (by kernel_rfl) (by kernel_rfl) ?_
      clear ha; intro a ha
      refine st_call ha (by kernel_rfl) (by kernel_rfl) (should_any W _ w A ca ds (fun w s => hr w s.tail) hn (by omega) hsl s) ?_
      rintro _ w ⟨B4, c5, ds6, rfl, hds6, hds6l, s⟩
      replace s : St W (Own 80 4 B4 ds.length c5 (nvs ds6) :: Inn 81 ds6 :: Own 3 1 B1 ds.length c2 (nats o3) :: L) w := s
      refine ⟨_, rfl, ?_⟩; clear ha; intro a ha
      refine st_call ha (by kernel_rfl) (by kernel_rfl) (right_c W _ w B4 c5 ds ds6 (nest_knows (i := 0) (j := 1) (e1 := 80) (e2 := 81) (by rw [hds6l]; rfl) rfl (fun w s => hr w s.tail.tail.tail) hds6) hn hds6 h0 s) ?_
      rintro _ w ⟨C7, c8, es, or_, rfl, hel, hor, hir, hbe, hcbe, s⟩
      obtain rfl := ho3.unique hor
      replace s : St W (Kn (fun w => DonesIn B4 ds6 w → DonesIn C7 es w) :: Own 80 4 B4 ds.length c5 (nvs ds6) :: Inn 81 ds6 :: Own 3 1 B1 ds.length c2 (nats o3) :: L) w := s
      have hel2 : many (tns es) ≤ 400 := by rw [hir.many ho3]; exact hsm.2
      replace s : St W (Kn (fun w => DonesIn B4 ds6 w → DonesIn C7 es w) :: Own 80 4 B4 ds.length c5 (nvs ds6) :: Inn 81 ds6 :: Own 3 1 B1 ds.length c2 (nats o3) :: L) w := s
      refine ⟨_, rfl, ?_⟩; clear ha; intro a ha
      refine st_call ha (by kernel_rfl) (by kernel_rfl) (with_n W _ w C7 c8 ds.length es hel (kn_mp (j := 0) rfl (nest_knows (i := 1) (j := 2) (e1 := 80) (e2 := 81) (by rw [hds6l]; rfl) rfl (fun w s => hr w s.tail.tail.tail.tail) hds6)) hbe (by omega) (fun d hd => Nat.le_trans (le_many2 hd hel2) (by decide)) s) ?_
      rintro _ w ⟨C9, c10, fs, rfl, hcf, hfl, s⟩
      have hft : tns fs = tns es := hcf.tns
      have hf0 : code (tns fs) = 0 := by rw [hft]; exact hir.code ho3 h0
      have hfo : IsOrd (tns fs) o3 := by rw [hft]; exact hir.ord ho3
      have hfq : first [] (things (tns fs) o3) = none := by rw [hft]; exact hir.quiet
      have hfb : Bn fs := hcf.bn hbe
      have hfm : many (tns fs) ≤ 400 := by rw [hft]; exact hel2
      replace s : St W (Own 27 4 C9 ds.length c10 (nvs fs) :: Inn 51 fs :: Kn (fun w => DonesIn B4 ds6 w → DonesIn C7 es w) :: Own 80 4 B4 ds.length c5 (nvs ds6) :: Inn 81 ds6 :: Own 3 1 B1 ds.length c2 (nats o3) :: L) w := s
      refine ⟨_, rfl, ?_⟩; clear ha; intro a ha
      refine st_val (.slice C9 ds.length c10) ha (by kernel_rfl) (by kernel_rfl) ?_
      clear ha; intro a ha
      refine wpList_nil ?_
      refine then_normal ?_
      refine wp_seq ?_
      refine wp_region_lit ?_
      refine st_val (.slice C9 ds.length c10) ha (by kernel_rfl) (by kernel_rfl) ?_
      clear ha; intro a ha
      refine st_call ha (by kernel_rfl) (by kernel_rfl) (rows_okN W _ w C9 c10 fs _ hfl (nest_knows (i := 0) (j := 1) (e1 := 27) (e2 := 51) (by rw [hfl]; rfl) rfl (kn_mp (j := 2) rfl (nest_knows (i := 3) (j := 4) (e1 := 80) (e2 := 81) (by rw [hds6l]; rfl) rfl (fun w s => hr w s.tail.tail.tail.tail.tail.tail) hds6)) hcf) hfb hW hf0 s) ?_
      rintro _ w ⟨D11, c12, or2, rfl, hor2, s⟩
      obtain rfl := hfo.unique hor2
      have hRl : (rowsOf (tns fs) o3).length ≤ 400 := by have := left_take_le hfo o3.length; rw [List.take_length] at this; unfold rowsOf; omega
      replace s : St W (Own 54 2 D11 ((rowsOf (tns fs) o3).length) c12 (rws (rowsOf (tns fs) o3)) :: Own 27 4 C9 ds.length c10 (nvs fs) :: Inn 51 fs :: Kn (fun w => DonesIn B4 ds6 w → DonesIn C7 es w) :: Own 80 4 B4 ds.length c5 (nvs ds6) :: Inn 81 ds6 :: Own 3 1 B1 ds.length c2 (nats o3) :: L) w := s
      refine ⟨_, rfl, ?_⟩; clear ha; intro a ha
      refine st_val (.tuple #[.slice D11 ((rowsOf (tns fs) o3).length) c12, .int .i64 0]) ha (by kernel_rfl) (by kernel_rfl) ?_
      clear ha; intro a ha
      refine st_val (.slice D11 ((rowsOf (tns fs) o3).length) c12) ha (by kernel_rfl) (by kernel_rfl) ?_
      clear ha; intro a ha
      refine st_val (.int .i64 0) ha (by kernel_rfl) (by kernel_rfl) ?_
      clear ha; intro a ha
      refine st_val (.slice D11 ((rowsOf (tns fs) o3).length) c12) ha (by kernel_rfl) (by kernel_rfl) ?_
      clear ha; intro a ha
      refine st_val (.int .i64 0) ha (by kernel_rfl) (by kernel_rfl) ?_
      clear ha; intro a ha
      refine wpList_nil ?_
      refine then_normal ?_
      refine wp_seq ?_
      refine wp_region_lit ?_
      refine st_val (.agg #[.int .i64 1099511627776, .int .i64 1048575]) ha (by kernel_rfl) (by kernel_rfl) ?_
      clear ha; intro a ha
      refine st_val (.agg #[.string (str []), .string (str [255, 255, 255])]) ha (by kernel_rfl) (by kernel_rfl) ?_
      clear ha; intro a ha
      refine st_val (.slice D11 ((rowsOf (tns fs) o3).length) c12) ha (by kernel_rfl) (by kernel_rfl) ?_
      clear ha; intro a ha
      refine st_val (.agg #[.int .i64 2, .string (str []), .string (str []), .string (str []), .string (str [255, 255, 255]), .bool false, .slice D11 ((rowsOf (tns fs) o3).length) c12]) ha (by kernel_rfl) (by kernel_rfl) ?_
      clear ha; intro a ha
      refine st_ex ha (by kernel_rfl) (ex_buildSlice elt25 _ zs25 [.int .i64 2, .string (str []), .string (str []), .string (str []), .string (str [255, 255, 255]), .bool false, .slice D11 ((rowsOf (tns fs) o3).length) c12] s rfl (by kernel_rfl) (by decide)) ?_
      clear ha; rintro _ w a ⟨g13, rfl, s⟩ ha
      replace s : St W (.blk g13 [.int .i64 2, .string (str []), .string (str []), .string (str []), .string (str [255, 255, 255]), .bool false, .slice D11 ((rowsOf (tns fs) o3).length) c12] 51 :: Own 54 2 D11 ((rowsOf (tns fs) o3).length) c12 (rws (rowsOf (tns fs) o3)) :: Own 27 4 C9 ds.length c10 (nvs fs) :: Inn 51 fs :: Kn (fun w => DonesIn B4 ds6 w → DonesIn C7 es w) :: Own 80 4 B4 ds.length c5 (nvs ds6) :: Inn 81 ds6 :: Own 3 1 B1 ds.length c2 (nats o3) :: L) w := s
      refine st_val (.agg #[.int .i64 9007199254740991, .int .i64 1099511627776, .int .i64 1048575, .slice (some ⟨g13, 0, none⟩) 1 1]) ha (by kernel_rfl) (by kernel_rfl) ?_
      clear ha; intro a ha
      refine st_ex ha (by kernel_rfl) (ex_alloc [.int .i64 0, .int .i64 0, .int .i64 0, .slice none 0 0] s rfl (Try.zeroValue27 _) (by kernel_rfl)) ?_
      clear ha; rintro _ w a ⟨g14, rfl, s⟩ ha
      replace s : St W (.blk g14 [.int .i64 0, .int .i64 0, .int .i64 0, .slice none 0 0] 27 :: .blk g13 [.int .i64 2, .string (str []), .string (str []), .string (str []), .string (str [255, 255, 255]), .bool false, .slice D11 ((rowsOf (tns fs) o3).length) c12] 51 :: Own 54 2 D11 ((rowsOf (tns fs) o3).length) c12 (rws (rowsOf (tns fs) o3)) :: Own 27 4 C9 ds.length c10 (nvs fs) :: Inn 51 fs :: Kn (fun w => DonesIn B4 ds6 w → DonesIn C7 es w) :: Own 80 4 B4 ds.length c5 (nvs ds6) :: Inn 81 ds6 :: Own 3 1 B1 ds.length c2 (nats o3) :: L) w := s
      refine st_exd ha (by kernel_rfl) (ex_store (of_ := 0) 0 [.int .i64 9007199254740991, .int .i64 1099511627776, .int .i64 1048575, .slice (some ⟨g13, 0, none⟩) 1 1] s rfl rfl (by kernel_rfl) (by kernel_rfl) (Try.sizeOf27 _) rfl (by simp [Value.oneCell']) (Nat.le_of_ble_eq_true rfl)) ?_
      clear ha; rintro w a s ha
      replace s : St W (.blk g14 [.int .i64 9007199254740991, .int .i64 1099511627776, .int .i64 1048575, .slice (some ⟨g13, 0, none⟩) 1 1] 27 :: .blk g13 [.int .i64 2, .string (str []), .string (str []), .string (str []), .string (str [255, 255, 255]), .bool false, .slice D11 ((rowsOf (tns fs) o3).length) c12] 51 :: Own 54 2 D11 ((rowsOf (tns fs) o3).length) c12 (rws (rowsOf (tns fs) o3)) :: Own 27 4 C9 ds.length c10 (nvs fs) :: Inn 51 fs :: Kn (fun w => DonesIn B4 ds6 w → DonesIn C7 es w) :: Own 80 4 B4 ds.length c5 (nvs ds6) :: Inn 81 ds6 :: Own 3 1 B1 ds.length c2 (nats o3) :: L) w := s
      refine wpList_nil ?_
      refine then_normal ?_
      refine wp_seq ?_
      refine wp_seq ?_
      refine wp_region_lit ?_
      refine st_val (.int .i64 0) ha (by kernel_rfl) (by kernel_rfl) ?_
      clear ha; intro a ha
      refine st_val (.bool false) ha (by kernel_rfl) (by kernel_rfl) ?_
      clear ha; intro a ha
      refine st_val (.bool false) ha (by kernel_rfl) (by kernel_rfl) ?_
      clear ha; intro a ha
      refine st_val (.slice C9 ds.length c10) ha (by kernel_rfl) (by kernel_rfl) ?_
      clear ha; intro a ha
      refine st_call ha (by kernel_rfl) (by kernel_rfl) (finds_n W hW _ w C9 c10 ds.length fs hfl (nest_knows (i := 3) (j := 4) (e1 := 27) (e2 := 51) (by rw [hfl]; rfl) rfl (kn_mp (j := 5) rfl (nest_knows (i := 6) (j := 7) (e1 := 80) (e2 := 81) (by rw [hds6l]; rfl) rfl (fun w s => hr w s.tail.tail.tail.tail.tail.tail.tail.tail.tail) hds6)) hcf) hfb 0 0 false hf0 hfo (found_quiet hfq) s) ?_
      rintro _ w ⟨rfl, s⟩
      replace s : St W (.blk g14 [.int .i64 9007199254740991, .int .i64 1099511627776, .int .i64 1048575, .slice (some ⟨g13, 0, none⟩) 1 1] 27 :: .blk g13 [.int .i64 2, .string (str []), .string (str []), .string (str []), .string (str [255, 255, 255]), .bool false, .slice D11 ((rowsOf (tns fs) o3).length) c12] 51 :: Own 54 2 D11 ((rowsOf (tns fs) o3).length) c12 (rws (rowsOf (tns fs) o3)) :: Own 27 4 C9 ds.length c10 (nvs fs) :: Inn 51 fs :: Kn (fun w => DonesIn B4 ds6 w → DonesIn C7 es w) :: Own 80 4 B4 ds.length c5 (nvs ds6) :: Inn 81 ds6 :: Own 3 1 B1 ds.length c2 (nats o3) :: L) w := s
      refine ⟨_, rfl, ?_⟩; clear ha; intro a ha
      refine st_val (.bool false) ha (by kernel_rfl) (by kernel_rfl) ?_
      clear ha; intro a ha
      refine st_val (.bool false) ha (by kernel_rfl) (by kernel_rfl) ?_
      clear ha; intro a ha
      refine wpList_nil ?_
      refine then_normal ?_
      refine wp_false ha rfl (by kernel_rfl) ?_
      refine wp_skip ?_
      refine then_normal ?_
      refine wp_seq ?_
      refine wp_seq ?_
      refine wp_region_lit ?_
      refine st_val (.int .i64 0) ha (by kernel_rfl) (by kernel_rfl) ?_
      clear ha; intro a ha
      refine wpList_nil ?_
      refine then_normal ?_
      refine wp_block ?_
      refine wp_loopG (G := Nat) (fun k a w => Has a 92 [(0, .slice A ds.length ca), (9, .slice C9 ds.length c10), (10, .slice D11 ((rowsOf (tns fs) o3).length) c12), (12, .pointer (some ⟨g14, 0, none⟩)), (13, .int .i64 ((k : Nat) : Int))] ∧ St W (.blk g14 [.int .i64 9007199254740991, .int .i64 1099511627776, .int .i64 1048575, .slice (some ⟨g13, 0, none⟩) 1 1] 27 :: .blk g13 [.int .i64 2, .string (str []), .string (str []), .string (str []), .string (str [255, 255, 255]), .bool false, .slice D11 ((rowsOf (tns fs) o3).length) c12] 51 :: Own 54 2 D11 ((rowsOf (tns fs) o3).length) c12 (rws (rowsOf (tns fs) o3)) :: Own 27 4 C9 ds.length c10 (nvs fs) :: Inn 51 fs :: Kn (fun w => DonesIn B4 ds6 w → DonesIn C7 es w) :: Own 80 4 B4 ds.length c5 (nvs ds6) :: Inn 81 ds6 :: Own 3 1 B1 ds.length c2 (nats o3) :: L) w ∧ (k ≤ ds.length ∧ ∀ d ∈ ds.take k, d.id ≠ 9007199254740991)) (fun k => ds.length - k) 0 ?_ ?_
      · exact ⟨(Has.cons ha (by kernel_rfl) (by kernel_rfl) (Has.cons ha (by kernel_rfl) (by kernel_rfl) (Has.cons ha (by kernel_rfl) (by kernel_rfl) (Has.cons ha (by kernel_rfl) (by kernel_rfl) (Has.cons ha (by kernel_rfl) (by kernel_rfl) (Has.nil ha)))))), s, ⟨Nat.zero_le _, by simp⟩⟩
      · clear ha s; rintro k a w ⟨ha, s, hp⟩
        refine wp_seq ?_
        refine wp_seq ?_
        refine wp_region_lit ?_
        refine st_val (.int .i64 ((k : Nat) : Int)) ha (by kernel_rfl) (by kernel_rfl) ?_
        clear ha; intro a ha
        refine st_val (.slice A ds.length ca) ha (by kernel_rfl) (by kernel_rfl) ?_
        clear ha; intro a ha
        refine st_val (.int .i64 ((ds.length : Nat) : Int)) ha (by kernel_rfl) (by kernel_rfl) ?_
        clear ha; intro a ha
        refine st_val (.bool (decide (((k : Nat) : Int) < ((ds.length : Nat) : Int)))) ha (by kernel_rfl) (by kernel_rfl) ?_
        clear ha; intro a ha
        refine wpList_nil ?_
        refine then_normal ?_
        refine wp_part (decide (((k : Nat) : Int) < ((ds.length : Nat) : Int))) ha rfl (by kernel_rfl) (fun hb => ?_) (fun hb => ?_)
        · rw [hb] at ha; replace hb : (((k : Nat) : Int) < ((ds.length : Nat) : Int)) := of_decide_eq_true hb
          obtain ⟨d, hd⟩ : ∃ d, ds[k]? = some d := ⟨_, List.getElem?_eq_getElem (by omega)⟩
          have hdl := (hn.row hd).1
          obtain ⟨ad, hA⟩ := Reads.addr (hr _ s.sat.tail.tail.tail.tail.tail.tail.tail.tail.tail).1 (by omega)
          subst hA
          refine wp_skip ?_
          refine then_normal ?_
          refine wp_seq ?_
          refine wp_block ?_
          refine wp_seq ?_
          refine wp_region_lit ?_
          refine st_val (.slice (some ad) ds.length ca) ha (by kernel_rfl) (by kernel_rfl) ?_
          clear ha; intro a ha
          refine st_val (.int .i64 ((k : Nat) : Int)) ha (by kernel_rfl) (by kernel_rfl) ?_
          clear ha; intro a ha
          refine st_val (.pointer (some (ad.add (k * 4)))) ha (by kernel_rfl) (run_indexAddr' (kd := .i64) (i := ((k : Nat) : Int)) (n := ds.length) (c := ca) k rfl Try.underlying22 Try.sizeOf27 (by kernel_rfl) (by kernel_rfl) rfl (by first | assumption | omega) _) ?_
          clear ha; intro a ha
          refine st_val (.pointer (some (ad.add (k * 4 + 0)))) ha (by kernel_rfl) (run_fieldAddr_at (i := k * 4) (off := 0) rfl Try.underlying27 rfl Try.sizeOf3 (by kernel_rfl) _) ?_
          clear ha; intro a ha
          refine st_val (.int .i64 d.id) ha (by kernel_rfl) (run_loadAt1 (i := k * 4 + 0) ((hr _ s.sat.tail.tail.tail.tail.tail.tail.tail.tail.tail).1) rfl (by kernel_rfl) Try.isAgg3 (by rw [nvs_at hd (by omega)]; rfl)) ?_
          clear ha; intro a ha
          refine st_val (.bool (d.id == (9007199254740991 : Int))) ha (by kernel_rfl) (by kernel_rfl) ?_
          clear ha; intro a ha
          refine wpList_nil ?_
          refine then_normal ?_
          refine wp_part (d.id == (9007199254740991 : Int)) ha rfl (by kernel_rfl) (fun hb => ?_) (fun hb => ?_)
          · rw [hb] at ha; have hb_ := hb; replace hb := eq_of_beq hb
            refine wp_seq ?_
            refine wp_region_lit ?_
            refine st_val (.bool true) ha (by kernel_rfl) (by kernel_rfl) ?_
            clear ha; intro a ha
            refine wpList_nil ?_
            refine then_normal ?_
            refine wp_ret ?_
            refine block_ret ?_
            refine then_ret ?_
            refine then_ret ?_
            refine block_ret ?_
            refine then_ret ?_
            refine ret_with (v := .bool true) ha (results_1 rfl ha (res_tmp (by kernel_rfl) (by kernel_rfl))) ?_
            replace s := s.tail.tail.tail.tail.tail.tail.tail.tail.tail
            replace s : St W (L) w := s
            exact ⟨rfl, s⟩
          · rw [hb] at ha; have hb_ := hb; replace hb := ne_of_beq_false hb
            have hne : d.id ≠ 9007199254740991 := by simpa using hb
            refine wp_skip ?_
            refine block_normal ?_
            refine then_normal ?_
            refine wp_region_lit ?_
            refine st_val (.int .i64 ((k : Nat) : Int)) ha (by kernel_rfl) (by kernel_rfl) ?_
            clear ha; intro a ha
            refine st_val (.int .i64 ((k + 1 : Nat) : Int)) ha (by kernel_rfl) (run_arith (((k : Nat) : Int) + (1 : Int)) ((k + 1 : Nat) : Int) rfl (by kernel_rfl) (by kernel_rfl) (.inl ⟨rfl, rfl⟩) (by rw [wrap64_in (by omega)]; try omega) _) ?_
            clear ha; intro a ha
            refine st_val (.int .i64 ((k + 1 : Nat) : Int)) ha (by kernel_rfl) (by kernel_rfl) ?_
            clear ha; intro a ha
            refine wpList_nil ?_
            refine then_normal ?_
            exact ⟨k + 1, (show ds.length - (k + 1) < ds.length - k by omega), (Has.cons ha (by kernel_rfl) (by kernel_rfl) (Has.cons ha (by kernel_rfl) (by kernel_rfl) (Has.cons ha (by kernel_rfl) (by kernel_rfl) (Has.cons ha (by kernel_rfl) (by kernel_rfl) (Has.cons ha (by kernel_rfl) (by kernel_rfl) (Has.nil ha)))))), s, (show k + 1 ≤ ds.length by omega), fun y hy => by rw [take_snoc hd] at hy; exact (List.mem_append.1 hy).elim (hp.2 y) (fun hy => by rw [List.mem_singleton.1 hy]; exact hne)⟩
        · rw [hb] at ha; replace hb : ¬ (((k : Nat) : Int) < ((ds.length : Nat) : Int)) := of_decide_eq_false hb
          have hids := hp.2
          rw [List.take_of_length_le (by omega)] at hids
          clear hp
          have hidf : ∀ t ∈ tns fs, t.id ≠ 9007199254740991 := fun t ht => by have h1 : t.id ∈ ids (tns fs) := List.mem_map.2 ⟨t, ht, rfl⟩; rw [hft, hir.ids ho3] at h1; obtain ⟨t2, h2, h3⟩ := List.mem_map.1 h1; obtain ⟨d2, h4, rfl⟩ := List.mem_map.1 h2; rw [← h3]; exact hids d2 h4
          refine wp_exit ?_
          refine then_exit ?_
          refine then_exit ?_
          refine block_hit ?_
          refine then_normal ?_
          refine wp_seq ?_
          refine wp_seq ?_
          refine wp_region_lit ?_
          refine st_val (.int .i64 0) ha (by kernel_rfl) (by kernel_rfl) ?_
          clear ha; intro a ha
          refine wpList_nil ?_
          refine then_normal ?_
          refine wp_block ?_
          refine wp_loopG (G := Nat) (fun k a w => Has a 92 [(9, .slice C9 ds.length c10), (10, .slice D11 ((rowsOf (tns fs) o3).length) c12), (12, .pointer (some ⟨g14, 0, none⟩)), (14, .int .i64 ((k : Nat) : Int))] ∧ St W (.blk g14 [.int .i64 9007199254740991, .int .i64 1099511627776, .int .i64 1048575, .slice (some ⟨g13, 0, none⟩) 1 1] 27 :: .blk g13 [.int .i64 2, .string (str []), .string (str []), .string (str []), .string (str [255, 255, 255]), .bool false, .slice D11 ((rowsOf (tns fs) o3).length) c12] 51 :: Own 54 2 D11 ((rowsOf (tns fs) o3).length) c12 (rws (rowsOf (tns fs) o3)) :: Own 27 4 C9 ds.length c10 (nvs fs) :: Inn 51 fs :: Kn (fun w => DonesIn B4 ds6 w → DonesIn C7 es w) :: Own 80 4 B4 ds.length c5 (nvs ds6) :: Inn 81 ds6 :: Own 3 1 B1 ds.length c2 (nats o3) :: L) w ∧ (k ≤ (rowsOf (tns fs) o3).length ∧ ∀ r ∈ (rowsOf (tns fs) o3).take k, r.key < [255, 255, 255])) (fun k => (rowsOf (tns fs) o3).length - k) 0 ?_ ?_
          · exact ⟨(Has.cons ha (by kernel_rfl) (by kernel_rfl) (Has.cons ha (by kernel_rfl) (by kernel_rfl) (Has.cons ha (by kernel_rfl) (by kernel_rfl) (Has.cons ha (by kernel_rfl) (by kernel_rfl) (Has.nil ha))))), s, ⟨Nat.zero_le _, by simp⟩⟩
          · clear ha s; rintro k a w ⟨ha, s, hp⟩
            refine wp_seq ?_
            refine wp_seq ?_
            refine wp_region_lit ?_
            refine st_val (.int .i64 ((k : Nat) : Int)) ha (by kernel_rfl) (by kernel_rfl) ?_
            clear ha; intro a ha
            refine st_val (.slice D11 ((rowsOf (tns fs) o3).length) c12) ha (by kernel_rfl) (by kernel_rfl) ?_
            clear ha; intro a ha
            refine st_val (.int .i64 (((rowsOf (tns fs) o3).length : Nat) : Int)) ha (by kernel_rfl) (by kernel_rfl) ?_
            clear ha; intro a ha
            refine st_val (.bool (decide (((k : Nat) : Int) < (((rowsOf (tns fs) o3).length : Nat) : Int)))) ha (by kernel_rfl) (by kernel_rfl) ?_
            clear ha; intro a ha
            refine wpList_nil ?_
            refine then_normal ?_
            refine wp_part (decide (((k : Nat) : Int) < (((rowsOf (tns fs) o3).length : Nat) : Int))) ha rfl (by kernel_rfl) (fun hb => ?_) (fun hb => ?_)
            · rw [hb] at ha; replace hb : (((k : Nat) : Int) < (((rowsOf (tns fs) o3).length : Nat) : Int)) := of_decide_eq_true hb
              obtain ⟨x, hx⟩ : ∃ x, (rowsOf (tns fs) o3)[k]? = some x := ⟨_, List.getElem?_eq_getElem (by omega)⟩
              obtain ⟨aR, hAR⟩ := Own.addr (s.at_ (j := 2) rfl) (by omega)
              subst hAR
              refine wp_skip ?_
              refine then_normal ?_
              refine wp_seq ?_
              refine wp_block ?_
              refine wp_seq ?_
              refine wp_region_lit ?_
              refine st_val (.slice (some aR) ((rowsOf (tns fs) o3).length) c12) ha (by kernel_rfl) (by kernel_rfl) ?_
              clear ha; intro a ha
              refine st_val (.int .i64 ((k : Nat) : Int)) ha (by kernel_rfl) (by kernel_rfl) ?_
              clear ha; intro a ha
              refine st_val (.pointer (some (aR.add (k * 2)))) ha (by kernel_rfl) (run_indexAddr' (kd := .i64) (i := ((k : Nat) : Int)) (n := ((rowsOf (tns fs) o3).length)) (c := c12) k rfl Try.underlying35 Try.sizeOf54 (by kernel_rfl) (by kernel_rfl) rfl (by first | assumption | omega) _) ?_
              clear ha; intro a ha
              refine st_val (.pointer (some (aR.add (k * 2 + 0)))) ha (by kernel_rfl) (run_fieldAddr_at (i := k * 2) (off := 0) rfl Try.underlying54 rfl Try.sizeOf9 (by kernel_rfl) _) ?_
              clear ha; intro a ha
              refine st_val (.string (str x.key)) ha (by kernel_rfl) (run_loadAt1 (i := k * 2 + 0) ((Own.reads (s.at_ (j := 2) rfl).1)) rfl (by kernel_rfl) Try.isAgg9 (by rw [rws_at hx (by omega)]; rfl)) ?_
              clear ha; intro a ha
              refine st_val (.bool (decide ([255, 255, 255] ≤ x.key))) ha (by kernel_rfl) (run_sgeq (p := x.key) (q := [255, 255, 255]) rfl (by kernel_rfl) (by kernel_rfl) _) ?_
              clear ha; intro a ha
              refine wpList_nil ?_
              refine then_normal ?_
              refine wp_part (decide ([255, 255, 255] ≤ x.key)) ha rfl (by kernel_rfl) (fun hb => ?_) (fun hb => ?_)
              · rw [hb] at ha; replace hb : ([255, 255, 255] ≤ x.key) := of_decide_eq_true hb
                refine wp_seq ?_
                refine wp_region_lit ?_
                refine st_val (.bool true) ha (by kernel_rfl) (by kernel_rfl) ?_
                clear ha; intro a ha
                refine wpList_nil ?_
                refine then_normal ?_
                refine wp_ret ?_
                refine block_ret ?_
                refine then_ret ?_
                refine then_ret ?_
                refine block_ret ?_
                refine then_ret ?_
                refine ret_with (v := .bool true) ha (results_1 rfl ha (res_tmp (by kernel_rfl) (by kernel_rfl))) ?_
                replace s := s.tail.tail.tail.tail.tail.tail.tail.tail.tail
                replace s : St W (L) w := s
                exact ⟨rfl, s⟩
              · rw [hb] at ha; replace hb : ¬ ([255, 255, 255] ≤ x.key) := of_decide_eq_false hb
                have hne : x.key < [255, 255, 255] := by have h := hb; grind
                refine wp_skip ?_
                refine block_normal ?_
                refine then_normal ?_
                refine wp_region_lit ?_
                refine st_val (.int .i64 ((k : Nat) : Int)) ha (by kernel_rfl) (by kernel_rfl) ?_
                clear ha; intro a ha
                refine st_val (.int .i64 ((k + 1 : Nat) : Int)) ha (by kernel_rfl) (run_arith (((k : Nat) : Int) + (1 : Int)) ((k + 1 : Nat) : Int) rfl (by kernel_rfl) (by kernel_rfl) (.inl ⟨rfl, rfl⟩) (by rw [wrap64_in (by omega)]; try omega) _) ?_
                clear ha; intro a ha
                refine st_val (.int .i64 ((k + 1 : Nat) : Int)) ha (by kernel_rfl) (by kernel_rfl) ?_
                clear ha; intro a ha
                refine wpList_nil ?_
                refine then_normal ?_
                exact ⟨k + 1, (show (rowsOf (tns fs) o3).length - (k + 1) < (rowsOf (tns fs) o3).length - k by omega), (Has.cons ha (by kernel_rfl) (by kernel_rfl) (Has.cons ha (by kernel_rfl) (by kernel_rfl) (Has.cons ha (by kernel_rfl) (by kernel_rfl) (Has.cons ha (by kernel_rfl) (by kernel_rfl) (Has.nil ha))))), s, (show k + 1 ≤ (rowsOf (tns fs) o3).length by omega), fun y hy => by rw [take_snoc hx] at hy; exact (List.mem_append.1 hy).elim (hp.2 y) (fun hy => by rw [List.mem_singleton.1 hy]; exact hne)⟩
            · rw [hb] at ha; replace hb : ¬ (((k : Nat) : Int) < (((rowsOf (tns fs) o3).length : Nat) : Int)) := of_decide_eq_false hb
              have hkeys := hp.2
              rw [List.take_of_length_le (by omega)] at hkeys
              clear hp
              refine wp_exit ?_
              refine then_exit ?_
              refine then_exit ?_
              refine block_hit ?_
              refine then_normal ?_
              refine wp_seq ?_
              refine wp_region_lit ?_
              refine st_val (.slice C9 ds.length c10) ha (by kernel_rfl) (by kernel_rfl) ?_
              clear ha; intro a ha
              refine st_val (.agg #[.int .i64 9007199254740991, .int .i64 1099511627776, .int .i64 1048575, .slice (some ⟨g13, 0, none⟩) 1 1]) ha (by kernel_rfl) (run_loadN (of_ := 0) [.int .i64 9007199254740991, .int .i64 1099511627776, .int .i64 1048575, .slice (some ⟨g13, 0, none⟩) 1 1] (s.blkIs 0 rfl) rfl (by kernel_rfl) Try.isAgg27 Try.sizeOf27 rfl (Nat.le_of_ble_eq_true rfl)) ?_
              clear ha; intro a ha
              refine st_ex ha (by kernel_rfl) (ex_buildSlice elt22 _ zs22 [.int .i64 9007199254740991, .int .i64 1099511627776, .int .i64 1048575, .slice (some ⟨g13, 0, none⟩) 1 1] s rfl (by kernel_rfl) (by decide)) ?_
              clear ha; rintro _ w a ⟨g15, rfl, s⟩ ha
              replace s : St W (.blk g15 [.int .i64 9007199254740991, .int .i64 1099511627776, .int .i64 1048575, .slice (some ⟨g13, 0, none⟩) 1 1] 27 :: .blk g14 [.int .i64 9007199254740991, .int .i64 1099511627776, .int .i64 1048575, .slice (some ⟨g13, 0, none⟩) 1 1] 27 :: .blk g13 [.int .i64 2, .string (str []), .string (str []), .string (str []), .string (str [255, 255, 255]), .bool false, .slice D11 ((rowsOf (tns fs) o3).length) c12] 51 :: Own 54 2 D11 ((rowsOf (tns fs) o3).length) c12 (rws (rowsOf (tns fs) o3)) :: Own 27 4 C9 ds.length c10 (nvs fs) :: Inn 51 fs :: Kn (fun w => DonesIn B4 ds6 w → DonesIn C7 es w) :: Own 80 4 B4 ds.length c5 (nvs ds6) :: Inn 81 ds6 :: Own 3 1 B1 ds.length c2 (nats o3) :: L) w := s
              refine st_ex ha (by kernel_rfl) (ex_append (m := 1) (d' := 1) elt22 (by decide) 4 [.int .i64 9007199254740991, .int .i64 1099511627776, .int .i64 1048575, .slice (some ⟨g13, 0, none⟩) 1 1] s rfl (by kernel_rfl) (by kernel_rfl) rfl (reads_blk (s.blkIs 0 rfl) rfl) (by simp [Value.oneCell']) (by simp only [maxLen]; omega) (by omega)) ?_
              clear ha; rintro _ w a ⟨A16, c17, rfl, hA_, s⟩ ha
              rw [show [.int .i64 9007199254740991, .int .i64 1099511627776, .int .i64 1048575, .slice (some ⟨g13, 0, none⟩) 1 1] = nv (lastD g13 D11 c12 (rowsOf (tns fs) o3)) from rfl, nvs_snoc] at s
              replace s : St W (.blk g15 [.int .i64 9007199254740991, .int .i64 1099511627776, .int .i64 1048575, .slice (some ⟨g13, 0, none⟩) 1 1] 27 :: .blk g14 [.int .i64 9007199254740991, .int .i64 1099511627776, .int .i64 1048575, .slice (some ⟨g13, 0, none⟩) 1 1] 27 :: .blk g13 [.int .i64 2, .string (str []), .string (str []), .string (str []), .string (str [255, 255, 255]), .bool false, .slice D11 ((rowsOf (tns fs) o3).length) c12] 51 :: Own 54 2 D11 ((rowsOf (tns fs) o3).length) c12 (rws (rowsOf (tns fs) o3)) :: Own 27 4 A16 (ds.length + 1) c17 (nvs (fs ++ [(lastD g13 D11 c12 (rowsOf (tns fs) o3))])) :: Inn 51 fs :: Kn (fun w => DonesIn B4 ds6 w → DonesIn C7 es w) :: Own 80 4 B4 ds.length c5 (nvs ds6) :: Inn 81 ds6 :: Own 3 1 B1 ds.length c2 (nats o3) :: L) w := s
              replace s : St W (.blk g15 [.int .i64 9007199254740991, .int .i64 1099511627776, .int .i64 1048575, .slice (some ⟨g13, 0, none⟩) 1 1] 27 :: .blk g14 [.int .i64 9007199254740991, .int .i64 1099511627776, .int .i64 1048575, .slice (some ⟨g13, 0, none⟩) 1 1] 27 :: .blk g13 [.int .i64 2, .string (str []), .string (str []), .string (str []), .string (str [255, 255, 255]), .bool false, .slice D11 ((rowsOf (tns fs) o3).length) c12] 51 :: Own 54 2 D11 ((rowsOf (tns fs) o3).length) c12 (rws (rowsOf (tns fs) o3)) :: Own 27 4 A16 (ds.length + 1) c17 (nvs (fs ++ [(lastD g13 D11 c12 (rowsOf (tns fs) o3))])) :: Inn 51 fs :: Kn (fun w => DonesIn B4 ds6 w → DonesIn C7 es w) :: Own 80 4 B4 ds.length c5 (nvs ds6) :: Inn 81 ds6 :: Own 3 1 B1 ds.length c2 (nats o3) :: L) w := s
              obtain ⟨hz0, hzo, hzq⟩ := last_law hfo hf0 ⟨by rw [List.length_map, hfl]; exact hsm.1, hfm⟩ hfq hidf hkeys
              rw [show left [] (things (tns fs) o3) = (rowsOf (tns fs) o3) from rfl] at hz0 hzo hzq
              rw [← last_tns fs g13 D11 c12] at hz0 hzo hzq
              refine st_call ha (by kernel_rfl) (by kernel_rfl) (finds_n W hW _ w A16 c17 (ds.length + 1) (fs ++ [(lastD g13 D11 c12 (rowsOf (tns fs) o3))]) (by simp [hfl]) (snoc_knows (i := 4) (e1 := 27) rfl (by rw [hfl]) (inn_knows (j := 5) (e2 := 51) rfl (kn_mp (j := 6) rfl (nest_knows (i := 7) (j := 8) (e1 := 80) (e2 := 81) (by rw [hds6l]; rfl) rfl (fun w s => hr w s.tail.tail.tail.tail.tail.tail.tail.tail.tail.tail) hds6)) hcf) (fun w s => ⟨(Knows.reads_blk (j := 2) (k := 7) (n := 1) rfl) w s, fun x hx => by rw [List.mem_singleton.1 hx]; exact (Knows.own (j := 3) rfl) w s⟩)) (last_bn hfb (by omega) _ _ _ (by omega)) 0 0 false hz0 hzo (found_quiet hzq) s) ?_
              rintro _ w ⟨rfl, s⟩
              replace s : St W (.blk g15 [.int .i64 9007199254740991, .int .i64 1099511627776, .int .i64 1048575, .slice (some ⟨g13, 0, none⟩) 1 1] 27 :: .blk g14 [.int .i64 9007199254740991, .int .i64 1099511627776, .int .i64 1048575, .slice (some ⟨g13, 0, none⟩) 1 1] 27 :: .blk g13 [.int .i64 2, .string (str []), .string (str []), .string (str []), .string (str [255, 255, 255]), .bool false, .slice D11 ((rowsOf (tns fs) o3).length) c12] 51 :: Own 54 2 D11 ((rowsOf (tns fs) o3).length) c12 (rws (rowsOf (tns fs) o3)) :: Own 27 4 A16 (ds.length + 1) c17 (nvs (fs ++ [(lastD g13 D11 c12 (rowsOf (tns fs) o3))])) :: Inn 51 fs :: Kn (fun w => DonesIn B4 ds6 w → DonesIn C7 es w) :: Own 80 4 B4 ds.length c5 (nvs ds6) :: Inn 81 ds6 :: Own 3 1 B1 ds.length c2 (nats o3) :: L) w := s
              refine ⟨_, rfl, ?_⟩; clear ha; intro a ha
              refine st_val (.bool true) ha (by kernel_rfl) (by kernel_rfl) ?_
              clear ha; intro a ha
              refine wpList_nil ?_
              refine then_normal ?_
              refine wp_ret ?_
              refine ret_with (v := .bool true) ha (results_1 rfl ha (res_tmp (by kernel_rfl) (by kernel_rfl))) ?_
              replace s := s.tail.tail.tail.tail.tail.tail.tail.tail.tail.tail
              replace s : St W (L) w := s
              exact ⟨rfl, s⟩
    · skip
      refine st_call ha (by kernel_rfl) (by kernel_rfl) (order_no W _ w A ca ds (fun w s => hr w s) hn h0 s) ?_
      rintro _ w ⟨rfl, s⟩
      replace s : St W (L) w := s
      refine ⟨_, rfl, ?_⟩; clear ha; intro a ha
      refine st_val (.tuple #[.slice none 0 0, .int .i64 (code (tns ds))]) ha (by kernel_rfl) (by kernel_rfl) ?_
      clear ha; intro a ha
      refine st_val (.slice none 0 0) ha (by kernel_rfl) (by kernel_rfl) ?_
      clear ha; intro a ha
      refine st_val (.int .i64 (code (tns ds))) ha (by kernel_rfl) (by kernel_rfl) ?_
      clear ha; intro a ha
      refine st_val (.slice none 0 0) ha (by kernel_rfl) (by kernel_rfl) ?_
      clear ha; intro a ha
      refine st_val (.int .i64 (code (tns ds))) ha (by kernel_rfl) (by kernel_rfl) ?_
      clear ha; intro a ha
      refine wpList_nil ?_
      refine then_normal ?_
      refine wp_seq ?_
      refine wp_seq ?_
      refine wp_region_lit ?_
      refine st_val (.int .i64 (code (tns ds))) ha (by kernel_rfl) (by kernel_rfl) ?_
      clear ha; intro a ha
      refine st_val (.bool true) ha (by kernel_rfl) (run_known (show ((code (tns ds)) != (0 : Int)) = true from bne_iff_ne.2 (by omega)) (by kernel_rfl)) ?_
      clear ha; intro a ha
      refine wpList_nil ?_
      refine then_normal ?_
      refine wp_true ha rfl (by kernel_rfl) ?_
      refine wp_seq ?_
      refine wp_region_lit ?_
      refine st_val (.slice A ds.length ca) ha (by kernel_rfl) (by kernel_rfl) ?_
      clear ha; intro a ha
      refine st_call ha (by kernel_rfl) (by kernel_rfl) (check_no W hW _ w A ca ds (fun w s => hr w s) hn h0 s) ?_
      rintro _ w ⟨rfl, s⟩
      replace s : St W (L) w := s
      refine ⟨_, rfl, ?_⟩; clear ha; intro a ha
      refine st_val (.tuple #[.int .i64 0, .int .i64 0, .bool false, .int .i64 (code (tns ds))]) ha (by kernel_rfl) (by kernel_rfl) ?_
      clear ha; intro a ha
      refine st_val (.int .i64 0) ha (by kernel_rfl) (by kernel_rfl) ?_
      clear ha; intro a ha
      refine st_val (.int .i64 0) ha (by kernel_rfl) (by kernel_rfl) ?_
      clear ha; intro a ha
      refine st_val (.bool false) ha (by kernel_rfl) (by kernel_rfl) ?_
      clear ha; intro a ha
      refine st_val (.int .i64 (code (tns ds))) ha (by kernel_rfl) (by kernel_rfl) ?_
      clear ha; intro a ha
      refine st_val (.int .i64 0) ha (by kernel_rfl) (by kernel_rfl) ?_
      clear ha; intro a ha
      refine st_val (.int .i64 0) ha (by kernel_rfl) (by kernel_rfl) ?_
      clear ha; intro a ha
      refine st_val (.bool false) ha (by kernel_rfl) (by kernel_rfl) ?_
      clear ha; intro a ha
      refine st_val (.int .i64 (code (tns ds))) ha (by kernel_rfl) (by kernel_rfl) ?_
      clear ha; intro a ha
      refine wpList_nil ?_
      refine then_normal ?_
      refine wp_seq ?_
      refine wp_region_lit ?_
      refine st_val (.int .i64 (code (tns ds))) ha (by kernel_rfl) (by kernel_rfl) ?_
      clear ha; intro a ha
      refine st_val (.int .i64 (code (tns ds))) ha (by kernel_rfl) (by kernel_rfl) ?_
      clear ha; intro a ha
      refine st_val (.bool true) ha (by kernel_rfl) (run_known (beq_self_eq_true _) (show (execOp (evalE _) _).run _ _ = .ok (.value (.bool ((code (tns ds)) == (code (tns ds))))) _ from by kernel_rfl)) ?_
      clear ha; intro a ha
      refine st_val (.bool true) ha (by kernel_rfl) (by kernel_rfl) ?_
      clear ha; intro a ha
      refine st_val (.bool false) ha (by kernel_rfl) (by kernel_rfl) ?_
      clear ha; intro a ha
      refine st_val (.bool true) ha (by kernel_rfl) (by kernel_rfl) ?_
      clear ha; intro a ha
      refine st_val (.bool true) ha (by kernel_rfl) (by kernel_rfl) ?_
      clear ha; intro a ha
      refine st_val (.bool true) ha (by kernel_rfl) (by kernel_rfl) ?_
      clear ha; intro a ha
      refine wpList_nil ?_
      refine then_normal ?_
      refine wp_ret ?_
      refine then_ret ?_
      refine ret_with (v := .bool true) ha (results_1 rfl ha (res_tmp (by kernel_rfl) (by kernel_rfl))) ?_
      exact ⟨rfl, s⟩

end Go.Proofs.Ytidfniglnmfphaa.B
