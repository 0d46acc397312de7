import Derived.Test.YtidfniglnmfphaaDoorB10
namespace Go.Proofs.YtidfniglnmfphaaDoor.B
open Go.RowKit Go.Maps Go.Sort Go.Shelf Go.Proofs.YtidfniglnmfphaaDoor.Sep Go.Proofs.YtidfniglnmfphaaDoor.P
set_option linter.unusedVariables false
set_option linter.unusedSimpArgs false
/-- What is known of some memory, and of nothing else. -/
def Kn (p : World → Prop) : Chunk := .oth fun h => ∀ w, Hp.sub h (hp w) → p w
theorem kn_of {W w : World} {M L : List Chunk} {p : World → Prop} (hk : Knows M p) (s : St W (M ++ L) w) : St W (Kn p :: L) w := by
  obtain ⟨h1, h2, a, s1, s2, x, y⟩ := SatH.append_iff.1 s.1
  exact ⟨⟨h1, h2, a, s1, s2, fun w hw => hk w (SatH.mono x hw), y⟩, s.2⟩
theorem Knows.kn {L : List Chunk} {j : Nat} {p : World → Prop} (h : L[j]? = some (Kn p)) : Knows L p := fun w s => by
  obtain ⟨h1, h2, a, s1, s2, x, y⟩ := s.perm (perm_at h)
  exact x w s1
/-- The same, but for where things lie. -/
def core (d : Dn) : Int × Int × Int × List Dd := (d.id, d.wall, d.logic, d.l)
def Copy (ds ds2 : List Dn) : Prop := ds2.map core = ds.map core
theorem Copy.tns {ds ds2 : List Dn} (h : Copy ds ds2) : tns ds2 = tns ds := by
  have := congrArg (List.map fun (x : Int × Int × Int × List Dd) => (⟨x.1, x.2.1, x.2.2.1, x.2.2.2.map (·.t)⟩ : Tn)) h
  rw [List.map_map, List.map_map] at this
  exact this
theorem Copy.length {ds ds2 : List Dn} (h : Copy ds ds2) : ds2.length = ds.length := by have := congrArg List.length h; simpa using this
theorem Copy.mem {ds ds2 : List Dn} (h : Copy ds ds2) {d : Dn} (hd : d ∈ ds2) : ∃ x ∈ ds, x.l = d.l := by
  have : core d ∈ ds.map core := by rw [← h]; exact List.mem_map.2 ⟨d, hd, rfl⟩
  obtain ⟨x, hx, e⟩ := List.mem_map.1 this
  exact ⟨x, hx, congrArg (fun y => y.2.2.2) e⟩
theorem Copy.bn {ds ds2 : List Dn} (h : Copy ds ds2) (hn : Bn ds) : Bn ds2 := ⟨by rw [h.length]; exact hn.1, fun d hd => by
  obtain ⟨x, hx, e⟩ := h.mem hd
  rw [← e]; exact hn.2 x hx⟩
theorem Copy.nil : Copy [] [] := rfl
theorem Copy.snoc {ds ds2 : List Dn} (h : Copy ds ds2) {d e : Dn} (hd : core e = core d) : Copy (ds ++ [d]) (ds2 ++ [e]) := by
  unfold Copy at *
  rw [List.map_append, List.map_append, h]; simp [hd]
/-- The inner rows of a copy. -/
def Inn (e2 : Nat) (ds : List Dn) : Chunk := star (ds.map fun d => Own e2 7 d.A d.l.length d.c (dvs d.l))
theorem Inn.nil {W w : World} {L : List Chunk} (e2 : Nat) (s : St W L w) : St W (Inn e2 [] :: L) w := ⟨Sat.star_iff.2 s.1, s.2⟩
theorem Inn.snoc {W w : World} {L : List Chunk} {e2 : Nat} {ds : List Dn} (d : Dn) (s : St W (Own e2 7 d.A d.l.length d.c (dvs d.l) :: Inn e2 ds :: L) w) : St W (Inn e2 (ds ++ [d]) :: L) w := by
  have s1 : St W (Inn e2 ds :: Own e2 7 d.A d.l.length d.c (dvs d.l) :: L) w := s.perm (List.Perm.swap _ _ _)
  have s2 := Sat.star_iff.1 s1.1
  refine ⟨Sat.star_iff.2 ?_, s.2⟩
  simpa using s2
theorem nest_knows {L : List Chunk} {i j e1 e2 cb : Nat} {A B : Option Addr} {ds ds2 : List Dn} (hi : L[i]? = some (Own e1 4 B ds2.length cb (nvs ds2))) (hj : L[j]? = some (Inn e2 ds2)) (hr : Knows L (DonesIn A ds)) (hc : Copy ds ds2) : Knows L (DonesIn B ds2) := by
  intro w s
  refine ⟨Own.reads (s.perm (perm_at hi)), fun d hd => ⟨?_, fun x hx => ?_⟩⟩
  · have s2 := Sat.star_iff.1 (s.perm (perm_at hj))
    obtain ⟨q, hq, e⟩ := List.getElem_of_mem hd
    have : (ds2.map fun d => Own e2 7 d.A d.l.length d.c (dvs d.l))[q]? = some (Own e2 7 d.A d.l.length d.c (dvs d.l)) := by
      rw [List.getElem?_map, List.getElem?_eq_getElem hq, e]; rfl
    have h2 : ((ds2.map fun d => Own e2 7 d.A d.l.length d.c (dvs d.l)) ++ L.eraseIdx j)[q]? = some (Own e2 7 d.A d.l.length d.c (dvs d.l)) := by
      rw [List.getElem?_append_left (by simpa using hq)]; exact this
    exact Own.reads (s2.perm (perm_at h2))
  · obtain ⟨y, hy, e⟩ := hc.mem hd
    exact ((hr w s).2 y hy).2 x (by rw [e]; exact hx)
theorem nvs_snoc (ds : List Dn) (d : Dn) : nvs ds ++ nv d = nvs (ds ++ [d]) := by simp [nvs]
theorem dvs_take {l : List Dd} {k : Nat} {x : Dd} (h : l[k]? = some x) : dvs (l.take (k + 1)) = dvs (l.take k) ++ dv x := by
  rw [take_snoc h, dvs_append]; simp [dvs]
theorem reads_drop {w : World} {k n c l : Nat} {A : Option Addr} {cs : List Value} (h : Reads w k A n cs) (hl : l ≤ n) (hn : n ≤ c) : Reads w k (slA A l c k) (n - l) (cs.drop (l * k)) := by
  have := h.sub hl (Nat.le_refl n) hn
  rwa [List.extract_eq_take_drop, List.take_of_length_le (by rw [List.length_drop, h.1]; exact Nat.le_refl _)] at this
theorem flatMap_drop {α : Type} {f : α → List Value} {n : Nat} (hf : ∀ x, (f x).length = n) (l : List α) (k : Nat) (hk : k ≤ l.length) : (l.flatMap f).drop (k * n) = (l.drop k).flatMap f := by
  have e : l.flatMap f = (l.take k).flatMap f ++ (l.drop k).flatMap f := by rw [← List.flatMap_append, List.take_append_drop]
  have l1 : ((l.take k).flatMap f).length = k * n := by rw [flatMap_len hf, List.length_take, Nat.min_eq_left hk]
  rw [e, ← l1, List.drop_left]
theorem flatMap_take {α : Type} {f : α → List Value} {n : Nat} (hf : ∀ x, (f x).length = n) (l : List α) (k : Nat) (hk : k ≤ l.length) : (l.flatMap f).take (k * n) = (l.take k).flatMap f := by
  have e : l.flatMap f = (l.take k).flatMap f ++ (l.drop k).flatMap f := by rw [← List.flatMap_append, List.take_append_drop]
  have l1 : ((l.take k).flatMap f).length = k * n := by rw [flatMap_len hf, List.length_take, Nat.min_eq_left hk]
  rw [e, ← l1, List.take_left]
theorem DonesIn.drop {A : Option Addr} {ds : List Dn} {w : World} (h : DonesIn A ds w) {k c : Nat} (hk : k ≤ ds.length) (hc : ds.length ≤ c) : DonesIn (slA A k c 4) (ds.drop k) w := by
  refine ⟨?_, fun d hd => h.2 d (List.mem_of_mem_drop hd)⟩
  have := reads_drop h.1 hk hc
  rw [List.length_drop]
  rwa [nvs, flatMap_drop (n := 4) (fun _ => rfl) ds k hk] at this
theorem DonesIn.take {A : Option Addr} {ds : List Dn} {w : World} (h : DonesIn A ds w) {k : Nat} (hk : k ≤ ds.length) : DonesIn A (ds.take k) w := by
  refine ⟨?_, fun d hd => h.2 d (List.mem_of_mem_take hd)⟩
  have := h.1.take hk
  rw [List.length_take, Nat.min_eq_left hk]
  rwa [nvs, flatMap_take (n := 4) (fun _ => rfl) ds k hk] at this
theorem Bn.drop {ds : List Dn} (h : Bn ds) (k : Nat) : Bn (ds.drop k) := ⟨by rw [List.length_drop]; have := h.1; omega, fun d hd => h.2 d (List.mem_of_mem_drop hd)⟩
theorem Bn.take {ds : List Dn} (h : Bn ds) (k : Nat) : Bn (ds.take k) := ⟨by rw [List.length_take]; have := h.1; omega, fun d hd => h.2 d (List.mem_of_mem_take hd)⟩

theorem eqints_any (W : World) (L : List Chunk) (w : World) (A B : Option Addr) (n ca cb : Nat) (la lb : List Nat) (hra : Knows L fun w => Reads w 1 A la.length (nats la)) (hrb : Knows L fun w => Reads w 1 B lb.length (nats lb)) (hn : lb.length ≤ 140737488351232) (s : St W L w) :
    Calls Tryd.prog 14 #[.slice A la.length ca, .slice B lb.length cb] w fun e w' => e = .returned (.bool (decide (la = lb))) ∧ St W L w' := by
  refine enter_args (l := [.slice A la.length ca, .slice B lb.length cb]) Tryd.func14 rfl rfl (Nat.le_of_ble_eq_true rfl) ?_
  intro a ha; replace ha : Has a 26 [(0, .slice A la.length ca), (1, .slice B lb.length cb)] := ha
  refine wp_seq ?_
  refine wp_region_lit ?_
  refine st_val (.bool false) ha (by kernel_rfl) (by kernel_rfl) ?_
  clear ha; intro a ha
  refine wpList_nil ?_
  refine then_normal ?_
  refine wp_seq ?_
  refine wp_seq ?_
  refine wp_region_lit ?_
  refine st_val (.slice A la.length ca) ha (by kernel_rfl) (by kernel_rfl) ?_
  clear ha; intro a ha
  refine st_val (.int .i64 ((la.length : Nat) : Int)) ha (by kernel_rfl) (by kernel_rfl) ?_
  clear ha; intro a ha
  refine st_val (.slice B lb.length cb) ha (by kernel_rfl) (by kernel_rfl) ?_
  clear ha; intro a ha
  refine st_val (.int .i64 ((lb.length : Nat) : Int)) ha (by kernel_rfl) (by kernel_rfl) ?_
  clear ha; intro a ha
  refine st_val (.bool (((la.length : Nat) : Int) != ((lb.length : Nat) : Int))) ha (by kernel_rfl) (by kernel_rfl) ?_
  clear ha; intro a ha
  refine wpList_nil ?_
  refine then_normal ?_
  refine wp_part (((la.length : Nat) : Int) != ((lb.length : Nat) : Int)) ha rfl (by kernel_rfl) (fun hb => ?_) (fun hb => ?_)
  · rw [hb] at ha; have hb_ := hb; replace hb := bne_iff_ne.1 hb
    refine wp_seq ?_
    refine wp_region_lit ?_
    refine st_val (.bool false) ha (by kernel_rfl) (by kernel_rfl) ?_
    clear ha; intro a ha
    refine wpList_nil ?_
    refine then_normal ?_
    refine wp_ret ?_
    refine then_ret ?_
    refine ret_with (v := .bool false) ha (results_1 rfl ha (res_tmp (by kernel_rfl) (by kernel_rfl))) ?_
    refine ⟨?_, s⟩
    rw [decide_eq_false (fun e => by subst e; exact hb rfl)]
  · rw [hb] at ha; have hb_ := hb; replace hb := bne_eq_false_iff_eq.1 hb
    refine wp_skip ?_
    refine then_normal ?_
    refine wp_seq ?_
    refine wp_seq ?_
    refine wp_region_lit ?_
    refine st_val (.int .i64 0) ha (by kernel_rfl) (by kernel_rfl) ?_
    clear ha; intro a ha
    refine wpList_nil ?_
    refine then_normal ?_
    refine wp_block ?_
    refine wp_loopG (G := Nat) (fun k a w => Has a 26 [(0, .slice A la.length ca), (1, .slice B lb.length cb), (5, .int .i64 ((k : Nat) : Int))] ∧ St W (L) w ∧ (k ≤ la.length ∧ la.take k = lb.take k)) (fun k => la.length - k) 0 ?_ ?_
    · exact ⟨(Has.cons ha (by kernel_rfl) (by kernel_rfl) (Has.cons ha (by kernel_rfl) (by kernel_rfl) (Has.cons ha (by kernel_rfl) (by kernel_rfl) (Has.nil ha)))), s, ⟨Nat.zero_le _, rfl⟩⟩
    · clear ha s; rintro k a w ⟨ha, s, hp⟩
      refine wp_seq ?_
      refine wp_seq ?_
      refine wp_region_lit ?_
      refine st_val (.int .i64 ((k : Nat) : Int)) ha (by kernel_rfl) (by kernel_rfl) ?_
      clear ha; intro a ha
      refine st_val (.slice A la.length ca) ha (by kernel_rfl) (by kernel_rfl) ?_
      clear ha; intro a ha
      refine st_val (.int .i64 ((la.length : Nat) : Int)) ha (by kernel_rfl) (by kernel_rfl) ?_
      clear ha; intro a ha
      refine st_val (.bool (decide (((k : Nat) : Int) < ((la.length : Nat) : Int)))) ha (by kernel_rfl) (by kernel_rfl) ?_
      clear ha; intro a ha
      refine wpList_nil ?_
      refine then_normal ?_
      refine wp_part (decide (((k : Nat) : Int) < ((la.length : Nat) : Int))) ha rfl (by kernel_rfl) (fun hb => ?_) (fun hb => ?_)
      · rw [hb] at ha; replace hb : (((k : Nat) : Int) < ((la.length : Nat) : Int)) := of_decide_eq_true hb
        obtain ⟨x, hx⟩ : ∃ x, la[k]? = some x := ⟨_, List.getElem?_eq_getElem (by omega)⟩
        obtain ⟨y, hy⟩ : ∃ y, lb[k]? = some y := ⟨_, List.getElem?_eq_getElem (by omega)⟩
        obtain ⟨ada, hA⟩ := Reads.addr (hra _ s.sat) (by omega)
        subst hA
        obtain ⟨adb, hB⟩ := Reads.addr (hrb _ s.sat) (by omega)
        subst hB
        refine wp_skip ?_
        refine then_normal ?_
        refine wp_seq ?_
        refine wp_block ?_
        refine wp_seq ?_
        refine wp_region_head 8 (fun w => Reads w 1 (some ada) la.length (nats la) ∧ Reads w 1 (some adb) lb.length (nats lb) ∧ True) (by kernel_rfl) (by decide) ?_
        replace s := s.drew; generalize _root_.Go.World.drew _ = w at s ⊢
        have hS : (fun w => Reads w 1 (some ada) la.length (nats la) ∧ Reads w 1 (some adb) lb.length (nats lb) ∧ True) w := ⟨(hra _ s.sat), (hrb _ s.sat), trivial⟩
        refine hd_val (i := 0) (.slice (some ada) la.length ca) ha rfl (by kernel_rfl) (fun _ _ _ h => h) (by kernel_rfl) (fun w hS => (by kernel_rfl)) hS ?_
        clear ha; intro a ha
        refine hd_val (i := 1) (.int .i64 ((k : Nat) : Int)) ha rfl (by kernel_rfl) (fun _ _ _ h => h) (by kernel_rfl) (fun w hS => (by kernel_rfl)) hS ?_
        clear ha; intro a ha
        refine hd_val (i := 2) (.pointer (some (ada.add (k * 1)))) ha rfl (by kernel_rfl) (fun _ _ _ h => h) (by kernel_rfl) (fun w hS => (run_indexAddr' (kd := .i64) (i := ((k : Nat) : Int)) (n := la.length) (c := ca) k rfl Tryd.underlying22 Tryd.sizeOf3 (by kernel_rfl) (by kernel_rfl) rfl (by first | assumption | omega) _)) hS ?_
        clear ha; intro a ha
        refine hd_val (i := 3) (.int .i64 ((x : Nat) : Int)) ha rfl (by kernel_rfl) (fun _ _ _ h => h) (by kernel_rfl) (fun w hS => run_loadRow1 (m := k) hS.1 rfl (by kernel_rfl) Tryd.isAgg3 (nats_at hx)) hS ?_
        clear ha; intro a ha
        refine hd_val (i := 4) (.slice (some adb) lb.length cb) ha rfl (by kernel_rfl) (fun _ _ _ h => h) (by kernel_rfl) (fun w hS => (by kernel_rfl)) hS ?_
        clear ha; intro a ha
        refine hd_val (i := 5) (.int .i64 ((k : Nat) : Int)) ha rfl (by kernel_rfl) (fun _ _ _ h => h) (by kernel_rfl) (fun w hS => (by kernel_rfl)) hS ?_
        clear ha; intro a ha
        refine hd_val (i := 6) (.pointer (some (adb.add (k * 1)))) ha rfl (by kernel_rfl) (fun _ _ _ h => h) (by kernel_rfl) (fun w hS => (run_indexAddr' (kd := .i64) (i := ((k : Nat) : Int)) (n := lb.length) (c := cb) k rfl Tryd.underlying22 Tryd.sizeOf3 (by kernel_rfl) (by kernel_rfl) rfl (by first | assumption | omega) _)) hS ?_
        clear ha; intro a ha
        refine hd_val (i := 7) (.int .i64 ((y : Nat) : Int)) ha rfl (by kernel_rfl) (fun _ _ _ h => h) (by kernel_rfl) (fun w hS => run_loadRow1 (m := k) hS.2.1 rfl (by kernel_rfl) Tryd.isAgg3 (nats_at hy)) hS ?_
        clear ha; intro a ha
        refine Head.done (by kernel_rfl) ?_
        clear hS; simp only [List.drop_succ_cons, List.drop_zero]
        refine st_val (.bool (((x : Nat) : Int) != ((y : Nat) : Int))) ha (by kernel_rfl) (by kernel_rfl) ?_
        clear ha; intro a ha
        refine wpList_nil ?_
        refine then_normal ?_
        refine wp_part (((x : Nat) : Int) != ((y : Nat) : Int)) ha rfl (by kernel_rfl) (fun hb => ?_) (fun hb => ?_)
        · rw [hb] at ha; have hb_ := hb; replace hb := bne_iff_ne.1 hb
          refine wp_seq ?_
          refine wp_region_lit ?_
          refine st_val (.bool false) ha (by kernel_rfl) (by kernel_rfl) ?_
          clear ha; intro a ha
          refine wpList_nil ?_
          refine then_normal ?_
          refine wp_ret ?_
          refine block_ret ?_
          refine then_ret ?_
          refine then_ret ?_
          refine block_ret ?_
          refine then_ret ?_
          refine ret_with (v := .bool false) ha (results_1 rfl ha (res_tmp (by kernel_rfl) (by kernel_rfl))) ?_
          refine ⟨?_, s⟩
          rw [decide_eq_false (fun e => by subst e; rw [hx] at hy; cases hy; exact hb rfl)]
        · rw [hb] at ha; have hb_ := hb; replace hb := bne_eq_false_iff_eq.1 hb
          refine wp_skip ?_
          refine block_normal ?_
          refine then_normal ?_
          refine wp_region_lit ?_
          refine st_val (.int .i64 ((k : Nat) : Int)) ha (by kernel_rfl) (by kernel_rfl) ?_
          clear ha; intro a ha
          refine st_val (.int .i64 ((k + 1 : Nat) : Int)) ha (by kernel_rfl) (run_arith (((k : Nat) : Int) + (1 : Int)) ((k + 1 : Nat) : Int) rfl (by kernel_rfl) (by kernel_rfl) (.inl ⟨rfl, rfl⟩) (by rw [wrap64_in (by omega)]; try omega) _) ?_
          clear ha; intro a ha
          refine st_val (.int .i64 ((k + 1 : Nat) : Int)) ha (by kernel_rfl) (by kernel_rfl) ?_
          clear ha; intro a ha
          refine wpList_nil ?_
          refine then_normal ?_
          exact ⟨k + 1, by omega, (Has.cons ha (by kernel_rfl) (by kernel_rfl) (Has.cons ha (by kernel_rfl) (by kernel_rfl) (Has.cons ha (by kernel_rfl) (by kernel_rfl) (Has.nil ha)))), s, by omega, by rw [take_snoc hx, take_snoc hy, hp.2, show x = y by omega]⟩
      · rw [hb] at ha; replace hb : ¬ (((k : Nat) : Int) < ((la.length : Nat) : Int)) := of_decide_eq_false hb
        refine wp_exit ?_
        refine then_exit ?_
        refine then_exit ?_
        refine block_hit ?_
        refine then_normal ?_
        refine wp_seq ?_
        refine wp_region_lit ?_
        refine st_val (.bool true) ha (by kernel_rfl) (by kernel_rfl) ?_
        clear ha; intro a ha
        refine wpList_nil ?_
        refine then_normal ?_
        refine wp_ret ?_
        refine ret_with (v := .bool true) ha (results_1 rfl ha (res_tmp (by kernel_rfl) (by kernel_rfl))) ?_
        refine ⟨?_, s⟩
        have h2 := hp.2
        rw [List.take_of_length_le (by omega), List.take_of_length_le (by omega)] at h2
        rw [decide_eq_true h2]

end Go.Proofs.YtidfniglnmfphaaDoor.B
