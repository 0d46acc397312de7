import Derived.Test.YtidfniglnmfphaaB10
namespace Go.Proofs.Ytidfniglnmfphaa.B
open Go.RowKit Go.Maps Go.Sort Go.Shelf Go.Proofs.Ytidfniglnmfphaa.Sep Go.Proofs.Ytidfniglnmfphaa.P
set_option linter.unusedVariables false
set_option linter.unusedSimpArgs false
/-- What is known of some memory, and of nothing else. -/
def Kn (p : World → Prop) : Chunk := .oth fun h => ∀ w, Hp.sub h (hp w) → p w
theorem kn_of {W w : World} {M L : List Chunk} {p : World → Prop} (hk : Knows M p) (s : St W (M ++ L) w) : St W (Kn p :: L) w := by
  obtain ⟨h1, h2, a, s1, s2, x, y⟩ := SatH.append_iff.1 s.1
  exact ⟨⟨h1, h2, a, s1, s2, fun w hw => hk w (SatH.mono x hw), y⟩, s.2⟩
theorem Knows.kn {L : List Chunk} {j : Nat} {p : World → Prop} (h : L[j]? = some (Kn p)) : Knows L p := fun w s => by
  obtain ⟨h1, h2, a, s1, s2, x, y⟩ := s.perm (perm_at h)
  exact x w s1
/-- The same, but for where things lie. -/
def core (d : Dn) : Int × Int × Int × List Dd := (d.id, d.wall, d.logic, d.l)
def Copy (ds ds2 : List Dn) : Prop := ds2.map core = ds.map core
theorem Copy.tns {ds ds2 : List Dn} (h : Copy ds ds2) : tns ds2 = tns ds := by
  have := congrArg (List.map fun (x : Int × Int × Int × List Dd) => (⟨x.1, x.2.1, x.2.2.1, x.2.2.2.map (·.t)⟩ : Tn)) h
  rw [List.map_map, List.map_map] at this
  exact this
theorem Copy.length {ds ds2 : List Dn} (h : Copy ds ds2) : ds2.length = ds.length := by have := congrArg List.length h; simpa using this
theorem Copy.mem {ds ds2 : List Dn} (h : Copy ds ds2) {d : Dn} (hd : d ∈ ds2) : ∃ x ∈ ds, x.l = d.l := by
  have : core d ∈ ds.map core := by rw [← h]; exact List.mem_map.2 ⟨d, hd, rfl⟩
  obtain ⟨x, hx, e⟩ := List.mem_map.1 this
  exact ⟨x, hx, congrArg (fun y => y.2.2.2) e⟩
theorem Copy.bn {ds ds2 : List Dn} (h : Copy ds ds2) (hn : Bn ds) : Bn ds2 := ⟨by rw [h.length]; exact hn.1, fun d hd => by
  obtain ⟨x, hx, e⟩ := h.mem hd
  rw [← e]; exact hn.2 x hx⟩
theorem Copy.nil : Copy [] [] := rfl
theorem Copy.snoc {ds ds2 : List Dn} (h : Copy ds ds2) {d e : Dn} (hd : core e = core d) : Copy (ds ++ [d]) (ds2 ++ [e]) := by
  unfold Copy at *
  rw [List.map_append, List.map_append, h]; simp [hd]
/-- The inner rows of a copy. -/
def Inn (e2 : Nat) (ds : List Dn) : Chunk := star (ds.map fun d => Own e2 7 d.A d.l.length d.c (dvs d.l))
theorem Inn.nil {W w : World} {L : List Chunk} (e2 : Nat) (s : St W L w) : St W (Inn e2 [] :: L) w := ⟨Sat.star_iff.2 s.1, s.2⟩
theorem Inn.snoc {W w : World} {L : List Chunk} {e2 : Nat} {ds : List Dn} (d : Dn) (s : St W (Own e2 7 d.A d.l.length d.c (dvs d.l) :: Inn e2 ds :: L) w) : St W (Inn e2 (ds ++ [d]) :: L) w := by
  have s1 : St W (Inn e2 ds :: Own e2 7 d.A d.l.length d.c (dvs d.l) :: L) w := s.perm (List.Perm.swap _ _ _)
  have s2 := Sat.star_iff.1 s1.1
  refine ⟨Sat.star_iff.2 ?_, s.2⟩
  simpa using s2
theorem nest_knows {L : List Chunk} {i j e1 e2 cb : Nat} {A B : Option Addr} {ds ds2 : List Dn} (hi : L[i]? = some (Own e1 4 B ds2.length cb (nvs ds2))) (hj : L[j]? = some (Inn e2 ds2)) (hr : Knows L (DonesIn A ds)) (hc : Copy ds ds2) : Knows L (DonesIn B ds2) := by
  intro w s
  refine ⟨Own.reads (s.perm (perm_at hi)), fun d hd => ⟨?_, fun x hx => ?_⟩⟩
  · have s2 := Sat.star_iff.1 (s.perm (perm_at hj))
    obtain ⟨q, hq, e⟩ := List.getElem_of_mem hd
    have : (ds2.map fun d => Own e2 7 d.A d.l.length d.c (dvs d.l))[q]? = some (Own e2 7 d.A d.l.length d.c (dvs d.l)) := by
      rw [List.getElem?_map, List.getElem?_eq_getElem hq, e]; rfl
    have h2 : ((ds2.map fun d => Own e2 7 d.A d.l.length d.c (dvs d.l)) ++ L.eraseIdx j)[q]? = some (Own e2 7 d.A d.l.length d.c (dvs d.l)) := by
      rw [List.getElem?_append_left (by simpa using hq)]; exact this
    exact Own.reads (s2.perm (perm_at h2))
  · obtain ⟨y, hy, e⟩ := hc.mem hd
    exact ((hr w s).2 y hy).2 x (by rw [e]; exact hx)
theorem nvs_snoc (ds : List Dn) (d : Dn) : nvs ds ++ nv d = nvs (ds ++ [d]) := by simp [nvs]
theorem dvs_take {l : List Dd} {k : Nat} {x : Dd} (h : l[k]? = some x) : dvs (l.take (k + 1)) = dvs (l.take k) ++ dv x := by
  rw [take_snoc h, dvs_append]; simp [dvs]
theorem reads_drop {w : World} {k n c l : Nat} {A : Option Addr} {cs : List Value} (h : Reads w k A n cs) (hl : l ≤ n) (hn : n ≤ c) : Reads w k (slA A l c k) (n - l) (cs.drop (l * k)) := by
  have := h.sub hl (Nat.le_refl n) hn
  rwa [List.extract_eq_take_drop, List.take_of_length_le (by rw [List.length_drop, h.1]; exact Nat.le_refl _)] at this
theorem flatMap_drop {α : Type} {f : α → List Value} {n : Nat} (hf : ∀ x, (f x).length = n) (l : List α) (k : Nat) (hk : k ≤ l.length) : (l.flatMap f).drop (k * n) = (l.drop k).flatMap f := by
  have e : l.flatMap f = (l.take k).flatMap f ++ (l.drop k).flatMap f := by rw [← List.flatMap_append, List.take_append_drop]
  have l1 : ((l.take k).flatMap f).length = k * n := by rw [flatMap_len hf, List.length_take, Nat.min_eq_left hk]
  rw [e, ← l1, List.drop_left]
theorem flatMap_take {α : Type} {f : α → List Value} {n : Nat} (hf : ∀ x, (f x).length = n) (l : List α) (k : Nat) (hk : k ≤ l.length) : (l.flatMap f).take (k * n) = (l.take k).flatMap f := by
  have e : l.flatMap f = (l.take k).flatMap f ++ (l.drop k).flatMap f := by rw [← List.flatMap_append, List.take_append_drop]
  have l1 : ((l.take k).flatMap f).length = k * n := by rw [flatMap_len hf, List.length_take, Nat.min_eq_left hk]
  rw [e, ← l1, List.take_left]
theorem DonesIn.drop {A : Option Addr} {ds : List Dn} {w : World} (h : DonesIn A ds w) {k c : Nat} (hk : k ≤ ds.length) (hc : ds.length ≤ c) : DonesIn (slA A k c 4) (ds.drop k) w := by
  refine ⟨?_, fun d hd => h.2 d (List.mem_of_mem_drop hd)⟩
  have := reads_drop h.1 hk hc
  rw [List.length_drop]
  rwa [nvs, flatMap_drop (n := 4) (fun _ => rfl) ds k hk] at this
theorem DonesIn.take {A : Option Addr} {ds : List Dn} {w : World} (h : DonesIn A ds w) {k : Nat} (hk : k ≤ ds.length) : DonesIn A (ds.take k) w := by
  refine ⟨?_, fun d hd => h.2 d (List.mem_of_mem_take hd)⟩
  have := h.1.take hk
  rw [List.length_take, Nat.min_eq_left hk]
  rwa [nvs, flatMap_take (n := 4) (fun _ => rfl) ds k hk] at this
theorem Bn.drop {ds : List Dn} (h : Bn ds) (k : Nat) : Bn (ds.drop k) := ⟨by rw [List.length_drop]; have := h.1; omega, fun d hd => h.2 d (List.mem_of_mem_drop hd)⟩
theorem Bn.take {ds : List Dn} (h : Bn ds) (k : Nat) : Bn (ds.take k) := ⟨by rw [List.length_take]; have := h.1; omega, fun d hd => h.2 d (List.mem_of_mem_take hd)⟩

set_option maxRecDepth 100000 in
set_option maxHeartbeats 2000000 in
theorem should_any (W : World) (L : List Chunk) (w : World) (A : Option Addr) (ca : Nat) (ds : List Dn) (hr : Knows L (DonesIn A ds)) (hn : Bn ds) (hsm : ds.length ≤ 1000000) (hsl : ∀ d ∈ ds, d.l.length ≤ 1000000) (s : St W L w) :
    Calls Try.prog 13 #[.slice A ds.length ca] w fun e w' => ∃ B c ds2, e = .returned (.slice B ds.length c) ∧ Copy ds ds2 ∧ ds2.length = ds.length ∧ St W (Own 80 4 B ds.length c (nvs ds2) :: Inn 81 ds2 :: L) w' := by
  refine enter_args (l := [.slice A ds.length ca]) Try.func13 rfl rfl (Nat.le_of_ble_eq_true rfl) ?_
  intro a ha; replace ha : Has a 52 [(0, .slice A ds.length ca)] := ha
  refine wp_seq ?_
  refine wp_region_lit ?_
  refine st_val (.slice none 0 0) ha (by kernel_rfl) (by kernel_rfl) ?_
  clear ha; intro a ha
  refine wpList_nil ?_
  refine then_normal ?_
  refine wp_seq ?_
  refine wp_region_lit ?_
  refine st_val (.slice none 0 0) ha (by kernel_rfl) (by kernel_rfl) ?_
  clear ha; intro a ha
  refine wpList_nil ?_
  refine then_normal ?_
  refine wp_seq ?_
  refine wp_seq ?_
  refine wp_region_lit ?_
  refine st_val (.int .i64 0) ha (by kernel_rfl) (by kernel_rfl) ?_
  clear ha; intro a ha
  refine wpList_nil ?_
  refine then_normal ?_
  refine wp_block ?_
  replace s := Own.none_ (e := 80) (k := 4) none (Inn.nil 81 s)
  replace s : St W (Own 80 4 none 0 0 [] :: Inn 81 [] :: L) w := s
  refine wp_loopG (G := (Nat × Option Addr × Nat × List Dn)) (fun ⟨k, B, cb, ds2⟩ a w => Has a 52 [(0, .slice A ds.length ca), (3, .slice B k cb), (4, .int .i64 ((k : Nat) : Int))] ∧ St W (Own 80 4 B k cb (nvs ds2) :: Inn 81 ds2 :: L) w ∧ (k ≤ ds.length ∧ Copy (ds.take k) ds2)) (fun ⟨k, B, cb, ds2⟩ => ds.length - k) (0, none, 0, []) ?_ ?_
  · exact ⟨(Has.cons ha (by kernel_rfl) (by kernel_rfl) (Has.cons ha (by kernel_rfl) (by kernel_rfl) (Has.cons ha (by kernel_rfl) (by kernel_rfl) (Has.nil ha)))), s, ⟨Nat.zero_le _, Copy.nil⟩⟩
  · clear ha s; rintro ⟨k, B, cb, ds2⟩ a w ⟨ha, s, hp⟩
    refine wp_seq ?_
    refine wp_seq ?_
    refine wp_region_lit ?_
    refine st_val (.int .i64 ((k : Nat) : Int)) ha (by kernel_rfl) (by kernel_rfl) ?_
    clear ha; intro a ha
    refine st_val (.slice A ds.length ca) ha (by kernel_rfl) (by kernel_rfl) ?_
    clear ha; intro a ha
    refine st_val (.int .i64 ((ds.length : Nat) : Int)) ha (by kernel_rfl) (by kernel_rfl) ?_
    clear ha; intro a ha
    refine st_val (.bool (decide (((k : Nat) : Int) < ((ds.length : Nat) : Int)))) ha (by kernel_rfl) (by kernel_rfl) ?_
    clear ha; intro a ha
    refine wpList_nil ?_
    refine then_normal ?_
    refine wp_part (decide (((k : Nat) : Int) < ((ds.length : Nat) : Int))) ha rfl (by kernel_rfl) (fun hb => ?_) (fun hb => ?_)
    · rw [hb] at ha; replace hb : (((k : Nat) : Int) < ((ds.length : Nat) : Int)) := of_decide_eq_true hb
      obtain ⟨d, hd⟩ : ∃ d, ds[k]? = some d := ⟨_, List.getElem?_eq_getElem (by omega)⟩
      have hdl := (hn.row hd).1
      obtain ⟨ad, hA⟩ := Reads.addr (hr _ s.sat.tail.tail).1 (by omega)
      subst hA
      have hcp := hp.2
      have hsd := hsl d (List.mem_of_getElem? hd)
      refine wp_skip ?_
      refine then_normal ?_
      refine wp_seq ?_
      refine wp_block ?_
      refine wp_seq ?_
      refine wp_region_head 12 (fun w => Reads w 4 (some ad) ds.length (nvs ds) ∧ True) (by kernel_rfl) (by decide) ?_
      replace s := s.drew; generalize _root_.Go.World.drew _ = w at s ⊢
      have hS : (fun w => Reads w 4 (some ad) ds.length (nvs ds) ∧ True) w := ⟨(hr _ s.sat.tail.tail).1, trivial⟩
      refine hd_val (i := 0) (.slice (some ad) ds.length ca) ha rfl (by kernel_rfl) (fun _ _ _ h => h) (by kernel_rfl) (fun w hS => (by kernel_rfl)) hS ?_
      clear ha; intro a ha
      refine hd_val (i := 1) (.int .i64 ((k : Nat) : Int)) ha rfl (by kernel_rfl) (fun _ _ _ h => h) (by kernel_rfl) (fun w hS => (by kernel_rfl)) hS ?_
      clear ha; intro a ha
      refine hd_val (i := 2) (.pointer (some (ad.add (k * 4)))) ha rfl (by kernel_rfl) (fun _ _ _ h => h) (by kernel_rfl) (fun w hS => (run_indexAddr' (kd := .i64) (i := ((k : Nat) : Int)) (n := ds.length) (c := ca) k rfl Try.underlying22 Try.sizeOf27 (by kernel_rfl) (by kernel_rfl) rfl (by first | assumption | omega) _)) hS ?_
      clear ha; intro a ha
      refine hd_val (i := 3) (.pointer (some (ad.add (k * 4 + 0)))) ha rfl (by kernel_rfl) (fun _ _ _ h => h) (by kernel_rfl) (fun w hS => (run_fieldAddr_at (i := k * 4) (off := 0) rfl Try.underlying27 rfl Try.sizeOf3 (by kernel_rfl) _)) hS ?_
      clear ha; intro a ha
      refine hd_val (i := 4) (.int .i64 d.id) ha rfl (by kernel_rfl) (fun _ _ _ h => h) (by kernel_rfl) (fun w hS => run_loadAt1 (i := k * 4 + 0) hS.1 rfl (by kernel_rfl) Try.isAgg3 (by rw [nvs_at hd (by omega)]; rfl)) hS ?_
      clear ha; intro a ha
      refine hd_val (i := 5) (.slice (some ad) ds.length ca) ha rfl (by kernel_rfl) (fun _ _ _ h => h) (by kernel_rfl) (fun w hS => (by kernel_rfl)) hS ?_
      clear ha; intro a ha
      refine hd_val (i := 6) (.int .i64 ((k : Nat) : Int)) ha rfl (by kernel_rfl) (fun _ _ _ h => h) (by kernel_rfl) (fun w hS => (by kernel_rfl)) hS ?_
      clear ha; intro a ha
      refine hd_val (i := 7) (.pointer (some (ad.add (k * 4)))) ha rfl (by kernel_rfl) (fun _ _ _ h => h) (by kernel_rfl) (fun w hS => (run_indexAddr' (kd := .i64) (i := ((k : Nat) : Int)) (n := ds.length) (c := ca) k rfl Try.underlying22 Try.sizeOf27 (by kernel_rfl) (by kernel_rfl) rfl (by first | assumption | omega) _)) hS ?_
      clear ha; intro a ha
      refine hd_val (i := 8) (.pointer (some (ad.add (k * 4 + 1)))) ha rfl (by kernel_rfl) (fun _ _ _ h => h) (by kernel_rfl) (fun w hS => (run_fieldAddr_at (i := k * 4) (off := 1) rfl Try.underlying27 rfl Try.sizeOf24 (by kernel_rfl) _)) hS ?_
      clear ha; intro a ha
      refine hd_val (i := 9) (.agg #[.int .i64 d.wall, .int .i64 d.logic]) ha rfl (by kernel_rfl) (fun _ _ _ h => h) (by kernel_rfl) (fun w hS => run_loadAtN (i := k * 4 + 1) [.int .i64 d.wall, .int .i64 d.logic] hS.1 rfl (by kernel_rfl) Try.isAgg24 Try.sizeOf24 (fun q_ hq_ => by rw [Nat.add_assoc, nvs_at hd (by omega)]; match q_, hq_ with | 0, _ => rfl | 1, _ => rfl) rfl) hS ?_
      clear ha; intro a ha
      refine hd_val (i := 10) (.agg #[.int .i64 d.id, .int .i64 d.wall, .int .i64 d.logic, .slice none 0 0]) ha rfl (by kernel_rfl) (fun _ _ _ h => h) (by kernel_rfl) (fun w hS => (by kernel_rfl)) hS ?_
      clear ha; intro a ha
      refine hd_ex (i := 11) ha rfl (by kernel_rfl) (by kernel_rfl) (ex_alloc [.int .i64 0, .int .i64 0, .int .i64 0, .slice none 0 0] s rfl (Try.zeroValue80 _) (by kernel_rfl)) ?_
      clear hS; rintro _ w ⟨g1, rfl, s⟩
      replace s : St W (.blk g1 [.int .i64 0, .int .i64 0, .int .i64 0, .slice none 0 0] 80 :: Own 80 4 B k cb (nvs ds2) :: Inn 81 ds2 :: L) w := s
      have hS : (fun w => Reads w 4 (some ad) ds.length (nvs ds) ∧ True) w := ⟨(hr _ s.sat.tail.tail.tail).1, trivial⟩
      refine ⟨hS, ?_⟩; clear ha; intro a ha
      refine Head.done (by kernel_rfl) ?_
      clear hS; simp only [List.drop_succ_cons, List.drop_zero]
      refine st_exd ha (by kernel_rfl) (ex_store (of_ := 0) 0 [.int .i64 d.id, .int .i64 d.wall, .int .i64 d.logic, .slice none 0 0] s rfl rfl (by kernel_rfl) (by kernel_rfl) (Try.sizeOf80 _) rfl (by simp [Value.oneCell']) (Nat.le_of_ble_eq_true rfl)) ?_
      clear ha; rintro w a s ha
      replace s : St W (.blk g1 [.int .i64 d.id, .int .i64 d.wall, .int .i64 d.logic, .slice none 0 0] 80 :: Own 80 4 B k cb (nvs ds2) :: Inn 81 ds2 :: L) w := s
      refine wpList_nil ?_
      refine then_normal ?_
      refine wp_seq ?_
      refine wp_seq ?_
      refine wp_region_lit ?_
      refine st_val (.int .i64 0) ha (by kernel_rfl) (by kernel_rfl) ?_
      clear ha; intro a ha
      refine wpList_nil ?_
      refine then_normal ?_
      refine wp_block ?_
      replace s := s.at_ (j := 2) rfl
      replace s : St W (Inn 81 ds2 :: .blk g1 [.int .i64 d.id, .int .i64 d.wall, .int .i64 d.logic, .slice none 0 0] 80 :: Own 80 4 B k cb (nvs ds2) :: L) w := s
      replace s := s.at_ (j := 2) rfl
      replace s : St W (Own 80 4 B k cb (nvs ds2) :: Inn 81 ds2 :: .blk g1 [.int .i64 d.id, .int .i64 d.wall, .int .i64 d.logic, .slice none 0 0] 80 :: L) w := s
      replace s := Own.none_ (e := 81) (k := 7) none s
      replace s : St W (Own 81 7 none 0 0 [] :: Own 80 4 B k cb (nvs ds2) :: Inn 81 ds2 :: .blk g1 [.int .i64 d.id, .int .i64 d.wall, .int .i64 d.logic, .slice none 0 0] 80 :: L) w := s
      refine wp_loopG (G := (Nat × Option Addr × Nat)) (fun ⟨j, C, cc⟩ a w => Has a 52 [(0, .slice (some ad) ds.length ca), (3, .slice B k cb), (4, .int .i64 ((k : Nat) : Int)), (5, .pointer (some ⟨g1, 0, none⟩)), (6, .int .i64 ((j : Nat) : Int))] ∧ St W (Own 81 7 C j cc (dvs (d.l.take j)) :: Own 80 4 B k cb (nvs ds2) :: Inn 81 ds2 :: .blk g1 [.int .i64 d.id, .int .i64 d.wall, .int .i64 d.logic, .slice C j cc] 80 :: L) w ∧ j ≤ d.l.length) (fun ⟨j, C, cc⟩ => d.l.length - j) (0, none, 0) ?_ ?_
      · exact ⟨(Has.cons ha (by kernel_rfl) (by kernel_rfl) (Has.cons ha (by kernel_rfl) (by kernel_rfl) (Has.cons ha (by kernel_rfl) (by kernel_rfl) (Has.cons ha (by kernel_rfl) (by kernel_rfl) (Has.cons ha (by kernel_rfl) (by kernel_rfl) (Has.nil ha)))))), s, Nat.zero_le _⟩
      · clear ha s; rintro ⟨j, C, cc⟩ a w ⟨ha, s, hp⟩
        refine wp_seq ?_
        refine wp_seq ?_
        refine wp_region_lit ?_
        refine st_val (.int .i64 ((j : Nat) : Int)) ha (by kernel_rfl) (by kernel_rfl) ?_
        clear ha; intro a ha
        refine st_val (.slice (some ad) ds.length ca) ha (by kernel_rfl) (by kernel_rfl) ?_
        clear ha; intro a ha
        refine st_val (.int .i64 ((k : Nat) : Int)) ha (by kernel_rfl) (by kernel_rfl) ?_
        clear ha; intro a ha
        refine st_val (.pointer (some (ad.add (k * 4)))) ha (by kernel_rfl) (run_indexAddr' (kd := .i64) (i := ((k : Nat) : Int)) (n := ds.length) (c := ca) k rfl Try.underlying22 Try.sizeOf27 (by kernel_rfl) (by kernel_rfl) rfl (by first | assumption | omega) _) ?_
        clear ha; intro a ha
        refine st_val (.pointer (some (ad.add (k * 4 + 3)))) ha (by kernel_rfl) (run_fieldAddr_at (i := k * 4) (off := 3) rfl Try.underlying27 rfl Try.sizeOf25 (by kernel_rfl) _) ?_
        clear ha; intro a ha
        refine st_val (.slice d.A d.l.length d.c) ha (by kernel_rfl) (run_loadAt1 (i := k * 4 + 3) ((hr _ s.sat.tail.tail.tail.tail).1) rfl (by kernel_rfl) Try.isAgg25 (by rw [nvs_at hd (by omega)]; rfl)) ?_
        clear ha; intro a ha
        refine st_val (.int .i64 ((d.l.length : Nat) : Int)) ha (by kernel_rfl) (by kernel_rfl) ?_
        clear ha; intro a ha
        refine st_val (.bool (decide (((j : Nat) : Int) < ((d.l.length : Nat) : Int)))) ha (by kernel_rfl) (by kernel_rfl) ?_
        clear ha; intro a ha
        refine wpList_nil ?_
        refine then_normal ?_
        refine wp_part (decide (((j : Nat) : Int) < ((d.l.length : Nat) : Int))) ha rfl (by kernel_rfl) (fun hb => ?_) (fun hb => ?_)
        · rw [hb] at ha; replace hb : (((j : Nat) : Int) < ((d.l.length : Nat) : Int)) := of_decide_eq_true hb
          obtain ⟨x, hx⟩ : ∃ x, d.l[j]? = some x := ⟨_, List.getElem?_eq_getElem (by omega)⟩
          obtain ⟨al, hAl⟩ : ∃ al, d.A = some al := Reads.addr ((hr _ s.sat.tail.tail.tail.tail).row hd).1 (by omega)
          refine wp_skip ?_
          refine then_normal ?_
          refine wp_seq ?_
          refine wp_block ?_
          refine wp_region_head 11 (fun w => BlkIs g1 [.int .i64 d.id, .int .i64 d.wall, .int .i64 d.logic, .slice C j cc] w ∧ Reads w 4 (some ad) ds.length (nvs ds) ∧ Reads w 7 (some al) d.l.length (dvs d.l) ∧ True) (by kernel_rfl) (by decide) ?_
          replace s := s.drew; generalize _root_.Go.World.drew _ = w at s ⊢
          have hS : (fun w => BlkIs g1 [.int .i64 d.id, .int .i64 d.wall, .int .i64 d.logic, .slice C j cc] w ∧ Reads w 4 (some ad) ds.length (nvs ds) ∧ Reads w 7 (some al) d.l.length (dvs d.l) ∧ True) w := ⟨s.blkIs 3 rfl, (hr _ s.sat.tail.tail.tail.tail).1, (hAl ▸ ((hr _ s.sat.tail.tail.tail.tail).row hd).1), trivial⟩
          refine hd_val (i := 0) (.pointer (some ⟨g1, 3, none⟩)) ha rfl (by kernel_rfl) (fun _ _ _ h => h) (by kernel_rfl) (fun w hS => (by kernel_rfl)) hS ?_
          clear ha; intro a ha
          refine hd_val (i := 1) (.slice C j cc) ha rfl (by kernel_rfl) (fun _ _ _ h => h) (by kernel_rfl) (fun w hS => run_load1 (of_ := 3) hS.1 rfl (by kernel_rfl) Try.isAgg78 rfl) hS ?_
          clear ha; intro a ha
          refine hd_val (i := 2) (.slice (some ad) ds.length ca) ha rfl (by kernel_rfl) (fun _ _ _ h => h) (by kernel_rfl) (fun w hS => (by kernel_rfl)) hS ?_
          clear ha; intro a ha
          refine hd_val (i := 3) (.int .i64 ((k : Nat) : Int)) ha rfl (by kernel_rfl) (fun _ _ _ h => h) (by kernel_rfl) (fun w hS => (by kernel_rfl)) hS ?_
          clear ha; intro a ha
          refine hd_val (i := 4) (.pointer (some (ad.add (k * 4)))) ha rfl (by kernel_rfl) (fun _ _ _ h => h) (by kernel_rfl) (fun w hS => (run_indexAddr' (kd := .i64) (i := ((k : Nat) : Int)) (n := ds.length) (c := ca) k rfl Try.underlying22 Try.sizeOf27 (by kernel_rfl) (by kernel_rfl) rfl (by first | assumption | omega) _)) hS ?_
          clear ha; intro a ha
          refine hd_val (i := 5) (.pointer (some (ad.add (k * 4 + 3)))) ha rfl (by kernel_rfl) (fun _ _ _ h => h) (by kernel_rfl) (fun w hS => (run_fieldAddr_at (i := k * 4) (off := 3) rfl Try.underlying27 rfl Try.sizeOf25 (by kernel_rfl) _)) hS ?_
          clear ha; intro a ha
          refine hd_val (i := 6) (.slice d.A d.l.length d.c) ha rfl (by kernel_rfl) (fun _ _ _ h => h) (by kernel_rfl) (fun w hS => run_loadAt1 (i := k * 4 + 3) hS.2.1 rfl (by kernel_rfl) Try.isAgg25 (by rw [nvs_at hd (by omega)]; rfl)) hS ?_
          clear ha; intro a ha
          refine hd_val (i := 7) (.int .i64 ((j : Nat) : Int)) ha rfl (by kernel_rfl) (fun _ _ _ h => h) (by kernel_rfl) (fun w hS => (by kernel_rfl)) hS ?_
          clear ha; intro a ha
          refine hd_val (i := 8) (.pointer (some (al.add (j * 7)))) ha rfl (by kernel_rfl) (fun _ _ _ h => h) (by kernel_rfl) (fun w hS => (run_indexAddr' (kd := .i64) (i := ((j : Nat) : Int)) (n := d.l.length) (c := d.c) j rfl Try.underlying25 Try.sizeOf51 (by rw [← hAl]; kernel_rfl) (by kernel_rfl) rfl (by first | assumption | omega) _)) hS ?_
          clear ha; intro a ha
          refine hd_val (i := 9) (.agg #[.int .i64 x.t.op, .string (str x.t.key), .string (str x.t.val), .string (str x.t.frm), .string (str x.t.to), .bool x.t.is, .slice x.A x.t.rows.length x.c]) ha rfl (by kernel_rfl) (fun _ _ _ h => h) (by kernel_rfl) (fun w hS => run_loadAtN (i := j * 7) [.int .i64 x.t.op, .string (str x.t.key), .string (str x.t.val), .string (str x.t.frm), .string (str x.t.to), .bool x.t.is, .slice x.A x.t.rows.length x.c] hS.2.2.1 rfl (by kernel_rfl) Try.isAgg51 Try.sizeOf51 (fun q_ hq_ => dvs_at hx hq_) rfl) hS ?_
          clear ha; intro a ha
          refine hd_ex (i := 10) ha rfl (by kernel_rfl) (by kernel_rfl) (ex_buildSlice elt78 _ zs78 [.int .i64 x.t.op, .string (str x.t.key), .string (str x.t.val), .string (str x.t.frm), .string (str x.t.to), .bool x.t.is, .slice x.A x.t.rows.length x.c] s rfl (by kernel_rfl) (by decide)) ?_
          clear hS; rintro _ w ⟨g2, rfl, s⟩
          replace s : St W (.blk g2 [.int .i64 x.t.op, .string (str x.t.key), .string (str x.t.val), .string (str x.t.frm), .string (str x.t.to), .bool x.t.is, .slice x.A x.t.rows.length x.c] 81 :: Own 81 7 C j cc (dvs (d.l.take j)) :: Own 80 4 B k cb (nvs ds2) :: Inn 81 ds2 :: .blk g1 [.int .i64 d.id, .int .i64 d.wall, .int .i64 d.logic, .slice C j cc] 80 :: L) w := s
          have hS : (fun w => BlkIs g1 [.int .i64 d.id, .int .i64 d.wall, .int .i64 d.logic, .slice C j cc] w ∧ Reads w 4 (some ad) ds.length (nvs ds) ∧ Reads w 7 (some al) d.l.length (dvs d.l) ∧ True) w := ⟨s.blkIs 4 rfl, (hr _ s.sat.tail.tail.tail.tail.tail).1, (hAl ▸ ((hr _ s.sat.tail.tail.tail.tail.tail).row hd).1), trivial⟩
          refine ⟨hS, ?_⟩; clear ha; intro a ha
          refine Head.done (by kernel_rfl) ?_
          clear hS; simp only [List.drop_succ_cons, List.drop_zero]
          refine st_ex ha (by kernel_rfl) (ex_append (m := 1) (d' := 1) elt78 (by decide) 1 [.int .i64 x.t.op, .string (str x.t.key), .string (str x.t.val), .string (str x.t.frm), .string (str x.t.to), .bool x.t.is, .slice x.A x.t.rows.length x.c] s rfl (by kernel_rfl) (by kernel_rfl) rfl (reads_blk (s.blkIs 0 rfl) rfl) (by simp [Value.oneCell']) (by simp only [maxLen]; omega) (by omega)) ?_
          clear ha; rintro _ w a ⟨A3, c4, rfl, hA_, s⟩ ha
          replace s : St W (.blk g2 [.int .i64 x.t.op, .string (str x.t.key), .string (str x.t.val), .string (str x.t.frm), .string (str x.t.to), .bool x.t.is, .slice x.A x.t.rows.length x.c] 81 :: Own 81 7 A3 (j + 1) c4 ((dvs (d.l.take j)) ++ [.int .i64 x.t.op, .string (str x.t.key), .string (str x.t.val), .string (str x.t.frm), .string (str x.t.to), .bool x.t.is, .slice x.A x.t.rows.length x.c]) :: Own 80 4 B k cb (nvs ds2) :: Inn 81 ds2 :: .blk g1 [.int .i64 d.id, .int .i64 d.wall, .int .i64 d.logic, .slice C j cc] 80 :: L) w := s
          refine st_val (.pointer (some ⟨g1, 3, none⟩)) ha (by kernel_rfl) (by kernel_rfl) ?_
          clear ha; intro a ha
          refine st_exd ha (by kernel_rfl) (ex_store (of_ := 3) 4 [.slice A3 (j + 1) c4] s rfl rfl (by kernel_rfl) (by kernel_rfl) (Try.sizeOf78 _) rfl (by simp [Value.oneCell']) (Nat.le_of_ble_eq_true rfl)) ?_
          clear ha; rintro w a s ha
          replace s : St W (.blk g2 [.int .i64 x.t.op, .string (str x.t.key), .string (str x.t.val), .string (str x.t.frm), .string (str x.t.to), .bool x.t.is, .slice x.A x.t.rows.length x.c] 81 :: Own 81 7 A3 (j + 1) c4 ((dvs (d.l.take j)) ++ [.int .i64 x.t.op, .string (str x.t.key), .string (str x.t.val), .string (str x.t.frm), .string (str x.t.to), .bool x.t.is, .slice x.A x.t.rows.length x.c]) :: Own 80 4 B k cb (nvs ds2) :: Inn 81 ds2 :: .blk g1 [.int .i64 d.id, .int .i64 d.wall, .int .i64 d.logic, .slice A3 (j + 1) c4] 80 :: L) w := s
          refine wpList_nil ?_
          refine block_normal ?_
          refine then_normal ?_
          refine wp_region_lit ?_
          refine st_val (.int .i64 ((j : Nat) : Int)) ha (by kernel_rfl) (by kernel_rfl) ?_
          clear ha; intro a ha
          refine st_val (.int .i64 ((j + 1 : Nat) : Int)) ha (by kernel_rfl) (run_arith (((j : Nat) : Int) + (1 : Int)) ((j + 1 : Nat) : Int) rfl (by kernel_rfl) (by kernel_rfl) (.inl ⟨rfl, rfl⟩) (by rw [wrap64_in (by omega)]; try omega) _) ?_
          clear ha; intro a ha
          refine st_val (.int .i64 ((j + 1 : Nat) : Int)) ha (by kernel_rfl) (by kernel_rfl) ?_
          clear ha; intro a ha
          refine wpList_nil ?_
          refine then_normal ?_
          replace s := s.at_ (j := 4) rfl
          replace s : St W (.blk g1 [.int .i64 d.id, .int .i64 d.wall, .int .i64 d.logic, .slice A3 (j + 1) c4] 80 :: .blk g2 [.int .i64 x.t.op, .string (str x.t.key), .string (str x.t.val), .string (str x.t.frm), .string (str x.t.to), .bool x.t.is, .slice x.A x.t.rows.length x.c] 81 :: Own 81 7 A3 (j + 1) c4 ((dvs (d.l.take j)) ++ [.int .i64 x.t.op, .string (str x.t.key), .string (str x.t.val), .string (str x.t.frm), .string (str x.t.to), .bool x.t.is, .slice x.A x.t.rows.length x.c]) :: Own 80 4 B k cb (nvs ds2) :: Inn 81 ds2 :: L) w := s
          replace s := s.at_ (j := 4) rfl
          replace s : St W (Inn 81 ds2 :: .blk g1 [.int .i64 d.id, .int .i64 d.wall, .int .i64 d.logic, .slice A3 (j + 1) c4] 80 :: .blk g2 [.int .i64 x.t.op, .string (str x.t.key), .string (str x.t.val), .string (str x.t.frm), .string (str x.t.to), .bool x.t.is, .slice x.A x.t.rows.length x.c] 81 :: Own 81 7 A3 (j + 1) c4 ((dvs (d.l.take j)) ++ [.int .i64 x.t.op, .string (str x.t.key), .string (str x.t.val), .string (str x.t.frm), .string (str x.t.to), .bool x.t.is, .slice x.A x.t.rows.length x.c]) :: Own 80 4 B k cb (nvs ds2) :: L) w := s
          replace s := s.at_ (j := 4) rfl
          replace s : St W (Own 80 4 B k cb (nvs ds2) :: Inn 81 ds2 :: .blk g1 [.int .i64 d.id, .int .i64 d.wall, .int .i64 d.logic, .slice A3 (j + 1) c4] 80 :: .blk g2 [.int .i64 x.t.op, .string (str x.t.key), .string (str x.t.val), .string (str x.t.frm), .string (str x.t.to), .bool x.t.is, .slice x.A x.t.rows.length x.c] 81 :: Own 81 7 A3 (j + 1) c4 ((dvs (d.l.take j)) ++ [.int .i64 x.t.op, .string (str x.t.key), .string (str x.t.val), .string (str x.t.frm), .string (str x.t.to), .bool x.t.is, .slice x.A x.t.rows.length x.c]) :: L) w := s
          replace s := s.at_ (j := 4) rfl
          replace s : St W (Own 81 7 A3 (j + 1) c4 ((dvs (d.l.take j)) ++ [.int .i64 x.t.op, .string (str x.t.key), .string (str x.t.val), .string (str x.t.frm), .string (str x.t.to), .bool x.t.is, .slice x.A x.t.rows.length x.c]) :: Own 80 4 B k cb (nvs ds2) :: Inn 81 ds2 :: .blk g1 [.int .i64 d.id, .int .i64 d.wall, .int .i64 d.logic, .slice A3 (j + 1) c4] 80 :: .blk g2 [.int .i64 x.t.op, .string (str x.t.key), .string (str x.t.val), .string (str x.t.frm), .string (str x.t.to), .bool x.t.is, .slice x.A x.t.rows.length x.c] 81 :: L) w := s
          replace s : St W (Own 81 7 A3 (j + 1) c4 ((dvs (d.l.take j)) ++ [.int .i64 x.t.op, .string (str x.t.key), .string (str x.t.val), .string (str x.t.frm), .string (str x.t.to), .bool x.t.is, .slice x.A x.t.rows.length x.c]) :: Own 80 4 B k cb (nvs ds2) :: Inn 81 ds2 :: .blk g1 [.int .i64 d.id, .int .i64 d.wall, .int .i64 d.logic, .slice A3 (j + 1) c4] 80 :: L) w := St.mid (A := [Own 81 7 A3 (j + 1) c4 ((dvs (d.l.take j)) ++ [.int .i64 x.t.op, .string (str x.t.key), .string (str x.t.val), .string (str x.t.frm), .string (str x.t.to), .bool x.t.is, .slice x.A x.t.rows.length x.c]), Own 80 4 B k cb (nvs ds2), Inn 81 ds2, .blk g1 [.int .i64 d.id, .int .i64 d.wall, .int .i64 d.logic, .slice A3 (j + 1) c4] 80]) (B := [.blk g2 [.int .i64 x.t.op, .string (str x.t.key), .string (str x.t.val), .string (str x.t.frm), .string (str x.t.to), .bool x.t.is, .slice x.A x.t.rows.length x.c] 81]) s
          rw [show [.int .i64 x.t.op, .string (str x.t.key), .string (str x.t.val), .string (str x.t.frm), .string (str x.t.to), .bool x.t.is, .slice x.A x.t.rows.length x.c] = dv x from rfl, ← dvs_take hx] at s
          exact ⟨(j + 1, A3, c4), (show d.l.length - (j + 1) < d.l.length - j by omega), (Has.cons ha (by kernel_rfl) (by kernel_rfl) (Has.cons ha (by kernel_rfl) (by kernel_rfl) (Has.cons ha (by kernel_rfl) (by kernel_rfl) (Has.cons ha (by kernel_rfl) (by kernel_rfl) (Has.cons ha (by kernel_rfl) (by kernel_rfl) (Has.nil ha)))))), s, (show j + 1 ≤ d.l.length by omega)⟩
        · rw [hb] at ha; replace hb : ¬ (((j : Nat) : Int) < ((d.l.length : Nat) : Int)) := of_decide_eq_false hb
          refine wp_exit ?_
          refine then_exit ?_
          refine then_exit ?_
          refine block_hit ?_
          refine then_normal ?_
          refine wp_region_lit ?_
          refine st_val (.slice B k cb) ha (by kernel_rfl) (by kernel_rfl) ?_
          clear ha; intro a ha
          refine st_val (.agg #[.int .i64 d.id, .int .i64 d.wall, .int .i64 d.logic, .slice C j cc]) ha (by kernel_rfl) (run_loadN (of_ := 0) [.int .i64 d.id, .int .i64 d.wall, .int .i64 d.logic, .slice C j cc] (s.blkIs 3 rfl) rfl (by kernel_rfl) Try.isAgg80 Try.sizeOf80 rfl (Nat.le_of_ble_eq_true rfl)) ?_
          clear ha; intro a ha
          refine st_ex ha (by kernel_rfl) (ex_buildSlice elt39 _ zs39 [.int .i64 d.id, .int .i64 d.wall, .int .i64 d.logic, .slice C j cc] s rfl (by kernel_rfl) (by decide)) ?_
          clear ha; rintro _ w a ⟨g5, rfl, s⟩ ha
          replace s : St W (.blk g5 [.int .i64 d.id, .int .i64 d.wall, .int .i64 d.logic, .slice C j cc] 80 :: Own 81 7 C j cc (dvs (d.l.take j)) :: Own 80 4 B k cb (nvs ds2) :: Inn 81 ds2 :: .blk g1 [.int .i64 d.id, .int .i64 d.wall, .int .i64 d.logic, .slice C j cc] 80 :: L) w := s
          refine st_ex ha (by kernel_rfl) (ex_append (m := 1) (d' := 1) elt39 (by decide) 2 [.int .i64 d.id, .int .i64 d.wall, .int .i64 d.logic, .slice C j cc] s rfl (by kernel_rfl) (by kernel_rfl) rfl (reads_blk (s.blkIs 0 rfl) rfl) (by simp [Value.oneCell']) (by simp only [maxLen]; omega) (by omega)) ?_
          clear ha; rintro _ w a ⟨A6, c7, rfl, hA_, s⟩ ha
          replace s : St W (.blk g5 [.int .i64 d.id, .int .i64 d.wall, .int .i64 d.logic, .slice C j cc] 80 :: Own 81 7 C j cc (dvs (d.l.take j)) :: Own 80 4 A6 (k + 1) c7 ((nvs ds2) ++ [.int .i64 d.id, .int .i64 d.wall, .int .i64 d.logic, .slice C j cc]) :: Inn 81 ds2 :: .blk g1 [.int .i64 d.id, .int .i64 d.wall, .int .i64 d.logic, .slice C j cc] 80 :: L) w := s
          refine st_val (.slice A6 (k + 1) c7) ha (by kernel_rfl) (by kernel_rfl) ?_
          clear ha; intro a ha
          refine wpList_nil ?_
          refine block_normal ?_
          refine then_normal ?_
          refine wp_region_lit ?_
          refine st_val (.int .i64 ((k : Nat) : Int)) ha (by kernel_rfl) (by kernel_rfl) ?_
          clear ha; intro a ha
          refine st_val (.int .i64 ((k + 1 : Nat) : Int)) ha (by kernel_rfl) (run_arith (((k : Nat) : Int) + (1 : Int)) ((k + 1 : Nat) : Int) rfl (by kernel_rfl) (by kernel_rfl) (.inl ⟨rfl, rfl⟩) (by rw [wrap64_in (by omega)]; try omega) _) ?_
          clear ha; intro a ha
          refine st_val (.int .i64 ((k + 1 : Nat) : Int)) ha (by kernel_rfl) (by kernel_rfl) ?_
          clear ha; intro a ha
          refine wpList_nil ?_
          refine then_normal ?_
          replace s := s.at_ (j := 2) rfl
          replace s : St W (Own 80 4 A6 (k + 1) c7 ((nvs ds2) ++ [.int .i64 d.id, .int .i64 d.wall, .int .i64 d.logic, .slice C j cc]) :: .blk g5 [.int .i64 d.id, .int .i64 d.wall, .int .i64 d.logic, .slice C j cc] 80 :: Own 81 7 C j cc (dvs (d.l.take j)) :: Inn 81 ds2 :: .blk g1 [.int .i64 d.id, .int .i64 d.wall, .int .i64 d.logic, .slice C j cc] 80 :: L) w := s
          replace s := s.at_ (j := 3) rfl
          replace s : St W (Inn 81 ds2 :: Own 80 4 A6 (k + 1) c7 ((nvs ds2) ++ [.int .i64 d.id, .int .i64 d.wall, .int .i64 d.logic, .slice C j cc]) :: .blk g5 [.int .i64 d.id, .int .i64 d.wall, .int .i64 d.logic, .slice C j cc] 80 :: Own 81 7 C j cc (dvs (d.l.take j)) :: .blk g1 [.int .i64 d.id, .int .i64 d.wall, .int .i64 d.logic, .slice C j cc] 80 :: L) w := s
          replace s := s.at_ (j := 3) rfl
          replace s : St W (Own 81 7 C j cc (dvs (d.l.take j)) :: Inn 81 ds2 :: Own 80 4 A6 (k + 1) c7 ((nvs ds2) ++ [.int .i64 d.id, .int .i64 d.wall, .int .i64 d.logic, .slice C j cc]) :: .blk g5 [.int .i64 d.id, .int .i64 d.wall, .int .i64 d.logic, .slice C j cc] 80 :: .blk g1 [.int .i64 d.id, .int .i64 d.wall, .int .i64 d.logic, .slice C j cc] 80 :: L) w := s
          replace s : St W (Own 81 7 C j cc (dvs (d.l.take j)) :: Inn 81 ds2 :: Own 80 4 A6 (k + 1) c7 ((nvs ds2) ++ [.int .i64 d.id, .int .i64 d.wall, .int .i64 d.logic, .slice C j cc]) :: L) w := St.mid (A := [Own 81 7 C j cc (dvs (d.l.take j)), Inn 81 ds2, Own 80 4 A6 (k + 1) c7 ((nvs ds2) ++ [.int .i64 d.id, .int .i64 d.wall, .int .i64 d.logic, .slice C j cc])]) (B := [.blk g5 [.int .i64 d.id, .int .i64 d.wall, .int .i64 d.logic, .slice C j cc] 80, .blk g1 [.int .i64 d.id, .int .i64 d.wall, .int .i64 d.logic, .slice C j cc] 80]) s
          have hjl : j = d.l.length := by omega
          subst hjl
          rw [List.take_length] at s
          rw [show [.int .i64 d.id, .int .i64 d.wall, .int .i64 d.logic, .slice C d.l.length cc] = nv ⟨d.id, d.wall, d.logic, C, cc, d.l⟩ from rfl, nvs_snoc] at s
          replace s := (Inn.snoc (⟨d.id, d.wall, d.logic, C, cc, d.l⟩ : Dn) s).at_ (j := 1) rfl
          replace s : St W (Own 80 4 A6 (k + 1) c7 (nvs (ds2 ++ [(⟨d.id, d.wall, d.logic, C, cc, d.l⟩ : Dn)])) :: Inn 81 (ds2 ++ [(⟨d.id, d.wall, d.logic, C, cc, d.l⟩ : Dn)]) :: L) w := s
          exact ⟨(k + 1, A6, c7, ds2 ++ [(⟨d.id, d.wall, d.logic, C, cc, d.l⟩ : Dn)]), (show ds.length - (k + 1) < ds.length - k by omega), (Has.cons ha (by kernel_rfl) (by kernel_rfl) (Has.cons ha (by kernel_rfl) (by kernel_rfl) (Has.cons ha (by kernel_rfl) (by kernel_rfl) (Has.nil ha)))), s, (show k + 1 ≤ ds.length by omega), by rw [take_snoc hd]; exact hcp.snoc rfl⟩
    · rw [hb] at ha; replace hb : ¬ (((k : Nat) : Int) < ((ds.length : Nat) : Int)) := of_decide_eq_false hb
      have hk : k = ds.length := by omega
      have hcp := hp.2
      rw [hk, List.take_length] at hcp
      have hcl := hcp.length
      refine wp_exit ?_
      refine then_exit ?_
      refine then_exit ?_
      refine block_hit ?_
      refine then_normal ?_
      refine wp_seq ?_
      refine wp_region_lit ?_
      refine st_val (.slice B k cb) ha (by kernel_rfl) (by kernel_rfl) ?_
      clear ha; intro a ha
      refine st_val (.slice B k cb) ha (by kernel_rfl) (by kernel_rfl) ?_
      clear ha; intro a ha
      refine wpList_nil ?_
      refine then_normal ?_
      refine wp_ret ?_
      refine ret_with (v := .slice B k cb) ha (results_1 rfl ha (res_tmp (by kernel_rfl) (by kernel_rfl))) ?_
      rw [hk] at s
      rw [hk]
      exact ⟨_, _, ds2, rfl, hcp, hcl, s⟩

set_option maxRecDepth 100000 in
set_option maxHeartbeats 2000000 in
theorem with_any (W : World) (L : List Chunk) (w : World) (A : Option Addr) (ca : Nat) (ds : List Dn) (hr : Knows L (DonesIn A ds)) (hn : Bn ds) (hsm : ds.length ≤ 1000000) (hsl : ∀ d ∈ ds, d.l.length ≤ 1000000) (s : St W L w) :
    Calls Try.prog 19 #[.slice A ds.length ca] w fun e w' => ∃ B c ds2, e = .returned (.slice B ds.length c) ∧ Copy ds ds2 ∧ ds2.length = ds.length ∧ St W (Own 27 4 B ds.length c (nvs ds2) :: Inn 51 ds2 :: L) w' := by
  refine enter_args (l := [.slice A ds.length ca]) Try.func19 rfl rfl (Nat.le_of_ble_eq_true rfl) ?_
  intro a ha; replace ha : Has a 52 [(0, .slice A ds.length ca)] := ha
  refine wp_seq ?_
  refine wp_region_lit ?_
  refine st_val (.slice none 0 0) ha (by kernel_rfl) (by kernel_rfl) ?_
  clear ha; intro a ha
  refine wpList_nil ?_
  refine then_normal ?_
  refine wp_seq ?_
  refine wp_region_lit ?_
  refine st_val (.slice none 0 0) ha (by kernel_rfl) (by kernel_rfl) ?_
  clear ha; intro a ha
  refine wpList_nil ?_
  refine then_normal ?_
  refine wp_seq ?_
  refine wp_seq ?_
  refine wp_region_lit ?_
  refine st_val (.int .i64 0) ha (by kernel_rfl) (by kernel_rfl) ?_
  clear ha; intro a ha
  refine wpList_nil ?_
  refine then_normal ?_
  refine wp_block ?_
  replace s := Own.none_ (e := 27) (k := 4) none (Inn.nil 51 s)
  replace s : St W (Own 27 4 none 0 0 [] :: Inn 51 [] :: L) w := s
  refine wp_loopG (G := (Nat × Option Addr × Nat × List Dn)) (fun ⟨k, B, cb, ds2⟩ a w => Has a 52 [(0, .slice A ds.length ca), (3, .slice B k cb), (4, .int .i64 ((k : Nat) : Int))] ∧ St W (Own 27 4 B k cb (nvs ds2) :: Inn 51 ds2 :: L) w ∧ (k ≤ ds.length ∧ Copy (ds.take k) ds2)) (fun ⟨k, B, cb, ds2⟩ => ds.length - k) (0, none, 0, []) ?_ ?_
  · exact ⟨(Has.cons ha (by kernel_rfl) (by kernel_rfl) (Has.cons ha (by kernel_rfl) (by kernel_rfl) (Has.cons ha (by kernel_rfl) (by kernel_rfl) (Has.nil ha)))), s, ⟨Nat.zero_le _, Copy.nil⟩⟩
  · clear ha s; rintro ⟨k, B, cb, ds2⟩ a w ⟨ha, s, hp⟩
    refine wp_seq ?_
    refine wp_seq ?_
    refine wp_region_lit ?_
    refine st_val (.int .i64 ((k : Nat) : Int)) ha (by kernel_rfl) (by kernel_rfl) ?_
    clear ha; intro a ha
    refine st_val (.slice A ds.length ca) ha (by kernel_rfl) (by kernel_rfl) ?_
    clear ha; intro a ha
    refine st_val (.int .i64 ((ds.length : Nat) : Int)) ha (by kernel_rfl) (by kernel_rfl) ?_
    clear ha; intro a ha
    refine st_val (.bool (decide (((k : Nat) : Int) < ((ds.length : Nat) : Int)))) ha (by kernel_rfl) (by kernel_rfl) ?_
    clear ha; intro a ha
    refine wpList_nil ?_
    refine then_normal ?_
    refine wp_part (decide (((k : Nat) : Int) < ((ds.length : Nat) : Int))) ha rfl (by kernel_rfl) (fun hb => ?_) (fun hb => ?_)
    · rw [hb] at ha; replace hb : (((k : Nat) : Int) < ((ds.length : Nat) : Int)) := of_decide_eq_true hb
      obtain ⟨d, hd⟩ : ∃ d, ds[k]? = some d := ⟨_, List.getElem?_eq_getElem (by omega)⟩
      have hdl := (hn.row hd).1
      obtain ⟨ad, hA⟩ := Reads.addr (hr _ s.sat.tail.tail).1 (by omega)
      subst hA
      have hcp := hp.2
      have hsd := hsl d (List.mem_of_getElem? hd)
      refine wp_skip ?_
      refine then_normal ?_
      refine wp_seq ?_
      refine wp_block ?_
      refine wp_seq ?_
      refine wp_region_head 12 (fun w => Reads w 4 (some ad) ds.length (nvs ds) ∧ True) (by kernel_rfl) (by decide) ?_
      replace s := s.drew; generalize _root_.Go.World.drew _ = w at s ⊢
      have hS : (fun w => Reads w 4 (some ad) ds.length (nvs ds) ∧ True) w := ⟨(hr _ s.sat.tail.tail).1, trivial⟩
      refine hd_val (i := 0) (.slice (some ad) ds.length ca) ha rfl (by kernel_rfl) (fun _ _ _ h => h) (by kernel_rfl) (fun w hS => (by kernel_rfl)) hS ?_
      clear ha; intro a ha
      refine hd_val (i := 1) (.int .i64 ((k : Nat) : Int)) ha rfl (by kernel_rfl) (fun _ _ _ h => h) (by kernel_rfl) (fun w hS => (by kernel_rfl)) hS ?_
      clear ha; intro a ha
      refine hd_val (i := 2) (.pointer (some (ad.add (k * 4)))) ha rfl (by kernel_rfl) (fun _ _ _ h => h) (by kernel_rfl) (fun w hS => (run_indexAddr' (kd := .i64) (i := ((k : Nat) : Int)) (n := ds.length) (c := ca) k rfl Try.underlying39 Try.sizeOf80 (by kernel_rfl) (by kernel_rfl) rfl (by first | assumption | omega) _)) hS ?_
      clear ha; intro a ha
      refine hd_val (i := 3) (.pointer (some (ad.add (k * 4 + 0)))) ha rfl (by kernel_rfl) (fun _ _ _ h => h) (by kernel_rfl) (fun w hS => (run_fieldAddr_at (i := k * 4) (off := 0) rfl Try.underlying80 rfl Try.sizeOf3 (by kernel_rfl) _)) hS ?_
      clear ha; intro a ha
      refine hd_val (i := 4) (.int .i64 d.id) ha rfl (by kernel_rfl) (fun _ _ _ h => h) (by kernel_rfl) (fun w hS => run_loadAt1 (i := k * 4 + 0) hS.1 rfl (by kernel_rfl) Try.isAgg3 (by rw [nvs_at hd (by omega)]; rfl)) hS ?_
      clear ha; intro a ha
      refine hd_val (i := 5) (.slice (some ad) ds.length ca) ha rfl (by kernel_rfl) (fun _ _ _ h => h) (by kernel_rfl) (fun w hS => (by kernel_rfl)) hS ?_
      clear ha; intro a ha
      refine hd_val (i := 6) (.int .i64 ((k : Nat) : Int)) ha rfl (by kernel_rfl) (fun _ _ _ h => h) (by kernel_rfl) (fun w hS => (by kernel_rfl)) hS ?_
      clear ha; intro a ha
      refine hd_val (i := 7) (.pointer (some (ad.add (k * 4)))) ha rfl (by kernel_rfl) (fun _ _ _ h => h) (by kernel_rfl) (fun w hS => (run_indexAddr' (kd := .i64) (i := ((k : Nat) : Int)) (n := ds.length) (c := ca) k rfl Try.underlying39 Try.sizeOf80 (by kernel_rfl) (by kernel_rfl) rfl (by first | assumption | omega) _)) hS ?_
      clear ha; intro a ha
      refine hd_val (i := 8) (.pointer (some (ad.add (k * 4 + 1)))) ha rfl (by kernel_rfl) (fun _ _ _ h => h) (by kernel_rfl) (fun w hS => (run_fieldAddr_at (i := k * 4) (off := 1) rfl Try.underlying80 rfl Try.sizeOf24 (by kernel_rfl) _)) hS ?_
      clear ha; intro a ha
      refine hd_val (i := 9) (.agg #[.int .i64 d.wall, .int .i64 d.logic]) ha rfl (by kernel_rfl) (fun _ _ _ h => h) (by kernel_rfl) (fun w hS => run_loadAtN (i := k * 4 + 1) [.int .i64 d.wall, .int .i64 d.logic] hS.1 rfl (by kernel_rfl) Try.isAgg24 Try.sizeOf24 (fun q_ hq_ => by rw [Nat.add_assoc, nvs_at hd (by omega)]; match q_, hq_ with | 0, _ => rfl | 1, _ => rfl) rfl) hS ?_
      clear ha; intro a ha
      refine hd_val (i := 10) (.agg #[.int .i64 d.id, .int .i64 d.wall, .int .i64 d.logic, .slice none 0 0]) ha rfl (by kernel_rfl) (fun _ _ _ h => h) (by kernel_rfl) (fun w hS => (by kernel_rfl)) hS ?_
      clear ha; intro a ha
      refine hd_ex (i := 11) ha rfl (by kernel_rfl) (by kernel_rfl) (ex_alloc [.int .i64 0, .int .i64 0, .int .i64 0, .slice none 0 0] s rfl (Try.zeroValue27 _) (by kernel_rfl)) ?_
      clear hS; rintro _ w ⟨g1, rfl, s⟩
      replace s : St W (.blk g1 [.int .i64 0, .int .i64 0, .int .i64 0, .slice none 0 0] 27 :: Own 27 4 B k cb (nvs ds2) :: Inn 51 ds2 :: L) w := s
      have hS : (fun w => Reads w 4 (some ad) ds.length (nvs ds) ∧ True) w := ⟨(hr _ s.sat.tail.tail.tail).1, trivial⟩
      refine ⟨hS, ?_⟩; clear ha; intro a ha
      refine Head.done (by kernel_rfl) ?_
      clear hS; simp only [List.drop_succ_cons, List.drop_zero]
      refine st_exd ha (by kernel_rfl) (ex_store (of_ := 0) 0 [.int .i64 d.id, .int .i64 d.wall, .int .i64 d.logic, .slice none 0 0] s rfl rfl (by kernel_rfl) (by kernel_rfl) (Try.sizeOf27 _) rfl (by simp [Value.oneCell']) (Nat.le_of_ble_eq_true rfl)) ?_
      clear ha; rintro w a s ha
      replace s : St W (.blk g1 [.int .i64 d.id, .int .i64 d.wall, .int .i64 d.logic, .slice none 0 0] 27 :: Own 27 4 B k cb (nvs ds2) :: Inn 51 ds2 :: L) w := s
      refine wpList_nil ?_
      refine then_normal ?_
      refine wp_seq ?_
      refine wp_seq ?_
      refine wp_region_lit ?_
      refine st_val (.int .i64 0) ha (by kernel_rfl) (by kernel_rfl) ?_
      clear ha; intro a ha
      refine wpList_nil ?_
      refine then_normal ?_
      refine wp_block ?_
      replace s := s.at_ (j := 2) rfl
      replace s : St W (Inn 51 ds2 :: .blk g1 [.int .i64 d.id, .int .i64 d.wall, .int .i64 d.logic, .slice none 0 0] 27 :: Own 27 4 B k cb (nvs ds2) :: L) w := s
      replace s := s.at_ (j := 2) rfl
      replace s : St W (Own 27 4 B k cb (nvs ds2) :: Inn 51 ds2 :: .blk g1 [.int .i64 d.id, .int .i64 d.wall, .int .i64 d.logic, .slice none 0 0] 27 :: L) w := s
      replace s := Own.none_ (e := 51) (k := 7) none s
      replace s : St W (Own 51 7 none 0 0 [] :: Own 27 4 B k cb (nvs ds2) :: Inn 51 ds2 :: .blk g1 [.int .i64 d.id, .int .i64 d.wall, .int .i64 d.logic, .slice none 0 0] 27 :: L) w := s
      refine wp_loopG (G := (Nat × Option Addr × Nat)) (fun ⟨j, C, cc⟩ a w => Has a 52 [(0, .slice (some ad) ds.length ca), (3, .slice B k cb), (4, .int .i64 ((k : Nat) : Int)), (5, .pointer (some ⟨g1, 0, none⟩)), (6, .int .i64 ((j : Nat) : Int))] ∧ St W (Own 51 7 C j cc (dvs (d.l.take j)) :: Own 27 4 B k cb (nvs ds2) :: Inn 51 ds2 :: .blk g1 [.int .i64 d.id, .int .i64 d.wall, .int .i64 d.logic, .slice C j cc] 27 :: L) w ∧ j ≤ d.l.length) (fun ⟨j, C, cc⟩ => d.l.length - j) (0, none, 0) ?_ ?_
      · exact ⟨(Has.cons ha (by kernel_rfl) (by kernel_rfl) (Has.cons ha (by kernel_rfl) (by kernel_rfl) (Has.cons ha (by kernel_rfl) (by kernel_rfl) (Has.cons ha (by kernel_rfl) (by kernel_rfl) (Has.cons ha (by kernel_rfl) (by kernel_rfl) (Has.nil ha)))))), s, Nat.zero_le _⟩
      · clear ha s; rintro ⟨j, C, cc⟩ a w ⟨ha, s, hp⟩
        refine wp_seq ?_
        refine wp_seq ?_
        refine wp_region_lit ?_
        refine st_val (.int .i64 ((j : Nat) : Int)) ha (by kernel_rfl) (by kernel_rfl) ?_
        clear ha; intro a ha
        refine st_val (.slice (some ad) ds.length ca) ha (by kernel_rfl) (by kernel_rfl) ?_
        clear ha; intro a ha
        refine st_val (.int .i64 ((k : Nat) : Int)) ha (by kernel_rfl) (by kernel_rfl) ?_
        clear ha; intro a ha
        refine st_val (.pointer (some (ad.add (k * 4)))) ha (by kernel_rfl) (run_indexAddr' (kd := .i64) (i := ((k : Nat) : Int)) (n := ds.length) (c := ca) k rfl Try.underlying39 Try.sizeOf80 (by kernel_rfl) (by kernel_rfl) rfl (by first | assumption | omega) _) ?_
        clear ha; intro a ha
        refine st_val (.pointer (some (ad.add (k * 4 + 3)))) ha (by kernel_rfl) (run_fieldAddr_at (i := k * 4) (off := 3) rfl Try.underlying80 rfl Try.sizeOf78 (by kernel_rfl) _) ?_
        clear ha; intro a ha
        refine st_val (.slice d.A d.l.length d.c) ha (by kernel_rfl) (run_loadAt1 (i := k * 4 + 3) ((hr _ s.sat.tail.tail.tail.tail).1) rfl (by kernel_rfl) Try.isAgg78 (by rw [nvs_at hd (by omega)]; rfl)) ?_
        clear ha; intro a ha
        refine st_val (.int .i64 ((d.l.length : Nat) : Int)) ha (by kernel_rfl) (by kernel_rfl) ?_
        clear ha; intro a ha
        refine st_val (.bool (decide (((j : Nat) : Int) < ((d.l.length : Nat) : Int)))) ha (by kernel_rfl) (by kernel_rfl) ?_
        clear ha; intro a ha
        refine wpList_nil ?_
        refine then_normal ?_
        refine wp_part (decide (((j : Nat) : Int) < ((d.l.length : Nat) : Int))) ha rfl (by kernel_rfl) (fun hb => ?_) (fun hb => ?_)
        · rw [hb] at ha; replace hb : (((j : Nat) : Int) < ((d.l.length : Nat) : Int)) := of_decide_eq_true hb
          obtain ⟨x, hx⟩ : ∃ x, d.l[j]? = some x := ⟨_, List.getElem?_eq_getElem (by omega)⟩
          obtain ⟨al, hAl⟩ : ∃ al, d.A = some al := Reads.addr ((hr _ s.sat.tail.tail.tail.tail).row hd).1 (by omega)
          refine wp_skip ?_
          refine then_normal ?_
          refine wp_seq ?_
          refine wp_block ?_
          refine wp_region_head 11 (fun w => BlkIs g1 [.int .i64 d.id, .int .i64 d.wall, .int .i64 d.logic, .slice C j cc] w ∧ Reads w 4 (some ad) ds.length (nvs ds) ∧ Reads w 7 (some al) d.l.length (dvs d.l) ∧ True) (by kernel_rfl) (by decide) ?_
          replace s := s.drew; generalize _root_.Go.World.drew _ = w at s ⊢
          have hS : (fun w => BlkIs g1 [.int .i64 d.id, .int .i64 d.wall, .int .i64 d.logic, .slice C j cc] w ∧ Reads w 4 (some ad) ds.length (nvs ds) ∧ Reads w 7 (some al) d.l.length (dvs d.l) ∧ True) w := ⟨s.blkIs 3 rfl, (hr _ s.sat.tail.tail.tail.tail).1, (hAl ▸ ((hr _ s.sat.tail.tail.tail.tail).row hd).1), trivial⟩
          refine hd_val (i := 0) (.pointer (some ⟨g1, 3, none⟩)) ha rfl (by kernel_rfl) (fun _ _ _ h => h) (by kernel_rfl) (fun w hS => (by kernel_rfl)) hS ?_
          clear ha; intro a ha
          refine hd_val (i := 1) (.slice C j cc) ha rfl (by kernel_rfl) (fun _ _ _ h => h) (by kernel_rfl) (fun w hS => run_load1 (of_ := 3) hS.1 rfl (by kernel_rfl) Try.isAgg25 rfl) hS ?_
          clear ha; intro a ha
          refine hd_val (i := 2) (.slice (some ad) ds.length ca) ha rfl (by kernel_rfl) (fun _ _ _ h => h) (by kernel_rfl) (fun w hS => (by kernel_rfl)) hS ?_
          clear ha; intro a ha
          refine hd_val (i := 3) (.int .i64 ((k : Nat) : Int)) ha rfl (by kernel_rfl) (fun _ _ _ h => h) (by kernel_rfl) (fun w hS => (by kernel_rfl)) hS ?_
          clear ha; intro a ha
          refine hd_val (i := 4) (.pointer (some (ad.add (k * 4)))) ha rfl (by kernel_rfl) (fun _ _ _ h => h) (by kernel_rfl) (fun w hS => (run_indexAddr' (kd := .i64) (i := ((k : Nat) : Int)) (n := ds.length) (c := ca) k rfl Try.underlying39 Try.sizeOf80 (by kernel_rfl) (by kernel_rfl) rfl (by first | assumption | omega) _)) hS ?_
          clear ha; intro a ha
          refine hd_val (i := 5) (.pointer (some (ad.add (k * 4 + 3)))) ha rfl (by kernel_rfl) (fun _ _ _ h => h) (by kernel_rfl) (fun w hS => (run_fieldAddr_at (i := k * 4) (off := 3) rfl Try.underlying80 rfl Try.sizeOf78 (by kernel_rfl) _)) hS ?_
          clear ha; intro a ha
          refine hd_val (i := 6) (.slice d.A d.l.length d.c) ha rfl (by kernel_rfl) (fun _ _ _ h => h) (by kernel_rfl) (fun w hS => run_loadAt1 (i := k * 4 + 3) hS.2.1 rfl (by kernel_rfl) Try.isAgg78 (by rw [nvs_at hd (by omega)]; rfl)) hS ?_
          clear ha; intro a ha
          refine hd_val (i := 7) (.int .i64 ((j : Nat) : Int)) ha rfl (by kernel_rfl) (fun _ _ _ h => h) (by kernel_rfl) (fun w hS => (by kernel_rfl)) hS ?_
          clear ha; intro a ha
          refine hd_val (i := 8) (.pointer (some (al.add (j * 7)))) ha rfl (by kernel_rfl) (fun _ _ _ h => h) (by kernel_rfl) (fun w hS => (run_indexAddr' (kd := .i64) (i := ((j : Nat) : Int)) (n := d.l.length) (c := d.c) j rfl Try.underlying78 Try.sizeOf81 (by rw [← hAl]; kernel_rfl) (by kernel_rfl) rfl (by first | assumption | omega) _)) hS ?_
          clear ha; intro a ha
          refine hd_val (i := 9) (.agg #[.int .i64 x.t.op, .string (str x.t.key), .string (str x.t.val), .string (str x.t.frm), .string (str x.t.to), .bool x.t.is, .slice x.A x.t.rows.length x.c]) ha rfl (by kernel_rfl) (fun _ _ _ h => h) (by kernel_rfl) (fun w hS => run_loadAtN (i := j * 7) [.int .i64 x.t.op, .string (str x.t.key), .string (str x.t.val), .string (str x.t.frm), .string (str x.t.to), .bool x.t.is, .slice x.A x.t.rows.length x.c] hS.2.2.1 rfl (by kernel_rfl) Try.isAgg81 Try.sizeOf81 (fun q_ hq_ => dvs_at hx hq_) rfl) hS ?_
          clear ha; intro a ha
          refine hd_ex (i := 10) ha rfl (by kernel_rfl) (by kernel_rfl) (ex_buildSlice elt25 _ zs25 [.int .i64 x.t.op, .string (str x.t.key), .string (str x.t.val), .string (str x.t.frm), .string (str x.t.to), .bool x.t.is, .slice x.A x.t.rows.length x.c] s rfl (by kernel_rfl) (by decide)) ?_
          clear hS; rintro _ w ⟨g2, rfl, s⟩
          replace s : St W (.blk g2 [.int .i64 x.t.op, .string (str x.t.key), .string (str x.t.val), .string (str x.t.frm), .string (str x.t.to), .bool x.t.is, .slice x.A x.t.rows.length x.c] 51 :: Own 51 7 C j cc (dvs (d.l.take j)) :: Own 27 4 B k cb (nvs ds2) :: Inn 51 ds2 :: .blk g1 [.int .i64 d.id, .int .i64 d.wall, .int .i64 d.logic, .slice C j cc] 27 :: L) w := s
          have hS : (fun w => BlkIs g1 [.int .i64 d.id, .int .i64 d.wall, .int .i64 d.logic, .slice C j cc] w ∧ Reads w 4 (some ad) ds.length (nvs ds) ∧ Reads w 7 (some al) d.l.length (dvs d.l) ∧ True) w := ⟨s.blkIs 4 rfl, (hr _ s.sat.tail.tail.tail.tail.tail).1, (hAl ▸ ((hr _ s.sat.tail.tail.tail.tail.tail).row hd).1), trivial⟩
          refine ⟨hS, ?_⟩; clear ha; intro a ha
          refine Head.done (by kernel_rfl) ?_
          clear hS; simp only [List.drop_succ_cons, List.drop_zero]
          refine st_ex ha (by kernel_rfl) (ex_append (m := 1) (d' := 1) elt25 (by decide) 1 [.int .i64 x.t.op, .string (str x.t.key), .string (str x.t.val), .string (str x.t.frm), .string (str x.t.to), .bool x.t.is, .slice x.A x.t.rows.length x.c] s rfl (by kernel_rfl) (by kernel_rfl) rfl (reads_blk (s.blkIs 0 rfl) rfl) (by simp [Value.oneCell']) (by simp only [maxLen]; omega) (by omega)) ?_
          clear ha; rintro _ w a ⟨A3, c4, rfl, hA_, s⟩ ha
          replace s : St W (.blk g2 [.int .i64 x.t.op, .string (str x.t.key), .string (str x.t.val), .string (str x.t.frm), .string (str x.t.to), .bool x.t.is, .slice x.A x.t.rows.length x.c] 51 :: Own 51 7 A3 (j + 1) c4 ((dvs (d.l.take j)) ++ [.int .i64 x.t.op, .string (str x.t.key), .string (str x.t.val), .string (str x.t.frm), .string (str x.t.to), .bool x.t.is, .slice x.A x.t.rows.length x.c]) :: Own 27 4 B k cb (nvs ds2) :: Inn 51 ds2 :: .blk g1 [.int .i64 d.id, .int .i64 d.wall, .int .i64 d.logic, .slice C j cc] 27 :: L) w := s
          refine st_val (.pointer (some ⟨g1, 3, none⟩)) ha (by kernel_rfl) (by kernel_rfl) ?_
          clear ha; intro a ha
          refine st_exd ha (by kernel_rfl) (ex_store (of_ := 3) 4 [.slice A3 (j + 1) c4] s rfl rfl (by kernel_rfl) (by kernel_rfl) (Try.sizeOf25 _) rfl (by simp [Value.oneCell']) (Nat.le_of_ble_eq_true rfl)) ?_
          clear ha; rintro w a s ha
          replace s : St W (.blk g2 [.int .i64 x.t.op, .string (str x.t.key), .string (str x.t.val), .string (str x.t.frm), .string (str x.t.to), .bool x.t.is, .slice x.A x.t.rows.length x.c] 51 :: Own 51 7 A3 (j + 1) c4 ((dvs (d.l.take j)) ++ [.int .i64 x.t.op, .string (str x.t.key), .string (str x.t.val), .string (str x.t.frm), .string (str x.t.to), .bool x.t.is, .slice x.A x.t.rows.length x.c]) :: Own 27 4 B k cb (nvs ds2) :: Inn 51 ds2 :: .blk g1 [.int .i64 d.id, .int .i64 d.wall, .int .i64 d.logic, .slice A3 (j + 1) c4] 27 :: L) w := s
          refine wpList_nil ?_
          refine block_normal ?_
          refine then_normal ?_
          refine wp_region_lit ?_
          refine st_val (.int .i64 ((j : Nat) : Int)) ha (by kernel_rfl) (by kernel_rfl) ?_
          clear ha; intro a ha
          refine st_val (.int .i64 ((j + 1 : Nat) : Int)) ha (by kernel_rfl) (run_arith (((j : Nat) : Int) + (1 : Int)) ((j + 1 : Nat) : Int) rfl (by kernel_rfl) (by kernel_rfl) (.inl ⟨rfl, rfl⟩) (by rw [wrap64_in (by omega)]; try omega) _) ?_
          clear ha; intro a ha
          refine st_val (.int .i64 ((j + 1 : Nat) : Int)) ha (by kernel_rfl) (by kernel_rfl) ?_
          clear ha; intro a ha
          refine wpList_nil ?_
          refine then_normal ?_
          replace s := s.at_ (j := 4) rfl
          replace s : St W (.blk g1 [.int .i64 d.id, .int .i64 d.wall, .int .i64 d.logic, .slice A3 (j + 1) c4] 27 :: .blk g2 [.int .i64 x.t.op, .string (str x.t.key), .string (str x.t.val), .string (str x.t.frm), .string (str x.t.to), .bool x.t.is, .slice x.A x.t.rows.length x.c] 51 :: Own 51 7 A3 (j + 1) c4 ((dvs (d.l.take j)) ++ [.int .i64 x.t.op, .string (str x.t.key), .string (str x.t.val), .string (str x.t.frm), .string (str x.t.to), .bool x.t.is, .slice x.A x.t.rows.length x.c]) :: Own 27 4 B k cb (nvs ds2) :: Inn 51 ds2 :: L) w := s
          replace s := s.at_ (j := 4) rfl
          replace s : St W (Inn 51 ds2 :: .blk g1 [.int .i64 d.id, .int .i64 d.wall, .int .i64 d.logic, .slice A3 (j + 1) c4] 27 :: .blk g2 [.int .i64 x.t.op, .string (str x.t.key), .string (str x.t.val), .string (str x.t.frm), .string (str x.t.to), .bool x.t.is, .slice x.A x.t.rows.length x.c] 51 :: Own 51 7 A3 (j + 1) c4 ((dvs (d.l.take j)) ++ [.int .i64 x.t.op, .string (str x.t.key), .string (str x.t.val), .string (str x.t.frm), .string (str x.t.to), .bool x.t.is, .slice x.A x.t.rows.length x.c]) :: Own 27 4 B k cb (nvs ds2) :: L) w := s
          replace s := s.at_ (j := 4) rfl
          replace s : St W (Own 27 4 B k cb (nvs ds2) :: Inn 51 ds2 :: .blk g1 [.int .i64 d.id, .int .i64 d.wall, .int .i64 d.logic, .slice A3 (j + 1) c4] 27 :: .blk g2 [.int .i64 x.t.op, .string (str x.t.key), .string (str x.t.val), .string (str x.t.frm), .string (str x.t.to), .bool x.t.is, .slice x.A x.t.rows.length x.c] 51 :: Own 51 7 A3 (j + 1) c4 ((dvs (d.l.take j)) ++ [.int .i64 x.t.op, .string (str x.t.key), .string (str x.t.val), .string (str x.t.frm), .string (str x.t.to), .bool x.t.is, .slice x.A x.t.rows.length x.c]) :: L) w := s
          replace s := s.at_ (j := 4) rfl
          replace s : St W (Own 51 7 A3 (j + 1) c4 ((dvs (d.l.take j)) ++ [.int .i64 x.t.op, .string (str x.t.key), .string (str x.t.val), .string (str x.t.frm), .string (str x.t.to), .bool x.t.is, .slice x.A x.t.rows.length x.c]) :: Own 27 4 B k cb (nvs ds2) :: Inn 51 ds2 :: .blk g1 [.int .i64 d.id, .int .i64 d.wall, .int .i64 d.logic, .slice A3 (j + 1) c4] 27 :: .blk g2 [.int .i64 x.t.op, .string (str x.t.key), .string (str x.t.val), .string (str x.t.frm), .string (str x.t.to), .bool x.t.is, .slice x.A x.t.rows.length x.c] 51 :: L) w := s
          replace s : St W (Own 51 7 A3 (j + 1) c4 ((dvs (d.l.take j)) ++ [.int .i64 x.t.op, .string (str x.t.key), .string (str x.t.val), .string (str x.t.frm), .string (str x.t.to), .bool x.t.is, .slice x.A x.t.rows.length x.c]) :: Own 27 4 B k cb (nvs ds2) :: Inn 51 ds2 :: .blk g1 [.int .i64 d.id, .int .i64 d.wall, .int .i64 d.logic, .slice A3 (j + 1) c4] 27 :: L) w := St.mid (A := [Own 51 7 A3 (j + 1) c4 ((dvs (d.l.take j)) ++ [.int .i64 x.t.op, .string (str x.t.key), .string (str x.t.val), .string (str x.t.frm), .string (str x.t.to), .bool x.t.is, .slice x.A x.t.rows.length x.c]), Own 27 4 B k cb (nvs ds2), Inn 51 ds2, .blk g1 [.int .i64 d.id, .int .i64 d.wall, .int .i64 d.logic, .slice A3 (j + 1) c4] 27]) (B := [.blk g2 [.int .i64 x.t.op, .string (str x.t.key), .string (str x.t.val), .string (str x.t.frm), .string (str x.t.to), .bool x.t.is, .slice x.A x.t.rows.length x.c] 51]) s
          rw [show [.int .i64 x.t.op, .string (str x.t.key), .string (str x.t.val), .string (str x.t.frm), .string (str x.t.to), .bool x.t.is, .slice x.A x.t.rows.length x.c] = dv x from rfl, ← dvs_take hx] at s
          exact ⟨(j + 1, A3, c4), (show d.l.length - (j + 1) < d.l.length - j by omega), (Has.cons ha (by kernel_rfl) (by kernel_rfl) (Has.cons ha (by kernel_rfl) (by kernel_rfl) (Has.cons ha (by kernel_rfl) (by kernel_rfl) (Has.cons ha (by kernel_rfl) (by kernel_rfl) (Has.cons ha (by kernel_rfl) (by kernel_rfl) (Has.nil ha)))))), s, (show j + 1 ≤ d.l.length by omega)⟩
        · rw [hb] at ha; replace hb : ¬ (((j : Nat) : Int) < ((d.l.length : Nat) : Int)) := of_decide_eq_false hb
          refine wp_exit ?_
          refine then_exit ?_
          refine then_exit ?_
          refine block_hit ?_
          refine then_normal ?_
          refine wp_region_lit ?_
          refine st_val (.slice B k cb) ha (by kernel_rfl) (by kernel_rfl) ?_
          clear ha; intro a ha
          refine st_val (.agg #[.int .i64 d.id, .int .i64 d.wall, .int .i64 d.logic, .slice C j cc]) ha (by kernel_rfl) (run_loadN (of_ := 0) [.int .i64 d.id, .int .i64 d.wall, .int .i64 d.logic, .slice C j cc] (s.blkIs 3 rfl) rfl (by kernel_rfl) Try.isAgg27 Try.sizeOf27 rfl (Nat.le_of_ble_eq_true rfl)) ?_
          clear ha; intro a ha
          refine st_ex ha (by kernel_rfl) (ex_buildSlice elt22 _ zs22 [.int .i64 d.id, .int .i64 d.wall, .int .i64 d.logic, .slice C j cc] s rfl (by kernel_rfl) (by decide)) ?_
          clear ha; rintro _ w a ⟨g5, rfl, s⟩ ha
          replace s : St W (.blk g5 [.int .i64 d.id, .int .i64 d.wall, .int .i64 d.logic, .slice C j cc] 27 :: Own 51 7 C j cc (dvs (d.l.take j)) :: Own 27 4 B k cb (nvs ds2) :: Inn 51 ds2 :: .blk g1 [.int .i64 d.id, .int .i64 d.wall, .int .i64 d.logic, .slice C j cc] 27 :: L) w := s
          refine st_ex ha (by kernel_rfl) (ex_append (m := 1) (d' := 1) elt22 (by decide) 2 [.int .i64 d.id, .int .i64 d.wall, .int .i64 d.logic, .slice C j cc] s rfl (by kernel_rfl) (by kernel_rfl) rfl (reads_blk (s.blkIs 0 rfl) rfl) (by simp [Value.oneCell']) (by simp only [maxLen]; omega) (by omega)) ?_
          clear ha; rintro _ w a ⟨A6, c7, rfl, hA_, s⟩ ha
          replace s : St W (.blk g5 [.int .i64 d.id, .int .i64 d.wall, .int .i64 d.logic, .slice C j cc] 27 :: Own 51 7 C j cc (dvs (d.l.take j)) :: Own 27 4 A6 (k + 1) c7 ((nvs ds2) ++ [.int .i64 d.id, .int .i64 d.wall, .int .i64 d.logic, .slice C j cc]) :: Inn 51 ds2 :: .blk g1 [.int .i64 d.id, .int .i64 d.wall, .int .i64 d.logic, .slice C j cc] 27 :: L) w := s
          refine st_val (.slice A6 (k + 1) c7) ha (by kernel_rfl) (by kernel_rfl) ?_
          clear ha; intro a ha
          refine wpList_nil ?_
          refine block_normal ?_
          refine then_normal ?_
          refine wp_region_lit ?_
          refine st_val (.int .i64 ((k : Nat) : Int)) ha (by kernel_rfl) (by kernel_rfl) ?_
          clear ha; intro a ha
          refine st_val (.int .i64 ((k + 1 : Nat) : Int)) ha (by kernel_rfl) (run_arith (((k : Nat) : Int) + (1 : Int)) ((k + 1 : Nat) : Int) rfl (by kernel_rfl) (by kernel_rfl) (.inl ⟨rfl, rfl⟩) (by rw [wrap64_in (by omega)]; try omega) _) ?_
          clear ha; intro a ha
          refine st_val (.int .i64 ((k + 1 : Nat) : Int)) ha (by kernel_rfl) (by kernel_rfl) ?_
          clear ha; intro a ha
          refine wpList_nil ?_
          refine then_normal ?_
          replace s := s.at_ (j := 2) rfl
          replace s : St W (Own 27 4 A6 (k + 1) c7 ((nvs ds2) ++ [.int .i64 d.id, .int .i64 d.wall, .int .i64 d.logic, .slice C j cc]) :: .blk g5 [.int .i64 d.id, .int .i64 d.wall, .int .i64 d.logic, .slice C j cc] 27 :: Own 51 7 C j cc (dvs (d.l.take j)) :: Inn 51 ds2 :: .blk g1 [.int .i64 d.id, .int .i64 d.wall, .int .i64 d.logic, .slice C j cc] 27 :: L) w := s
          replace s := s.at_ (j := 3) rfl
          replace s : St W (Inn 51 ds2 :: Own 27 4 A6 (k + 1) c7 ((nvs ds2) ++ [.int .i64 d.id, .int .i64 d.wall, .int .i64 d.logic, .slice C j cc]) :: .blk g5 [.int .i64 d.id, .int .i64 d.wall, .int .i64 d.logic, .slice C j cc] 27 :: Own 51 7 C j cc (dvs (d.l.take j)) :: .blk g1 [.int .i64 d.id, .int .i64 d.wall, .int .i64 d.logic, .slice C j cc] 27 :: L) w := s
          replace s := s.at_ (j := 3) rfl
          replace s : St W (Own 51 7 C j cc (dvs (d.l.take j)) :: Inn 51 ds2 :: Own 27 4 A6 (k + 1) c7 ((nvs ds2) ++ [.int .i64 d.id, .int .i64 d.wall, .int .i64 d.logic, .slice C j cc]) :: .blk g5 [.int .i64 d.id, .int .i64 d.wall, .int .i64 d.logic, .slice C j cc] 27 :: .blk g1 [.int .i64 d.id, .int .i64 d.wall, .int .i64 d.logic, .slice C j cc] 27 :: L) w := s
          replace s : St W (Own 51 7 C j cc (dvs (d.l.take j)) :: Inn 51 ds2 :: Own 27 4 A6 (k + 1) c7 ((nvs ds2) ++ [.int .i64 d.id, .int .i64 d.wall, .int .i64 d.logic, .slice C j cc]) :: L) w := St.mid (A := [Own 51 7 C j cc (dvs (d.l.take j)), Inn 51 ds2, Own 27 4 A6 (k + 1) c7 ((nvs ds2) ++ [.int .i64 d.id, .int .i64 d.wall, .int .i64 d.logic, .slice C j cc])]) (B := [.blk g5 [.int .i64 d.id, .int .i64 d.wall, .int .i64 d.logic, .slice C j cc] 27, .blk g1 [.int .i64 d.id, .int .i64 d.wall, .int .i64 d.logic, .slice C j cc] 27]) s
          have hjl : j = d.l.length := by omega
          subst hjl
          rw [List.take_length] at s
          rw [show [.int .i64 d.id, .int .i64 d.wall, .int .i64 d.logic, .slice C d.l.length cc] = nv ⟨d.id, d.wall, d.logic, C, cc, d.l⟩ from rfl, nvs_snoc] at s
          replace s := (Inn.snoc (⟨d.id, d.wall, d.logic, C, cc, d.l⟩ : Dn) s).at_ (j := 1) rfl
          replace s : St W (Own 27 4 A6 (k + 1) c7 (nvs (ds2 ++ [(⟨d.id, d.wall, d.logic, C, cc, d.l⟩ : Dn)])) :: Inn 51 (ds2 ++ [(⟨d.id, d.wall, d.logic, C, cc, d.l⟩ : Dn)]) :: L) w := s
          exact ⟨(k + 1, A6, c7, ds2 ++ [(⟨d.id, d.wall, d.logic, C, cc, d.l⟩ : Dn)]), (show ds.length - (k + 1) < ds.length - k by omega), (Has.cons ha (by kernel_rfl) (by kernel_rfl) (Has.cons ha (by kernel_rfl) (by kernel_rfl) (Has.cons ha (by kernel_rfl) (by kernel_rfl) (Has.nil ha)))), s, (show k + 1 ≤ ds.length by omega), by rw [take_snoc hd]; exact hcp.snoc rfl⟩
    · rw [hb] at ha; replace hb : ¬ (((k : Nat) : Int) < ((ds.length : Nat) : Int)) := of_decide_eq_false hb
      have hk : k = ds.length := by omega
      have hcp := hp.2
      rw [hk, List.take_length] at hcp
      have hcl := hcp.length
      refine wp_exit ?_
      refine then_exit ?_
      refine then_exit ?_
      refine block_hit ?_
      refine then_normal ?_
      refine wp_seq ?_
      refine wp_region_lit ?_
      refine st_val (.slice B k cb) ha (by kernel_rfl) (by kernel_rfl) ?_
      clear ha; intro a ha
      refine st_val (.slice B k cb) ha (by kernel_rfl) (by kernel_rfl) ?_
      clear ha; intro a ha
      refine wpList_nil ?_
      refine then_normal ?_
      refine wp_ret ?_
      refine ret_with (v := .slice B k cb) ha (results_1 rfl ha (res_tmp (by kernel_rfl) (by kernel_rfl))) ?_
      rw [hk] at s
      rw [hk]
      exact ⟨_, _, ds2, rfl, hcp, hcl, s⟩

theorem eqints_any (W : World) (L : List Chunk) (w : World) (A B : Option Addr) (n ca cb : Nat) (la lb : List Nat) (hra : Knows L fun w => Reads w 1 A la.length (nats la)) (hrb : Knows L fun w => Reads w 1 B lb.length (nats lb)) (hn : lb.length ≤ 140737488351232) (s : St W L w) :
    Calls Try.prog 16 #[.slice A la.length ca, .slice B lb.length cb] w fun e w' => e = .returned (.bool (decide (la = lb))) ∧ St W L w' := by
  refine enter_args (l := [.slice A la.length ca, .slice B lb.length cb]) Try.func16 rfl rfl (Nat.le_of_ble_eq_true rfl) ?_
  intro a ha; replace ha : Has a 26 [(0, .slice A la.length ca), (1, .slice B lb.length cb)] := ha
  refine wp_seq ?_
  refine wp_region_lit ?_
  refine st_val (.bool false) ha (by kernel_rfl) (by kernel_rfl) ?_
  clear ha; intro a ha
  refine wpList_nil ?_
  refine then_normal ?_
  refine wp_seq ?_
  refine wp_seq ?_
  refine wp_region_lit ?_
  refine st_val (.slice A la.length ca) ha (by kernel_rfl) (by kernel_rfl) ?_
  clear ha; intro a ha
  refine st_val (.int .i64 ((la.length : Nat) : Int)) ha (by kernel_rfl) (by kernel_rfl) ?_
  clear ha; intro a ha
  refine st_val (.slice B lb.length cb) ha (by kernel_rfl) (by kernel_rfl) ?_
  clear ha; intro a ha
  refine st_val (.int .i64 ((lb.length : Nat) : Int)) ha (by kernel_rfl) (by kernel_rfl) ?_
  clear ha; intro a ha
  refine st_val (.bool (((la.length : Nat) : Int) != ((lb.length : Nat) : Int))) ha (by kernel_rfl) (by kernel_rfl) ?_
  clear ha; intro a ha
  refine wpList_nil ?_
  refine then_normal ?_
  refine wp_part (((la.length : Nat) : Int) != ((lb.length : Nat) : Int)) ha rfl (by kernel_rfl) (fun hb => ?_) (fun hb => ?_)
  · rw [hb] at ha; have hb_ := hb; replace hb := bne_iff_ne.1 hb
    refine wp_seq ?_
    refine wp_region_lit ?_
    refine st_val (.bool false) ha (by kernel_rfl) (by kernel_rfl) ?_
    clear ha; intro a ha
    refine wpList_nil ?_
    refine then_normal ?_
    refine wp_ret ?_
    refine then_ret ?_
    refine ret_with (v := .bool false) ha (results_1 rfl ha (res_tmp (by kernel_rfl) (by kernel_rfl))) ?_
    refine ⟨?_, s⟩
    rw [decide_eq_false (fun e => by subst e; exact hb rfl)]
  · rw [hb] at ha; have hb_ := hb; replace hb := bne_eq_false_iff_eq.1 hb
    refine wp_skip ?_
    refine then_normal ?_
    refine wp_seq ?_
    refine wp_seq ?_
    refine wp_region_lit ?_
    refine st_val (.int .i64 0) ha (by kernel_rfl) (by kernel_rfl) ?_
    clear ha; intro a ha
    refine wpList_nil ?_
    refine then_normal ?_
    refine wp_block ?_
    refine wp_loopG (G := Nat) (fun k a w => Has a 26 [(0, .slice A la.length ca), (1, .slice B lb.length cb), (5, .int .i64 ((k : Nat) : Int))] ∧ St W (L) w ∧ (k ≤ la.length ∧ la.take k = lb.take k)) (fun k => la.length - k) 0 ?_ ?_
    · exact ⟨(Has.cons ha (by kernel_rfl) (by kernel_rfl) (Has.cons ha (by kernel_rfl) (by kernel_rfl) (Has.cons ha (by kernel_rfl) (by kernel_rfl) (Has.nil ha)))), s, ⟨Nat.zero_le _, rfl⟩⟩
    · clear ha s; rintro k a w ⟨ha, s, hp⟩
      refine wp_seq ?_
      refine wp_seq ?_
      refine wp_region_lit ?_
      refine st_val (.int .i64 ((k : Nat) : Int)) ha (by kernel_rfl) (by kernel_rfl) ?_
      clear ha; intro a ha
      refine st_val (.slice A la.length ca) ha (by kernel_rfl) (by kernel_rfl) ?_
      clear ha; intro a ha
      refine st_val (.int .i64 ((la.length : Nat) : Int)) ha (by kernel_rfl) (by kernel_rfl) ?_
      clear ha; intro a ha
      refine st_val (.bool (decide (((k : Nat) : Int) < ((la.length : Nat) : Int)))) ha (by kernel_rfl) (by kernel_rfl) ?_
      clear ha; intro a ha
      refine wpList_nil ?_
      refine then_normal ?_
      refine wp_part (decide (((k : Nat) : Int) < ((la.length : Nat) : Int))) ha rfl (by kernel_rfl) (fun hb => ?_) (fun hb => ?_)
      · rw [hb] at ha; replace hb : (((k : Nat) : Int) < ((la.length : Nat) : Int)) := of_decide_eq_true hb
        obtain ⟨x, hx⟩ : ∃ x, la[k]? = some x := ⟨_, List.getElem?_eq_getElem (by omega)⟩
        obtain ⟨y, hy⟩ : ∃ y, lb[k]? = some y := ⟨_, List.getElem?_eq_getElem (by omega)⟩
        obtain ⟨ada, hA⟩ := Reads.addr (hra _ s.sat) (by omega)
        subst hA
        obtain ⟨adb, hB⟩ := Reads.addr (hrb _ s.sat) (by omega)
        subst hB
        refine wp_skip ?_
        refine then_normal ?_
        refine wp_seq ?_
        refine wp_block ?_
        refine wp_seq ?_
        refine wp_region_head 8 (fun w => Reads w 1 (some ada) la.length (nats la) ∧ Reads w 1 (some adb) lb.length (nats lb) ∧ True) (by kernel_rfl) (by decide) ?_
        replace s := s.drew; generalize _root_.Go.World.drew _ = w at s ⊢
        have hS : (fun w => Reads w 1 (some ada) la.length (nats la) ∧ Reads w 1 (some adb) lb.length (nats lb) ∧ True) w := ⟨(hra _ s.sat), (hrb _ s.sat), trivial⟩
        refine hd_val (i := 0) (.slice (some ada) la.length ca) ha rfl (by kernel_rfl) (fun _ _ _ h => h) (by kernel_rfl) (fun w hS => (by kernel_rfl)) hS ?_
        clear ha; intro a ha
        refine hd_val (i := 1) (.int .i64 ((k : Nat) : Int)) ha rfl (by kernel_rfl) (fun _ _ _ h => h) (by kernel_rfl) (fun w hS => (by kernel_rfl)) hS ?_
        clear ha; intro a ha
        refine hd_val (i := 2) (.pointer (some (ada.add (k * 1)))) ha rfl (by kernel_rfl) (fun _ _ _ h => h) (by kernel_rfl) (fun w hS => (run_indexAddr' (kd := .i64) (i := ((k : Nat) : Int)) (n := la.length) (c := ca) k rfl Try.underlying29 Try.sizeOf3 (by kernel_rfl) (by kernel_rfl) rfl (by first | assumption | omega) _)) hS ?_
        clear ha; intro a ha
        refine hd_val (i := 3) (.int .i64 ((x : Nat) : Int)) ha rfl (by kernel_rfl) (fun _ _ _ h => h) (by kernel_rfl) (fun w hS => run_loadRow1 (m := k) hS.1 rfl (by kernel_rfl) Try.isAgg3 (nats_at hx)) hS ?_
        clear ha; intro a ha
        refine hd_val (i := 4) (.slice (some adb) lb.length cb) ha rfl (by kernel_rfl) (fun _ _ _ h => h) (by kernel_rfl) (fun w hS => (by kernel_rfl)) hS ?_
        clear ha; intro a ha
        refine hd_val (i := 5) (.int .i64 ((k : Nat) : Int)) ha rfl (by kernel_rfl) (fun _ _ _ h => h) (by kernel_rfl) (fun w hS => (by kernel_rfl)) hS ?_
        clear ha; intro a ha
        refine hd_val (i := 6) (.pointer (some (adb.add (k * 1)))) ha rfl (by kernel_rfl) (fun _ _ _ h => h) (by kernel_rfl) (fun w hS => (run_indexAddr' (kd := .i64) (i := ((k : Nat) : Int)) (n := lb.length) (c := cb) k rfl Try.underlying29 Try.sizeOf3 (by kernel_rfl) (by kernel_rfl) rfl (by first | assumption | omega) _)) hS ?_
        clear ha; intro a ha
        refine hd_val (i := 7) (.int .i64 ((y : Nat) : Int)) ha rfl (by kernel_rfl) (fun _ _ _ h => h) (by kernel_rfl) (fun w hS => run_loadRow1 (m := k) hS.2.1 rfl (by kernel_rfl) Try.isAgg3 (nats_at hy)) hS ?_
        clear ha; intro a ha
        refine Head.done (by kernel_rfl) ?_
        clear hS; simp only [List.drop_succ_cons, List.drop_zero]
        refine st_val (.bool (((x : Nat) : Int) != ((y : Nat) : Int))) ha (by kernel_rfl) (by kernel_rfl) ?_
        clear ha; intro a ha
        refine wpList_nil ?_
        refine then_normal ?_
        refine wp_part (((x : Nat) : Int) != ((y : Nat) : Int)) ha rfl (by kernel_rfl) (fun hb => ?_) (fun hb => ?_)
        · rw [hb] at ha; have hb_ := hb; replace hb := bne_iff_ne.1 hb
          refine wp_seq ?_
          refine wp_region_lit ?_
          refine st_val (.bool false) ha (by kernel_rfl) (by kernel_rfl) ?_
          clear ha; intro a ha
          refine wpList_nil ?_
          refine then_normal ?_
          refine wp_ret ?_
          refine block_ret ?_
          refine then_ret ?_
          refine then_ret ?_
          refine block_ret ?_
          refine then_ret ?_
          refine ret_with (v := .bool false) ha (results_1 rfl ha (res_tmp (by kernel_rfl) (by kernel_rfl))) ?_
          refine ⟨?_, s⟩
          rw [decide_eq_false (fun e => by subst e; rw [hx] at hy; cases hy; exact hb rfl)]
        · rw [hb] at ha; have hb_ := hb; replace hb := bne_eq_false_iff_eq.1 hb
          refine wp_skip ?_
          refine block_normal ?_
          refine then_normal ?_
          refine wp_region_lit ?_
          refine st_val (.int .i64 ((k : Nat) : Int)) ha (by kernel_rfl) (by kernel_rfl) ?_
          clear ha; intro a ha
          refine st_val (.int .i64 ((k + 1 : Nat) : Int)) ha (by kernel_rfl) (run_arith (((k : Nat) : Int) + (1 : Int)) ((k + 1 : Nat) : Int) rfl (by kernel_rfl) (by kernel_rfl) (.inl ⟨rfl, rfl⟩) (by rw [wrap64_in (by omega)]; try omega) _) ?_
          clear ha; intro a ha
          refine st_val (.int .i64 ((k + 1 : Nat) : Int)) ha (by kernel_rfl) (by kernel_rfl) ?_
          clear ha; intro a ha
          refine wpList_nil ?_
          refine then_normal ?_
          exact ⟨k + 1, by omega, (Has.cons ha (by kernel_rfl) (by kernel_rfl) (Has.cons ha (by kernel_rfl) (by kernel_rfl) (Has.cons ha (by kernel_rfl) (by kernel_rfl) (Has.nil ha)))), s, by omega, by rw [take_snoc hx, take_snoc hy, hp.2, show x = y by omega]⟩
      · rw [hb] at ha; replace hb : ¬ (((k : Nat) : Int) < ((la.length : Nat) : Int)) := of_decide_eq_false hb
        refine wp_exit ?_
        refine then_exit ?_
        refine then_exit ?_
        refine block_hit ?_
        refine then_normal ?_
        refine wp_seq ?_
        refine wp_region_lit ?_
        refine st_val (.bool true) ha (by kernel_rfl) (by kernel_rfl) ?_
        clear ha; intro a ha
        refine wpList_nil ?_
        refine then_normal ?_
        refine wp_ret ?_
        refine ret_with (v := .bool true) ha (results_1 rfl ha (res_tmp (by kernel_rfl) (by kernel_rfl))) ?_
        refine ⟨?_, s⟩
        have h2 := hp.2
        rw [List.take_of_length_le (by omega), List.take_of_length_le (by omega)] at h2
        rw [decide_eq_true h2]

end Go.Proofs.Ytidfniglnmfphaa.B
