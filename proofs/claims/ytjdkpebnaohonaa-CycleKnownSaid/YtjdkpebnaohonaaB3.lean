import Derived.Test.YtjdkpebnaohonaaB2
namespace Go.Proofs.Ytjdkpebnaohonaa.B
open Go.RowKit Go.Maps Go.Proofs.Ytjdkpebnaohonaa.Sep Go.Proofs.Ytjdkpebnaohonaa.P
set_option linter.unusedVariables false
set_option linter.unusedSimpArgs false
theorem rings_id {E : List Arc} {R : List Int} (h : RingsRes E 0 R) : ∀ x ∈ R, 1 ≤ x ∧ x ≤ 9007199254740991 := by
  rcases h with ⟨_, h, _⟩ | ⟨_, _, h, _⟩ | ⟨_, ha, _, hr⟩
  · omega
  · omega
  · exact fun x hx => way_id ha ((hr.mem x).1 hx)
theorem rings_len {E : List Arc} {er : Int} {R : List Int} (h : RingsRes E er R) : R.length ≤ 1000 := by
  rcases h with ⟨_, h, rfl⟩ | ⟨_, _, h, rfl⟩ | ⟨h1, ha, _, hr⟩
  · simp
  · simp
  · have hs : R.Nodup := hr.rise.imp fun h => by omega
    have : ∀ x ∈ R, x ∈ keysOf E := fun x hx => mem_keysOf.2 ((hr.mem x).1 hx).first
    have h2 : R.length ≤ (keysOf E).length := by
      have hsub : ∀ {l m : List Int}, l.Nodup → (∀ x ∈ l, x ∈ m) → l.length ≤ m.length := by
        intro l
        induction l with
        | nil => intro m _ _; simp
        | cons a l ih =>
          intro m hn hm
          obtain ⟨h1, h2⟩ := List.nodup_cons.1 hn
          have ha := hm a (by simp)
          have := ih (m := m.erase a) h2 fun x hx => (List.mem_erase_of_ne (fun e => h1 (by rw [← e]; exact hx))).2 (hm x (by simp [hx]))
          rw [List.length_erase_of_mem ha] at this
          have := List.length_pos_of_mem ha
          simp; omega
      exact hsub hs this
    have := keysOf_len E
    omega

theorem victim_any (W : World) (hW : W.drawn = 0) (L : List Chunk) (w : World) (A : Option Addr) (n ca : Nat) (E : List Arc) (hr : Knows L fun w => Reads w 2 A n (egs E)) (hl : E.length = n) (hn : n ≤ 140737488351232) (B : Option Addr) (m cb : Nat) (l : List Arc) (hrb : Knows L fun w => Reads w 2 B m (egs l)) (hm : l.length = m) (hmn : m ≤ 140737488351232) (hlb : ∀ x ∈ l, -9223372036854775808 ≤ x.1 ∧ x.1 ≤ 9223372036854775807) (s : St W L w) :
    Calls Try.prog 11 #[.slice A n ca, .slice B m cb] w fun e w' => ∃ id is er, e = .returned (.tuple #[.int .i64 id, .bool is, .int .i64 er]) ∧ VictimRes E l id is er ∧ St W L w' := by
  refine enter_args (l := [.slice A n ca, .slice B m cb]) Try.func11 rfl rfl (Nat.le_of_ble_eq_true rfl) ?_
  intro a ha; replace ha : Has a 67 [(0, .slice A n ca), (1, .slice B m cb)] := ha
  refine wp_seq ?_
  refine wp_region_lit ?_
  refine st_val (.int .i64 0) ha (by kernel_rfl) (by kernel_rfl) ?_
  clear ha; intro a ha
  refine st_val (.bool false) ha (by kernel_rfl) (by kernel_rfl) ?_
  clear ha; intro a ha
  refine st_val (.int .i64 0) ha (by kernel_rfl) (by kernel_rfl) ?_
  clear ha; intro a ha
  refine wpList_nil ?_
  refine then_normal ?_
  refine wp_seq ?_
  refine wp_region_lit ?_
  refine st_val (.slice A n ca) ha (by kernel_rfl) (by kernel_rfl) ?_
  clear ha; intro a ha
  refine st_call ha (by kernel_rfl) (by kernel_rfl) (rings_any W hW _ w A n ca E (fun w s => hr w s) hl hn s) ?_
  rintro _ w ⟨A1, c2, R, er, rfl, hres, s⟩
  replace s : St W (Own 3 1 A1 R.length c2 (ints R) :: L) w := s
  refine ⟨_, rfl, ?_⟩; clear ha; intro a ha
  refine st_val (.tuple #[.slice A1 R.length c2, .int .i64 er]) ha (by kernel_rfl) (by kernel_rfl) ?_
  clear ha; intro a ha
  refine st_val (.slice A1 R.length c2) ha (by kernel_rfl) (by kernel_rfl) ?_
  clear ha; intro a ha
  refine st_val (.int .i64 er) ha (by kernel_rfl) (by kernel_rfl) ?_
  clear ha; intro a ha
  refine st_val (.slice A1 R.length c2) ha (by kernel_rfl) (by kernel_rfl) ?_
  clear ha; intro a ha
  refine st_val (.int .i64 er) ha (by kernel_rfl) (by kernel_rfl) ?_
  clear ha; intro a ha
  refine wpList_nil ?_
  refine then_normal ?_
  refine wp_seq ?_
  refine wp_seq ?_
  refine wp_region_lit ?_
  refine st_val (.int .i64 er) ha (by kernel_rfl) (by kernel_rfl) ?_
  clear ha; intro a ha
  refine st_val (.bool (er != (0 : Int))) ha (by kernel_rfl) (by kernel_rfl) ?_
  clear ha; intro a ha
  refine wpList_nil ?_
  refine then_normal ?_
  refine wp_part (er != (0 : Int)) ha rfl (by kernel_rfl) (fun hb => ?_) (fun hb => ?_)
  · rw [hb] at ha; have hb_ := hb; replace hb := bne_iff_ne.1 hb
    refine wp_seq ?_
    refine wp_region_lit ?_
    refine st_val (.int .i64 er) ha (by kernel_rfl) (by kernel_rfl) ?_
    clear ha; intro a ha
    refine st_val (.int .i64 0) ha (by kernel_rfl) (by kernel_rfl) ?_
    clear ha; intro a ha
    refine st_val (.bool false) ha (by kernel_rfl) (by kernel_rfl) ?_
    clear ha; intro a ha
    refine st_val (.int .i64 er) ha (by kernel_rfl) (by kernel_rfl) ?_
    clear ha; intro a ha
    refine wpList_nil ?_
    refine then_normal ?_
    refine wp_ret ?_
    refine then_ret ?_
    refine ret_with (v := .tuple #[.int .i64 0, .bool false, .int .i64 er]) ha (results_3 rfl ha (res_tmp (by kernel_rfl) (by kernel_rfl)) (res_tmp (by kernel_rfl) (by kernel_rfl)) (res_tmp (by kernel_rfl) (by kernel_rfl))) ?_
    replace s := s.tail
    replace s : St W (L) w := s
    exact ⟨0, false, er, rfl, ⟨R, er, hres, .inl ⟨hb, rfl, rfl, rfl⟩⟩, s⟩
  · rw [hb] at ha; have hb_ := hb; replace hb := bne_eq_false_iff_eq.1 hb
    have he0 : er = 0 := hb
    have hRl := rings_len hres
    refine wp_skip ?_
    refine then_normal ?_
    refine wp_seq ?_
    refine wp_seq ?_
    refine wp_region_lit ?_
    refine st_val (.slice B m cb) ha (by kernel_rfl) (by kernel_rfl) ?_
    clear ha; intro a ha
    refine st_val (.int .i64 ((m : Nat) : Int)) ha (by kernel_rfl) (by kernel_rfl) ?_
    clear ha; intro a ha
    refine st_val (.bool (decide (((m : Nat) : Int) > (1000 : Int)))) ha (by kernel_rfl) (by kernel_rfl) ?_
    clear ha; intro a ha
    refine wpList_nil ?_
    refine then_normal ?_
    refine wp_part (decide (((m : Nat) : Int) > (1000 : Int))) ha rfl (by kernel_rfl) (fun hb => ?_) (fun hb => ?_)
    · rw [hb] at ha; replace hb : (((m : Nat) : Int) > (1000 : Int)) := of_decide_eq_true hb
      refine wp_seq ?_
      refine wp_region_lit ?_
      refine st_val (.int .i64 0) ha (by kernel_rfl) (by kernel_rfl) ?_
      clear ha; intro a ha
      refine st_val (.bool false) ha (by kernel_rfl) (by kernel_rfl) ?_
      clear ha; intro a ha
      refine st_val (.int .i64 5) ha (by kernel_rfl) (by kernel_rfl) ?_
      clear ha; intro a ha
      refine wpList_nil ?_
      refine then_normal ?_
      refine wp_ret ?_
      refine then_ret ?_
      refine ret_with (v := .tuple #[.int .i64 0, .bool false, .int .i64 5]) ha (results_3 rfl ha (res_tmp (by kernel_rfl) (by kernel_rfl)) (res_tmp (by kernel_rfl) (by kernel_rfl)) (res_tmp (by kernel_rfl) (by kernel_rfl))) ?_
      replace s := s.tail
      replace s : St W (L) w := s
      exact ⟨0, false, 5, rfl, ⟨R, er, hres, .inr ⟨he0, .inl ⟨by omega, rfl, rfl, rfl⟩⟩⟩, s⟩
    · rw [hb] at ha; replace hb : ¬ (((m : Nat) : Int) > (1000 : Int)) := of_decide_eq_false hb
      refine wp_skip ?_
      refine then_normal ?_
      refine wp_seq ?_
      refine wp_region_lit ?_
      refine st_ex ha (by kernel_rfl) (ex_makeMap Try.prog 3 encI s rfl) ?_
      clear ha; rintro _ w a ⟨g3, rfl, s⟩ ha
      replace s : St W (MapT Try.prog 3 encI g3 [] :: Own 3 1 A1 R.length c2 (ints R) :: L) w := s
      refine st_ex ha (by kernel_rfl) (ex_alloc [.map none] s rfl (Try.zeroValue55 _) (by kernel_rfl)) ?_
      clear ha; rintro _ w a ⟨g4, rfl, s⟩ ha
      replace s : St W (.blk g4 [.map none] 55 :: MapT Try.prog 3 encI g3 [] :: Own 3 1 A1 R.length c2 (ints R) :: L) w := s
      refine st_exd ha (by kernel_rfl) (ex_store (of_ := 0) 0 [.map (some g3)] s rfl rfl (by kernel_rfl) (by kernel_rfl) (Try.sizeOf55 _) rfl (by simp [Value.oneCell']) (Nat.le_of_ble_eq_true rfl)) ?_
      clear ha; rintro w a s ha
      replace s : St W (.blk g4 [.map (some g3)] 55 :: MapT Try.prog 3 encI g3 [] :: Own 3 1 A1 R.length c2 (ints R) :: L) w := s
      refine wpList_nil ?_
      refine then_normal ?_
      refine wp_seq ?_
      refine wp_seq ?_
      refine wp_region_lit ?_
      refine st_val (.slice B m cb) ha (by kernel_rfl) (by kernel_rfl) ?_
      clear ha; intro a ha
      refine st_val (.int .i64 ((m : Nat) : Int)) ha (by kernel_rfl) (by kernel_rfl) ?_
      clear ha; intro a ha
      refine st_val (.int .i64 0) ha (by kernel_rfl) (by kernel_rfl) ?_
      clear ha; intro a ha
      refine wpList_nil ?_
      refine then_normal ?_
      refine wp_block ?_
      refine wp_loopG (G := Nat) (fun i a w => Has a 67 [(1, .slice B m cb), (7, .slice A1 R.length c2), (8, .pointer (some ⟨g4, 0, none⟩)), (25, .slice B m cb), (26, .int .i64 ((m : Nat) : Int)), (27, .int .i64 ((i : Nat) : Int))] ∧ St W (.blk g4 [.map (some g3)] 55 :: MapT Try.prog 3 encI g3 (vd (l.take i)) :: Own 3 1 A1 R.length c2 (ints R) :: L) w ∧ (i ≤ m ∧ whoOk (l.take i))) (fun i => m - i) 0 ?_ ?_
      · exact ⟨(Has.cons ha (by kernel_rfl) (by kernel_rfl) (Has.cons ha (by kernel_rfl) (by kernel_rfl) (Has.cons ha (by kernel_rfl) (by kernel_rfl) (Has.cons ha (by kernel_rfl) (by kernel_rfl) (Has.cons ha (by kernel_rfl) (by kernel_rfl) (Has.cons ha (by kernel_rfl) (by kernel_rfl) (Has.nil ha))))))), s, ⟨Nat.zero_le _, ⟨by simp, by simp⟩⟩⟩
      · clear ha s; rintro i a w ⟨ha, s, hp⟩
        refine wp_seq ?_
        refine wp_region_lit ?_
        refine st_val (.bool (decide (((i : Nat) : Int) < ((m : Nat) : Int)))) ha (by kernel_rfl) (by kernel_rfl) ?_
        clear ha; intro a ha
        refine wpList_nil ?_
        refine then_normal ?_
        refine wp_seq ?_
        refine wp_part (decide (((i : Nat) : Int) < ((m : Nat) : Int))) ha rfl (by kernel_rfl) (fun hb => ?_) (fun hb => ?_)
        · rw [hb] at ha; replace hb : (((i : Nat) : Int) < ((m : Nat) : Int)) := of_decide_eq_true hb
          obtain ⟨x, hx⟩ : ∃ x, l[i]? = some x := ⟨_, List.getElem?_eq_getElem (by omega)⟩
          have hxb := hlb x (List.mem_of_getElem? hx)
          have htl := List.length_take_le i l
          obtain ⟨adb, hA⟩ := Reads.addr (hrb _ s.sat.tail.tail.tail) (by omega)
          subst hA
          refine wp_skip ?_
          refine then_normal ?_
          refine wp_seq ?_
          refine wp_block ?_
          refine wp_seq ?_
          refine wp_region_lit ?_
          refine st_val (.pointer (some (adb.add (i * 2)))) ha (by kernel_rfl) (run_indexAddr' (kd := .i64) (i := ((i : Nat) : Int)) (n := m) (c := cb) i rfl Try.underlying23 Try.sizeOf34 (by kernel_rfl) (by kernel_rfl) rfl (by first | assumption | omega) _) ?_
          clear ha; intro a ha
          refine st_val (.agg #[.int .i64 x.1, .int .i64 x.2]) ha (by kernel_rfl) (run_loadAtN (i := i * 2) [.int .i64 x.1, .int .i64 x.2] ((hrb _ s.sat.tail.tail.tail)) rfl (by kernel_rfl) Try.isAgg34 Try.sizeOf34 (fun j hj => egs_at hx hj) rfl) ?_
          clear ha; intro a ha
          refine st_ex ha (by kernel_rfl) (ex_alloc [.int .i64 0, .int .i64 0] s rfl (Try.zeroValue34 _) (by kernel_rfl)) ?_
          clear ha; rintro _ w a ⟨g5, rfl, s⟩ ha
          replace s : St W (.blk g5 [.int .i64 0, .int .i64 0] 34 :: .blk g4 [.map (some g3)] 55 :: MapT Try.prog 3 encI g3 (vd (l.take i)) :: Own 3 1 A1 R.length c2 (ints R) :: L) w := s
          refine st_exd ha (by kernel_rfl) (ex_store (of_ := 0) 0 [.int .i64 x.1, .int .i64 x.2] s rfl rfl (by kernel_rfl) (by kernel_rfl) (Try.sizeOf34 _) rfl (by simp [Value.oneCell']) (Nat.le_of_ble_eq_true rfl)) ?_
          clear ha; rintro w a s ha
          replace s : St W (.blk g5 [.int .i64 x.1, .int .i64 x.2] 34 :: .blk g4 [.map (some g3)] 55 :: MapT Try.prog 3 encI g3 (vd (l.take i)) :: Own 3 1 A1 R.length c2 (ints R) :: L) w := s
          refine wpList_nil ?_
          refine then_normal ?_
          refine wp_seq ?_
          refine wp_seq ?_
          refine wp_region_lit ?_
          refine st_val (.map (some g3)) ha (by kernel_rfl) (run_load1 (of_ := 0) (s.blkIs 1 rfl) rfl (by kernel_rfl) Try.isAgg55 rfl) ?_
          clear ha; intro a ha
          refine st_val (.pointer (some ⟨g5, 0, none⟩)) ha (by kernel_rfl) (by kernel_rfl) ?_
          clear ha; intro a ha
          refine st_val (.int .i64 x.1) ha (by kernel_rfl) (run_load1 (of_ := 0) (s.blkIs 0 rfl) rfl (by kernel_rfl) Try.isAgg3 rfl) ?_
          clear ha; intro a ha
          refine st_val (.tuple #[.int .i64 (prio (l.take i) x.1), .bool ((mget (l.take i) x.1).isSome)]) ha (by kernel_rfl) (run_lookup_ok (a := x.1) (.int .i64 (prio (l.take i) x.1)) ((mget (l.take i) x.1).isSome) (s.mapIs 2 rfl) rfl (by kernel_rfl) (by kernel_rfl) encI_inj keyed3 Try.underlying55 Try.zeroValue3 (key3 ⟨by omega, by omega⟩) (vd_get _ _) (vd_some _ _)) ?_
          clear ha; intro a ha
          refine st_val (.tuple #[.int .i64 (prio (l.take i) x.1), .bool ((mget (l.take i) x.1).isSome)]) ha (by kernel_rfl) (by kernel_rfl) ?_
          clear ha; intro a ha
          refine st_val (.int .i64 (prio (l.take i) x.1)) ha (by kernel_rfl) (by kernel_rfl) ?_
          clear ha; intro a ha
          refine st_val (.bool ((mget (l.take i) x.1).isSome)) ha (by kernel_rfl) (by kernel_rfl) ?_
          clear ha; intro a ha
          refine st_val (.int .i64 (prio (l.take i) x.1)) ha (by kernel_rfl) (by kernel_rfl) ?_
          clear ha; intro a ha
          refine st_val (.bool ((mget (l.take i) x.1).isSome)) ha (by kernel_rfl) (by kernel_rfl) ?_
          clear ha; intro a ha
          refine wpList_nil ?_
          refine then_normal ?_
          refine wp_seq ?_
          refine wp_region_lit ?_
          refine st_val (.bool ((mget (l.take i) x.1).isSome)) ha (by kernel_rfl) (by kernel_rfl) ?_
          clear ha; intro a ha
          refine st_val (.bool ((mget (l.take i) x.1).isSome)) ha (by kernel_rfl) (by kernel_rfl) ?_
          clear ha; intro a ha
          rcases Bool.eq_false_or_eq_true ((mget (l.take i) x.1).isSome) with hb | hb
          · rw [hb] at ha; skip
            refine st_pass ha (by kernel_rfl) ?_
            clear ha; intro a ha
            refine st_pass ha (by kernel_rfl) ?_
            clear ha; intro a ha
            refine st_pass ha (by kernel_rfl) ?_
            clear ha; intro a ha
            refine st_pass ha (by kernel_rfl) ?_
            clear ha; intro a ha
            refine st_val (.bool true) ha (by kernel_rfl) (by kernel_rfl) ?_
            clear ha; intro a ha
            refine st_val (.bool true) ha (by kernel_rfl) (by kernel_rfl) ?_
            clear ha; intro a ha
            refine st_pass ha (by kernel_rfl) ?_
            clear ha; intro a ha
            refine st_pass ha (by kernel_rfl) ?_
            clear ha; intro a ha
            refine st_pass ha (by kernel_rfl) ?_
            clear ha; intro a ha
            refine st_val (.bool true) ha (by kernel_rfl) (by kernel_rfl) ?_
            clear ha; intro a ha
            refine st_val (.bool true) ha (by kernel_rfl) (by kernel_rfl) ?_
            clear ha; intro a ha
            refine st_pass ha (by kernel_rfl) ?_
            clear ha; intro a ha
            refine st_pass ha (by kernel_rfl) ?_
            clear ha; intro a ha
            refine st_pass ha (by kernel_rfl) ?_
            clear ha; intro a ha
            refine st_val (.bool true) ha (by kernel_rfl) (by kernel_rfl) ?_
            clear ha; intro a ha
            refine wpList_nil ?_
            refine then_normal ?_
            refine wp_true ha rfl (by kernel_rfl) ?_
            refine wp_seq ?_
            refine wp_region_lit ?_
            refine st_val (.int .i64 0) ha (by kernel_rfl) (by kernel_rfl) ?_
            clear ha; intro a ha
            refine st_val (.bool false) ha (by kernel_rfl) (by kernel_rfl) ?_
            clear ha; intro a ha
            refine st_val (.int .i64 2) ha (by kernel_rfl) (by kernel_rfl) ?_
            clear ha; intro a ha
            refine wpList_nil ?_
            refine then_normal ?_
            refine wp_ret ?_
            refine then_ret ?_
            refine block_ret ?_
            refine then_ret ?_
            refine then_ret ?_
            refine block_ret ?_
            refine then_ret ?_
            refine ret_with (v := .tuple #[.int .i64 0, .bool false, .int .i64 2]) ha (results_3 rfl ha (res_tmp (by kernel_rfl) (by kernel_rfl)) (res_tmp (by kernel_rfl) (by kernel_rfl)) (res_tmp (by kernel_rfl) (by kernel_rfl))) ?_
            replace s := s.tail.tail.tail.tail
            replace s : St W (L) w := s
            exact ⟨0, false, 2, rfl, ⟨R, er, hres, .inr ⟨he0, .inr (.inl ⟨by omega, (by first | exact who_dup hx hb | (intro hw; have := hw.2 x (List.mem_of_getElem? hx); omega) | (intro hw; have := hw.2 x (List.mem_of_getElem? hx); simp_all; done)), rfl, rfl, rfl⟩)⟩⟩, s⟩
          · rw [hb] at ha; skip
            have hnone := hb
            refine st_val (.pointer (some ⟨g5, 0, none⟩)) ha (by kernel_rfl) (by kernel_rfl) ?_
            clear ha; intro a ha
            refine st_val (.int .i64 x.1) ha (by kernel_rfl) (run_load1 (of_ := 0) (s.blkIs 0 rfl) rfl (by kernel_rfl) Try.isAgg3 rfl) ?_
            clear ha; intro a ha
            refine st_call ha (by kernel_rfl) (by kernel_rfl) (isId_any W _ w x.1 s) ?_
            rintro _ w ⟨rfl, s⟩
            replace s : St W (.blk g5 [.int .i64 x.1, .int .i64 x.2] 34 :: .blk g4 [.map (some g3)] 55 :: MapT Try.prog 3 encI g3 (vd (l.take i)) :: Own 3 1 A1 R.length c2 (ints R) :: L) w := s
            refine ⟨_, rfl, ?_⟩; clear ha; intro a ha
            refine st_val (.bool (!(isIdB x.1))) ha (by kernel_rfl) (by kernel_rfl) ?_
            clear ha; intro a ha
            refine st_val (.bool (!(isIdB x.1))) ha (by kernel_rfl) (by kernel_rfl) ?_
            clear ha; intro a ha
            refine st_val (.bool (!(isIdB x.1))) ha (by kernel_rfl) (by kernel_rfl) ?_
            clear ha; intro a ha
            rcases Bool.eq_false_or_eq_true (!(isIdB x.1)) with hb | hb
            · rw [hb] at ha; skip
              refine st_pass ha (by kernel_rfl) ?_
              clear ha; intro a ha
              refine st_pass ha (by kernel_rfl) ?_
              clear ha; intro a ha
              refine st_pass ha (by kernel_rfl) ?_
              clear ha; intro a ha
              refine st_val (.bool true) ha (by kernel_rfl) (by kernel_rfl) ?_
              clear ha; intro a ha
              refine st_val (.bool true) ha (by kernel_rfl) (by kernel_rfl) ?_
              clear ha; intro a ha
              refine st_pass ha (by kernel_rfl) ?_
              clear ha; intro a ha
              refine st_pass ha (by kernel_rfl) ?_
              clear ha; intro a ha
              refine st_pass ha (by kernel_rfl) ?_
              clear ha; intro a ha
              refine st_val (.bool true) ha (by kernel_rfl) (by kernel_rfl) ?_
              clear ha; intro a ha
              refine wpList_nil ?_
              refine then_normal ?_
              refine wp_true ha rfl (by kernel_rfl) ?_
              refine wp_seq ?_
              refine wp_region_lit ?_
              refine st_val (.int .i64 0) ha (by kernel_rfl) (by kernel_rfl) ?_
              clear ha; intro a ha
              refine st_val (.bool false) ha (by kernel_rfl) (by kernel_rfl) ?_
              clear ha; intro a ha
              refine st_val (.int .i64 2) ha (by kernel_rfl) (by kernel_rfl) ?_
              clear ha; intro a ha
              refine wpList_nil ?_
              refine then_normal ?_
              refine wp_ret ?_
              refine then_ret ?_
              refine block_ret ?_
              refine then_ret ?_
              refine then_ret ?_
              refine block_ret ?_
              refine then_ret ?_
              refine ret_with (v := .tuple #[.int .i64 0, .bool false, .int .i64 2]) ha (results_3 rfl ha (res_tmp (by kernel_rfl) (by kernel_rfl)) (res_tmp (by kernel_rfl) (by kernel_rfl)) (res_tmp (by kernel_rfl) (by kernel_rfl))) ?_
              replace s := s.tail.tail.tail.tail
              replace s : St W (L) w := s
              exact ⟨0, false, 2, rfl, ⟨R, er, hres, .inr ⟨he0, .inr (.inl ⟨by omega, (by first | exact who_dup hx hb | (intro hw; have := hw.2 x (List.mem_of_getElem? hx); omega) | (intro hw; have := hw.2 x (List.mem_of_getElem? hx); simp_all; done)), rfl, rfl, rfl⟩)⟩⟩, s⟩
            · rw [hb] at ha; skip
              have hi1 : isIdB x.1 = true := by simpa using hb
              refine st_val (.pointer (some ⟨g5, 1, none⟩)) ha (by kernel_rfl) (by kernel_rfl) ?_
              clear ha; intro a ha
              refine st_val (.int .i64 x.2) ha (by kernel_rfl) (run_load1 (of_ := 1) (s.blkIs 0 rfl) rfl (by kernel_rfl) Try.isAgg3 rfl) ?_
              clear ha; intro a ha
              refine st_val (.bool (decide (x.2 < (0 : Int)))) ha (by kernel_rfl) (by kernel_rfl) ?_
              clear ha; intro a ha
              refine st_val (.bool (decide (x.2 < (0 : Int)))) ha (by kernel_rfl) (by kernel_rfl) ?_
              clear ha; intro a ha
              refine st_val (.bool (decide (x.2 < (0 : Int)))) ha (by kernel_rfl) (by kernel_rfl) ?_
              clear ha; intro a ha
              rcases Bool.eq_false_or_eq_true (decide (x.2 < (0 : Int))) with hb | hb
              · rw [hb] at ha; replace hb : (x.2 < (0 : Int)) := of_decide_eq_true hb
                refine st_pass ha (by kernel_rfl) ?_
                clear ha; intro a ha
                refine st_pass ha (by kernel_rfl) ?_
                clear ha; intro a ha
                refine st_pass ha (by kernel_rfl) ?_
                clear ha; intro a ha
                refine st_val (.bool true) ha (by kernel_rfl) (by kernel_rfl) ?_
                clear ha; intro a ha
                refine wpList_nil ?_
                refine then_normal ?_
                refine wp_true ha rfl (by kernel_rfl) ?_
                refine wp_seq ?_
                refine wp_region_lit ?_
                refine st_val (.int .i64 0) ha (by kernel_rfl) (by kernel_rfl) ?_
                clear ha; intro a ha
                refine st_val (.bool false) ha (by kernel_rfl) (by kernel_rfl) ?_
                clear ha; intro a ha
                refine st_val (.int .i64 2) ha (by kernel_rfl) (by kernel_rfl) ?_
                clear ha; intro a ha
                refine wpList_nil ?_
                refine then_normal ?_
                refine wp_ret ?_
                refine then_ret ?_
                refine block_ret ?_
                refine then_ret ?_
                refine then_ret ?_
                refine block_ret ?_
                refine then_ret ?_
                refine ret_with (v := .tuple #[.int .i64 0, .bool false, .int .i64 2]) ha (results_3 rfl ha (res_tmp (by kernel_rfl) (by kernel_rfl)) (res_tmp (by kernel_rfl) (by kernel_rfl)) (res_tmp (by kernel_rfl) (by kernel_rfl))) ?_
                replace s := s.tail.tail.tail.tail
                replace s : St W (L) w := s
                exact ⟨0, false, 2, rfl, ⟨R, er, hres, .inr ⟨he0, .inr (.inl ⟨by omega, (by first | exact who_dup hx hb | (intro hw; have := hw.2 x (List.mem_of_getElem? hx); omega) | (intro hw; have := hw.2 x (List.mem_of_getElem? hx); simp_all; done)), rfl, rfl, rfl⟩)⟩⟩, s⟩
              · rw [hb] at ha; replace hb : ¬ (x.2 < (0 : Int)) := of_decide_eq_false hb
                refine st_val (.pointer (some ⟨g5, 1, none⟩)) ha (by kernel_rfl) (by kernel_rfl) ?_
                clear ha; intro a ha
                refine st_val (.int .i64 x.2) ha (by kernel_rfl) (run_load1 (of_ := 1) (s.blkIs 0 rfl) rfl (by kernel_rfl) Try.isAgg3 rfl) ?_
                clear ha; intro a ha
                refine st_val (.bool (decide (x.2 > (9007199254740991 : Int)))) ha (by kernel_rfl) (by kernel_rfl) ?_
                clear ha; intro a ha
                refine st_val (.bool (decide (x.2 > (9007199254740991 : Int)))) ha (by kernel_rfl) (by kernel_rfl) ?_
                clear ha; intro a ha
                refine wpList_nil ?_
                refine then_normal ?_
                refine wp_part (decide (x.2 > (9007199254740991 : Int))) ha rfl (by kernel_rfl) (fun hb => ?_) (fun hb => ?_)
                · rw [hb] at ha; replace hb : (x.2 > (9007199254740991 : Int)) := of_decide_eq_true hb
                  refine wp_seq ?_
                  refine wp_region_lit ?_
                  refine st_val (.int .i64 0) ha (by kernel_rfl) (by kernel_rfl) ?_
                  clear ha; intro a ha
                  refine st_val (.bool false) ha (by kernel_rfl) (by kernel_rfl) ?_
                  clear ha; intro a ha
                  refine st_val (.int .i64 2) ha (by kernel_rfl) (by kernel_rfl) ?_
                  clear ha; intro a ha
                  refine wpList_nil ?_
                  refine then_normal ?_
                  refine wp_ret ?_
                  refine then_ret ?_
                  refine block_ret ?_
                  refine then_ret ?_
                  refine then_ret ?_
                  refine block_ret ?_
                  refine then_ret ?_
                  refine ret_with (v := .tuple #[.int .i64 0, .bool false, .int .i64 2]) ha (results_3 rfl ha (res_tmp (by kernel_rfl) (by kernel_rfl)) (res_tmp (by kernel_rfl) (by kernel_rfl)) (res_tmp (by kernel_rfl) (by kernel_rfl))) ?_
                  replace s := s.tail.tail.tail.tail
                  replace s : St W (L) w := s
                  exact ⟨0, false, 2, rfl, ⟨R, er, hres, .inr ⟨he0, .inr (.inl ⟨by omega, (by first | exact who_dup hx hb | (intro hw; have := hw.2 x (List.mem_of_getElem? hx); omega) | (intro hw; have := hw.2 x (List.mem_of_getElem? hx); simp_all; done)), rfl, rfl, rfl⟩)⟩⟩, s⟩
                · rw [hb] at ha; replace hb : ¬ (x.2 > (9007199254740991 : Int)) := of_decide_eq_false hb
                  refine wp_skip ?_
                  refine then_normal ?_
                  refine wp_region_lit ?_
                  refine st_val (.map (some g3)) ha (by kernel_rfl) (run_load1 (of_ := 0) (s.blkIs 1 rfl) rfl (by kernel_rfl) Try.isAgg55 rfl) ?_
                  clear ha; intro a ha
                  refine st_val (.pointer (some ⟨g5, 0, none⟩)) ha (by kernel_rfl) (by kernel_rfl) ?_
                  clear ha; intro a ha
                  refine st_val (.int .i64 x.1) ha (by kernel_rfl) (run_load1 (of_ := 0) (s.blkIs 0 rfl) rfl (by kernel_rfl) Try.isAgg3 rfl) ?_
                  clear ha; intro a ha
                  refine st_val (.pointer (some ⟨g5, 1, none⟩)) ha (by kernel_rfl) (by kernel_rfl) ?_
                  clear ha; intro a ha
                  refine st_val (.int .i64 x.2) ha (by kernel_rfl) (run_load1 (of_ := 1) (s.blkIs 0 rfl) rfl (by kernel_rfl) Try.isAgg3 rfl) ?_
                  clear ha; intro a ha
                  refine st_exd ha (by kernel_rfl) (ex_mapUpdate (a := x.1) 2 (.int .i64 x.2) s rfl rfl (by kernel_rfl) (by kernel_rfl) (by kernel_rfl) encI_inj keyed3 Try.underlying55 (key3 ⟨by omega, by omega⟩) (by simp only [maxLen, vd, List.length_map]; omega)) ?_
                  clear ha; rintro w a s ha
                  replace s : St W (.blk g5 [.int .i64 x.1, .int .i64 x.2] 34 :: .blk g4 [.map (some g3)] 55 :: MapT Try.prog 3 encI g3 (mput (vd (l.take i)) x.1 (.int .i64 x.2)) :: Own 3 1 A1 R.length c2 (ints R) :: L) w := s
                  refine wpList_nil ?_
                  refine block_normal ?_
                  refine then_normal ?_
                  refine wp_region_lit ?_
                  refine st_val (.int .i64 ((i + 1 : Nat) : Int)) ha (by kernel_rfl) (run_arith (((i : Nat) : Int) + (1 : Int)) ((i + 1 : Nat) : Int) rfl (by kernel_rfl) (by kernel_rfl) (.inl ⟨rfl, rfl⟩) (by rw [wrap64_in (by omega)]; try omega) _) ?_
                  clear ha; intro a ha
                  refine st_val (.int .i64 ((i + 1 : Nat) : Int)) ha (by kernel_rfl) (by kernel_rfl) ?_
                  clear ha; intro a ha
                  refine wpList_nil ?_
                  refine then_normal ?_
                  replace s := s.at_ (j := 3) rfl
                  replace s : St W (Own 3 1 A1 R.length c2 (ints R) :: .blk g5 [.int .i64 x.1, .int .i64 x.2] 34 :: .blk g4 [.map (some g3)] 55 :: MapT Try.prog 3 encI g3 (mput (vd (l.take i)) x.1 (.int .i64 x.2)) :: L) w := s
                  replace s := s.at_ (j := 3) rfl
                  replace s : St W (MapT Try.prog 3 encI g3 (mput (vd (l.take i)) x.1 (.int .i64 x.2)) :: Own 3 1 A1 R.length c2 (ints R) :: .blk g5 [.int .i64 x.1, .int .i64 x.2] 34 :: .blk g4 [.map (some g3)] 55 :: L) w := s
                  replace s := s.at_ (j := 3) rfl
                  replace s : St W (.blk g4 [.map (some g3)] 55 :: MapT Try.prog 3 encI g3 (mput (vd (l.take i)) x.1 (.int .i64 x.2)) :: Own 3 1 A1 R.length c2 (ints R) :: .blk g5 [.int .i64 x.1, .int .i64 x.2] 34 :: L) w := s
                  replace s : St W (.blk g4 [.map (some g3)] 55 :: MapT Try.prog 3 encI g3 (mput (vd (l.take i)) x.1 (.int .i64 x.2)) :: Own 3 1 A1 R.length c2 (ints R) :: L) w := St.mid (A := [.blk g4 [.map (some g3)] 55, MapT Try.prog 3 encI g3 (mput (vd (l.take i)) x.1 (.int .i64 x.2)), Own 3 1 A1 R.length c2 (ints R)]) (B := [.blk g5 [.int .i64 x.1, .int .i64 x.2] 34]) s
                  replace s : St W (.blk g4 [.map (some g3)] 55 :: MapT Try.prog 3 encI g3 (vd (l.take (i + 1))) :: Own 3 1 A1 R.length c2 (ints R) :: L) w := by rw [← vd_put hx hnone]; exact s
                  exact ⟨i + 1, by omega, (Has.cons ha (by kernel_rfl) (by kernel_rfl) (Has.cons ha (by kernel_rfl) (by kernel_rfl) (Has.cons ha (by kernel_rfl) (by kernel_rfl) (Has.cons ha (by kernel_rfl) (by kernel_rfl) (Has.cons ha (by kernel_rfl) (by kernel_rfl) (Has.cons ha (by kernel_rfl) (by kernel_rfl) (Has.nil ha))))))), s, by omega, who_step hx hnone ⟨hi1, by omega, by omega⟩ hp.2⟩
        · rw [hb] at ha; replace hb : ¬ (((i : Nat) : Int) < ((m : Nat) : Int)) := of_decide_eq_false hb
          have hi : i = m := by omega
          have hwho : whoOk l := by have := hp.2; rwa [hi, List.take_of_length_le (by omega)] at this
          rw [hi, show l.take m = l from List.take_of_length_le (by omega)] at s
          refine wp_exit ?_
          refine then_exit ?_
          refine then_exit ?_
          refine block_hit ?_
          refine then_normal ?_
          refine wp_seq ?_
          refine wp_seq ?_
          refine wp_region_lit ?_
          refine st_val (.slice A1 R.length c2) ha (by kernel_rfl) (by kernel_rfl) ?_
          clear ha; intro a ha
          refine st_val (.int .i64 ((R.length : Nat) : Int)) ha (by kernel_rfl) (by kernel_rfl) ?_
          clear ha; intro a ha
          refine st_val (.bool (((R.length : Nat) : Int) == (0 : Int))) ha (by kernel_rfl) (by kernel_rfl) ?_
          clear ha; intro a ha
          refine wpList_nil ?_
          refine then_normal ?_
          refine wp_part (((R.length : Nat) : Int) == (0 : Int)) ha rfl (by kernel_rfl) (fun hb => ?_) (fun hb => ?_)
          · rw [hb] at ha; have hb_ := hb; replace hb := eq_of_beq hb
            refine wp_seq ?_
            refine wp_region_lit ?_
            refine st_val (.int .i64 0) ha (by kernel_rfl) (by kernel_rfl) ?_
            clear ha; intro a ha
            refine st_val (.bool false) ha (by kernel_rfl) (by kernel_rfl) ?_
            clear ha; intro a ha
            refine st_val (.int .i64 0) ha (by kernel_rfl) (by kernel_rfl) ?_
            clear ha; intro a ha
            refine wpList_nil ?_
            refine then_normal ?_
            refine wp_ret ?_
            refine then_ret ?_
            refine ret_with (v := .tuple #[.int .i64 0, .bool false, .int .i64 0]) ha (results_3 rfl ha (res_tmp (by kernel_rfl) (by kernel_rfl)) (res_tmp (by kernel_rfl) (by kernel_rfl)) (res_tmp (by kernel_rfl) (by kernel_rfl))) ?_
            replace s := s.tail.tail.tail
            replace s : St W (L) w := s
            exact ⟨0, false, 0, rfl, ⟨R, er, hres, .inr ⟨he0, .inr (.inr ⟨by omega, hwho, rfl, .inl ⟨List.eq_nil_of_length_eq_zero (by omega), rfl, rfl⟩⟩)⟩⟩, s⟩
          · rw [hb] at ha; have hb_ := hb; replace hb := ne_of_beq_false hb
            refine wp_skip ?_
            refine then_normal ?_
            refine wp_seq ?_
            refine wp_region_lit ?_
            refine st_val (.slice A1 R.length c2) ha (by kernel_rfl) (by kernel_rfl) ?_
            clear ha; intro a ha
            refine st_val (.func (.func 25) #[] #[.pointer (some ⟨g4, 0, none⟩)]) ha (by kernel_rfl) (by kernel_rfl) ?_
            clear ha; intro a ha
            refine st_call ha (by kernel_rfl) (by kernel_rfl) (min_ok W _ w A1 R.length c2 R (Knows.own (j := 2) rfl) rfl ⟨by omega, by omega⟩ (rings_id (he0 ▸ hres)) g4 g3 l (Knows.cells (j := 0) rfl) (Knows.mapIs (j := 1) rfl) s) ?_
            rintro _ w ⟨m0, rfl, hmin, s⟩
            replace s : St W (.blk g4 [.map (some g3)] 55 :: MapT Try.prog 3 encI g3 (vd l) :: Own 3 1 A1 R.length c2 (ints R) :: L) w := s
            refine ⟨_, rfl, ?_⟩; clear ha; intro a ha
            refine st_val (.int .i64 m0) ha (by kernel_rfl) (by kernel_rfl) ?_
            clear ha; intro a ha
            refine st_val (.bool true) ha (by kernel_rfl) (by kernel_rfl) ?_
            clear ha; intro a ha
            refine st_val (.int .i64 0) ha (by kernel_rfl) (by kernel_rfl) ?_
            clear ha; intro a ha
            refine wpList_nil ?_
            refine then_normal ?_
            refine wp_ret ?_
            refine ret_with (v := .tuple #[.int .i64 m0, .bool true, .int .i64 0]) ha (results_3 rfl ha (res_tmp (by kernel_rfl) (by kernel_rfl)) (res_tmp (by kernel_rfl) (by kernel_rfl)) (res_tmp (by kernel_rfl) (by kernel_rfl))) ?_
            replace s := s.tail.tail.tail
            replace s : St W (L) w := s
            exact ⟨m0, true, 0, rfl, ⟨R, er, hres, .inr ⟨he0, .inr (.inr ⟨by omega, hwho, rfl, .inr ⟨fun h => hb (by rw [h]; rfl), rfl, hmin⟩⟩)⟩⟩, s⟩

theorem bring_any (W : World) (L : List Chunk) (w : World) (i n : Int) (hn : 0 < n) (hb : n ≤ 1000000) (s : St W L w) :
    Calls Try.prog 17 #[.int .i64 i, .int .i64 n] w fun e w' => e = .returned (.int .i64 (i % n)) ∧ St W L w' := by
  have ht1 := Int.tmod_lt_of_pos i hn
  have ht2 := Int.lt_tmod_of_pos i hn
  have ht3 := Int.tmod_def i n
  have ht4 : i % n = if i.tmod n < 0 then i.tmod n + n else i.tmod n := by
    have h1 := Int.tmod_eq_emod (a := i) (b := n)
    have h2 := Int.emod_nonneg i (show n ≠ 0 by omega)
    have h3 := Int.emod_lt_of_pos i hn
    split at h1 <;> split <;> omega
  refine enter_args (l := [.int .i64 i, .int .i64 n]) Try.func17 rfl rfl (Nat.le_of_ble_eq_true rfl) ?_
  intro a ha; replace ha : Has a 16 [(0, .int .i64 i), (1, .int .i64 n)] := ha
  refine wp_seq ?_
  refine wp_region_lit ?_
  refine st_val (.int .i64 0) ha (by kernel_rfl) (by kernel_rfl) ?_
  clear ha; intro a ha
  refine wpList_nil ?_
  refine then_normal ?_
  refine wp_seq ?_
  refine wp_seq ?_
  refine wp_region_lit ?_
  refine st_val (.int .i64 n) ha (by kernel_rfl) (by kernel_rfl) ?_
  clear ha; intro a ha
  refine st_val (.bool false) ha (by kernel_rfl) (run_known (show (decide (n ≤ (0 : Int))) = false from decide_eq_false (by omega)) (by kernel_rfl)) ?_
  clear ha; intro a ha
  refine wpList_nil ?_
  refine then_normal ?_
  refine wp_false ha rfl (by kernel_rfl) ?_
  refine wp_skip ?_
  refine then_normal ?_
  refine wp_seq ?_
  refine wp_region_lit ?_
  refine st_val (.int .i64 i) ha (by kernel_rfl) (by kernel_rfl) ?_
  clear ha; intro a ha
  refine st_val (.int .i64 n) ha (by kernel_rfl) (by kernel_rfl) ?_
  clear ha; intro a ha
  refine st_val (.int .i64 ((i).tmod n)) ha (by kernel_rfl) (run_rem ((i).tmod n) rfl (by kernel_rfl) (by kernel_rfl) (by omega) rfl _) ?_
  clear ha; intro a ha
  refine st_val (.int .i64 ((i).tmod n)) ha (by kernel_rfl) (by kernel_rfl) ?_
  clear ha; intro a ha
  refine wpList_nil ?_
  refine then_normal ?_
  refine wp_seq ?_
  refine wp_seq ?_
  refine wp_region_lit ?_
  refine st_val (.int .i64 ((i).tmod n)) ha (by kernel_rfl) (by kernel_rfl) ?_
  clear ha; intro a ha
  refine st_val (.bool (decide (((i).tmod n) < (0 : Int)))) ha (by kernel_rfl) (by kernel_rfl) ?_
  clear ha; intro a ha
  refine wpList_nil ?_
  refine then_normal ?_
  refine wp_part (decide (((i).tmod n) < (0 : Int))) ha rfl (by kernel_rfl) (fun hb => ?_) (fun hb => ?_)
  · rw [hb] at ha; replace hb : (((i).tmod n) < (0 : Int)) := of_decide_eq_true hb
    refine wp_region_lit ?_
    refine st_val (.int .i64 ((i).tmod n)) ha (by kernel_rfl) (by kernel_rfl) ?_
    clear ha; intro a ha
    refine st_val (.int .i64 n) ha (by kernel_rfl) (by kernel_rfl) ?_
    clear ha; intro a ha
    refine st_val (.int .i64 (((i).tmod n) + n)) ha (by kernel_rfl) (run_arith (((i).tmod n) + n) (((i).tmod n) + n) rfl (by kernel_rfl) (by kernel_rfl) (.inl ⟨rfl, rfl⟩) (by rw [wrap64_in (by omega)]) _) ?_
    clear ha; intro a ha
    refine st_val (.int .i64 (((i).tmod n) + n)) ha (by kernel_rfl) (by kernel_rfl) ?_
    clear ha; intro a ha
    refine wpList_nil ?_
    refine then_normal ?_
    refine wp_seq ?_
    refine wp_region_lit ?_
    refine st_val (.int .i64 (((i).tmod n) + n)) ha (by kernel_rfl) (by kernel_rfl) ?_
    clear ha; intro a ha
    refine st_val (.int .i64 (((i).tmod n) + n)) ha (by kernel_rfl) (by kernel_rfl) ?_
    clear ha; intro a ha
    refine wpList_nil ?_
    refine then_normal ?_
    refine wp_ret ?_
    refine ret_with (v := .int .i64 (((i).tmod n) + n)) ha (results_1 rfl ha (res_tmp (by kernel_rfl) (by kernel_rfl))) ?_
    refine ⟨?_, s⟩
    congr 2
    omega
  · rw [hb] at ha; replace hb : ¬ (((i).tmod n) < (0 : Int)) := of_decide_eq_false hb
    refine wp_skip ?_
    refine then_normal ?_
    refine wp_seq ?_
    refine wp_region_lit ?_
    refine st_val (.int .i64 ((i).tmod n)) ha (by kernel_rfl) (by kernel_rfl) ?_
    clear ha; intro a ha
    refine st_val (.int .i64 ((i).tmod n)) ha (by kernel_rfl) (by kernel_rfl) ?_
    clear ha; intro a ha
    refine wpList_nil ?_
    refine then_normal ?_
    refine wp_ret ?_
    refine ret_with (v := .int .i64 ((i).tmod n)) ha (results_1 rfl ha (res_tmp (by kernel_rfl) (by kernel_rfl))) ?_
    refine ⟨?_, s⟩
    congr 2
    omega

theorem eqInts_any (W : World) (L : List Chunk) (w : World) (A : Option Addr) (n ca : Nat) (la : List Int) (hra : Knows L fun w => Reads w 1 A n (ints la)) (hral : la.length = n) (hran : n ≤ 140737488351232) (B : Option Addr) (m cb : Nat) (lb : List Int) (hrb : Knows L fun w => Reads w 1 B m (ints lb)) (hrbl : lb.length = m) (hrbn : m ≤ 140737488351232) (s : St W L w) :
    Calls Try.prog 14 #[.slice A n ca, .slice B m cb] w fun e w' => e = .returned (.bool (decide (la = lb))) ∧ St W L w' := by
  refine enter_args (l := [.slice A n ca, .slice B m cb]) Try.func14 rfl rfl (Nat.le_of_ble_eq_true rfl) ?_
  intro a ha; replace ha : Has a 26 [(0, .slice A n ca), (1, .slice B m cb)] := ha
  refine wp_seq ?_
  refine wp_region_lit ?_
  refine st_val (.bool false) ha (by kernel_rfl) (by kernel_rfl) ?_
  clear ha; intro a ha
  refine wpList_nil ?_
  refine then_normal ?_
  refine wp_seq ?_
  refine wp_seq ?_
  refine wp_region_lit ?_
  refine st_val (.slice A n ca) ha (by kernel_rfl) (by kernel_rfl) ?_
  clear ha; intro a ha
  refine st_val (.int .i64 ((n : Nat) : Int)) ha (by kernel_rfl) (by kernel_rfl) ?_
  clear ha; intro a ha
  refine st_val (.slice B m cb) ha (by kernel_rfl) (by kernel_rfl) ?_
  clear ha; intro a ha
  refine st_val (.int .i64 ((m : Nat) : Int)) ha (by kernel_rfl) (by kernel_rfl) ?_
  clear ha; intro a ha
  refine st_val (.bool (((n : Nat) : Int) != ((m : Nat) : Int))) ha (by kernel_rfl) (by kernel_rfl) ?_
  clear ha; intro a ha
  refine wpList_nil ?_
  refine then_normal ?_
  refine wp_part (((n : Nat) : Int) != ((m : Nat) : Int)) ha rfl (by kernel_rfl) (fun hb => ?_) (fun hb => ?_)
  · rw [hb] at ha; have hb_ := hb; replace hb := bne_iff_ne.1 hb
    refine wp_seq ?_
    refine wp_region_lit ?_
    refine st_val (.bool false) ha (by kernel_rfl) (by kernel_rfl) ?_
    clear ha; intro a ha
    refine wpList_nil ?_
    refine then_normal ?_
    refine wp_ret ?_
    refine then_ret ?_
    refine ret_with (v := .bool false) ha (results_1 rfl ha (res_tmp (by kernel_rfl) (by kernel_rfl))) ?_
    refine ⟨?_, s⟩
    have : la ≠ lb := fun h => by
      subst h
      first | omega | (rw [hx] at hy; cases hy; exact absurd rfl hb)
    simp [this]
  · rw [hb] at ha; have hb_ := hb; replace hb := bne_eq_false_iff_eq.1 hb
    refine wp_skip ?_
    refine then_normal ?_
    refine wp_seq ?_
    refine wp_seq ?_
    refine wp_region_lit ?_
    refine st_val (.int .i64 0) ha (by kernel_rfl) (by kernel_rfl) ?_
    clear ha; intro a ha
    refine wpList_nil ?_
    refine then_normal ?_
    refine wp_block ?_
    refine wp_loopG (G := Nat) (fun k a w => Has a 26 [(0, .slice A n ca), (1, .slice B m cb), (5, .int .i64 ((k : Nat) : Int))] ∧ St W (L) w ∧ (k ≤ n ∧ ∀ i, i < k → la[i]? = lb[i]?)) (fun k => n - k) 0 ?_ ?_
    · exact ⟨(Has.cons ha (by kernel_rfl) (by kernel_rfl) (Has.cons ha (by kernel_rfl) (by kernel_rfl) (Has.cons ha (by kernel_rfl) (by kernel_rfl) (Has.nil ha)))), s, ⟨Nat.zero_le _, fun i hi => absurd hi (Nat.not_lt_zero _)⟩⟩
    · clear ha s; rintro k a w ⟨ha, s, hp⟩
      refine wp_seq ?_
      refine wp_seq ?_
      refine wp_region_lit ?_
      refine st_val (.int .i64 ((k : Nat) : Int)) ha (by kernel_rfl) (by kernel_rfl) ?_
      clear ha; intro a ha
      refine st_val (.slice A n ca) ha (by kernel_rfl) (by kernel_rfl) ?_
      clear ha; intro a ha
      refine st_val (.int .i64 ((n : Nat) : Int)) ha (by kernel_rfl) (by kernel_rfl) ?_
      clear ha; intro a ha
      refine st_val (.bool (decide (((k : Nat) : Int) < ((n : Nat) : Int)))) ha (by kernel_rfl) (by kernel_rfl) ?_
      clear ha; intro a ha
      refine wpList_nil ?_
      refine then_normal ?_
      refine wp_part (decide (((k : Nat) : Int) < ((n : Nat) : Int))) ha rfl (by kernel_rfl) (fun hb => ?_) (fun hb => ?_)
      · rw [hb] at ha; replace hb : (((k : Nat) : Int) < ((n : Nat) : Int)) := of_decide_eq_true hb
        have hmn : n = m := by omega
        obtain ⟨x, hx⟩ : ∃ x, la[k]? = some x := ⟨_, List.getElem?_eq_getElem (by omega)⟩
        obtain ⟨ada, hA_ada⟩ := Reads.addr (hra _ s.sat) (by omega)
        subst hA_ada
        obtain ⟨y, hy⟩ : ∃ x, lb[k]? = some x := ⟨_, List.getElem?_eq_getElem (by omega)⟩
        obtain ⟨adb, hA_adb⟩ := Reads.addr (hrb _ s.sat) (by omega)
        subst hA_adb
        refine wp_skip ?_
        refine then_normal ?_
        refine wp_seq ?_
        refine wp_block ?_
        refine wp_seq ?_
        refine wp_region_head 8 (fun w => Reads w 1 (some ada) n (ints la) ∧ Reads w 1 (some adb) m (ints lb) ∧ True) (by kernel_rfl) (by decide) ?_
        replace s := s.drew; generalize _root_.Go.World.drew _ = w at s ⊢
        have hS : (fun w => Reads w 1 (some ada) n (ints la) ∧ Reads w 1 (some adb) m (ints lb) ∧ True) w := ⟨(hra _ s.sat), (hrb _ s.sat), trivial⟩
        refine hd_val (i := 0) (.slice (some ada) n ca) ha rfl (by kernel_rfl) (fun _ _ _ h => h) (by kernel_rfl) (fun w hS => (by kernel_rfl)) hS ?_
        clear ha; intro a ha
        refine hd_val (i := 1) (.int .i64 ((k : Nat) : Int)) ha rfl (by kernel_rfl) (fun _ _ _ h => h) (by kernel_rfl) (fun w hS => (by kernel_rfl)) hS ?_
        clear ha; intro a ha
        refine hd_val (i := 2) (.pointer (some (ada.add (k * 1)))) ha rfl (by kernel_rfl) (fun _ _ _ h => h) (by kernel_rfl) (fun w hS => (run_indexAddr' (kd := .i64) (i := ((k : Nat) : Int)) (n := n) (c := ca) k rfl Try.underlying25 Try.sizeOf3 (by kernel_rfl) (by kernel_rfl) rfl (by first | assumption | omega) _)) hS ?_
        clear ha; intro a ha
        refine hd_val (i := 3) (.int .i64 x) ha rfl (by kernel_rfl) (fun _ _ _ h => h) (by kernel_rfl) (fun w hS => run_loadAt1 (i := k * 1) hS.1 rfl (by kernel_rfl) Try.isAgg3 (by rw [Nat.mul_one]; exact ints_at hx)) hS ?_
        clear ha; intro a ha
        refine hd_val (i := 4) (.slice (some adb) m cb) ha rfl (by kernel_rfl) (fun _ _ _ h => h) (by kernel_rfl) (fun w hS => (by kernel_rfl)) hS ?_
        clear ha; intro a ha
        refine hd_val (i := 5) (.int .i64 ((k : Nat) : Int)) ha rfl (by kernel_rfl) (fun _ _ _ h => h) (by kernel_rfl) (fun w hS => (by kernel_rfl)) hS ?_
        clear ha; intro a ha
        refine hd_val (i := 6) (.pointer (some (adb.add (k * 1)))) ha rfl (by kernel_rfl) (fun _ _ _ h => h) (by kernel_rfl) (fun w hS => (run_indexAddr' (kd := .i64) (i := ((k : Nat) : Int)) (n := m) (c := cb) k rfl Try.underlying25 Try.sizeOf3 (by kernel_rfl) (by kernel_rfl) rfl (by first | assumption | omega) _)) hS ?_
        clear ha; intro a ha
        refine hd_val (i := 7) (.int .i64 y) ha rfl (by kernel_rfl) (fun _ _ _ h => h) (by kernel_rfl) (fun w hS => run_loadAt1 (i := k * 1) hS.2.1 rfl (by kernel_rfl) Try.isAgg3 (by rw [Nat.mul_one]; exact ints_at hy)) hS ?_
        clear ha; intro a ha
        refine Head.done (by kernel_rfl) ?_
        clear hS; simp only [List.drop_succ_cons, List.drop_zero]
        refine st_val (.bool (x != y)) ha (by kernel_rfl) (by kernel_rfl) ?_
        clear ha; intro a ha
        refine wpList_nil ?_
        refine then_normal ?_
        refine wp_part (x != y) ha rfl (by kernel_rfl) (fun hb => ?_) (fun hb => ?_)
        · rw [hb] at ha; have hb_ := hb; replace hb := bne_iff_ne.1 hb
          refine wp_seq ?_
          refine wp_region_lit ?_
          refine st_val (.bool false) ha (by kernel_rfl) (by kernel_rfl) ?_
          clear ha; intro a ha
          refine wpList_nil ?_
          refine then_normal ?_
          refine wp_ret ?_
          refine block_ret ?_
          refine then_ret ?_
          refine then_ret ?_
          refine block_ret ?_
          refine then_ret ?_
          refine ret_with (v := .bool false) ha (results_1 rfl ha (res_tmp (by kernel_rfl) (by kernel_rfl))) ?_
          refine ⟨?_, s⟩
          have : la ≠ lb := fun h => by
            subst h
            first | omega | (rw [hx] at hy; cases hy; exact absurd rfl hb)
          simp [this]
        · rw [hb] at ha; have hb_ := hb; replace hb := bne_eq_false_iff_eq.1 hb
          have hxy : x = y := hb
          refine wp_skip ?_
          refine block_normal ?_
          refine then_normal ?_
          refine wp_region_lit ?_
          refine st_val (.int .i64 ((k : Nat) : Int)) ha (by kernel_rfl) (by kernel_rfl) ?_
          clear ha; intro a ha
          refine st_val (.int .i64 ((k + 1 : Nat) : Int)) ha (by kernel_rfl) (run_arith (((k : Nat) : Int) + (1 : Int)) ((k + 1 : Nat) : Int) rfl (by kernel_rfl) (by kernel_rfl) (.inl ⟨rfl, rfl⟩) (by rw [wrap64_in (by omega)]; try omega) _) ?_
          clear ha; intro a ha
          refine st_val (.int .i64 ((k + 1 : Nat) : Int)) ha (by kernel_rfl) (by kernel_rfl) ?_
          clear ha; intro a ha
          refine wpList_nil ?_
          refine then_normal ?_
          exact ⟨k + 1, by omega, (Has.cons ha (by kernel_rfl) (by kernel_rfl) (Has.cons ha (by kernel_rfl) (by kernel_rfl) (Has.cons ha (by kernel_rfl) (by kernel_rfl) (Has.nil ha)))), s, by omega, fun i hi => by
      rcases Nat.lt_or_ge i k with h | h
      · exact hp.2 i h
      · have hik : i = k := by omega
        rw [hik, hx, hy, hxy]⟩
      · rw [hb] at ha; replace hb : ¬ (((k : Nat) : Int) < ((n : Nat) : Int)) := of_decide_eq_false hb
        refine wp_exit ?_
        refine then_exit ?_
        refine then_exit ?_
        refine block_hit ?_
        refine then_normal ?_
        refine wp_seq ?_
        refine wp_region_lit ?_
        refine st_val (.bool true) ha (by kernel_rfl) (by kernel_rfl) ?_
        clear ha; intro a ha
        refine wpList_nil ?_
        refine then_normal ?_
        refine wp_ret ?_
        refine ret_with (v := .bool true) ha (results_1 rfl ha (res_tmp (by kernel_rfl) (by kernel_rfl))) ?_
        refine ⟨?_, s⟩
        have : la = lb := by
          apply List.ext_getElem?
          intro i
          rcases Nat.lt_or_ge i k with h | h
          · exact hp.2 i h
          · rw [List.getElem?_eq_none (by omega), List.getElem?_eq_none (by omega)]
        simp [this]

theorem has_any (W : World) (L : List Chunk) (w : World) (A : Option Addr) (n ca : Nat) (la : List Int) (hra : Knows L fun w => Reads w 1 A n (ints la)) (hral : la.length = n) (hran : n ≤ 140737488351232) (q : Int) (s : St W L w) :
    Calls Try.prog 16 #[.slice A n ca, .int .i64 q] w fun e w' => e = .returned (.bool (decide (q ∈ la))) ∧ St W L w' := by
  refine enter_args (l := [.slice A n ca, .int .i64 q]) Try.func16 rfl rfl (Nat.le_of_ble_eq_true rfl) ?_
  intro a ha; replace ha : Has a 18 [(0, .slice A n ca), (1, .int .i64 q)] := ha
  refine wp_seq ?_
  refine wp_region_lit ?_
  refine st_val (.bool false) ha (by kernel_rfl) (by kernel_rfl) ?_
  clear ha; intro a ha
  refine wpList_nil ?_
  refine then_normal ?_
  refine wp_seq ?_
  refine wp_seq ?_
  refine wp_region_lit ?_
  refine st_val (.int .i64 0) ha (by kernel_rfl) (by kernel_rfl) ?_
  clear ha; intro a ha
  refine wpList_nil ?_
  refine then_normal ?_
  refine wp_block ?_
  refine wp_loopG (G := Nat) (fun k a w => Has a 18 [(0, .slice A n ca), (1, .int .i64 q), (5, .int .i64 ((k : Nat) : Int))] ∧ St W (L) w ∧ (k ≤ n ∧ ∀ i, i < k → la[i]? ≠ some q)) (fun k => n - k) 0 ?_ ?_
  · exact ⟨(Has.cons ha (by kernel_rfl) (by kernel_rfl) (Has.cons ha (by kernel_rfl) (by kernel_rfl) (Has.cons ha (by kernel_rfl) (by kernel_rfl) (Has.nil ha)))), s, ⟨Nat.zero_le _, fun i hi => absurd hi (Nat.not_lt_zero _)⟩⟩
  · clear ha s; rintro k a w ⟨ha, s, hp⟩
    refine wp_seq ?_
    refine wp_seq ?_
    refine wp_region_lit ?_
    refine st_val (.int .i64 ((k : Nat) : Int)) ha (by kernel_rfl) (by kernel_rfl) ?_
    clear ha; intro a ha
    refine st_val (.slice A n ca) ha (by kernel_rfl) (by kernel_rfl) ?_
    clear ha; intro a ha
    refine st_val (.int .i64 ((n : Nat) : Int)) ha (by kernel_rfl) (by kernel_rfl) ?_
    clear ha; intro a ha
    refine st_val (.bool (decide (((k : Nat) : Int) < ((n : Nat) : Int)))) ha (by kernel_rfl) (by kernel_rfl) ?_
    clear ha; intro a ha
    refine wpList_nil ?_
    refine then_normal ?_
    refine wp_part (decide (((k : Nat) : Int) < ((n : Nat) : Int))) ha rfl (by kernel_rfl) (fun hb => ?_) (fun hb => ?_)
    · rw [hb] at ha; replace hb : (((k : Nat) : Int) < ((n : Nat) : Int)) := of_decide_eq_true hb
      obtain ⟨x, hx⟩ : ∃ x, la[k]? = some x := ⟨_, List.getElem?_eq_getElem (by omega)⟩
      obtain ⟨ada, hA_ada⟩ := Reads.addr (hra _ s.sat) (by omega)
      subst hA_ada
      refine wp_skip ?_
      refine then_normal ?_
      refine wp_seq ?_
      refine wp_block ?_
      refine wp_seq ?_
      refine wp_region_lit ?_
      refine st_val (.slice (some ada) n ca) ha (by kernel_rfl) (by kernel_rfl) ?_
      clear ha; intro a ha
      refine st_val (.int .i64 ((k : Nat) : Int)) ha (by kernel_rfl) (by kernel_rfl) ?_
      clear ha; intro a ha
      refine st_val (.pointer (some (ada.add (k * 1)))) ha (by kernel_rfl) (run_indexAddr' (kd := .i64) (i := ((k : Nat) : Int)) (n := n) (c := ca) k rfl Try.underlying25 Try.sizeOf3 (by kernel_rfl) (by kernel_rfl) rfl (by first | assumption | omega) _) ?_
      clear ha; intro a ha
      refine st_val (.int .i64 x) ha (by kernel_rfl) (run_loadAt1 (i := k * 1) ((hra _ s.sat)) rfl (by kernel_rfl) Try.isAgg3 (by rw [Nat.mul_one]; exact ints_at hx)) ?_
      clear ha; intro a ha
      refine st_val (.int .i64 q) ha (by kernel_rfl) (by kernel_rfl) ?_
      clear ha; intro a ha
      refine st_val (.bool (x == q)) ha (by kernel_rfl) (by kernel_rfl) ?_
      clear ha; intro a ha
      refine wpList_nil ?_
      refine then_normal ?_
      refine wp_part (x == q) ha rfl (by kernel_rfl) (fun hb => ?_) (fun hb => ?_)
      · rw [hb] at ha; have hb_ := hb; replace hb := eq_of_beq hb
        refine wp_seq ?_
        refine wp_region_lit ?_
        refine st_val (.bool true) ha (by kernel_rfl) (by kernel_rfl) ?_
        clear ha; intro a ha
        refine wpList_nil ?_
        refine then_normal ?_
        refine wp_ret ?_
        refine block_ret ?_
        refine then_ret ?_
        refine then_ret ?_
        refine block_ret ?_
        refine then_ret ?_
        refine ret_with (v := .bool true) ha (results_1 rfl ha (res_tmp (by kernel_rfl) (by kernel_rfl))) ?_
        refine ⟨?_, s⟩
        rw [decide_eq_true]
        rw [← hb]; exact List.mem_of_getElem? hx
      · rw [hb] at ha; have hb_ := hb; replace hb := ne_of_beq_false hb
        refine wp_skip ?_
        refine block_normal ?_
        refine then_normal ?_
        refine wp_region_lit ?_
        refine st_val (.int .i64 ((k : Nat) : Int)) ha (by kernel_rfl) (by kernel_rfl) ?_
        clear ha; intro a ha
        refine st_val (.int .i64 ((k + 1 : Nat) : Int)) ha (by kernel_rfl) (run_arith (((k : Nat) : Int) + (1 : Int)) ((k + 1 : Nat) : Int) rfl (by kernel_rfl) (by kernel_rfl) (.inl ⟨rfl, rfl⟩) (by rw [wrap64_in (by omega)]; try omega) _) ?_
        clear ha; intro a ha
        refine st_val (.int .i64 ((k + 1 : Nat) : Int)) ha (by kernel_rfl) (by kernel_rfl) ?_
        clear ha; intro a ha
        refine wpList_nil ?_
        refine then_normal ?_
        exact ⟨k + 1, by omega, (Has.cons ha (by kernel_rfl) (by kernel_rfl) (Has.cons ha (by kernel_rfl) (by kernel_rfl) (Has.cons ha (by kernel_rfl) (by kernel_rfl) (Has.nil ha)))), s, by omega, fun i hi => by
        rcases Nat.lt_or_ge i k with h | h
        · exact hp.2 i h
        · have hik : i = k := by omega
          rw [hik, hx]; exact fun h => hb (Option.some.inj h)⟩
    · rw [hb] at ha; replace hb : ¬ (((k : Nat) : Int) < ((n : Nat) : Int)) := of_decide_eq_false hb
      refine wp_exit ?_
      refine then_exit ?_
      refine then_exit ?_
      refine block_hit ?_
      refine then_normal ?_
      refine wp_seq ?_
      refine wp_region_lit ?_
      refine st_val (.bool false) ha (by kernel_rfl) (by kernel_rfl) ?_
      clear ha; intro a ha
      refine wpList_nil ?_
      refine then_normal ?_
      refine wp_ret ?_
      refine ret_with (v := .bool false) ha (results_1 rfl ha (res_tmp (by kernel_rfl) (by kernel_rfl))) ?_
      refine ⟨?_, s⟩
      rw [decide_eq_false]
      intro hm
      obtain ⟨i, hi, e⟩ := List.mem_iff_getElem.1 hm
      exact hp.2 i (by omega) (by rw [List.getElem?_eq_getElem hi, e])

end Go.Proofs.Ytjdkpebnaohonaa.B
