import Derived.Test.YtcnlidaacgcdhaaB10
import Derived.Test.YtcnlidaacgcdhaaSepG
import Derived.Test.YtcnlidaacgcdhaaLayR
namespace Go.Proofs.Ytcnlidaacgcdhaa.B
open Go.RowKit Go.Proofs.Ytcnlidaacgcdhaa.Sep Go.Proofs.Ytcnlidaacgcdhaa.P
set_option linter.unusedVariables false
set_option linter.unusedSimpArgs false
theorem repX : Builder.Extra Try.prog Try.rep_ren where
  sizeBuilder := by kernel_rfl
  liesBuilder := by kernel_rfl
  t5 := Try.rep.t5
  a5 := Try.rep.a5
  z5 := Try.rep.z5
  v5 := Try.rep.v5
  infoByte := by kernel_rfl
  cellsByte := by kernel_rfl
  sizeByte := by kernel_rfl
  neB5 := by decide
theorem repF : Try.rep_ren.f 105 = 20 := by kernel_rfl
theorem rep_any (W : World) (hW : W.drawn = 0) (L : List Chunk) (w : World) (s : St W L w) : Calls Try.prog 20 #[.string (str [107]), .int .i64 32] w fun e w' => e = .returned (.string (str [107, 107, 107, 107, 107, 107, 107, 107, 107, 107, 107, 107, 107, 107, 107, 107, 107, 107, 107, 107, 107, 107, 107, 107, 107, 107, 107, 107, 107, 107, 107, 107])) ∧ St W L w' := by
  have h := Any.strings_Repeat Try.rep repX (str [107]) 32 w (by decide) (by decide)
  rw [repF] at h
  exact h.mono fun e w' ⟨he, hb⟩ => ⟨by rw [he]; rfl, St.of_below hW s hb⟩
theorem Own.of_blk {W w : World} {L : List Chunk} {g n k : Nat} {cs : List Value} {e : TypeId} (hl : cs.length = n * k) (hn : n ≤ 1000000) (s : St W (.blk g cs e :: L) w) : St W (Own e k (some ⟨g, 0, none⟩) n n cs :: L) w :=
  Own.close hl (Nat.le_refl _) (by simp only [maxLen]; omega) (by omega) (fun j u h => by rw [Nat.zero_add]; exact h) s
theorem Forked.split {W w : World} {L : List Chunk} {e k : Nat} {A : Option Addr} {n c : Nat} {cs : List Value} {A' : Option Addr} {n' c' : Nat} {news : List Value} (h : c < n') (s : St W (Forked e k A n c cs A' n' c' news :: L) w) : St W (Own e k A' n' c' (cs ++ news) :: Own e k A n c cs :: L) w := by
  refine ⟨Sat.star_iff (L := [Own e k A' n' c' (cs ++ news), Own e k A n c cs]) |>.1 (s.1.head_imp fun x hx => ?_), s.2⟩
  rcases hx with ⟨_, h2, _, _, h5⟩ | hx
  · have := h5.2.1; omega
  · exact hx
theorem append_full {W w : World} {L : List Chunk} {P : Program} {E : Env} {o : Oper} {x y : Operand} {t e k b : Nat} (T : Elt P t e k b) (hk : 0 < k) {A B : Option Addr} {n m d' : Nat} {cs : List Value} (news : List Value) (s : St W (Own e k A n n cs :: L) w)
    (ho : o.op = .call { callee := .builtin .append, args := #[x, y], argTypes := #[t, t] })
    (hx : evalE E x = .slice A n n) (hy : evalE E y = .slice B m d') (hr : Reads w k B m news) (h1 : ∀ u ∈ news, u.oneCell' = true) (hm : 0 < m)
    (h63 : n + m ≤ maxLen) (hb : (n + m) * b ≤ 140737488355328) :
    ∃ v w1, (execOp (evalE E) o).run P w = .ok (.value v) w1 ∧ ∃ A' c', v = .slice A' (n + m) c' ∧ St W (Own e k A' (n + m) c' (cs ++ news) :: Own e k A n n cs :: L) w1 := by
  obtain ⟨v, w1, h, A', c', rfl, s⟩ := ex_append_keep (o := o) (E := E) T hk 0 news s ho hx hy rfl hr h1 h63 hb
  exact ⟨_, w1, h, A', c', rfl, Forked.split (by omega) s⟩

theorem of_long (W : World) (L : List Chunk) (w : World) (k : K) (hk : 32 < k.length) (s : St W L w) :
    Calls Try.prog 15 #[.string (str k)] w fun e w' => e = .returned (.tuple #[.agg #[.string (str []), .string (str [])], .int .i64 5]) ∧ St W L w' := by
  refine enter_args (l := [.string (str k)]) Try.func15 rfl rfl (Nat.le_of_ble_eq_true rfl) ?_
  intro a ha; replace ha : Has a 12 [(0, .string (str k))] := ha
  refine wp_seq ?_
  refine wp_region_lit ?_
  refine st_ex ha (by kernel_rfl) (ex_alloc [.string (str []), .string (str [])] s rfl (Try.zeroValue29 _) (by kernel_rfl)) ?_
  clear ha; rintro _ w a ⟨g1, rfl, s⟩ ha
  replace s : St W (.blk g1 [.string (str []), .string (str [])] 29 :: L) w := s
  refine st_val (.int .i64 0) ha (by kernel_rfl) (by kernel_rfl) ?_
  clear ha; intro a ha
  refine wpList_nil ?_
  refine then_normal ?_
  refine wp_seq ?_
  refine wp_seq ?_
  refine wp_region_lit ?_
  refine st_val (.string (str k)) ha (by kernel_rfl) (by kernel_rfl) ?_
  clear ha; intro a ha
  refine st_val (.int .i64 ((k.length : Nat) : Int)) ha (by kernel_rfl) (run_slen rfl Try.underlying9 (by kernel_rfl) _) ?_
  clear ha; intro a ha
  refine st_val (.bool true) ha (by kernel_rfl) (run_known (show (decide (((k.length : Nat) : Int) > (32 : Int))) = true from decide_eq_true (by omega)) (by kernel_rfl)) ?_
  clear ha; intro a ha
  refine wpList_nil ?_
  refine then_normal ?_
  refine wp_true ha rfl (by kernel_rfl) ?_
  refine wp_seq ?_
  refine wp_region_lit ?_
  refine st_val (.agg #[.string (str []), .string (str [])]) ha (by kernel_rfl) (by kernel_rfl) ?_
  clear ha; intro a ha
  refine st_exd ha (by kernel_rfl) (ex_store (of_ := 0) 0 [.string (str []), .string (str [])] s rfl rfl (by kernel_rfl) (by kernel_rfl) (Try.sizeOf29 _) rfl (by simp [Value.oneCell']) (Nat.le_of_ble_eq_true rfl)) ?_
  clear ha; rintro w a s ha
  replace s : St W (.blk g1 [.string (str []), .string (str [])] 29 :: L) w := s
  refine st_val (.int .i64 5) ha (by kernel_rfl) (by kernel_rfl) ?_
  clear ha; intro a ha
  refine wpList_nil ?_
  refine then_normal ?_
  refine wp_ret ?_
  refine then_ret ?_
  refine ret_with (v := .tuple #[.agg #[.string (str []), .string (str [])], .int .i64 5]) ha (results_2 rfl ha (res_cellN (s.blkIs 0 rfl) (by kernel_rfl) (by kernel_rfl) Try.isAgg29 Try.sizeOf29 rfl) (res_tmp (by kernel_rfl) (by kernel_rfl))) ?_
  replace s := s.tail
  replace s : St W (L) w := s
  exact ⟨rfl, s⟩

theorem sweep_limA (W : World) (L : List Chunk) (w : World) (A B : Option Addr) (n m ca cb g : Nat) (h : 1000 < n) (s : St W L w) :
    Calls Try.prog 23 #[.slice A n ca, .slice B m cb, .func (.func g) #[] #[]] w fun e w' => e = .returned (.tuple #[.slice none 0 0, .int .i64 5]) ∧ St W L w' := by
  refine enter_args (l := [.slice A n ca, .slice B m cb, .func (.func g) #[] #[]]) Try.func23 rfl rfl (Nat.le_of_ble_eq_true rfl) ?_
  intro a ha; replace ha : Has a 126 [(0, .slice A n ca), (1, .slice B m cb), (2, .func (.func g) #[] #[])] := ha
  refine wp_seq ?_
  refine wp_region_lit ?_
  refine st_val (.slice none 0 0) ha (by kernel_rfl) (by kernel_rfl) ?_
  clear ha; intro a ha
  refine st_val (.int .i64 0) ha (by kernel_rfl) (by kernel_rfl) ?_
  clear ha; intro a ha
  refine wpList_nil ?_
  refine then_normal ?_
  refine wp_seq ?_
  refine wp_seq ?_
  refine wp_region_lit ?_
  refine st_val (.slice A n ca) ha (by kernel_rfl) (by kernel_rfl) ?_
  clear ha; intro a ha
  refine st_val (.int .i64 ((n : Nat) : Int)) ha (by kernel_rfl) (by kernel_rfl) ?_
  clear ha; intro a ha
  refine st_val (.bool true) ha (by kernel_rfl) (run_known (show (decide (((n : Nat) : Int) > (1000 : Int))) = true from decide_eq_true (by omega)) (by kernel_rfl)) ?_
  clear ha; intro a ha
  refine st_val (.bool true) ha (by kernel_rfl) (by kernel_rfl) ?_
  clear ha; intro a ha
  refine st_pass ha (by kernel_rfl) ?_
  clear ha; intro a ha
  refine st_pass ha (by kernel_rfl) ?_
  clear ha; intro a ha
  refine st_pass ha (by kernel_rfl) ?_
  clear ha; intro a ha
  refine st_val (.bool true) ha (by kernel_rfl) (by kernel_rfl) ?_
  clear ha; intro a ha
  refine wpList_nil ?_
  refine then_normal ?_
  refine wp_true ha rfl (by kernel_rfl) ?_
  refine wp_seq ?_
  refine wp_region_lit ?_
  refine st_val (.slice none 0 0) ha (by kernel_rfl) (by kernel_rfl) ?_
  clear ha; intro a ha
  refine st_val (.int .i64 5) ha (by kernel_rfl) (by kernel_rfl) ?_
  clear ha; intro a ha
  refine wpList_nil ?_
  refine then_normal ?_
  refine wp_ret ?_
  refine then_ret ?_
  refine ret_with (v := .tuple #[.slice none 0 0, .int .i64 5]) ha (results_2 rfl ha (res_tmp (by kernel_rfl) (by kernel_rfl)) (res_tmp (by kernel_rfl) (by kernel_rfl))) ?_
  exact ⟨rfl, s⟩

theorem sweep_limB (W : World) (L : List Chunk) (w : World) (A B : Option Addr) (n m ca cb g : Nat) (hn : n ≤ 1000) (h : 1000 < m) (s : St W L w) :
    Calls Try.prog 23 #[.slice A n ca, .slice B m cb, .func (.func g) #[] #[]] w fun e w' => e = .returned (.tuple #[.slice none 0 0, .int .i64 5]) ∧ St W L w' := by
  refine enter_args (l := [.slice A n ca, .slice B m cb, .func (.func g) #[] #[]]) Try.func23 rfl rfl (Nat.le_of_ble_eq_true rfl) ?_
  intro a ha; replace ha : Has a 126 [(0, .slice A n ca), (1, .slice B m cb), (2, .func (.func g) #[] #[])] := ha
  refine wp_seq ?_
  refine wp_region_lit ?_
  refine st_val (.slice none 0 0) ha (by kernel_rfl) (by kernel_rfl) ?_
  clear ha; intro a ha
  refine st_val (.int .i64 0) ha (by kernel_rfl) (by kernel_rfl) ?_
  clear ha; intro a ha
  refine wpList_nil ?_
  refine then_normal ?_
  refine wp_seq ?_
  refine wp_seq ?_
  refine wp_region_lit ?_
  refine st_val (.slice A n ca) ha (by kernel_rfl) (by kernel_rfl) ?_
  clear ha; intro a ha
  refine st_val (.int .i64 ((n : Nat) : Int)) ha (by kernel_rfl) (by kernel_rfl) ?_
  clear ha; intro a ha
  refine st_val (.bool false) ha (by kernel_rfl) (run_known (show (decide (((n : Nat) : Int) > (1000 : Int))) = false from decide_eq_false (by omega)) (by kernel_rfl)) ?_
  clear ha; intro a ha
  refine st_val (.bool false) ha (by kernel_rfl) (by kernel_rfl) ?_
  clear ha; intro a ha
  refine st_val (.slice B m cb) ha (by kernel_rfl) (by kernel_rfl) ?_
  clear ha; intro a ha
  refine st_val (.int .i64 ((m : Nat) : Int)) ha (by kernel_rfl) (by kernel_rfl) ?_
  clear ha; intro a ha
  refine st_val (.bool true) ha (by kernel_rfl) (run_known (show (decide (((m : Nat) : Int) > (1000 : Int))) = true from decide_eq_true (by omega)) (by kernel_rfl)) ?_
  clear ha; intro a ha
  refine st_val (.bool true) ha (by kernel_rfl) (by kernel_rfl) ?_
  clear ha; intro a ha
  refine wpList_nil ?_
  refine then_normal ?_
  refine wp_true ha rfl (by kernel_rfl) ?_
  refine wp_seq ?_
  refine wp_region_lit ?_
  refine st_val (.slice none 0 0) ha (by kernel_rfl) (by kernel_rfl) ?_
  clear ha; intro a ha
  refine st_val (.int .i64 5) ha (by kernel_rfl) (by kernel_rfl) ?_
  clear ha; intro a ha
  refine wpList_nil ?_
  refine then_normal ?_
  refine wp_ret ?_
  refine then_ret ?_
  refine ret_with (v := .tuple #[.slice none 0 0, .int .i64 5]) ha (results_2 rfl ha (res_tmp (by kernel_rfl) (by kernel_rfl)) (res_tmp (by kernel_rfl) (by kernel_rfl))) ?_
  exact ⟨rfl, s⟩

theorem sweep_badA (W : World) (L : List Chunk) (w : World) (ad : Addr) (B : Option Addr) (m ca cb g : Nat) (x : Span) (r : Int) (hx : chk x = r) (hr0 : r ≠ 0) (hm : m ≤ 1000) (hra : Knows L fun w => Reads w 2 (some ad) 1 (sps [x])) (s : St W L w) :
    Calls Try.prog 23 #[.slice (some ad) 1 ca, .slice B m cb, .func (.func g) #[] #[]] w fun e w' => e = .returned (.tuple #[.slice none 0 0, .int .i64 r]) ∧ St W L w' := by
  refine enter_args (l := [.slice (some ad) 1 ca, .slice B m cb, .func (.func g) #[] #[]]) Try.func23 rfl rfl (Nat.le_of_ble_eq_true rfl) ?_
  intro a ha; replace ha : Has a 126 [(0, .slice (some ad) 1 ca), (1, .slice B m cb), (2, .func (.func g) #[] #[])] := ha
  refine wp_seq ?_
  refine wp_region_lit ?_
  refine st_val (.slice none 0 0) ha (by kernel_rfl) (by kernel_rfl) ?_
  clear ha; intro a ha
  refine st_val (.int .i64 0) ha (by kernel_rfl) (by kernel_rfl) ?_
  clear ha; intro a ha
  refine wpList_nil ?_
  refine then_normal ?_
  refine wp_seq ?_
  refine wp_seq ?_
  refine wp_region_lit ?_
  refine st_val (.slice (some ad) 1 ca) ha (by kernel_rfl) (by kernel_rfl) ?_
  clear ha; intro a ha
  refine st_val (.int .i64 1) ha (by kernel_rfl) (by kernel_rfl) ?_
  clear ha; intro a ha
  refine st_val (.bool false) ha (by kernel_rfl) (by kernel_rfl) ?_
  clear ha; intro a ha
  refine st_val (.bool false) ha (by kernel_rfl) (by kernel_rfl) ?_
  clear ha; intro a ha
  refine st_val (.slice B m cb) ha (by kernel_rfl) (by kernel_rfl) ?_
  clear ha; intro a ha
  refine st_val (.int .i64 ((m : Nat) : Int)) ha (by kernel_rfl) (by kernel_rfl) ?_
  clear ha; intro a ha
  refine st_val (.bool false) ha (by kernel_rfl) (run_known (show (decide (((m : Nat) : Int) > (1000 : Int))) = false from decide_eq_false (by omega)) (by kernel_rfl)) ?_
  clear ha; intro a ha
  refine st_val (.bool false) ha (by kernel_rfl) (by kernel_rfl) ?_
  clear ha; intro a ha
  refine wpList_nil ?_
  refine then_normal ?_
  refine wp_false ha rfl (by kernel_rfl) ?_
  refine wp_skip ?_
  refine then_normal ?_
  refine wp_seq ?_
  refine wp_region_lit ?_
  refine st_val (.slice none 0 0) ha (by kernel_rfl) (by kernel_rfl) ?_
  clear ha; intro a ha
  refine wpList_nil ?_
  refine then_normal ?_
  refine wp_seq ?_
  refine wp_seq ?_
  refine wp_region_lit ?_
  refine st_val (.slice (some ad) 1 ca) ha (by kernel_rfl) (by kernel_rfl) ?_
  clear ha; intro a ha
  refine st_val (.slice B m cb) ha (by kernel_rfl) (by kernel_rfl) ?_
  clear ha; intro a ha
  refine st_val (.agg #[.slice (some ad) 1 ca, .slice B m cb]) ha (by kernel_rfl) (by kernel_rfl) ?_
  clear ha; intro a ha
  refine st_val (.int .i64 0) ha (by kernel_rfl) (by kernel_rfl) ?_
  clear ha; intro a ha
  refine wpList_nil ?_
  refine then_normal ?_
  refine wp_block ?_
  refine wp_loop_rounds 3 ?_
  show Code.rounds _ _ _ 3 _ _
  rw [rounds_succ]
  refine wp_seq ?_
  refine wp_region_lit ?_
  refine st_val (.bool true) ha (by kernel_rfl) (by kernel_rfl) ?_
  clear ha; intro a ha
  refine wpList_nil ?_
  refine then_normal ?_
  refine wp_seq ?_
  refine wp_true ha rfl (by kernel_rfl) ?_
  refine wp_skip ?_
  refine then_normal ?_
  refine wp_seq ?_
  refine wp_block ?_
  refine wp_seq ?_
  refine wp_region_lit ?_
  refine st_val (.int .i64 0) ha (by kernel_rfl) (by kernel_rfl) ?_
  clear ha; intro a ha
  refine st_val (.slice (some ad) 1 ca) ha (by kernel_rfl) (by kernel_rfl) ?_
  clear ha; intro a ha
  refine st_val (.int .i64 0) ha (by kernel_rfl) (by kernel_rfl) ?_
  clear ha; intro a ha
  refine st_val (.slice (some ad) 1 ca) ha (by kernel_rfl) (by kernel_rfl) ?_
  clear ha; intro a ha
  refine wpList_nil ?_
  refine then_normal ?_
  refine wp_seq ?_
  refine wp_region_lit ?_
  refine st_val (.slice (some ad) 1 ca) ha (by kernel_rfl) (by kernel_rfl) ?_
  clear ha; intro a ha
  refine st_val (.int .i64 1) ha (by kernel_rfl) (by kernel_rfl) ?_
  clear ha; intro a ha
  refine st_val (.int .i64 0) ha (by kernel_rfl) (by kernel_rfl) ?_
  clear ha; intro a ha
  refine wpList_nil ?_
  refine then_normal ?_
  refine wp_block ?_
  refine wp_loop_rounds 2 ?_
  show Code.rounds _ _ _ 2 _ _
  rw [rounds_succ]
  refine wp_seq ?_
  refine wp_region_lit ?_
  refine st_val (.bool true) ha (by kernel_rfl) (by kernel_rfl) ?_
  clear ha; intro a ha
  refine wpList_nil ?_
  refine then_normal ?_
  refine wp_seq ?_
  refine wp_true ha rfl (by kernel_rfl) ?_
  refine wp_skip ?_
  refine then_normal ?_
  refine wp_seq ?_
  refine wp_block ?_
  refine wp_seq ?_
  refine wp_region_lit ?_
  refine st_val (.pointer (some (ad.add (0 * 2)))) ha (by kernel_rfl) (run_indexAddr' (kd := .i64) (i := 0) (n := 1) (c := ca) 0 rfl Try.underlying22 Try.sizeOf29 (by kernel_rfl) (by kernel_rfl) rfl (by first | assumption | omega) _) ?_
  clear ha; intro a ha
  refine st_val (.agg #[.string (str x.1), .string (str x.2)]) ha (by kernel_rfl) (run_loadAtN (i := 0 * 2) [.string (str x.1), .string (str x.2)] ((hra _ s.sat)) rfl (by kernel_rfl) Try.isAgg29 Try.sizeOf29 (fun j hj => sps_at (k := 0) (l := [x]) rfl hj) rfl) ?_
  clear ha; intro a ha
  refine st_ex ha (by kernel_rfl) (ex_alloc [.string (str []), .string (str [])] s rfl (Try.zeroValue29 _) (by kernel_rfl)) ?_
  clear ha; rintro _ w a ⟨g1, rfl, s⟩ ha
  replace s : St W (.blk g1 [.string (str []), .string (str [])] 29 :: L) w := s
  refine st_exd ha (by kernel_rfl) (ex_store (of_ := 0) 0 [.string (str x.1), .string (str x.2)] s rfl rfl (by kernel_rfl) (by kernel_rfl) (Try.sizeOf29 _) rfl (by simp [Value.oneCell']) (Nat.le_of_ble_eq_true rfl)) ?_
  clear ha; rintro w a s ha
  replace s : St W (.blk g1 [.string (str x.1), .string (str x.2)] 29 :: L) w := s
  refine wpList_nil ?_
  refine then_normal ?_
  refine wp_seq ?_
  refine wp_seq ?_
  refine wp_region_lit ?_
  refine st_val (.agg #[.string (str x.1), .string (str x.2)]) ha (by kernel_rfl) (run_loadN (of_ := 0) [.string (str x.1), .string (str x.2)] (s.blkIs 0 rfl) rfl (by kernel_rfl) Try.isAgg29 Try.sizeOf29 rfl (Nat.le_of_ble_eq_true rfl)) ?_
  clear ha; intro a ha
  refine st_call ha (by kernel_rfl) (by kernel_rfl) (check_any W _ w x s) ?_
  rintro _ w ⟨rfl, s⟩
  replace s : St W (.blk g1 [.string (str x.1), .string (str x.2)] 29 :: L) w := s
  refine ⟨_, rfl, ?_⟩; clear ha; intro a ha
  refine st_val (.int .i64 (chk x)) ha (by kernel_rfl) (by kernel_rfl) ?_
  clear ha; intro a ha
  refine wpList_nil ?_
  refine then_normal ?_
  refine wp_seq ?_
  refine wp_region_lit ?_
  refine st_val (.int .i64 (chk x)) ha (by kernel_rfl) (by kernel_rfl) ?_
  clear ha; intro a ha
  refine st_val (.bool true) ha (by kernel_rfl) (run_known (show ((chk x) != (0 : Int)) = true from by rw [hx]; simpa using hr0) (by kernel_rfl)) ?_
  clear ha; intro a ha
  refine wpList_nil ?_
  refine then_normal ?_
  refine wp_true ha rfl (by kernel_rfl) ?_
  refine wp_seq ?_
  refine wp_region_lit ?_
  refine st_val (.int .i64 (chk x)) ha (by kernel_rfl) (by kernel_rfl) ?_
  clear ha; intro a ha
  refine st_val (.slice none 0 0) ha (by kernel_rfl) (by kernel_rfl) ?_
  clear ha; intro a ha
  refine st_val (.int .i64 (chk x)) ha (by kernel_rfl) (by kernel_rfl) ?_
  clear ha; intro a ha
  refine wpList_nil ?_
  refine then_normal ?_
  refine wp_ret ?_
  refine then_ret ?_
  refine block_ret ?_
  refine then_ret ?_
  refine then_ret ?_
  refine block_ret ?_
  refine block_ret ?_
  refine then_ret ?_
  refine then_ret ?_
  refine block_ret ?_
  refine then_ret ?_
  refine ret_with (v := .tuple #[.slice none 0 0, .int .i64 (chk x)]) ha (results_2 rfl ha (res_tmp (by kernel_rfl) (by kernel_rfl)) (res_tmp (by kernel_rfl) (by kernel_rfl))) ?_
  replace s := s.tail
  replace s : St W (L) w := s
  exact ⟨by rw [hx], s⟩

theorem sweep_badB (W : World) (L : List Chunk) (w : World) (ad bd : Addr) (ca cb g : Nat) (x y : Span) (r : Int) (hx : chk x = 0) (hy : chk y = r) (hr0 : r ≠ 0) (hra : Knows L fun w => Reads w 2 (some ad) 1 (sps [x])) (hrb : Knows L fun w => Reads w 2 (some bd) 1 (sps [y])) (s : St W L w) :
    Calls Try.prog 23 #[.slice (some ad) 1 ca, .slice (some bd) 1 cb, .func (.func g) #[] #[]] w fun e w' => e = .returned (.tuple #[.slice none 0 0, .int .i64 r]) ∧ St W L w' := by
  refine enter_args (l := [.slice (some ad) 1 ca, .slice (some bd) 1 cb, .func (.func g) #[] #[]]) Try.func23 rfl rfl (Nat.le_of_ble_eq_true rfl) ?_
  intro a ha; replace ha : Has a 126 [(0, .slice (some ad) 1 ca), (1, .slice (some bd) 1 cb), (2, .func (.func g) #[] #[])] := ha
  refine wp_seq ?_
  refine wp_region_lit ?_
  refine st_val (.slice none 0 0) ha (by kernel_rfl) (by kernel_rfl) ?_
  clear ha; intro a ha
  refine st_val (.int .i64 0) ha (by kernel_rfl) (by kernel_rfl) ?_
  clear ha; intro a ha
  refine wpList_nil ?_
  refine then_normal ?_
  refine wp_seq ?_
  refine wp_seq ?_
  refine wp_region_lit ?_
  refine st_val (.slice (some ad) 1 ca) ha (by kernel_rfl) (by kernel_rfl) ?_
  clear ha; intro a ha
  refine st_val (.int .i64 1) ha (by kernel_rfl) (by kernel_rfl) ?_
  clear ha; intro a ha
  refine st_val (.bool false) ha (by kernel_rfl) (by kernel_rfl) ?_
  clear ha; intro a ha
  refine st_val (.bool false) ha (by kernel_rfl) (by kernel_rfl) ?_
  clear ha; intro a ha
  refine st_val (.slice (some bd) 1 cb) ha (by kernel_rfl) (by kernel_rfl) ?_
  clear ha; intro a ha
  refine st_val (.int .i64 1) ha (by kernel_rfl) (by kernel_rfl) ?_
  clear ha; intro a ha
  refine st_val (.bool false) ha (by kernel_rfl) (by kernel_rfl) ?_
  clear ha; intro a ha
  refine st_val (.bool false) ha (by kernel_rfl) (by kernel_rfl) ?_
  clear ha; intro a ha
  refine wpList_nil ?_
  refine then_normal ?_
  refine wp_false ha rfl (by kernel_rfl) ?_
  refine wp_skip ?_
  refine then_normal ?_
  refine wp_seq ?_
  refine wp_region_lit ?_
  refine st_val (.slice none 0 0) ha (by kernel_rfl) (by kernel_rfl) ?_
  clear ha; intro a ha
  refine wpList_nil ?_
  refine then_normal ?_
  refine wp_seq ?_
  refine wp_seq ?_
  refine wp_region_lit ?_
  refine st_val (.slice (some ad) 1 ca) ha (by kernel_rfl) (by kernel_rfl) ?_
  clear ha; intro a ha
  refine st_val (.slice (some bd) 1 cb) ha (by kernel_rfl) (by kernel_rfl) ?_
  clear ha; intro a ha
  refine st_val (.agg #[.slice (some ad) 1 ca, .slice (some bd) 1 cb]) ha (by kernel_rfl) (by kernel_rfl) ?_
  clear ha; intro a ha
  refine st_val (.int .i64 0) ha (by kernel_rfl) (by kernel_rfl) ?_
  clear ha; intro a ha
  refine wpList_nil ?_
  refine then_normal ?_
  refine wp_block ?_
  refine wp_loop_rounds 3 ?_
  show Code.rounds _ _ _ 3 _ _
  rw [rounds_succ]
  refine wp_seq ?_
  refine wp_region_lit ?_
  refine st_val (.bool true) ha (by kernel_rfl) (by kernel_rfl) ?_
  clear ha; intro a ha
  refine wpList_nil ?_
  refine then_normal ?_
  refine wp_seq ?_
  refine wp_true ha rfl (by kernel_rfl) ?_
  refine wp_skip ?_
  refine then_normal ?_
  refine wp_seq ?_
  refine wp_block ?_
  refine wp_seq ?_
  refine wp_region_lit ?_
  refine st_val (.int .i64 0) ha (by kernel_rfl) (by kernel_rfl) ?_
  clear ha; intro a ha
  refine st_val (.slice (some ad) 1 ca) ha (by kernel_rfl) (by kernel_rfl) ?_
  clear ha; intro a ha
  refine st_val (.int .i64 0) ha (by kernel_rfl) (by kernel_rfl) ?_
  clear ha; intro a ha
  refine st_val (.slice (some ad) 1 ca) ha (by kernel_rfl) (by kernel_rfl) ?_
  clear ha; intro a ha
  refine wpList_nil ?_
  refine then_normal ?_
  refine wp_seq ?_
  refine wp_region_lit ?_
  refine st_val (.slice (some ad) 1 ca) ha (by kernel_rfl) (by kernel_rfl) ?_
  clear ha; intro a ha
  refine st_val (.int .i64 1) ha (by kernel_rfl) (by kernel_rfl) ?_
  clear ha; intro a ha
  refine st_val (.int .i64 0) ha (by kernel_rfl) (by kernel_rfl) ?_
  clear ha; intro a ha
  refine wpList_nil ?_
  refine then_normal ?_
  refine wp_block ?_
  refine wp_loop_rounds 2 ?_
  show Code.rounds _ _ _ 2 _ _
  rw [rounds_succ]
  refine wp_seq ?_
  refine wp_region_lit ?_
  refine st_val (.bool true) ha (by kernel_rfl) (by kernel_rfl) ?_
  clear ha; intro a ha
  refine wpList_nil ?_
  refine then_normal ?_
  refine wp_seq ?_
  refine wp_true ha rfl (by kernel_rfl) ?_
  refine wp_skip ?_
  refine then_normal ?_
  refine wp_seq ?_
  refine wp_block ?_
  refine wp_seq ?_
  refine wp_region_lit ?_
  refine st_val (.pointer (some (ad.add (0 * 2)))) ha (by kernel_rfl) (run_indexAddr' (kd := .i64) (i := 0) (n := 1) (c := ca) 0 rfl Try.underlying22 Try.sizeOf29 (by kernel_rfl) (by kernel_rfl) rfl (by first | assumption | omega) _) ?_
  clear ha; intro a ha
  refine st_val (.agg #[.string (str x.1), .string (str x.2)]) ha (by kernel_rfl) (run_loadAtN (i := 0 * 2) [.string (str x.1), .string (str x.2)] ((hra _ s.sat)) rfl (by kernel_rfl) Try.isAgg29 Try.sizeOf29 (fun j hj => sps_at (k := 0) (l := [x]) rfl hj) rfl) ?_
  clear ha; intro a ha
  refine st_ex ha (by kernel_rfl) (ex_alloc [.string (str []), .string (str [])] s rfl (Try.zeroValue29 _) (by kernel_rfl)) ?_
  clear ha; rintro _ w a ⟨g1, rfl, s⟩ ha
  replace s : St W (.blk g1 [.string (str []), .string (str [])] 29 :: L) w := s
  refine st_exd ha (by kernel_rfl) (ex_store (of_ := 0) 0 [.string (str x.1), .string (str x.2)] s rfl rfl (by kernel_rfl) (by kernel_rfl) (Try.sizeOf29 _) rfl (by simp [Value.oneCell']) (Nat.le_of_ble_eq_true rfl)) ?_
  clear ha; rintro w a s ha
  replace s : St W (.blk g1 [.string (str x.1), .string (str x.2)] 29 :: L) w := s
  refine wpList_nil ?_
  refine then_normal ?_
  refine wp_seq ?_
  refine wp_seq ?_
  refine wp_region_lit ?_
  refine st_val (.agg #[.string (str x.1), .string (str x.2)]) ha (by kernel_rfl) (run_loadN (of_ := 0) [.string (str x.1), .string (str x.2)] (s.blkIs 0 rfl) rfl (by kernel_rfl) Try.isAgg29 Try.sizeOf29 rfl (Nat.le_of_ble_eq_true rfl)) ?_
  clear ha; intro a ha
  refine st_call ha (by kernel_rfl) (by kernel_rfl) (check_any W _ w x s) ?_
  rintro _ w ⟨rfl, s⟩
  replace s : St W (.blk g1 [.string (str x.1), .string (str x.2)] 29 :: L) w := s
  refine ⟨_, rfl, ?_⟩; clear ha; intro a ha
  refine st_val (.int .i64 (chk x)) ha (by kernel_rfl) (by kernel_rfl) ?_
  clear ha; intro a ha
  refine wpList_nil ?_
  refine then_normal ?_
  refine wp_seq ?_
  refine wp_region_lit ?_
  refine st_val (.int .i64 (chk x)) ha (by kernel_rfl) (by kernel_rfl) ?_
  clear ha; intro a ha
  refine st_val (.bool false) ha (by kernel_rfl) (run_known (show ((chk x) != (0 : Int)) = false from by rw [hx]; rfl) (by kernel_rfl)) ?_
  clear ha; intro a ha
  refine wpList_nil ?_
  refine then_normal ?_
  refine wp_false ha rfl (by kernel_rfl) ?_
  refine wp_skip ?_
  refine then_normal ?_
  refine wp_region_lit ?_
  refine st_val (.slice none 0 0) ha (by kernel_rfl) (by kernel_rfl) ?_
  clear ha; intro a ha
  refine st_val (.pointer (some ⟨g1, 0, none⟩)) ha (by kernel_rfl) (by kernel_rfl) ?_
  clear ha; intro a ha
  refine st_val (.string (str x.1)) ha (by kernel_rfl) (run_load1 (of_ := 0) (s.blkIs 0 rfl) rfl (by kernel_rfl) Try.isAgg9 rfl) ?_
  clear ha; intro a ha
  refine st_val (.int .i64 0) ha (by kernel_rfl) (by kernel_rfl) ?_
  clear ha; intro a ha
  refine st_val (.agg #[.string (str x.1), .int .i64 0, .int .i64 1]) ha (by kernel_rfl) (by kernel_rfl) ?_
  clear ha; intro a ha
  refine st_val (.pointer (some ⟨g1, 1, none⟩)) ha (by kernel_rfl) (by kernel_rfl) ?_
  clear ha; intro a ha
  refine st_val (.string (str x.2)) ha (by kernel_rfl) (run_load1 (of_ := 1) (s.blkIs 0 rfl) rfl (by kernel_rfl) Try.isAgg9 rfl) ?_
  clear ha; intro a ha
  refine st_val (.int .i64 0) ha (by kernel_rfl) (by kernel_rfl) ?_
  clear ha; intro a ha
  refine st_val (.agg #[.string (str x.2), .int .i64 0, .int .i64 (-1)]) ha (by kernel_rfl) (by kernel_rfl) ?_
  clear ha; intro a ha
  refine st_ex ha (by kernel_rfl) (ex_buildSlice elt63 _ zs63 [.string (str x.1), .int .i64 0, .int .i64 1, .string (str x.2), .int .i64 0, .int .i64 (-1)] s rfl (by kernel_rfl) (by decide)) ?_
  clear ha; rintro _ w a ⟨g2, rfl, s⟩ ha
  replace s : St W (.blk g2 [.string (str x.1), .int .i64 0, .int .i64 1, .string (str x.2), .int .i64 0, .int .i64 (-1)] 66 :: .blk g1 [.string (str x.1), .string (str x.2)] 29 :: L) w := s
  replace s := Own.none_ (e := 66) (k := 3) none s
  replace s : St W (Own 66 3 none 0 0 [] :: .blk g2 [.string (str x.1), .int .i64 0, .int .i64 1, .string (str x.2), .int .i64 0, .int .i64 (-1)] 66 :: .blk g1 [.string (str x.1), .string (str x.2)] 29 :: L) w := s
  refine st_ex ha (by kernel_rfl) (ex_append (m := 2) (d' := 2) elt63 (by decide) 0 [.string (str x.1), .int .i64 0, .int .i64 1, .string (str x.2), .int .i64 0, .int .i64 (-1)] s rfl (by kernel_rfl) (by kernel_rfl) rfl (reads_blk (s.blkIs 1 rfl) rfl) (by simp [Value.oneCell']) (by simp only [maxLen]; omega) (by omega)) ?_
  clear ha; rintro _ w a ⟨A3, c4, rfl, hA_, s⟩ ha
  replace s : St W (Own 66 3 A3 (0 + 2) c4 ([] ++ [.string (str x.1), .int .i64 0, .int .i64 1, .string (str x.2), .int .i64 0, .int .i64 (-1)]) :: .blk g2 [.string (str x.1), .int .i64 0, .int .i64 1, .string (str x.2), .int .i64 0, .int .i64 (-1)] 66 :: .blk g1 [.string (str x.1), .string (str x.2)] 29 :: L) w := s
  refine st_val (.slice A3 (0 + 2) c4) ha (by kernel_rfl) (by kernel_rfl) ?_
  clear ha; intro a ha
  refine wpList_nil ?_
  refine block_normal ?_
  refine then_normal ?_
  refine wp_region_lit ?_
  refine st_val (.int .i64 1) ha (by kernel_rfl) (by kernel_rfl) ?_
  clear ha; intro a ha
  refine st_val (.int .i64 1) ha (by kernel_rfl) (by kernel_rfl) ?_
  clear ha; intro a ha
  refine wpList_nil ?_
  refine then_normal ?_
  show Code.rounds _ _ _ 1 _ _
  rw [rounds_succ]
  refine wp_seq ?_
  refine wp_region_lit ?_
  refine st_val (.bool false) ha (by kernel_rfl) (by kernel_rfl) ?_
  clear ha; intro a ha
  refine wpList_nil ?_
  refine then_normal ?_
  refine wp_seq ?_
  refine wp_false ha rfl (by kernel_rfl) ?_
  refine wp_exit ?_
  refine then_exit ?_
  refine then_exit ?_
  refine block_hit ?_
  refine block_normal ?_
  refine then_normal ?_
  refine wp_region_lit ?_
  refine st_val (.int .i64 1) ha (by kernel_rfl) (by kernel_rfl) ?_
  clear ha; intro a ha
  refine st_val (.int .i64 1) ha (by kernel_rfl) (by kernel_rfl) ?_
  clear ha; intro a ha
  refine wpList_nil ?_
  refine then_normal ?_
  show Code.rounds _ _ _ 2 _ _
  rw [rounds_succ]
  refine wp_seq ?_
  refine wp_region_lit ?_
  refine st_val (.bool true) ha (by kernel_rfl) (by kernel_rfl) ?_
  clear ha; intro a ha
  refine wpList_nil ?_
  refine then_normal ?_
  refine wp_seq ?_
  refine wp_true ha rfl (by kernel_rfl) ?_
  refine wp_skip ?_
  refine then_normal ?_
  refine wp_seq ?_
  refine wp_block ?_
  refine wp_seq ?_
  refine wp_region_lit ?_
  refine st_val (.int .i64 1) ha (by kernel_rfl) (by kernel_rfl) ?_
  clear ha; intro a ha
  refine st_val (.slice (some bd) 1 cb) ha (by kernel_rfl) (by kernel_rfl) ?_
  clear ha; intro a ha
  refine st_val (.int .i64 1) ha (by kernel_rfl) (by kernel_rfl) ?_
  clear ha; intro a ha
  refine st_val (.slice (some bd) 1 cb) ha (by kernel_rfl) (by kernel_rfl) ?_
  clear ha; intro a ha
  refine wpList_nil ?_
  refine then_normal ?_
  refine wp_seq ?_
  refine wp_region_lit ?_
  refine st_val (.slice (some bd) 1 cb) ha (by kernel_rfl) (by kernel_rfl) ?_
  clear ha; intro a ha
  refine st_val (.int .i64 1) ha (by kernel_rfl) (by kernel_rfl) ?_
  clear ha; intro a ha
  refine st_val (.int .i64 0) ha (by kernel_rfl) (by kernel_rfl) ?_
  clear ha; intro a ha
  refine wpList_nil ?_
  refine then_normal ?_
  refine wp_block ?_
  refine wp_loop_rounds 2 ?_
  show Code.rounds _ _ _ 2 _ _
  rw [rounds_succ]
  refine wp_seq ?_
  refine wp_region_lit ?_
  refine st_val (.bool true) ha (by kernel_rfl) (by kernel_rfl) ?_
  clear ha; intro a ha
  refine wpList_nil ?_
  refine then_normal ?_
  refine wp_seq ?_
  refine wp_true ha rfl (by kernel_rfl) ?_
  refine wp_skip ?_
  refine then_normal ?_
  refine wp_seq ?_
  refine wp_block ?_
  refine wp_seq ?_
  refine wp_region_lit ?_
  refine st_val (.pointer (some (bd.add (0 * 2)))) ha (by kernel_rfl) (run_indexAddr' (kd := .i64) (i := 0) (n := 1) (c := cb) 0 rfl Try.underlying22 Try.sizeOf29 (by kernel_rfl) (by kernel_rfl) rfl (by first | assumption | omega) _) ?_
  clear ha; intro a ha
  refine st_val (.agg #[.string (str y.1), .string (str y.2)]) ha (by kernel_rfl) (run_loadAtN (i := 0 * 2) [.string (str y.1), .string (str y.2)] ((hrb _ s.sat.tail.tail.tail)) rfl (by kernel_rfl) Try.isAgg29 Try.sizeOf29 (fun j hj => sps_at (k := 0) (l := [y]) rfl hj) rfl) ?_
  clear ha; intro a ha
  refine st_ex ha (by kernel_rfl) (ex_alloc [.string (str []), .string (str [])] s rfl (Try.zeroValue29 _) (by kernel_rfl)) ?_
  clear ha; rintro _ w a ⟨g5, rfl, s⟩ ha
  replace s : St W (.blk g5 [.string (str []), .string (str [])] 29 :: Own 66 3 A3 (0 + 2) c4 ([] ++ [.string (str x.1), .int .i64 0, .int .i64 1, .string (str x.2), .int .i64 0, .int .i64 (-1)]) :: .blk g2 [.string (str x.1), .int .i64 0, .int .i64 1, .string (str x.2), .int .i64 0, .int .i64 (-1)] 66 :: .blk g1 [.string (str x.1), .string (str x.2)] 29 :: L) w := s
  refine st_exd ha (by kernel_rfl) (ex_store (of_ := 0) 0 [.string (str y.1), .string (str y.2)] s rfl rfl (by kernel_rfl) (by kernel_rfl) (Try.sizeOf29 _) rfl (by simp [Value.oneCell']) (Nat.le_of_ble_eq_true rfl)) ?_
  clear ha; rintro w a s ha
  replace s : St W (.blk g5 [.string (str y.1), .string (str y.2)] 29 :: Own 66 3 A3 (0 + 2) c4 ([] ++ [.string (str x.1), .int .i64 0, .int .i64 1, .string (str x.2), .int .i64 0, .int .i64 (-1)]) :: .blk g2 [.string (str x.1), .int .i64 0, .int .i64 1, .string (str x.2), .int .i64 0, .int .i64 (-1)] 66 :: .blk g1 [.string (str x.1), .string (str x.2)] 29 :: L) w := s
  refine wpList_nil ?_
  refine then_normal ?_
  refine wp_seq ?_
  refine wp_seq ?_
  refine wp_region_lit ?_
  refine st_val (.agg #[.string (str y.1), .string (str y.2)]) ha (by kernel_rfl) (run_loadN (of_ := 0) [.string (str y.1), .string (str y.2)] (s.blkIs 0 rfl) rfl (by kernel_rfl) Try.isAgg29 Try.sizeOf29 rfl (Nat.le_of_ble_eq_true rfl)) ?_
  clear ha; intro a ha
  refine st_call ha (by kernel_rfl) (by kernel_rfl) (check_any W _ w y s) ?_
  rintro _ w ⟨rfl, s⟩
  replace s : St W (.blk g5 [.string (str y.1), .string (str y.2)] 29 :: Own 66 3 A3 (0 + 2) c4 ([] ++ [.string (str x.1), .int .i64 0, .int .i64 1, .string (str x.2), .int .i64 0, .int .i64 (-1)]) :: .blk g2 [.string (str x.1), .int .i64 0, .int .i64 1, .string (str x.2), .int .i64 0, .int .i64 (-1)] 66 :: .blk g1 [.string (str x.1), .string (str x.2)] 29 :: L) w := s
  refine ⟨_, rfl, ?_⟩; clear ha; intro a ha
  refine st_val (.int .i64 (chk y)) ha (by kernel_rfl) (by kernel_rfl) ?_
  clear ha; intro a ha
  refine wpList_nil ?_
  refine then_normal ?_
  refine wp_seq ?_
  refine wp_region_lit ?_
  refine st_val (.int .i64 (chk y)) ha (by kernel_rfl) (by kernel_rfl) ?_
  clear ha; intro a ha
  refine st_val (.bool true) ha (by kernel_rfl) (run_known (show ((chk y) != (0 : Int)) = true from by rw [hy]; simpa using hr0) (by kernel_rfl)) ?_
  clear ha; intro a ha
  refine wpList_nil ?_
  refine then_normal ?_
  refine wp_true ha rfl (by kernel_rfl) ?_
  refine wp_seq ?_
  refine wp_region_lit ?_
  refine st_val (.int .i64 (chk y)) ha (by kernel_rfl) (by kernel_rfl) ?_
  clear ha; intro a ha
  refine st_val (.slice none 0 0) ha (by kernel_rfl) (by kernel_rfl) ?_
  clear ha; intro a ha
  refine st_val (.int .i64 (chk y)) ha (by kernel_rfl) (by kernel_rfl) ?_
  clear ha; intro a ha
  refine wpList_nil ?_
  refine then_normal ?_
  refine wp_ret ?_
  refine then_ret ?_
  refine block_ret ?_
  refine then_ret ?_
  refine then_ret ?_
  refine block_ret ?_
  refine block_ret ?_
  refine then_ret ?_
  refine then_ret ?_
  refine block_ret ?_
  refine then_ret ?_
  refine ret_with (v := .tuple #[.slice none 0 0, .int .i64 (chk y)]) ha (results_2 rfl ha (res_tmp (by kernel_rfl) (by kernel_rfl)) (res_tmp (by kernel_rfl) (by kernel_rfl))) ?_
  replace s := s.tail.tail.tail.tail
  replace s : St W (L) w := s
  exact ⟨by rw [hy], s⟩

theorem join_lim (W : World) (L : List Chunk) (w : World) (A : Option Addr) (n ca : Nat) (h : 1000 < n) (s : St W L w) :
    Calls Try.prog 10 #[.slice A n ca] w fun e w' => e = .returned (.tuple #[.slice none 0 0, .int .i64 5]) ∧ St W L w' := by
  refine enter_args (l := [.slice A n ca]) Try.func10 rfl rfl (Nat.le_of_ble_eq_true rfl) ?_
  intro a ha; replace ha : Has a 8 [(0, .slice A n ca)] := ha
  refine wp_seq ?_
  refine wp_region_lit ?_
  refine st_val (.slice none 0 0) ha (by kernel_rfl) (by kernel_rfl) ?_
  clear ha; intro a ha
  refine st_val (.int .i64 0) ha (by kernel_rfl) (by kernel_rfl) ?_
  clear ha; intro a ha
  refine wpList_nil ?_
  refine then_normal ?_
  refine wp_seq ?_
  refine wp_region_lit ?_
  refine st_val (.slice A n ca) ha (by kernel_rfl) (by kernel_rfl) ?_
  clear ha; intro a ha
  refine st_call ha (by kernel_rfl) (by kernel_rfl) (sweep_limA W _ w A none n 0 ca 0 24 h s) ?_
  rintro _ w ⟨rfl, s⟩
  replace s : St W (L) w := s
  refine ⟨_, rfl, ?_⟩; clear ha; intro a ha
  refine st_val (.slice none 0 0) ha (by kernel_rfl) (by kernel_rfl) ?_
  clear ha; intro a ha
  refine st_val (.int .i64 5) ha (by kernel_rfl) (by kernel_rfl) ?_
  clear ha; intro a ha
  refine st_val (.slice none 0 0) ha (by kernel_rfl) (by kernel_rfl) ?_
  clear ha; intro a ha
  refine st_val (.int .i64 5) ha (by kernel_rfl) (by kernel_rfl) ?_
  clear ha; intro a ha
  refine wpList_nil ?_
  refine then_normal ?_
  refine wp_ret ?_
  refine ret_with (v := .tuple #[.slice none 0 0, .int .i64 5]) ha (results_2 rfl ha (res_tmp (by kernel_rfl) (by kernel_rfl)) (res_tmp (by kernel_rfl) (by kernel_rfl))) ?_
  exact ⟨rfl, s⟩

theorem both_limB (W : World) (L : List Chunk) (w : World) (A B : Option Addr) (n m ca cb : Nat) (hn : n ≤ 1000) (h : 1000 < m) (s : St W L w) :
    Calls Try.prog 12 #[.slice A n ca, .slice B m cb] w fun e w' => e = .returned (.tuple #[.slice none 0 0, .int .i64 5]) ∧ St W L w' := by
  refine enter_args (l := [.slice A n ca, .slice B m cb]) Try.func12 rfl rfl (Nat.le_of_ble_eq_true rfl) ?_
  intro a ha; replace ha : Has a 11 [(0, .slice A n ca), (1, .slice B m cb)] := ha
  refine wp_seq ?_
  refine wp_region_lit ?_
  refine st_val (.slice none 0 0) ha (by kernel_rfl) (by kernel_rfl) ?_
  clear ha; intro a ha
  refine st_val (.int .i64 0) ha (by kernel_rfl) (by kernel_rfl) ?_
  clear ha; intro a ha
  refine wpList_nil ?_
  refine then_normal ?_
  refine wp_seq ?_
  refine wp_region_lit ?_
  refine st_val (.slice A n ca) ha (by kernel_rfl) (by kernel_rfl) ?_
  clear ha; intro a ha
  refine st_val (.slice B m cb) ha (by kernel_rfl) (by kernel_rfl) ?_
  clear ha; intro a ha
  refine st_call ha (by kernel_rfl) (by kernel_rfl) (sweep_limB W _ w A B n m ca cb 25 hn h s) ?_
  rintro _ w ⟨rfl, s⟩
  replace s : St W (L) w := s
  refine ⟨_, rfl, ?_⟩; clear ha; intro a ha
  refine st_val (.slice none 0 0) ha (by kernel_rfl) (by kernel_rfl) ?_
  clear ha; intro a ha
  refine st_val (.int .i64 5) ha (by kernel_rfl) (by kernel_rfl) ?_
  clear ha; intro a ha
  refine st_val (.slice none 0 0) ha (by kernel_rfl) (by kernel_rfl) ?_
  clear ha; intro a ha
  refine st_val (.int .i64 5) ha (by kernel_rfl) (by kernel_rfl) ?_
  clear ha; intro a ha
  refine wpList_nil ?_
  refine then_normal ?_
  refine wp_ret ?_
  refine ret_with (v := .tuple #[.slice none 0 0, .int .i64 5]) ha (results_2 rfl ha (res_tmp (by kernel_rfl) (by kernel_rfl)) (res_tmp (by kernel_rfl) (by kernel_rfl))) ?_
  exact ⟨rfl, s⟩

theorem less_badA (W : World) (L : List Chunk) (w : World) (ad : Addr) (B : Option Addr) (m ca cb : Nat) (x : Span) (r : Int) (hx : chk x = r) (hr0 : r ≠ 0) (hm : m ≤ 1000) (hra : Knows L fun w => Reads w 2 (some ad) 1 (sps [x])) (s : St W L w) :
    Calls Try.prog 13 #[.slice (some ad) 1 ca, .slice B m cb] w fun e w' => e = .returned (.tuple #[.slice none 0 0, .int .i64 r]) ∧ St W L w' := by
  refine enter_args (l := [.slice (some ad) 1 ca, .slice B m cb]) Try.func13 rfl rfl (Nat.le_of_ble_eq_true rfl) ?_
  intro a ha; replace ha : Has a 11 [(0, .slice (some ad) 1 ca), (1, .slice B m cb)] := ha
  refine wp_seq ?_
  refine wp_region_lit ?_
  refine st_val (.slice none 0 0) ha (by kernel_rfl) (by kernel_rfl) ?_
  clear ha; intro a ha
  refine st_val (.int .i64 0) ha (by kernel_rfl) (by kernel_rfl) ?_
  clear ha; intro a ha
  refine wpList_nil ?_
  refine then_normal ?_
  refine wp_seq ?_
  refine wp_region_lit ?_
  refine st_val (.slice (some ad) 1 ca) ha (by kernel_rfl) (by kernel_rfl) ?_
  clear ha; intro a ha
  refine st_val (.slice B m cb) ha (by kernel_rfl) (by kernel_rfl) ?_
  clear ha; intro a ha
  refine st_call ha (by kernel_rfl) (by kernel_rfl) (sweep_badA W _ w ad B m ca cb 26 x r hx hr0 hm hra s) ?_
  rintro _ w ⟨rfl, s⟩
  replace s : St W (L) w := s
  refine ⟨_, rfl, ?_⟩; clear ha; intro a ha
  refine st_val (.slice none 0 0) ha (by kernel_rfl) (by kernel_rfl) ?_
  clear ha; intro a ha
  refine st_val (.int .i64 r) ha (by kernel_rfl) (by kernel_rfl) ?_
  clear ha; intro a ha
  refine st_val (.slice none 0 0) ha (by kernel_rfl) (by kernel_rfl) ?_
  clear ha; intro a ha
  refine st_val (.int .i64 r) ha (by kernel_rfl) (by kernel_rfl) ?_
  clear ha; intro a ha
  refine wpList_nil ?_
  refine then_normal ?_
  refine wp_ret ?_
  refine ret_with (v := .tuple #[.slice none 0 0, .int .i64 r]) ha (results_2 rfl ha (res_tmp (by kernel_rfl) (by kernel_rfl)) (res_tmp (by kernel_rfl) (by kernel_rfl))) ?_
  exact ⟨rfl, s⟩

theorem both_badB (W : World) (L : List Chunk) (w : World) (ad bd : Addr) (ca cb : Nat) (x y : Span) (r : Int) (hx : chk x = 0) (hy : chk y = r) (hr0 : r ≠ 0) (hra : Knows L fun w => Reads w 2 (some ad) 1 (sps [x])) (hrb : Knows L fun w => Reads w 2 (some bd) 1 (sps [y])) (s : St W L w) :
    Calls Try.prog 12 #[.slice (some ad) 1 ca, .slice (some bd) 1 cb] w fun e w' => e = .returned (.tuple #[.slice none 0 0, .int .i64 r]) ∧ St W L w' := by
  refine enter_args (l := [.slice (some ad) 1 ca, .slice (some bd) 1 cb]) Try.func12 rfl rfl (Nat.le_of_ble_eq_true rfl) ?_
  intro a ha; replace ha : Has a 11 [(0, .slice (some ad) 1 ca), (1, .slice (some bd) 1 cb)] := ha
  refine wp_seq ?_
  refine wp_region_lit ?_
  refine st_val (.slice none 0 0) ha (by kernel_rfl) (by kernel_rfl) ?_
  clear ha; intro a ha
  refine st_val (.int .i64 0) ha (by kernel_rfl) (by kernel_rfl) ?_
  clear ha; intro a ha
  refine wpList_nil ?_
  refine then_normal ?_
  refine wp_seq ?_
  refine wp_region_lit ?_
  refine st_val (.slice (some ad) 1 ca) ha (by kernel_rfl) (by kernel_rfl) ?_
  clear ha; intro a ha
  refine st_val (.slice (some bd) 1 cb) ha (by kernel_rfl) (by kernel_rfl) ?_
  clear ha; intro a ha
  refine st_call ha (by kernel_rfl) (by kernel_rfl) (sweep_badB W _ w ad bd ca cb 25 x y r hx hy hr0 hra hrb s) ?_
  rintro _ w ⟨rfl, s⟩
  replace s : St W (L) w := s
  refine ⟨_, rfl, ?_⟩; clear ha; intro a ha
  refine st_val (.slice none 0 0) ha (by kernel_rfl) (by kernel_rfl) ?_
  clear ha; intro a ha
  refine st_val (.int .i64 r) ha (by kernel_rfl) (by kernel_rfl) ?_
  clear ha; intro a ha
  refine st_val (.slice none 0 0) ha (by kernel_rfl) (by kernel_rfl) ?_
  clear ha; intro a ha
  refine st_val (.int .i64 r) ha (by kernel_rfl) (by kernel_rfl) ?_
  clear ha; intro a ha
  refine wpList_nil ?_
  refine then_normal ?_
  refine wp_ret ?_
  refine ret_with (v := .tuple #[.slice none 0 0, .int .i64 r]) ha (results_2 rfl ha (res_tmp (by kernel_rfl) (by kernel_rfl)) (res_tmp (by kernel_rfl) (by kernel_rfl))) ?_
  exact ⟨rfl, s⟩

end Go.Proofs.Ytcnlidaacgcdhaa.B
