import Derived.Test.YtcgnhmdiedfamaaB1
namespace Go.Proofs.Ytcgnhmdiedfamaa.B
open Go.RowKit Go.Proofs.Ytcgnhmdiedfamaa.Sep
set_option linter.unusedVariables false
set_option linter.unusedSimpArgs false

theorem len_to (W : World) (L : List Chunk) (w : World) (g : Nat) (l : List Msg) (n : Nat) (hn : l.length = n) (s : St W (Bag g l :: L) w) :
    Calls Try.prog 20 #[.pointer (some ⟨g, 0, none⟩)] w fun e w' => e = .returned (.int .i64 (n : Int)) ∧ St W (Bag g l :: L) w' := by
  subst hn; exact len_bag W L w g l s
theorem put_to (W : World) (L : List Chunk) (w : World) (g : Nat) (l : List Msg) (f t : Int) (bs : List Int) (A0 : Option Addr) (n0 c0 : Nat) (r : Int) (l' : List Msg) (hn0 : n0 = bs.length) (hc : putCode ⟨f, t, bs⟩ l.length = r) (hl : bput l ⟨f, t, bs⟩ = l') (hr : Knows L fun w => Reads w 1 A0 n0 (u8s bs)) (hn : n0 ≤ 140737488351232) (s : St W (Bag g l :: L) w) :
    Calls Try.prog 18 #[.pointer (some ⟨g, 0, none⟩), .agg #[.int .i64 f, .int .i64 t, .slice A0 n0 c0]] w fun e w' => e = .returned (.int .i64 r) ∧ St W (Bag g l' :: L) w' := by
  subst hc hl; exact put_bag W L w g l ⟨f, t, bs⟩ A0 n0 c0 hn0 hr hn s
theorem look_to (W : World) (L : List Chunk) (w : World) (g : Nat) (l : List Msg) (k : Nat) (f t : Int) (bs : List Int) (n : Nat) (h : l[k]? = some ⟨f, t, bs⟩) (hb : bs.length = n) (ok : OkBag l) (s : St W (Bag g l :: L) w) :
    Calls Try.prog 11 #[.pointer (some ⟨g, 0, none⟩), .int .i64 ((k : Nat) : Int)] w fun e w' => ∃ A c, e = .returned (.tuple #[.agg #[.int .i64 f, .int .i64 t, .slice A n c], .bool true]) ∧ St W (Own 5 1 A n c (u8s bs) :: Bag g l :: L) w' := by
  obtain ⟨hk, e⟩ := List.getElem?_eq_some_iff.1 h
  have := look_bag W L w g l k hk ok s
  rw [e] at this
  subst hb
  exact this
theorem take_to (W : World) (L : List Chunk) (w : World) (g : Nat) (l : List Msg) (k : Nat) (f t : Int) (bs : List Int) (n : Nat) (l' : List Msg) (h : l[k]? = some ⟨f, t, bs⟩) (hb : bs.length = n) (hl : l.eraseIdx k = l') (ok : OkBag l) (s : St W (Bag g l :: L) w) :
    Calls Try.prog 13 #[.pointer (some ⟨g, 0, none⟩), .int .i64 ((k : Nat) : Int)] w fun e w' => ∃ A c, e = .returned (.tuple #[.agg #[.int .i64 f, .int .i64 t, .slice A n c], .bool true]) ∧ St W (Own 5 1 A n c (u8s bs) :: Bag g l' :: L) w' := by
  obtain ⟨hk, e⟩ := List.getElem?_eq_some_iff.1 h
  have := take_bag W L w g l k hk ok s
  rw [e] at this
  subst hl hb
  exact this
theorem double_to (W : World) (L : List Chunk) (w : World) (g : Nat) (l : List Msg) (k : Nat) (m : Msg) (r : Int) (l' : List Msg) (h : l[k]? = some m) (hc : putCode m l.length = r) (hl : bput l m = l') (ok : OkBag l) (s : St W (Bag g l :: L) w) :
    Calls Try.prog 15 #[.pointer (some ⟨g, 0, none⟩), .int .i64 ((k : Nat) : Int)] w fun e w' => e = .returned (.int .i64 r) ∧ St W (Bag g l' :: L) w' := by
  obtain ⟨hk, rfl⟩ := List.getElem?_eq_some_iff.1 h
  subst hc hl
  exact double_bag W L w g l k hk ok s

theorem rlen_to (W : World) (L : List Chunk) (w : World) (g : Nat) (l : List Msg) (n : Nat) (hn : l.length = n) (s : St W (RBag g l :: L) w) :
    Calls Try.prog 21 #[.pointer (some ⟨g, 0, none⟩)] w fun e w' => e = .returned (.int .i64 (n : Int)) ∧ St W (RBag g l :: L) w' := by
  subst hn; exact rlen_bag W L w g l s
theorem rput_to (W : World) (L : List Chunk) (w : World) (g : Nat) (l : List Msg) (f t : Int) (bs : List Int) (A0 : Option Addr) (n0 c0 : Nat) (r : Int) (l' : List Msg) (hn0 : n0 = bs.length) (hc : putCode ⟨f, t, bs⟩ l.length = r) (hl : bput l ⟨f, t, bs⟩ = l') (hr : Knows L fun w => Reads w 1 A0 n0 (u8s bs)) (hn : n0 ≤ 140737488351232) (s : St W (RBag g l :: L) w) :
    Calls Try.prog 17 #[.pointer (some ⟨g, 0, none⟩), .agg #[.int .i64 f, .int .i64 t, .slice A0 n0 c0]] w fun e w' => e = .returned (.int .i64 r) ∧ St W (RBag g l' :: L) w' := by
  subst hc hl; exact rput_bag W L w g l ⟨f, t, bs⟩ A0 n0 c0 hn0 hr hn s
theorem rlook_to (W : World) (L : List Chunk) (w : World) (g : Nat) (l : List Msg) (k : Nat) (f t : Int) (bs : List Int) (n : Nat) (h : l[k]? = some ⟨f, t, bs⟩) (hb : bs.length = n) (ok : OkBag l) (s : St W (RBag g l :: L) w) :
    Calls Try.prog 12 #[.pointer (some ⟨g, 0, none⟩), .int .i64 ((k : Nat) : Int)] w fun e w' => ∃ A c, e = .returned (.tuple #[.agg #[.int .i64 f, .int .i64 t, .slice A n c], .bool true]) ∧ St W (Own 5 1 A n c (u8s bs) :: RBag g l :: L) w' := by
  obtain ⟨hk, e⟩ := List.getElem?_eq_some_iff.1 h
  have := rlook_bag W L w g l k hk ok s
  rw [e] at this
  subst hb
  exact this
theorem rtake_to (W : World) (L : List Chunk) (w : World) (g : Nat) (l : List Msg) (k : Nat) (f t : Int) (bs : List Int) (n : Nat) (l' : List Msg) (h : l[k]? = some ⟨f, t, bs⟩) (hb : bs.length = n) (hl : l.eraseIdx k = l') (ok : OkBag l) (s : St W (RBag g l :: L) w) :
    Calls Try.prog 14 #[.pointer (some ⟨g, 0, none⟩), .int .i64 ((k : Nat) : Int)] w fun e w' => ∃ A c, e = .returned (.tuple #[.agg #[.int .i64 f, .int .i64 t, .slice A n c], .bool true]) ∧ St W (Own 5 1 A n c (u8s bs) :: RBag g l' :: L) w' := by
  obtain ⟨hk, e⟩ := List.getElem?_eq_some_iff.1 h
  have := rtake_bag W L w g l k hk ok s
  rw [e] at this
  subst hl hb
  exact this
theorem rdouble_to (W : World) (L : List Chunk) (w : World) (g : Nat) (l : List Msg) (k : Nat) (m : Msg) (r : Int) (l' : List Msg) (h : l[k]? = some m) (hc : putCode m l.length = r) (hl : bput l m = l') (ok : OkBag l) (s : St W (RBag g l :: L) w) :
    Calls Try.prog 16 #[.pointer (some ⟨g, 0, none⟩), .int .i64 ((k : Nat) : Int)] w fun e w' => e = .returned (.int .i64 r) ∧ St W (RBag g l' :: L) w' := by
  obtain ⟨hk, rfl⟩ := List.getElem?_eq_some_iff.1 h
  subst hc hl
  exact rdouble_bag W L w g l k hk ok s

theorem ok_small {l : List Msg} (h : (l.all fun m => Nat.ble m.b.length 65536) = true) (h2 : Nat.ble l.length 2048 = true) : OkBag l :=
  ⟨fun m hm => Nat.le_of_ble_eq_true (List.all_eq_true.1 h m hm), Nat.le_of_ble_eq_true h2⟩
theorem same_to (W : World) (L : List Chunk) (w : World) (f1 t1 f2 t2 : Int) (A B : Option Addr) (c d n m : Nat) (xs ys : List Int) (r : Bool) (hn : n = xs.length) (hm : m = ys.length) (hr1 : Knows L fun w => Reads w 1 A n (u8s xs)) (hr2 : Knows L fun w => Reads w 1 B m (u8s ys)) (hx : n ≤ 140737488351232) (hres : decide (f1 = f2 ∧ t1 = t2 ∧ xs = ys) = r) (s : St W L w) :
    Calls Try.prog 19 #[.agg #[.int .i64 f1, .int .i64 t1, .slice A n c], .agg #[.int .i64 f2, .int .i64 t2, .slice B m d]] w fun e w' => e = .returned (.bool r) ∧ St W L w' := by
  subst hres hn hm; exact same_any W L w f1 t1 f2 t2 A B c d _ _ xs ys rfl rfl hr1 hr2 hx s
theorem is_to (W : World) (L : List Chunk) (w : World) (f1 t1 f2 t2 : Int) (A B : Option Addr) (c d n m : Nat) (xs ys : List Int) (r : Bool) (hn : n = xs.length) (hm : m = ys.length) (hr1 : Knows L fun w => Reads w 1 A n (u8s xs)) (hr2 : Knows L fun w => Reads w 1 B m (u8s ys)) (hx : n ≤ 140737488351232) (hres : decide (f1 = f2 ∧ t1 = t2 ∧ xs = ys) = r) (s : St W L w) :
    Calls Try.prog 26 #[.agg #[.int .i64 f1, .int .i64 t1, .slice A n c], .bool true, .agg #[.int .i64 f2, .int .i64 t2, .slice B m d]] w fun e w' => e = .returned (.bool r) ∧ St W L w' := by
  subst hres hn hm; exact is_true W L w f1 t1 f2 t2 A B c d _ _ xs ys rfl rfl hr1 hr2 hx s

theorem works_true (W : World) (L : List Chunk) (w : World) (s : St W L w) :
    Calls Try.prog 23 #[] w fun e w' => e = .returned (.bool true) ∧ St W L w' := by
  refine enter_args (l := []) Try.func23 rfl rfl (Nat.le_of_ble_eq_true rfl) ?_
  intro a ha; replace ha : Has a 99 [] := ha
  refine wp_seq ?_
  refine wp_region_lit ?_
  refine st_val (.bool false) ha (by kernel_rfl) (by kernel_rfl) ?_
  clear ha; intro a ha
  refine wpList_nil ?_
  refine then_normal ?_
  refine wp_seq ?_
  refine wp_region_lit ?_
  refine st_call ha (by kernel_rfl) (by kernel_rfl) (new_bag W _ w s) ?_
  rintro _ w ⟨g1, rfl, s⟩
  replace s : St W (Bag g1 [] :: L) w := s
  refine ⟨_, rfl, ?_⟩; clear ha; intro a ha
  refine st_val (.pointer (some ⟨g1, 0, none⟩)) ha (by kernel_rfl) (by kernel_rfl) ?_
  clear ha; intro a ha
  refine wpList_nil ?_
  refine then_normal ?_
  refine wp_seq ?_
  refine wp_region_lit ?_
  refine st_val (.pointer (some ⟨g1, 0, none⟩)) ha (by kernel_rfl) (by kernel_rfl) ?_
  clear ha; intro a ha
  refine st_call ha (by kernel_rfl) (by kernel_rfl) (mail_any W _ w 1 2 120 s) ?_
  rintro _ w ⟨A2, c3, rfl, s⟩
  replace s : St W (Own 5 1 A2 1 c3 (u8s [120]) :: Bag g1 [] :: L) w := s
  refine ⟨_, rfl, ?_⟩; clear ha; intro a ha
  replace s := s.at_ (j := 1) rfl
  replace s : St W (Bag g1 [] :: Own 5 1 A2 1 c3 (u8s [120]) :: L) w := s
  refine st_call ha (by kernel_rfl) (by kernel_rfl) (put_to W _ w g1 [] 1 2 [120] A2 1 c3 0 [⟨1, 2, [120]⟩] rfl (by kernel_rfl) (by kernel_rfl) (Knows.own (j := 0) rfl) (by omega) s) ?_
  rintro _ w ⟨rfl, s⟩
  replace s : St W (Bag g1 [⟨1, 2, [120]⟩] :: Own 5 1 A2 1 c3 (u8s [120]) :: L) w := s
  refine ⟨_, rfl, ?_⟩; clear ha; intro a ha
  refine st_val (.bool true) ha (by kernel_rfl) (by kernel_rfl) ?_
  clear ha; intro a ha
  refine st_val (.bool true) ha (by kernel_rfl) (by kernel_rfl) ?_
  clear ha; intro a ha
  refine st_val (.pointer (some ⟨g1, 0, none⟩)) ha (by kernel_rfl) (by kernel_rfl) ?_
  clear ha; intro a ha
  refine st_call ha (by kernel_rfl) (by kernel_rfl) (mail_any W _ w 2 1 121 s) ?_
  rintro _ w ⟨A4, c5, rfl, s⟩
  replace s : St W (Own 5 1 A4 1 c5 (u8s [121]) :: Bag g1 [⟨1, 2, [120]⟩] :: Own 5 1 A2 1 c3 (u8s [120]) :: L) w := s
  refine ⟨_, rfl, ?_⟩; clear ha; intro a ha
  replace s := s.at_ (j := 1) rfl
  replace s : St W (Bag g1 [⟨1, 2, [120]⟩] :: Own 5 1 A4 1 c5 (u8s [121]) :: Own 5 1 A2 1 c3 (u8s [120]) :: L) w := s
  refine st_call ha (by kernel_rfl) (by kernel_rfl) (put_to W _ w g1 [⟨1, 2, [120]⟩] 2 1 [121] A4 1 c5 0 [⟨1, 2, [120]⟩, ⟨2, 1, [121]⟩] rfl (by kernel_rfl) (by kernel_rfl) (Knows.own (j := 0) rfl) (by omega) s) ?_
  rintro _ w ⟨rfl, s⟩
  replace s : St W (Bag g1 [⟨1, 2, [120]⟩, ⟨2, 1, [121]⟩] :: Own 5 1 A4 1 c5 (u8s [121]) :: Own 5 1 A2 1 c3 (u8s [120]) :: L) w := s
  refine ⟨_, rfl, ?_⟩; clear ha; intro a ha
  refine st_val (.bool true) ha (by kernel_rfl) (by kernel_rfl) ?_
  clear ha; intro a ha
  refine st_val (.bool true) ha (by kernel_rfl) (by kernel_rfl) ?_
  clear ha; intro a ha
  refine st_val (.bool true) ha (by kernel_rfl) (by kernel_rfl) ?_
  clear ha; intro a ha
  refine st_val (.pointer (some ⟨g1, 0, none⟩)) ha (by kernel_rfl) (by kernel_rfl) ?_
  clear ha; intro a ha
  refine st_call ha (by kernel_rfl) (by kernel_rfl) (mail_any W _ w 0 1 122 s) ?_
  rintro _ w ⟨A6, c7, rfl, s⟩
  replace s : St W (Own 5 1 A6 1 c7 (u8s [122]) :: Bag g1 [⟨1, 2, [120]⟩, ⟨2, 1, [121]⟩] :: Own 5 1 A4 1 c5 (u8s [121]) :: Own 5 1 A2 1 c3 (u8s [120]) :: L) w := s
  refine ⟨_, rfl, ?_⟩; clear ha; intro a ha
  replace s := s.at_ (j := 1) rfl
  replace s : St W (Bag g1 [⟨1, 2, [120]⟩, ⟨2, 1, [121]⟩] :: Own 5 1 A6 1 c7 (u8s [122]) :: Own 5 1 A4 1 c5 (u8s [121]) :: Own 5 1 A2 1 c3 (u8s [120]) :: L) w := s
  refine st_call ha (by kernel_rfl) (by kernel_rfl) (put_to W _ w g1 [⟨1, 2, [120]⟩, ⟨2, 1, [121]⟩] 0 1 [122] A6 1 c7 2 [⟨1, 2, [120]⟩, ⟨2, 1, [121]⟩] rfl (by kernel_rfl) (by kernel_rfl) (Knows.own (j := 0) rfl) (by omega) s) ?_
  rintro _ w ⟨rfl, s⟩
  replace s : St W (Bag g1 [⟨1, 2, [120]⟩, ⟨2, 1, [121]⟩] :: Own 5 1 A6 1 c7 (u8s [122]) :: Own 5 1 A4 1 c5 (u8s [121]) :: Own 5 1 A2 1 c3 (u8s [120]) :: L) w := s
  refine ⟨_, rfl, ?_⟩; clear ha; intro a ha
  refine st_val (.bool true) ha (by kernel_rfl) (by kernel_rfl) ?_
  clear ha; intro a ha
  refine st_val (.bool true) ha (by kernel_rfl) (by kernel_rfl) ?_
  clear ha; intro a ha
  refine st_val (.bool true) ha (by kernel_rfl) (by kernel_rfl) ?_
  clear ha; intro a ha
  refine st_val (.pointer (some ⟨g1, 0, none⟩)) ha (by kernel_rfl) (by kernel_rfl) ?_
  clear ha; intro a ha
  refine st_call ha (by kernel_rfl) (by kernel_rfl) (mail_any W _ w 1 5 122 s) ?_
  rintro _ w ⟨A8, c9, rfl, s⟩
  replace s : St W (Own 5 1 A8 1 c9 (u8s [122]) :: Bag g1 [⟨1, 2, [120]⟩, ⟨2, 1, [121]⟩] :: Own 5 1 A6 1 c7 (u8s [122]) :: Own 5 1 A4 1 c5 (u8s [121]) :: Own 5 1 A2 1 c3 (u8s [120]) :: L) w := s
  refine ⟨_, rfl, ?_⟩; clear ha; intro a ha
  replace s := s.at_ (j := 1) rfl
  replace s : St W (Bag g1 [⟨1, 2, [120]⟩, ⟨2, 1, [121]⟩] :: Own 5 1 A8 1 c9 (u8s [122]) :: Own 5 1 A6 1 c7 (u8s [122]) :: Own 5 1 A4 1 c5 (u8s [121]) :: Own 5 1 A2 1 c3 (u8s [120]) :: L) w := s
  refine st_call ha (by kernel_rfl) (by kernel_rfl) (put_to W _ w g1 [⟨1, 2, [120]⟩, ⟨2, 1, [121]⟩] 1 5 [122] A8 1 c9 2 [⟨1, 2, [120]⟩, ⟨2, 1, [121]⟩] rfl (by kernel_rfl) (by kernel_rfl) (Knows.own (j := 0) rfl) (by omega) s) ?_
  rintro _ w ⟨rfl, s⟩
  replace s : St W (Bag g1 [⟨1, 2, [120]⟩, ⟨2, 1, [121]⟩] :: Own 5 1 A8 1 c9 (u8s [122]) :: Own 5 1 A6 1 c7 (u8s [122]) :: Own 5 1 A4 1 c5 (u8s [121]) :: Own 5 1 A2 1 c3 (u8s [120]) :: L) w := s
  refine ⟨_, rfl, ?_⟩; clear ha; intro a ha
  refine st_val (.bool true) ha (by kernel_rfl) (by kernel_rfl) ?_
  clear ha; intro a ha
  refine st_val (.bool true) ha (by kernel_rfl) (by kernel_rfl) ?_
  clear ha; intro a ha
  refine st_val (.bool true) ha (by kernel_rfl) (by kernel_rfl) ?_
  clear ha; intro a ha
  refine st_val (.pointer (some ⟨g1, 0, none⟩)) ha (by kernel_rfl) (by kernel_rfl) ?_
  clear ha; intro a ha
  refine st_call ha (by kernel_rfl) (by kernel_rfl) (len_to W _ w g1 [⟨1, 2, [120]⟩, ⟨2, 1, [121]⟩] 2 rfl s) ?_
  rintro _ w ⟨rfl, s⟩
  replace s : St W (Bag g1 [⟨1, 2, [120]⟩, ⟨2, 1, [121]⟩] :: Own 5 1 A8 1 c9 (u8s [122]) :: Own 5 1 A6 1 c7 (u8s [122]) :: Own 5 1 A4 1 c5 (u8s [121]) :: Own 5 1 A2 1 c3 (u8s [120]) :: L) w := s
  refine ⟨_, rfl, ?_⟩; clear ha; intro a ha
  refine st_val (.bool true) ha (by kernel_rfl) (by kernel_rfl) ?_
  clear ha; intro a ha
  refine st_val (.bool true) ha (by kernel_rfl) (by kernel_rfl) ?_
  clear ha; intro a ha
  refine st_val (.bool true) ha (by kernel_rfl) (by kernel_rfl) ?_
  clear ha; intro a ha
  refine wpList_nil ?_
  refine then_normal ?_
  refine wp_seq ?_
  refine wp_region_lit ?_
  refine st_val (.pointer (some ⟨g1, 0, none⟩)) ha (by kernel_rfl) (by kernel_rfl) ?_
  clear ha; intro a ha
  refine st_call ha (by kernel_rfl) (by kernel_rfl) (double_to W _ w g1 [⟨1, 2, [120]⟩, ⟨2, 1, [121]⟩] 0 ⟨1, 2, [120]⟩ 0 [⟨1, 2, [120]⟩, ⟨2, 1, [121]⟩, ⟨1, 2, [120]⟩] rfl (by kernel_rfl) (by kernel_rfl) (ok_small rfl rfl) s) ?_
  rintro _ w ⟨rfl, s⟩
  replace s : St W (Bag g1 [⟨1, 2, [120]⟩, ⟨2, 1, [121]⟩, ⟨1, 2, [120]⟩] :: Own 5 1 A8 1 c9 (u8s [122]) :: Own 5 1 A6 1 c7 (u8s [122]) :: Own 5 1 A4 1 c5 (u8s [121]) :: Own 5 1 A2 1 c3 (u8s [120]) :: L) w := s
  refine ⟨_, rfl, ?_⟩; clear ha; intro a ha
  refine st_val (.bool true) ha (by kernel_rfl) (by kernel_rfl) ?_
  clear ha; intro a ha
  refine st_val (.bool true) ha (by kernel_rfl) (by kernel_rfl) ?_
  clear ha; intro a ha
  refine st_val (.pointer (some ⟨g1, 0, none⟩)) ha (by kernel_rfl) (by kernel_rfl) ?_
  clear ha; intro a ha
  refine st_call ha (by kernel_rfl) (by kernel_rfl) (double_bag_out W _ w g1 [⟨1, 2, [120]⟩, ⟨2, 1, [121]⟩, ⟨1, 2, [120]⟩] 3 (by simp) s) ?_
  rintro _ w ⟨rfl, s⟩
  replace s : St W (Bag g1 [⟨1, 2, [120]⟩, ⟨2, 1, [121]⟩, ⟨1, 2, [120]⟩] :: Own 5 1 A8 1 c9 (u8s [122]) :: Own 5 1 A6 1 c7 (u8s [122]) :: Own 5 1 A4 1 c5 (u8s [121]) :: Own 5 1 A2 1 c3 (u8s [120]) :: L) w := s
  refine ⟨_, rfl, ?_⟩; clear ha; intro a ha
  refine st_val (.bool true) ha (by kernel_rfl) (by kernel_rfl) ?_
  clear ha; intro a ha
  refine st_val (.bool true) ha (by kernel_rfl) (by kernel_rfl) ?_
  clear ha; intro a ha
  refine st_val (.bool true) ha (by kernel_rfl) (by kernel_rfl) ?_
  clear ha; intro a ha
  refine wpList_nil ?_
  refine then_normal ?_
  refine wp_seq ?_
  refine wp_region_lit ?_
  refine st_val (.pointer (some ⟨g1, 0, none⟩)) ha (by kernel_rfl) (by kernel_rfl) ?_
  clear ha; intro a ha
  refine st_call ha (by kernel_rfl) (by kernel_rfl) (look_to W _ w g1 [⟨1, 2, [120]⟩, ⟨2, 1, [121]⟩, ⟨1, 2, [120]⟩] 2 1 2 [120] 1 rfl rfl (ok_small rfl rfl) s) ?_
  rintro _ w ⟨A10, c11, rfl, s⟩
  replace s : St W (Own 5 1 A10 1 c11 (u8s [120]) :: Bag g1 [⟨1, 2, [120]⟩, ⟨2, 1, [121]⟩, ⟨1, 2, [120]⟩] :: Own 5 1 A8 1 c9 (u8s [122]) :: Own 5 1 A6 1 c7 (u8s [122]) :: Own 5 1 A4 1 c5 (u8s [121]) :: Own 5 1 A2 1 c3 (u8s [120]) :: L) w := s
  refine ⟨_, rfl, ?_⟩; clear ha; intro a ha
  refine st_val (.tuple #[.agg #[.int .i64 1, .int .i64 2, .slice A10 1 c11], .bool true]) ha (by kernel_rfl) (by kernel_rfl) ?_
  clear ha; intro a ha
  refine st_val (.agg #[.int .i64 1, .int .i64 2, .slice A10 1 c11]) ha (by kernel_rfl) (by kernel_rfl) ?_
  clear ha; intro a ha
  refine st_val (.bool true) ha (by kernel_rfl) (by kernel_rfl) ?_
  clear ha; intro a ha
  refine st_ex ha (by kernel_rfl) (ex_alloc [.int .i64 0, .int .i64 0, .slice none 0 0] s rfl (Try.zeroValue29 _) (by kernel_rfl)) ?_
  clear ha; rintro _ w a ⟨g12, rfl, s⟩ ha
  replace s : St W (.blk g12 [.int .i64 0, .int .i64 0, .slice none 0 0] 29 :: Own 5 1 A10 1 c11 (u8s [120]) :: Bag g1 [⟨1, 2, [120]⟩, ⟨2, 1, [121]⟩, ⟨1, 2, [120]⟩] :: Own 5 1 A8 1 c9 (u8s [122]) :: Own 5 1 A6 1 c7 (u8s [122]) :: Own 5 1 A4 1 c5 (u8s [121]) :: Own 5 1 A2 1 c3 (u8s [120]) :: L) w := s
  refine st_exd ha (by kernel_rfl) (ex_store (of_ := 0) 0 [.int .i64 1, .int .i64 2, .slice A10 1 c11] s rfl rfl (by kernel_rfl) (by kernel_rfl) (Try.sizeOf29 _) rfl (by simp [Value.oneCell']) (Nat.le_of_ble_eq_true rfl)) ?_
  clear ha; rintro w a s ha
  replace s : St W (.blk g12 [.int .i64 1, .int .i64 2, .slice A10 1 c11] 29 :: Own 5 1 A10 1 c11 (u8s [120]) :: Bag g1 [⟨1, 2, [120]⟩, ⟨2, 1, [121]⟩, ⟨1, 2, [120]⟩] :: Own 5 1 A8 1 c9 (u8s [122]) :: Own 5 1 A6 1 c7 (u8s [122]) :: Own 5 1 A4 1 c5 (u8s [121]) :: Own 5 1 A2 1 c3 (u8s [120]) :: L) w := s
  refine st_val (.bool true) ha (by kernel_rfl) (by kernel_rfl) ?_
  clear ha; intro a ha
  refine wpList_nil ?_
  refine then_normal ?_
  refine wp_seq ?_
  refine wp_region_lit ?_
  refine st_val (.pointer (some ⟨g1, 0, none⟩)) ha (by kernel_rfl) (by kernel_rfl) ?_
  clear ha; intro a ha
  replace s := s.at_ (j := 2) rfl
  replace s : St W (Bag g1 [⟨1, 2, [120]⟩, ⟨2, 1, [121]⟩, ⟨1, 2, [120]⟩] :: .blk g12 [.int .i64 1, .int .i64 2, .slice A10 1 c11] 29 :: Own 5 1 A10 1 c11 (u8s [120]) :: Own 5 1 A8 1 c9 (u8s [122]) :: Own 5 1 A6 1 c7 (u8s [122]) :: Own 5 1 A4 1 c5 (u8s [121]) :: Own 5 1 A2 1 c3 (u8s [120]) :: L) w := s
  refine st_call ha (by kernel_rfl) (by kernel_rfl) (take_to W _ w g1 [⟨1, 2, [120]⟩, ⟨2, 1, [121]⟩, ⟨1, 2, [120]⟩] 1 2 1 [121] 1 [⟨1, 2, [120]⟩, ⟨1, 2, [120]⟩] rfl rfl rfl (ok_small rfl rfl) s) ?_
  rintro _ w ⟨A13, c14, rfl, s⟩
  replace s : St W (Own 5 1 A13 1 c14 (u8s [121]) :: Bag g1 [⟨1, 2, [120]⟩, ⟨1, 2, [120]⟩] :: .blk g12 [.int .i64 1, .int .i64 2, .slice A10 1 c11] 29 :: Own 5 1 A10 1 c11 (u8s [120]) :: Own 5 1 A8 1 c9 (u8s [122]) :: Own 5 1 A6 1 c7 (u8s [122]) :: Own 5 1 A4 1 c5 (u8s [121]) :: Own 5 1 A2 1 c3 (u8s [120]) :: L) w := s
  refine ⟨_, rfl, ?_⟩; clear ha; intro a ha
  refine st_val (.tuple #[.agg #[.int .i64 2, .int .i64 1, .slice A13 1 c14], .bool true]) ha (by kernel_rfl) (by kernel_rfl) ?_
  clear ha; intro a ha
  refine st_val (.agg #[.int .i64 2, .int .i64 1, .slice A13 1 c14]) ha (by kernel_rfl) (by kernel_rfl) ?_
  clear ha; intro a ha
  refine st_val (.bool true) ha (by kernel_rfl) (by kernel_rfl) ?_
  clear ha; intro a ha
  refine st_ex ha (by kernel_rfl) (ex_alloc [.int .i64 0, .int .i64 0, .slice none 0 0] s rfl (Try.zeroValue29 _) (by kernel_rfl)) ?_
  clear ha; rintro _ w a ⟨g15, rfl, s⟩ ha
  replace s : St W (.blk g15 [.int .i64 0, .int .i64 0, .slice none 0 0] 29 :: Own 5 1 A13 1 c14 (u8s [121]) :: Bag g1 [⟨1, 2, [120]⟩, ⟨1, 2, [120]⟩] :: .blk g12 [.int .i64 1, .int .i64 2, .slice A10 1 c11] 29 :: Own 5 1 A10 1 c11 (u8s [120]) :: Own 5 1 A8 1 c9 (u8s [122]) :: Own 5 1 A6 1 c7 (u8s [122]) :: Own 5 1 A4 1 c5 (u8s [121]) :: Own 5 1 A2 1 c3 (u8s [120]) :: L) w := s
  refine st_exd ha (by kernel_rfl) (ex_store (of_ := 0) 0 [.int .i64 2, .int .i64 1, .slice A13 1 c14] s rfl rfl (by kernel_rfl) (by kernel_rfl) (Try.sizeOf29 _) rfl (by simp [Value.oneCell']) (Nat.le_of_ble_eq_true rfl)) ?_
  clear ha; rintro w a s ha
  replace s : St W (.blk g15 [.int .i64 2, .int .i64 1, .slice A13 1 c14] 29 :: Own 5 1 A13 1 c14 (u8s [121]) :: Bag g1 [⟨1, 2, [120]⟩, ⟨1, 2, [120]⟩] :: .blk g12 [.int .i64 1, .int .i64 2, .slice A10 1 c11] 29 :: Own 5 1 A10 1 c11 (u8s [120]) :: Own 5 1 A8 1 c9 (u8s [122]) :: Own 5 1 A6 1 c7 (u8s [122]) :: Own 5 1 A4 1 c5 (u8s [121]) :: Own 5 1 A2 1 c3 (u8s [120]) :: L) w := s
  refine st_val (.bool true) ha (by kernel_rfl) (by kernel_rfl) ?_
  clear ha; intro a ha
  refine wpList_nil ?_
  refine then_normal ?_
  refine wp_seq ?_
  refine wp_region_lit ?_
  refine st_val (.pointer (some ⟨g1, 0, none⟩)) ha (by kernel_rfl) (by kernel_rfl) ?_
  clear ha; intro a ha
  replace s := s.at_ (j := 2) rfl
  replace s : St W (Bag g1 [⟨1, 2, [120]⟩, ⟨1, 2, [120]⟩] :: .blk g15 [.int .i64 2, .int .i64 1, .slice A13 1 c14] 29 :: Own 5 1 A13 1 c14 (u8s [121]) :: .blk g12 [.int .i64 1, .int .i64 2, .slice A10 1 c11] 29 :: Own 5 1 A10 1 c11 (u8s [120]) :: Own 5 1 A8 1 c9 (u8s [122]) :: Own 5 1 A6 1 c7 (u8s [122]) :: Own 5 1 A4 1 c5 (u8s [121]) :: Own 5 1 A2 1 c3 (u8s [120]) :: L) w := s
  refine st_call ha (by kernel_rfl) (by kernel_rfl) (look_to W _ w g1 [⟨1, 2, [120]⟩, ⟨1, 2, [120]⟩] 1 1 2 [120] 1 rfl rfl (ok_small rfl rfl) s) ?_
  rintro _ w ⟨A16, c17, rfl, s⟩
  replace s : St W (Own 5 1 A16 1 c17 (u8s [120]) :: Bag g1 [⟨1, 2, [120]⟩, ⟨1, 2, [120]⟩] :: .blk g15 [.int .i64 2, .int .i64 1, .slice A13 1 c14] 29 :: Own 5 1 A13 1 c14 (u8s [121]) :: .blk g12 [.int .i64 1, .int .i64 2, .slice A10 1 c11] 29 :: Own 5 1 A10 1 c11 (u8s [120]) :: Own 5 1 A8 1 c9 (u8s [122]) :: Own 5 1 A6 1 c7 (u8s [122]) :: Own 5 1 A4 1 c5 (u8s [121]) :: Own 5 1 A2 1 c3 (u8s [120]) :: L) w := s
  refine ⟨_, rfl, ?_⟩; clear ha; intro a ha
  refine st_val (.tuple #[.agg #[.int .i64 1, .int .i64 2, .slice A16 1 c17], .bool true]) ha (by kernel_rfl) (by kernel_rfl) ?_
  clear ha; intro a ha
  refine st_val (.agg #[.int .i64 1, .int .i64 2, .slice A16 1 c17]) ha (by kernel_rfl) (by kernel_rfl) ?_
  clear ha; intro a ha
  refine st_val (.bool true) ha (by kernel_rfl) (by kernel_rfl) ?_
  clear ha; intro a ha
  refine st_ex ha (by kernel_rfl) (ex_alloc [.int .i64 0, .int .i64 0, .slice none 0 0] s rfl (Try.zeroValue29 _) (by kernel_rfl)) ?_
  clear ha; rintro _ w a ⟨g18, rfl, s⟩ ha
  replace s : St W (.blk g18 [.int .i64 0, .int .i64 0, .slice none 0 0] 29 :: Own 5 1 A16 1 c17 (u8s [120]) :: Bag g1 [⟨1, 2, [120]⟩, ⟨1, 2, [120]⟩] :: .blk g15 [.int .i64 2, .int .i64 1, .slice A13 1 c14] 29 :: Own 5 1 A13 1 c14 (u8s [121]) :: .blk g12 [.int .i64 1, .int .i64 2, .slice A10 1 c11] 29 :: Own 5 1 A10 1 c11 (u8s [120]) :: Own 5 1 A8 1 c9 (u8s [122]) :: Own 5 1 A6 1 c7 (u8s [122]) :: Own 5 1 A4 1 c5 (u8s [121]) :: Own 5 1 A2 1 c3 (u8s [120]) :: L) w := s
  refine st_exd ha (by kernel_rfl) (ex_store (of_ := 0) 0 [.int .i64 1, .int .i64 2, .slice A16 1 c17] s rfl rfl (by kernel_rfl) (by kernel_rfl) (Try.sizeOf29 _) rfl (by simp [Value.oneCell']) (Nat.le_of_ble_eq_true rfl)) ?_
  clear ha; rintro w a s ha
  replace s : St W (.blk g18 [.int .i64 1, .int .i64 2, .slice A16 1 c17] 29 :: Own 5 1 A16 1 c17 (u8s [120]) :: Bag g1 [⟨1, 2, [120]⟩, ⟨1, 2, [120]⟩] :: .blk g15 [.int .i64 2, .int .i64 1, .slice A13 1 c14] 29 :: Own 5 1 A13 1 c14 (u8s [121]) :: .blk g12 [.int .i64 1, .int .i64 2, .slice A10 1 c11] 29 :: Own 5 1 A10 1 c11 (u8s [120]) :: Own 5 1 A8 1 c9 (u8s [122]) :: Own 5 1 A6 1 c7 (u8s [122]) :: Own 5 1 A4 1 c5 (u8s [121]) :: Own 5 1 A2 1 c3 (u8s [120]) :: L) w := s
  refine st_val (.bool true) ha (by kernel_rfl) (by kernel_rfl) ?_
  clear ha; intro a ha
  refine wpList_nil ?_
  refine then_normal ?_
  refine wp_seq ?_
  refine wp_region_lit ?_
  refine st_val (.pointer (some ⟨g1, 0, none⟩)) ha (by kernel_rfl) (by kernel_rfl) ?_
  clear ha; intro a ha
  replace s := s.at_ (j := 2) rfl
  replace s : St W (Bag g1 [⟨1, 2, [120]⟩, ⟨1, 2, [120]⟩] :: .blk g18 [.int .i64 1, .int .i64 2, .slice A16 1 c17] 29 :: Own 5 1 A16 1 c17 (u8s [120]) :: .blk g15 [.int .i64 2, .int .i64 1, .slice A13 1 c14] 29 :: Own 5 1 A13 1 c14 (u8s [121]) :: .blk g12 [.int .i64 1, .int .i64 2, .slice A10 1 c11] 29 :: Own 5 1 A10 1 c11 (u8s [120]) :: Own 5 1 A8 1 c9 (u8s [122]) :: Own 5 1 A6 1 c7 (u8s [122]) :: Own 5 1 A4 1 c5 (u8s [121]) :: Own 5 1 A2 1 c3 (u8s [120]) :: L) w := s
  refine st_call ha (by kernel_rfl) (by kernel_rfl) (take_bag_out W _ w g1 [⟨1, 2, [120]⟩, ⟨1, 2, [120]⟩] 7 (by simp) s) ?_
  rintro _ w ⟨rfl, s⟩
  replace s : St W (Bag g1 [⟨1, 2, [120]⟩, ⟨1, 2, [120]⟩] :: .blk g18 [.int .i64 1, .int .i64 2, .slice A16 1 c17] 29 :: Own 5 1 A16 1 c17 (u8s [120]) :: .blk g15 [.int .i64 2, .int .i64 1, .slice A13 1 c14] 29 :: Own 5 1 A13 1 c14 (u8s [121]) :: .blk g12 [.int .i64 1, .int .i64 2, .slice A10 1 c11] 29 :: Own 5 1 A10 1 c11 (u8s [120]) :: Own 5 1 A8 1 c9 (u8s [122]) :: Own 5 1 A6 1 c7 (u8s [122]) :: Own 5 1 A4 1 c5 (u8s [121]) :: Own 5 1 A2 1 c3 (u8s [120]) :: L) w := s
  refine ⟨_, rfl, ?_⟩; clear ha; intro a ha
  refine st_val (.tuple #[.agg #[.int .i64 0, .int .i64 0, .slice none 0 0], .bool false]) ha (by kernel_rfl) (by kernel_rfl) ?_
  clear ha; intro a ha
  refine st_val (.agg #[.int .i64 0, .int .i64 0, .slice none 0 0]) ha (by kernel_rfl) (by kernel_rfl) ?_
  clear ha; intro a ha
  refine st_val (.bool false) ha (by kernel_rfl) (by kernel_rfl) ?_
  clear ha; intro a ha
  refine st_ex ha (by kernel_rfl) (ex_alloc [.int .i64 0, .int .i64 0, .slice none 0 0] s rfl (Try.zeroValue29 _) (by kernel_rfl)) ?_
  clear ha; rintro _ w a ⟨g19, rfl, s⟩ ha
  replace s : St W (.blk g19 [.int .i64 0, .int .i64 0, .slice none 0 0] 29 :: Bag g1 [⟨1, 2, [120]⟩, ⟨1, 2, [120]⟩] :: .blk g18 [.int .i64 1, .int .i64 2, .slice A16 1 c17] 29 :: Own 5 1 A16 1 c17 (u8s [120]) :: .blk g15 [.int .i64 2, .int .i64 1, .slice A13 1 c14] 29 :: Own 5 1 A13 1 c14 (u8s [121]) :: .blk g12 [.int .i64 1, .int .i64 2, .slice A10 1 c11] 29 :: Own 5 1 A10 1 c11 (u8s [120]) :: Own 5 1 A8 1 c9 (u8s [122]) :: Own 5 1 A6 1 c7 (u8s [122]) :: Own 5 1 A4 1 c5 (u8s [121]) :: Own 5 1 A2 1 c3 (u8s [120]) :: L) w := s
  refine st_exd ha (by kernel_rfl) (ex_store (of_ := 0) 0 [.int .i64 0, .int .i64 0, .slice none 0 0] s rfl rfl (by kernel_rfl) (by kernel_rfl) (Try.sizeOf29 _) rfl (by simp [Value.oneCell']) (Nat.le_of_ble_eq_true rfl)) ?_
  clear ha; rintro w a s ha
  replace s : St W (.blk g19 [.int .i64 0, .int .i64 0, .slice none 0 0] 29 :: Bag g1 [⟨1, 2, [120]⟩, ⟨1, 2, [120]⟩] :: .blk g18 [.int .i64 1, .int .i64 2, .slice A16 1 c17] 29 :: Own 5 1 A16 1 c17 (u8s [120]) :: .blk g15 [.int .i64 2, .int .i64 1, .slice A13 1 c14] 29 :: Own 5 1 A13 1 c14 (u8s [121]) :: .blk g12 [.int .i64 1, .int .i64 2, .slice A10 1 c11] 29 :: Own 5 1 A10 1 c11 (u8s [120]) :: Own 5 1 A8 1 c9 (u8s [122]) :: Own 5 1 A6 1 c7 (u8s [122]) :: Own 5 1 A4 1 c5 (u8s [121]) :: Own 5 1 A2 1 c3 (u8s [120]) :: L) w := s
  refine st_val (.bool false) ha (by kernel_rfl) (by kernel_rfl) ?_
  clear ha; intro a ha
  refine wpList_nil ?_
  refine then_normal ?_
  refine wp_seq ?_
  refine wp_region_head 20 (fun w => BlkIs g12 [.int .i64 1, .int .i64 2, .slice A10 1 c11] w ∧ BlkIs g15 [.int .i64 2, .int .i64 1, .slice A13 1 c14] w ∧ BlkIs g18 [.int .i64 1, .int .i64 2, .slice A16 1 c17] w ∧ True) (by kernel_rfl) (by decide) ?_
  replace s := s.drew; generalize _root_.Go.World.drew _ = w at s ⊢
  have hS : (fun w => BlkIs g12 [.int .i64 1, .int .i64 2, .slice A10 1 c11] w ∧ BlkIs g15 [.int .i64 2, .int .i64 1, .slice A13 1 c14] w ∧ BlkIs g18 [.int .i64 1, .int .i64 2, .slice A16 1 c17] w ∧ True) w := ⟨s.blkIs 6 rfl, s.blkIs 4 rfl, s.blkIs 2 rfl, trivial⟩
  refine hd_val (i := 0) (.bool true) ha rfl (by kernel_rfl) (fun _ _ _ h => h) (by kernel_rfl) (fun w hS => (by kernel_rfl)) hS ?_
  clear ha; intro a ha
  refine hd_val (i := 1) (.bool true) ha rfl (by kernel_rfl) (fun _ _ _ h => h) (by kernel_rfl) (fun w hS => (by kernel_rfl)) hS ?_
  clear ha; intro a ha
  refine hd_val (i := 2) (.bool true) ha rfl (by kernel_rfl) (fun _ _ _ h => h) (by kernel_rfl) (fun w hS => (by kernel_rfl)) hS ?_
  clear ha; intro a ha
  refine hd_val (i := 3) (.bool true) ha rfl (by kernel_rfl) (fun _ _ _ h => h) (by kernel_rfl) (fun w hS => (by kernel_rfl)) hS ?_
  clear ha; intro a ha
  refine hd_val (i := 4) (.bool true) ha rfl (by kernel_rfl) (fun _ _ _ h => h) (by kernel_rfl) (fun w hS => (by kernel_rfl)) hS ?_
  clear ha; intro a ha
  refine hd_val (i := 5) (.agg #[.int .i64 1, .int .i64 2, .slice A10 1 c11]) ha rfl (by kernel_rfl) (fun _ _ _ h => h) (by kernel_rfl) (fun w hS => run_loadN (of_ := 0) [.int .i64 1, .int .i64 2, .slice A10 1 c11] hS.1 rfl (by kernel_rfl) Try.isAgg29 Try.sizeOf29 rfl (Nat.le_of_ble_eq_true rfl)) hS ?_
  clear ha; intro a ha
  refine hd_val (i := 6) (.bool true) ha rfl (by kernel_rfl) (fun _ _ _ h => h) (by kernel_rfl) (fun w hS => (by kernel_rfl)) hS ?_
  clear ha; intro a ha
  refine hd_call (i := 7) ha rfl (by kernel_rfl) (by kernel_rfl) (by kernel_rfl) (mail_any W _ w 1 2 120 s) ?_
  clear hS; rintro _ w ⟨A20, c21, rfl, s⟩
  replace s : St W (Own 5 1 A20 1 c21 (u8s [120]) :: .blk g19 [.int .i64 0, .int .i64 0, .slice none 0 0] 29 :: Bag g1 [⟨1, 2, [120]⟩, ⟨1, 2, [120]⟩] :: .blk g18 [.int .i64 1, .int .i64 2, .slice A16 1 c17] 29 :: Own 5 1 A16 1 c17 (u8s [120]) :: .blk g15 [.int .i64 2, .int .i64 1, .slice A13 1 c14] 29 :: Own 5 1 A13 1 c14 (u8s [121]) :: .blk g12 [.int .i64 1, .int .i64 2, .slice A10 1 c11] 29 :: Own 5 1 A10 1 c11 (u8s [120]) :: Own 5 1 A8 1 c9 (u8s [122]) :: Own 5 1 A6 1 c7 (u8s [122]) :: Own 5 1 A4 1 c5 (u8s [121]) :: Own 5 1 A2 1 c3 (u8s [120]) :: L) w := s
  have hS : (fun w => BlkIs g12 [.int .i64 1, .int .i64 2, .slice A10 1 c11] w ∧ BlkIs g15 [.int .i64 2, .int .i64 1, .slice A13 1 c14] w ∧ BlkIs g18 [.int .i64 1, .int .i64 2, .slice A16 1 c17] w ∧ True) w := ⟨s.blkIs 7 rfl, s.blkIs 5 rfl, s.blkIs 3 rfl, trivial⟩
  refine ⟨_, rfl, hS, ?_⟩; clear ha; intro a ha
  refine hd_call (i := 8) ha rfl (by kernel_rfl) (by kernel_rfl) (by kernel_rfl) (is_to W _ w 1 2 1 2 A10 A20 c11 c21 1 1 [120] [120] true rfl rfl (Knows.own (j := 8) rfl) (Knows.own (j := 0) rfl) (by omega) (by kernel_rfl) s) ?_
  clear hS; rintro _ w ⟨rfl, s⟩
  replace s : St W (Own 5 1 A20 1 c21 (u8s [120]) :: .blk g19 [.int .i64 0, .int .i64 0, .slice none 0 0] 29 :: Bag g1 [⟨1, 2, [120]⟩, ⟨1, 2, [120]⟩] :: .blk g18 [.int .i64 1, .int .i64 2, .slice A16 1 c17] 29 :: Own 5 1 A16 1 c17 (u8s [120]) :: .blk g15 [.int .i64 2, .int .i64 1, .slice A13 1 c14] 29 :: Own 5 1 A13 1 c14 (u8s [121]) :: .blk g12 [.int .i64 1, .int .i64 2, .slice A10 1 c11] 29 :: Own 5 1 A10 1 c11 (u8s [120]) :: Own 5 1 A8 1 c9 (u8s [122]) :: Own 5 1 A6 1 c7 (u8s [122]) :: Own 5 1 A4 1 c5 (u8s [121]) :: Own 5 1 A2 1 c3 (u8s [120]) :: L) w := s
  have hS : (fun w => BlkIs g12 [.int .i64 1, .int .i64 2, .slice A10 1 c11] w ∧ BlkIs g15 [.int .i64 2, .int .i64 1, .slice A13 1 c14] w ∧ BlkIs g18 [.int .i64 1, .int .i64 2, .slice A16 1 c17] w ∧ True) w := ⟨s.blkIs 7 rfl, s.blkIs 5 rfl, s.blkIs 3 rfl, trivial⟩
  refine ⟨_, rfl, hS, ?_⟩; clear ha; intro a ha
  refine hd_val (i := 9) (.bool true) ha rfl (by kernel_rfl) (fun _ _ _ h => h) (by kernel_rfl) (fun w hS => (by kernel_rfl)) hS ?_
  clear ha; intro a ha
  refine hd_val (i := 10) (.bool true) ha rfl (by kernel_rfl) (fun _ _ _ h => h) (by kernel_rfl) (fun w hS => (by kernel_rfl)) hS ?_
  clear ha; intro a ha
  refine hd_val (i := 11) (.agg #[.int .i64 2, .int .i64 1, .slice A13 1 c14]) ha rfl (by kernel_rfl) (fun _ _ _ h => h) (by kernel_rfl) (fun w hS => run_loadN (of_ := 0) [.int .i64 2, .int .i64 1, .slice A13 1 c14] hS.2.1 rfl (by kernel_rfl) Try.isAgg29 Try.sizeOf29 rfl (Nat.le_of_ble_eq_true rfl)) hS ?_
  clear ha; intro a ha
  refine hd_val (i := 12) (.bool true) ha rfl (by kernel_rfl) (fun _ _ _ h => h) (by kernel_rfl) (fun w hS => (by kernel_rfl)) hS ?_
  clear ha; intro a ha
  refine hd_call (i := 13) ha rfl (by kernel_rfl) (by kernel_rfl) (by kernel_rfl) (mail_any W _ w 2 1 121 s) ?_
  clear hS; rintro _ w ⟨A22, c23, rfl, s⟩
  replace s : St W (Own 5 1 A22 1 c23 (u8s [121]) :: Own 5 1 A20 1 c21 (u8s [120]) :: .blk g19 [.int .i64 0, .int .i64 0, .slice none 0 0] 29 :: Bag g1 [⟨1, 2, [120]⟩, ⟨1, 2, [120]⟩] :: .blk g18 [.int .i64 1, .int .i64 2, .slice A16 1 c17] 29 :: Own 5 1 A16 1 c17 (u8s [120]) :: .blk g15 [.int .i64 2, .int .i64 1, .slice A13 1 c14] 29 :: Own 5 1 A13 1 c14 (u8s [121]) :: .blk g12 [.int .i64 1, .int .i64 2, .slice A10 1 c11] 29 :: Own 5 1 A10 1 c11 (u8s [120]) :: Own 5 1 A8 1 c9 (u8s [122]) :: Own 5 1 A6 1 c7 (u8s [122]) :: Own 5 1 A4 1 c5 (u8s [121]) :: Own 5 1 A2 1 c3 (u8s [120]) :: L) w := s
  have hS : (fun w => BlkIs g12 [.int .i64 1, .int .i64 2, .slice A10 1 c11] w ∧ BlkIs g15 [.int .i64 2, .int .i64 1, .slice A13 1 c14] w ∧ BlkIs g18 [.int .i64 1, .int .i64 2, .slice A16 1 c17] w ∧ True) w := ⟨s.blkIs 8 rfl, s.blkIs 6 rfl, s.blkIs 4 rfl, trivial⟩
  refine ⟨_, rfl, hS, ?_⟩; clear ha; intro a ha
  refine hd_call (i := 14) ha rfl (by kernel_rfl) (by kernel_rfl) (by kernel_rfl) (is_to W _ w 2 1 2 1 A13 A22 c14 c23 1 1 [121] [121] true rfl rfl (Knows.own (j := 7) rfl) (Knows.own (j := 0) rfl) (by omega) (by kernel_rfl) s) ?_
  clear hS; rintro _ w ⟨rfl, s⟩
  replace s : St W (Own 5 1 A22 1 c23 (u8s [121]) :: Own 5 1 A20 1 c21 (u8s [120]) :: .blk g19 [.int .i64 0, .int .i64 0, .slice none 0 0] 29 :: Bag g1 [⟨1, 2, [120]⟩, ⟨1, 2, [120]⟩] :: .blk g18 [.int .i64 1, .int .i64 2, .slice A16 1 c17] 29 :: Own 5 1 A16 1 c17 (u8s [120]) :: .blk g15 [.int .i64 2, .int .i64 1, .slice A13 1 c14] 29 :: Own 5 1 A13 1 c14 (u8s [121]) :: .blk g12 [.int .i64 1, .int .i64 2, .slice A10 1 c11] 29 :: Own 5 1 A10 1 c11 (u8s [120]) :: Own 5 1 A8 1 c9 (u8s [122]) :: Own 5 1 A6 1 c7 (u8s [122]) :: Own 5 1 A4 1 c5 (u8s [121]) :: Own 5 1 A2 1 c3 (u8s [120]) :: L) w := s
  have hS : (fun w => BlkIs g12 [.int .i64 1, .int .i64 2, .slice A10 1 c11] w ∧ BlkIs g15 [.int .i64 2, .int .i64 1, .slice A13 1 c14] w ∧ BlkIs g18 [.int .i64 1, .int .i64 2, .slice A16 1 c17] w ∧ True) w := ⟨s.blkIs 8 rfl, s.blkIs 6 rfl, s.blkIs 4 rfl, trivial⟩
  refine ⟨_, rfl, hS, ?_⟩; clear ha; intro a ha
  refine hd_val (i := 15) (.bool true) ha rfl (by kernel_rfl) (fun _ _ _ h => h) (by kernel_rfl) (fun w hS => (by kernel_rfl)) hS ?_
  clear ha; intro a ha
  refine hd_val (i := 16) (.bool true) ha rfl (by kernel_rfl) (fun _ _ _ h => h) (by kernel_rfl) (fun w hS => (by kernel_rfl)) hS ?_
  clear ha; intro a ha
  refine hd_val (i := 17) (.agg #[.int .i64 1, .int .i64 2, .slice A16 1 c17]) ha rfl (by kernel_rfl) (fun _ _ _ h => h) (by kernel_rfl) (fun w hS => run_loadN (of_ := 0) [.int .i64 1, .int .i64 2, .slice A16 1 c17] hS.2.2.1 rfl (by kernel_rfl) Try.isAgg29 Try.sizeOf29 rfl (Nat.le_of_ble_eq_true rfl)) hS ?_
  clear ha; intro a ha
  refine hd_val (i := 18) (.bool true) ha rfl (by kernel_rfl) (fun _ _ _ h => h) (by kernel_rfl) (fun w hS => (by kernel_rfl)) hS ?_
  clear ha; intro a ha
  refine hd_call (i := 19) ha rfl (by kernel_rfl) (by kernel_rfl) (by kernel_rfl) (mail_any W _ w 1 2 120 s) ?_
  clear hS; rintro _ w ⟨A24, c25, rfl, s⟩
  replace s : St W (Own 5 1 A24 1 c25 (u8s [120]) :: Own 5 1 A22 1 c23 (u8s [121]) :: Own 5 1 A20 1 c21 (u8s [120]) :: .blk g19 [.int .i64 0, .int .i64 0, .slice none 0 0] 29 :: Bag g1 [⟨1, 2, [120]⟩, ⟨1, 2, [120]⟩] :: .blk g18 [.int .i64 1, .int .i64 2, .slice A16 1 c17] 29 :: Own 5 1 A16 1 c17 (u8s [120]) :: .blk g15 [.int .i64 2, .int .i64 1, .slice A13 1 c14] 29 :: Own 5 1 A13 1 c14 (u8s [121]) :: .blk g12 [.int .i64 1, .int .i64 2, .slice A10 1 c11] 29 :: Own 5 1 A10 1 c11 (u8s [120]) :: Own 5 1 A8 1 c9 (u8s [122]) :: Own 5 1 A6 1 c7 (u8s [122]) :: Own 5 1 A4 1 c5 (u8s [121]) :: Own 5 1 A2 1 c3 (u8s [120]) :: L) w := s
  have hS : (fun w => BlkIs g12 [.int .i64 1, .int .i64 2, .slice A10 1 c11] w ∧ BlkIs g15 [.int .i64 2, .int .i64 1, .slice A13 1 c14] w ∧ BlkIs g18 [.int .i64 1, .int .i64 2, .slice A16 1 c17] w ∧ True) w := ⟨s.blkIs 9 rfl, s.blkIs 7 rfl, s.blkIs 5 rfl, trivial⟩
  refine ⟨_, rfl, hS, ?_⟩; clear ha; intro a ha
  refine Head.done (by kernel_rfl) ?_
  clear hS; simp only [List.drop_succ_cons, List.drop_zero]
  refine st_call ha (by kernel_rfl) (by kernel_rfl) (is_to W _ w 1 2 1 2 A16 A24 c17 c25 1 1 [120] [120] true rfl rfl (Knows.own (j := 6) rfl) (Knows.own (j := 0) rfl) (by omega) (by kernel_rfl) s) ?_
  rintro _ w ⟨rfl, s⟩
  replace s : St W (Own 5 1 A24 1 c25 (u8s [120]) :: Own 5 1 A22 1 c23 (u8s [121]) :: Own 5 1 A20 1 c21 (u8s [120]) :: .blk g19 [.int .i64 0, .int .i64 0, .slice none 0 0] 29 :: Bag g1 [⟨1, 2, [120]⟩, ⟨1, 2, [120]⟩] :: .blk g18 [.int .i64 1, .int .i64 2, .slice A16 1 c17] 29 :: Own 5 1 A16 1 c17 (u8s [120]) :: .blk g15 [.int .i64 2, .int .i64 1, .slice A13 1 c14] 29 :: Own 5 1 A13 1 c14 (u8s [121]) :: .blk g12 [.int .i64 1, .int .i64 2, .slice A10 1 c11] 29 :: Own 5 1 A10 1 c11 (u8s [120]) :: Own 5 1 A8 1 c9 (u8s [122]) :: Own 5 1 A6 1 c7 (u8s [122]) :: Own 5 1 A4 1 c5 (u8s [121]) :: Own 5 1 A2 1 c3 (u8s [120]) :: L) w := s
  refine ⟨_, rfl, ?_⟩; clear ha; intro a ha
  refine st_val (.bool true) ha (by kernel_rfl) (by kernel_rfl) ?_
  clear ha; intro a ha
  refine st_val (.bool true) ha (by kernel_rfl) (by kernel_rfl) ?_
  clear ha; intro a ha
  refine st_val (.bool false) ha (by kernel_rfl) (by kernel_rfl) ?_
  clear ha; intro a ha
  refine st_val (.bool true) ha (by kernel_rfl) (by kernel_rfl) ?_
  clear ha; intro a ha
  refine st_val (.bool true) ha (by kernel_rfl) (by kernel_rfl) ?_
  clear ha; intro a ha
  refine st_val (.bool true) ha (by kernel_rfl) (by kernel_rfl) ?_
  clear ha; intro a ha
  refine st_val (.pointer (some ⟨g1, 0, none⟩)) ha (by kernel_rfl) (by kernel_rfl) ?_
  clear ha; intro a ha
  replace s := s.at_ (j := 4) rfl
  replace s : St W (Bag g1 [⟨1, 2, [120]⟩, ⟨1, 2, [120]⟩] :: Own 5 1 A24 1 c25 (u8s [120]) :: Own 5 1 A22 1 c23 (u8s [121]) :: Own 5 1 A20 1 c21 (u8s [120]) :: .blk g19 [.int .i64 0, .int .i64 0, .slice none 0 0] 29 :: .blk g18 [.int .i64 1, .int .i64 2, .slice A16 1 c17] 29 :: Own 5 1 A16 1 c17 (u8s [120]) :: .blk g15 [.int .i64 2, .int .i64 1, .slice A13 1 c14] 29 :: Own 5 1 A13 1 c14 (u8s [121]) :: .blk g12 [.int .i64 1, .int .i64 2, .slice A10 1 c11] 29 :: Own 5 1 A10 1 c11 (u8s [120]) :: Own 5 1 A8 1 c9 (u8s [122]) :: Own 5 1 A6 1 c7 (u8s [122]) :: Own 5 1 A4 1 c5 (u8s [121]) :: Own 5 1 A2 1 c3 (u8s [120]) :: L) w := s
  refine st_call ha (by kernel_rfl) (by kernel_rfl) (len_to W _ w g1 [⟨1, 2, [120]⟩, ⟨1, 2, [120]⟩] 2 rfl s) ?_
  rintro _ w ⟨rfl, s⟩
  replace s : St W (Bag g1 [⟨1, 2, [120]⟩, ⟨1, 2, [120]⟩] :: Own 5 1 A24 1 c25 (u8s [120]) :: Own 5 1 A22 1 c23 (u8s [121]) :: Own 5 1 A20 1 c21 (u8s [120]) :: .blk g19 [.int .i64 0, .int .i64 0, .slice none 0 0] 29 :: .blk g18 [.int .i64 1, .int .i64 2, .slice A16 1 c17] 29 :: Own 5 1 A16 1 c17 (u8s [120]) :: .blk g15 [.int .i64 2, .int .i64 1, .slice A13 1 c14] 29 :: Own 5 1 A13 1 c14 (u8s [121]) :: .blk g12 [.int .i64 1, .int .i64 2, .slice A10 1 c11] 29 :: Own 5 1 A10 1 c11 (u8s [120]) :: Own 5 1 A8 1 c9 (u8s [122]) :: Own 5 1 A6 1 c7 (u8s [122]) :: Own 5 1 A4 1 c5 (u8s [121]) :: Own 5 1 A2 1 c3 (u8s [120]) :: L) w := s
  refine ⟨_, rfl, ?_⟩; clear ha; intro a ha
  refine st_val (.bool true) ha (by kernel_rfl) (by kernel_rfl) ?_
  clear ha; intro a ha
  refine st_val (.bool true) ha (by kernel_rfl) (by kernel_rfl) ?_
  clear ha; intro a ha
  refine st_val (.bool true) ha (by kernel_rfl) (by kernel_rfl) ?_
  clear ha; intro a ha
  refine wpList_nil ?_
  refine then_normal ?_
  refine wp_ret ?_
  refine ret_with (v := .bool true) ha (results_1 rfl ha (res_tmp (by kernel_rfl) (by kernel_rfl))) ?_
  replace s : St W (L) w := St.mid (A := []) (B := [Bag g1 [⟨1, 2, [120]⟩, ⟨1, 2, [120]⟩], Own 5 1 A24 1 c25 (u8s [120]), Own 5 1 A22 1 c23 (u8s [121]), Own 5 1 A20 1 c21 (u8s [120]), .blk g19 [.int .i64 0, .int .i64 0, .slice none 0 0] 29, .blk g18 [.int .i64 1, .int .i64 2, .slice A16 1 c17] 29, Own 5 1 A16 1 c17 (u8s [120]), .blk g15 [.int .i64 2, .int .i64 1, .slice A13 1 c14] 29, Own 5 1 A13 1 c14 (u8s [121]), .blk g12 [.int .i64 1, .int .i64 2, .slice A10 1 c11] 29, Own 5 1 A10 1 c11 (u8s [120]), Own 5 1 A8 1 c9 (u8s [122]), Own 5 1 A6 1 c7 (u8s [122]), Own 5 1 A4 1 c5 (u8s [121]), Own 5 1 A2 1 c3 (u8s [120])]) s
  exact ⟨rfl, s⟩

end Go.Proofs.Ytcgnhmdiedfamaa.B
