import Derived.Test.YtcgnhmdiedfamaaB0
namespace Go.Proofs.Ytcgnhmdiedfamaa.B
open Go.RowKit Go.Proofs.Ytcgnhmdiedfamaa.Sep
set_option linter.unusedVariables false
set_option linter.unusedSimpArgs false

def msgs (x : List (Msg × Hd)) : List Msg := x.map (·.1)
/-- A bag of the program's, with these messages. -/
def Bag (g : Nat) (l : List Msg) : Chunk := .oth fun h => ∃ A c x, msgs x = l ∧ SatH [.blk g [.bool true, .slice A x.length c] 52, Own 29 3 A x.length c (rows x), Byts x] h
/-- A bag of the reference's. -/
def RBag (g : Nat) (l : List Msg) : Chunk := .oth fun h => ∃ A c x, msgs x = l ∧ SatH [.blk g [.slice A x.length c] 54, Own 29 3 A x.length c (rows x), Byts x] h
theorem oth_split {p : List Chunk} {q : Asrt} {L : List Chunk} {h : Hp} (hq : ∀ h, q h → SatH p h) (s : SatH (.oth q :: L) h) : SatH (p ++ L) h := by
  obtain ⟨h1, h2, a, s1, s2, x, y⟩ := s
  exact SatH.append_iff.2 ⟨h1, h2, a, s1, s2, hq _ x, y⟩
theorem Bag.open_ {W : World} {L : List Chunk} {w : World} {g : Nat} {l : List Msg} (s : St W (Bag g l :: L) w) :
    ∃ A c x, msgs x = l ∧ St W (.blk g [.bool true, .slice A x.length c] 52 :: Own 29 3 A x.length c (rows x) :: Byts x :: L) w := by
  obtain ⟨⟨h1, h2, a, s1, s2, ⟨A, c, x, e, y⟩, z⟩, u⟩ := s
  exact ⟨A, c, x, e, SatH.append_iff.2 ⟨h1, h2, a, s1, s2, y, z⟩, u⟩
theorem Bag.close {W : World} {L : List Chunk} {w : World} {g : Nat} {l : List Msg} {A : Option Addr} {c n : Nat} {x : List (Msg × Hd)} (hn : n = x.length) (e : msgs x = l) (s : St W (.blk g [.bool true, .slice A n c] 52 :: Own 29 3 A n c (rows x) :: Byts x :: L) w) : St W (Bag g l :: L) w := by
  subst hn
  obtain ⟨h1, h2, a, s1, s2, y, z⟩ := (SatH.append_iff (L := [_, _, _])).1 s.1
  exact ⟨⟨h1, h2, a, s1, s2, ⟨A, c, x, e, y⟩, z⟩, s.2⟩
theorem RBag.open_ {W : World} {L : List Chunk} {w : World} {g : Nat} {l : List Msg} (s : St W (RBag g l :: L) w) :
    ∃ A c x, msgs x = l ∧ St W (.blk g [.slice A x.length c] 54 :: Own 29 3 A x.length c (rows x) :: Byts x :: L) w := by
  obtain ⟨⟨h1, h2, a, s1, s2, ⟨A, c, x, e, y⟩, z⟩, u⟩ := s
  exact ⟨A, c, x, e, SatH.append_iff.2 ⟨h1, h2, a, s1, s2, y, z⟩, u⟩
theorem RBag.close {W : World} {L : List Chunk} {w : World} {g : Nat} {l : List Msg} {A : Option Addr} {c n : Nat} {x : List (Msg × Hd)} (hn : n = x.length) (e : msgs x = l) (s : St W (.blk g [.slice A n c] 54 :: Own 29 3 A n c (rows x) :: Byts x :: L) w) : St W (RBag g l :: L) w := by
  subst hn
  obtain ⟨h1, h2, a, s1, s2, y, z⟩ := (SatH.append_iff (L := [_, _, _])).1 s.1
  exact ⟨⟨h1, h2, a, s1, s2, ⟨A, c, x, e, y⟩, z⟩, s.2⟩
/-- Messages as a bag may have them. -/
def OkBag (l : List Msg) : Prop := (∀ m ∈ l, m.b.length ≤ 65536) ∧ l.length ≤ 2048
theorem OkBag.nil : OkBag [] := ⟨by simp, by simp⟩
theorem OkBag.put {l : List Msg} (h : OkBag l) (m : Msg) : OkBag (bput l m) := by
  unfold bput
  split
  · rename_i e
    obtain ⟨_, _, h3, h4⟩ := putCode_zero e
    refine ⟨fun y hy => ?_, by simp; omega⟩
    rcases List.mem_append.1 hy with hy | hy
    · exact h.1 y hy
    · have : y = m := by simpa using hy
      subst this; exact h3
  · exact h
theorem OkBag.erase {l : List Msg} (h : OkBag l) (k : Nat) : OkBag (l.eraseIdx k) :=
  ⟨fun y hy => h.1 y (List.mem_of_mem_eraseIdx hy), by have := List.length_eraseIdx_le l k; have := h.2; omega⟩
theorem msgs_get (x : List (Msg × Hd)) (k : Nat) (h : k < x.length) (h' : k < (msgs x).length) : (msgs x)[k] = x[k].1 := by simp [msgs]
theorem msgs_len (x : List (Msg × Hd)) : (msgs x).length = x.length := by simp [msgs]
theorem msgs_erase (x : List (Msg × Hd)) (k : Nat) : msgs (x.eraseIdx k) = (msgs x).eraseIdx k := by simp [msgs, List.eraseIdx_eq_take_drop_succ]
theorem msgs_snoc (x : List (Msg × Hd)) (m : Msg) (h : Hd) : msgs (x ++ [(m, h)]) = msgs x ++ [m] := by simp [msgs]


theorem len_bag (W : World) (L : List Chunk) (w : World) (g : Nat) (l : List Msg) (s : St W (Bag g l :: L) w) :
    Calls Try.prog 20 #[.pointer (some ⟨g, 0, none⟩)] w fun e w' => e = .returned (.int .i64 (l.length : Int)) ∧ St W (Bag g l :: L) w' := by
  obtain ⟨A, c, x, rfl, s1⟩ := Bag.open_ s
  clear s; have s := s1; clear s1
  exact (len_made W _ w g A x.length c s).mono fun e w' ⟨he, s⟩ => ⟨by rw [he, msgs_len], Bag.close rfl rfl s⟩
theorem put_bag (W : World) (L : List Chunk) (w : World) (g : Nat) (l : List Msg) (m : Msg) (A0 : Option Addr) (n0 c0 : Nat) (hn0 : n0 = m.b.length) (hr : Knows L fun w => Reads w 1 A0 n0 (u8s m.b)) (hn : n0 ≤ 140737488351232) (s : St W (Bag g l :: L) w) :
    Calls Try.prog 18 #[.pointer (some ⟨g, 0, none⟩), .agg #[.int .i64 m.f, .int .i64 m.t, .slice A0 n0 c0]] w fun e w' => e = .returned (.int .i64 (putCode m l.length)) ∧ St W (Bag g (bput l m) :: L) w' := by
  obtain ⟨A, c, x, rfl, s1⟩ := Bag.open_ s
  clear s; have s := s1; clear s1
  rw [msgs_len]
  by_cases h : putCode m x.length = 0
  · refine (put_yes W _ w g A c x m A0 n0 c0 hn0 (hr.up _) hn h s).mono ?_
    rintro e w' ⟨rfl, A', c', A1, c1, s⟩
    refine ⟨by rw [h], ?_⟩
    have e1 : bput (msgs x) m = msgs (x ++ [(m, (⟨A1, c1⟩ : Hd))]) := by unfold bput; rw [msgs_len, if_pos h, msgs_snoc]
    rw [e1]
    subst hn0
    have s2 := byts_snoc x (m, ⟨A1, c1⟩) ((s.at_ (j := 3) rfl).at_ (j := 3) rfl)
    exact Bag.close (x := x ++ [(m, (⟨A1, c1⟩ : Hd))]) (by simp) rfl ((s2.at_ (j := 2) rfl).at_ (j := 2) rfl)
  · refine (put_no W _ w g A c x m A0 n0 c0 hn0 (hr.up _) hn h s).mono ?_
    rintro e w' ⟨rfl, s⟩
    refine ⟨rfl, ?_⟩
    have e1 : bput (msgs x) m = msgs x := by unfold bput; rw [msgs_len, if_neg h]
    rw [e1]
    exact Bag.close rfl rfl s
theorem look_bag (W : World) (L : List Chunk) (w : World) (g : Nat) (l : List Msg) (k : Nat) (hk : k < l.length) (ok : OkBag l) (s : St W (Bag g l :: L) w) :
    Calls Try.prog 11 #[.pointer (some ⟨g, 0, none⟩), .int .i64 ((k : Nat) : Int)] w fun e w' => ∃ A c, e = .returned (.tuple #[.agg #[.int .i64 l[k].f, .int .i64 l[k].t, .slice A l[k].b.length c], .bool true]) ∧ St W (Own 5 1 A l[k].b.length c (u8s l[k].b) :: Bag g l :: L) w' := by
  have hb := ok.1 l[k] (List.getElem_mem hk)
  obtain ⟨A, c, x, rfl, s1⟩ := Bag.open_ s
  clear s; have s := s1; clear s1
  have hkx : k < x.length := by rw [msgs_len] at hk; exact hk
  have e1 := msgs_get x k hkx hk
  rw [e1] at hb ⊢
  refine (look_in W _ w g A c x k hkx (by omega) s).mono ?_
  rintro e w' ⟨A', c', rfl, s⟩
  exact ⟨A', c', rfl, (Bag.close rfl rfl s).at_ (j := 1) rfl⟩
theorem look_bag_out (W : World) (L : List Chunk) (w : World) (g : Nat) (l : List Msg) (i : Int) (hi : ¬ (0 ≤ i ∧ i < ((l.length : Nat) : Int))) (s : St W (Bag g l :: L) w) :
    Calls Try.prog 11 #[.pointer (some ⟨g, 0, none⟩), .int .i64 i] w fun e w' => e = .returned (.tuple #[.agg #[.int .i64 0, .int .i64 0, .slice none 0 0], .bool false]) ∧ St W (Bag g l :: L) w' := by
  obtain ⟨A, c, x, rfl, s1⟩ := Bag.open_ s
  clear s; have s := s1; clear s1
  rw [msgs_len] at hi
  exact (look_out W _ w g A c x i hi s).mono fun e w' ⟨he, s⟩ => ⟨he, Bag.close rfl rfl s⟩
theorem take_bag_out (W : World) (L : List Chunk) (w : World) (g : Nat) (l : List Msg) (i : Int) (hi : ¬ (0 ≤ i ∧ i < ((l.length : Nat) : Int))) (s : St W (Bag g l :: L) w) :
    Calls Try.prog 13 #[.pointer (some ⟨g, 0, none⟩), .int .i64 i] w fun e w' => e = .returned (.tuple #[.agg #[.int .i64 0, .int .i64 0, .slice none 0 0], .bool false]) ∧ St W (Bag g l :: L) w' := by
  obtain ⟨A, c, x, rfl, s1⟩ := Bag.open_ s
  clear s; have s := s1; clear s1
  rw [msgs_len] at hi
  exact (take_out W _ w g A c x i hi s).mono fun e w' ⟨he, s⟩ => ⟨he, Bag.close rfl rfl s⟩
theorem double_bag_out (W : World) (L : List Chunk) (w : World) (g : Nat) (l : List Msg) (i : Int) (hi : ¬ (0 ≤ i ∧ i < ((l.length : Nat) : Int))) (s : St W (Bag g l :: L) w) :
    Calls Try.prog 15 #[.pointer (some ⟨g, 0, none⟩), .int .i64 i] w fun e w' => e = .returned (.int .i64 9) ∧ St W (Bag g l :: L) w' := by
  obtain ⟨A, c, x, rfl, s1⟩ := Bag.open_ s
  clear s; have s := s1; clear s1
  rw [msgs_len] at hi
  exact (double_out W _ w g A c x i hi s).mono fun e w' ⟨he, s⟩ => ⟨he, Bag.close rfl rfl s⟩
theorem double_bag (W : World) (L : List Chunk) (w : World) (g : Nat) (l : List Msg) (k : Nat) (hk : k < l.length) (ok : OkBag l) (s : St W (Bag g l :: L) w) :
    Calls Try.prog 15 #[.pointer (some ⟨g, 0, none⟩), .int .i64 ((k : Nat) : Int)] w fun e w' => e = .returned (.int .i64 (putCode l[k] l.length)) ∧ St W (Bag g (bput l l[k]) :: L) w' := by
  have hb := ok.1 l[k] (List.getElem_mem hk)
  obtain ⟨A, c, x, rfl, s1⟩ := Bag.open_ s
  clear s; have s := s1; clear s1
  have hkx : k < x.length := by rw [msgs_len] at hk; exact hk
  have e1 := msgs_get x k hkx hk
  rw [msgs_len, e1]
  rw [e1] at hb
  by_cases h : putCode x[k].1 x.length = 0
  · refine (double_yes W _ w g A c x k hkx (by omega) h s).mono ?_
    rintro e w' ⟨rfl, A', c', A1, c1, s⟩
    have e2 : bput (msgs x) x[k].1 = msgs (x ++ [(x[k].1, (⟨A1, c1⟩ : Hd))]) := by unfold bput; rw [msgs_len, if_pos h, msgs_snoc]
    rw [e2]
    exact ⟨by rw [h], Bag.close rfl rfl s⟩
  · refine (double_no W _ w g A c x k hkx (by omega) h s).mono ?_
    rintro e w' ⟨rfl, s⟩
    have e2 : bput (msgs x) x[k].1 = msgs x := by unfold bput; rw [msgs_len, if_neg h]
    rw [e2]
    exact ⟨rfl, Bag.close rfl rfl s⟩
theorem take_bag (W : World) (L : List Chunk) (w : World) (g : Nat) (l : List Msg) (k : Nat) (hk : k < l.length) (ok : OkBag l) (s : St W (Bag g l :: L) w) :
    Calls Try.prog 13 #[.pointer (some ⟨g, 0, none⟩), .int .i64 ((k : Nat) : Int)] w fun e w' => ∃ A c, e = .returned (.tuple #[.agg #[.int .i64 l[k].f, .int .i64 l[k].t, .slice A l[k].b.length c], .bool true]) ∧ St W (Own 5 1 A l[k].b.length c (u8s l[k].b) :: Bag g (l.eraseIdx k) :: L) w' := by
  have hb := ok.1 l[k] (List.getElem_mem hk)
  have hlen := ok.2
  obtain ⟨A, c, x, rfl, s1⟩ := Bag.open_ s
  clear s; have s := s1; clear s1
  have hkx : k < x.length := by rw [msgs_len] at hk; exact hk
  rw [msgs_len] at hlen
  have e1 := msgs_get x k hkx hk
  rw [e1] at hb ⊢
  refine (take_in W _ w g A c x k hkx (by omega) s).mono ?_
  rintro e w' ⟨A', c', rfl, s⟩
  rw [← msgs_erase]
  exact ⟨_, _, rfl, (Bag.close rfl rfl s).at_ (j := 1) rfl⟩

theorem rlen_bag (W : World) (L : List Chunk) (w : World) (g : Nat) (l : List Msg) (s : St W (RBag g l :: L) w) :
    Calls Try.prog 21 #[.pointer (some ⟨g, 0, none⟩)] w fun e w' => e = .returned (.int .i64 (l.length : Int)) ∧ St W (RBag g l :: L) w' := by
  obtain ⟨A, c, x, rfl, s1⟩ := RBag.open_ s
  clear s; have s := s1; clear s1
  exact (rlen_any W _ w g A x.length c s).mono fun e w' ⟨he, s⟩ => ⟨by rw [he, msgs_len], RBag.close rfl rfl s⟩
theorem rput_bag (W : World) (L : List Chunk) (w : World) (g : Nat) (l : List Msg) (m : Msg) (A0 : Option Addr) (n0 c0 : Nat) (hn0 : n0 = m.b.length) (hr : Knows L fun w => Reads w 1 A0 n0 (u8s m.b)) (hn : n0 ≤ 140737488351232) (s : St W (RBag g l :: L) w) :
    Calls Try.prog 17 #[.pointer (some ⟨g, 0, none⟩), .agg #[.int .i64 m.f, .int .i64 m.t, .slice A0 n0 c0]] w fun e w' => e = .returned (.int .i64 (putCode m l.length)) ∧ St W (RBag g (bput l m) :: L) w' := by
  obtain ⟨A, c, x, rfl, s1⟩ := RBag.open_ s
  clear s; have s := s1; clear s1
  rw [msgs_len]
  by_cases h : putCode m x.length = 0
  · refine (rput_yes W _ w g A c x m A0 n0 c0 hn0 (hr.up _) hn h s).mono ?_
    rintro e w' ⟨rfl, A', c', A1, c1, s⟩
    refine ⟨by rw [h], ?_⟩
    have e1 : bput (msgs x) m = msgs (x ++ [(m, (⟨A1, c1⟩ : Hd))]) := by unfold bput; rw [msgs_len, if_pos h, msgs_snoc]
    rw [e1]
    subst hn0
    have s2 := byts_snoc x (m, ⟨A1, c1⟩) ((s.at_ (j := 3) rfl).at_ (j := 3) rfl)
    exact RBag.close (x := x ++ [(m, (⟨A1, c1⟩ : Hd))]) (by simp) rfl ((s2.at_ (j := 2) rfl).at_ (j := 2) rfl)
  · refine (rput_no W _ w g A c x m A0 n0 c0 hn0 (hr.up _) hn h s).mono ?_
    rintro e w' ⟨rfl, s⟩
    refine ⟨rfl, ?_⟩
    have e1 : bput (msgs x) m = msgs x := by unfold bput; rw [msgs_len, if_neg h]
    rw [e1]
    exact RBag.close rfl rfl s
theorem rlook_bag (W : World) (L : List Chunk) (w : World) (g : Nat) (l : List Msg) (k : Nat) (hk : k < l.length) (ok : OkBag l) (s : St W (RBag g l :: L) w) :
    Calls Try.prog 12 #[.pointer (some ⟨g, 0, none⟩), .int .i64 ((k : Nat) : Int)] w fun e w' => ∃ A c, e = .returned (.tuple #[.agg #[.int .i64 l[k].f, .int .i64 l[k].t, .slice A l[k].b.length c], .bool true]) ∧ St W (Own 5 1 A l[k].b.length c (u8s l[k].b) :: RBag g l :: L) w' := by
  have hb := ok.1 l[k] (List.getElem_mem hk)
  obtain ⟨A, c, x, rfl, s1⟩ := RBag.open_ s
  clear s; have s := s1; clear s1
  have hkx : k < x.length := by rw [msgs_len] at hk; exact hk
  have e1 := msgs_get x k hkx hk
  rw [e1] at hb ⊢
  refine (rlook_in W _ w g A c x k hkx (by omega) s).mono ?_
  rintro e w' ⟨A', c', rfl, s⟩
  exact ⟨A', c', rfl, (RBag.close rfl rfl s).at_ (j := 1) rfl⟩
theorem rlook_bag_out (W : World) (L : List Chunk) (w : World) (g : Nat) (l : List Msg) (i : Int) (hi : ¬ (0 ≤ i ∧ i < ((l.length : Nat) : Int))) (s : St W (RBag g l :: L) w) :
    Calls Try.prog 12 #[.pointer (some ⟨g, 0, none⟩), .int .i64 i] w fun e w' => e = .returned (.tuple #[.agg #[.int .i64 0, .int .i64 0, .slice none 0 0], .bool false]) ∧ St W (RBag g l :: L) w' := by
  obtain ⟨A, c, x, rfl, s1⟩ := RBag.open_ s
  clear s; have s := s1; clear s1
  rw [msgs_len] at hi
  exact (rlook_out W _ w g A c x i hi s).mono fun e w' ⟨he, s⟩ => ⟨he, RBag.close rfl rfl s⟩
theorem rtake_bag_out (W : World) (L : List Chunk) (w : World) (g : Nat) (l : List Msg) (i : Int) (hi : ¬ (0 ≤ i ∧ i < ((l.length : Nat) : Int))) (s : St W (RBag g l :: L) w) :
    Calls Try.prog 14 #[.pointer (some ⟨g, 0, none⟩), .int .i64 i] w fun e w' => e = .returned (.tuple #[.agg #[.int .i64 0, .int .i64 0, .slice none 0 0], .bool false]) ∧ St W (RBag g l :: L) w' := by
  obtain ⟨A, c, x, rfl, s1⟩ := RBag.open_ s
  clear s; have s := s1; clear s1
  rw [msgs_len] at hi
  exact (rtake_out W _ w g A c x i hi s).mono fun e w' ⟨he, s⟩ => ⟨he, RBag.close rfl rfl s⟩
theorem rdouble_bag_out (W : World) (L : List Chunk) (w : World) (g : Nat) (l : List Msg) (i : Int) (hi : ¬ (0 ≤ i ∧ i < ((l.length : Nat) : Int))) (s : St W (RBag g l :: L) w) :
    Calls Try.prog 16 #[.pointer (some ⟨g, 0, none⟩), .int .i64 i] w fun e w' => e = .returned (.int .i64 9) ∧ St W (RBag g l :: L) w' := by
  obtain ⟨A, c, x, rfl, s1⟩ := RBag.open_ s
  clear s; have s := s1; clear s1
  rw [msgs_len] at hi
  exact (rdouble_out W _ w g A c x i hi s).mono fun e w' ⟨he, s⟩ => ⟨he, RBag.close rfl rfl s⟩
theorem rdouble_bag (W : World) (L : List Chunk) (w : World) (g : Nat) (l : List Msg) (k : Nat) (hk : k < l.length) (ok : OkBag l) (s : St W (RBag g l :: L) w) :
    Calls Try.prog 16 #[.pointer (some ⟨g, 0, none⟩), .int .i64 ((k : Nat) : Int)] w fun e w' => e = .returned (.int .i64 (putCode l[k] l.length)) ∧ St W (RBag g (bput l l[k]) :: L) w' := by
  have hb := ok.1 l[k] (List.getElem_mem hk)
  obtain ⟨A, c, x, rfl, s1⟩ := RBag.open_ s
  clear s; have s := s1; clear s1
  have hkx : k < x.length := by rw [msgs_len] at hk; exact hk
  have e1 := msgs_get x k hkx hk
  rw [msgs_len, e1]
  rw [e1] at hb
  by_cases h : putCode x[k].1 x.length = 0
  · refine (rdouble_yes W _ w g A c x k hkx (by omega) h s).mono ?_
    rintro e w' ⟨rfl, A', c', A1, c1, s⟩
    have e2 : bput (msgs x) x[k].1 = msgs (x ++ [(x[k].1, (⟨A1, c1⟩ : Hd))]) := by unfold bput; rw [msgs_len, if_pos h, msgs_snoc]
    rw [e2]
    exact ⟨by rw [h], RBag.close rfl rfl s⟩
  · refine (rdouble_no W _ w g A c x k hkx (by omega) h s).mono ?_
    rintro e w' ⟨rfl, s⟩
    have e2 : bput (msgs x) x[k].1 = msgs x := by unfold bput; rw [msgs_len, if_neg h]
    rw [e2]
    exact ⟨rfl, RBag.close rfl rfl s⟩
theorem rtake_bag (W : World) (L : List Chunk) (w : World) (g : Nat) (l : List Msg) (k : Nat) (hk : k < l.length) (ok : OkBag l) (s : St W (RBag g l :: L) w) :
    Calls Try.prog 14 #[.pointer (some ⟨g, 0, none⟩), .int .i64 ((k : Nat) : Int)] w fun e w' => ∃ A c, e = .returned (.tuple #[.agg #[.int .i64 l[k].f, .int .i64 l[k].t, .slice A l[k].b.length c], .bool true]) ∧ St W (Own 5 1 A l[k].b.length c (u8s l[k].b) :: RBag g (l.eraseIdx k) :: L) w' := by
  have hb := ok.1 l[k] (List.getElem_mem hk)
  have hlen := ok.2
  obtain ⟨A, c, x, rfl, s1⟩ := RBag.open_ s
  clear s; have s := s1; clear s1
  have hkx : k < x.length := by rw [msgs_len] at hk; exact hk
  rw [msgs_len] at hlen
  have e1 := msgs_get x k hkx hk
  rw [e1] at hb ⊢
  refine (rtake_in W _ w g A c x k hkx (by omega) (by omega) s).mono ?_
  rintro e w' ⟨A', c', A1, c1, rfl, s⟩
  rw [← msgs_erase]
  exact ⟨_, _, rfl, (RBag.close rfl rfl s).at_ (j := 1) rfl⟩
theorem new_bag (W : World) (L : List Chunk) (w : World) (s : St W L w) : Calls Try.prog 7 #[] w fun e w' => ∃ g, e = .returned (.pointer (some ⟨g, 0, none⟩)) ∧ St W (Bag g [] :: L) w' := by
  refine (new_made W L w s).mono ?_
  rintro e w' ⟨g, rfl, s⟩
  have s1 : St W (Own 29 3 none 0 0 (rows []) :: .blk g _ _ :: L) w' := Own.none_ none s
  have s2 : St W (Byts [] :: Own 29 3 none 0 0 (rows []) :: .blk g _ _ :: L) w' := ⟨Sat.star_iff.2 s1.1, s1.2⟩
  exact ⟨g, rfl, Bag.close (x := []) rfl rfl ((s2.at_ (j := 1) rfl).at_ (j := 2) rfl)⟩
theorem rnew_bag (W : World) (L : List Chunk) (w : World) (s : St W L w) : Calls Try.prog 8 #[] w fun e w' => ∃ g, e = .returned (.pointer (some ⟨g, 0, none⟩)) ∧ St W (RBag g [] :: L) w' := by
  refine (rnew_made W L w s).mono ?_
  rintro e w' ⟨g, rfl, s⟩
  have s1 : St W (Own 29 3 none 0 0 (rows []) :: .blk g _ _ :: L) w' := Own.none_ none s
  have s2 : St W (Byts [] :: Own 29 3 none 0 0 (rows []) :: .blk g _ _ :: L) w' := ⟨Sat.star_iff.2 s1.1, s1.2⟩
  exact ⟨g, rfl, RBag.close (x := []) rfl rfl ((s2.at_ (j := 1) rfl).at_ (j := 2) rfl)⟩
end Go.Proofs.Ytcgnhmdiedfamaa.B
