import Derived.Test.YtjdkpebnaohonaaB6
namespace Go.Proofs.Ytjdkpebnaohonaa.B
open Go.RowKit Go.Maps Go.Proofs.Ytjdkpebnaohonaa.Sep Go.Proofs.Ytjdkpebnaohonaa.P
set_option linter.unusedVariables false
set_option linter.unusedSimpArgs false
def arcR (k : Nat) : Arc := (((k + 1 : Nat) : Int), ((k + 1 : Nat) : Int) % (1000 : Int) + 1)
def ringP (n : Nat) : List Arc := (List.range n).map arcR
theorem ringP_len (n : Nat) : (ringP n).length = n := by simp [ringP]
theorem ringP_step (n : Nat) : egs (ringP (n + 1)) = egs (ringP n) ++ eg (arcR n) := by
  rw [ringP, List.range_succ, List.map_append, egs_append]; rfl
theorem ringP_mem {n : Nat} {x : Arc} : x ∈ ringP n ↔ ∃ k, k < n ∧ x = arcR k := by
  simp [ringP, List.mem_map, eq_comm]
theorem egs_taken (l : List Arc) (k : Nat) : (egs l).take (k * 2) = egs (l.take k) := by
  induction l generalizing k with
  | nil => simp [egs]
  | cons a l ih =>
    cases k with
    | zero => simp [egs]
    | succ k =>
      have : egs (a :: l) = .int .i64 a.1 :: .int .i64 a.2 :: egs l := rfl
      rw [this, show (k + 1) * 2 = k * 2 + 1 + 1 by omega, List.take_succ_cons, List.take_succ_cons, ih]
      rfl
theorem ringP_taken {m n : Nat} (h : m ≤ n) : (ringP n).take m = ringP m := by
  unfold ringP; rw [← List.map_take, List.take_range, Nat.min_eq_left h]
theorem ringP_take : (ringP 1000).take 999 = ringP 999 := ringP_taken (by omega)
def R1000 : List Int := (List.range 1000).map fun (i : Nat) => (i : Int) + 1
theorem R1000_len : R1000.length = 1000 := by simp [R1000]
theorem ring_up (d : Nat) : ∀ a : Nat, 1 ≤ a → a + d + 1 ≤ 1000 → P.Way (ringP 1000) (a : Int) ((a + d + 1 : Nat) : Int) := by
  have e : ∀ a : Nat, 1 ≤ a → a + 1 ≤ 1000 → ((a : Int), ((a + 1 : Nat) : Int)) ∈ ringP 1000 := by
    intro a h1 h2
    refine ringP_mem.2 ⟨a - 1, by omega, ?_⟩
    unfold arcR
    exact Prod.ext (by simp only; omega) (by simp only; omega)
  induction d with
  | zero => exact fun a h1 h2 => .one (e a h1 h2)
  | succ d ih => exact fun a h1 h2 => (ih a h1 (by omega)).snoc (e (a + d + 1) (by omega) (by omega))
theorem ring_back : ((1000 : Int), (1 : Int)) ∈ ringP 1000 := ringP_mem.2 ⟨999, by omega, by unfold arcR; exact Prod.ext (by simp only; omega) (by simp only; omega)⟩
theorem ring_all {a : Nat} (h : 1 ≤ a ∧ a ≤ 1000) : P.Way (ringP 1000) (a : Int) (a : Int) := by
  have h1 : P.Way (ringP 1000) (a : Int) 1 := by
    by_cases ha : a = 1000
    · subst ha; exact .one ring_back
    · have := ring_up (1000 - a - 1) a h.1 (by omega)
      rw [show a + (1000 - a - 1) + 1 = 1000 by omega] at this
      exact this.snoc ring_back
  by_cases ha : a = 1
  · subst ha; exact h1
  · have := ring_up (a - 2) 1 (by omega) (by omega)
    rw [show 1 + (a - 2) + 1 = a by omega] at this
    exact h1.trans this
theorem ring_rings : RingsRes (ringP 1000) 0 R1000 := by
  refine rings_ok_of (by rw [ringP_len]; omega) (fun x hx => ?_) ⟨?_, fun a => ?_⟩
  · obtain ⟨k, hk, rfl⟩ := ringP_mem.1 hx
    unfold arcR
    exact ⟨isIdB_iff.2 (by simp only; omega), isIdB_iff.2 (by simp only; omega), by simp only; omega⟩
  · unfold R1000
    rw [List.pairwise_map]
    exact List.pairwise_lt_range.imp fun h => by omega
  · unfold R1000
    constructor
    · intro h
      obtain ⟨i, hi, rfl⟩ := List.mem_map.1 h
      have := ring_all (a := i + 1) ⟨by omega, by have := List.mem_range.1 hi; omega⟩
      exact this
    · intro h
      obtain ⟨c, hc⟩ := h.first
      obtain ⟨k, hk, e⟩ := ringP_mem.1 hc
      have : a = ((k + 1 : Nat) : Int) := congrArg Prod.fst e
      exact List.mem_map.2 ⟨k, List.mem_range.2 hk, by omega⟩
theorem path_rings : RingsRes (ringP 999) 0 [] := by
  refine rings_ok_of (by rw [ringP_len]; omega) (fun x hx => ?_) (rings_cert (fun x => x.toNat) (by simp) (by simp) fun x hx => ?_)
  · obtain ⟨k, hk, rfl⟩ := ringP_mem.1 hx
    unfold arcR
    exact ⟨isIdB_iff.2 (by simp only; omega), isIdB_iff.2 (by simp only; omega), by simp only; omega⟩
  · obtain ⟨k, hk, rfl⟩ := ringP_mem.1 hx
    unfold arcR
    exact ⟨by simp only; omega, fun _ => by simp only; omega⟩
def E5 : List Arc := [(9007199254740991, 1), (1, 9007199254740991)]
def E6 : List Arc := [(1, 2), (2, 1), (3, 4), (4, 3)]
theorem E5_rings : RingsRes E5 0 [1, 9007199254740991] := rings_ok_of (by decide) (by decide) (rings_cert (fun x => 0) (by decide) (by
  have a1 : P.Way E5 9007199254740991 1 := .one (by decide)
  have a2 : P.Way E5 1 9007199254740991 := .one (by decide)
  intro a ha
  simp at ha
  rcases ha with rfl | rfl
  · exact a2.trans a1
  · exact a1.trans a2) (by decide))
theorem E6_rings : RingsRes E6 0 [1, 2, 3, 4] := rings_ok_of (by decide) (by decide) (rings_cert (fun x => 0) (by decide) (by
  have a1 : P.Way E6 1 2 := .one (by decide)
  have a2 : P.Way E6 2 1 := .one (by decide)
  have a3 : P.Way E6 3 4 := .one (by decide)
  have a4 : P.Way E6 4 3 := .one (by decide)
  intro a ha
  simp at ha
  rcases ha with rfl | rfl | rfl | rfl
  · exact a1.trans a2
  · exact a2.trans a1
  · exact a3.trans a4
  · exact a4.trans a3) (by decide))
theorem E7_rings : RingsRes [(0, 1)] 2 [] := .inr (.inl ⟨by decide, by decide, rfl, rfl⟩)
theorem E8_rings : RingsRes [(1, 9007199254740992)] 2 [] := .inr (.inl ⟨by decide, by decide, rfl, rfl⟩)
theorem vic_bad {E l : List Arc} {R : List Int} (h : RingsRes E 0 R) (h1 : l.length ≤ 1000) (h2 : ¬ whoOk l) : VictimRes E l 0 false 2 := ⟨R, 0, h, .inr ⟨rfl, .inr (.inl ⟨h1, h2, rfl, rfl, rfl⟩)⟩⟩
theorem V5 : VictimRes E4 [(1, 0), (1, 0)] 0 false 2 := vic_bad E4_rings (by decide) (by decide)
theorem V6 : VictimRes E4 [(0, 0)] 0 false 2 := vic_bad E4_rings (by decide) (by decide)
theorem V7 : VictimRes E4 [(1, -1)] 0 false 2 := vic_bad E4_rings (by decide) (by decide)
theorem V8 : VictimRes E4 [(1, 9007199254740992)] 0 false 2 := vic_bad E4_rings (by decide) (by decide)
def many : List Arc := List.replicate 1001 (0, 0)
theorem many_len : many.length = 1001 := List.length_replicate
theorem V9 : VictimRes E4 many 0 false 5 := ⟨[1, 2], 0, E4_rings, .inr ⟨rfl, .inl ⟨by rw [many_len]; omega, rfl, rfl, rfl⟩⟩⟩
theorem V10 : VictimRes E3 many 0 false 2 := ⟨[], 2, E3_rings, .inl ⟨by decide, rfl, rfl, rfl⟩⟩
theorem V11 : VictimRes E4 [(1, 9007199254740991), (2, 9007199254740991), (9, 0)] 1 true 0 := vic_yes E4_rings (by decide) (by decide) (by decide) ⟨by decide, by decide⟩
theorem V12 : VictimRes E6 [(1, 2), (2, 2), (3, 1), (4, 1)] 3 true 0 := vic_yes E6_rings (by decide) (by decide) (by decide) ⟨by decide, by decide⟩
theorem made_two : ((Array.range (1001 * 2)).map ((#[.int .i64 0, .int .i64 0] : Array Value)[· % (#[.int .i64 0, .int .i64 0] : Array Value).size]!)).toList = egs many := by
  have h1 : ((Array.range (1001 * 2)).map ((#[.int .i64 0, .int .i64 0] : Array Value)[· % (#[.int .i64 0, .int .i64 0] : Array Value).size]!)).toList = List.replicate 2002 (.int .i64 0) := by
    refine List.eq_replicate_iff.2 ⟨by simp, fun b hb => ?_⟩
    rw [Array.toList_map] at hb
    obtain ⟨i, _, rfl⟩ := List.mem_map.1 hb
    have : i % 2 = 0 ∨ i % 2 = 1 := by omega
    rcases this with h | h <;> simp [h]
  have h2 : egs many = List.replicate 2002 (.int .i64 0) := by
    refine List.eq_replicate_iff.2 ⟨by rw [egs_len, many_len], fun b hb => ?_⟩
    obtain ⟨x, hx, h⟩ := List.mem_flatMap.1 hb
    have := (List.mem_replicate.1 hx).2
    subst this
    simp [eg] at h
    exact h
  rw [h1, h2]
theorem victim_is (W : World) (hW : W.drawn = 0) (L : List Chunk) (w : World) (A : Option Addr) (n ca : Nat) (E : List Arc) (hr : Knows L fun w => Reads w 2 A n (egs E)) (hl : E.length = n) (hn : n ≤ 140737488351232)
    (B : Option Addr) (m cb : Nat) (l : List Arc) (hrb : Knows L fun w => Reads w 2 B m (egs l)) (hm : l.length = m) (hmn : m ≤ 140737488351232) (hlb : ∀ x ∈ l, -9223372036854775808 ≤ x.1 ∧ x.1 ≤ 9223372036854775807) (id : Int) (is : Bool) (er : Int) (h : VictimRes E l id is er) (s : St W L w) :
    Calls Try.prog 11 #[.slice A n ca, .slice B m cb] w fun e w' => e = .returned (.tuple #[.int .i64 id, .bool is, .int .i64 er]) ∧ St W L w' := by
  refine (victim_any W hW L w A n ca E hr hl hn B m cb l hrb hm hmn hlb s).mono ?_
  rintro e w' ⟨id2, is2, er2, rfl, hv, s⟩
  obtain ⟨rfl, rfl, rfl⟩ := hv.unique h
  exact ⟨rfl, s⟩
theorem take999 {w : World} {A : Option Addr} (h : Reads w 2 A 1000 (egs (ringP 1000))) : Reads w 2 A 999 (egs (ringP 999)) := by
  have := Reads.take h (show 999 ≤ 1000 by omega)
  rwa [egs_taken, ringP_take] at this
theorem Knows.twin {e k : Nat} {A : Option Addr} {n c : Nat} {cs : List Value} {A' : Option Addr} {n' c' : Nat} {news : List Value} {L : List Chunk} {j : Nat} (h : L[j]? = some (Forked e k A n c cs A' n' c' news)) : Knows L fun w => Reads w k A' n' (cs ++ news) := fun w s => Forked.new (s.perm (perm_at h))
theorem Knows.twin0 {e k : Nat} {A : Option Addr} {n c : Nat} {cs : List Value} {A' : Option Addr} {n' c' : Nat} {news : List Value} {L : List Chunk} {j : Nat} (h : L[j]? = some (Forked e k A n c cs A' n' c' news)) : Knows L fun w => Reads w k A n cs := fun w s => Forked.old (s.perm (perm_at h))
theorem Own.addr_some {e k : Nat} {A : Option Addr} {n c : Nat} {cs : List Value} {W w : World} {L : List Chunk} (s : St W (Own e k A n c cs :: L) w) (h : 0 < n * k) : ∃ ad, A = some ad := Own.addr s h

set_option maxRecDepth 100000 in
set_option maxHeartbeats 8000000 in
theorem known_true (W : World) (hW : W.drawn = 0) (L : List Chunk) (w : World) (s : St W L w) :
    Calls Try.prog 8 #[] w fun e w' => e = .returned (.bool true) ∧ St W L w' := by
  refine enter_args (l := []) Try.func8 rfl rfl (Nat.le_of_ble_eq_true rfl) ?_
  intro a ha; replace ha : Has a 236 [] := ha
  refine wp_seq ?_
  refine wp_region_lit ?_
  refine st_val (.bool false) ha (by kernel_rfl) (by kernel_rfl) ?_
  clear ha; intro a ha
  refine wpList_nil ?_
  refine then_normal ?_
  refine wp_seq ?_
  refine wp_region_lit ?_
  refine st_val (.int .i64 9007199254740991) ha (by kernel_rfl) (by kernel_rfl) ?_
  clear ha; intro a ha
  refine wpList_nil ?_
  refine then_normal ?_
  refine wp_seq ?_
  refine wp_region_lit ?_
  refine st_val (.slice none 0 0) ha (by kernel_rfl) (by kernel_rfl) ?_
  clear ha; intro a ha
  refine wpList_nil ?_
  refine then_normal ?_
  refine wp_seq ?_
  refine wp_seq ?_
  refine wp_region_lit ?_
  refine st_val (.int .i64 1) ha (by kernel_rfl) (by kernel_rfl) ?_
  clear ha; intro a ha
  refine wpList_nil ?_
  refine then_normal ?_
  refine wp_block ?_
  replace s := Own.none_ (e := 37) (k := 2) none s
  refine wp_loopG (G := (Nat × Option Addr × Nat)) (fun ⟨k, Ao, co⟩ a w => Has a 236 [(1, .int .i64 9007199254740991), (2, .slice Ao k co), (3, .int .i64 ((k + 1 : Nat) : Int))] ∧ St W (Own 37 2 Ao k co (egs (ringP k)) :: L) w ∧ (k ≤ 1000)) (fun ⟨k, Ao, co⟩ => 1000 - k) (0, none, 0) ?_ ?_
  · exact ⟨(Has.cons ha (by kernel_rfl) (by kernel_rfl) (Has.cons ha (by kernel_rfl) (by kernel_rfl) (Has.cons ha (by kernel_rfl) (by kernel_rfl) (Has.nil ha)))), s, Nat.zero_le _⟩
  · clear ha s; rintro ⟨k, Ao, co⟩ a w ⟨ha, s, hp⟩
    refine wp_seq ?_
    refine wp_seq ?_
    refine wp_region_lit ?_
    refine st_val (.int .i64 ((k + 1 : Nat) : Int)) ha (by kernel_rfl) (by kernel_rfl) ?_
    clear ha; intro a ha
    refine st_val (.bool (decide (((k + 1 : Nat) : Int) ≤ (1000 : Int)))) ha (by kernel_rfl) (by kernel_rfl) ?_
    clear ha; intro a ha
    refine wpList_nil ?_
    refine then_normal ?_
    refine wp_part (decide (((k + 1 : Nat) : Int) ≤ (1000 : Int))) ha rfl (by kernel_rfl) (fun hb => ?_) (fun hb => ?_)
    · rw [hb] at ha; replace hb : (((k + 1 : Nat) : Int) ≤ (1000 : Int)) := of_decide_eq_true hb
      refine wp_skip ?_
      refine then_normal ?_
      refine wp_seq ?_
      refine wp_block ?_
      refine wp_region_lit ?_
      refine st_val (.slice Ao k co) ha (by kernel_rfl) (by kernel_rfl) ?_
      clear ha; intro a ha
      refine st_val (.int .i64 ((k + 1 : Nat) : Int)) ha (by kernel_rfl) (by kernel_rfl) ?_
      clear ha; intro a ha
      refine st_val (.int .i64 ((k + 1 : Nat) : Int)) ha (by kernel_rfl) (by kernel_rfl) ?_
      clear ha; intro a ha
      refine st_val (.int .i64 (((k + 1 : Nat) : Int) % (1000 : Int))) ha (by kernel_rfl) (run_rem (p := ((k + 1 : Nat) : Int)) (q := (1000 : Int)) (((k + 1 : Nat) : Int) % (1000 : Int)) rfl (by kernel_rfl) (by kernel_rfl) (by omega) (by rw [Int.tmod_eq_emod_of_nonneg (by omega)]) _) ?_
      clear ha; intro a ha
      refine st_val (.int .i64 ((((k + 1 : Nat) : Int) % (1000 : Int)) + (1 : Int))) ha (by kernel_rfl) (run_arith ((((k + 1 : Nat) : Int) % (1000 : Int)) + (1 : Int)) ((((k + 1 : Nat) : Int) % (1000 : Int)) + (1 : Int)) rfl (by kernel_rfl) (by kernel_rfl) (.inl ⟨rfl, rfl⟩) (by rw [wrap64_in (by omega)]) _) ?_
      clear ha; intro a ha
      refine st_val (.agg #[.int .i64 ((k + 1 : Nat) : Int), .int .i64 ((((k + 1 : Nat) : Int) % (1000 : Int)) + (1 : Int))]) ha (by kernel_rfl) (by kernel_rfl) ?_
      clear ha; intro a ha
      refine st_ex ha (by kernel_rfl) (ex_buildSlice elt22 _ zs22 [.int .i64 ((k + 1 : Nat) : Int), .int .i64 ((((k + 1 : Nat) : Int) % (1000 : Int)) + (1 : Int))] s rfl (by kernel_rfl) (by decide)) ?_
      clear ha; rintro _ w a ⟨g1, rfl, s⟩ ha
      replace s : St W (.blk g1 [.int .i64 ((k + 1 : Nat) : Int), .int .i64 ((((k + 1 : Nat) : Int) % (1000 : Int)) + (1 : Int))] 37 :: Own 37 2 Ao k co (egs (ringP k)) :: L) w := s
      refine st_ex ha (by kernel_rfl) (ex_append (m := 1) (d' := 1) elt22 (by decide) 1 [.int .i64 ((k + 1 : Nat) : Int), .int .i64 ((((k + 1 : Nat) : Int) % (1000 : Int)) + (1 : Int))] s rfl (by kernel_rfl) (by kernel_rfl) rfl (reads_blk (s.blkIs 0 rfl) rfl) (by simp [Value.oneCell']) (by simp only [maxLen]; omega) (by omega)) ?_
      clear ha; rintro _ w a ⟨A2, c3, rfl, hA_, s⟩ ha
      replace s : St W (.blk g1 [.int .i64 ((k + 1 : Nat) : Int), .int .i64 ((((k + 1 : Nat) : Int) % (1000 : Int)) + (1 : Int))] 37 :: Own 37 2 A2 (k + 1) c3 ((egs (ringP k)) ++ [.int .i64 ((k + 1 : Nat) : Int), .int .i64 ((((k + 1 : Nat) : Int) % (1000 : Int)) + (1 : Int))]) :: L) w := s
      refine st_val (.slice A2 (k + 1) c3) ha (by kernel_rfl) (by kernel_rfl) ?_
      clear ha; intro a ha
      refine wpList_nil ?_
      refine block_normal ?_
      refine then_normal ?_
      refine wp_region_lit ?_
      refine st_val (.int .i64 ((k + 1 : Nat) : Int)) ha (by kernel_rfl) (by kernel_rfl) ?_
      clear ha; intro a ha
      refine st_val (.int .i64 ((k + 2 : Nat) : Int)) ha (by kernel_rfl) (run_arith (((k + 1 : Nat) : Int) + (1 : Int)) ((k + 2 : Nat) : Int) rfl (by kernel_rfl) (by kernel_rfl) (.inl ⟨rfl, rfl⟩) (by rw [wrap64_in (by omega)]; try omega) _) ?_
      clear ha; intro a ha
      refine st_val (.int .i64 ((k + 2 : Nat) : Int)) ha (by kernel_rfl) (by kernel_rfl) ?_
      clear ha; intro a ha
      refine wpList_nil ?_
      refine then_normal ?_
      replace s := s.at_ (j := 1) rfl
      replace s : St W (Own 37 2 A2 (k + 1) c3 ((egs (ringP k)) ++ [.int .i64 ((k + 1 : Nat) : Int), .int .i64 ((((k + 1 : Nat) : Int) % (1000 : Int)) + (1 : Int))]) :: .blk g1 [.int .i64 ((k + 1 : Nat) : Int), .int .i64 ((((k + 1 : Nat) : Int) % (1000 : Int)) + (1 : Int))] 37 :: L) w := s
      replace s : St W (Own 37 2 A2 (k + 1) c3 ((egs (ringP k)) ++ [.int .i64 ((k + 1 : Nat) : Int), .int .i64 ((((k + 1 : Nat) : Int) % (1000 : Int)) + (1 : Int))]) :: L) w := St.mid (A := [Own 37 2 A2 (k + 1) c3 ((egs (ringP k)) ++ [.int .i64 ((k + 1 : Nat) : Int), .int .i64 ((((k + 1 : Nat) : Int) % (1000 : Int)) + (1 : Int))])]) (B := [.blk g1 [.int .i64 ((k + 1 : Nat) : Int), .int .i64 ((((k + 1 : Nat) : Int) % (1000 : Int)) + (1 : Int))] 37]) s
      replace s : St W (Own 37 2 A2 (k + 1) c3 (egs (ringP (k + 1))) :: L) w := by rw [ringP_step]; exact s
      exact ⟨(k + 1, A2, c3), (show 1000 - (k + 1) < 1000 - k by omega), (Has.cons ha (by kernel_rfl) (by kernel_rfl) (Has.cons ha (by kernel_rfl) (by kernel_rfl) (Has.cons ha (by kernel_rfl) (by kernel_rfl) (Has.nil ha)))), s, (show k + 1 ≤ 1000 by omega)⟩
    · rw [hb] at ha; replace hb : ¬ (((k + 1 : Nat) : Int) ≤ (1000 : Int)) := of_decide_eq_false hb
      obtain rfl : k = 1000 := by omega
      replace s : St W (Own 37 2 Ao 1000 co (egs (ringP 1000)) :: L) w := s
      refine wp_exit ?_
      refine then_exit ?_
      refine then_exit ?_
      refine block_hit ?_
      refine then_normal ?_
      refine wp_seq ?_
      refine wp_region_lit ?_
      refine st_val (.slice Ao 1000 co) ha (by kernel_rfl) (by kernel_rfl) ?_
      clear ha; intro a ha
      refine st_call ha (by kernel_rfl) (by kernel_rfl) (rings_is W hW _ w Ao 1000 co (ringP 1000) 0 R1000 ring_rings (Knows.own (j := 0) rfl) (ringP_len _) (by omega) s) ?_
      rintro _ w ⟨A4, c5, rfl, s⟩
      rw [R1000_len] at s; rw [R1000_len]
      replace s : St W (Own 3 1 A4 1000 c5 (ints R1000) :: Own 37 2 Ao 1000 co (egs (ringP 1000)) :: L) w := s
      refine ⟨_, rfl, ?_⟩; clear ha; intro a ha
      refine st_val (.tuple #[.slice A4 1000 c5, .int .i64 0]) ha (by kernel_rfl) (by kernel_rfl) ?_
      clear ha; intro a ha
      refine st_val (.slice A4 1000 c5) ha (by kernel_rfl) (by kernel_rfl) ?_
      clear ha; intro a ha
      refine st_val (.int .i64 0) ha (by kernel_rfl) (by kernel_rfl) ?_
      clear ha; intro a ha
      refine st_val (.slice A4 1000 c5) ha (by kernel_rfl) (by kernel_rfl) ?_
      clear ha; intro a ha
      refine st_val (.int .i64 0) ha (by kernel_rfl) (by kernel_rfl) ?_
      clear ha; intro a ha
      refine wpList_nil ?_
      refine then_normal ?_
      refine wp_seq ?_
      refine wp_region_lit ?_
      refine st_val (.slice Ao 1000 co) ha (by kernel_rfl) (by kernel_rfl) ?_
      clear ha; intro a ha
      refine st_val (.agg #[.int .i64 1, .int .i64 2]) ha (by kernel_rfl) (by kernel_rfl) ?_
      clear ha; intro a ha
      refine st_ex ha (by kernel_rfl) (ex_buildSlice elt22 _ zs22 [.int .i64 1, .int .i64 2] s rfl (by kernel_rfl) (by decide)) ?_
      clear ha; rintro _ w a ⟨g6, rfl, s⟩ ha
      replace s : St W (.blk g6 [.int .i64 1, .int .i64 2] 37 :: Own 3 1 A4 1000 c5 (ints R1000) :: Own 37 2 Ao 1000 co (egs (ringP 1000)) :: L) w := s
      have hcap := (Own.facts (s.at_ (j := 2) rfl).1).2.1
      refine st_ex ha (by kernel_rfl) (ex_append_keep (m := 1) (d' := 1) elt22 (by decide) 2 [.int .i64 1, .int .i64 2] s rfl (by kernel_rfl) (by kernel_rfl) rfl (reads_blk (s.blkIs 0 rfl) rfl) (by simp [Value.oneCell']) (by simp only [maxLen]; omega) (by omega)) ?_
      clear ha; rintro _ w a ⟨A7, c8, rfl, s⟩ ha
      replace s : St W (.blk g6 [.int .i64 1, .int .i64 2] 37 :: Own 3 1 A4 1000 c5 (ints R1000) :: Forked 37 2 Ao 1000 co (egs (ringP 1000)) A7 1001 c8 [.int .i64 1, .int .i64 2] :: L) w := s
      refine st_call ha (by kernel_rfl) (by kernel_rfl) (rings_is W hW _ w A7 1001 c8 (ringP 1000 ++ [(1, 2)]) 5 [] (.inl ⟨by rw [List.length_append, ringP_len]; decide, rfl, rfl⟩) (fun w s => by rw [egs_append]; exact Knows.twin (j := 2) rfl w s) (by rw [List.length_append, ringP_len]; rfl) (by omega) s) ?_
      rintro _ w ⟨A9, c10, rfl, s⟩
      replace s : St W (Own 3 1 A9 0 c10 (ints []) :: .blk g6 [.int .i64 1, .int .i64 2] 37 :: Own 3 1 A4 1000 c5 (ints R1000) :: Forked 37 2 Ao 1000 co (egs (ringP 1000)) A7 1001 c8 [.int .i64 1, .int .i64 2] :: L) w := s
      refine ⟨_, rfl, ?_⟩; clear ha; intro a ha
      refine st_val (.tuple #[.slice A9 0 c10, .int .i64 5]) ha (by kernel_rfl) (by kernel_rfl) ?_
      clear ha; intro a ha
      refine st_val (.slice A9 0 c10) ha (by kernel_rfl) (by kernel_rfl) ?_
      clear ha; intro a ha
      refine st_val (.int .i64 5) ha (by kernel_rfl) (by kernel_rfl) ?_
      clear ha; intro a ha
      refine st_val (.slice A9 0 c10) ha (by kernel_rfl) (by kernel_rfl) ?_
      clear ha; intro a ha
      refine st_val (.int .i64 5) ha (by kernel_rfl) (by kernel_rfl) ?_
      clear ha; intro a ha
      refine wpList_nil ?_
      refine then_normal ?_
      refine wp_seq ?_
      refine wp_region_lit ?_
      refine st_val (.slice Ao 1000 co) ha (by kernel_rfl) (by kernel_rfl) ?_
      clear ha; intro a ha
      refine st_val (.slice Ao 999 co) ha (by kernel_rfl) (run_slice0 (n := 1000) (c := co) 999 co rfl Try.underlying22 Try.sizeOf37 (by kernel_rfl) (fun _ => rfl) bnd_none (bnd_some .i64 (by kernel_rfl)) bnd_none (by omega) (by omega) _) ?_
      clear ha; intro a ha
      refine st_call ha (by kernel_rfl) (by kernel_rfl) (rings_is W hW _ w Ao 999 co (ringP 999) 0 [] path_rings (fun w s => take999 (Knows.twin0 (j := 3) rfl w s)) (ringP_len _) (by omega) s) ?_
      rintro _ w ⟨A11, c12, rfl, s⟩
      replace s : St W (Own 3 1 A11 0 c12 (ints []) :: Own 3 1 A9 0 c10 (ints []) :: .blk g6 [.int .i64 1, .int .i64 2] 37 :: Own 3 1 A4 1000 c5 (ints R1000) :: Forked 37 2 Ao 1000 co (egs (ringP 1000)) A7 1001 c8 [.int .i64 1, .int .i64 2] :: L) w := s
      refine ⟨_, rfl, ?_⟩; clear ha; intro a ha
      refine st_val (.tuple #[.slice A11 0 c12, .int .i64 0]) ha (by kernel_rfl) (by kernel_rfl) ?_
      clear ha; intro a ha
      refine st_val (.slice A11 0 c12) ha (by kernel_rfl) (by kernel_rfl) ?_
      clear ha; intro a ha
      refine st_val (.int .i64 0) ha (by kernel_rfl) (by kernel_rfl) ?_
      clear ha; intro a ha
      refine st_val (.slice A11 0 c12) ha (by kernel_rfl) (by kernel_rfl) ?_
      clear ha; intro a ha
      refine st_val (.int .i64 0) ha (by kernel_rfl) (by kernel_rfl) ?_
      clear ha; intro a ha
      refine wpList_nil ?_
      refine then_normal ?_
      refine wp_seq ?_
      refine wp_region_lit ?_
      refine st_val (.agg #[.int .i64 0, .int .i64 1]) ha (by kernel_rfl) (by kernel_rfl) ?_
      clear ha; intro a ha
      refine st_ex ha (by kernel_rfl) (ex_buildSlice elt22 _ zs22 [.int .i64 0, .int .i64 1] s rfl (by kernel_rfl) (by decide)) ?_
      clear ha; rintro _ w a ⟨g13, rfl, s⟩ ha
      replace s : St W (.blk g13 [.int .i64 0, .int .i64 1] 37 :: Own 3 1 A11 0 c12 (ints []) :: Own 3 1 A9 0 c10 (ints []) :: .blk g6 [.int .i64 1, .int .i64 2] 37 :: Own 3 1 A4 1000 c5 (ints R1000) :: Forked 37 2 Ao 1000 co (egs (ringP 1000)) A7 1001 c8 [.int .i64 1, .int .i64 2] :: L) w := s
      refine st_call ha (by kernel_rfl) (by kernel_rfl) (rings_is W hW _ w (some ⟨g13, 0, none⟩) 1 1 [(0, 1)] 2 [] E7_rings (Knows.blk (j := 0) (cs := egs [(0, 1)]) rfl rfl) rfl (by omega) s) ?_
      rintro _ w ⟨A14, c15, rfl, s⟩
      replace s : St W (Own 3 1 A14 0 c15 (ints []) :: .blk g13 [.int .i64 0, .int .i64 1] 37 :: Own 3 1 A11 0 c12 (ints []) :: Own 3 1 A9 0 c10 (ints []) :: .blk g6 [.int .i64 1, .int .i64 2] 37 :: Own 3 1 A4 1000 c5 (ints R1000) :: Forked 37 2 Ao 1000 co (egs (ringP 1000)) A7 1001 c8 [.int .i64 1, .int .i64 2] :: L) w := s
      refine ⟨_, rfl, ?_⟩; clear ha; intro a ha
      refine st_val (.tuple #[.slice A14 0 c15, .int .i64 2]) ha (by kernel_rfl) (by kernel_rfl) ?_
      clear ha; intro a ha
      refine st_val (.slice A14 0 c15) ha (by kernel_rfl) (by kernel_rfl) ?_
      clear ha; intro a ha
      refine st_val (.int .i64 2) ha (by kernel_rfl) (by kernel_rfl) ?_
      clear ha; intro a ha
      refine st_val (.slice A14 0 c15) ha (by kernel_rfl) (by kernel_rfl) ?_
      clear ha; intro a ha
      refine st_val (.int .i64 2) ha (by kernel_rfl) (by kernel_rfl) ?_
      clear ha; intro a ha
      refine wpList_nil ?_
      refine then_normal ?_
      refine wp_seq ?_
      refine wp_region_lit ?_
      refine st_val (.int .i64 9007199254740991) ha (by kernel_rfl) (by kernel_rfl) ?_
      clear ha; intro a ha
      refine st_val (.int .i64 9007199254740992) ha (by kernel_rfl) (by kernel_rfl) ?_
      clear ha; intro a ha
      refine st_val (.agg #[.int .i64 1, .int .i64 9007199254740992]) ha (by kernel_rfl) (by kernel_rfl) ?_
      clear ha; intro a ha
      refine st_ex ha (by kernel_rfl) (ex_buildSlice elt22 _ zs22 [.int .i64 1, .int .i64 9007199254740992] s rfl (by kernel_rfl) (by decide)) ?_
      clear ha; rintro _ w a ⟨g16, rfl, s⟩ ha
      replace s : St W (.blk g16 [.int .i64 1, .int .i64 9007199254740992] 37 :: Own 3 1 A14 0 c15 (ints []) :: .blk g13 [.int .i64 0, .int .i64 1] 37 :: Own 3 1 A11 0 c12 (ints []) :: Own 3 1 A9 0 c10 (ints []) :: .blk g6 [.int .i64 1, .int .i64 2] 37 :: Own 3 1 A4 1000 c5 (ints R1000) :: Forked 37 2 Ao 1000 co (egs (ringP 1000)) A7 1001 c8 [.int .i64 1, .int .i64 2] :: L) w := s
      refine st_call ha (by kernel_rfl) (by kernel_rfl) (rings_is W hW _ w (some ⟨g16, 0, none⟩) 1 1 [(1, 9007199254740992)] 2 [] E8_rings (Knows.blk (j := 0) (cs := egs [(1, 9007199254740992)]) rfl rfl) rfl (by omega) s) ?_
      rintro _ w ⟨A17, c18, rfl, s⟩
      replace s : St W (Own 3 1 A17 0 c18 (ints []) :: .blk g16 [.int .i64 1, .int .i64 9007199254740992] 37 :: Own 3 1 A14 0 c15 (ints []) :: .blk g13 [.int .i64 0, .int .i64 1] 37 :: Own 3 1 A11 0 c12 (ints []) :: Own 3 1 A9 0 c10 (ints []) :: .blk g6 [.int .i64 1, .int .i64 2] 37 :: Own 3 1 A4 1000 c5 (ints R1000) :: Forked 37 2 Ao 1000 co (egs (ringP 1000)) A7 1001 c8 [.int .i64 1, .int .i64 2] :: L) w := s
      refine ⟨_, rfl, ?_⟩; clear ha; intro a ha
      refine st_val (.tuple #[.slice A17 0 c18, .int .i64 2]) ha (by kernel_rfl) (by kernel_rfl) ?_
      clear ha; intro a ha
      refine st_val (.slice A17 0 c18) ha (by kernel_rfl) (by kernel_rfl) ?_
      clear ha; intro a ha
      refine st_val (.int .i64 2) ha (by kernel_rfl) (by kernel_rfl) ?_
      clear ha; intro a ha
      refine st_val (.slice A17 0 c18) ha (by kernel_rfl) (by kernel_rfl) ?_
      clear ha; intro a ha
      refine st_val (.int .i64 2) ha (by kernel_rfl) (by kernel_rfl) ?_
      clear ha; intro a ha
      refine wpList_nil ?_
      refine then_normal ?_
      refine wp_seq ?_
      refine wp_region_lit ?_
      refine st_val (.int .i64 9007199254740991) ha (by kernel_rfl) (by kernel_rfl) ?_
      clear ha; intro a ha
      refine st_val (.agg #[.int .i64 9007199254740991, .int .i64 1]) ha (by kernel_rfl) (by kernel_rfl) ?_
      clear ha; intro a ha
      refine st_val (.int .i64 9007199254740991) ha (by kernel_rfl) (by kernel_rfl) ?_
      clear ha; intro a ha
      refine st_val (.agg #[.int .i64 1, .int .i64 9007199254740991]) ha (by kernel_rfl) (by kernel_rfl) ?_
      clear ha; intro a ha
      refine st_ex ha (by kernel_rfl) (ex_buildSlice elt22 _ zs22 [.int .i64 9007199254740991, .int .i64 1, .int .i64 1, .int .i64 9007199254740991] s rfl (by kernel_rfl) (by decide)) ?_
      clear ha; rintro _ w a ⟨g19, rfl, s⟩ ha
      replace s : St W (.blk g19 [.int .i64 9007199254740991, .int .i64 1, .int .i64 1, .int .i64 9007199254740991] 37 :: Own 3 1 A17 0 c18 (ints []) :: .blk g16 [.int .i64 1, .int .i64 9007199254740992] 37 :: Own 3 1 A14 0 c15 (ints []) :: .blk g13 [.int .i64 0, .int .i64 1] 37 :: Own 3 1 A11 0 c12 (ints []) :: Own 3 1 A9 0 c10 (ints []) :: .blk g6 [.int .i64 1, .int .i64 2] 37 :: Own 3 1 A4 1000 c5 (ints R1000) :: Forked 37 2 Ao 1000 co (egs (ringP 1000)) A7 1001 c8 [.int .i64 1, .int .i64 2] :: L) w := s
      refine st_call ha (by kernel_rfl) (by kernel_rfl) (rings_is W hW _ w (some ⟨g19, 0, none⟩) 2 2 [(9007199254740991, 1), (1, 9007199254740991)] 0 [1, 9007199254740991] E5_rings (Knows.blk (j := 0) (cs := egs [(9007199254740991, 1), (1, 9007199254740991)]) rfl rfl) rfl (by omega) s) ?_
      rintro _ w ⟨A20, c21, rfl, s⟩
      replace s : St W (Own 3 1 A20 2 c21 (ints [1, 9007199254740991]) :: .blk g19 [.int .i64 9007199254740991, .int .i64 1, .int .i64 1, .int .i64 9007199254740991] 37 :: Own 3 1 A17 0 c18 (ints []) :: .blk g16 [.int .i64 1, .int .i64 9007199254740992] 37 :: Own 3 1 A14 0 c15 (ints []) :: .blk g13 [.int .i64 0, .int .i64 1] 37 :: Own 3 1 A11 0 c12 (ints []) :: Own 3 1 A9 0 c10 (ints []) :: .blk g6 [.int .i64 1, .int .i64 2] 37 :: Own 3 1 A4 1000 c5 (ints R1000) :: Forked 37 2 Ao 1000 co (egs (ringP 1000)) A7 1001 c8 [.int .i64 1, .int .i64 2] :: L) w := s
      refine ⟨_, rfl, ?_⟩; clear ha; intro a ha
      refine st_val (.tuple #[.slice A20 2 c21, .int .i64 0]) ha (by kernel_rfl) (by kernel_rfl) ?_
      clear ha; intro a ha
      refine st_val (.slice A20 2 c21) ha (by kernel_rfl) (by kernel_rfl) ?_
      clear ha; intro a ha
      refine st_val (.int .i64 0) ha (by kernel_rfl) (by kernel_rfl) ?_
      clear ha; intro a ha
      refine st_val (.slice A20 2 c21) ha (by kernel_rfl) (by kernel_rfl) ?_
      clear ha; intro a ha
      refine st_val (.int .i64 0) ha (by kernel_rfl) (by kernel_rfl) ?_
      clear ha; intro a ha
      refine wpList_nil ?_
      refine then_normal ?_
      refine wp_seq ?_
      refine wp_region_lit ?_
      refine st_val (.slice A4 1000 c5) ha (by kernel_rfl) (by kernel_rfl) ?_
      clear ha; intro a ha
      refine st_val (.int .i64 1000) ha (by kernel_rfl) (by kernel_rfl) ?_
      clear ha; intro a ha
      refine st_val (.bool true) ha (by kernel_rfl) (by kernel_rfl) ?_
      clear ha; intro a ha
      refine st_val (.bool true) ha (by kernel_rfl) (by kernel_rfl) ?_
      clear ha; intro a ha
      refine st_val (.int .i64 0) ha (by kernel_rfl) (by kernel_rfl) ?_
      clear ha; intro a ha
      refine st_val (.bool true) ha (by kernel_rfl) (by kernel_rfl) ?_
      clear ha; intro a ha
      refine st_val (.bool true) ha (by kernel_rfl) (by kernel_rfl) ?_
      clear ha; intro a ha
      refine st_val (.bool true) ha (by kernel_rfl) (by kernel_rfl) ?_
      clear ha; intro a ha
      refine st_val (.int .i64 5) ha (by kernel_rfl) (by kernel_rfl) ?_
      clear ha; intro a ha
      refine st_val (.bool true) ha (by kernel_rfl) (by kernel_rfl) ?_
      clear ha; intro a ha
      refine st_val (.bool true) ha (by kernel_rfl) (by kernel_rfl) ?_
      clear ha; intro a ha
      refine st_val (.bool true) ha (by kernel_rfl) (by kernel_rfl) ?_
      clear ha; intro a ha
      refine st_val (.slice A11 0 c12) ha (by kernel_rfl) (by kernel_rfl) ?_
      clear ha; intro a ha
      refine st_val (.int .i64 0) ha (by kernel_rfl) (by kernel_rfl) ?_
      clear ha; intro a ha
      refine st_val (.bool true) ha (by kernel_rfl) (by kernel_rfl) ?_
      clear ha; intro a ha
      refine st_val (.bool true) ha (by kernel_rfl) (by kernel_rfl) ?_
      clear ha; intro a ha
      refine st_val (.bool true) ha (by kernel_rfl) (by kernel_rfl) ?_
      clear ha; intro a ha
      refine st_val (.int .i64 0) ha (by kernel_rfl) (by kernel_rfl) ?_
      clear ha; intro a ha
      refine st_val (.bool true) ha (by kernel_rfl) (by kernel_rfl) ?_
      clear ha; intro a ha
      refine st_val (.bool true) ha (by kernel_rfl) (by kernel_rfl) ?_
      clear ha; intro a ha
      refine st_val (.bool true) ha (by kernel_rfl) (by kernel_rfl) ?_
      clear ha; intro a ha
      refine st_val (.int .i64 2) ha (by kernel_rfl) (by kernel_rfl) ?_
      clear ha; intro a ha
      refine st_val (.bool true) ha (by kernel_rfl) (by kernel_rfl) ?_
      clear ha; intro a ha
      refine st_val (.bool true) ha (by kernel_rfl) (by kernel_rfl) ?_
      clear ha; intro a ha
      refine st_val (.bool true) ha (by kernel_rfl) (by kernel_rfl) ?_
      clear ha; intro a ha
      refine st_val (.int .i64 2) ha (by kernel_rfl) (by kernel_rfl) ?_
      clear ha; intro a ha
      refine st_val (.bool true) ha (by kernel_rfl) (by kernel_rfl) ?_
      clear ha; intro a ha
      refine st_val (.bool true) ha (by kernel_rfl) (by kernel_rfl) ?_
      clear ha; intro a ha
      refine st_val (.bool true) ha (by kernel_rfl) (by kernel_rfl) ?_
      clear ha; intro a ha
      refine st_val (.slice A20 2 c21) ha (by kernel_rfl) (by kernel_rfl) ?_
      clear ha; intro a ha
      refine st_val (.int .i64 9007199254740991) ha (by kernel_rfl) (by kernel_rfl) ?_
      clear ha; intro a ha
      refine st_ex ha (by kernel_rfl) (ex_buildSlice elt25 _ zs25 [.int .i64 1, .int .i64 9007199254740991] s rfl (by kernel_rfl) (by decide)) ?_
      clear ha; rintro _ w a ⟨g22, rfl, s⟩ ha
      replace s : St W (.blk g22 [.int .i64 1, .int .i64 9007199254740991] 3 :: Own 3 1 A20 2 c21 (ints [1, 9007199254740991]) :: .blk g19 [.int .i64 9007199254740991, .int .i64 1, .int .i64 1, .int .i64 9007199254740991] 37 :: Own 3 1 A17 0 c18 (ints []) :: .blk g16 [.int .i64 1, .int .i64 9007199254740992] 37 :: Own 3 1 A14 0 c15 (ints []) :: .blk g13 [.int .i64 0, .int .i64 1] 37 :: Own 3 1 A11 0 c12 (ints []) :: Own 3 1 A9 0 c10 (ints []) :: .blk g6 [.int .i64 1, .int .i64 2] 37 :: Own 3 1 A4 1000 c5 (ints R1000) :: Forked 37 2 Ao 1000 co (egs (ringP 1000)) A7 1001 c8 [.int .i64 1, .int .i64 2] :: L) w := s
      refine st_call ha (by kernel_rfl) (by kernel_rfl) (eqInts_is W _ w A20 2 c21 [1, 9007199254740991] (Knows.own (j := 1) rfl) rfl (by omega) (some ⟨g22, 0, none⟩) 2 2 [1, 9007199254740991] (Knows.blk (j := 0) (cs := ints [1, 9007199254740991]) rfl rfl) rfl (by omega) true (by decide) s) ?_
      rintro _ w ⟨rfl, s⟩
      replace s : St W (.blk g22 [.int .i64 1, .int .i64 9007199254740991] 3 :: Own 3 1 A20 2 c21 (ints [1, 9007199254740991]) :: .blk g19 [.int .i64 9007199254740991, .int .i64 1, .int .i64 1, .int .i64 9007199254740991] 37 :: Own 3 1 A17 0 c18 (ints []) :: .blk g16 [.int .i64 1, .int .i64 9007199254740992] 37 :: Own 3 1 A14 0 c15 (ints []) :: .blk g13 [.int .i64 0, .int .i64 1] 37 :: Own 3 1 A11 0 c12 (ints []) :: Own 3 1 A9 0 c10 (ints []) :: .blk g6 [.int .i64 1, .int .i64 2] 37 :: Own 3 1 A4 1000 c5 (ints R1000) :: Forked 37 2 Ao 1000 co (egs (ringP 1000)) A7 1001 c8 [.int .i64 1, .int .i64 2] :: L) w := s
      refine ⟨_, rfl, ?_⟩; clear ha; intro a ha
      refine st_val (.bool true) ha (by kernel_rfl) (by kernel_rfl) ?_
      clear ha; intro a ha
      refine st_val (.bool true) ha (by kernel_rfl) (by kernel_rfl) ?_
      clear ha; intro a ha
      refine st_val (.int .i64 0) ha (by kernel_rfl) (by kernel_rfl) ?_
      clear ha; intro a ha
      refine st_val (.bool true) ha (by kernel_rfl) (by kernel_rfl) ?_
      clear ha; intro a ha
      refine st_val (.bool true) ha (by kernel_rfl) (by kernel_rfl) ?_
      clear ha; intro a ha
      refine st_val (.bool true) ha (by kernel_rfl) (by kernel_rfl) ?_
      clear ha; intro a ha
      refine wpList_nil ?_
      refine then_normal ?_
      refine wp_seq ?_
      refine wp_region_lit ?_
      refine st_val (.agg #[.int .i64 1, .int .i64 2]) ha (by kernel_rfl) (by kernel_rfl) ?_
      clear ha; intro a ha
      refine st_val (.agg #[.int .i64 2, .int .i64 1]) ha (by kernel_rfl) (by kernel_rfl) ?_
      clear ha; intro a ha
      refine st_ex ha (by kernel_rfl) (ex_buildSlice elt22 _ zs22 [.int .i64 1, .int .i64 2, .int .i64 2, .int .i64 1] s rfl (by kernel_rfl) (by decide)) ?_
      clear ha; rintro _ w a ⟨g23, rfl, s⟩ ha
      replace s : St W (.blk g23 [.int .i64 1, .int .i64 2, .int .i64 2, .int .i64 1] 37 :: .blk g22 [.int .i64 1, .int .i64 9007199254740991] 3 :: Own 3 1 A20 2 c21 (ints [1, 9007199254740991]) :: .blk g19 [.int .i64 9007199254740991, .int .i64 1, .int .i64 1, .int .i64 9007199254740991] 37 :: Own 3 1 A17 0 c18 (ints []) :: .blk g16 [.int .i64 1, .int .i64 9007199254740992] 37 :: Own 3 1 A14 0 c15 (ints []) :: .blk g13 [.int .i64 0, .int .i64 1] 37 :: Own 3 1 A11 0 c12 (ints []) :: Own 3 1 A9 0 c10 (ints []) :: .blk g6 [.int .i64 1, .int .i64 2] 37 :: Own 3 1 A4 1000 c5 (ints R1000) :: Forked 37 2 Ao 1000 co (egs (ringP 1000)) A7 1001 c8 [.int .i64 1, .int .i64 2] :: L) w := s
      refine st_val (.slice (some ⟨g23, 0, none⟩) 2 2) ha (by kernel_rfl) (by kernel_rfl) ?_
      clear ha; intro a ha
      refine wpList_nil ?_
      refine then_normal ?_
      refine wp_seq ?_
      refine wp_region_lit ?_
      refine st_val (.slice (some ⟨g23, 0, none⟩) 2 2) ha (by kernel_rfl) (by kernel_rfl) ?_
      clear ha; intro a ha
      refine st_val (.agg #[.int .i64 1, .int .i64 0]) ha (by kernel_rfl) (by kernel_rfl) ?_
      clear ha; intro a ha
      refine st_val (.agg #[.int .i64 1, .int .i64 0]) ha (by kernel_rfl) (by kernel_rfl) ?_
      clear ha; intro a ha
      refine st_ex ha (by kernel_rfl) (ex_buildSlice elt23 _ zs23 [.int .i64 1, .int .i64 0, .int .i64 1, .int .i64 0] s rfl (by kernel_rfl) (by decide)) ?_
      clear ha; rintro _ w a ⟨g24, rfl, s⟩ ha
      replace s : St W (.blk g24 [.int .i64 1, .int .i64 0, .int .i64 1, .int .i64 0] 34 :: .blk g23 [.int .i64 1, .int .i64 2, .int .i64 2, .int .i64 1] 37 :: .blk g22 [.int .i64 1, .int .i64 9007199254740991] 3 :: Own 3 1 A20 2 c21 (ints [1, 9007199254740991]) :: .blk g19 [.int .i64 9007199254740991, .int .i64 1, .int .i64 1, .int .i64 9007199254740991] 37 :: Own 3 1 A17 0 c18 (ints []) :: .blk g16 [.int .i64 1, .int .i64 9007199254740992] 37 :: Own 3 1 A14 0 c15 (ints []) :: .blk g13 [.int .i64 0, .int .i64 1] 37 :: Own 3 1 A11 0 c12 (ints []) :: Own 3 1 A9 0 c10 (ints []) :: .blk g6 [.int .i64 1, .int .i64 2] 37 :: Own 3 1 A4 1000 c5 (ints R1000) :: Forked 37 2 Ao 1000 co (egs (ringP 1000)) A7 1001 c8 [.int .i64 1, .int .i64 2] :: L) w := s
      refine st_call ha (by kernel_rfl) (by kernel_rfl) (victim_is W hW _ w (some ⟨g23, 0, none⟩) 2 2 [(1, 2), (2, 1)] (Knows.blk (j := 1) (cs := egs [(1, 2), (2, 1)]) rfl rfl) rfl (by omega) (some ⟨g24, 0, none⟩) 2 2 [(1, 0), (1, 0)] (Knows.blk (j := 0) (cs := egs [(1, 0), (1, 0)]) rfl rfl) rfl (by omega) (by decide) 0 false 2 V5 s) ?_
      rintro _ w ⟨rfl, s⟩
      replace s : St W (.blk g24 [.int .i64 1, .int .i64 0, .int .i64 1, .int .i64 0] 34 :: .blk g23 [.int .i64 1, .int .i64 2, .int .i64 2, .int .i64 1] 37 :: .blk g22 [.int .i64 1, .int .i64 9007199254740991] 3 :: Own 3 1 A20 2 c21 (ints [1, 9007199254740991]) :: .blk g19 [.int .i64 9007199254740991, .int .i64 1, .int .i64 1, .int .i64 9007199254740991] 37 :: Own 3 1 A17 0 c18 (ints []) :: .blk g16 [.int .i64 1, .int .i64 9007199254740992] 37 :: Own 3 1 A14 0 c15 (ints []) :: .blk g13 [.int .i64 0, .int .i64 1] 37 :: Own 3 1 A11 0 c12 (ints []) :: Own 3 1 A9 0 c10 (ints []) :: .blk g6 [.int .i64 1, .int .i64 2] 37 :: Own 3 1 A4 1000 c5 (ints R1000) :: Forked 37 2 Ao 1000 co (egs (ringP 1000)) A7 1001 c8 [.int .i64 1, .int .i64 2] :: L) w := s
      refine ⟨_, rfl, ?_⟩; clear ha; intro a ha
      refine st_val (.tuple #[.int .i64 0, .bool false, .int .i64 2]) ha (by kernel_rfl) (by kernel_rfl) ?_
      clear ha; intro a ha
      refine st_val (.int .i64 0) ha (by kernel_rfl) (by kernel_rfl) ?_
      clear ha; intro a ha
      refine st_val (.bool false) ha (by kernel_rfl) (by kernel_rfl) ?_
      clear ha; intro a ha
      refine st_val (.int .i64 2) ha (by kernel_rfl) (by kernel_rfl) ?_
      clear ha; intro a ha
      refine st_val (.int .i64 0) ha (by kernel_rfl) (by kernel_rfl) ?_
      clear ha; intro a ha
      refine st_val (.bool false) ha (by kernel_rfl) (by kernel_rfl) ?_
      clear ha; intro a ha
      refine st_val (.int .i64 2) ha (by kernel_rfl) (by kernel_rfl) ?_
      clear ha; intro a ha
      refine wpList_nil ?_
      refine then_normal ?_
      refine wp_seq ?_
      refine wp_region_lit ?_
      refine st_val (.slice (some ⟨g23, 0, none⟩) 2 2) ha (by kernel_rfl) (by kernel_rfl) ?_
      clear ha; intro a ha
      refine st_val (.agg #[.int .i64 0, .int .i64 0]) ha (by kernel_rfl) (by kernel_rfl) ?_
      clear ha; intro a ha
      refine st_ex ha (by kernel_rfl) (ex_buildSlice elt23 _ zs23 [.int .i64 0, .int .i64 0] s rfl (by kernel_rfl) (by decide)) ?_
      clear ha; rintro _ w a ⟨g25, rfl, s⟩ ha
      replace s : St W (.blk g25 [.int .i64 0, .int .i64 0] 34 :: .blk g24 [.int .i64 1, .int .i64 0, .int .i64 1, .int .i64 0] 34 :: .blk g23 [.int .i64 1, .int .i64 2, .int .i64 2, .int .i64 1] 37 :: .blk g22 [.int .i64 1, .int .i64 9007199254740991] 3 :: Own 3 1 A20 2 c21 (ints [1, 9007199254740991]) :: .blk g19 [.int .i64 9007199254740991, .int .i64 1, .int .i64 1, .int .i64 9007199254740991] 37 :: Own 3 1 A17 0 c18 (ints []) :: .blk g16 [.int .i64 1, .int .i64 9007199254740992] 37 :: Own 3 1 A14 0 c15 (ints []) :: .blk g13 [.int .i64 0, .int .i64 1] 37 :: Own 3 1 A11 0 c12 (ints []) :: Own 3 1 A9 0 c10 (ints []) :: .blk g6 [.int .i64 1, .int .i64 2] 37 :: Own 3 1 A4 1000 c5 (ints R1000) :: Forked 37 2 Ao 1000 co (egs (ringP 1000)) A7 1001 c8 [.int .i64 1, .int .i64 2] :: L) w := s
      refine st_call ha (by kernel_rfl) (by kernel_rfl) (victim_is W hW _ w (some ⟨g23, 0, none⟩) 2 2 [(1, 2), (2, 1)] (Knows.blk (j := 2) (cs := egs [(1, 2), (2, 1)]) rfl rfl) rfl (by omega) (some ⟨g25, 0, none⟩) 1 1 [(0, 0)] (Knows.blk (j := 0) (cs := egs [(0, 0)]) rfl rfl) rfl (by omega) (by decide) 0 false 2 V6 s) ?_
      rintro _ w ⟨rfl, s⟩
      replace s : St W (.blk g25 [.int .i64 0, .int .i64 0] 34 :: .blk g24 [.int .i64 1, .int .i64 0, .int .i64 1, .int .i64 0] 34 :: .blk g23 [.int .i64 1, .int .i64 2, .int .i64 2, .int .i64 1] 37 :: .blk g22 [.int .i64 1, .int .i64 9007199254740991] 3 :: Own 3 1 A20 2 c21 (ints [1, 9007199254740991]) :: .blk g19 [.int .i64 9007199254740991, .int .i64 1, .int .i64 1, .int .i64 9007199254740991] 37 :: Own 3 1 A17 0 c18 (ints []) :: .blk g16 [.int .i64 1, .int .i64 9007199254740992] 37 :: Own 3 1 A14 0 c15 (ints []) :: .blk g13 [.int .i64 0, .int .i64 1] 37 :: Own 3 1 A11 0 c12 (ints []) :: Own 3 1 A9 0 c10 (ints []) :: .blk g6 [.int .i64 1, .int .i64 2] 37 :: Own 3 1 A4 1000 c5 (ints R1000) :: Forked 37 2 Ao 1000 co (egs (ringP 1000)) A7 1001 c8 [.int .i64 1, .int .i64 2] :: L) w := s
      refine ⟨_, rfl, ?_⟩; clear ha; intro a ha
      refine st_val (.tuple #[.int .i64 0, .bool false, .int .i64 2]) ha (by kernel_rfl) (by kernel_rfl) ?_
      clear ha; intro a ha
      refine st_val (.int .i64 0) ha (by kernel_rfl) (by kernel_rfl) ?_
      clear ha; intro a ha
      refine st_val (.bool false) ha (by kernel_rfl) (by kernel_rfl) ?_
      clear ha; intro a ha
      refine st_val (.int .i64 2) ha (by kernel_rfl) (by kernel_rfl) ?_
      clear ha; intro a ha
      refine st_val (.int .i64 0) ha (by kernel_rfl) (by kernel_rfl) ?_
      clear ha; intro a ha
      refine st_val (.bool false) ha (by kernel_rfl) (by kernel_rfl) ?_
      clear ha; intro a ha
      refine st_val (.int .i64 2) ha (by kernel_rfl) (by kernel_rfl) ?_
      clear ha; intro a ha
      refine wpList_nil ?_
      refine then_normal ?_
      refine wp_seq ?_
      refine wp_region_lit ?_
      refine st_val (.slice (some ⟨g23, 0, none⟩) 2 2) ha (by kernel_rfl) (by kernel_rfl) ?_
      clear ha; intro a ha
      refine st_val (.agg #[.int .i64 1, .int .i64 (-1)]) ha (by kernel_rfl) (by kernel_rfl) ?_
      clear ha; intro a ha
      refine st_ex ha (by kernel_rfl) (ex_buildSlice elt23 _ zs23 [.int .i64 1, .int .i64 (-1)] s rfl (by kernel_rfl) (by decide)) ?_
      clear ha; rintro _ w a ⟨g26, rfl, s⟩ ha
      replace s : St W (.blk g26 [.int .i64 1, .int .i64 (-1)] 34 :: .blk g25 [.int .i64 0, .int .i64 0] 34 :: .blk g24 [.int .i64 1, .int .i64 0, .int .i64 1, .int .i64 0] 34 :: .blk g23 [.int .i64 1, .int .i64 2, .int .i64 2, .int .i64 1] 37 :: .blk g22 [.int .i64 1, .int .i64 9007199254740991] 3 :: Own 3 1 A20 2 c21 (ints [1, 9007199254740991]) :: .blk g19 [.int .i64 9007199254740991, .int .i64 1, .int .i64 1, .int .i64 9007199254740991] 37 :: Own 3 1 A17 0 c18 (ints []) :: .blk g16 [.int .i64 1, .int .i64 9007199254740992] 37 :: Own 3 1 A14 0 c15 (ints []) :: .blk g13 [.int .i64 0, .int .i64 1] 37 :: Own 3 1 A11 0 c12 (ints []) :: Own 3 1 A9 0 c10 (ints []) :: .blk g6 [.int .i64 1, .int .i64 2] 37 :: Own 3 1 A4 1000 c5 (ints R1000) :: Forked 37 2 Ao 1000 co (egs (ringP 1000)) A7 1001 c8 [.int .i64 1, .int .i64 2] :: L) w := s
      refine st_call ha (by kernel_rfl) (by kernel_rfl) (victim_is W hW _ w (some ⟨g23, 0, none⟩) 2 2 [(1, 2), (2, 1)] (Knows.blk (j := 3) (cs := egs [(1, 2), (2, 1)]) rfl rfl) rfl (by omega) (some ⟨g26, 0, none⟩) 1 1 [(1, -1)] (Knows.blk (j := 0) (cs := egs [(1, -1)]) rfl rfl) rfl (by omega) (by decide) 0 false 2 V7 s) ?_
      rintro _ w ⟨rfl, s⟩
      replace s : St W (.blk g26 [.int .i64 1, .int .i64 (-1)] 34 :: .blk g25 [.int .i64 0, .int .i64 0] 34 :: .blk g24 [.int .i64 1, .int .i64 0, .int .i64 1, .int .i64 0] 34 :: .blk g23 [.int .i64 1, .int .i64 2, .int .i64 2, .int .i64 1] 37 :: .blk g22 [.int .i64 1, .int .i64 9007199254740991] 3 :: Own 3 1 A20 2 c21 (ints [1, 9007199254740991]) :: .blk g19 [.int .i64 9007199254740991, .int .i64 1, .int .i64 1, .int .i64 9007199254740991] 37 :: Own 3 1 A17 0 c18 (ints []) :: .blk g16 [.int .i64 1, .int .i64 9007199254740992] 37 :: Own 3 1 A14 0 c15 (ints []) :: .blk g13 [.int .i64 0, .int .i64 1] 37 :: Own 3 1 A11 0 c12 (ints []) :: Own 3 1 A9 0 c10 (ints []) :: .blk g6 [.int .i64 1, .int .i64 2] 37 :: Own 3 1 A4 1000 c5 (ints R1000) :: Forked 37 2 Ao 1000 co (egs (ringP 1000)) A7 1001 c8 [.int .i64 1, .int .i64 2] :: L) w := s
      refine ⟨_, rfl, ?_⟩; clear ha; intro a ha
      refine st_val (.tuple #[.int .i64 0, .bool false, .int .i64 2]) ha (by kernel_rfl) (by kernel_rfl) ?_
      clear ha; intro a ha
      refine st_val (.int .i64 0) ha (by kernel_rfl) (by kernel_rfl) ?_
      clear ha; intro a ha
      refine st_val (.bool false) ha (by kernel_rfl) (by kernel_rfl) ?_
      clear ha; intro a ha
      refine st_val (.int .i64 2) ha (by kernel_rfl) (by kernel_rfl) ?_
      clear ha; intro a ha
      refine st_val (.int .i64 0) ha (by kernel_rfl) (by kernel_rfl) ?_
      clear ha; intro a ha
      refine st_val (.bool false) ha (by kernel_rfl) (by kernel_rfl) ?_
      clear ha; intro a ha
      refine st_val (.int .i64 2) ha (by kernel_rfl) (by kernel_rfl) ?_
      clear ha; intro a ha
      refine wpList_nil ?_
      refine then_normal ?_
      refine wp_seq ?_
      refine wp_region_lit ?_
      refine st_val (.slice (some ⟨g23, 0, none⟩) 2 2) ha (by kernel_rfl) (by kernel_rfl) ?_
      clear ha; intro a ha
      refine st_val (.int .i64 9007199254740991) ha (by kernel_rfl) (by kernel_rfl) ?_
      clear ha; intro a ha
      refine st_val (.int .i64 9007199254740992) ha (by kernel_rfl) (by kernel_rfl) ?_
      clear ha; intro a ha
      refine st_val (.agg #[.int .i64 1, .int .i64 9007199254740992]) ha (by kernel_rfl) (by kernel_rfl) ?_
      clear ha; intro a ha
      refine st_ex ha (by kernel_rfl) (ex_buildSlice elt23 _ zs23 [.int .i64 1, .int .i64 9007199254740992] s rfl (by kernel_rfl) (by decide)) ?_
      clear ha; rintro _ w a ⟨g27, rfl, s⟩ ha
      replace s : St W (.blk g27 [.int .i64 1, .int .i64 9007199254740992] 34 :: .blk g26 [.int .i64 1, .int .i64 (-1)] 34 :: .blk g25 [.int .i64 0, .int .i64 0] 34 :: .blk g24 [.int .i64 1, .int .i64 0, .int .i64 1, .int .i64 0] 34 :: .blk g23 [.int .i64 1, .int .i64 2, .int .i64 2, .int .i64 1] 37 :: .blk g22 [.int .i64 1, .int .i64 9007199254740991] 3 :: Own 3 1 A20 2 c21 (ints [1, 9007199254740991]) :: .blk g19 [.int .i64 9007199254740991, .int .i64 1, .int .i64 1, .int .i64 9007199254740991] 37 :: Own 3 1 A17 0 c18 (ints []) :: .blk g16 [.int .i64 1, .int .i64 9007199254740992] 37 :: Own 3 1 A14 0 c15 (ints []) :: .blk g13 [.int .i64 0, .int .i64 1] 37 :: Own 3 1 A11 0 c12 (ints []) :: Own 3 1 A9 0 c10 (ints []) :: .blk g6 [.int .i64 1, .int .i64 2] 37 :: Own 3 1 A4 1000 c5 (ints R1000) :: Forked 37 2 Ao 1000 co (egs (ringP 1000)) A7 1001 c8 [.int .i64 1, .int .i64 2] :: L) w := s
      refine st_call ha (by kernel_rfl) (by kernel_rfl) (victim_is W hW _ w (some ⟨g23, 0, none⟩) 2 2 [(1, 2), (2, 1)] (Knows.blk (j := 4) (cs := egs [(1, 2), (2, 1)]) rfl rfl) rfl (by omega) (some ⟨g27, 0, none⟩) 1 1 [(1, 9007199254740992)] (Knows.blk (j := 0) (cs := egs [(1, 9007199254740992)]) rfl rfl) rfl (by omega) (by decide) 0 false 2 V8 s) ?_
      rintro _ w ⟨rfl, s⟩
      replace s : St W (.blk g27 [.int .i64 1, .int .i64 9007199254740992] 34 :: .blk g26 [.int .i64 1, .int .i64 (-1)] 34 :: .blk g25 [.int .i64 0, .int .i64 0] 34 :: .blk g24 [.int .i64 1, .int .i64 0, .int .i64 1, .int .i64 0] 34 :: .blk g23 [.int .i64 1, .int .i64 2, .int .i64 2, .int .i64 1] 37 :: .blk g22 [.int .i64 1, .int .i64 9007199254740991] 3 :: Own 3 1 A20 2 c21 (ints [1, 9007199254740991]) :: .blk g19 [.int .i64 9007199254740991, .int .i64 1, .int .i64 1, .int .i64 9007199254740991] 37 :: Own 3 1 A17 0 c18 (ints []) :: .blk g16 [.int .i64 1, .int .i64 9007199254740992] 37 :: Own 3 1 A14 0 c15 (ints []) :: .blk g13 [.int .i64 0, .int .i64 1] 37 :: Own 3 1 A11 0 c12 (ints []) :: Own 3 1 A9 0 c10 (ints []) :: .blk g6 [.int .i64 1, .int .i64 2] 37 :: Own 3 1 A4 1000 c5 (ints R1000) :: Forked 37 2 Ao 1000 co (egs (ringP 1000)) A7 1001 c8 [.int .i64 1, .int .i64 2] :: L) w := s
      refine ⟨_, rfl, ?_⟩; clear ha; intro a ha
      refine st_val (.tuple #[.int .i64 0, .bool false, .int .i64 2]) ha (by kernel_rfl) (by kernel_rfl) ?_
      clear ha; intro a ha
      refine st_val (.int .i64 0) ha (by kernel_rfl) (by kernel_rfl) ?_
      clear ha; intro a ha
      refine st_val (.bool false) ha (by kernel_rfl) (by kernel_rfl) ?_
      clear ha; intro a ha
      refine st_val (.int .i64 2) ha (by kernel_rfl) (by kernel_rfl) ?_
      clear ha; intro a ha
      refine st_val (.int .i64 0) ha (by kernel_rfl) (by kernel_rfl) ?_
      clear ha; intro a ha
      refine st_val (.bool false) ha (by kernel_rfl) (by kernel_rfl) ?_
      clear ha; intro a ha
      refine st_val (.int .i64 2) ha (by kernel_rfl) (by kernel_rfl) ?_
      clear ha; intro a ha
      refine wpList_nil ?_
      refine then_normal ?_
      refine wp_seq ?_
      refine wp_region_lit ?_
      refine st_val (.slice (some ⟨g23, 0, none⟩) 2 2) ha (by kernel_rfl) (by kernel_rfl) ?_
      clear ha; intro a ha
      refine st_ex ha (by kernel_rfl) (ex_makeSlice (n := 1001) (c := 1001) (kx := .i64) (ky := .i64) elt23 _ zs23 s rfl rfl rfl (by omega) (by omega) (by omega) (by simp [roomBytes])) ?_
      clear ha; rintro _ w a ⟨g28, rfl, s⟩ ha
      rw [made_two] at s
      replace s : St W (.blk g28 (egs many) 34 :: .blk g27 [.int .i64 1, .int .i64 9007199254740992] 34 :: .blk g26 [.int .i64 1, .int .i64 (-1)] 34 :: .blk g25 [.int .i64 0, .int .i64 0] 34 :: .blk g24 [.int .i64 1, .int .i64 0, .int .i64 1, .int .i64 0] 34 :: .blk g23 [.int .i64 1, .int .i64 2, .int .i64 2, .int .i64 1] 37 :: .blk g22 [.int .i64 1, .int .i64 9007199254740991] 3 :: Own 3 1 A20 2 c21 (ints [1, 9007199254740991]) :: .blk g19 [.int .i64 9007199254740991, .int .i64 1, .int .i64 1, .int .i64 9007199254740991] 37 :: Own 3 1 A17 0 c18 (ints []) :: .blk g16 [.int .i64 1, .int .i64 9007199254740992] 37 :: Own 3 1 A14 0 c15 (ints []) :: .blk g13 [.int .i64 0, .int .i64 1] 37 :: Own 3 1 A11 0 c12 (ints []) :: Own 3 1 A9 0 c10 (ints []) :: .blk g6 [.int .i64 1, .int .i64 2] 37 :: Own 3 1 A4 1000 c5 (ints R1000) :: Forked 37 2 Ao 1000 co (egs (ringP 1000)) A7 1001 c8 [.int .i64 1, .int .i64 2] :: L) w := s
      refine st_call ha (by kernel_rfl) (by kernel_rfl) (victim_is W hW _ w (some ⟨g23, 0, none⟩) 2 2 [(1, 2), (2, 1)] (Knows.blk (j := 5) (cs := egs [(1, 2), (2, 1)]) rfl rfl) rfl (by omega) (some ⟨g28, 0, none⟩) 1001 1001 many (Knows.blk (j := 0) (cs := egs many) rfl (by rw [egs_len, many_len])) many_len (by omega) (fun x hx => by have := (List.mem_replicate.1 hx).2; subst this; decide) 0 false 5 V9 s) ?_
      rintro _ w ⟨rfl, s⟩
      replace s : St W (.blk g28 (egs many) 34 :: .blk g27 [.int .i64 1, .int .i64 9007199254740992] 34 :: .blk g26 [.int .i64 1, .int .i64 (-1)] 34 :: .blk g25 [.int .i64 0, .int .i64 0] 34 :: .blk g24 [.int .i64 1, .int .i64 0, .int .i64 1, .int .i64 0] 34 :: .blk g23 [.int .i64 1, .int .i64 2, .int .i64 2, .int .i64 1] 37 :: .blk g22 [.int .i64 1, .int .i64 9007199254740991] 3 :: Own 3 1 A20 2 c21 (ints [1, 9007199254740991]) :: .blk g19 [.int .i64 9007199254740991, .int .i64 1, .int .i64 1, .int .i64 9007199254740991] 37 :: Own 3 1 A17 0 c18 (ints []) :: .blk g16 [.int .i64 1, .int .i64 9007199254740992] 37 :: Own 3 1 A14 0 c15 (ints []) :: .blk g13 [.int .i64 0, .int .i64 1] 37 :: Own 3 1 A11 0 c12 (ints []) :: Own 3 1 A9 0 c10 (ints []) :: .blk g6 [.int .i64 1, .int .i64 2] 37 :: Own 3 1 A4 1000 c5 (ints R1000) :: Forked 37 2 Ao 1000 co (egs (ringP 1000)) A7 1001 c8 [.int .i64 1, .int .i64 2] :: L) w := s
      refine ⟨_, rfl, ?_⟩; clear ha; intro a ha
      refine st_val (.tuple #[.int .i64 0, .bool false, .int .i64 5]) ha (by kernel_rfl) (by kernel_rfl) ?_
      clear ha; intro a ha
      refine st_val (.int .i64 0) ha (by kernel_rfl) (by kernel_rfl) ?_
      clear ha; intro a ha
      refine st_val (.bool false) ha (by kernel_rfl) (by kernel_rfl) ?_
      clear ha; intro a ha
      refine st_val (.int .i64 5) ha (by kernel_rfl) (by kernel_rfl) ?_
      clear ha; intro a ha
      refine st_val (.int .i64 0) ha (by kernel_rfl) (by kernel_rfl) ?_
      clear ha; intro a ha
      refine st_val (.bool false) ha (by kernel_rfl) (by kernel_rfl) ?_
      clear ha; intro a ha
      refine st_val (.int .i64 5) ha (by kernel_rfl) (by kernel_rfl) ?_
      clear ha; intro a ha
      refine wpList_nil ?_
      refine then_normal ?_
      refine wp_seq ?_
      refine wp_region_lit ?_
      refine st_val (.agg #[.int .i64 1, .int .i64 1]) ha (by kernel_rfl) (by kernel_rfl) ?_
      clear ha; intro a ha
      refine st_ex ha (by kernel_rfl) (ex_buildSlice elt22 _ zs22 [.int .i64 1, .int .i64 1] s rfl (by kernel_rfl) (by decide)) ?_
      clear ha; rintro _ w a ⟨g29, rfl, s⟩ ha
      replace s : St W (.blk g29 [.int .i64 1, .int .i64 1] 37 :: .blk g28 (egs many) 34 :: .blk g27 [.int .i64 1, .int .i64 9007199254740992] 34 :: .blk g26 [.int .i64 1, .int .i64 (-1)] 34 :: .blk g25 [.int .i64 0, .int .i64 0] 34 :: .blk g24 [.int .i64 1, .int .i64 0, .int .i64 1, .int .i64 0] 34 :: .blk g23 [.int .i64 1, .int .i64 2, .int .i64 2, .int .i64 1] 37 :: .blk g22 [.int .i64 1, .int .i64 9007199254740991] 3 :: Own 3 1 A20 2 c21 (ints [1, 9007199254740991]) :: .blk g19 [.int .i64 9007199254740991, .int .i64 1, .int .i64 1, .int .i64 9007199254740991] 37 :: Own 3 1 A17 0 c18 (ints []) :: .blk g16 [.int .i64 1, .int .i64 9007199254740992] 37 :: Own 3 1 A14 0 c15 (ints []) :: .blk g13 [.int .i64 0, .int .i64 1] 37 :: Own 3 1 A11 0 c12 (ints []) :: Own 3 1 A9 0 c10 (ints []) :: .blk g6 [.int .i64 1, .int .i64 2] 37 :: Own 3 1 A4 1000 c5 (ints R1000) :: Forked 37 2 Ao 1000 co (egs (ringP 1000)) A7 1001 c8 [.int .i64 1, .int .i64 2] :: L) w := s
      refine st_ex ha (by kernel_rfl) (ex_makeSlice (n := 1001) (c := 1001) (kx := .i64) (ky := .i64) elt23 _ zs23 s rfl rfl rfl (by omega) (by omega) (by omega) (by simp [roomBytes])) ?_
      clear ha; rintro _ w a ⟨g30, rfl, s⟩ ha
      rw [made_two] at s
      replace s : St W (.blk g30 (egs many) 34 :: .blk g29 [.int .i64 1, .int .i64 1] 37 :: .blk g28 (egs many) 34 :: .blk g27 [.int .i64 1, .int .i64 9007199254740992] 34 :: .blk g26 [.int .i64 1, .int .i64 (-1)] 34 :: .blk g25 [.int .i64 0, .int .i64 0] 34 :: .blk g24 [.int .i64 1, .int .i64 0, .int .i64 1, .int .i64 0] 34 :: .blk g23 [.int .i64 1, .int .i64 2, .int .i64 2, .int .i64 1] 37 :: .blk g22 [.int .i64 1, .int .i64 9007199254740991] 3 :: Own 3 1 A20 2 c21 (ints [1, 9007199254740991]) :: .blk g19 [.int .i64 9007199254740991, .int .i64 1, .int .i64 1, .int .i64 9007199254740991] 37 :: Own 3 1 A17 0 c18 (ints []) :: .blk g16 [.int .i64 1, .int .i64 9007199254740992] 37 :: Own 3 1 A14 0 c15 (ints []) :: .blk g13 [.int .i64 0, .int .i64 1] 37 :: Own 3 1 A11 0 c12 (ints []) :: Own 3 1 A9 0 c10 (ints []) :: .blk g6 [.int .i64 1, .int .i64 2] 37 :: Own 3 1 A4 1000 c5 (ints R1000) :: Forked 37 2 Ao 1000 co (egs (ringP 1000)) A7 1001 c8 [.int .i64 1, .int .i64 2] :: L) w := s
      refine st_call ha (by kernel_rfl) (by kernel_rfl) (victim_is W hW _ w (some ⟨g29, 0, none⟩) 1 1 [(1, 1)] (Knows.blk (j := 1) (cs := egs [(1, 1)]) rfl rfl) rfl (by omega) (some ⟨g30, 0, none⟩) 1001 1001 many (Knows.blk (j := 0) (cs := egs many) rfl (by rw [egs_len, many_len])) many_len (by omega) (fun x hx => by have := (List.mem_replicate.1 hx).2; subst this; decide) 0 false 2 V10 s) ?_
      rintro _ w ⟨rfl, s⟩
      replace s : St W (.blk g30 (egs many) 34 :: .blk g29 [.int .i64 1, .int .i64 1] 37 :: .blk g28 (egs many) 34 :: .blk g27 [.int .i64 1, .int .i64 9007199254740992] 34 :: .blk g26 [.int .i64 1, .int .i64 (-1)] 34 :: .blk g25 [.int .i64 0, .int .i64 0] 34 :: .blk g24 [.int .i64 1, .int .i64 0, .int .i64 1, .int .i64 0] 34 :: .blk g23 [.int .i64 1, .int .i64 2, .int .i64 2, .int .i64 1] 37 :: .blk g22 [.int .i64 1, .int .i64 9007199254740991] 3 :: Own 3 1 A20 2 c21 (ints [1, 9007199254740991]) :: .blk g19 [.int .i64 9007199254740991, .int .i64 1, .int .i64 1, .int .i64 9007199254740991] 37 :: Own 3 1 A17 0 c18 (ints []) :: .blk g16 [.int .i64 1, .int .i64 9007199254740992] 37 :: Own 3 1 A14 0 c15 (ints []) :: .blk g13 [.int .i64 0, .int .i64 1] 37 :: Own 3 1 A11 0 c12 (ints []) :: Own 3 1 A9 0 c10 (ints []) :: .blk g6 [.int .i64 1, .int .i64 2] 37 :: Own 3 1 A4 1000 c5 (ints R1000) :: Forked 37 2 Ao 1000 co (egs (ringP 1000)) A7 1001 c8 [.int .i64 1, .int .i64 2] :: L) w := s
      refine ⟨_, rfl, ?_⟩; clear ha; intro a ha
      refine st_val (.tuple #[.int .i64 0, .bool false, .int .i64 2]) ha (by kernel_rfl) (by kernel_rfl) ?_
      clear ha; intro a ha
      refine st_val (.int .i64 0) ha (by kernel_rfl) (by kernel_rfl) ?_
      clear ha; intro a ha
      refine st_val (.bool false) ha (by kernel_rfl) (by kernel_rfl) ?_
      clear ha; intro a ha
      refine st_val (.int .i64 2) ha (by kernel_rfl) (by kernel_rfl) ?_
      clear ha; intro a ha
      refine st_val (.int .i64 0) ha (by kernel_rfl) (by kernel_rfl) ?_
      clear ha; intro a ha
      refine st_val (.bool false) ha (by kernel_rfl) (by kernel_rfl) ?_
      clear ha; intro a ha
      refine st_val (.int .i64 2) ha (by kernel_rfl) (by kernel_rfl) ?_
      clear ha; intro a ha
      refine wpList_nil ?_
      refine then_normal ?_
      refine wp_seq ?_
      refine wp_region_lit ?_
      refine st_val (.int .i64 2) ha (by kernel_rfl) (by kernel_rfl) ?_
      clear ha; intro a ha
      refine st_val (.bool true) ha (by kernel_rfl) (by kernel_rfl) ?_
      clear ha; intro a ha
      refine st_val (.bool true) ha (by kernel_rfl) (by kernel_rfl) ?_
      clear ha; intro a ha
      refine st_val (.int .i64 2) ha (by kernel_rfl) (by kernel_rfl) ?_
      clear ha; intro a ha
      refine st_val (.bool true) ha (by kernel_rfl) (by kernel_rfl) ?_
      clear ha; intro a ha
      refine st_val (.bool true) ha (by kernel_rfl) (by kernel_rfl) ?_
      clear ha; intro a ha
      refine st_val (.bool true) ha (by kernel_rfl) (by kernel_rfl) ?_
      clear ha; intro a ha
      refine st_val (.int .i64 2) ha (by kernel_rfl) (by kernel_rfl) ?_
      clear ha; intro a ha
      refine st_val (.bool true) ha (by kernel_rfl) (by kernel_rfl) ?_
      clear ha; intro a ha
      refine st_val (.bool true) ha (by kernel_rfl) (by kernel_rfl) ?_
      clear ha; intro a ha
      refine st_val (.bool true) ha (by kernel_rfl) (by kernel_rfl) ?_
      clear ha; intro a ha
      refine st_val (.int .i64 2) ha (by kernel_rfl) (by kernel_rfl) ?_
      clear ha; intro a ha
      refine st_val (.bool true) ha (by kernel_rfl) (by kernel_rfl) ?_
      clear ha; intro a ha
      refine st_val (.bool true) ha (by kernel_rfl) (by kernel_rfl) ?_
      clear ha; intro a ha
      refine st_val (.bool true) ha (by kernel_rfl) (by kernel_rfl) ?_
      clear ha; intro a ha
      refine st_val (.int .i64 5) ha (by kernel_rfl) (by kernel_rfl) ?_
      clear ha; intro a ha
      refine st_val (.bool true) ha (by kernel_rfl) (by kernel_rfl) ?_
      clear ha; intro a ha
      refine st_val (.bool true) ha (by kernel_rfl) (by kernel_rfl) ?_
      clear ha; intro a ha
      refine st_val (.bool true) ha (by kernel_rfl) (by kernel_rfl) ?_
      clear ha; intro a ha
      refine st_val (.int .i64 2) ha (by kernel_rfl) (by kernel_rfl) ?_
      clear ha; intro a ha
      refine st_val (.bool true) ha (by kernel_rfl) (by kernel_rfl) ?_
      clear ha; intro a ha
      refine st_val (.bool true) ha (by kernel_rfl) (by kernel_rfl) ?_
      clear ha; intro a ha
      refine st_val (.bool true) ha (by kernel_rfl) (by kernel_rfl) ?_
      clear ha; intro a ha
      refine wpList_nil ?_
      refine then_normal ?_
      refine wp_seq ?_
      refine wp_region_lit ?_
      refine st_val (.bool true) ha (by kernel_rfl) (by kernel_rfl) ?_
      clear ha; intro a ha
      refine st_call ha (by kernel_rfl) (by kernel_rfl) (works_true W hW _ w s) ?_
      rintro _ w ⟨rfl, s⟩
      replace s : St W (.blk g30 (egs many) 34 :: .blk g29 [.int .i64 1, .int .i64 1] 37 :: .blk g28 (egs many) 34 :: .blk g27 [.int .i64 1, .int .i64 9007199254740992] 34 :: .blk g26 [.int .i64 1, .int .i64 (-1)] 34 :: .blk g25 [.int .i64 0, .int .i64 0] 34 :: .blk g24 [.int .i64 1, .int .i64 0, .int .i64 1, .int .i64 0] 34 :: .blk g23 [.int .i64 1, .int .i64 2, .int .i64 2, .int .i64 1] 37 :: .blk g22 [.int .i64 1, .int .i64 9007199254740991] 3 :: Own 3 1 A20 2 c21 (ints [1, 9007199254740991]) :: .blk g19 [.int .i64 9007199254740991, .int .i64 1, .int .i64 1, .int .i64 9007199254740991] 37 :: Own 3 1 A17 0 c18 (ints []) :: .blk g16 [.int .i64 1, .int .i64 9007199254740992] 37 :: Own 3 1 A14 0 c15 (ints []) :: .blk g13 [.int .i64 0, .int .i64 1] 37 :: Own 3 1 A11 0 c12 (ints []) :: Own 3 1 A9 0 c10 (ints []) :: .blk g6 [.int .i64 1, .int .i64 2] 37 :: Own 3 1 A4 1000 c5 (ints R1000) :: Forked 37 2 Ao 1000 co (egs (ringP 1000)) A7 1001 c8 [.int .i64 1, .int .i64 2] :: L) w := s
      refine ⟨_, rfl, ?_⟩; clear ha; intro a ha
      refine st_val (.bool true) ha (by kernel_rfl) (by kernel_rfl) ?_
      clear ha; intro a ha
      refine st_val (.bool true) ha (by kernel_rfl) (by kernel_rfl) ?_
      clear ha; intro a ha
      refine st_val (.bool true) ha (by kernel_rfl) (by kernel_rfl) ?_
      clear ha; intro a ha
      refine st_val (.bool true) ha (by kernel_rfl) (by kernel_rfl) ?_
      clear ha; intro a ha
      refine st_val (.bool true) ha (by kernel_rfl) (by kernel_rfl) ?_
      clear ha; intro a ha
      refine st_val (.bool true) ha (by kernel_rfl) (by kernel_rfl) ?_
      clear ha; intro a ha
      refine st_val (.bool true) ha (by kernel_rfl) (by kernel_rfl) ?_
      clear ha; intro a ha
      refine st_val (.bool true) ha (by kernel_rfl) (by kernel_rfl) ?_
      clear ha; intro a ha
      refine st_val (.slice (some ⟨g23, 0, none⟩) 2 2) ha (by kernel_rfl) (by kernel_rfl) ?_
      clear ha; intro a ha
      refine st_val (.int .i64 9007199254740991) ha (by kernel_rfl) (by kernel_rfl) ?_
      clear ha; intro a ha
      refine st_val (.agg #[.int .i64 1, .int .i64 9007199254740991]) ha (by kernel_rfl) (by kernel_rfl) ?_
      clear ha; intro a ha
      refine st_val (.int .i64 9007199254740991) ha (by kernel_rfl) (by kernel_rfl) ?_
      clear ha; intro a ha
      refine st_val (.agg #[.int .i64 2, .int .i64 9007199254740991]) ha (by kernel_rfl) (by kernel_rfl) ?_
      clear ha; intro a ha
      refine st_val (.agg #[.int .i64 9, .int .i64 0]) ha (by kernel_rfl) (by kernel_rfl) ?_
      clear ha; intro a ha
      refine st_ex ha (by kernel_rfl) (ex_buildSlice elt23 _ zs23 [.int .i64 1, .int .i64 9007199254740991, .int .i64 2, .int .i64 9007199254740991, .int .i64 9, .int .i64 0] s rfl (by kernel_rfl) (by decide)) ?_
      clear ha; rintro _ w a ⟨g31, rfl, s⟩ ha
      replace s : St W (.blk g31 [.int .i64 1, .int .i64 9007199254740991, .int .i64 2, .int .i64 9007199254740991, .int .i64 9, .int .i64 0] 34 :: .blk g30 (egs many) 34 :: .blk g29 [.int .i64 1, .int .i64 1] 37 :: .blk g28 (egs many) 34 :: .blk g27 [.int .i64 1, .int .i64 9007199254740992] 34 :: .blk g26 [.int .i64 1, .int .i64 (-1)] 34 :: .blk g25 [.int .i64 0, .int .i64 0] 34 :: .blk g24 [.int .i64 1, .int .i64 0, .int .i64 1, .int .i64 0] 34 :: .blk g23 [.int .i64 1, .int .i64 2, .int .i64 2, .int .i64 1] 37 :: .blk g22 [.int .i64 1, .int .i64 9007199254740991] 3 :: Own 3 1 A20 2 c21 (ints [1, 9007199254740991]) :: .blk g19 [.int .i64 9007199254740991, .int .i64 1, .int .i64 1, .int .i64 9007199254740991] 37 :: Own 3 1 A17 0 c18 (ints []) :: .blk g16 [.int .i64 1, .int .i64 9007199254740992] 37 :: Own 3 1 A14 0 c15 (ints []) :: .blk g13 [.int .i64 0, .int .i64 1] 37 :: Own 3 1 A11 0 c12 (ints []) :: Own 3 1 A9 0 c10 (ints []) :: .blk g6 [.int .i64 1, .int .i64 2] 37 :: Own 3 1 A4 1000 c5 (ints R1000) :: Forked 37 2 Ao 1000 co (egs (ringP 1000)) A7 1001 c8 [.int .i64 1, .int .i64 2] :: L) w := s
      refine st_call ha (by kernel_rfl) (by kernel_rfl) (victimIs_any W hW _ w (some ⟨g23, 0, none⟩) 2 2 [(1, 2), (2, 1)] (Knows.blk (j := 8) (cs := egs [(1, 2), (2, 1)]) rfl rfl) rfl (by omega) (some ⟨g31, 0, none⟩) 3 3 [(1, 9007199254740991), (2, 9007199254740991), (9, 0)] (Knows.blk (j := 0) (cs := egs [(1, 9007199254740991), (2, 9007199254740991), (9, 0)]) rfl rfl) rfl (by omega) (by decide) 1 1 true V11 (by decide) rfl s) ?_
      rintro _ w ⟨rfl, s⟩
      replace s : St W (.blk g31 [.int .i64 1, .int .i64 9007199254740991, .int .i64 2, .int .i64 9007199254740991, .int .i64 9, .int .i64 0] 34 :: .blk g30 (egs many) 34 :: .blk g29 [.int .i64 1, .int .i64 1] 37 :: .blk g28 (egs many) 34 :: .blk g27 [.int .i64 1, .int .i64 9007199254740992] 34 :: .blk g26 [.int .i64 1, .int .i64 (-1)] 34 :: .blk g25 [.int .i64 0, .int .i64 0] 34 :: .blk g24 [.int .i64 1, .int .i64 0, .int .i64 1, .int .i64 0] 34 :: .blk g23 [.int .i64 1, .int .i64 2, .int .i64 2, .int .i64 1] 37 :: .blk g22 [.int .i64 1, .int .i64 9007199254740991] 3 :: Own 3 1 A20 2 c21 (ints [1, 9007199254740991]) :: .blk g19 [.int .i64 9007199254740991, .int .i64 1, .int .i64 1, .int .i64 9007199254740991] 37 :: Own 3 1 A17 0 c18 (ints []) :: .blk g16 [.int .i64 1, .int .i64 9007199254740992] 37 :: Own 3 1 A14 0 c15 (ints []) :: .blk g13 [.int .i64 0, .int .i64 1] 37 :: Own 3 1 A11 0 c12 (ints []) :: Own 3 1 A9 0 c10 (ints []) :: .blk g6 [.int .i64 1, .int .i64 2] 37 :: Own 3 1 A4 1000 c5 (ints R1000) :: Forked 37 2 Ao 1000 co (egs (ringP 1000)) A7 1001 c8 [.int .i64 1, .int .i64 2] :: L) w := s
      refine ⟨_, rfl, ?_⟩; clear ha; intro a ha
      refine st_val (.bool true) ha (by kernel_rfl) (by kernel_rfl) ?_
      clear ha; intro a ha
      refine st_val (.bool true) ha (by kernel_rfl) (by kernel_rfl) ?_
      clear ha; intro a ha
      refine st_val (.agg #[.int .i64 1, .int .i64 2]) ha (by kernel_rfl) (by kernel_rfl) ?_
      clear ha; intro a ha
      refine st_val (.agg #[.int .i64 2, .int .i64 1]) ha (by kernel_rfl) (by kernel_rfl) ?_
      clear ha; intro a ha
      refine st_val (.agg #[.int .i64 3, .int .i64 4]) ha (by kernel_rfl) (by kernel_rfl) ?_
      clear ha; intro a ha
      refine st_val (.agg #[.int .i64 4, .int .i64 3]) ha (by kernel_rfl) (by kernel_rfl) ?_
      clear ha; intro a ha
      refine st_ex ha (by kernel_rfl) (ex_buildSlice elt22 _ zs22 [.int .i64 1, .int .i64 2, .int .i64 2, .int .i64 1, .int .i64 3, .int .i64 4, .int .i64 4, .int .i64 3] s rfl (by kernel_rfl) (by decide)) ?_
      clear ha; rintro _ w a ⟨g32, rfl, s⟩ ha
      replace s : St W (.blk g32 [.int .i64 1, .int .i64 2, .int .i64 2, .int .i64 1, .int .i64 3, .int .i64 4, .int .i64 4, .int .i64 3] 37 :: .blk g31 [.int .i64 1, .int .i64 9007199254740991, .int .i64 2, .int .i64 9007199254740991, .int .i64 9, .int .i64 0] 34 :: .blk g30 (egs many) 34 :: .blk g29 [.int .i64 1, .int .i64 1] 37 :: .blk g28 (egs many) 34 :: .blk g27 [.int .i64 1, .int .i64 9007199254740992] 34 :: .blk g26 [.int .i64 1, .int .i64 (-1)] 34 :: .blk g25 [.int .i64 0, .int .i64 0] 34 :: .blk g24 [.int .i64 1, .int .i64 0, .int .i64 1, .int .i64 0] 34 :: .blk g23 [.int .i64 1, .int .i64 2, .int .i64 2, .int .i64 1] 37 :: .blk g22 [.int .i64 1, .int .i64 9007199254740991] 3 :: Own 3 1 A20 2 c21 (ints [1, 9007199254740991]) :: .blk g19 [.int .i64 9007199254740991, .int .i64 1, .int .i64 1, .int .i64 9007199254740991] 37 :: Own 3 1 A17 0 c18 (ints []) :: .blk g16 [.int .i64 1, .int .i64 9007199254740992] 37 :: Own 3 1 A14 0 c15 (ints []) :: .blk g13 [.int .i64 0, .int .i64 1] 37 :: Own 3 1 A11 0 c12 (ints []) :: Own 3 1 A9 0 c10 (ints []) :: .blk g6 [.int .i64 1, .int .i64 2] 37 :: Own 3 1 A4 1000 c5 (ints R1000) :: Forked 37 2 Ao 1000 co (egs (ringP 1000)) A7 1001 c8 [.int .i64 1, .int .i64 2] :: L) w := s
      refine st_val (.agg #[.int .i64 1, .int .i64 2]) ha (by kernel_rfl) (by kernel_rfl) ?_
      clear ha; intro a ha
      refine st_val (.agg #[.int .i64 2, .int .i64 2]) ha (by kernel_rfl) (by kernel_rfl) ?_
      clear ha; intro a ha
      refine st_val (.agg #[.int .i64 3, .int .i64 1]) ha (by kernel_rfl) (by kernel_rfl) ?_
      clear ha; intro a ha
      refine st_val (.agg #[.int .i64 4, .int .i64 1]) ha (by kernel_rfl) (by kernel_rfl) ?_
      clear ha; intro a ha
      refine st_ex ha (by kernel_rfl) (ex_buildSlice elt23 _ zs23 [.int .i64 1, .int .i64 2, .int .i64 2, .int .i64 2, .int .i64 3, .int .i64 1, .int .i64 4, .int .i64 1] s rfl (by kernel_rfl) (by decide)) ?_
      clear ha; rintro _ w a ⟨g33, rfl, s⟩ ha
      replace s : St W (.blk g33 [.int .i64 1, .int .i64 2, .int .i64 2, .int .i64 2, .int .i64 3, .int .i64 1, .int .i64 4, .int .i64 1] 34 :: .blk g32 [.int .i64 1, .int .i64 2, .int .i64 2, .int .i64 1, .int .i64 3, .int .i64 4, .int .i64 4, .int .i64 3] 37 :: .blk g31 [.int .i64 1, .int .i64 9007199254740991, .int .i64 2, .int .i64 9007199254740991, .int .i64 9, .int .i64 0] 34 :: .blk g30 (egs many) 34 :: .blk g29 [.int .i64 1, .int .i64 1] 37 :: .blk g28 (egs many) 34 :: .blk g27 [.int .i64 1, .int .i64 9007199254740992] 34 :: .blk g26 [.int .i64 1, .int .i64 (-1)] 34 :: .blk g25 [.int .i64 0, .int .i64 0] 34 :: .blk g24 [.int .i64 1, .int .i64 0, .int .i64 1, .int .i64 0] 34 :: .blk g23 [.int .i64 1, .int .i64 2, .int .i64 2, .int .i64 1] 37 :: .blk g22 [.int .i64 1, .int .i64 9007199254740991] 3 :: Own 3 1 A20 2 c21 (ints [1, 9007199254740991]) :: .blk g19 [.int .i64 9007199254740991, .int .i64 1, .int .i64 1, .int .i64 9007199254740991] 37 :: Own 3 1 A17 0 c18 (ints []) :: .blk g16 [.int .i64 1, .int .i64 9007199254740992] 37 :: Own 3 1 A14 0 c15 (ints []) :: .blk g13 [.int .i64 0, .int .i64 1] 37 :: Own 3 1 A11 0 c12 (ints []) :: Own 3 1 A9 0 c10 (ints []) :: .blk g6 [.int .i64 1, .int .i64 2] 37 :: Own 3 1 A4 1000 c5 (ints R1000) :: Forked 37 2 Ao 1000 co (egs (ringP 1000)) A7 1001 c8 [.int .i64 1, .int .i64 2] :: L) w := s
      refine st_call ha (by kernel_rfl) (by kernel_rfl) (victimIs_any W hW _ w (some ⟨g32, 0, none⟩) 4 4 [(1, 2), (2, 1), (3, 4), (4, 3)] (Knows.blk (j := 1) (cs := egs [(1, 2), (2, 1), (3, 4), (4, 3)]) rfl rfl) rfl (by omega) (some ⟨g33, 0, none⟩) 4 4 [(1, 2), (2, 2), (3, 1), (4, 1)] (Knows.blk (j := 0) (cs := egs [(1, 2), (2, 2), (3, 1), (4, 1)]) rfl rfl) rfl (by omega) (by decide) 3 3 true V12 (by decide) rfl s) ?_
      rintro _ w ⟨rfl, s⟩
      replace s : St W (.blk g33 [.int .i64 1, .int .i64 2, .int .i64 2, .int .i64 2, .int .i64 3, .int .i64 1, .int .i64 4, .int .i64 1] 34 :: .blk g32 [.int .i64 1, .int .i64 2, .int .i64 2, .int .i64 1, .int .i64 3, .int .i64 4, .int .i64 4, .int .i64 3] 37 :: .blk g31 [.int .i64 1, .int .i64 9007199254740991, .int .i64 2, .int .i64 9007199254740991, .int .i64 9, .int .i64 0] 34 :: .blk g30 (egs many) 34 :: .blk g29 [.int .i64 1, .int .i64 1] 37 :: .blk g28 (egs many) 34 :: .blk g27 [.int .i64 1, .int .i64 9007199254740992] 34 :: .blk g26 [.int .i64 1, .int .i64 (-1)] 34 :: .blk g25 [.int .i64 0, .int .i64 0] 34 :: .blk g24 [.int .i64 1, .int .i64 0, .int .i64 1, .int .i64 0] 34 :: .blk g23 [.int .i64 1, .int .i64 2, .int .i64 2, .int .i64 1] 37 :: .blk g22 [.int .i64 1, .int .i64 9007199254740991] 3 :: Own 3 1 A20 2 c21 (ints [1, 9007199254740991]) :: .blk g19 [.int .i64 9007199254740991, .int .i64 1, .int .i64 1, .int .i64 9007199254740991] 37 :: Own 3 1 A17 0 c18 (ints []) :: .blk g16 [.int .i64 1, .int .i64 9007199254740992] 37 :: Own 3 1 A14 0 c15 (ints []) :: .blk g13 [.int .i64 0, .int .i64 1] 37 :: Own 3 1 A11 0 c12 (ints []) :: Own 3 1 A9 0 c10 (ints []) :: .blk g6 [.int .i64 1, .int .i64 2] 37 :: Own 3 1 A4 1000 c5 (ints R1000) :: Forked 37 2 Ao 1000 co (egs (ringP 1000)) A7 1001 c8 [.int .i64 1, .int .i64 2] :: L) w := s
      refine ⟨_, rfl, ?_⟩; clear ha; intro a ha
      refine st_val (.bool true) ha (by kernel_rfl) (by kernel_rfl) ?_
      clear ha; intro a ha
      refine st_val (.bool true) ha (by kernel_rfl) (by kernel_rfl) ?_
      clear ha; intro a ha
      refine wpList_nil ?_
      refine then_normal ?_
      refine wp_ret ?_
      refine ret_with (v := .bool true) ha (results_1 rfl ha (res_tmp (by kernel_rfl) (by kernel_rfl))) ?_
      replace s := s.tail.tail.tail.tail.tail.tail.tail.tail.tail.tail.tail.tail.tail.tail.tail.tail.tail.tail.tail.tail.tail.tail.tail
      replace s : St W (L) w := s
      exact ⟨rfl, s⟩

end Go.Proofs.Ytjdkpebnaohonaa.B
