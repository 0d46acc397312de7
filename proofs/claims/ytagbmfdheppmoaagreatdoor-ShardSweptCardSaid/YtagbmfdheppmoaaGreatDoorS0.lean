import Derived.Test.YtagbmfdheppmoaaGreatDoorK12
/-
  ShardSwept, the plain side: what the versions of two keys are in a table, what the sweep takes away, what is read before and behind it.
-/
namespace Go.Proofs.YtagbmfdheppmoaaGreatDoor.B
open Go.RowKit Go.Proofs.YtagbmfdheppmoaaGreatDoor.Sep
open Vm (vkey vkey0 vtx stx stv txnv)
set_option linter.unusedVariables false
set_option linter.unusedSimpArgs false
/-! ### the order of the keys -/
abbrev P2 := Int × Bool
theorem cong2 {α β γ : Type} (f : α → β → γ) {a a' : α} {b b' : β} (h : a = a') (k : b = b') : f a b = f a' b' := by rw [h, k]
def In (i : Int) : Prop := 1 ≤ i ∧ i ≤ 131
theorem byte_lt {i j : Int} (hi : In i) (hj : In j) : UInt8.ofNat (256 + -1 * i).toNat < UInt8.ofNat (256 + -1 * j).toNat ↔ j < i := by
  obtain ⟨h1, h2⟩ := hi
  obtain ⟨h3, h4⟩ := hj
  rw [UInt8.lt_iff_toNat_lt, UInt8.toNat_ofNat', UInt8.toNat_ofNat']
  omega
theorem byte_eq {i j : Int} (hi : In i) (hj : In j) : UInt8.ofNat (256 + -1 * i).toNat = UInt8.ofNat (256 + -1 * j).toNat ↔ i = j := by
  obtain ⟨h1, h2⟩ := hi
  obtain ⟨h3, h4⟩ := hj
  rw [← UInt8.toNat_inj, UInt8.toNat_ofNat', UInt8.toNat_ofNat']
  omega
theorem u8_irrefl (a : UInt8) : ¬ a < a := UInt8.lt_irrefl a
theorem vkey_lt {c : UInt8} {i j : Int} (hi : In i) (hj : In j) : vkey c i < vkey c j ↔ j < i := by
  unfold vkey
  simp only [List.cons_lt_cons_iff, byte_lt hi hj, u8_irrefl, true_and, false_or, List.not_lt_nil, and_false, or_false, List.lt_irrefl]
theorem vkey_inj {c d : UInt8} {i j : Int} (hi : In i) (hj : In j) : vkey c i = vkey d j ↔ c = d ∧ i = j := by
  unfold vkey
  simp only [List.cons.injEq, true_and, and_true, byte_eq hi hj]
theorem vkey_ab (i j : Int) : vkey 97 i < vkey 98 j := by
  unfold vkey
  simp only [List.cons_lt_cons_iff, u8_irrefl, true_and, false_or]
  exact .inl (by decide)
theorem vkey_ba (i j : Int) : ¬ vkey 98 i < vkey 97 j := klt_asymm (vkey_ab j i)
theorem th_lt (c : UInt8) (i : Int) : ([103, 1] : K) < vkey c i := by
  unfold vkey
  simp only [List.cons_lt_cons_iff]
  exact .inl (by decide)
theorem lo_vkey (c : UInt8) (i : Int) : ¬ vkey c i < ([118] : K) := by
  unfold vkey
  simp only [List.cons_lt_cons_iff, u8_irrefl, true_and, false_or, List.not_lt_nil, not_false_eq_true]
theorem vkey_hi (c : UInt8) (i : Int) : vkey c i < ([119] : K) := by
  unfold vkey
  simp only [List.cons_lt_cons_iff]
  exact .inl (by decide)
theorem vkey_end (c : UInt8) (i : Int) : vkey c i < vkey0 c ++ [0] := by
  unfold vkey vkey0
  simp only [List.cons_append, List.cons_lt_cons_iff, u8_irrefl, true_and, false_or]
  exact .inl (by decide)
theorem vkey_end_ba (i : Int) : ¬ vkey 98 i < vkey0 97 ++ [0] := by
  unfold vkey vkey0
  simp only [List.cons_append, List.cons_lt_cons_iff, u8_irrefl, true_and, false_or]
  exact fun h => by rcases h with h | h <;> revert h <;> simp <;> decide
theorem vkey_nil (c : UInt8) (i : Int) : vkey c i ≠ [] := by unfold vkey; simp
/-! ### the table -/
def VA (la : List P2) : List Rw := la.map fun p => vrow (97, p)
def VB (lb : List P2) : List Rw := lb.map fun p => vrow (98, p)
def VR (th : List Rw) (la lb : List P2) : List Rw := th ++ (VA la ++ VB lb)
def Ok (l : List P2) : Prop := ∀ p ∈ l, In p.1
def vs2 (la lb : List P2) : List V3 := la.map (fun p => (97, p)) ++ lb.map fun p => (98, p)
theorem vs2_map (la lb : List P2) : (vs2 la lb).map vrow = VA la ++ VB lb := by
  unfold vs2 VA VB
  rw [List.map_append, List.map_map, List.map_map]; rfl
theorem vs2_ok {la lb : List P2} (ha : Ok la) (hb : Ok lb) : ∀ x ∈ vs2 la lb, VOk x := by
  intro x hx
  unfold vs2 at hx
  rcases List.mem_append.1 hx with h | h <;> obtain ⟨p, hp, rfl⟩ := List.mem_map.1 h
  · exact ⟨.inl rfl, ha p hp⟩
  · exact ⟨.inr rfl, hb p hp⟩
theorem seg_filter {t : List Rw} (h : Rise t) (f to_ : K) : seg t f to_ = t.filter fun x => !decide (x.1 < f) && below_ to_ x := by
  unfold seg after
  have h2 : (t.filter fun x => !decide (x.1 < f)).Pairwise fun x y => x.1 < y.1 := List.Pairwise.filter _ h
  have e : (t.filter fun x => !decide (x.1 < f) && below_ to_ x) = (t.filter fun x => !decide (x.1 < f)).filter (below_ to_) := by
    rw [List.filter_filter]
    refine List.filter_congr fun x _ => ?_
    rw [Bool.and_comm]
  rw [e]
  · generalize (t.filter fun x => !decide (x.1 < f)) = u at h2
    induction u with
    | nil => rfl
    | cons x u ih =>
      have h3 := List.pairwise_cons.1 h2
      cases hb : below_ to_ x with
      | true => rw [List.takeWhile_cons_of_pos hb, List.filter_cons_of_pos hb, ih h3.2]
      | false =>
        rw [List.takeWhile_cons_of_neg (by simp [hb]), List.filter_cons_of_neg (by simp [hb])]
        symm
        refine List.filter_eq_nil_iff.2 fun y hy hc => ?_
        unfold below_ at hb hc
        simp only [Bool.or_eq_false_iff, decide_eq_false_iff_not] at hb
        simp only [Bool.or_eq_true, decide_eq_true_eq] at hc
        rcases hc with hc | hc
        · exact hb.1 hc
        · exact hb.2 (klt_trans (h3.1 y hy) hc)
/-- The threshold's row, if there is one. -/
def Th (th : List Rw) : Prop := th = [] ∨ ∃ v, th = [([103, 1], v)]
theorem below_not_nil {to_ : K} (h : to_ ≠ []) (x : Rw) : below_ to_ x = decide (x.1 < to_) := by unfold below_; simp [h]
theorem filt_all {α β : Type} {f : α → β} {p : β → Bool} {l : List α} (h : ∀ x ∈ l, p (f x) = true) : (l.map f).filter p = l.map f := List.filter_eq_self.2 fun y hy => by obtain ⟨x, hx, rfl⟩ := List.mem_map.1 hy; exact h x hx
theorem filt_no {α β : Type} {f : α → β} {p : β → Bool} {l : List α} (h : ∀ x ∈ l, p (f x) = false) : (l.map f).filter p = [] := List.filter_eq_nil_iff.2 fun y hy => by obtain ⟨x, hx, rfl⟩ := List.mem_map.1 hy; rw [h x hx]; decide
theorem th_filter {th : List Rw} (h : Th th) {p : Rw → Bool} (hp : ∀ v, p ([103, 1], v) = false) : th.filter p = [] := by
  rcases h with rfl | ⟨v, rfl⟩
  · rfl
  · simp [hp]
theorem seg_vw {th : List Rw} {la lb : List P2} (ht : Th th) (h : Rise (VR th la lb)) : seg (VR th la lb) [118] [119] = (vs2 la lb).map vrow := by
  rw [seg_filter h, vs2_map]
  have hb : ∀ x : Rw, below_ [119] x = decide (x.1 < [119]) := below_not_nil (by decide)
  unfold VR
  rw [List.filter_append, List.filter_append, th_filter ht (fun v => by
    have : decide (([103, 1] : K) < [118]) = true := by decide
    simp [this]), List.nil_append]
  have key : ∀ (c : UInt8) (p : P2), (fun x : Rw => !decide (x.1 < [118]) && below_ [119] x) (vrow (c, p)) = true := fun c p => by
    show (!decide (vkey c p.1 < [118]) && below_ [119] (vrow (c, p))) = true
    rw [hb, decide_eq_false (lo_vkey c p.1)]
    exact decide_eq_true (vkey_hi c p.1)
  rw [show VA la = la.map fun p => vrow (97, p) from rfl, show VB lb = lb.map fun p => vrow (98, p) from rfl, filt_all fun p _ => key 97 p, filt_all fun p _ => key 98 p]
theorem end_nn (c : UInt8) : vkey0 c ++ [0] ≠ [] := by unfold vkey0; simp
/-- The versions of a key at or below a wall. -/
theorem seg_a {th : List Rw} {la lb : List P2} (ht : Th th) (h : Rise (VR th la lb)) {i : Int} (hi : In i) (ha : Ok la) : seg (VR th la lb) (vkey 97 i) (vkey0 97 ++ [0]) = ((la.filter fun p => decide (p.1 ≤ i)).map fun p => ((97, p) : V3)).map vrow := by
  rw [seg_filter h]
  have hb : ∀ x : Rw, below_ (vkey0 97 ++ [0]) x = decide (x.1 < vkey0 97 ++ [0]) := below_not_nil (end_nn 97)
  unfold VR
  rw [List.filter_append, List.filter_append, th_filter ht (fun v => by simp [decide_eq_true (th_lt 97 i)]), List.nil_append]
  have e2 : (VB lb).filter (fun x : Rw => !decide (x.1 < vkey 97 i) && below_ (vkey0 97 ++ [0]) x) = [] := filt_no fun p _ => by
    show (!decide (vkey 98 p.1 < vkey 97 i) && below_ (vkey0 97 ++ [0]) (vrow (98, p))) = false
    rw [hb, show (vrow (98, p)).1 = vkey 98 p.1 from rfl, decide_eq_false (vkey_end_ba p.1), Bool.and_false]
  rw [e2, List.append_nil, List.map_map]
  unfold VA
  rw [List.filter_map]
  congr 1
  refine List.filter_congr fun p hp => ?_
  show (!decide (vkey 97 p.1 < vkey 97 i) && below_ (vkey0 97 ++ [0]) (vrow (97, p))) = decide (p.1 ≤ i)
  rw [hb, show (vrow (97, p)).1 = vkey 97 p.1 from rfl, decide_eq_true (vkey_end 97 p.1), Bool.and_true, decide_eq_decide.2 (vkey_lt (ha p hp) hi)]
  by_cases hq : i < p.1
  · rw [decide_eq_true hq, decide_eq_false (by omega)]; rfl
  · rw [decide_eq_false hq, decide_eq_true (by omega)]; rfl
theorem seg_b {th : List Rw} {la lb : List P2} (ht : Th th) (h : Rise (VR th la lb)) {i : Int} (hi : In i) (hb' : Ok lb) : seg (VR th la lb) (vkey 98 i) (vkey0 98 ++ [0]) = ((lb.filter fun p => decide (p.1 ≤ i)).map fun p => ((98, p) : V3)).map vrow := by
  rw [seg_filter h]
  have hb : ∀ x : Rw, below_ (vkey0 98 ++ [0]) x = decide (x.1 < vkey0 98 ++ [0]) := below_not_nil (end_nn 98)
  unfold VR
  rw [List.filter_append, List.filter_append, th_filter ht (fun v => by simp [decide_eq_true (th_lt 98 i)]), List.nil_append]
  have e2 : (VA la).filter (fun x : Rw => !decide (x.1 < vkey 98 i) && below_ (vkey0 98 ++ [0]) x) = [] := filt_no fun p _ => by
    show (!decide (vkey 97 p.1 < vkey 98 i) && _) = false
    rw [decide_eq_true (vkey_ab p.1 i)]; rfl
  rw [e2, List.nil_append, List.map_map]
  unfold VB
  rw [List.filter_map]
  congr 1
  refine List.filter_congr fun p hp => ?_
  show (!decide (vkey 98 p.1 < vkey 98 i) && below_ (vkey0 98 ++ [0]) (vrow (98, p))) = decide (p.1 ≤ i)
  rw [hb, show (vrow (98, p)).1 = vkey 98 p.1 from rfl, decide_eq_true (vkey_end 98 p.1), Bool.and_true, decide_eq_decide.2 (vkey_lt (hb' p hp) hi)]
  by_cases hq : i < p.1
  · rw [decide_eq_true hq, decide_eq_false (by omega)]; rfl
  · rw [decide_eq_false hq, decide_eq_true (by omega)]; rfl
theorem tget_no {t : List Rw} {k : K} (h : ∀ x ∈ t, x.1 ≠ k) : tget t k = none := by
  unfold tget
  rw [List.find?_eq_none.2 fun x hx => by simp [h x hx]]; rfl
theorem vr_keys {th : List Rw} {la lb : List P2} (ht : Th th) : ∀ x ∈ VR th la lb, x.1 = [103, 1] ∨ ∃ (c : UInt8) (i : Int), x.1 = vkey c i := by
  intro x hx
  unfold VR at hx
  rcases List.mem_append.1 hx with h | h
  · rcases ht with rfl | ⟨v, rfl⟩
    · cases h
    · simp at h; subst h; exact .inl rfl
  · rcases List.mem_append.1 h with h | h <;> obtain ⟨p, _, rfl⟩ := List.mem_map.1 h <;> exact .inr ⟨_, _, rfl⟩
theorem tget_i {th : List Rw} {la lb : List P2} (ht : Th th) (c : UInt8) : tget (VR th la lb) [105, c, 0, 0] = none := tget_no fun x hx e => by
  rcases vr_keys ht x hx with h | ⟨d, i, h⟩
  · rw [h] at e; simp at e
  · rw [h] at e; unfold vkey at e; simp at e
theorem tget_th {la lb : List P2} : tget (VR [] la lb) [103, 1] = none := tget_no fun x hx e => by
  have hx : x ∈ VA la ++ VB lb := hx
  rcases List.mem_append.1 hx with h | h <;> obtain ⟨p, _, rfl⟩ := List.mem_map.1 h <;> (have e : vkey _ p.1 = [103, 1] := e; unfold vkey at e; simp at e)
/-! ### filling -/
/-- The versions of a key: m of n, the last one of all perhaps that it is gone. -/
def fill (n : Nat) (g : Bool) : Nat → List P2
  | 0 => []
  | m + 1 => (((m + 1 : Nat) : Int), !(decide (m + 1 = n) && g)) :: fill n g m
theorem fill_mem {n : Nat} {g : Bool} : ∀ {m : Nat} {p : P2}, p ∈ fill n g m → 1 ≤ p.1 ∧ p.1 ≤ (m : Int)
  | m + 1, p, h => by
    rcases List.mem_cons.1 h with rfl | h
    · constructor <;> (dsimp only; omega)
    · have := fill_mem h; omega
theorem fill_ok {n m : Nat} {g : Bool} (h : m ≤ 131) : Ok (fill n g m) := fun p hp => by have := fill_mem hp; exact ⟨by omega, by omega⟩
theorem fill_len {n : Nat} {g : Bool} : ∀ m, (fill n g m).length = m
  | 0 => rfl
  | m + 1 => by show (fill n g m).length + 1 = _; rw [fill_len]
def Desc (l : List P2) : Prop := l.Pairwise fun x y => y.1 < x.1
theorem fill_desc {n : Nat} {g : Bool} : ∀ m, Desc (fill n g m)
  | 0 => List.Pairwise.nil
  | m + 1 => List.pairwise_cons.2 ⟨fun y hy => by have := fill_mem hy; dsimp only; omega, fill_desc m⟩
theorem tput_a {n m : Nat} {g : Bool} (h : m + 1 ≤ 131) (b : Bool) : tput (VR [] (fill n g m) []) (vkey 97 ((m + 1 : Nat) : Int)) (vtx b) = VR [] ((((m + 1 : Nat) : Int), b) :: fill n g m) [] := by
  have e : VR [] (fill n g m) [] = VA (fill n g m) := by simp [VR, VB]
  have e2 : VR [] ((((m + 1 : Nat) : Int), b) :: fill n g m) [] = vrow (97, (((m + 1 : Nat) : Int), b)) :: VA (fill n g m) := by simp [VR, VB, VA]
  rw [e, e2]
  unfold tput
  have h1 : ∀ p ∈ fill n g m, vkey 97 ((m + 1 : Nat) : Int) < vkey 97 p.1 := fun p hp => by
    have := fill_mem hp
    exact (vkey_lt ⟨by omega, by omega⟩ ⟨by omega, by omega⟩).2 (by omega)
  have q1 := filt_no (f := fun p : P2 => vrow (97, p)) (l := fill n g m) (p := fun x => decide (x.1 < vkey 97 ((m + 1 : Nat) : Int))) fun p hp => decide_eq_false (klt_asymm (h1 p hp))
  have q2 := filt_all (f := fun p : P2 => vrow (97, p)) (l := fill n g m) (p := fun x => decide (vkey 97 ((m + 1 : Nat) : Int) < x.1)) fun p hp => decide_eq_true (h1 p hp)
  exact (cong2 (fun a d => a ++ ((vkey 97 ((m + 1 : Nat) : Int), vtx b) : Rw) :: d) q1 q2).trans rfl
theorem tput_b {n m : Nat} {g : Bool} (la : List P2) (h : m + 1 ≤ 131) (b : Bool) : tput (VR [] la (fill n g m)) (vkey 98 ((m + 1 : Nat) : Int)) (vtx b) = VR [] la ((((m + 1 : Nat) : Int), b) :: fill n g m) := by
  unfold tput VR
  have h1 : ∀ p ∈ fill n g m, vkey 98 ((m + 1 : Nat) : Int) < vkey 98 p.1 := fun p hp => by
    have := fill_mem hp
    exact (vkey_lt ⟨by omega, by omega⟩ ⟨by omega, by omega⟩).2 (by omega)
  rw [List.nil_append, List.nil_append, List.filter_append, List.filter_append]
  have q1 := filt_all (f := fun p : P2 => vrow (97, p)) (l := la) (p := fun x => decide (x.1 < vkey 98 ((m + 1 : Nat) : Int))) fun p hp => decide_eq_true (vkey_ab p.1 _)
  have q2 := filt_no (f := fun p : P2 => vrow (98, p)) (l := fill n g m) (p := fun x => decide (x.1 < vkey 98 ((m + 1 : Nat) : Int))) fun p hp => decide_eq_false (klt_asymm (h1 p hp))
  have q3 := filt_no (f := fun p : P2 => vrow (97, p)) (l := la) (p := fun x => decide (vkey 98 ((m + 1 : Nat) : Int) < x.1)) fun p hp => decide_eq_false (vkey_ba _ p.1)
  have q4 := filt_all (f := fun p : P2 => vrow (98, p)) (l := fill n g m) (p := fun x => decide (vkey 98 ((m + 1 : Nat) : Int) < x.1)) fun p hp => decide_eq_true (h1 p hp)
  refine (cong2 (fun a d => a ++ ((vkey 98 ((m + 1 : Nat) : Int), vtx b) : Rw) :: d) (cong2 (fun a d : List Rw => a ++ d) q1 q2) (cong2 (fun a d : List Rw => a ++ d) q3 q4)).trans ?_
  rw [List.append_nil, List.nil_append]
  rfl
end Go.Proofs.YtagbmfdheppmoaaGreatDoor.B
