import Derived.Test.YtidfniglnmfphaaB15
namespace Go.Proofs.Ytidfniglnmfphaa.B
open Go.RowKit Go.Maps Go.Sort Go.Shelf Go.Proofs.Ytidfniglnmfphaa.Sep Go.Proofs.Ytidfniglnmfphaa.P
set_option linter.unusedVariables false
set_option linter.unusedSimpArgs false
theorem made_flat {zs : List Value} {k : Nat} (hk : zs.length = k) (n : Nat) : ((Array.range (n * k)).map (zs.toArray[· % zs.toArray.size]!)).toList = (List.replicate n zs).flatten := by
  have hall : ∀ r ∈ List.replicate n zs, r.length = k := fun r hr => by rw [(List.mem_replicate.1 hr).2]; exact hk
  apply List.ext_getElem?
  intro x
  by_cases hx : x < n * k
  · have hk0 : 0 < k := by
      rcases Nat.eq_zero_or_pos k with h | h
      · subst h; simp at hx
      · exact h
    have e : x = x / k * k + x % k := by rw [Nat.mul_comm]; exact (Nat.div_add_mod x k).symm
    have hi : x / k < n := (Nat.div_lt_iff_lt_mul hk0).2 hx
    have hj : x % k < k := Nat.mod_lt _ hk0
    have h2 := flatten_at hall (i := x / k) (r := zs) (by rw [List.getElem?_replicate, if_pos hi]) hj
    rw [← e] at h2
    rw [h2]
    have hj2 : x % k < zs.length := by omega
    simp only [Array.getElem?_toList, Array.getElem?_map, Array.getElem?_range, hx, if_true, Option.map_some, List.size_toArray, hk, List.getElem!_toArray]
    rw [List.getElem?_eq_getElem hj2, getElem!_pos zs _ hj2]
  · rw [List.getElem?_eq_none (by simp; omega), List.getElem?_eq_none (by rw [flatten_len hall, List.length_replicate]; omega)]
abbrev Z7 : Array Value := #[.int .i64 0, .string (str []), .string (str []), .string (str []), .string (str []), .bool false, .slice none 0 0]
abbrev Z4 : Array Value := #[.int .i64 0, .int .i64 0, .int .i64 0, .slice none 0 0]
def zeroD (n : Nat) : List Dd := List.replicate n ⟨⟨0, [], [], [], [], false, []⟩, none, 0⟩
def zeroT (n : Nat) : List Td := List.replicate n ⟨0, [], [], [], [], false, []⟩
def zeroN (n : Nat) : List Dn := List.replicate n ⟨0, 0, 0, none, 0, []⟩
theorem zeroD_len (n : Nat) : (zeroD n).length = n := List.length_replicate
theorem zeroN_len (n : Nat) : (zeroN n).length = n := List.length_replicate
theorem made_did (n : Nat) : ((Array.range (n * 7)).map (Z7[· % Z7.size]!)).toList = dvs (zeroD n) := by
  refine (made_flat (zs := [.int .i64 0, .string (str []), .string (str []), .string (str []), .string (str []), .bool false, .slice none 0 0]) rfl n).trans ?_
  unfold dvs zeroD
  rw [List.flatMap_def, List.map_replicate]; rfl
theorem made_done (n : Nat) : ((Array.range (n * 4)).map (Z4[· % Z4.size]!)).toList = nvs (zeroN n) := by
  refine (made_flat (zs := [.int .i64 0, .int .i64 0, .int .i64 0, .slice none 0 0]) rfl n).trans ?_
  unfold nvs zeroN
  rw [List.flatMap_def, List.map_replicate]; rfl
theorem zeroD_t (n : Nat) : (zeroD n).map (·.t) = zeroT n := List.map_replicate
theorem zeroT_len (n : Nat) : (zeroT n).length = n := List.length_replicate
theorem zeroD_in {A : Option Addr} {n : Nat} {w : World} (h : Reads w 7 A n (dvs (zeroD n))) : DidsIn A (zeroD n) w :=
  ⟨by rw [zeroD_len]; exact h, fun x hx => by rw [(List.mem_replicate.1 hx).2]; exact ⟨rfl, by simp, by simp⟩⟩
theorem zeroD_bl (n : Nat) (hn : n ≤ 140737488351232) : Bl (zeroD n) := ⟨by rw [zeroD_len]; exact hn, fun x hx => by rw [(List.mem_replicate.1 hx).2]; exact ⟨by simp, by simp⟩⟩
theorem zeroN_bn (n : Nat) (hn : n ≤ 140737488351232) : Bn (zeroN n) := ⟨by rw [zeroN_len]; exact hn, fun x hx => by rw [(List.mem_replicate.1 hx).2]; exact ⟨by simp, fun x hx => by cases hx⟩⟩
theorem zeroN_in {A : Option Addr} {n : Nat} {w : World} (h : Reads w 4 A n (nvs (zeroN n))) : DonesIn A (zeroN n) w :=
  ⟨by rw [zeroN_len]; exact h, fun x hx => by rw [(List.mem_replicate.1 hx).2]; exact ⟨⟨rfl, by simp, by simp⟩, fun x hx => by cases hx⟩⟩
section
variable (W : World) (L : List Chunk) (w : World) (A : Option Addr) (ca : Nat) (ds : List Dn) (n : Nat) (hl : ds.length = n) (hr : Knows L (DonesIn A ds)) (hn : Bn ds) (z : Int) (hz : code (tns ds) = z) (hz0 : z ≠ 0)
include hl hr hn hz hz0
theorem order_isN (s : St W L w) : Calls Try.prog 9 #[.slice A n ca] w fun e w' => e = .returned (.tuple #[.slice none 0 0, .int .i64 z]) ∧ St W L w' := by
  subst hl hz; exact order_no W L w A ca ds hr hn hz0 s
theorem check_isN (hW : W.drawn = 0) (s : St W L w) : Calls Try.prog 10 #[.slice A n ca] w fun e w' => e = .returned (.tuple #[.int .i64 0, .int .i64 0, .bool false, .int .i64 z]) ∧ St W L w' := by
  subst hl hz; exact check_no W hW L w A ca ds hr hn hz0 s
theorem rows_isN (hW : W.drawn = 0) (s : St W L w) : Calls Try.prog 11 #[.slice A n ca] w fun e w' => e = .returned (.tuple #[.slice none 0 0, .int .i64 z]) ∧ St W L w' := by
  subst hl hz; exact rows_no W hW L w A ca ds hr hn hz0 s
end
theorem limN {ds : List Tn} (h : 1000 < ds.length) : code ds = 5 := by unfold code; rw [if_pos fun h2 => by have := h2.1; omega]
theorem limM {ds : List Tn} (h : 10000 < many ds) : code ds = 5 := by unfold code; rw [if_pos fun h2 => by have := h2.2; omega]

set_option maxRecDepth 100000 in
set_option maxHeartbeats 4000000 in
theorem known_true (W : World) (hW : W.drawn = 0) (L : List Chunk) (w : World) (s : St W L w) :
    Calls Try.prog 7 #[] w fun e w' => e = .returned (.bool true) ∧ St W L w' := by
  refine enter_args (l := []) Try.func7 rfl rfl (Nat.le_of_ble_eq_true rfl) ?_
  intro a ha; replace ha : Has a 178 [] := ha
  refine wp_seq ?_
  refine wp_region_lit ?_
  refine st_val (.bool false) ha (by kernel_rfl) (by kernel_rfl) ?_
  clear ha; intro a ha
  refine wpList_nil ?_
  refine then_normal ?_
  refine wp_seq ?_
  refine wp_region_lit ?_
  refine st_val (.int .i64 9007199254740991) ha (by kernel_rfl) (by kernel_rfl) ?_
  clear ha; intro a ha
  refine wpList_nil ?_
  refine then_normal ?_
  refine wp_seq ?_
  refine wp_region_lit ?_
  refine st_val (.agg #[.int .i64 0, .int .i64 0, .int .i64 0, .slice none 0 0]) ha (by kernel_rfl) (by kernel_rfl) ?_
  clear ha; intro a ha
  refine st_val (.int .i64 9007199254740991) ha (by kernel_rfl) (by kernel_rfl) ?_
  clear ha; intro a ha
  refine st_val (.int .i64 9007199254740992) ha (by kernel_rfl) (by kernel_rfl) ?_
  clear ha; intro a ha
  refine st_val (.agg #[.int .i64 9007199254740992, .int .i64 0, .int .i64 0, .slice none 0 0]) ha (by kernel_rfl) (by kernel_rfl) ?_
  clear ha; intro a ha
  refine st_call ha (by kernel_rfl) (by kernel_rfl) (at_any W _ w (-1) s) ?_
  rintro _ w ⟨rfl, s⟩
  replace s : St W (L) w := s
  refine ⟨_, rfl, ?_⟩; clear ha; intro a ha
  refine st_val (.agg #[.int .i64 1, .int .i64 (-1), .int .i64 0, .slice none 0 0]) ha (by kernel_rfl) (by kernel_rfl) ?_
  clear ha; intro a ha
  refine st_val (.agg #[.int .i64 0, .string (str []), .string (str []), .string (str []), .string (str []), .bool false, .slice none 0 0]) ha (by kernel_rfl) (by kernel_rfl) ?_
  clear ha; intro a ha
  refine st_ex ha (by kernel_rfl) (ex_buildSlice elt25 _ zs25 [.int .i64 0, .string (str []), .string (str []), .string (str []), .string (str []), .bool false, .slice none 0 0] s rfl (by kernel_rfl) (by decide)) ?_
  clear ha; rintro _ w a ⟨g1, rfl, s⟩ ha
  replace s : St W (.blk g1 [.int .i64 0, .string (str []), .string (str []), .string (str []), .string (str []), .bool false, .slice none 0 0] 51 :: L) w := s
  refine st_val (.agg #[.int .i64 1, .int .i64 0, .int .i64 0, .slice (some ⟨g1, 0, none⟩) 1 1]) ha (by kernel_rfl) (by kernel_rfl) ?_
  clear ha; intro a ha
  refine st_val (.agg #[.int .i64 6, .string (str []), .string (str []), .string (str []), .string (str []), .bool false, .slice none 0 0]) ha (by kernel_rfl) (by kernel_rfl) ?_
  clear ha; intro a ha
  refine st_ex ha (by kernel_rfl) (ex_buildSlice elt25 _ zs25 [.int .i64 6, .string (str []), .string (str []), .string (str []), .string (str []), .bool false, .slice none 0 0] s rfl (by kernel_rfl) (by decide)) ?_
  clear ha; rintro _ w a ⟨g2, rfl, s⟩ ha
  replace s : St W (.blk g2 [.int .i64 6, .string (str []), .string (str []), .string (str []), .string (str []), .bool false, .slice none 0 0] 51 :: .blk g1 [.int .i64 0, .string (str []), .string (str []), .string (str []), .string (str []), .bool false, .slice none 0 0] 51 :: L) w := s
  refine st_val (.agg #[.int .i64 1, .int .i64 0, .int .i64 0, .slice (some ⟨g2, 0, none⟩) 1 1]) ha (by kernel_rfl) (by kernel_rfl) ?_
  clear ha; intro a ha
  refine st_ex ha (by kernel_rfl) (ex_buildSlice elt22 _ zs22 [.int .i64 0, .int .i64 0, .int .i64 0, .slice none 0 0, .int .i64 9007199254740992, .int .i64 0, .int .i64 0, .slice none 0 0, .int .i64 1, .int .i64 (-1), .int .i64 0, .slice none 0 0, .int .i64 1, .int .i64 0, .int .i64 0, .slice (some ⟨g1, 0, none⟩) 1 1, .int .i64 1, .int .i64 0, .int .i64 0, .slice (some ⟨g2, 0, none⟩) 1 1] s rfl (by kernel_rfl) (by decide)) ?_
  clear ha; rintro _ w a ⟨g3, rfl, s⟩ ha
  replace s : St W (.blk g3 [.int .i64 0, .int .i64 0, .int .i64 0, .slice none 0 0, .int .i64 9007199254740992, .int .i64 0, .int .i64 0, .slice none 0 0, .int .i64 1, .int .i64 (-1), .int .i64 0, .slice none 0 0, .int .i64 1, .int .i64 0, .int .i64 0, .slice (some ⟨g1, 0, none⟩) 1 1, .int .i64 1, .int .i64 0, .int .i64 0, .slice (some ⟨g2, 0, none⟩) 1 1] 27 :: .blk g2 [.int .i64 6, .string (str []), .string (str []), .string (str []), .string (str []), .bool false, .slice none 0 0] 51 :: .blk g1 [.int .i64 0, .string (str []), .string (str []), .string (str []), .string (str []), .bool false, .slice none 0 0] 51 :: L) w := s
  refine st_val (.slice (some ⟨g3, 0, none⟩) 5 5) ha (by kernel_rfl) (by kernel_rfl) ?_
  clear ha; intro a ha
  refine wpList_nil ?_
  refine then_normal ?_
  refine wp_seq ?_
  refine wp_seq ?_
  refine wp_region_lit ?_
  refine st_val (.int .i64 0) ha (by kernel_rfl) (by kernel_rfl) ?_
  clear ha; intro a ha
  refine wpList_nil ?_
  refine then_normal ?_
  refine wp_block ?_
  refine wp_loop_rounds 6 ?_
  show Code.rounds _ _ _ 6 _ _
  rw [rounds_succ]
  refine wp_seq ?_
  refine wp_seq ?_
  refine wp_region_lit ?_
  refine st_val (.int .i64 0) ha (by kernel_rfl) (by kernel_rfl) ?_
  clear ha; intro a ha
  refine st_val (.slice (some ⟨g3, 0, none⟩) 5 5) ha (by kernel_rfl) (by kernel_rfl) ?_
  clear ha; intro a ha
  refine st_val (.int .i64 5) ha (by kernel_rfl) (by kernel_rfl) ?_
  clear ha; intro a ha
  refine st_val (.bool true) ha (by kernel_rfl) (by kernel_rfl) ?_
  clear ha; intro a ha
  refine wpList_nil ?_
  refine then_normal ?_
  refine wp_true ha rfl (by kernel_rfl) ?_
  refine wp_skip ?_
  refine then_normal ?_
  refine wp_seq ?_
  refine wp_block ?_
  refine wp_seq ?_
  refine wp_region_lit ?_
  refine st_val (.slice (some ⟨g3, 0, none⟩) 5 5) ha (by kernel_rfl) (by kernel_rfl) ?_
  clear ha; intro a ha
  refine st_val (.int .i64 0) ha (by kernel_rfl) (by kernel_rfl) ?_
  clear ha; intro a ha
  refine st_val (.int .i64 0) ha (by kernel_rfl) (by kernel_rfl) ?_
  clear ha; intro a ha
  refine st_val (.int .i64 1) ha (by kernel_rfl) (by kernel_rfl) ?_
  clear ha; intro a ha
  refine st_val (.slice (some ⟨g3, 0, none⟩) 1 5) ha (by kernel_rfl) (run_slice0 (n := 5) (c := 5) 1 5 rfl Try.underlying22 Try.sizeOf27 (by kernel_rfl) (fun _ => rfl) bnd_none (bnd_some .i64 (by kernel_rfl)) (bnd_some .i64 (by kernel_rfl)) (by omega) (by omega) _) ?_
  clear ha; intro a ha
  have hk1 : Knows (.blk g3 [.int .i64 0, .int .i64 0, .int .i64 0, .slice none 0 0, .int .i64 9007199254740992, .int .i64 0, .int .i64 0, .slice none 0 0, .int .i64 1, .int .i64 (-1), .int .i64 0, .slice none 0 0, .int .i64 1, .int .i64 0, .int .i64 0, .slice (some ⟨g1, 0, none⟩) 1 1, .int .i64 1, .int .i64 0, .int .i64 0, .slice (some ⟨g2, 0, none⟩) 1 1] 27 :: .blk g2 [.int .i64 6, .string (str []), .string (str []), .string (str []), .string (str []), .bool false, .slice none 0 0] 51 :: .blk g1 [.int .i64 0, .string (str []), .string (str []), .string (str []), .string (str []), .bool false, .slice none 0 0] 51 :: L) (DonesIn (some ⟨g3, 0, none⟩) ([⟨0, 0, 0, none, 0, []⟩, ⟨9007199254740992, 0, 0, none, 0, []⟩, ⟨1, (-1), 0, none, 0, []⟩, ⟨1, 0, 0, (some ⟨g1, 0, none⟩), 1, [⟨⟨0, [], [], [], [], false, []⟩, none, 0⟩]⟩, ⟨1, 0, 0, (some ⟨g2, 0, none⟩), 1, [⟨⟨6, [], [], [], [], false, []⟩, none, 0⟩]⟩] : List Dn)) := fun w s => by
    refine ⟨Knows.reads_blk (j := 0) (k := 4) (n := 5) rfl rfl w s, fun d hd => ?_⟩
    simp only [List.mem_cons, List.not_mem_nil, or_false] at hd
    rcases hd with rfl | rfl | rfl | rfl | rfl
    · exact ⟨⟨rfl, by simp, by simp⟩, fun x hx => by cases hx⟩
    · exact ⟨⟨rfl, by simp, by simp⟩, fun x hx => by cases hx⟩
    · exact ⟨⟨rfl, by simp, by simp⟩, fun x hx => by cases hx⟩
    · exact ⟨Knows.reads_blk (j := 2) (k := 7) (n := 1) rfl rfl w s, fun x hx => by simp only [List.mem_cons, List.not_mem_nil, or_false] at hx; rcases hx with rfl <;> first | exact ⟨rfl, by simp, by simp⟩⟩
    · exact ⟨Knows.reads_blk (j := 1) (k := 7) (n := 1) rfl rfl w s, fun x hx => by simp only [List.mem_cons, List.not_mem_nil, or_false] at hx; rcases hx with rfl <;> first | exact ⟨rfl, by simp, by simp⟩⟩
  have hk1b : Bn ([⟨0, 0, 0, none, 0, []⟩, ⟨9007199254740992, 0, 0, none, 0, []⟩, ⟨1, (-1), 0, none, 0, []⟩, ⟨1, 0, 0, (some ⟨g1, 0, none⟩), 1, [⟨⟨0, [], [], [], [], false, []⟩, none, 0⟩]⟩, ⟨1, 0, 0, (some ⟨g2, 0, none⟩), 1, [⟨⟨6, [], [], [], [], false, []⟩, none, 0⟩]⟩] : List Dn) := by
    refine ⟨by simp, fun d hd => ?_⟩
    simp only [List.mem_cons, List.not_mem_nil, or_false] at hd
    rcases hd with rfl | rfl | rfl | rfl | rfl
    · exact ⟨by simp, fun x hx => by cases hx⟩
    · exact ⟨by simp, fun x hx => by cases hx⟩
    · exact ⟨by simp, fun x hx => by cases hx⟩
    · exact ⟨by simp, fun x hx => by simp only [List.mem_cons, List.not_mem_nil, or_false] at hx; rcases hx with rfl <;> exact ⟨by simp, by simp⟩⟩
    · exact ⟨by simp, fun x hx => by simp only [List.mem_cons, List.not_mem_nil, or_false] at hx; rcases hx with rfl <;> exact ⟨by simp, by simp⟩⟩
  have hk1t : tns ([⟨0, 0, 0, none, 0, []⟩, ⟨9007199254740992, 0, 0, none, 0, []⟩, ⟨1, (-1), 0, none, 0, []⟩, ⟨1, 0, 0, (some ⟨g1, 0, none⟩), 1, [⟨⟨0, [], [], [], [], false, []⟩, none, 0⟩]⟩, ⟨1, 0, 0, (some ⟨g2, 0, none⟩), 1, [⟨⟨6, [], [], [], [], false, []⟩, none, 0⟩]⟩] : List Dn) = ([⟨0, 0, 0, []⟩, ⟨9007199254740992, 0, 0, []⟩, ⟨1, (-1), 0, []⟩, ⟨1, 0, 0, [⟨0, [], [], [], [], false, []⟩]⟩, ⟨1, 0, 0, [⟨6, [], [], [], [], false, []⟩]⟩] : List Tn) := rfl
  refine st_call ha (by kernel_rfl) (by kernel_rfl) (order_isN W _ w (some ⟨g3, 0, none⟩) 5 (([⟨0, 0, 0, none, 0, []⟩, ⟨9007199254740992, 0, 0, none, 0, []⟩, ⟨1, (-1), 0, none, 0, []⟩, ⟨1, 0, 0, (some ⟨g1, 0, none⟩), 1, [⟨⟨0, [], [], [], [], false, []⟩, none, 0⟩]⟩, ⟨1, 0, 0, (some ⟨g2, 0, none⟩), 1, [⟨⟨6, [], [], [], [], false, []⟩, none, 0⟩]⟩] : List Dn).take 1) _ rfl (fun w s => (hk1 w s).take (k := 1) (by simp)) (hk1b.take 1) 2 (by show code (tns (([⟨0, 0, 0, none, 0, []⟩, ⟨9007199254740992, 0, 0, none, 0, []⟩, ⟨1, (-1), 0, none, 0, []⟩, ⟨1, 0, 0, (some ⟨g1, 0, none⟩), 1, [⟨⟨0, [], [], [], [], false, []⟩, none, 0⟩]⟩, ⟨1, 0, 0, (some ⟨g2, 0, none⟩), 1, [⟨⟨6, [], [], [], [], false, []⟩, none, 0⟩]⟩] : List Dn).take 1)) = 2; rw [show tns (([⟨0, 0, 0, none, 0, []⟩, ⟨9007199254740992, 0, 0, none, 0, []⟩, ⟨1, (-1), 0, none, 0, []⟩, ⟨1, 0, 0, (some ⟨g1, 0, none⟩), 1, [⟨⟨0, [], [], [], [], false, []⟩, none, 0⟩]⟩, ⟨1, 0, 0, (some ⟨g2, 0, none⟩), 1, [⟨⟨6, [], [], [], [], false, []⟩, none, 0⟩]⟩] : List Dn).take 1) = (([⟨0, 0, 0, []⟩, ⟨9007199254740992, 0, 0, []⟩, ⟨1, (-1), 0, []⟩, ⟨1, 0, 0, [⟨0, [], [], [], [], false, []⟩]⟩, ⟨1, 0, 0, [⟨6, [], [], [], [], false, []⟩]⟩] : List Tn).drop 0).take 1 from rfl]; decide) (by decide) s) ?_
  rintro _ w ⟨rfl, s⟩
  replace s : St W (.blk g3 [.int .i64 0, .int .i64 0, .int .i64 0, .slice none 0 0, .int .i64 9007199254740992, .int .i64 0, .int .i64 0, .slice none 0 0, .int .i64 1, .int .i64 (-1), .int .i64 0, .slice none 0 0, .int .i64 1, .int .i64 0, .int .i64 0, .slice (some ⟨g1, 0, none⟩) 1 1, .int .i64 1, .int .i64 0, .int .i64 0, .slice (some ⟨g2, 0, none⟩) 1 1] 27 :: .blk g2 [.int .i64 6, .string (str []), .string (str []), .string (str []), .string (str []), .bool false, .slice none 0 0] 51 :: .blk g1 [.int .i64 0, .string (str []), .string (str []), .string (str []), .string (str []), .bool false, .slice none 0 0] 51 :: L) w := s
  refine ⟨_, rfl, ?_⟩; clear ha; intro a ha
  refine st_val (.tuple #[.slice none 0 0, .int .i64 2]) ha (by kernel_rfl) (by kernel_rfl) ?_
  clear ha; intro a ha
  refine st_val (.slice none 0 0) ha (by kernel_rfl) (by kernel_rfl) ?_
  clear ha; intro a ha
  refine st_val (.int .i64 2) ha (by kernel_rfl) (by kernel_rfl) ?_
  clear ha; intro a ha
  refine st_val (.slice none 0 0) ha (by kernel_rfl) (by kernel_rfl) ?_
  clear ha; intro a ha
  refine st_val (.int .i64 2) ha (by kernel_rfl) (by kernel_rfl) ?_
  clear ha; intro a ha
  refine wpList_nil ?_
  refine then_normal ?_
  refine wp_seq ?_
  refine wp_region_lit ?_
  refine st_val (.int .i64 2) ha (by kernel_rfl) (by kernel_rfl) ?_
  clear ha; intro a ha
  refine st_val (.bool false) ha (by kernel_rfl) (by kernel_rfl) ?_
  clear ha; intro a ha
  refine wpList_nil ?_
  refine then_normal ?_
  refine wp_false ha rfl (by kernel_rfl) ?_
  refine wp_skip ?_
  refine block_normal ?_
  refine then_normal ?_
  refine wp_region_lit ?_
  refine st_val (.int .i64 0) ha (by kernel_rfl) (by kernel_rfl) ?_
  clear ha; intro a ha
  refine st_val (.int .i64 1) ha (by kernel_rfl) (by kernel_rfl) ?_
  clear ha; intro a ha
  refine st_val (.int .i64 1) ha (by kernel_rfl) (by kernel_rfl) ?_
  clear ha; intro a ha
  refine wpList_nil ?_
  refine then_normal ?_
  show Code.rounds _ _ _ 5 _ _
  rw [rounds_succ]
  refine wp_seq ?_
  refine wp_seq ?_
  refine wp_region_lit ?_
  refine st_val (.int .i64 1) ha (by kernel_rfl) (by kernel_rfl) ?_
  clear ha; intro a ha
  refine st_val (.slice (some ⟨g3, 0, none⟩) 5 5) ha (by kernel_rfl) (by kernel_rfl) ?_
  clear ha; intro a ha
  refine st_val (.int .i64 5) ha (by kernel_rfl) (by kernel_rfl) ?_
  clear ha; intro a ha
  refine st_val (.bool true) ha (by kernel_rfl) (by kernel_rfl) ?_
  clear ha; intro a ha
  refine wpList_nil ?_
  refine then_normal ?_
  refine wp_true ha rfl (by kernel_rfl) ?_
  refine wp_skip ?_
  refine then_normal ?_
  refine wp_seq ?_
  refine wp_block ?_
  refine wp_seq ?_
  refine wp_region_lit ?_
  refine st_val (.slice (some ⟨g3, 0, none⟩) 5 5) ha (by kernel_rfl) (by kernel_rfl) ?_
  clear ha; intro a ha
  refine st_val (.int .i64 1) ha (by kernel_rfl) (by kernel_rfl) ?_
  clear ha; intro a ha
  refine st_val (.int .i64 1) ha (by kernel_rfl) (by kernel_rfl) ?_
  clear ha; intro a ha
  refine st_val (.int .i64 2) ha (by kernel_rfl) (by kernel_rfl) ?_
  clear ha; intro a ha
  refine st_val (.slice (slA (some ⟨g3, 0, none⟩) 1 5 4) (2 - 1) (5 - 1)) ha (by kernel_rfl) (run_slice (n := 5) (c := 5) 1 2 5 rfl Try.underlying22 Try.sizeOf27 (by kernel_rfl) (fun _ => rfl) bnd_none (bnd_some .i64 (by kernel_rfl)) (bnd_some .i64 (by kernel_rfl)) (by omega) (by omega) (by omega) _) ?_
  clear ha; intro a ha
  have hk2 : Knows (.blk g3 [.int .i64 0, .int .i64 0, .int .i64 0, .slice none 0 0, .int .i64 9007199254740992, .int .i64 0, .int .i64 0, .slice none 0 0, .int .i64 1, .int .i64 (-1), .int .i64 0, .slice none 0 0, .int .i64 1, .int .i64 0, .int .i64 0, .slice (some ⟨g1, 0, none⟩) 1 1, .int .i64 1, .int .i64 0, .int .i64 0, .slice (some ⟨g2, 0, none⟩) 1 1] 27 :: .blk g2 [.int .i64 6, .string (str []), .string (str []), .string (str []), .string (str []), .bool false, .slice none 0 0] 51 :: .blk g1 [.int .i64 0, .string (str []), .string (str []), .string (str []), .string (str []), .bool false, .slice none 0 0] 51 :: L) (DonesIn (some ⟨g3, 0, none⟩) ([⟨0, 0, 0, none, 0, []⟩, ⟨9007199254740992, 0, 0, none, 0, []⟩, ⟨1, (-1), 0, none, 0, []⟩, ⟨1, 0, 0, (some ⟨g1, 0, none⟩), 1, [⟨⟨0, [], [], [], [], false, []⟩, none, 0⟩]⟩, ⟨1, 0, 0, (some ⟨g2, 0, none⟩), 1, [⟨⟨6, [], [], [], [], false, []⟩, none, 0⟩]⟩] : List Dn)) := fun w s => by
    refine ⟨Knows.reads_blk (j := 0) (k := 4) (n := 5) rfl rfl w s, fun d hd => ?_⟩
    simp only [List.mem_cons, List.not_mem_nil, or_false] at hd
    rcases hd with rfl | rfl | rfl | rfl | rfl
    · exact ⟨⟨rfl, by simp, by simp⟩, fun x hx => by cases hx⟩
    · exact ⟨⟨rfl, by simp, by simp⟩, fun x hx => by cases hx⟩
    · exact ⟨⟨rfl, by simp, by simp⟩, fun x hx => by cases hx⟩
    · exact ⟨Knows.reads_blk (j := 2) (k := 7) (n := 1) rfl rfl w s, fun x hx => by simp only [List.mem_cons, List.not_mem_nil, or_false] at hx; rcases hx with rfl <;> first | exact ⟨rfl, by simp, by simp⟩⟩
    · exact ⟨Knows.reads_blk (j := 1) (k := 7) (n := 1) rfl rfl w s, fun x hx => by simp only [List.mem_cons, List.not_mem_nil, or_false] at hx; rcases hx with rfl <;> first | exact ⟨rfl, by simp, by simp⟩⟩
  have hk2b : Bn ([⟨0, 0, 0, none, 0, []⟩, ⟨9007199254740992, 0, 0, none, 0, []⟩, ⟨1, (-1), 0, none, 0, []⟩, ⟨1, 0, 0, (some ⟨g1, 0, none⟩), 1, [⟨⟨0, [], [], [], [], false, []⟩, none, 0⟩]⟩, ⟨1, 0, 0, (some ⟨g2, 0, none⟩), 1, [⟨⟨6, [], [], [], [], false, []⟩, none, 0⟩]⟩] : List Dn) := by
    refine ⟨by simp, fun d hd => ?_⟩
    simp only [List.mem_cons, List.not_mem_nil, or_false] at hd
    rcases hd with rfl | rfl | rfl | rfl | rfl
    · exact ⟨by simp, fun x hx => by cases hx⟩
    · exact ⟨by simp, fun x hx => by cases hx⟩
    · exact ⟨by simp, fun x hx => by cases hx⟩
    · exact ⟨by simp, fun x hx => by simp only [List.mem_cons, List.not_mem_nil, or_false] at hx; rcases hx with rfl <;> exact ⟨by simp, by simp⟩⟩
    · exact ⟨by simp, fun x hx => by simp only [List.mem_cons, List.not_mem_nil, or_false] at hx; rcases hx with rfl <;> exact ⟨by simp, by simp⟩⟩
  have hk2t : tns ([⟨0, 0, 0, none, 0, []⟩, ⟨9007199254740992, 0, 0, none, 0, []⟩, ⟨1, (-1), 0, none, 0, []⟩, ⟨1, 0, 0, (some ⟨g1, 0, none⟩), 1, [⟨⟨0, [], [], [], [], false, []⟩, none, 0⟩]⟩, ⟨1, 0, 0, (some ⟨g2, 0, none⟩), 1, [⟨⟨6, [], [], [], [], false, []⟩, none, 0⟩]⟩] : List Dn) = ([⟨0, 0, 0, []⟩, ⟨9007199254740992, 0, 0, []⟩, ⟨1, (-1), 0, []⟩, ⟨1, 0, 0, [⟨0, [], [], [], [], false, []⟩]⟩, ⟨1, 0, 0, [⟨6, [], [], [], [], false, []⟩]⟩] : List Tn) := rfl
  refine st_call ha (by kernel_rfl) (by kernel_rfl) (order_isN W _ w (slA (some ⟨g3, 0, none⟩) 1 5 4) (5 - 1) ((([⟨0, 0, 0, none, 0, []⟩, ⟨9007199254740992, 0, 0, none, 0, []⟩, ⟨1, (-1), 0, none, 0, []⟩, ⟨1, 0, 0, (some ⟨g1, 0, none⟩), 1, [⟨⟨0, [], [], [], [], false, []⟩, none, 0⟩]⟩, ⟨1, 0, 0, (some ⟨g2, 0, none⟩), 1, [⟨⟨6, [], [], [], [], false, []⟩, none, 0⟩]⟩] : List Dn).drop 1).take 1) _ rfl (fun w s => ((hk2 w s).drop (k := 1) (c := 5) (by simp) (by simp)).take (k := 1) (by simp)) ((hk2b.drop 1).take 1) 2 (by show code (tns ((([⟨0, 0, 0, none, 0, []⟩, ⟨9007199254740992, 0, 0, none, 0, []⟩, ⟨1, (-1), 0, none, 0, []⟩, ⟨1, 0, 0, (some ⟨g1, 0, none⟩), 1, [⟨⟨0, [], [], [], [], false, []⟩, none, 0⟩]⟩, ⟨1, 0, 0, (some ⟨g2, 0, none⟩), 1, [⟨⟨6, [], [], [], [], false, []⟩, none, 0⟩]⟩] : List Dn).drop 1).take 1)) = 2; rw [show tns ((([⟨0, 0, 0, none, 0, []⟩, ⟨9007199254740992, 0, 0, none, 0, []⟩, ⟨1, (-1), 0, none, 0, []⟩, ⟨1, 0, 0, (some ⟨g1, 0, none⟩), 1, [⟨⟨0, [], [], [], [], false, []⟩, none, 0⟩]⟩, ⟨1, 0, 0, (some ⟨g2, 0, none⟩), 1, [⟨⟨6, [], [], [], [], false, []⟩, none, 0⟩]⟩] : List Dn).drop 1).take 1) = (([⟨0, 0, 0, []⟩, ⟨9007199254740992, 0, 0, []⟩, ⟨1, (-1), 0, []⟩, ⟨1, 0, 0, [⟨0, [], [], [], [], false, []⟩]⟩, ⟨1, 0, 0, [⟨6, [], [], [], [], false, []⟩]⟩] : List Tn).drop 1).take 1 from rfl]; decide) (by decide) s) ?_
  rintro _ w ⟨rfl, s⟩
  replace s : St W (.blk g3 [.int .i64 0, .int .i64 0, .int .i64 0, .slice none 0 0, .int .i64 9007199254740992, .int .i64 0, .int .i64 0, .slice none 0 0, .int .i64 1, .int .i64 (-1), .int .i64 0, .slice none 0 0, .int .i64 1, .int .i64 0, .int .i64 0, .slice (some ⟨g1, 0, none⟩) 1 1, .int .i64 1, .int .i64 0, .int .i64 0, .slice (some ⟨g2, 0, none⟩) 1 1] 27 :: .blk g2 [.int .i64 6, .string (str []), .string (str []), .string (str []), .string (str []), .bool false, .slice none 0 0] 51 :: .blk g1 [.int .i64 0, .string (str []), .string (str []), .string (str []), .string (str []), .bool false, .slice none 0 0] 51 :: L) w := s
  refine ⟨_, rfl, ?_⟩; clear ha; intro a ha
  refine st_val (.tuple #[.slice none 0 0, .int .i64 2]) ha (by kernel_rfl) (by kernel_rfl) ?_
  clear ha; intro a ha
  refine st_val (.slice none 0 0) ha (by kernel_rfl) (by kernel_rfl) ?_
  clear ha; intro a ha
  refine st_val (.int .i64 2) ha (by kernel_rfl) (by kernel_rfl) ?_
  clear ha; intro a ha
  refine st_val (.slice none 0 0) ha (by kernel_rfl) (by kernel_rfl) ?_
  clear ha; intro a ha
  refine st_val (.int .i64 2) ha (by kernel_rfl) (by kernel_rfl) ?_
  clear ha; intro a ha
  refine wpList_nil ?_
  refine then_normal ?_
  refine wp_seq ?_
  refine wp_region_lit ?_
  refine st_val (.int .i64 2) ha (by kernel_rfl) (by kernel_rfl) ?_
  clear ha; intro a ha
  refine st_val (.bool false) ha (by kernel_rfl) (by kernel_rfl) ?_
  clear ha; intro a ha
  refine wpList_nil ?_
  refine then_normal ?_
  refine wp_false ha rfl (by kernel_rfl) ?_
  refine wp_skip ?_
  refine block_normal ?_
  refine then_normal ?_
  refine wp_region_lit ?_
  refine st_val (.int .i64 1) ha (by kernel_rfl) (by kernel_rfl) ?_
  clear ha; intro a ha
  refine st_val (.int .i64 2) ha (by kernel_rfl) (by kernel_rfl) ?_
  clear ha; intro a ha
  refine st_val (.int .i64 2) ha (by kernel_rfl) (by kernel_rfl) ?_
  clear ha; intro a ha
  refine wpList_nil ?_
  refine then_normal ?_
  show Code.rounds _ _ _ 4 _ _
  rw [rounds_succ]
  refine wp_seq ?_
  refine wp_seq ?_
  refine wp_region_lit ?_
  refine st_val (.int .i64 2) ha (by kernel_rfl) (by kernel_rfl) ?_
  clear ha; intro a ha
  refine st_val (.slice (some ⟨g3, 0, none⟩) 5 5) ha (by kernel_rfl) (by kernel_rfl) ?_
  clear ha; intro a ha
  refine st_val (.int .i64 5) ha (by kernel_rfl) (by kernel_rfl) ?_
  clear ha; intro a ha
  refine st_val (.bool true) ha (by kernel_rfl) (by kernel_rfl) ?_
  clear ha; intro a ha
  refine wpList_nil ?_
  refine then_normal ?_
  refine wp_true ha rfl (by kernel_rfl) ?_
  refine wp_skip ?_
  refine then_normal ?_
  refine wp_seq ?_
  refine wp_block ?_
  refine wp_seq ?_
  refine wp_region_lit ?_
  refine st_val (.slice (some ⟨g3, 0, none⟩) 5 5) ha (by kernel_rfl) (by kernel_rfl) ?_
  clear ha; intro a ha
  refine st_val (.int .i64 2) ha (by kernel_rfl) (by kernel_rfl) ?_
  clear ha; intro a ha
  refine st_val (.int .i64 2) ha (by kernel_rfl) (by kernel_rfl) ?_
  clear ha; intro a ha
  refine st_val (.int .i64 3) ha (by kernel_rfl) (by kernel_rfl) ?_
  clear ha; intro a ha
  refine st_val (.slice (slA (some ⟨g3, 0, none⟩) 2 5 4) (3 - 2) (5 - 2)) ha (by kernel_rfl) (run_slice (n := 5) (c := 5) 2 3 5 rfl Try.underlying22 Try.sizeOf27 (by kernel_rfl) (fun _ => rfl) bnd_none (bnd_some .i64 (by kernel_rfl)) (bnd_some .i64 (by kernel_rfl)) (by omega) (by omega) (by omega) _) ?_
  clear ha; intro a ha
  have hk3 : Knows (.blk g3 [.int .i64 0, .int .i64 0, .int .i64 0, .slice none 0 0, .int .i64 9007199254740992, .int .i64 0, .int .i64 0, .slice none 0 0, .int .i64 1, .int .i64 (-1), .int .i64 0, .slice none 0 0, .int .i64 1, .int .i64 0, .int .i64 0, .slice (some ⟨g1, 0, none⟩) 1 1, .int .i64 1, .int .i64 0, .int .i64 0, .slice (some ⟨g2, 0, none⟩) 1 1] 27 :: .blk g2 [.int .i64 6, .string (str []), .string (str []), .string (str []), .string (str []), .bool false, .slice none 0 0] 51 :: .blk g1 [.int .i64 0, .string (str []), .string (str []), .string (str []), .string (str []), .bool false, .slice none 0 0] 51 :: L) (DonesIn (some ⟨g3, 0, none⟩) ([⟨0, 0, 0, none, 0, []⟩, ⟨9007199254740992, 0, 0, none, 0, []⟩, ⟨1, (-1), 0, none, 0, []⟩, ⟨1, 0, 0, (some ⟨g1, 0, none⟩), 1, [⟨⟨0, [], [], [], [], false, []⟩, none, 0⟩]⟩, ⟨1, 0, 0, (some ⟨g2, 0, none⟩), 1, [⟨⟨6, [], [], [], [], false, []⟩, none, 0⟩]⟩] : List Dn)) := fun w s => by
    refine ⟨Knows.reads_blk (j := 0) (k := 4) (n := 5) rfl rfl w s, fun d hd => ?_⟩
    simp only [List.mem_cons, List.not_mem_nil, or_false] at hd
    rcases hd with rfl | rfl | rfl | rfl | rfl
    · exact ⟨⟨rfl, by simp, by simp⟩, fun x hx => by cases hx⟩
    · exact ⟨⟨rfl, by simp, by simp⟩, fun x hx => by cases hx⟩
    · exact ⟨⟨rfl, by simp, by simp⟩, fun x hx => by cases hx⟩
    · exact ⟨Knows.reads_blk (j := 2) (k := 7) (n := 1) rfl rfl w s, fun x hx => by simp only [List.mem_cons, List.not_mem_nil, or_false] at hx; rcases hx with rfl <;> first | exact ⟨rfl, by simp, by simp⟩⟩
    · exact ⟨Knows.reads_blk (j := 1) (k := 7) (n := 1) rfl rfl w s, fun x hx => by simp only [List.mem_cons, List.not_mem_nil, or_false] at hx; rcases hx with rfl <;> first | exact ⟨rfl, by simp, by simp⟩⟩
  have hk3b : Bn ([⟨0, 0, 0, none, 0, []⟩, ⟨9007199254740992, 0, 0, none, 0, []⟩, ⟨1, (-1), 0, none, 0, []⟩, ⟨1, 0, 0, (some ⟨g1, 0, none⟩), 1, [⟨⟨0, [], [], [], [], false, []⟩, none, 0⟩]⟩, ⟨1, 0, 0, (some ⟨g2, 0, none⟩), 1, [⟨⟨6, [], [], [], [], false, []⟩, none, 0⟩]⟩] : List Dn) := by
    refine ⟨by simp, fun d hd => ?_⟩
    simp only [List.mem_cons, List.not_mem_nil, or_false] at hd
    rcases hd with rfl | rfl | rfl | rfl | rfl
    · exact ⟨by simp, fun x hx => by cases hx⟩
    · exact ⟨by simp, fun x hx => by cases hx⟩
    · exact ⟨by simp, fun x hx => by cases hx⟩
    · exact ⟨by simp, fun x hx => by simp only [List.mem_cons, List.not_mem_nil, or_false] at hx; rcases hx with rfl <;> exact ⟨by simp, by simp⟩⟩
    · exact ⟨by simp, fun x hx => by simp only [List.mem_cons, List.not_mem_nil, or_false] at hx; rcases hx with rfl <;> exact ⟨by simp, by simp⟩⟩
  have hk3t : tns ([⟨0, 0, 0, none, 0, []⟩, ⟨9007199254740992, 0, 0, none, 0, []⟩, ⟨1, (-1), 0, none, 0, []⟩, ⟨1, 0, 0, (some ⟨g1, 0, none⟩), 1, [⟨⟨0, [], [], [], [], false, []⟩, none, 0⟩]⟩, ⟨1, 0, 0, (some ⟨g2, 0, none⟩), 1, [⟨⟨6, [], [], [], [], false, []⟩, none, 0⟩]⟩] : List Dn) = ([⟨0, 0, 0, []⟩, ⟨9007199254740992, 0, 0, []⟩, ⟨1, (-1), 0, []⟩, ⟨1, 0, 0, [⟨0, [], [], [], [], false, []⟩]⟩, ⟨1, 0, 0, [⟨6, [], [], [], [], false, []⟩]⟩] : List Tn) := rfl
  refine st_call ha (by kernel_rfl) (by kernel_rfl) (order_isN W _ w (slA (some ⟨g3, 0, none⟩) 2 5 4) (5 - 2) ((([⟨0, 0, 0, none, 0, []⟩, ⟨9007199254740992, 0, 0, none, 0, []⟩, ⟨1, (-1), 0, none, 0, []⟩, ⟨1, 0, 0, (some ⟨g1, 0, none⟩), 1, [⟨⟨0, [], [], [], [], false, []⟩, none, 0⟩]⟩, ⟨1, 0, 0, (some ⟨g2, 0, none⟩), 1, [⟨⟨6, [], [], [], [], false, []⟩, none, 0⟩]⟩] : List Dn).drop 2).take 1) _ rfl (fun w s => ((hk3 w s).drop (k := 2) (c := 5) (by simp) (by simp)).take (k := 1) (by simp)) ((hk3b.drop 2).take 1) 2 (by show code (tns ((([⟨0, 0, 0, none, 0, []⟩, ⟨9007199254740992, 0, 0, none, 0, []⟩, ⟨1, (-1), 0, none, 0, []⟩, ⟨1, 0, 0, (some ⟨g1, 0, none⟩), 1, [⟨⟨0, [], [], [], [], false, []⟩, none, 0⟩]⟩, ⟨1, 0, 0, (some ⟨g2, 0, none⟩), 1, [⟨⟨6, [], [], [], [], false, []⟩, none, 0⟩]⟩] : List Dn).drop 2).take 1)) = 2; rw [show tns ((([⟨0, 0, 0, none, 0, []⟩, ⟨9007199254740992, 0, 0, none, 0, []⟩, ⟨1, (-1), 0, none, 0, []⟩, ⟨1, 0, 0, (some ⟨g1, 0, none⟩), 1, [⟨⟨0, [], [], [], [], false, []⟩, none, 0⟩]⟩, ⟨1, 0, 0, (some ⟨g2, 0, none⟩), 1, [⟨⟨6, [], [], [], [], false, []⟩, none, 0⟩]⟩] : List Dn).drop 2).take 1) = (([⟨0, 0, 0, []⟩, ⟨9007199254740992, 0, 0, []⟩, ⟨1, (-1), 0, []⟩, ⟨1, 0, 0, [⟨0, [], [], [], [], false, []⟩]⟩, ⟨1, 0, 0, [⟨6, [], [], [], [], false, []⟩]⟩] : List Tn).drop 2).take 1 from rfl]; decide) (by decide) s) ?_
  rintro _ w ⟨rfl, s⟩
  replace s : St W (.blk g3 [.int .i64 0, .int .i64 0, .int .i64 0, .slice none 0 0, .int .i64 9007199254740992, .int .i64 0, .int .i64 0, .slice none 0 0, .int .i64 1, .int .i64 (-1), .int .i64 0, .slice none 0 0, .int .i64 1, .int .i64 0, .int .i64 0, .slice (some ⟨g1, 0, none⟩) 1 1, .int .i64 1, .int .i64 0, .int .i64 0, .slice (some ⟨g2, 0, none⟩) 1 1] 27 :: .blk g2 [.int .i64 6, .string (str []), .string (str []), .string (str []), .string (str []), .bool false, .slice none 0 0] 51 :: .blk g1 [.int .i64 0, .string (str []), .string (str []), .string (str []), .string (str []), .bool false, .slice none 0 0] 51 :: L) w := s
  refine ⟨_, rfl, ?_⟩; clear ha; intro a ha
  refine st_val (.tuple #[.slice none 0 0, .int .i64 2]) ha (by kernel_rfl) (by kernel_rfl) ?_
  clear ha; intro a ha
  refine st_val (.slice none 0 0) ha (by kernel_rfl) (by kernel_rfl) ?_
  clear ha; intro a ha
  refine st_val (.int .i64 2) ha (by kernel_rfl) (by kernel_rfl) ?_
  clear ha; intro a ha
  refine st_val (.slice none 0 0) ha (by kernel_rfl) (by kernel_rfl) ?_
  clear ha; intro a ha
  refine st_val (.int .i64 2) ha (by kernel_rfl) (by kernel_rfl) ?_
  clear ha; intro a ha
  refine wpList_nil ?_
  refine then_normal ?_
  refine wp_seq ?_
  refine wp_region_lit ?_
  refine st_val (.int .i64 2) ha (by kernel_rfl) (by kernel_rfl) ?_
  clear ha; intro a ha
  refine st_val (.bool false) ha (by kernel_rfl) (by kernel_rfl) ?_
  clear ha; intro a ha
  refine wpList_nil ?_
  refine then_normal ?_
  refine wp_false ha rfl (by kernel_rfl) ?_
  refine wp_skip ?_
  refine block_normal ?_
  refine then_normal ?_
  refine wp_region_lit ?_
  refine st_val (.int .i64 2) ha (by kernel_rfl) (by kernel_rfl) ?_
  clear ha; intro a ha
  refine st_val (.int .i64 3) ha (by kernel_rfl) (by kernel_rfl) ?_
  clear ha; intro a ha
  refine st_val (.int .i64 3) ha (by kernel_rfl) (by kernel_rfl) ?_
  clear ha; intro a ha
  refine wpList_nil ?_
  refine then_normal ?_
  show Code.rounds _ _ _ 3 _ _
  rw [rounds_succ]
  refine wp_seq ?_
  refine wp_seq ?_
  refine wp_region_lit ?_
  refine st_val (.int .i64 3) ha (by kernel_rfl) (by kernel_rfl) ?_
  clear ha; intro a ha
  refine st_val (.slice (some ⟨g3, 0, none⟩) 5 5) ha (by kernel_rfl) (by kernel_rfl) ?_
  clear ha; intro a ha
  refine st_val (.int .i64 5) ha (by kernel_rfl) (by kernel_rfl) ?_
  clear ha; intro a ha
  refine st_val (.bool true) ha (by kernel_rfl) (by kernel_rfl) ?_
  clear ha; intro a ha
  refine wpList_nil ?_
  refine then_normal ?_
  refine wp_true ha rfl (by kernel_rfl) ?_
  refine wp_skip ?_
  refine then_normal ?_
  refine wp_seq ?_
  refine wp_block ?_
  refine wp_seq ?_
  refine wp_region_lit ?_
  refine st_val (.slice (some ⟨g3, 0, none⟩) 5 5) ha (by kernel_rfl) (by kernel_rfl) ?_
  clear ha; intro a ha
  refine st_val (.int .i64 3) ha (by kernel_rfl) (by kernel_rfl) ?_
  clear ha; intro a ha
  refine st_val (.int .i64 3) ha (by kernel_rfl) (by kernel_rfl) ?_
  clear ha; intro a ha
  refine st_val (.int .i64 4) ha (by kernel_rfl) (by kernel_rfl) ?_
  clear ha; intro a ha
  refine st_val (.slice (slA (some ⟨g3, 0, none⟩) 3 5 4) (4 - 3) (5 - 3)) ha (by kernel_rfl) (run_slice (n := 5) (c := 5) 3 4 5 rfl Try.underlying22 Try.sizeOf27 (by kernel_rfl) (fun _ => rfl) bnd_none (bnd_some .i64 (by kernel_rfl)) (bnd_some .i64 (by kernel_rfl)) (by omega) (by omega) (by omega) _) ?_
  clear ha; intro a ha
  have hk4 : Knows (.blk g3 [.int .i64 0, .int .i64 0, .int .i64 0, .slice none 0 0, .int .i64 9007199254740992, .int .i64 0, .int .i64 0, .slice none 0 0, .int .i64 1, .int .i64 (-1), .int .i64 0, .slice none 0 0, .int .i64 1, .int .i64 0, .int .i64 0, .slice (some ⟨g1, 0, none⟩) 1 1, .int .i64 1, .int .i64 0, .int .i64 0, .slice (some ⟨g2, 0, none⟩) 1 1] 27 :: .blk g2 [.int .i64 6, .string (str []), .string (str []), .string (str []), .string (str []), .bool false, .slice none 0 0] 51 :: .blk g1 [.int .i64 0, .string (str []), .string (str []), .string (str []), .string (str []), .bool false, .slice none 0 0] 51 :: L) (DonesIn (some ⟨g3, 0, none⟩) ([⟨0, 0, 0, none, 0, []⟩, ⟨9007199254740992, 0, 0, none, 0, []⟩, ⟨1, (-1), 0, none, 0, []⟩, ⟨1, 0, 0, (some ⟨g1, 0, none⟩), 1, [⟨⟨0, [], [], [], [], false, []⟩, none, 0⟩]⟩, ⟨1, 0, 0, (some ⟨g2, 0, none⟩), 1, [⟨⟨6, [], [], [], [], false, []⟩, none, 0⟩]⟩] : List Dn)) := fun w s => by
    refine ⟨Knows.reads_blk (j := 0) (k := 4) (n := 5) rfl rfl w s, fun d hd => ?_⟩
    simp only [List.mem_cons, List.not_mem_nil, or_false] at hd
    rcases hd with rfl | rfl | rfl | rfl | rfl
    · exact ⟨⟨rfl, by simp, by simp⟩, fun x hx => by cases hx⟩
    · exact ⟨⟨rfl, by simp, by simp⟩, fun x hx => by cases hx⟩
    · exact ⟨⟨rfl, by simp, by simp⟩, fun x hx => by cases hx⟩
    · exact ⟨Knows.reads_blk (j := 2) (k := 7) (n := 1) rfl rfl w s, fun x hx => by simp only [List.mem_cons, List.not_mem_nil, or_false] at hx; rcases hx with rfl <;> first | exact ⟨rfl, by simp, by simp⟩⟩
    · exact ⟨Knows.reads_blk (j := 1) (k := 7) (n := 1) rfl rfl w s, fun x hx => by simp only [List.mem_cons, List.not_mem_nil, or_false] at hx; rcases hx with rfl <;> first | exact ⟨rfl, by simp, by simp⟩⟩
  have hk4b : Bn ([⟨0, 0, 0, none, 0, []⟩, ⟨9007199254740992, 0, 0, none, 0, []⟩, ⟨1, (-1), 0, none, 0, []⟩, ⟨1, 0, 0, (some ⟨g1, 0, none⟩), 1, [⟨⟨0, [], [], [], [], false, []⟩, none, 0⟩]⟩, ⟨1, 0, 0, (some ⟨g2, 0, none⟩), 1, [⟨⟨6, [], [], [], [], false, []⟩, none, 0⟩]⟩] : List Dn) := by
    refine ⟨by simp, fun d hd => ?_⟩
    simp only [List.mem_cons, List.not_mem_nil, or_false] at hd
    rcases hd with rfl | rfl | rfl | rfl | rfl
    · exact ⟨by simp, fun x hx => by cases hx⟩
    · exact ⟨by simp, fun x hx => by cases hx⟩
    · exact ⟨by simp, fun x hx => by cases hx⟩
    · exact ⟨by simp, fun x hx => by simp only [List.mem_cons, List.not_mem_nil, or_false] at hx; rcases hx with rfl <;> exact ⟨by simp, by simp⟩⟩
    · exact ⟨by simp, fun x hx => by simp only [List.mem_cons, List.not_mem_nil, or_false] at hx; rcases hx with rfl <;> exact ⟨by simp, by simp⟩⟩
  have hk4t : tns ([⟨0, 0, 0, none, 0, []⟩, ⟨9007199254740992, 0, 0, none, 0, []⟩, ⟨1, (-1), 0, none, 0, []⟩, ⟨1, 0, 0, (some ⟨g1, 0, none⟩), 1, [⟨⟨0, [], [], [], [], false, []⟩, none, 0⟩]⟩, ⟨1, 0, 0, (some ⟨g2, 0, none⟩), 1, [⟨⟨6, [], [], [], [], false, []⟩, none, 0⟩]⟩] : List Dn) = ([⟨0, 0, 0, []⟩, ⟨9007199254740992, 0, 0, []⟩, ⟨1, (-1), 0, []⟩, ⟨1, 0, 0, [⟨0, [], [], [], [], false, []⟩]⟩, ⟨1, 0, 0, [⟨6, [], [], [], [], false, []⟩]⟩] : List Tn) := rfl
  refine st_call ha (by kernel_rfl) (by kernel_rfl) (order_isN W _ w (slA (some ⟨g3, 0, none⟩) 3 5 4) (5 - 3) ((([⟨0, 0, 0, none, 0, []⟩, ⟨9007199254740992, 0, 0, none, 0, []⟩, ⟨1, (-1), 0, none, 0, []⟩, ⟨1, 0, 0, (some ⟨g1, 0, none⟩), 1, [⟨⟨0, [], [], [], [], false, []⟩, none, 0⟩]⟩, ⟨1, 0, 0, (some ⟨g2, 0, none⟩), 1, [⟨⟨6, [], [], [], [], false, []⟩, none, 0⟩]⟩] : List Dn).drop 3).take 1) _ rfl (fun w s => ((hk4 w s).drop (k := 3) (c := 5) (by simp) (by simp)).take (k := 1) (by simp)) ((hk4b.drop 3).take 1) 2 (by show code (tns ((([⟨0, 0, 0, none, 0, []⟩, ⟨9007199254740992, 0, 0, none, 0, []⟩, ⟨1, (-1), 0, none, 0, []⟩, ⟨1, 0, 0, (some ⟨g1, 0, none⟩), 1, [⟨⟨0, [], [], [], [], false, []⟩, none, 0⟩]⟩, ⟨1, 0, 0, (some ⟨g2, 0, none⟩), 1, [⟨⟨6, [], [], [], [], false, []⟩, none, 0⟩]⟩] : List Dn).drop 3).take 1)) = 2; rw [show tns ((([⟨0, 0, 0, none, 0, []⟩, ⟨9007199254740992, 0, 0, none, 0, []⟩, ⟨1, (-1), 0, none, 0, []⟩, ⟨1, 0, 0, (some ⟨g1, 0, none⟩), 1, [⟨⟨0, [], [], [], [], false, []⟩, none, 0⟩]⟩, ⟨1, 0, 0, (some ⟨g2, 0, none⟩), 1, [⟨⟨6, [], [], [], [], false, []⟩, none, 0⟩]⟩] : List Dn).drop 3).take 1) = (([⟨0, 0, 0, []⟩, ⟨9007199254740992, 0, 0, []⟩, ⟨1, (-1), 0, []⟩, ⟨1, 0, 0, [⟨0, [], [], [], [], false, []⟩]⟩, ⟨1, 0, 0, [⟨6, [], [], [], [], false, []⟩]⟩] : List Tn).drop 3).take 1 from rfl]; decide) (by decide) s) ?_
  rintro _ w ⟨rfl, s⟩
  replace s : St W (.blk g3 [.int .i64 0, .int .i64 0, .int .i64 0, .slice none 0 0, .int .i64 9007199254740992, .int .i64 0, .int .i64 0, .slice none 0 0, .int .i64 1, .int .i64 (-1), .int .i64 0, .slice none 0 0, .int .i64 1, .int .i64 0, .int .i64 0, .slice (some ⟨g1, 0, none⟩) 1 1, .int .i64 1, .int .i64 0, .int .i64 0, .slice (some ⟨g2, 0, none⟩) 1 1] 27 :: .blk g2 [.int .i64 6, .string (str []), .string (str []), .string (str []), .string (str []), .bool false, .slice none 0 0] 51 :: .blk g1 [.int .i64 0, .string (str []), .string (str []), .string (str []), .string (str []), .bool false, .slice none 0 0] 51 :: L) w := s
  refine ⟨_, rfl, ?_⟩; clear ha; intro a ha
  refine st_val (.tuple #[.slice none 0 0, .int .i64 2]) ha (by kernel_rfl) (by kernel_rfl) ?_
  clear ha; intro a ha
  refine st_val (.slice none 0 0) ha (by kernel_rfl) (by kernel_rfl) ?_
  clear ha; intro a ha
  refine st_val (.int .i64 2) ha (by kernel_rfl) (by kernel_rfl) ?_
  clear ha; intro a ha
  refine st_val (.slice none 0 0) ha (by kernel_rfl) (by kernel_rfl) ?_
  clear ha; intro a ha
  refine st_val (.int .i64 2) ha (by kernel_rfl) (by kernel_rfl) ?_
  clear ha; intro a ha
  refine wpList_nil ?_
  refine then_normal ?_
  refine wp_seq ?_
  refine wp_region_lit ?_
  refine st_val (.int .i64 2) ha (by kernel_rfl) (by kernel_rfl) ?_
  clear ha; intro a ha
  refine st_val (.bool false) ha (by kernel_rfl) (by kernel_rfl) ?_
  clear ha; intro a ha
  refine wpList_nil ?_
  refine then_normal ?_
  refine wp_false ha rfl (by kernel_rfl) ?_
  refine wp_skip ?_
  refine block_normal ?_
  refine then_normal ?_
  refine wp_region_lit ?_
  refine st_val (.int .i64 3) ha (by kernel_rfl) (by kernel_rfl) ?_
  clear ha; intro a ha
  refine st_val (.int .i64 4) ha (by kernel_rfl) (by kernel_rfl) ?_
  clear ha; intro a ha
  refine st_val (.int .i64 4) ha (by kernel_rfl) (by kernel_rfl) ?_
  clear ha; intro a ha
  refine wpList_nil ?_
  refine then_normal ?_
  show Code.rounds _ _ _ 2 _ _
  rw [rounds_succ]
  refine wp_seq ?_
  refine wp_seq ?_
  refine wp_region_lit ?_
  refine st_val (.int .i64 4) ha (by kernel_rfl) (by kernel_rfl) ?_
  clear ha; intro a ha
  refine st_val (.slice (some ⟨g3, 0, none⟩) 5 5) ha (by kernel_rfl) (by kernel_rfl) ?_
  clear ha; intro a ha
  refine st_val (.int .i64 5) ha (by kernel_rfl) (by kernel_rfl) ?_
  clear ha; intro a ha
  refine st_val (.bool true) ha (by kernel_rfl) (by kernel_rfl) ?_
  clear ha; intro a ha
  refine wpList_nil ?_
  refine then_normal ?_
  refine wp_true ha rfl (by kernel_rfl) ?_
  refine wp_skip ?_
  refine then_normal ?_
  refine wp_seq ?_
  refine wp_block ?_
  refine wp_seq ?_
  refine wp_region_lit ?_
  refine st_val (.slice (some ⟨g3, 0, none⟩) 5 5) ha (by kernel_rfl) (by kernel_rfl) ?_
  clear ha; intro a ha
  refine st_val (.int .i64 4) ha (by kernel_rfl) (by kernel_rfl) ?_
  clear ha; intro a ha
  refine st_val (.int .i64 4) ha (by kernel_rfl) (by kernel_rfl) ?_
  clear ha; intro a ha
  refine st_val (.int .i64 5) ha (by kernel_rfl) (by kernel_rfl) ?_
  clear ha; intro a ha
  refine st_val (.slice (slA (some ⟨g3, 0, none⟩) 4 5 4) (5 - 4) (5 - 4)) ha (by kernel_rfl) (run_slice (n := 5) (c := 5) 4 5 5 rfl Try.underlying22 Try.sizeOf27 (by kernel_rfl) (fun _ => rfl) bnd_none (bnd_some .i64 (by kernel_rfl)) (bnd_some .i64 (by kernel_rfl)) (by omega) (by omega) (by omega) _) ?_
  clear ha; intro a ha
  have hk5 : Knows (.blk g3 [.int .i64 0, .int .i64 0, .int .i64 0, .slice none 0 0, .int .i64 9007199254740992, .int .i64 0, .int .i64 0, .slice none 0 0, .int .i64 1, .int .i64 (-1), .int .i64 0, .slice none 0 0, .int .i64 1, .int .i64 0, .int .i64 0, .slice (some ⟨g1, 0, none⟩) 1 1, .int .i64 1, .int .i64 0, .int .i64 0, .slice (some ⟨g2, 0, none⟩) 1 1] 27 :: .blk g2 [.int .i64 6, .string (str []), .string (str []), .string (str []), .string (str []), .bool false, .slice none 0 0] 51 :: .blk g1 [.int .i64 0, .string (str []), .string (str []), .string (str []), .string (str []), .bool false, .slice none 0 0] 51 :: L) (DonesIn (some ⟨g3, 0, none⟩) ([⟨0, 0, 0, none, 0, []⟩, ⟨9007199254740992, 0, 0, none, 0, []⟩, ⟨1, (-1), 0, none, 0, []⟩, ⟨1, 0, 0, (some ⟨g1, 0, none⟩), 1, [⟨⟨0, [], [], [], [], false, []⟩, none, 0⟩]⟩, ⟨1, 0, 0, (some ⟨g2, 0, none⟩), 1, [⟨⟨6, [], [], [], [], false, []⟩, none, 0⟩]⟩] : List Dn)) := fun w s => by
    refine ⟨Knows.reads_blk (j := 0) (k := 4) (n := 5) rfl rfl w s, fun d hd => ?_⟩
    simp only [List.mem_cons, List.not_mem_nil, or_false] at hd
    rcases hd with rfl | rfl | rfl | rfl | rfl
    · exact ⟨⟨rfl, by simp, by simp⟩, fun x hx => by cases hx⟩
    · exact ⟨⟨rfl, by simp, by simp⟩, fun x hx => by cases hx⟩
    · exact ⟨⟨rfl, by simp, by simp⟩, fun x hx => by cases hx⟩
    · exact ⟨Knows.reads_blk (j := 2) (k := 7) (n := 1) rfl rfl w s, fun x hx => by simp only [List.mem_cons, List.not_mem_nil, or_false] at hx; rcases hx with rfl <;> first | exact ⟨rfl, by simp, by simp⟩⟩
    · exact ⟨Knows.reads_blk (j := 1) (k := 7) (n := 1) rfl rfl w s, fun x hx => by simp only [List.mem_cons, List.not_mem_nil, or_false] at hx; rcases hx with rfl <;> first | exact ⟨rfl, by simp, by simp⟩⟩
  have hk5b : Bn ([⟨0, 0, 0, none, 0, []⟩, ⟨9007199254740992, 0, 0, none, 0, []⟩, ⟨1, (-1), 0, none, 0, []⟩, ⟨1, 0, 0, (some ⟨g1, 0, none⟩), 1, [⟨⟨0, [], [], [], [], false, []⟩, none, 0⟩]⟩, ⟨1, 0, 0, (some ⟨g2, 0, none⟩), 1, [⟨⟨6, [], [], [], [], false, []⟩, none, 0⟩]⟩] : List Dn) := by
    refine ⟨by simp, fun d hd => ?_⟩
    simp only [List.mem_cons, List.not_mem_nil, or_false] at hd
    rcases hd with rfl | rfl | rfl | rfl | rfl
    · exact ⟨by simp, fun x hx => by cases hx⟩
    · exact ⟨by simp, fun x hx => by cases hx⟩
    · exact ⟨by simp, fun x hx => by cases hx⟩
    · exact ⟨by simp, fun x hx => by simp only [List.mem_cons, List.not_mem_nil, or_false] at hx; rcases hx with rfl <;> exact ⟨by simp, by simp⟩⟩
    · exact ⟨by simp, fun x hx => by simp only [List.mem_cons, List.not_mem_nil, or_false] at hx; rcases hx with rfl <;> exact ⟨by simp, by simp⟩⟩
  have hk5t : tns ([⟨0, 0, 0, none, 0, []⟩, ⟨9007199254740992, 0, 0, none, 0, []⟩, ⟨1, (-1), 0, none, 0, []⟩, ⟨1, 0, 0, (some ⟨g1, 0, none⟩), 1, [⟨⟨0, [], [], [], [], false, []⟩, none, 0⟩]⟩, ⟨1, 0, 0, (some ⟨g2, 0, none⟩), 1, [⟨⟨6, [], [], [], [], false, []⟩, none, 0⟩]⟩] : List Dn) = ([⟨0, 0, 0, []⟩, ⟨9007199254740992, 0, 0, []⟩, ⟨1, (-1), 0, []⟩, ⟨1, 0, 0, [⟨0, [], [], [], [], false, []⟩]⟩, ⟨1, 0, 0, [⟨6, [], [], [], [], false, []⟩]⟩] : List Tn) := rfl
  refine st_call ha (by kernel_rfl) (by kernel_rfl) (order_isN W _ w (slA (some ⟨g3, 0, none⟩) 4 5 4) (5 - 4) ((([⟨0, 0, 0, none, 0, []⟩, ⟨9007199254740992, 0, 0, none, 0, []⟩, ⟨1, (-1), 0, none, 0, []⟩, ⟨1, 0, 0, (some ⟨g1, 0, none⟩), 1, [⟨⟨0, [], [], [], [], false, []⟩, none, 0⟩]⟩, ⟨1, 0, 0, (some ⟨g2, 0, none⟩), 1, [⟨⟨6, [], [], [], [], false, []⟩, none, 0⟩]⟩] : List Dn).drop 4).take 1) _ rfl (fun w s => ((hk5 w s).drop (k := 4) (c := 5) (by simp) (by simp)).take (k := 1) (by simp)) ((hk5b.drop 4).take 1) 2 (by show code (tns ((([⟨0, 0, 0, none, 0, []⟩, ⟨9007199254740992, 0, 0, none, 0, []⟩, ⟨1, (-1), 0, none, 0, []⟩, ⟨1, 0, 0, (some ⟨g1, 0, none⟩), 1, [⟨⟨0, [], [], [], [], false, []⟩, none, 0⟩]⟩, ⟨1, 0, 0, (some ⟨g2, 0, none⟩), 1, [⟨⟨6, [], [], [], [], false, []⟩, none, 0⟩]⟩] : List Dn).drop 4).take 1)) = 2; rw [show tns ((([⟨0, 0, 0, none, 0, []⟩, ⟨9007199254740992, 0, 0, none, 0, []⟩, ⟨1, (-1), 0, none, 0, []⟩, ⟨1, 0, 0, (some ⟨g1, 0, none⟩), 1, [⟨⟨0, [], [], [], [], false, []⟩, none, 0⟩]⟩, ⟨1, 0, 0, (some ⟨g2, 0, none⟩), 1, [⟨⟨6, [], [], [], [], false, []⟩, none, 0⟩]⟩] : List Dn).drop 4).take 1) = (([⟨0, 0, 0, []⟩, ⟨9007199254740992, 0, 0, []⟩, ⟨1, (-1), 0, []⟩, ⟨1, 0, 0, [⟨0, [], [], [], [], false, []⟩]⟩, ⟨1, 0, 0, [⟨6, [], [], [], [], false, []⟩]⟩] : List Tn).drop 4).take 1 from rfl]; decide) (by decide) s) ?_
  rintro _ w ⟨rfl, s⟩
  replace s : St W (.blk g3 [.int .i64 0, .int .i64 0, .int .i64 0, .slice none 0 0, .int .i64 9007199254740992, .int .i64 0, .int .i64 0, .slice none 0 0, .int .i64 1, .int .i64 (-1), .int .i64 0, .slice none 0 0, .int .i64 1, .int .i64 0, .int .i64 0, .slice (some ⟨g1, 0, none⟩) 1 1, .int .i64 1, .int .i64 0, .int .i64 0, .slice (some ⟨g2, 0, none⟩) 1 1] 27 :: .blk g2 [.int .i64 6, .string (str []), .string (str []), .string (str []), .string (str []), .bool false, .slice none 0 0] 51 :: .blk g1 [.int .i64 0, .string (str []), .string (str []), .string (str []), .string (str []), .bool false, .slice none 0 0] 51 :: L) w := s
  refine ⟨_, rfl, ?_⟩; clear ha; intro a ha
  refine st_val (.tuple #[.slice none 0 0, .int .i64 2]) ha (by kernel_rfl) (by kernel_rfl) ?_
  clear ha; intro a ha
  refine st_val (.slice none 0 0) ha (by kernel_rfl) (by kernel_rfl) ?_
  clear ha; intro a ha
  refine st_val (.int .i64 2) ha (by kernel_rfl) (by kernel_rfl) ?_
  clear ha; intro a ha
  refine st_val (.slice none 0 0) ha (by kernel_rfl) (by kernel_rfl) ?_
  clear ha; intro a ha
  refine st_val (.int .i64 2) ha (by kernel_rfl) (by kernel_rfl) ?_
  clear ha; intro a ha
  refine wpList_nil ?_
  refine then_normal ?_
  refine wp_seq ?_
  refine wp_region_lit ?_
  refine st_val (.int .i64 2) ha (by kernel_rfl) (by kernel_rfl) ?_
  clear ha; intro a ha
  refine st_val (.bool false) ha (by kernel_rfl) (by kernel_rfl) ?_
  clear ha; intro a ha
  refine wpList_nil ?_
  refine then_normal ?_
  refine wp_false ha rfl (by kernel_rfl) ?_
  refine wp_skip ?_
  refine block_normal ?_
  refine then_normal ?_
  refine wp_region_lit ?_
  refine st_val (.int .i64 4) ha (by kernel_rfl) (by kernel_rfl) ?_
  clear ha; intro a ha
  refine st_val (.int .i64 5) ha (by kernel_rfl) (by kernel_rfl) ?_
  clear ha; intro a ha
  refine st_val (.int .i64 5) ha (by kernel_rfl) (by kernel_rfl) ?_
  clear ha; intro a ha
  refine wpList_nil ?_
  refine then_normal ?_
  show Code.rounds _ _ _ 1 _ _
  rw [rounds_succ]
  refine wp_seq ?_
  refine wp_seq ?_
  refine wp_region_lit ?_
  refine st_val (.int .i64 5) ha (by kernel_rfl) (by kernel_rfl) ?_
  clear ha; intro a ha
  refine st_val (.slice (some ⟨g3, 0, none⟩) 5 5) ha (by kernel_rfl) (by kernel_rfl) ?_
  clear ha; intro a ha
  refine st_val (.int .i64 5) ha (by kernel_rfl) (by kernel_rfl) ?_
  clear ha; intro a ha
  refine st_val (.bool false) ha (by kernel_rfl) (by kernel_rfl) ?_
  clear ha; intro a ha
  refine wpList_nil ?_
  refine then_normal ?_
  refine wp_false ha rfl (by kernel_rfl) ?_
  refine wp_exit ?_
  refine then_exit ?_
  refine then_exit ?_
  refine block_hit ?_
  refine then_normal ?_
  refine wp_seq ?_
  refine wp_region_lit ?_
  refine st_val (.agg #[.int .i64 1, .int .i64 0, .int .i64 0, .slice none 0 0]) ha (by kernel_rfl) (by kernel_rfl) ?_
  clear ha; intro a ha
  refine st_call ha (by kernel_rfl) (by kernel_rfl) (at_any W _ w 1 s) ?_
  rintro _ w ⟨rfl, s⟩
  replace s : St W (.blk g3 [.int .i64 0, .int .i64 0, .int .i64 0, .slice none 0 0, .int .i64 9007199254740992, .int .i64 0, .int .i64 0, .slice none 0 0, .int .i64 1, .int .i64 (-1), .int .i64 0, .slice none 0 0, .int .i64 1, .int .i64 0, .int .i64 0, .slice (some ⟨g1, 0, none⟩) 1 1, .int .i64 1, .int .i64 0, .int .i64 0, .slice (some ⟨g2, 0, none⟩) 1 1] 27 :: .blk g2 [.int .i64 6, .string (str []), .string (str []), .string (str []), .string (str []), .bool false, .slice none 0 0] 51 :: .blk g1 [.int .i64 0, .string (str []), .string (str []), .string (str []), .string (str []), .bool false, .slice none 0 0] 51 :: L) w := s
  refine ⟨_, rfl, ?_⟩; clear ha; intro a ha
  refine st_val (.agg #[.int .i64 1, .int .i64 1, .int .i64 0, .slice none 0 0]) ha (by kernel_rfl) (by kernel_rfl) ?_
  clear ha; intro a ha
  refine st_ex ha (by kernel_rfl) (ex_buildSlice elt22 _ zs22 [.int .i64 1, .int .i64 0, .int .i64 0, .slice none 0 0, .int .i64 1, .int .i64 1, .int .i64 0, .slice none 0 0] s rfl (by kernel_rfl) (by decide)) ?_
  clear ha; rintro _ w a ⟨g4, rfl, s⟩ ha
  replace s : St W (.blk g4 [.int .i64 1, .int .i64 0, .int .i64 0, .slice none 0 0, .int .i64 1, .int .i64 1, .int .i64 0, .slice none 0 0] 27 :: .blk g3 [.int .i64 0, .int .i64 0, .int .i64 0, .slice none 0 0, .int .i64 9007199254740992, .int .i64 0, .int .i64 0, .slice none 0 0, .int .i64 1, .int .i64 (-1), .int .i64 0, .slice none 0 0, .int .i64 1, .int .i64 0, .int .i64 0, .slice (some ⟨g1, 0, none⟩) 1 1, .int .i64 1, .int .i64 0, .int .i64 0, .slice (some ⟨g2, 0, none⟩) 1 1] 27 :: .blk g2 [.int .i64 6, .string (str []), .string (str []), .string (str []), .string (str []), .bool false, .slice none 0 0] 51 :: .blk g1 [.int .i64 0, .string (str []), .string (str []), .string (str []), .string (str []), .bool false, .slice none 0 0] 51 :: L) w := s
  have hk6 : Knows (.blk g4 [.int .i64 1, .int .i64 0, .int .i64 0, .slice none 0 0, .int .i64 1, .int .i64 1, .int .i64 0, .slice none 0 0] 27 :: .blk g3 [.int .i64 0, .int .i64 0, .int .i64 0, .slice none 0 0, .int .i64 9007199254740992, .int .i64 0, .int .i64 0, .slice none 0 0, .int .i64 1, .int .i64 (-1), .int .i64 0, .slice none 0 0, .int .i64 1, .int .i64 0, .int .i64 0, .slice (some ⟨g1, 0, none⟩) 1 1, .int .i64 1, .int .i64 0, .int .i64 0, .slice (some ⟨g2, 0, none⟩) 1 1] 27 :: .blk g2 [.int .i64 6, .string (str []), .string (str []), .string (str []), .string (str []), .bool false, .slice none 0 0] 51 :: .blk g1 [.int .i64 0, .string (str []), .string (str []), .string (str []), .string (str []), .bool false, .slice none 0 0] 51 :: L) (DonesIn (some ⟨g4, 0, none⟩) ([⟨1, 0, 0, none, 0, []⟩, ⟨1, 1, 0, none, 0, []⟩] : List Dn)) := fun w s => by
    refine ⟨Knows.reads_blk (j := 0) (k := 4) (n := 2) rfl rfl w s, fun d hd => ?_⟩
    simp only [List.mem_cons, List.not_mem_nil, or_false] at hd
    rcases hd with rfl | rfl
    · exact ⟨⟨rfl, by simp, by simp⟩, fun x hx => by cases hx⟩
    · exact ⟨⟨rfl, by simp, by simp⟩, fun x hx => by cases hx⟩
  have hk6b : Bn ([⟨1, 0, 0, none, 0, []⟩, ⟨1, 1, 0, none, 0, []⟩] : List Dn) := by
    refine ⟨by simp, fun d hd => ?_⟩
    simp only [List.mem_cons, List.not_mem_nil, or_false] at hd
    rcases hd with rfl | rfl
    · exact ⟨by simp, fun x hx => by cases hx⟩
    · exact ⟨by simp, fun x hx => by cases hx⟩
  have hk6t : tns ([⟨1, 0, 0, none, 0, []⟩, ⟨1, 1, 0, none, 0, []⟩] : List Dn) = ([⟨1, 0, 0, []⟩, ⟨1, 1, 0, []⟩] : List Tn) := rfl
  refine st_call ha (by kernel_rfl) (by kernel_rfl) (order_isN W _ w (some ⟨g4, 0, none⟩) 2 ([⟨1, 0, 0, none, 0, []⟩, ⟨1, 1, 0, none, 0, []⟩] : List Dn) _ rfl hk6 hk6b 2 (by rw [hk6t]; decide) (by decide) s) ?_
  rintro _ w ⟨rfl, s⟩
  replace s : St W (.blk g4 [.int .i64 1, .int .i64 0, .int .i64 0, .slice none 0 0, .int .i64 1, .int .i64 1, .int .i64 0, .slice none 0 0] 27 :: .blk g3 [.int .i64 0, .int .i64 0, .int .i64 0, .slice none 0 0, .int .i64 9007199254740992, .int .i64 0, .int .i64 0, .slice none 0 0, .int .i64 1, .int .i64 (-1), .int .i64 0, .slice none 0 0, .int .i64 1, .int .i64 0, .int .i64 0, .slice (some ⟨g1, 0, none⟩) 1 1, .int .i64 1, .int .i64 0, .int .i64 0, .slice (some ⟨g2, 0, none⟩) 1 1] 27 :: .blk g2 [.int .i64 6, .string (str []), .string (str []), .string (str []), .string (str []), .bool false, .slice none 0 0] 51 :: .blk g1 [.int .i64 0, .string (str []), .string (str []), .string (str []), .string (str []), .bool false, .slice none 0 0] 51 :: L) w := s
  refine ⟨_, rfl, ?_⟩; clear ha; intro a ha
  refine st_val (.tuple #[.slice none 0 0, .int .i64 2]) ha (by kernel_rfl) (by kernel_rfl) ?_
  clear ha; intro a ha
  refine st_val (.slice none 0 0) ha (by kernel_rfl) (by kernel_rfl) ?_
  clear ha; intro a ha
  refine st_val (.int .i64 2) ha (by kernel_rfl) (by kernel_rfl) ?_
  clear ha; intro a ha
  refine st_val (.slice none 0 0) ha (by kernel_rfl) (by kernel_rfl) ?_
  clear ha; intro a ha
  refine st_val (.int .i64 2) ha (by kernel_rfl) (by kernel_rfl) ?_
  clear ha; intro a ha
  refine wpList_nil ?_
  refine then_normal ?_
  refine wp_seq ?_
  refine wp_region_lit ?_
  refine st_ex ha (by kernel_rfl) (ex_makeSlice (n := 1001) (c := 1001) (kx := .i64) (ky := .i64) elt22 #[.int .i64 0, .int .i64 0, .int .i64 0, .slice none 0 0] (by kernel_rfl) s rfl rfl rfl (by omega) (by omega) (by omega) (by simp [roomBytes])) ?_
  clear ha; rintro _ w a ⟨g5, rfl, s⟩ ha
  rw [made_done] at s
  replace s : St W (.blk g5 (nvs (zeroN 1001)) 27 :: .blk g4 [.int .i64 1, .int .i64 0, .int .i64 0, .slice none 0 0, .int .i64 1, .int .i64 1, .int .i64 0, .slice none 0 0] 27 :: .blk g3 [.int .i64 0, .int .i64 0, .int .i64 0, .slice none 0 0, .int .i64 9007199254740992, .int .i64 0, .int .i64 0, .slice none 0 0, .int .i64 1, .int .i64 (-1), .int .i64 0, .slice none 0 0, .int .i64 1, .int .i64 0, .int .i64 0, .slice (some ⟨g1, 0, none⟩) 1 1, .int .i64 1, .int .i64 0, .int .i64 0, .slice (some ⟨g2, 0, none⟩) 1 1] 27 :: .blk g2 [.int .i64 6, .string (str []), .string (str []), .string (str []), .string (str []), .bool false, .slice none 0 0] 51 :: .blk g1 [.int .i64 0, .string (str []), .string (str []), .string (str []), .string (str []), .bool false, .slice none 0 0] 51 :: L) w := s
  refine st_call ha (by kernel_rfl) (by kernel_rfl) (order_isN W _ w (some ⟨g5, 0, none⟩) 1001 (zeroN 1001) 1001 (zeroN_len _) (fun w s => zeroN_in (Knows.reads_blk (j := 0) (k := 4) (n := 1001) (cs := nvs (zeroN 1001)) rfl (by rw [nvs_len, zeroN_len]) w s)) (zeroN_bn _ (by omega)) 5 (limN (by rw [List.length_map, zeroN_len]; omega)) (by decide) s) ?_
  rintro _ w ⟨rfl, s⟩
  replace s : St W (.blk g5 (nvs (zeroN 1001)) 27 :: .blk g4 [.int .i64 1, .int .i64 0, .int .i64 0, .slice none 0 0, .int .i64 1, .int .i64 1, .int .i64 0, .slice none 0 0] 27 :: .blk g3 [.int .i64 0, .int .i64 0, .int .i64 0, .slice none 0 0, .int .i64 9007199254740992, .int .i64 0, .int .i64 0, .slice none 0 0, .int .i64 1, .int .i64 (-1), .int .i64 0, .slice none 0 0, .int .i64 1, .int .i64 0, .int .i64 0, .slice (some ⟨g1, 0, none⟩) 1 1, .int .i64 1, .int .i64 0, .int .i64 0, .slice (some ⟨g2, 0, none⟩) 1 1] 27 :: .blk g2 [.int .i64 6, .string (str []), .string (str []), .string (str []), .string (str []), .bool false, .slice none 0 0] 51 :: .blk g1 [.int .i64 0, .string (str []), .string (str []), .string (str []), .string (str []), .bool false, .slice none 0 0] 51 :: L) w := s
  refine ⟨_, rfl, ?_⟩; clear ha; intro a ha
  refine st_val (.tuple #[.slice none 0 0, .int .i64 5]) ha (by kernel_rfl) (by kernel_rfl) ?_
  clear ha; intro a ha
  refine st_val (.slice none 0 0) ha (by kernel_rfl) (by kernel_rfl) ?_
  clear ha; intro a ha
  refine st_val (.int .i64 5) ha (by kernel_rfl) (by kernel_rfl) ?_
  clear ha; intro a ha
  refine st_val (.slice none 0 0) ha (by kernel_rfl) (by kernel_rfl) ?_
  clear ha; intro a ha
  refine st_val (.int .i64 5) ha (by kernel_rfl) (by kernel_rfl) ?_
  clear ha; intro a ha
  refine wpList_nil ?_
  refine then_normal ?_
  refine wp_seq ?_
  refine wp_region_lit ?_
  refine st_ex ha (by kernel_rfl) (ex_makeSlice (n := 10001) (c := 10001) (kx := .i64) (ky := .i64) elt25 #[.int .i64 0, .string (str []), .string (str []), .string (str []), .string (str []), .bool false, .slice none 0 0] (by kernel_rfl) s rfl rfl rfl (by omega) (by omega) (by omega) (by simp [roomBytes])) ?_
  clear ha; rintro _ w a ⟨g6, rfl, s⟩ ha
  rw [made_did] at s
  replace s : St W (.blk g6 (dvs (zeroD 10001)) 51 :: .blk g5 (nvs (zeroN 1001)) 27 :: .blk g4 [.int .i64 1, .int .i64 0, .int .i64 0, .slice none 0 0, .int .i64 1, .int .i64 1, .int .i64 0, .slice none 0 0] 27 :: .blk g3 [.int .i64 0, .int .i64 0, .int .i64 0, .slice none 0 0, .int .i64 9007199254740992, .int .i64 0, .int .i64 0, .slice none 0 0, .int .i64 1, .int .i64 (-1), .int .i64 0, .slice none 0 0, .int .i64 1, .int .i64 0, .int .i64 0, .slice (some ⟨g1, 0, none⟩) 1 1, .int .i64 1, .int .i64 0, .int .i64 0, .slice (some ⟨g2, 0, none⟩) 1 1] 27 :: .blk g2 [.int .i64 6, .string (str []), .string (str []), .string (str []), .string (str []), .bool false, .slice none 0 0] 51 :: .blk g1 [.int .i64 0, .string (str []), .string (str []), .string (str []), .string (str []), .bool false, .slice none 0 0] 51 :: L) w := s
  refine st_val (.agg #[.int .i64 1, .int .i64 0, .int .i64 0, .slice (some ⟨g6, 0, none⟩) 10001 10001]) ha (by kernel_rfl) (by kernel_rfl) ?_
  clear ha; intro a ha
  refine st_ex ha (by kernel_rfl) (ex_buildSlice elt22 _ zs22 [.int .i64 1, .int .i64 0, .int .i64 0, .slice (some ⟨g6, 0, none⟩) 10001 10001] s rfl (by kernel_rfl) (by decide)) ?_
  clear ha; rintro _ w a ⟨g7, rfl, s⟩ ha
  replace s : St W (.blk g7 [.int .i64 1, .int .i64 0, .int .i64 0, .slice (some ⟨g6, 0, none⟩) 10001 10001] 27 :: .blk g6 (dvs (zeroD 10001)) 51 :: .blk g5 (nvs (zeroN 1001)) 27 :: .blk g4 [.int .i64 1, .int .i64 0, .int .i64 0, .slice none 0 0, .int .i64 1, .int .i64 1, .int .i64 0, .slice none 0 0] 27 :: .blk g3 [.int .i64 0, .int .i64 0, .int .i64 0, .slice none 0 0, .int .i64 9007199254740992, .int .i64 0, .int .i64 0, .slice none 0 0, .int .i64 1, .int .i64 (-1), .int .i64 0, .slice none 0 0, .int .i64 1, .int .i64 0, .int .i64 0, .slice (some ⟨g1, 0, none⟩) 1 1, .int .i64 1, .int .i64 0, .int .i64 0, .slice (some ⟨g2, 0, none⟩) 1 1] 27 :: .blk g2 [.int .i64 6, .string (str []), .string (str []), .string (str []), .string (str []), .bool false, .slice none 0 0] 51 :: .blk g1 [.int .i64 0, .string (str []), .string (str []), .string (str []), .string (str []), .bool false, .slice none 0 0] 51 :: L) w := s
  have hk8 : Knows (.blk g7 [.int .i64 1, .int .i64 0, .int .i64 0, .slice (some ⟨g6, 0, none⟩) 10001 10001] 27 :: .blk g6 (dvs (zeroD 10001)) 51 :: .blk g5 (nvs (zeroN 1001)) 27 :: .blk g4 [.int .i64 1, .int .i64 0, .int .i64 0, .slice none 0 0, .int .i64 1, .int .i64 1, .int .i64 0, .slice none 0 0] 27 :: .blk g3 [.int .i64 0, .int .i64 0, .int .i64 0, .slice none 0 0, .int .i64 9007199254740992, .int .i64 0, .int .i64 0, .slice none 0 0, .int .i64 1, .int .i64 (-1), .int .i64 0, .slice none 0 0, .int .i64 1, .int .i64 0, .int .i64 0, .slice (some ⟨g1, 0, none⟩) 1 1, .int .i64 1, .int .i64 0, .int .i64 0, .slice (some ⟨g2, 0, none⟩) 1 1] 27 :: .blk g2 [.int .i64 6, .string (str []), .string (str []), .string (str []), .string (str []), .bool false, .slice none 0 0] 51 :: .blk g1 [.int .i64 0, .string (str []), .string (str []), .string (str []), .string (str []), .bool false, .slice none 0 0] 51 :: L) (DonesIn (some ⟨g7, 0, none⟩) ([⟨1, 0, 0, (some ⟨g6, 0, none⟩), 10001, zeroD 10001⟩] : List Dn)) := fun w s => by
    refine ⟨Knows.reads_blk (j := 0) (k := 4) (n := 1) rfl rfl w s, fun d hd => ?_⟩
    simp only [List.mem_cons, List.not_mem_nil, or_false] at hd
    rcases hd with rfl
    · exact zeroD_in (Knows.reads_blk (j := 1) (k := 7) (n := 10001) (cs := dvs (zeroD 10001)) rfl (by rw [dvs_len, zeroD_len]) w s)
  have hk8b : Bn ([⟨1, 0, 0, (some ⟨g6, 0, none⟩), 10001, zeroD 10001⟩] : List Dn) := by
    refine ⟨by simp, fun d hd => ?_⟩
    simp only [List.mem_cons, List.not_mem_nil, or_false] at hd
    rcases hd with rfl
    · exact zeroD_bl _ (by omega)
  have hk8t : tns ([⟨1, 0, 0, (some ⟨g6, 0, none⟩), 10001, zeroD 10001⟩] : List Dn) = ([⟨1, 0, 0, zeroT 10001⟩] : List Tn) := by simp only [tns, List.map_cons, List.map_nil, Dn.t, zeroD_t]
  refine st_call ha (by kernel_rfl) (by kernel_rfl) (check_isN W _ w (some ⟨g7, 0, none⟩) 1 ([⟨1, 0, 0, (some ⟨g6, 0, none⟩), 10001, zeroD 10001⟩] : List Dn) _ rfl hk8 hk8b 5 (by rw [hk8t]; exact limM (by simp only [many, List.map_cons, List.map_nil, List.sum_cons, List.sum_nil, zeroT_len]; omega)) (by decide) hW s) ?_
  rintro _ w ⟨rfl, s⟩
  replace s : St W (.blk g7 [.int .i64 1, .int .i64 0, .int .i64 0, .slice (some ⟨g6, 0, none⟩) 10001 10001] 27 :: .blk g6 (dvs (zeroD 10001)) 51 :: .blk g5 (nvs (zeroN 1001)) 27 :: .blk g4 [.int .i64 1, .int .i64 0, .int .i64 0, .slice none 0 0, .int .i64 1, .int .i64 1, .int .i64 0, .slice none 0 0] 27 :: .blk g3 [.int .i64 0, .int .i64 0, .int .i64 0, .slice none 0 0, .int .i64 9007199254740992, .int .i64 0, .int .i64 0, .slice none 0 0, .int .i64 1, .int .i64 (-1), .int .i64 0, .slice none 0 0, .int .i64 1, .int .i64 0, .int .i64 0, .slice (some ⟨g1, 0, none⟩) 1 1, .int .i64 1, .int .i64 0, .int .i64 0, .slice (some ⟨g2, 0, none⟩) 1 1] 27 :: .blk g2 [.int .i64 6, .string (str []), .string (str []), .string (str []), .string (str []), .bool false, .slice none 0 0] 51 :: .blk g1 [.int .i64 0, .string (str []), .string (str []), .string (str []), .string (str []), .bool false, .slice none 0 0] 51 :: L) w := s
  refine ⟨_, rfl, ?_⟩; clear ha; intro a ha
  refine st_val (.tuple #[.int .i64 0, .int .i64 0, .bool false, .int .i64 5]) ha (by kernel_rfl) (by kernel_rfl) ?_
  clear ha; intro a ha
  refine st_val (.int .i64 0) ha (by kernel_rfl) (by kernel_rfl) ?_
  clear ha; intro a ha
  refine st_val (.int .i64 0) ha (by kernel_rfl) (by kernel_rfl) ?_
  clear ha; intro a ha
  refine st_val (.bool false) ha (by kernel_rfl) (by kernel_rfl) ?_
  clear ha; intro a ha
  refine st_val (.int .i64 5) ha (by kernel_rfl) (by kernel_rfl) ?_
  clear ha; intro a ha
  refine st_val (.int .i64 0) ha (by kernel_rfl) (by kernel_rfl) ?_
  clear ha; intro a ha
  refine st_val (.int .i64 0) ha (by kernel_rfl) (by kernel_rfl) ?_
  clear ha; intro a ha
  refine st_val (.bool false) ha (by kernel_rfl) (by kernel_rfl) ?_
  clear ha; intro a ha
  refine st_val (.int .i64 5) ha (by kernel_rfl) (by kernel_rfl) ?_
  clear ha; intro a ha
  refine wpList_nil ?_
  refine then_normal ?_
  refine wp_seq ?_
  refine wp_region_lit ?_
  refine st_ex ha (by kernel_rfl) (ex_makeSlice (n := 10001) (c := 10001) (kx := .i64) (ky := .i64) elt25 #[.int .i64 0, .string (str []), .string (str []), .string (str []), .string (str []), .bool false, .slice none 0 0] (by kernel_rfl) s rfl rfl rfl (by omega) (by omega) (by omega) (by simp [roomBytes])) ?_
  clear ha; rintro _ w a ⟨g8, rfl, s⟩ ha
  rw [made_did] at s
  replace s : St W (.blk g8 (dvs (zeroD 10001)) 51 :: .blk g7 [.int .i64 1, .int .i64 0, .int .i64 0, .slice (some ⟨g6, 0, none⟩) 10001 10001] 27 :: .blk g6 (dvs (zeroD 10001)) 51 :: .blk g5 (nvs (zeroN 1001)) 27 :: .blk g4 [.int .i64 1, .int .i64 0, .int .i64 0, .slice none 0 0, .int .i64 1, .int .i64 1, .int .i64 0, .slice none 0 0] 27 :: .blk g3 [.int .i64 0, .int .i64 0, .int .i64 0, .slice none 0 0, .int .i64 9007199254740992, .int .i64 0, .int .i64 0, .slice none 0 0, .int .i64 1, .int .i64 (-1), .int .i64 0, .slice none 0 0, .int .i64 1, .int .i64 0, .int .i64 0, .slice (some ⟨g1, 0, none⟩) 1 1, .int .i64 1, .int .i64 0, .int .i64 0, .slice (some ⟨g2, 0, none⟩) 1 1] 27 :: .blk g2 [.int .i64 6, .string (str []), .string (str []), .string (str []), .string (str []), .bool false, .slice none 0 0] 51 :: .blk g1 [.int .i64 0, .string (str []), .string (str []), .string (str []), .string (str []), .bool false, .slice none 0 0] 51 :: L) w := s
  refine st_val (.agg #[.int .i64 0, .int .i64 0, .int .i64 0, .slice (some ⟨g8, 0, none⟩) 10001 10001]) ha (by kernel_rfl) (by kernel_rfl) ?_
  clear ha; intro a ha
  refine st_ex ha (by kernel_rfl) (ex_buildSlice elt22 _ zs22 [.int .i64 0, .int .i64 0, .int .i64 0, .slice (some ⟨g8, 0, none⟩) 10001 10001] s rfl (by kernel_rfl) (by decide)) ?_
  clear ha; rintro _ w a ⟨g9, rfl, s⟩ ha
  replace s : St W (.blk g9 [.int .i64 0, .int .i64 0, .int .i64 0, .slice (some ⟨g8, 0, none⟩) 10001 10001] 27 :: .blk g8 (dvs (zeroD 10001)) 51 :: .blk g7 [.int .i64 1, .int .i64 0, .int .i64 0, .slice (some ⟨g6, 0, none⟩) 10001 10001] 27 :: .blk g6 (dvs (zeroD 10001)) 51 :: .blk g5 (nvs (zeroN 1001)) 27 :: .blk g4 [.int .i64 1, .int .i64 0, .int .i64 0, .slice none 0 0, .int .i64 1, .int .i64 1, .int .i64 0, .slice none 0 0] 27 :: .blk g3 [.int .i64 0, .int .i64 0, .int .i64 0, .slice none 0 0, .int .i64 9007199254740992, .int .i64 0, .int .i64 0, .slice none 0 0, .int .i64 1, .int .i64 (-1), .int .i64 0, .slice none 0 0, .int .i64 1, .int .i64 0, .int .i64 0, .slice (some ⟨g1, 0, none⟩) 1 1, .int .i64 1, .int .i64 0, .int .i64 0, .slice (some ⟨g2, 0, none⟩) 1 1] 27 :: .blk g2 [.int .i64 6, .string (str []), .string (str []), .string (str []), .string (str []), .bool false, .slice none 0 0] 51 :: .blk g1 [.int .i64 0, .string (str []), .string (str []), .string (str []), .string (str []), .bool false, .slice none 0 0] 51 :: L) w := s
  have hk9 : Knows (.blk g9 [.int .i64 0, .int .i64 0, .int .i64 0, .slice (some ⟨g8, 0, none⟩) 10001 10001] 27 :: .blk g8 (dvs (zeroD 10001)) 51 :: .blk g7 [.int .i64 1, .int .i64 0, .int .i64 0, .slice (some ⟨g6, 0, none⟩) 10001 10001] 27 :: .blk g6 (dvs (zeroD 10001)) 51 :: .blk g5 (nvs (zeroN 1001)) 27 :: .blk g4 [.int .i64 1, .int .i64 0, .int .i64 0, .slice none 0 0, .int .i64 1, .int .i64 1, .int .i64 0, .slice none 0 0] 27 :: .blk g3 [.int .i64 0, .int .i64 0, .int .i64 0, .slice none 0 0, .int .i64 9007199254740992, .int .i64 0, .int .i64 0, .slice none 0 0, .int .i64 1, .int .i64 (-1), .int .i64 0, .slice none 0 0, .int .i64 1, .int .i64 0, .int .i64 0, .slice (some ⟨g1, 0, none⟩) 1 1, .int .i64 1, .int .i64 0, .int .i64 0, .slice (some ⟨g2, 0, none⟩) 1 1] 27 :: .blk g2 [.int .i64 6, .string (str []), .string (str []), .string (str []), .string (str []), .bool false, .slice none 0 0] 51 :: .blk g1 [.int .i64 0, .string (str []), .string (str []), .string (str []), .string (str []), .bool false, .slice none 0 0] 51 :: L) (DonesIn (some ⟨g9, 0, none⟩) ([⟨0, 0, 0, (some ⟨g8, 0, none⟩), 10001, zeroD 10001⟩] : List Dn)) := fun w s => by
    refine ⟨Knows.reads_blk (j := 0) (k := 4) (n := 1) rfl rfl w s, fun d hd => ?_⟩
    simp only [List.mem_cons, List.not_mem_nil, or_false] at hd
    rcases hd with rfl
    · exact zeroD_in (Knows.reads_blk (j := 1) (k := 7) (n := 10001) (cs := dvs (zeroD 10001)) rfl (by rw [dvs_len, zeroD_len]) w s)
  have hk9b : Bn ([⟨0, 0, 0, (some ⟨g8, 0, none⟩), 10001, zeroD 10001⟩] : List Dn) := by
    refine ⟨by simp, fun d hd => ?_⟩
    simp only [List.mem_cons, List.not_mem_nil, or_false] at hd
    rcases hd with rfl
    · exact zeroD_bl _ (by omega)
  have hk9t : tns ([⟨0, 0, 0, (some ⟨g8, 0, none⟩), 10001, zeroD 10001⟩] : List Dn) = ([⟨0, 0, 0, zeroT 10001⟩] : List Tn) := by simp only [tns, List.map_cons, List.map_nil, Dn.t, zeroD_t]
  refine st_call ha (by kernel_rfl) (by kernel_rfl) (rows_isN W _ w (some ⟨g9, 0, none⟩) 1 ([⟨0, 0, 0, (some ⟨g8, 0, none⟩), 10001, zeroD 10001⟩] : List Dn) _ rfl hk9 hk9b 5 (by rw [hk9t]; exact limM (by simp only [many, List.map_cons, List.map_nil, List.sum_cons, List.sum_nil, zeroT_len]; omega)) (by decide) hW s) ?_
  rintro _ w ⟨rfl, s⟩
  replace s : St W (.blk g9 [.int .i64 0, .int .i64 0, .int .i64 0, .slice (some ⟨g8, 0, none⟩) 10001 10001] 27 :: .blk g8 (dvs (zeroD 10001)) 51 :: .blk g7 [.int .i64 1, .int .i64 0, .int .i64 0, .slice (some ⟨g6, 0, none⟩) 10001 10001] 27 :: .blk g6 (dvs (zeroD 10001)) 51 :: .blk g5 (nvs (zeroN 1001)) 27 :: .blk g4 [.int .i64 1, .int .i64 0, .int .i64 0, .slice none 0 0, .int .i64 1, .int .i64 1, .int .i64 0, .slice none 0 0] 27 :: .blk g3 [.int .i64 0, .int .i64 0, .int .i64 0, .slice none 0 0, .int .i64 9007199254740992, .int .i64 0, .int .i64 0, .slice none 0 0, .int .i64 1, .int .i64 (-1), .int .i64 0, .slice none 0 0, .int .i64 1, .int .i64 0, .int .i64 0, .slice (some ⟨g1, 0, none⟩) 1 1, .int .i64 1, .int .i64 0, .int .i64 0, .slice (some ⟨g2, 0, none⟩) 1 1] 27 :: .blk g2 [.int .i64 6, .string (str []), .string (str []), .string (str []), .string (str []), .bool false, .slice none 0 0] 51 :: .blk g1 [.int .i64 0, .string (str []), .string (str []), .string (str []), .string (str []), .bool false, .slice none 0 0] 51 :: L) w := s
  refine ⟨_, rfl, ?_⟩; clear ha; intro a ha
  refine st_val (.tuple #[.slice none 0 0, .int .i64 5]) ha (by kernel_rfl) (by kernel_rfl) ?_
  clear ha; intro a ha
  refine st_val (.slice none 0 0) ha (by kernel_rfl) (by kernel_rfl) ?_
  clear ha; intro a ha
  refine st_val (.int .i64 5) ha (by kernel_rfl) (by kernel_rfl) ?_
  clear ha; intro a ha
  refine st_val (.slice none 0 0) ha (by kernel_rfl) (by kernel_rfl) ?_
  clear ha; intro a ha
  refine st_val (.int .i64 5) ha (by kernel_rfl) (by kernel_rfl) ?_
  clear ha; intro a ha
  refine wpList_nil ?_
  refine then_normal ?_
  refine wp_seq ?_
  refine wp_region_lit ?_
  refine st_call ha (by kernel_rfl) (by kernel_rfl) (order_ok W _ w none 0 [] (fun w s => ⟨⟨rfl, by simp, by simp⟩, fun d hd => by cases hd⟩) ⟨by simp, fun d hd => by cases hd⟩ (by decide) s) ?_
  rintro _ w ⟨B, c, o, rfl, ho, s⟩
  replace s : St W (Own 3 1 B (([] : List Dn).length) c (nats o) :: .blk g9 [.int .i64 0, .int .i64 0, .int .i64 0, .slice (some ⟨g8, 0, none⟩) 10001 10001] 27 :: .blk g8 (dvs (zeroD 10001)) 51 :: .blk g7 [.int .i64 1, .int .i64 0, .int .i64 0, .slice (some ⟨g6, 0, none⟩) 10001 10001] 27 :: .blk g6 (dvs (zeroD 10001)) 51 :: .blk g5 (nvs (zeroN 1001)) 27 :: .blk g4 [.int .i64 1, .int .i64 0, .int .i64 0, .slice none 0 0, .int .i64 1, .int .i64 1, .int .i64 0, .slice none 0 0] 27 :: .blk g3 [.int .i64 0, .int .i64 0, .int .i64 0, .slice none 0 0, .int .i64 9007199254740992, .int .i64 0, .int .i64 0, .slice none 0 0, .int .i64 1, .int .i64 (-1), .int .i64 0, .slice none 0 0, .int .i64 1, .int .i64 0, .int .i64 0, .slice (some ⟨g1, 0, none⟩) 1 1, .int .i64 1, .int .i64 0, .int .i64 0, .slice (some ⟨g2, 0, none⟩) 1 1] 27 :: .blk g2 [.int .i64 6, .string (str []), .string (str []), .string (str []), .string (str []), .bool false, .slice none 0 0] 51 :: .blk g1 [.int .i64 0, .string (str []), .string (str []), .string (str []), .string (str []), .bool false, .slice none 0 0] 51 :: L) w := s
  refine ⟨_, rfl, ?_⟩; clear ha; intro a ha
  refine st_val (.tuple #[.slice B 0 c, .int .i64 0]) ha (by kernel_rfl) (by kernel_rfl) ?_
  clear ha; intro a ha
  refine st_val (.slice B 0 c) ha (by kernel_rfl) (by kernel_rfl) ?_
  clear ha; intro a ha
  refine st_val (.int .i64 0) ha (by kernel_rfl) (by kernel_rfl) ?_
  clear ha; intro a ha
  refine st_val (.slice B 0 c) ha (by kernel_rfl) (by kernel_rfl) ?_
  clear ha; intro a ha
  refine st_val (.int .i64 0) ha (by kernel_rfl) (by kernel_rfl) ?_
  clear ha; intro a ha
  refine wpList_nil ?_
  refine then_normal ?_
  refine wp_seq ?_
  refine wp_region_lit ?_
  refine st_val (.int .i64 9007199254740991) ha (by kernel_rfl) (by kernel_rfl) ?_
  clear ha; intro a ha
  refine st_call ha (by kernel_rfl) (by kernel_rfl) (at_any W _ w 3 s) ?_
  rintro _ w ⟨rfl, s⟩
  replace s : St W (Own 3 1 B (([] : List Dn).length) c (nats o) :: .blk g9 [.int .i64 0, .int .i64 0, .int .i64 0, .slice (some ⟨g8, 0, none⟩) 10001 10001] 27 :: .blk g8 (dvs (zeroD 10001)) 51 :: .blk g7 [.int .i64 1, .int .i64 0, .int .i64 0, .slice (some ⟨g6, 0, none⟩) 10001 10001] 27 :: .blk g6 (dvs (zeroD 10001)) 51 :: .blk g5 (nvs (zeroN 1001)) 27 :: .blk g4 [.int .i64 1, .int .i64 0, .int .i64 0, .slice none 0 0, .int .i64 1, .int .i64 1, .int .i64 0, .slice none 0 0] 27 :: .blk g3 [.int .i64 0, .int .i64 0, .int .i64 0, .slice none 0 0, .int .i64 9007199254740992, .int .i64 0, .int .i64 0, .slice none 0 0, .int .i64 1, .int .i64 (-1), .int .i64 0, .slice none 0 0, .int .i64 1, .int .i64 0, .int .i64 0, .slice (some ⟨g1, 0, none⟩) 1 1, .int .i64 1, .int .i64 0, .int .i64 0, .slice (some ⟨g2, 0, none⟩) 1 1] 27 :: .blk g2 [.int .i64 6, .string (str []), .string (str []), .string (str []), .string (str []), .bool false, .slice none 0 0] 51 :: .blk g1 [.int .i64 0, .string (str []), .string (str []), .string (str []), .string (str []), .bool false, .slice none 0 0] 51 :: L) w := s
  refine ⟨_, rfl, ?_⟩; clear ha; intro a ha
  refine st_call ha (by kernel_rfl) (by kernel_rfl) (put_any W _ w [] [118] s) ?_
  rintro _ w ⟨rfl, s⟩
  replace s : St W (Own 3 1 B (([] : List Dn).length) c (nats o) :: .blk g9 [.int .i64 0, .int .i64 0, .int .i64 0, .slice (some ⟨g8, 0, none⟩) 10001 10001] 27 :: .blk g8 (dvs (zeroD 10001)) 51 :: .blk g7 [.int .i64 1, .int .i64 0, .int .i64 0, .slice (some ⟨g6, 0, none⟩) 10001 10001] 27 :: .blk g6 (dvs (zeroD 10001)) 51 :: .blk g5 (nvs (zeroN 1001)) 27 :: .blk g4 [.int .i64 1, .int .i64 0, .int .i64 0, .slice none 0 0, .int .i64 1, .int .i64 1, .int .i64 0, .slice none 0 0] 27 :: .blk g3 [.int .i64 0, .int .i64 0, .int .i64 0, .slice none 0 0, .int .i64 9007199254740992, .int .i64 0, .int .i64 0, .slice none 0 0, .int .i64 1, .int .i64 (-1), .int .i64 0, .slice none 0 0, .int .i64 1, .int .i64 0, .int .i64 0, .slice (some ⟨g1, 0, none⟩) 1 1, .int .i64 1, .int .i64 0, .int .i64 0, .slice (some ⟨g2, 0, none⟩) 1 1] 27 :: .blk g2 [.int .i64 6, .string (str []), .string (str []), .string (str []), .string (str []), .bool false, .slice none 0 0] 51 :: .blk g1 [.int .i64 0, .string (str []), .string (str []), .string (str []), .string (str []), .bool false, .slice none 0 0] 51 :: L) w := s
  refine ⟨_, rfl, ?_⟩; clear ha; intro a ha
  refine st_call ha (by kernel_rfl) (by kernel_rfl) (put_any W _ w [98] [] s) ?_
  rintro _ w ⟨rfl, s⟩
  replace s : St W (Own 3 1 B (([] : List Dn).length) c (nats o) :: .blk g9 [.int .i64 0, .int .i64 0, .int .i64 0, .slice (some ⟨g8, 0, none⟩) 10001 10001] 27 :: .blk g8 (dvs (zeroD 10001)) 51 :: .blk g7 [.int .i64 1, .int .i64 0, .int .i64 0, .slice (some ⟨g6, 0, none⟩) 10001 10001] 27 :: .blk g6 (dvs (zeroD 10001)) 51 :: .blk g5 (nvs (zeroN 1001)) 27 :: .blk g4 [.int .i64 1, .int .i64 0, .int .i64 0, .slice none 0 0, .int .i64 1, .int .i64 1, .int .i64 0, .slice none 0 0] 27 :: .blk g3 [.int .i64 0, .int .i64 0, .int .i64 0, .slice none 0 0, .int .i64 9007199254740992, .int .i64 0, .int .i64 0, .slice none 0 0, .int .i64 1, .int .i64 (-1), .int .i64 0, .slice none 0 0, .int .i64 1, .int .i64 0, .int .i64 0, .slice (some ⟨g1, 0, none⟩) 1 1, .int .i64 1, .int .i64 0, .int .i64 0, .slice (some ⟨g2, 0, none⟩) 1 1] 27 :: .blk g2 [.int .i64 6, .string (str []), .string (str []), .string (str []), .string (str []), .bool false, .slice none 0 0] 51 :: .blk g1 [.int .i64 0, .string (str []), .string (str []), .string (str []), .string (str []), .bool false, .slice none 0 0] 51 :: L) w := s
  refine ⟨_, rfl, ?_⟩; clear ha; intro a ha
  refine st_val (.agg #[.string (str [97]), .string (str [98])]) ha (by kernel_rfl) (by kernel_rfl) ?_
  clear ha; intro a ha
  refine st_val (.agg #[.int .i64 5, .string (str []), .string (str []), .string (str [97]), .string (str [98]), .bool false, .slice none 0 0]) ha (by kernel_rfl) (by kernel_rfl) ?_
  clear ha; intro a ha
  refine st_ex ha (by kernel_rfl) (ex_buildSlice elt25 _ zs25 [.int .i64 3, .string (str []), .string (str [118]), .string (str []), .string (str []), .bool false, .slice none 0 0, .int .i64 3, .string (str [98]), .string (str []), .string (str []), .string (str []), .bool false, .slice none 0 0, .int .i64 5, .string (str []), .string (str []), .string (str [97]), .string (str [98]), .bool false, .slice none 0 0] s rfl (by kernel_rfl) (by decide)) ?_
  clear ha; rintro _ w a ⟨g10, rfl, s⟩ ha
  replace s : St W (.blk g10 [.int .i64 3, .string (str []), .string (str [118]), .string (str []), .string (str []), .bool false, .slice none 0 0, .int .i64 3, .string (str [98]), .string (str []), .string (str []), .string (str []), .bool false, .slice none 0 0, .int .i64 5, .string (str []), .string (str []), .string (str [97]), .string (str [98]), .bool false, .slice none 0 0] 51 :: Own 3 1 B (([] : List Dn).length) c (nats o) :: .blk g9 [.int .i64 0, .int .i64 0, .int .i64 0, .slice (some ⟨g8, 0, none⟩) 10001 10001] 27 :: .blk g8 (dvs (zeroD 10001)) 51 :: .blk g7 [.int .i64 1, .int .i64 0, .int .i64 0, .slice (some ⟨g6, 0, none⟩) 10001 10001] 27 :: .blk g6 (dvs (zeroD 10001)) 51 :: .blk g5 (nvs (zeroN 1001)) 27 :: .blk g4 [.int .i64 1, .int .i64 0, .int .i64 0, .slice none 0 0, .int .i64 1, .int .i64 1, .int .i64 0, .slice none 0 0] 27 :: .blk g3 [.int .i64 0, .int .i64 0, .int .i64 0, .slice none 0 0, .int .i64 9007199254740992, .int .i64 0, .int .i64 0, .slice none 0 0, .int .i64 1, .int .i64 (-1), .int .i64 0, .slice none 0 0, .int .i64 1, .int .i64 0, .int .i64 0, .slice (some ⟨g1, 0, none⟩) 1 1, .int .i64 1, .int .i64 0, .int .i64 0, .slice (some ⟨g2, 0, none⟩) 1 1] 27 :: .blk g2 [.int .i64 6, .string (str []), .string (str []), .string (str []), .string (str []), .bool false, .slice none 0 0] 51 :: .blk g1 [.int .i64 0, .string (str []), .string (str []), .string (str []), .string (str []), .bool false, .slice none 0 0] 51 :: L) w := s
  refine st_val (.agg #[.int .i64 9007199254740991, .int .i64 3, .int .i64 0, .slice (some ⟨g10, 0, none⟩) 3 3]) ha (by kernel_rfl) (by kernel_rfl) ?_
  clear ha; intro a ha
  refine st_call ha (by kernel_rfl) (by kernel_rfl) (at_any W _ w 4 s) ?_
  rintro _ w ⟨rfl, s⟩
  replace s : St W (.blk g10 [.int .i64 3, .string (str []), .string (str [118]), .string (str []), .string (str []), .bool false, .slice none 0 0, .int .i64 3, .string (str [98]), .string (str []), .string (str []), .string (str []), .bool false, .slice none 0 0, .int .i64 5, .string (str []), .string (str []), .string (str [97]), .string (str [98]), .bool false, .slice none 0 0] 51 :: Own 3 1 B (([] : List Dn).length) c (nats o) :: .blk g9 [.int .i64 0, .int .i64 0, .int .i64 0, .slice (some ⟨g8, 0, none⟩) 10001 10001] 27 :: .blk g8 (dvs (zeroD 10001)) 51 :: .blk g7 [.int .i64 1, .int .i64 0, .int .i64 0, .slice (some ⟨g6, 0, none⟩) 10001 10001] 27 :: .blk g6 (dvs (zeroD 10001)) 51 :: .blk g5 (nvs (zeroN 1001)) 27 :: .blk g4 [.int .i64 1, .int .i64 0, .int .i64 0, .slice none 0 0, .int .i64 1, .int .i64 1, .int .i64 0, .slice none 0 0] 27 :: .blk g3 [.int .i64 0, .int .i64 0, .int .i64 0, .slice none 0 0, .int .i64 9007199254740992, .int .i64 0, .int .i64 0, .slice none 0 0, .int .i64 1, .int .i64 (-1), .int .i64 0, .slice none 0 0, .int .i64 1, .int .i64 0, .int .i64 0, .slice (some ⟨g1, 0, none⟩) 1 1, .int .i64 1, .int .i64 0, .int .i64 0, .slice (some ⟨g2, 0, none⟩) 1 1] 27 :: .blk g2 [.int .i64 6, .string (str []), .string (str []), .string (str []), .string (str []), .bool false, .slice none 0 0] 51 :: .blk g1 [.int .i64 0, .string (str []), .string (str []), .string (str []), .string (str []), .bool false, .slice none 0 0] 51 :: L) w := s
  refine ⟨_, rfl, ?_⟩; clear ha; intro a ha
  refine st_val (.agg #[.string (str [98]), .string (str [97])]) ha (by kernel_rfl) (by kernel_rfl) ?_
  clear ha; intro a ha
  refine st_val (.agg #[.int .i64 5, .string (str []), .string (str []), .string (str [98]), .string (str [97]), .bool false, .slice none 0 0]) ha (by kernel_rfl) (by kernel_rfl) ?_
  clear ha; intro a ha
  refine st_val (.agg #[.int .i64 4, .string (str [110, 111, 110, 101]), .string (str []), .string (str []), .string (str []), .bool false, .slice none 0 0]) ha (by kernel_rfl) (by kernel_rfl) ?_
  clear ha; intro a ha
  refine st_ex ha (by kernel_rfl) (ex_buildSlice elt25 _ zs25 [.int .i64 5, .string (str []), .string (str []), .string (str [98]), .string (str [97]), .bool false, .slice none 0 0, .int .i64 4, .string (str [110, 111, 110, 101]), .string (str []), .string (str []), .string (str []), .bool false, .slice none 0 0] s rfl (by kernel_rfl) (by decide)) ?_
  clear ha; rintro _ w a ⟨g11, rfl, s⟩ ha
  replace s : St W (.blk g11 [.int .i64 5, .string (str []), .string (str []), .string (str [98]), .string (str [97]), .bool false, .slice none 0 0, .int .i64 4, .string (str [110, 111, 110, 101]), .string (str []), .string (str []), .string (str []), .bool false, .slice none 0 0] 51 :: .blk g10 [.int .i64 3, .string (str []), .string (str [118]), .string (str []), .string (str []), .bool false, .slice none 0 0, .int .i64 3, .string (str [98]), .string (str []), .string (str []), .string (str []), .bool false, .slice none 0 0, .int .i64 5, .string (str []), .string (str []), .string (str [97]), .string (str [98]), .bool false, .slice none 0 0] 51 :: Own 3 1 B (([] : List Dn).length) c (nats o) :: .blk g9 [.int .i64 0, .int .i64 0, .int .i64 0, .slice (some ⟨g8, 0, none⟩) 10001 10001] 27 :: .blk g8 (dvs (zeroD 10001)) 51 :: .blk g7 [.int .i64 1, .int .i64 0, .int .i64 0, .slice (some ⟨g6, 0, none⟩) 10001 10001] 27 :: .blk g6 (dvs (zeroD 10001)) 51 :: .blk g5 (nvs (zeroN 1001)) 27 :: .blk g4 [.int .i64 1, .int .i64 0, .int .i64 0, .slice none 0 0, .int .i64 1, .int .i64 1, .int .i64 0, .slice none 0 0] 27 :: .blk g3 [.int .i64 0, .int .i64 0, .int .i64 0, .slice none 0 0, .int .i64 9007199254740992, .int .i64 0, .int .i64 0, .slice none 0 0, .int .i64 1, .int .i64 (-1), .int .i64 0, .slice none 0 0, .int .i64 1, .int .i64 0, .int .i64 0, .slice (some ⟨g1, 0, none⟩) 1 1, .int .i64 1, .int .i64 0, .int .i64 0, .slice (some ⟨g2, 0, none⟩) 1 1] 27 :: .blk g2 [.int .i64 6, .string (str []), .string (str []), .string (str []), .string (str []), .bool false, .slice none 0 0] 51 :: .blk g1 [.int .i64 0, .string (str []), .string (str []), .string (str []), .string (str []), .bool false, .slice none 0 0] 51 :: L) w := s
  refine st_val (.agg #[.int .i64 2, .int .i64 4, .int .i64 0, .slice (some ⟨g11, 0, none⟩) 2 2]) ha (by kernel_rfl) (by kernel_rfl) ?_
  clear ha; intro a ha
  refine st_ex ha (by kernel_rfl) (ex_buildSlice elt22 _ zs22 [.int .i64 9007199254740991, .int .i64 3, .int .i64 0, .slice (some ⟨g10, 0, none⟩) 3 3, .int .i64 2, .int .i64 4, .int .i64 0, .slice (some ⟨g11, 0, none⟩) 2 2] s rfl (by kernel_rfl) (by decide)) ?_
  clear ha; rintro _ w a ⟨g12, rfl, s⟩ ha
  replace s : St W (.blk g12 [.int .i64 9007199254740991, .int .i64 3, .int .i64 0, .slice (some ⟨g10, 0, none⟩) 3 3, .int .i64 2, .int .i64 4, .int .i64 0, .slice (some ⟨g11, 0, none⟩) 2 2] 27 :: .blk g11 [.int .i64 5, .string (str []), .string (str []), .string (str [98]), .string (str [97]), .bool false, .slice none 0 0, .int .i64 4, .string (str [110, 111, 110, 101]), .string (str []), .string (str []), .string (str []), .bool false, .slice none 0 0] 51 :: .blk g10 [.int .i64 3, .string (str []), .string (str [118]), .string (str []), .string (str []), .bool false, .slice none 0 0, .int .i64 3, .string (str [98]), .string (str []), .string (str []), .string (str []), .bool false, .slice none 0 0, .int .i64 5, .string (str []), .string (str []), .string (str [97]), .string (str [98]), .bool false, .slice none 0 0] 51 :: Own 3 1 B (([] : List Dn).length) c (nats o) :: .blk g9 [.int .i64 0, .int .i64 0, .int .i64 0, .slice (some ⟨g8, 0, none⟩) 10001 10001] 27 :: .blk g8 (dvs (zeroD 10001)) 51 :: .blk g7 [.int .i64 1, .int .i64 0, .int .i64 0, .slice (some ⟨g6, 0, none⟩) 10001 10001] 27 :: .blk g6 (dvs (zeroD 10001)) 51 :: .blk g5 (nvs (zeroN 1001)) 27 :: .blk g4 [.int .i64 1, .int .i64 0, .int .i64 0, .slice none 0 0, .int .i64 1, .int .i64 1, .int .i64 0, .slice none 0 0] 27 :: .blk g3 [.int .i64 0, .int .i64 0, .int .i64 0, .slice none 0 0, .int .i64 9007199254740992, .int .i64 0, .int .i64 0, .slice none 0 0, .int .i64 1, .int .i64 (-1), .int .i64 0, .slice none 0 0, .int .i64 1, .int .i64 0, .int .i64 0, .slice (some ⟨g1, 0, none⟩) 1 1, .int .i64 1, .int .i64 0, .int .i64 0, .slice (some ⟨g2, 0, none⟩) 1 1] 27 :: .blk g2 [.int .i64 6, .string (str []), .string (str []), .string (str []), .string (str []), .bool false, .slice none 0 0] 51 :: .blk g1 [.int .i64 0, .string (str []), .string (str []), .string (str []), .string (str []), .bool false, .slice none 0 0] 51 :: L) w := s
  have hk11 : Knows (.blk g12 [.int .i64 9007199254740991, .int .i64 3, .int .i64 0, .slice (some ⟨g10, 0, none⟩) 3 3, .int .i64 2, .int .i64 4, .int .i64 0, .slice (some ⟨g11, 0, none⟩) 2 2] 27 :: .blk g11 [.int .i64 5, .string (str []), .string (str []), .string (str [98]), .string (str [97]), .bool false, .slice none 0 0, .int .i64 4, .string (str [110, 111, 110, 101]), .string (str []), .string (str []), .string (str []), .bool false, .slice none 0 0] 51 :: .blk g10 [.int .i64 3, .string (str []), .string (str [118]), .string (str []), .string (str []), .bool false, .slice none 0 0, .int .i64 3, .string (str [98]), .string (str []), .string (str []), .string (str []), .bool false, .slice none 0 0, .int .i64 5, .string (str []), .string (str []), .string (str [97]), .string (str [98]), .bool false, .slice none 0 0] 51 :: Own 3 1 B (([] : List Dn).length) c (nats o) :: .blk g9 [.int .i64 0, .int .i64 0, .int .i64 0, .slice (some ⟨g8, 0, none⟩) 10001 10001] 27 :: .blk g8 (dvs (zeroD 10001)) 51 :: .blk g7 [.int .i64 1, .int .i64 0, .int .i64 0, .slice (some ⟨g6, 0, none⟩) 10001 10001] 27 :: .blk g6 (dvs (zeroD 10001)) 51 :: .blk g5 (nvs (zeroN 1001)) 27 :: .blk g4 [.int .i64 1, .int .i64 0, .int .i64 0, .slice none 0 0, .int .i64 1, .int .i64 1, .int .i64 0, .slice none 0 0] 27 :: .blk g3 [.int .i64 0, .int .i64 0, .int .i64 0, .slice none 0 0, .int .i64 9007199254740992, .int .i64 0, .int .i64 0, .slice none 0 0, .int .i64 1, .int .i64 (-1), .int .i64 0, .slice none 0 0, .int .i64 1, .int .i64 0, .int .i64 0, .slice (some ⟨g1, 0, none⟩) 1 1, .int .i64 1, .int .i64 0, .int .i64 0, .slice (some ⟨g2, 0, none⟩) 1 1] 27 :: .blk g2 [.int .i64 6, .string (str []), .string (str []), .string (str []), .string (str []), .bool false, .slice none 0 0] 51 :: .blk g1 [.int .i64 0, .string (str []), .string (str []), .string (str []), .string (str []), .bool false, .slice none 0 0] 51 :: L) (DonesIn (some ⟨g12, 0, none⟩) ([⟨9007199254740991, 3, 0, (some ⟨g10, 0, none⟩), 3, [⟨⟨3, [], [118], [], [], false, []⟩, none, 0⟩, ⟨⟨3, [98], [], [], [], false, []⟩, none, 0⟩, ⟨⟨5, [], [], [97], [98], false, []⟩, none, 0⟩]⟩, ⟨2, 4, 0, (some ⟨g11, 0, none⟩), 2, [⟨⟨5, [], [], [98], [97], false, []⟩, none, 0⟩, ⟨⟨4, [110, 111, 110, 101], [], [], [], false, []⟩, none, 0⟩]⟩] : List Dn)) := fun w s => by
    refine ⟨Knows.reads_blk (j := 0) (k := 4) (n := 2) rfl rfl w s, fun d hd => ?_⟩
    simp only [List.mem_cons, List.not_mem_nil, or_false] at hd
    rcases hd with rfl | rfl
    · exact ⟨Knows.reads_blk (j := 2) (k := 7) (n := 3) rfl rfl w s, fun x hx => by simp only [List.mem_cons, List.not_mem_nil, or_false] at hx; rcases hx with rfl | rfl | rfl <;> first | exact ⟨rfl, by simp, by simp⟩⟩
    · exact ⟨Knows.reads_blk (j := 1) (k := 7) (n := 2) rfl rfl w s, fun x hx => by simp only [List.mem_cons, List.not_mem_nil, or_false] at hx; rcases hx with rfl | rfl <;> first | exact ⟨rfl, by simp, by simp⟩⟩
  have hk11b : Bn ([⟨9007199254740991, 3, 0, (some ⟨g10, 0, none⟩), 3, [⟨⟨3, [], [118], [], [], false, []⟩, none, 0⟩, ⟨⟨3, [98], [], [], [], false, []⟩, none, 0⟩, ⟨⟨5, [], [], [97], [98], false, []⟩, none, 0⟩]⟩, ⟨2, 4, 0, (some ⟨g11, 0, none⟩), 2, [⟨⟨5, [], [], [98], [97], false, []⟩, none, 0⟩, ⟨⟨4, [110, 111, 110, 101], [], [], [], false, []⟩, none, 0⟩]⟩] : List Dn) := by
    refine ⟨by simp, fun d hd => ?_⟩
    simp only [List.mem_cons, List.not_mem_nil, or_false] at hd
    rcases hd with rfl | rfl
    · exact ⟨by simp, fun x hx => by simp only [List.mem_cons, List.not_mem_nil, or_false] at hx; rcases hx with rfl | rfl | rfl <;> exact ⟨by simp, by simp⟩⟩
    · exact ⟨by simp, fun x hx => by simp only [List.mem_cons, List.not_mem_nil, or_false] at hx; rcases hx with rfl | rfl <;> exact ⟨by simp, by simp⟩⟩
  have hk11t : tns ([⟨9007199254740991, 3, 0, (some ⟨g10, 0, none⟩), 3, [⟨⟨3, [], [118], [], [], false, []⟩, none, 0⟩, ⟨⟨3, [98], [], [], [], false, []⟩, none, 0⟩, ⟨⟨5, [], [], [97], [98], false, []⟩, none, 0⟩]⟩, ⟨2, 4, 0, (some ⟨g11, 0, none⟩), 2, [⟨⟨5, [], [], [98], [97], false, []⟩, none, 0⟩, ⟨⟨4, [110, 111, 110, 101], [], [], [], false, []⟩, none, 0⟩]⟩] : List Dn) = ([⟨9007199254740991, 3, 0, [⟨3, [], [118], [], [], false, []⟩, ⟨3, [98], [], [], [], false, []⟩, ⟨5, [], [], [97], [98], false, []⟩]⟩, ⟨2, 4, 0, [⟨5, [], [], [98], [97], false, []⟩, ⟨4, [110, 111, 110, 101], [], [], [], false, []⟩]⟩] : List Tn) := rfl
  refine st_call ha (by kernel_rfl) (by kernel_rfl) (rows_is W hW _ w (some ⟨g12, 0, none⟩) 2 ([⟨9007199254740991, 3, 0, (some ⟨g10, 0, none⟩), 3, [⟨⟨3, [], [118], [], [], false, []⟩, none, 0⟩, ⟨⟨3, [98], [], [], [], false, []⟩, none, 0⟩, ⟨⟨5, [], [], [97], [98], false, []⟩, none, 0⟩]⟩, ⟨2, 4, 0, (some ⟨g11, 0, none⟩), 2, [⟨⟨5, [], [], [98], [97], false, []⟩, none, 0⟩, ⟨⟨4, [110, 111, 110, 101], [], [], [], false, []⟩, none, 0⟩]⟩] : List Dn) hk11 hk11b (by rw [hk11t]; decide) [⟨[], [118]⟩, ⟨[98], []⟩] (fun o ho => by rw [hk11t] at *; rw [show o = [0, 1] from ho.unique (by decide)]; decide) s) ?_
  rintro _ w ⟨B4, c4, rfl, s⟩
  replace s : St W (Own 54 2 B4 2 c4 (rws [⟨[], [118]⟩, ⟨[98], []⟩]) :: .blk g12 [.int .i64 9007199254740991, .int .i64 3, .int .i64 0, .slice (some ⟨g10, 0, none⟩) 3 3, .int .i64 2, .int .i64 4, .int .i64 0, .slice (some ⟨g11, 0, none⟩) 2 2] 27 :: .blk g11 [.int .i64 5, .string (str []), .string (str []), .string (str [98]), .string (str [97]), .bool false, .slice none 0 0, .int .i64 4, .string (str [110, 111, 110, 101]), .string (str []), .string (str []), .string (str []), .bool false, .slice none 0 0] 51 :: .blk g10 [.int .i64 3, .string (str []), .string (str [118]), .string (str []), .string (str []), .bool false, .slice none 0 0, .int .i64 3, .string (str [98]), .string (str []), .string (str []), .string (str []), .bool false, .slice none 0 0, .int .i64 5, .string (str []), .string (str []), .string (str [97]), .string (str [98]), .bool false, .slice none 0 0] 51 :: Own 3 1 B (([] : List Dn).length) c (nats o) :: .blk g9 [.int .i64 0, .int .i64 0, .int .i64 0, .slice (some ⟨g8, 0, none⟩) 10001 10001] 27 :: .blk g8 (dvs (zeroD 10001)) 51 :: .blk g7 [.int .i64 1, .int .i64 0, .int .i64 0, .slice (some ⟨g6, 0, none⟩) 10001 10001] 27 :: .blk g6 (dvs (zeroD 10001)) 51 :: .blk g5 (nvs (zeroN 1001)) 27 :: .blk g4 [.int .i64 1, .int .i64 0, .int .i64 0, .slice none 0 0, .int .i64 1, .int .i64 1, .int .i64 0, .slice none 0 0] 27 :: .blk g3 [.int .i64 0, .int .i64 0, .int .i64 0, .slice none 0 0, .int .i64 9007199254740992, .int .i64 0, .int .i64 0, .slice none 0 0, .int .i64 1, .int .i64 (-1), .int .i64 0, .slice none 0 0, .int .i64 1, .int .i64 0, .int .i64 0, .slice (some ⟨g1, 0, none⟩) 1 1, .int .i64 1, .int .i64 0, .int .i64 0, .slice (some ⟨g2, 0, none⟩) 1 1] 27 :: .blk g2 [.int .i64 6, .string (str []), .string (str []), .string (str []), .string (str []), .bool false, .slice none 0 0] 51 :: .blk g1 [.int .i64 0, .string (str []), .string (str []), .string (str []), .string (str []), .bool false, .slice none 0 0] 51 :: L) w := s
  refine ⟨_, rfl, ?_⟩; clear ha; intro a ha
  refine st_val (.tuple #[.slice B4 2 c4, .int .i64 0]) ha (by kernel_rfl) (by kernel_rfl) ?_
  clear ha; intro a ha
  refine st_val (.slice B4 2 c4) ha (by kernel_rfl) (by kernel_rfl) ?_
  clear ha; intro a ha
  refine st_val (.int .i64 0) ha (by kernel_rfl) (by kernel_rfl) ?_
  clear ha; intro a ha
  refine st_val (.slice B4 2 c4) ha (by kernel_rfl) (by kernel_rfl) ?_
  clear ha; intro a ha
  refine st_val (.int .i64 0) ha (by kernel_rfl) (by kernel_rfl) ?_
  clear ha; intro a ha
  refine wpList_nil ?_
  refine then_normal ?_
  refine wp_seq ?_
  refine wp_region_lit ?_
  refine st_val (.int .i64 2) ha (by kernel_rfl) (by kernel_rfl) ?_
  clear ha; intro a ha
  refine st_val (.bool true) ha (by kernel_rfl) (by kernel_rfl) ?_
  clear ha; intro a ha
  refine st_val (.bool true) ha (by kernel_rfl) (by kernel_rfl) ?_
  clear ha; intro a ha
  refine st_val (.int .i64 5) ha (by kernel_rfl) (by kernel_rfl) ?_
  clear ha; intro a ha
  refine st_val (.bool true) ha (by kernel_rfl) (by kernel_rfl) ?_
  clear ha; intro a ha
  refine st_val (.bool true) ha (by kernel_rfl) (by kernel_rfl) ?_
  clear ha; intro a ha
  refine st_val (.bool true) ha (by kernel_rfl) (by kernel_rfl) ?_
  clear ha; intro a ha
  refine st_val (.int .i64 5) ha (by kernel_rfl) (by kernel_rfl) ?_
  clear ha; intro a ha
  refine st_val (.bool true) ha (by kernel_rfl) (by kernel_rfl) ?_
  clear ha; intro a ha
  refine st_val (.bool true) ha (by kernel_rfl) (by kernel_rfl) ?_
  clear ha; intro a ha
  refine st_val (.bool true) ha (by kernel_rfl) (by kernel_rfl) ?_
  clear ha; intro a ha
  refine st_val (.int .i64 5) ha (by kernel_rfl) (by kernel_rfl) ?_
  clear ha; intro a ha
  refine st_val (.bool true) ha (by kernel_rfl) (by kernel_rfl) ?_
  clear ha; intro a ha
  refine st_val (.bool true) ha (by kernel_rfl) (by kernel_rfl) ?_
  clear ha; intro a ha
  refine st_val (.bool true) ha (by kernel_rfl) (by kernel_rfl) ?_
  clear ha; intro a ha
  refine st_val (.int .i64 0) ha (by kernel_rfl) (by kernel_rfl) ?_
  clear ha; intro a ha
  refine st_val (.bool true) ha (by kernel_rfl) (by kernel_rfl) ?_
  clear ha; intro a ha
  refine st_val (.bool true) ha (by kernel_rfl) (by kernel_rfl) ?_
  clear ha; intro a ha
  refine st_val (.bool true) ha (by kernel_rfl) (by kernel_rfl) ?_
  clear ha; intro a ha
  refine st_val (.slice B 0 c) ha (by kernel_rfl) (by kernel_rfl) ?_
  clear ha; intro a ha
  refine st_val (.int .i64 0) ha (by kernel_rfl) (by kernel_rfl) ?_
  clear ha; intro a ha
  refine st_val (.bool true) ha (by kernel_rfl) (by kernel_rfl) ?_
  clear ha; intro a ha
  refine st_val (.bool true) ha (by kernel_rfl) (by kernel_rfl) ?_
  clear ha; intro a ha
  refine st_val (.bool true) ha (by kernel_rfl) (by kernel_rfl) ?_
  clear ha; intro a ha
  refine st_val (.int .i64 0) ha (by kernel_rfl) (by kernel_rfl) ?_
  clear ha; intro a ha
  refine st_val (.bool true) ha (by kernel_rfl) (by kernel_rfl) ?_
  clear ha; intro a ha
  refine st_val (.bool true) ha (by kernel_rfl) (by kernel_rfl) ?_
  clear ha; intro a ha
  refine st_val (.bool true) ha (by kernel_rfl) (by kernel_rfl) ?_
  clear ha; intro a ha
  refine st_val (.slice B4 2 c4) ha (by kernel_rfl) (by kernel_rfl) ?_
  clear ha; intro a ha
  refine st_val (.agg #[.string (str []), .string (str [118])]) ha (by kernel_rfl) (by kernel_rfl) ?_
  clear ha; intro a ha
  refine st_val (.agg #[.string (str [98]), .string (str [])]) ha (by kernel_rfl) (by kernel_rfl) ?_
  clear ha; intro a ha
  refine st_ex ha (by kernel_rfl) (ex_buildSlice elt35 _ zs35 [.string (str []), .string (str [118]), .string (str [98]), .string (str [])] s rfl (by kernel_rfl) (by decide)) ?_
  clear ha; rintro _ w a ⟨g13, rfl, s⟩ ha
  replace s : St W (.blk g13 [.string (str []), .string (str [118]), .string (str [98]), .string (str [])] 54 :: Own 54 2 B4 2 c4 (rws [⟨[], [118]⟩, ⟨[98], []⟩]) :: .blk g12 [.int .i64 9007199254740991, .int .i64 3, .int .i64 0, .slice (some ⟨g10, 0, none⟩) 3 3, .int .i64 2, .int .i64 4, .int .i64 0, .slice (some ⟨g11, 0, none⟩) 2 2] 27 :: .blk g11 [.int .i64 5, .string (str []), .string (str []), .string (str [98]), .string (str [97]), .bool false, .slice none 0 0, .int .i64 4, .string (str [110, 111, 110, 101]), .string (str []), .string (str []), .string (str []), .bool false, .slice none 0 0] 51 :: .blk g10 [.int .i64 3, .string (str []), .string (str [118]), .string (str []), .string (str []), .bool false, .slice none 0 0, .int .i64 3, .string (str [98]), .string (str []), .string (str []), .string (str []), .bool false, .slice none 0 0, .int .i64 5, .string (str []), .string (str []), .string (str [97]), .string (str [98]), .bool false, .slice none 0 0] 51 :: Own 3 1 B (([] : List Dn).length) c (nats o) :: .blk g9 [.int .i64 0, .int .i64 0, .int .i64 0, .slice (some ⟨g8, 0, none⟩) 10001 10001] 27 :: .blk g8 (dvs (zeroD 10001)) 51 :: .blk g7 [.int .i64 1, .int .i64 0, .int .i64 0, .slice (some ⟨g6, 0, none⟩) 10001 10001] 27 :: .blk g6 (dvs (zeroD 10001)) 51 :: .blk g5 (nvs (zeroN 1001)) 27 :: .blk g4 [.int .i64 1, .int .i64 0, .int .i64 0, .slice none 0 0, .int .i64 1, .int .i64 1, .int .i64 0, .slice none 0 0] 27 :: .blk g3 [.int .i64 0, .int .i64 0, .int .i64 0, .slice none 0 0, .int .i64 9007199254740992, .int .i64 0, .int .i64 0, .slice none 0 0, .int .i64 1, .int .i64 (-1), .int .i64 0, .slice none 0 0, .int .i64 1, .int .i64 0, .int .i64 0, .slice (some ⟨g1, 0, none⟩) 1 1, .int .i64 1, .int .i64 0, .int .i64 0, .slice (some ⟨g2, 0, none⟩) 1 1] 27 :: .blk g2 [.int .i64 6, .string (str []), .string (str []), .string (str []), .string (str []), .bool false, .slice none 0 0] 51 :: .blk g1 [.int .i64 0, .string (str []), .string (str []), .string (str []), .string (str []), .bool false, .slice none 0 0] 51 :: L) w := s
  refine st_call ha (by kernel_rfl) (by kernel_rfl) (same_is W _ w B4 (some ⟨g13, 0, none⟩) c4 2 [⟨[], [118]⟩, ⟨[98], []⟩] [⟨[], [118]⟩, ⟨[98], []⟩] (Knows.own (j := 1) rfl) (Knows.reads_blk (j := 0) rfl) (by decide) rfl s) ?_
  rintro _ w ⟨rfl, s⟩
  replace s : St W (.blk g13 [.string (str []), .string (str [118]), .string (str [98]), .string (str [])] 54 :: Own 54 2 B4 2 c4 (rws [⟨[], [118]⟩, ⟨[98], []⟩]) :: .blk g12 [.int .i64 9007199254740991, .int .i64 3, .int .i64 0, .slice (some ⟨g10, 0, none⟩) 3 3, .int .i64 2, .int .i64 4, .int .i64 0, .slice (some ⟨g11, 0, none⟩) 2 2] 27 :: .blk g11 [.int .i64 5, .string (str []), .string (str []), .string (str [98]), .string (str [97]), .bool false, .slice none 0 0, .int .i64 4, .string (str [110, 111, 110, 101]), .string (str []), .string (str []), .string (str []), .bool false, .slice none 0 0] 51 :: .blk g10 [.int .i64 3, .string (str []), .string (str [118]), .string (str []), .string (str []), .bool false, .slice none 0 0, .int .i64 3, .string (str [98]), .string (str []), .string (str []), .string (str []), .bool false, .slice none 0 0, .int .i64 5, .string (str []), .string (str []), .string (str [97]), .string (str [98]), .bool false, .slice none 0 0] 51 :: Own 3 1 B (([] : List Dn).length) c (nats o) :: .blk g9 [.int .i64 0, .int .i64 0, .int .i64 0, .slice (some ⟨g8, 0, none⟩) 10001 10001] 27 :: .blk g8 (dvs (zeroD 10001)) 51 :: .blk g7 [.int .i64 1, .int .i64 0, .int .i64 0, .slice (some ⟨g6, 0, none⟩) 10001 10001] 27 :: .blk g6 (dvs (zeroD 10001)) 51 :: .blk g5 (nvs (zeroN 1001)) 27 :: .blk g4 [.int .i64 1, .int .i64 0, .int .i64 0, .slice none 0 0, .int .i64 1, .int .i64 1, .int .i64 0, .slice none 0 0] 27 :: .blk g3 [.int .i64 0, .int .i64 0, .int .i64 0, .slice none 0 0, .int .i64 9007199254740992, .int .i64 0, .int .i64 0, .slice none 0 0, .int .i64 1, .int .i64 (-1), .int .i64 0, .slice none 0 0, .int .i64 1, .int .i64 0, .int .i64 0, .slice (some ⟨g1, 0, none⟩) 1 1, .int .i64 1, .int .i64 0, .int .i64 0, .slice (some ⟨g2, 0, none⟩) 1 1] 27 :: .blk g2 [.int .i64 6, .string (str []), .string (str []), .string (str []), .string (str []), .bool false, .slice none 0 0] 51 :: .blk g1 [.int .i64 0, .string (str []), .string (str []), .string (str []), .string (str []), .bool false, .slice none 0 0] 51 :: L) w := s
  refine ⟨_, rfl, ?_⟩; clear ha; intro a ha
  refine st_val (.bool true) ha (by kernel_rfl) (by kernel_rfl) ?_
  clear ha; intro a ha
  refine st_val (.bool true) ha (by kernel_rfl) (by kernel_rfl) ?_
  clear ha; intro a ha
  refine wpList_nil ?_
  refine then_normal ?_
  refine wp_seq ?_
  refine wp_region_lit ?_
  refine st_call ha (by kernel_rfl) (by kernel_rfl) (get_any W _ w [97] [] false s) ?_
  rintro _ w ⟨rfl, s⟩
  replace s : St W (.blk g13 [.string (str []), .string (str [118]), .string (str [98]), .string (str [])] 54 :: Own 54 2 B4 2 c4 (rws [⟨[], [118]⟩, ⟨[98], []⟩]) :: .blk g12 [.int .i64 9007199254740991, .int .i64 3, .int .i64 0, .slice (some ⟨g10, 0, none⟩) 3 3, .int .i64 2, .int .i64 4, .int .i64 0, .slice (some ⟨g11, 0, none⟩) 2 2] 27 :: .blk g11 [.int .i64 5, .string (str []), .string (str []), .string (str [98]), .string (str [97]), .bool false, .slice none 0 0, .int .i64 4, .string (str [110, 111, 110, 101]), .string (str []), .string (str []), .string (str []), .bool false, .slice none 0 0] 51 :: .blk g10 [.int .i64 3, .string (str []), .string (str [118]), .string (str []), .string (str []), .bool false, .slice none 0 0, .int .i64 3, .string (str [98]), .string (str []), .string (str []), .string (str []), .bool false, .slice none 0 0, .int .i64 5, .string (str []), .string (str []), .string (str [97]), .string (str [98]), .bool false, .slice none 0 0] 51 :: Own 3 1 B (([] : List Dn).length) c (nats o) :: .blk g9 [.int .i64 0, .int .i64 0, .int .i64 0, .slice (some ⟨g8, 0, none⟩) 10001 10001] 27 :: .blk g8 (dvs (zeroD 10001)) 51 :: .blk g7 [.int .i64 1, .int .i64 0, .int .i64 0, .slice (some ⟨g6, 0, none⟩) 10001 10001] 27 :: .blk g6 (dvs (zeroD 10001)) 51 :: .blk g5 (nvs (zeroN 1001)) 27 :: .blk g4 [.int .i64 1, .int .i64 0, .int .i64 0, .slice none 0 0, .int .i64 1, .int .i64 1, .int .i64 0, .slice none 0 0] 27 :: .blk g3 [.int .i64 0, .int .i64 0, .int .i64 0, .slice none 0 0, .int .i64 9007199254740992, .int .i64 0, .int .i64 0, .slice none 0 0, .int .i64 1, .int .i64 (-1), .int .i64 0, .slice none 0 0, .int .i64 1, .int .i64 0, .int .i64 0, .slice (some ⟨g1, 0, none⟩) 1 1, .int .i64 1, .int .i64 0, .int .i64 0, .slice (some ⟨g2, 0, none⟩) 1 1] 27 :: .blk g2 [.int .i64 6, .string (str []), .string (str []), .string (str []), .string (str []), .bool false, .slice none 0 0] 51 :: .blk g1 [.int .i64 0, .string (str []), .string (str []), .string (str []), .string (str []), .bool false, .slice none 0 0] 51 :: L) w := s
  refine ⟨_, rfl, ?_⟩; clear ha; intro a ha
  refine st_call ha (by kernel_rfl) (by kernel_rfl) (put_any W _ w [97] [] s) ?_
  rintro _ w ⟨rfl, s⟩
  replace s : St W (.blk g13 [.string (str []), .string (str [118]), .string (str [98]), .string (str [])] 54 :: Own 54 2 B4 2 c4 (rws [⟨[], [118]⟩, ⟨[98], []⟩]) :: .blk g12 [.int .i64 9007199254740991, .int .i64 3, .int .i64 0, .slice (some ⟨g10, 0, none⟩) 3 3, .int .i64 2, .int .i64 4, .int .i64 0, .slice (some ⟨g11, 0, none⟩) 2 2] 27 :: .blk g11 [.int .i64 5, .string (str []), .string (str []), .string (str [98]), .string (str [97]), .bool false, .slice none 0 0, .int .i64 4, .string (str [110, 111, 110, 101]), .string (str []), .string (str []), .string (str []), .bool false, .slice none 0 0] 51 :: .blk g10 [.int .i64 3, .string (str []), .string (str [118]), .string (str []), .string (str []), .bool false, .slice none 0 0, .int .i64 3, .string (str [98]), .string (str []), .string (str []), .string (str []), .bool false, .slice none 0 0, .int .i64 5, .string (str []), .string (str []), .string (str [97]), .string (str [98]), .bool false, .slice none 0 0] 51 :: Own 3 1 B (([] : List Dn).length) c (nats o) :: .blk g9 [.int .i64 0, .int .i64 0, .int .i64 0, .slice (some ⟨g8, 0, none⟩) 10001 10001] 27 :: .blk g8 (dvs (zeroD 10001)) 51 :: .blk g7 [.int .i64 1, .int .i64 0, .int .i64 0, .slice (some ⟨g6, 0, none⟩) 10001 10001] 27 :: .blk g6 (dvs (zeroD 10001)) 51 :: .blk g5 (nvs (zeroN 1001)) 27 :: .blk g4 [.int .i64 1, .int .i64 0, .int .i64 0, .slice none 0 0, .int .i64 1, .int .i64 1, .int .i64 0, .slice none 0 0] 27 :: .blk g3 [.int .i64 0, .int .i64 0, .int .i64 0, .slice none 0 0, .int .i64 9007199254740992, .int .i64 0, .int .i64 0, .slice none 0 0, .int .i64 1, .int .i64 (-1), .int .i64 0, .slice none 0 0, .int .i64 1, .int .i64 0, .int .i64 0, .slice (some ⟨g1, 0, none⟩) 1 1, .int .i64 1, .int .i64 0, .int .i64 0, .slice (some ⟨g2, 0, none⟩) 1 1] 27 :: .blk g2 [.int .i64 6, .string (str []), .string (str []), .string (str []), .string (str []), .bool false, .slice none 0 0] 51 :: .blk g1 [.int .i64 0, .string (str []), .string (str []), .string (str []), .string (str []), .bool false, .slice none 0 0] 51 :: L) w := s
  refine ⟨_, rfl, ?_⟩; clear ha; intro a ha
  refine st_call ha (by kernel_rfl) (by kernel_rfl) (get_any W _ w [97] [] true s) ?_
  rintro _ w ⟨rfl, s⟩
  replace s : St W (.blk g13 [.string (str []), .string (str [118]), .string (str [98]), .string (str [])] 54 :: Own 54 2 B4 2 c4 (rws [⟨[], [118]⟩, ⟨[98], []⟩]) :: .blk g12 [.int .i64 9007199254740991, .int .i64 3, .int .i64 0, .slice (some ⟨g10, 0, none⟩) 3 3, .int .i64 2, .int .i64 4, .int .i64 0, .slice (some ⟨g11, 0, none⟩) 2 2] 27 :: .blk g11 [.int .i64 5, .string (str []), .string (str []), .string (str [98]), .string (str [97]), .bool false, .slice none 0 0, .int .i64 4, .string (str [110, 111, 110, 101]), .string (str []), .string (str []), .string (str []), .bool false, .slice none 0 0] 51 :: .blk g10 [.int .i64 3, .string (str []), .string (str [118]), .string (str []), .string (str []), .bool false, .slice none 0 0, .int .i64 3, .string (str [98]), .string (str []), .string (str []), .string (str []), .bool false, .slice none 0 0, .int .i64 5, .string (str []), .string (str []), .string (str [97]), .string (str [98]), .bool false, .slice none 0 0] 51 :: Own 3 1 B (([] : List Dn).length) c (nats o) :: .blk g9 [.int .i64 0, .int .i64 0, .int .i64 0, .slice (some ⟨g8, 0, none⟩) 10001 10001] 27 :: .blk g8 (dvs (zeroD 10001)) 51 :: .blk g7 [.int .i64 1, .int .i64 0, .int .i64 0, .slice (some ⟨g6, 0, none⟩) 10001 10001] 27 :: .blk g6 (dvs (zeroD 10001)) 51 :: .blk g5 (nvs (zeroN 1001)) 27 :: .blk g4 [.int .i64 1, .int .i64 0, .int .i64 0, .slice none 0 0, .int .i64 1, .int .i64 1, .int .i64 0, .slice none 0 0] 27 :: .blk g3 [.int .i64 0, .int .i64 0, .int .i64 0, .slice none 0 0, .int .i64 9007199254740992, .int .i64 0, .int .i64 0, .slice none 0 0, .int .i64 1, .int .i64 (-1), .int .i64 0, .slice none 0 0, .int .i64 1, .int .i64 0, .int .i64 0, .slice (some ⟨g1, 0, none⟩) 1 1, .int .i64 1, .int .i64 0, .int .i64 0, .slice (some ⟨g2, 0, none⟩) 1 1] 27 :: .blk g2 [.int .i64 6, .string (str []), .string (str []), .string (str []), .string (str []), .bool false, .slice none 0 0] 51 :: .blk g1 [.int .i64 0, .string (str []), .string (str []), .string (str []), .string (str []), .bool false, .slice none 0 0] 51 :: L) w := s
  refine ⟨_, rfl, ?_⟩; clear ha; intro a ha
  refine st_val (.agg #[.string (str [97]), .string (str [97, 0])]) ha (by kernel_rfl) (by kernel_rfl) ?_
  clear ha; intro a ha
  refine st_val (.agg #[.int .i64 5, .string (str []), .string (str []), .string (str [97]), .string (str [97, 0]), .bool false, .slice none 0 0]) ha (by kernel_rfl) (by kernel_rfl) ?_
  clear ha; intro a ha
  refine st_call ha (by kernel_rfl) (by kernel_rfl) (get_any W _ w [97] [] false s) ?_
  rintro _ w ⟨rfl, s⟩
  replace s : St W (.blk g13 [.string (str []), .string (str [118]), .string (str [98]), .string (str [])] 54 :: Own 54 2 B4 2 c4 (rws [⟨[], [118]⟩, ⟨[98], []⟩]) :: .blk g12 [.int .i64 9007199254740991, .int .i64 3, .int .i64 0, .slice (some ⟨g10, 0, none⟩) 3 3, .int .i64 2, .int .i64 4, .int .i64 0, .slice (some ⟨g11, 0, none⟩) 2 2] 27 :: .blk g11 [.int .i64 5, .string (str []), .string (str []), .string (str [98]), .string (str [97]), .bool false, .slice none 0 0, .int .i64 4, .string (str [110, 111, 110, 101]), .string (str []), .string (str []), .string (str []), .bool false, .slice none 0 0] 51 :: .blk g10 [.int .i64 3, .string (str []), .string (str [118]), .string (str []), .string (str []), .bool false, .slice none 0 0, .int .i64 3, .string (str [98]), .string (str []), .string (str []), .string (str []), .bool false, .slice none 0 0, .int .i64 5, .string (str []), .string (str []), .string (str [97]), .string (str [98]), .bool false, .slice none 0 0] 51 :: Own 3 1 B (([] : List Dn).length) c (nats o) :: .blk g9 [.int .i64 0, .int .i64 0, .int .i64 0, .slice (some ⟨g8, 0, none⟩) 10001 10001] 27 :: .blk g8 (dvs (zeroD 10001)) 51 :: .blk g7 [.int .i64 1, .int .i64 0, .int .i64 0, .slice (some ⟨g6, 0, none⟩) 10001 10001] 27 :: .blk g6 (dvs (zeroD 10001)) 51 :: .blk g5 (nvs (zeroN 1001)) 27 :: .blk g4 [.int .i64 1, .int .i64 0, .int .i64 0, .slice none 0 0, .int .i64 1, .int .i64 1, .int .i64 0, .slice none 0 0] 27 :: .blk g3 [.int .i64 0, .int .i64 0, .int .i64 0, .slice none 0 0, .int .i64 9007199254740992, .int .i64 0, .int .i64 0, .slice none 0 0, .int .i64 1, .int .i64 (-1), .int .i64 0, .slice none 0 0, .int .i64 1, .int .i64 0, .int .i64 0, .slice (some ⟨g1, 0, none⟩) 1 1, .int .i64 1, .int .i64 0, .int .i64 0, .slice (some ⟨g2, 0, none⟩) 1 1] 27 :: .blk g2 [.int .i64 6, .string (str []), .string (str []), .string (str []), .string (str []), .bool false, .slice none 0 0] 51 :: .blk g1 [.int .i64 0, .string (str []), .string (str []), .string (str []), .string (str []), .bool false, .slice none 0 0] 51 :: L) w := s
  refine ⟨_, rfl, ?_⟩; clear ha; intro a ha
  refine st_val (.agg #[.string (str []), .string (str [122])]) ha (by kernel_rfl) (by kernel_rfl) ?_
  clear ha; intro a ha
  refine st_val (.agg #[.int .i64 2, .string (str []), .string (str []), .string (str []), .string (str [122]), .bool false, .slice none 0 0]) ha (by kernel_rfl) (by kernel_rfl) ?_
  clear ha; intro a ha
  refine st_ex ha (by kernel_rfl) (ex_buildSlice elt25 _ zs25 [.int .i64 1, .string (str [97]), .string (str []), .string (str []), .string (str []), .bool false, .slice none 0 0, .int .i64 3, .string (str [97]), .string (str []), .string (str []), .string (str []), .bool false, .slice none 0 0, .int .i64 1, .string (str [97]), .string (str []), .string (str []), .string (str []), .bool true, .slice none 0 0, .int .i64 5, .string (str []), .string (str []), .string (str [97]), .string (str [97, 0]), .bool false, .slice none 0 0, .int .i64 1, .string (str [97]), .string (str []), .string (str []), .string (str []), .bool false, .slice none 0 0, .int .i64 2, .string (str []), .string (str []), .string (str []), .string (str [122]), .bool false, .slice none 0 0] s rfl (by kernel_rfl) (by decide)) ?_
  clear ha; rintro _ w a ⟨g14, rfl, s⟩ ha
  replace s : St W (.blk g14 [.int .i64 1, .string (str [97]), .string (str []), .string (str []), .string (str []), .bool false, .slice none 0 0, .int .i64 3, .string (str [97]), .string (str []), .string (str []), .string (str []), .bool false, .slice none 0 0, .int .i64 1, .string (str [97]), .string (str []), .string (str []), .string (str []), .bool true, .slice none 0 0, .int .i64 5, .string (str []), .string (str []), .string (str [97]), .string (str [97, 0]), .bool false, .slice none 0 0, .int .i64 1, .string (str [97]), .string (str []), .string (str []), .string (str []), .bool false, .slice none 0 0, .int .i64 2, .string (str []), .string (str []), .string (str []), .string (str [122]), .bool false, .slice none 0 0] 51 :: .blk g13 [.string (str []), .string (str [118]), .string (str [98]), .string (str [])] 54 :: Own 54 2 B4 2 c4 (rws [⟨[], [118]⟩, ⟨[98], []⟩]) :: .blk g12 [.int .i64 9007199254740991, .int .i64 3, .int .i64 0, .slice (some ⟨g10, 0, none⟩) 3 3, .int .i64 2, .int .i64 4, .int .i64 0, .slice (some ⟨g11, 0, none⟩) 2 2] 27 :: .blk g11 [.int .i64 5, .string (str []), .string (str []), .string (str [98]), .string (str [97]), .bool false, .slice none 0 0, .int .i64 4, .string (str [110, 111, 110, 101]), .string (str []), .string (str []), .string (str []), .bool false, .slice none 0 0] 51 :: .blk g10 [.int .i64 3, .string (str []), .string (str [118]), .string (str []), .string (str []), .bool false, .slice none 0 0, .int .i64 3, .string (str [98]), .string (str []), .string (str []), .string (str []), .bool false, .slice none 0 0, .int .i64 5, .string (str []), .string (str []), .string (str [97]), .string (str [98]), .bool false, .slice none 0 0] 51 :: Own 3 1 B (([] : List Dn).length) c (nats o) :: .blk g9 [.int .i64 0, .int .i64 0, .int .i64 0, .slice (some ⟨g8, 0, none⟩) 10001 10001] 27 :: .blk g8 (dvs (zeroD 10001)) 51 :: .blk g7 [.int .i64 1, .int .i64 0, .int .i64 0, .slice (some ⟨g6, 0, none⟩) 10001 10001] 27 :: .blk g6 (dvs (zeroD 10001)) 51 :: .blk g5 (nvs (zeroN 1001)) 27 :: .blk g4 [.int .i64 1, .int .i64 0, .int .i64 0, .slice none 0 0, .int .i64 1, .int .i64 1, .int .i64 0, .slice none 0 0] 27 :: .blk g3 [.int .i64 0, .int .i64 0, .int .i64 0, .slice none 0 0, .int .i64 9007199254740992, .int .i64 0, .int .i64 0, .slice none 0 0, .int .i64 1, .int .i64 (-1), .int .i64 0, .slice none 0 0, .int .i64 1, .int .i64 0, .int .i64 0, .slice (some ⟨g1, 0, none⟩) 1 1, .int .i64 1, .int .i64 0, .int .i64 0, .slice (some ⟨g2, 0, none⟩) 1 1] 27 :: .blk g2 [.int .i64 6, .string (str []), .string (str []), .string (str []), .string (str []), .bool false, .slice none 0 0] 51 :: .blk g1 [.int .i64 0, .string (str []), .string (str []), .string (str []), .string (str []), .bool false, .slice none 0 0] 51 :: L) w := s
  refine st_val (.agg #[.int .i64 1, .int .i64 0, .int .i64 0, .slice (some ⟨g14, 0, none⟩) 6 6]) ha (by kernel_rfl) (by kernel_rfl) ?_
  clear ha; intro a ha
  refine st_ex ha (by kernel_rfl) (ex_buildSlice elt22 _ zs22 [.int .i64 1, .int .i64 0, .int .i64 0, .slice (some ⟨g14, 0, none⟩) 6 6] s rfl (by kernel_rfl) (by decide)) ?_
  clear ha; rintro _ w a ⟨g15, rfl, s⟩ ha
  replace s : St W (.blk g15 [.int .i64 1, .int .i64 0, .int .i64 0, .slice (some ⟨g14, 0, none⟩) 6 6] 27 :: .blk g14 [.int .i64 1, .string (str [97]), .string (str []), .string (str []), .string (str []), .bool false, .slice none 0 0, .int .i64 3, .string (str [97]), .string (str []), .string (str []), .string (str []), .bool false, .slice none 0 0, .int .i64 1, .string (str [97]), .string (str []), .string (str []), .string (str []), .bool true, .slice none 0 0, .int .i64 5, .string (str []), .string (str []), .string (str [97]), .string (str [97, 0]), .bool false, .slice none 0 0, .int .i64 1, .string (str [97]), .string (str []), .string (str []), .string (str []), .bool false, .slice none 0 0, .int .i64 2, .string (str []), .string (str []), .string (str []), .string (str [122]), .bool false, .slice none 0 0] 51 :: .blk g13 [.string (str []), .string (str [118]), .string (str [98]), .string (str [])] 54 :: Own 54 2 B4 2 c4 (rws [⟨[], [118]⟩, ⟨[98], []⟩]) :: .blk g12 [.int .i64 9007199254740991, .int .i64 3, .int .i64 0, .slice (some ⟨g10, 0, none⟩) 3 3, .int .i64 2, .int .i64 4, .int .i64 0, .slice (some ⟨g11, 0, none⟩) 2 2] 27 :: .blk g11 [.int .i64 5, .string (str []), .string (str []), .string (str [98]), .string (str [97]), .bool false, .slice none 0 0, .int .i64 4, .string (str [110, 111, 110, 101]), .string (str []), .string (str []), .string (str []), .bool false, .slice none 0 0] 51 :: .blk g10 [.int .i64 3, .string (str []), .string (str [118]), .string (str []), .string (str []), .bool false, .slice none 0 0, .int .i64 3, .string (str [98]), .string (str []), .string (str []), .string (str []), .bool false, .slice none 0 0, .int .i64 5, .string (str []), .string (str []), .string (str [97]), .string (str [98]), .bool false, .slice none 0 0] 51 :: Own 3 1 B (([] : List Dn).length) c (nats o) :: .blk g9 [.int .i64 0, .int .i64 0, .int .i64 0, .slice (some ⟨g8, 0, none⟩) 10001 10001] 27 :: .blk g8 (dvs (zeroD 10001)) 51 :: .blk g7 [.int .i64 1, .int .i64 0, .int .i64 0, .slice (some ⟨g6, 0, none⟩) 10001 10001] 27 :: .blk g6 (dvs (zeroD 10001)) 51 :: .blk g5 (nvs (zeroN 1001)) 27 :: .blk g4 [.int .i64 1, .int .i64 0, .int .i64 0, .slice none 0 0, .int .i64 1, .int .i64 1, .int .i64 0, .slice none 0 0] 27 :: .blk g3 [.int .i64 0, .int .i64 0, .int .i64 0, .slice none 0 0, .int .i64 9007199254740992, .int .i64 0, .int .i64 0, .slice none 0 0, .int .i64 1, .int .i64 (-1), .int .i64 0, .slice none 0 0, .int .i64 1, .int .i64 0, .int .i64 0, .slice (some ⟨g1, 0, none⟩) 1 1, .int .i64 1, .int .i64 0, .int .i64 0, .slice (some ⟨g2, 0, none⟩) 1 1] 27 :: .blk g2 [.int .i64 6, .string (str []), .string (str []), .string (str []), .string (str []), .bool false, .slice none 0 0] 51 :: .blk g1 [.int .i64 0, .string (str []), .string (str []), .string (str []), .string (str []), .bool false, .slice none 0 0] 51 :: L) w := s
  refine st_val (.slice (some ⟨g15, 0, none⟩) 1 1) ha (by kernel_rfl) (by kernel_rfl) ?_
  clear ha; intro a ha
  refine wpList_nil ?_
  refine then_normal ?_
  refine wp_seq ?_
  refine wp_region_lit ?_
  refine st_call ha (by kernel_rfl) (by kernel_rfl) (put_any W _ w [97] [49] s) ?_
  rintro _ w ⟨rfl, s⟩
  replace s : St W (.blk g15 [.int .i64 1, .int .i64 0, .int .i64 0, .slice (some ⟨g14, 0, none⟩) 6 6] 27 :: .blk g14 [.int .i64 1, .string (str [97]), .string (str []), .string (str []), .string (str []), .bool false, .slice none 0 0, .int .i64 3, .string (str [97]), .string (str []), .string (str []), .string (str []), .bool false, .slice none 0 0, .int .i64 1, .string (str [97]), .string (str []), .string (str []), .string (str []), .bool true, .slice none 0 0, .int .i64 5, .string (str []), .string (str []), .string (str [97]), .string (str [97, 0]), .bool false, .slice none 0 0, .int .i64 1, .string (str [97]), .string (str []), .string (str []), .string (str []), .bool false, .slice none 0 0, .int .i64 2, .string (str []), .string (str []), .string (str []), .string (str [122]), .bool false, .slice none 0 0] 51 :: .blk g13 [.string (str []), .string (str [118]), .string (str [98]), .string (str [])] 54 :: Own 54 2 B4 2 c4 (rws [⟨[], [118]⟩, ⟨[98], []⟩]) :: .blk g12 [.int .i64 9007199254740991, .int .i64 3, .int .i64 0, .slice (some ⟨g10, 0, none⟩) 3 3, .int .i64 2, .int .i64 4, .int .i64 0, .slice (some ⟨g11, 0, none⟩) 2 2] 27 :: .blk g11 [.int .i64 5, .string (str []), .string (str []), .string (str [98]), .string (str [97]), .bool false, .slice none 0 0, .int .i64 4, .string (str [110, 111, 110, 101]), .string (str []), .string (str []), .string (str []), .bool false, .slice none 0 0] 51 :: .blk g10 [.int .i64 3, .string (str []), .string (str [118]), .string (str []), .string (str []), .bool false, .slice none 0 0, .int .i64 3, .string (str [98]), .string (str []), .string (str []), .string (str []), .bool false, .slice none 0 0, .int .i64 5, .string (str []), .string (str []), .string (str [97]), .string (str [98]), .bool false, .slice none 0 0] 51 :: Own 3 1 B (([] : List Dn).length) c (nats o) :: .blk g9 [.int .i64 0, .int .i64 0, .int .i64 0, .slice (some ⟨g8, 0, none⟩) 10001 10001] 27 :: .blk g8 (dvs (zeroD 10001)) 51 :: .blk g7 [.int .i64 1, .int .i64 0, .int .i64 0, .slice (some ⟨g6, 0, none⟩) 10001 10001] 27 :: .blk g6 (dvs (zeroD 10001)) 51 :: .blk g5 (nvs (zeroN 1001)) 27 :: .blk g4 [.int .i64 1, .int .i64 0, .int .i64 0, .slice none 0 0, .int .i64 1, .int .i64 1, .int .i64 0, .slice none 0 0] 27 :: .blk g3 [.int .i64 0, .int .i64 0, .int .i64 0, .slice none 0 0, .int .i64 9007199254740992, .int .i64 0, .int .i64 0, .slice none 0 0, .int .i64 1, .int .i64 (-1), .int .i64 0, .slice none 0 0, .int .i64 1, .int .i64 0, .int .i64 0, .slice (some ⟨g1, 0, none⟩) 1 1, .int .i64 1, .int .i64 0, .int .i64 0, .slice (some ⟨g2, 0, none⟩) 1 1] 27 :: .blk g2 [.int .i64 6, .string (str []), .string (str []), .string (str []), .string (str []), .bool false, .slice none 0 0] 51 :: .blk g1 [.int .i64 0, .string (str []), .string (str []), .string (str []), .string (str []), .bool false, .slice none 0 0] 51 :: L) w := s
  refine ⟨_, rfl, ?_⟩; clear ha; intro a ha
  refine st_call ha (by kernel_rfl) (by kernel_rfl) (get_any W _ w [97] [49] false s) ?_
  rintro _ w ⟨rfl, s⟩
  replace s : St W (.blk g15 [.int .i64 1, .int .i64 0, .int .i64 0, .slice (some ⟨g14, 0, none⟩) 6 6] 27 :: .blk g14 [.int .i64 1, .string (str [97]), .string (str []), .string (str []), .string (str []), .bool false, .slice none 0 0, .int .i64 3, .string (str [97]), .string (str []), .string (str []), .string (str []), .bool false, .slice none 0 0, .int .i64 1, .string (str [97]), .string (str []), .string (str []), .string (str []), .bool true, .slice none 0 0, .int .i64 5, .string (str []), .string (str []), .string (str [97]), .string (str [97, 0]), .bool false, .slice none 0 0, .int .i64 1, .string (str [97]), .string (str []), .string (str []), .string (str []), .bool false, .slice none 0 0, .int .i64 2, .string (str []), .string (str []), .string (str []), .string (str [122]), .bool false, .slice none 0 0] 51 :: .blk g13 [.string (str []), .string (str [118]), .string (str [98]), .string (str [])] 54 :: Own 54 2 B4 2 c4 (rws [⟨[], [118]⟩, ⟨[98], []⟩]) :: .blk g12 [.int .i64 9007199254740991, .int .i64 3, .int .i64 0, .slice (some ⟨g10, 0, none⟩) 3 3, .int .i64 2, .int .i64 4, .int .i64 0, .slice (some ⟨g11, 0, none⟩) 2 2] 27 :: .blk g11 [.int .i64 5, .string (str []), .string (str []), .string (str [98]), .string (str [97]), .bool false, .slice none 0 0, .int .i64 4, .string (str [110, 111, 110, 101]), .string (str []), .string (str []), .string (str []), .bool false, .slice none 0 0] 51 :: .blk g10 [.int .i64 3, .string (str []), .string (str [118]), .string (str []), .string (str []), .bool false, .slice none 0 0, .int .i64 3, .string (str [98]), .string (str []), .string (str []), .string (str []), .bool false, .slice none 0 0, .int .i64 5, .string (str []), .string (str []), .string (str [97]), .string (str [98]), .bool false, .slice none 0 0] 51 :: Own 3 1 B (([] : List Dn).length) c (nats o) :: .blk g9 [.int .i64 0, .int .i64 0, .int .i64 0, .slice (some ⟨g8, 0, none⟩) 10001 10001] 27 :: .blk g8 (dvs (zeroD 10001)) 51 :: .blk g7 [.int .i64 1, .int .i64 0, .int .i64 0, .slice (some ⟨g6, 0, none⟩) 10001 10001] 27 :: .blk g6 (dvs (zeroD 10001)) 51 :: .blk g5 (nvs (zeroN 1001)) 27 :: .blk g4 [.int .i64 1, .int .i64 0, .int .i64 0, .slice none 0 0, .int .i64 1, .int .i64 1, .int .i64 0, .slice none 0 0] 27 :: .blk g3 [.int .i64 0, .int .i64 0, .int .i64 0, .slice none 0 0, .int .i64 9007199254740992, .int .i64 0, .int .i64 0, .slice none 0 0, .int .i64 1, .int .i64 (-1), .int .i64 0, .slice none 0 0, .int .i64 1, .int .i64 0, .int .i64 0, .slice (some ⟨g1, 0, none⟩) 1 1, .int .i64 1, .int .i64 0, .int .i64 0, .slice (some ⟨g2, 0, none⟩) 1 1] 27 :: .blk g2 [.int .i64 6, .string (str []), .string (str []), .string (str []), .string (str []), .bool false, .slice none 0 0] 51 :: .blk g1 [.int .i64 0, .string (str []), .string (str []), .string (str []), .string (str []), .bool false, .slice none 0 0] 51 :: L) w := s
  refine ⟨_, rfl, ?_⟩; clear ha; intro a ha
  refine st_ex ha (by kernel_rfl) (ex_buildSlice elt25 _ zs25 [.int .i64 3, .string (str [97]), .string (str [49]), .string (str []), .string (str []), .bool false, .slice none 0 0, .int .i64 1, .string (str [97]), .string (str [49]), .string (str []), .string (str []), .bool false, .slice none 0 0] s rfl (by kernel_rfl) (by decide)) ?_
  clear ha; rintro _ w a ⟨g16, rfl, s⟩ ha
  replace s : St W (.blk g16 [.int .i64 3, .string (str [97]), .string (str [49]), .string (str []), .string (str []), .bool false, .slice none 0 0, .int .i64 1, .string (str [97]), .string (str [49]), .string (str []), .string (str []), .bool false, .slice none 0 0] 51 :: .blk g15 [.int .i64 1, .int .i64 0, .int .i64 0, .slice (some ⟨g14, 0, none⟩) 6 6] 27 :: .blk g14 [.int .i64 1, .string (str [97]), .string (str []), .string (str []), .string (str []), .bool false, .slice none 0 0, .int .i64 3, .string (str [97]), .string (str []), .string (str []), .string (str []), .bool false, .slice none 0 0, .int .i64 1, .string (str [97]), .string (str []), .string (str []), .string (str []), .bool true, .slice none 0 0, .int .i64 5, .string (str []), .string (str []), .string (str [97]), .string (str [97, 0]), .bool false, .slice none 0 0, .int .i64 1, .string (str [97]), .string (str []), .string (str []), .string (str []), .bool false, .slice none 0 0, .int .i64 2, .string (str []), .string (str []), .string (str []), .string (str [122]), .bool false, .slice none 0 0] 51 :: .blk g13 [.string (str []), .string (str [118]), .string (str [98]), .string (str [])] 54 :: Own 54 2 B4 2 c4 (rws [⟨[], [118]⟩, ⟨[98], []⟩]) :: .blk g12 [.int .i64 9007199254740991, .int .i64 3, .int .i64 0, .slice (some ⟨g10, 0, none⟩) 3 3, .int .i64 2, .int .i64 4, .int .i64 0, .slice (some ⟨g11, 0, none⟩) 2 2] 27 :: .blk g11 [.int .i64 5, .string (str []), .string (str []), .string (str [98]), .string (str [97]), .bool false, .slice none 0 0, .int .i64 4, .string (str [110, 111, 110, 101]), .string (str []), .string (str []), .string (str []), .bool false, .slice none 0 0] 51 :: .blk g10 [.int .i64 3, .string (str []), .string (str [118]), .string (str []), .string (str []), .bool false, .slice none 0 0, .int .i64 3, .string (str [98]), .string (str []), .string (str []), .string (str []), .bool false, .slice none 0 0, .int .i64 5, .string (str []), .string (str []), .string (str [97]), .string (str [98]), .bool false, .slice none 0 0] 51 :: Own 3 1 B (([] : List Dn).length) c (nats o) :: .blk g9 [.int .i64 0, .int .i64 0, .int .i64 0, .slice (some ⟨g8, 0, none⟩) 10001 10001] 27 :: .blk g8 (dvs (zeroD 10001)) 51 :: .blk g7 [.int .i64 1, .int .i64 0, .int .i64 0, .slice (some ⟨g6, 0, none⟩) 10001 10001] 27 :: .blk g6 (dvs (zeroD 10001)) 51 :: .blk g5 (nvs (zeroN 1001)) 27 :: .blk g4 [.int .i64 1, .int .i64 0, .int .i64 0, .slice none 0 0, .int .i64 1, .int .i64 1, .int .i64 0, .slice none 0 0] 27 :: .blk g3 [.int .i64 0, .int .i64 0, .int .i64 0, .slice none 0 0, .int .i64 9007199254740992, .int .i64 0, .int .i64 0, .slice none 0 0, .int .i64 1, .int .i64 (-1), .int .i64 0, .slice none 0 0, .int .i64 1, .int .i64 0, .int .i64 0, .slice (some ⟨g1, 0, none⟩) 1 1, .int .i64 1, .int .i64 0, .int .i64 0, .slice (some ⟨g2, 0, none⟩) 1 1] 27 :: .blk g2 [.int .i64 6, .string (str []), .string (str []), .string (str []), .string (str []), .bool false, .slice none 0 0] 51 :: .blk g1 [.int .i64 0, .string (str []), .string (str []), .string (str []), .string (str []), .bool false, .slice none 0 0] 51 :: L) w := s
  refine st_val (.agg #[.int .i64 1, .int .i64 0, .int .i64 0, .slice (some ⟨g16, 0, none⟩) 2 2]) ha (by kernel_rfl) (by kernel_rfl) ?_
  clear ha; intro a ha
  refine st_ex ha (by kernel_rfl) (ex_buildSlice elt22 _ zs22 [.int .i64 1, .int .i64 0, .int .i64 0, .slice (some ⟨g16, 0, none⟩) 2 2] s rfl (by kernel_rfl) (by decide)) ?_
  clear ha; rintro _ w a ⟨g17, rfl, s⟩ ha
  replace s : St W (.blk g17 [.int .i64 1, .int .i64 0, .int .i64 0, .slice (some ⟨g16, 0, none⟩) 2 2] 27 :: .blk g16 [.int .i64 3, .string (str [97]), .string (str [49]), .string (str []), .string (str []), .bool false, .slice none 0 0, .int .i64 1, .string (str [97]), .string (str [49]), .string (str []), .string (str []), .bool false, .slice none 0 0] 51 :: .blk g15 [.int .i64 1, .int .i64 0, .int .i64 0, .slice (some ⟨g14, 0, none⟩) 6 6] 27 :: .blk g14 [.int .i64 1, .string (str [97]), .string (str []), .string (str []), .string (str []), .bool false, .slice none 0 0, .int .i64 3, .string (str [97]), .string (str []), .string (str []), .string (str []), .bool false, .slice none 0 0, .int .i64 1, .string (str [97]), .string (str []), .string (str []), .string (str []), .bool true, .slice none 0 0, .int .i64 5, .string (str []), .string (str []), .string (str [97]), .string (str [97, 0]), .bool false, .slice none 0 0, .int .i64 1, .string (str [97]), .string (str []), .string (str []), .string (str []), .bool false, .slice none 0 0, .int .i64 2, .string (str []), .string (str []), .string (str []), .string (str [122]), .bool false, .slice none 0 0] 51 :: .blk g13 [.string (str []), .string (str [118]), .string (str [98]), .string (str [])] 54 :: Own 54 2 B4 2 c4 (rws [⟨[], [118]⟩, ⟨[98], []⟩]) :: .blk g12 [.int .i64 9007199254740991, .int .i64 3, .int .i64 0, .slice (some ⟨g10, 0, none⟩) 3 3, .int .i64 2, .int .i64 4, .int .i64 0, .slice (some ⟨g11, 0, none⟩) 2 2] 27 :: .blk g11 [.int .i64 5, .string (str []), .string (str []), .string (str [98]), .string (str [97]), .bool false, .slice none 0 0, .int .i64 4, .string (str [110, 111, 110, 101]), .string (str []), .string (str []), .string (str []), .bool false, .slice none 0 0] 51 :: .blk g10 [.int .i64 3, .string (str []), .string (str [118]), .string (str []), .string (str []), .bool false, .slice none 0 0, .int .i64 3, .string (str [98]), .string (str []), .string (str []), .string (str []), .bool false, .slice none 0 0, .int .i64 5, .string (str []), .string (str []), .string (str [97]), .string (str [98]), .bool false, .slice none 0 0] 51 :: Own 3 1 B (([] : List Dn).length) c (nats o) :: .blk g9 [.int .i64 0, .int .i64 0, .int .i64 0, .slice (some ⟨g8, 0, none⟩) 10001 10001] 27 :: .blk g8 (dvs (zeroD 10001)) 51 :: .blk g7 [.int .i64 1, .int .i64 0, .int .i64 0, .slice (some ⟨g6, 0, none⟩) 10001 10001] 27 :: .blk g6 (dvs (zeroD 10001)) 51 :: .blk g5 (nvs (zeroN 1001)) 27 :: .blk g4 [.int .i64 1, .int .i64 0, .int .i64 0, .slice none 0 0, .int .i64 1, .int .i64 1, .int .i64 0, .slice none 0 0] 27 :: .blk g3 [.int .i64 0, .int .i64 0, .int .i64 0, .slice none 0 0, .int .i64 9007199254740992, .int .i64 0, .int .i64 0, .slice none 0 0, .int .i64 1, .int .i64 (-1), .int .i64 0, .slice none 0 0, .int .i64 1, .int .i64 0, .int .i64 0, .slice (some ⟨g1, 0, none⟩) 1 1, .int .i64 1, .int .i64 0, .int .i64 0, .slice (some ⟨g2, 0, none⟩) 1 1] 27 :: .blk g2 [.int .i64 6, .string (str []), .string (str []), .string (str []), .string (str []), .bool false, .slice none 0 0] 51 :: .blk g1 [.int .i64 0, .string (str []), .string (str []), .string (str []), .string (str []), .bool false, .slice none 0 0] 51 :: L) w := s
  refine st_val (.slice (some ⟨g17, 0, none⟩) 1 1) ha (by kernel_rfl) (by kernel_rfl) ?_
  clear ha; intro a ha
  refine wpList_nil ?_
  refine then_normal ?_
  refine wp_seq ?_
  refine wp_region_lit ?_
  refine st_call ha (by kernel_rfl) (by kernel_rfl) (get_any W _ w [97] [49] false s) ?_
  rintro _ w ⟨rfl, s⟩
  replace s : St W (.blk g17 [.int .i64 1, .int .i64 0, .int .i64 0, .slice (some ⟨g16, 0, none⟩) 2 2] 27 :: .blk g16 [.int .i64 3, .string (str [97]), .string (str [49]), .string (str []), .string (str []), .bool false, .slice none 0 0, .int .i64 1, .string (str [97]), .string (str [49]), .string (str []), .string (str []), .bool false, .slice none 0 0] 51 :: .blk g15 [.int .i64 1, .int .i64 0, .int .i64 0, .slice (some ⟨g14, 0, none⟩) 6 6] 27 :: .blk g14 [.int .i64 1, .string (str [97]), .string (str []), .string (str []), .string (str []), .bool false, .slice none 0 0, .int .i64 3, .string (str [97]), .string (str []), .string (str []), .string (str []), .bool false, .slice none 0 0, .int .i64 1, .string (str [97]), .string (str []), .string (str []), .string (str []), .bool true, .slice none 0 0, .int .i64 5, .string (str []), .string (str []), .string (str [97]), .string (str [97, 0]), .bool false, .slice none 0 0, .int .i64 1, .string (str [97]), .string (str []), .string (str []), .string (str []), .bool false, .slice none 0 0, .int .i64 2, .string (str []), .string (str []), .string (str []), .string (str [122]), .bool false, .slice none 0 0] 51 :: .blk g13 [.string (str []), .string (str [118]), .string (str [98]), .string (str [])] 54 :: Own 54 2 B4 2 c4 (rws [⟨[], [118]⟩, ⟨[98], []⟩]) :: .blk g12 [.int .i64 9007199254740991, .int .i64 3, .int .i64 0, .slice (some ⟨g10, 0, none⟩) 3 3, .int .i64 2, .int .i64 4, .int .i64 0, .slice (some ⟨g11, 0, none⟩) 2 2] 27 :: .blk g11 [.int .i64 5, .string (str []), .string (str []), .string (str [98]), .string (str [97]), .bool false, .slice none 0 0, .int .i64 4, .string (str [110, 111, 110, 101]), .string (str []), .string (str []), .string (str []), .bool false, .slice none 0 0] 51 :: .blk g10 [.int .i64 3, .string (str []), .string (str [118]), .string (str []), .string (str []), .bool false, .slice none 0 0, .int .i64 3, .string (str [98]), .string (str []), .string (str []), .string (str []), .bool false, .slice none 0 0, .int .i64 5, .string (str []), .string (str []), .string (str [97]), .string (str [98]), .bool false, .slice none 0 0] 51 :: Own 3 1 B (([] : List Dn).length) c (nats o) :: .blk g9 [.int .i64 0, .int .i64 0, .int .i64 0, .slice (some ⟨g8, 0, none⟩) 10001 10001] 27 :: .blk g8 (dvs (zeroD 10001)) 51 :: .blk g7 [.int .i64 1, .int .i64 0, .int .i64 0, .slice (some ⟨g6, 0, none⟩) 10001 10001] 27 :: .blk g6 (dvs (zeroD 10001)) 51 :: .blk g5 (nvs (zeroN 1001)) 27 :: .blk g4 [.int .i64 1, .int .i64 0, .int .i64 0, .slice none 0 0, .int .i64 1, .int .i64 1, .int .i64 0, .slice none 0 0] 27 :: .blk g3 [.int .i64 0, .int .i64 0, .int .i64 0, .slice none 0 0, .int .i64 9007199254740992, .int .i64 0, .int .i64 0, .slice none 0 0, .int .i64 1, .int .i64 (-1), .int .i64 0, .slice none 0 0, .int .i64 1, .int .i64 0, .int .i64 0, .slice (some ⟨g1, 0, none⟩) 1 1, .int .i64 1, .int .i64 0, .int .i64 0, .slice (some ⟨g2, 0, none⟩) 1 1] 27 :: .blk g2 [.int .i64 6, .string (str []), .string (str []), .string (str []), .string (str []), .bool false, .slice none 0 0] 51 :: .blk g1 [.int .i64 0, .string (str []), .string (str []), .string (str []), .string (str []), .bool false, .slice none 0 0] 51 :: L) w := s
  refine ⟨_, rfl, ?_⟩; clear ha; intro a ha
  refine st_ex ha (by kernel_rfl) (ex_buildSlice elt25 _ zs25 [.int .i64 1, .string (str [97]), .string (str [49]), .string (str []), .string (str []), .bool false, .slice none 0 0] s rfl (by kernel_rfl) (by decide)) ?_
  clear ha; rintro _ w a ⟨g18, rfl, s⟩ ha
  replace s : St W (.blk g18 [.int .i64 1, .string (str [97]), .string (str [49]), .string (str []), .string (str []), .bool false, .slice none 0 0] 51 :: .blk g17 [.int .i64 1, .int .i64 0, .int .i64 0, .slice (some ⟨g16, 0, none⟩) 2 2] 27 :: .blk g16 [.int .i64 3, .string (str [97]), .string (str [49]), .string (str []), .string (str []), .bool false, .slice none 0 0, .int .i64 1, .string (str [97]), .string (str [49]), .string (str []), .string (str []), .bool false, .slice none 0 0] 51 :: .blk g15 [.int .i64 1, .int .i64 0, .int .i64 0, .slice (some ⟨g14, 0, none⟩) 6 6] 27 :: .blk g14 [.int .i64 1, .string (str [97]), .string (str []), .string (str []), .string (str []), .bool false, .slice none 0 0, .int .i64 3, .string (str [97]), .string (str []), .string (str []), .string (str []), .bool false, .slice none 0 0, .int .i64 1, .string (str [97]), .string (str []), .string (str []), .string (str []), .bool true, .slice none 0 0, .int .i64 5, .string (str []), .string (str []), .string (str [97]), .string (str [97, 0]), .bool false, .slice none 0 0, .int .i64 1, .string (str [97]), .string (str []), .string (str []), .string (str []), .bool false, .slice none 0 0, .int .i64 2, .string (str []), .string (str []), .string (str []), .string (str [122]), .bool false, .slice none 0 0] 51 :: .blk g13 [.string (str []), .string (str [118]), .string (str [98]), .string (str [])] 54 :: Own 54 2 B4 2 c4 (rws [⟨[], [118]⟩, ⟨[98], []⟩]) :: .blk g12 [.int .i64 9007199254740991, .int .i64 3, .int .i64 0, .slice (some ⟨g10, 0, none⟩) 3 3, .int .i64 2, .int .i64 4, .int .i64 0, .slice (some ⟨g11, 0, none⟩) 2 2] 27 :: .blk g11 [.int .i64 5, .string (str []), .string (str []), .string (str [98]), .string (str [97]), .bool false, .slice none 0 0, .int .i64 4, .string (str [110, 111, 110, 101]), .string (str []), .string (str []), .string (str []), .bool false, .slice none 0 0] 51 :: .blk g10 [.int .i64 3, .string (str []), .string (str [118]), .string (str []), .string (str []), .bool false, .slice none 0 0, .int .i64 3, .string (str [98]), .string (str []), .string (str []), .string (str []), .bool false, .slice none 0 0, .int .i64 5, .string (str []), .string (str []), .string (str [97]), .string (str [98]), .bool false, .slice none 0 0] 51 :: Own 3 1 B (([] : List Dn).length) c (nats o) :: .blk g9 [.int .i64 0, .int .i64 0, .int .i64 0, .slice (some ⟨g8, 0, none⟩) 10001 10001] 27 :: .blk g8 (dvs (zeroD 10001)) 51 :: .blk g7 [.int .i64 1, .int .i64 0, .int .i64 0, .slice (some ⟨g6, 0, none⟩) 10001 10001] 27 :: .blk g6 (dvs (zeroD 10001)) 51 :: .blk g5 (nvs (zeroN 1001)) 27 :: .blk g4 [.int .i64 1, .int .i64 0, .int .i64 0, .slice none 0 0, .int .i64 1, .int .i64 1, .int .i64 0, .slice none 0 0] 27 :: .blk g3 [.int .i64 0, .int .i64 0, .int .i64 0, .slice none 0 0, .int .i64 9007199254740992, .int .i64 0, .int .i64 0, .slice none 0 0, .int .i64 1, .int .i64 (-1), .int .i64 0, .slice none 0 0, .int .i64 1, .int .i64 0, .int .i64 0, .slice (some ⟨g1, 0, none⟩) 1 1, .int .i64 1, .int .i64 0, .int .i64 0, .slice (some ⟨g2, 0, none⟩) 1 1] 27 :: .blk g2 [.int .i64 6, .string (str []), .string (str []), .string (str []), .string (str []), .bool false, .slice none 0 0] 51 :: .blk g1 [.int .i64 0, .string (str []), .string (str []), .string (str []), .string (str []), .bool false, .slice none 0 0] 51 :: L) w := s
  refine st_val (.agg #[.int .i64 1, .int .i64 0, .int .i64 0, .slice (some ⟨g18, 0, none⟩) 1 1]) ha (by kernel_rfl) (by kernel_rfl) ?_
  clear ha; intro a ha
  refine st_ex ha (by kernel_rfl) (ex_buildSlice elt22 _ zs22 [.int .i64 1, .int .i64 0, .int .i64 0, .slice (some ⟨g18, 0, none⟩) 1 1] s rfl (by kernel_rfl) (by decide)) ?_
  clear ha; rintro _ w a ⟨g19, rfl, s⟩ ha
  replace s : St W (.blk g19 [.int .i64 1, .int .i64 0, .int .i64 0, .slice (some ⟨g18, 0, none⟩) 1 1] 27 :: .blk g18 [.int .i64 1, .string (str [97]), .string (str [49]), .string (str []), .string (str []), .bool false, .slice none 0 0] 51 :: .blk g17 [.int .i64 1, .int .i64 0, .int .i64 0, .slice (some ⟨g16, 0, none⟩) 2 2] 27 :: .blk g16 [.int .i64 3, .string (str [97]), .string (str [49]), .string (str []), .string (str []), .bool false, .slice none 0 0, .int .i64 1, .string (str [97]), .string (str [49]), .string (str []), .string (str []), .bool false, .slice none 0 0] 51 :: .blk g15 [.int .i64 1, .int .i64 0, .int .i64 0, .slice (some ⟨g14, 0, none⟩) 6 6] 27 :: .blk g14 [.int .i64 1, .string (str [97]), .string (str []), .string (str []), .string (str []), .bool false, .slice none 0 0, .int .i64 3, .string (str [97]), .string (str []), .string (str []), .string (str []), .bool false, .slice none 0 0, .int .i64 1, .string (str [97]), .string (str []), .string (str []), .string (str []), .bool true, .slice none 0 0, .int .i64 5, .string (str []), .string (str []), .string (str [97]), .string (str [97, 0]), .bool false, .slice none 0 0, .int .i64 1, .string (str [97]), .string (str []), .string (str []), .string (str []), .bool false, .slice none 0 0, .int .i64 2, .string (str []), .string (str []), .string (str []), .string (str [122]), .bool false, .slice none 0 0] 51 :: .blk g13 [.string (str []), .string (str [118]), .string (str [98]), .string (str [])] 54 :: Own 54 2 B4 2 c4 (rws [⟨[], [118]⟩, ⟨[98], []⟩]) :: .blk g12 [.int .i64 9007199254740991, .int .i64 3, .int .i64 0, .slice (some ⟨g10, 0, none⟩) 3 3, .int .i64 2, .int .i64 4, .int .i64 0, .slice (some ⟨g11, 0, none⟩) 2 2] 27 :: .blk g11 [.int .i64 5, .string (str []), .string (str []), .string (str [98]), .string (str [97]), .bool false, .slice none 0 0, .int .i64 4, .string (str [110, 111, 110, 101]), .string (str []), .string (str []), .string (str []), .bool false, .slice none 0 0] 51 :: .blk g10 [.int .i64 3, .string (str []), .string (str [118]), .string (str []), .string (str []), .bool false, .slice none 0 0, .int .i64 3, .string (str [98]), .string (str []), .string (str []), .string (str []), .bool false, .slice none 0 0, .int .i64 5, .string (str []), .string (str []), .string (str [97]), .string (str [98]), .bool false, .slice none 0 0] 51 :: Own 3 1 B (([] : List Dn).length) c (nats o) :: .blk g9 [.int .i64 0, .int .i64 0, .int .i64 0, .slice (some ⟨g8, 0, none⟩) 10001 10001] 27 :: .blk g8 (dvs (zeroD 10001)) 51 :: .blk g7 [.int .i64 1, .int .i64 0, .int .i64 0, .slice (some ⟨g6, 0, none⟩) 10001 10001] 27 :: .blk g6 (dvs (zeroD 10001)) 51 :: .blk g5 (nvs (zeroN 1001)) 27 :: .blk g4 [.int .i64 1, .int .i64 0, .int .i64 0, .slice none 0 0, .int .i64 1, .int .i64 1, .int .i64 0, .slice none 0 0] 27 :: .blk g3 [.int .i64 0, .int .i64 0, .int .i64 0, .slice none 0 0, .int .i64 9007199254740992, .int .i64 0, .int .i64 0, .slice none 0 0, .int .i64 1, .int .i64 (-1), .int .i64 0, .slice none 0 0, .int .i64 1, .int .i64 0, .int .i64 0, .slice (some ⟨g1, 0, none⟩) 1 1, .int .i64 1, .int .i64 0, .int .i64 0, .slice (some ⟨g2, 0, none⟩) 1 1] 27 :: .blk g2 [.int .i64 6, .string (str []), .string (str []), .string (str []), .string (str []), .bool false, .slice none 0 0] 51 :: .blk g1 [.int .i64 0, .string (str []), .string (str []), .string (str []), .string (str []), .bool false, .slice none 0 0] 51 :: L) w := s
  refine st_val (.slice (some ⟨g19, 0, none⟩) 1 1) ha (by kernel_rfl) (by kernel_rfl) ?_
  clear ha; intro a ha
  refine wpList_nil ?_
  refine then_normal ?_
  refine wp_seq ?_
  refine wp_region_lit ?_
  refine st_val (.bool true) ha (by kernel_rfl) (by kernel_rfl) ?_
  clear ha; intro a ha
  refine st_call ha (by kernel_rfl) (by kernel_rfl) (works_true W hW _ w s) ?_
  rintro _ w ⟨rfl, s⟩
  replace s : St W (.blk g19 [.int .i64 1, .int .i64 0, .int .i64 0, .slice (some ⟨g18, 0, none⟩) 1 1] 27 :: .blk g18 [.int .i64 1, .string (str [97]), .string (str [49]), .string (str []), .string (str []), .bool false, .slice none 0 0] 51 :: .blk g17 [.int .i64 1, .int .i64 0, .int .i64 0, .slice (some ⟨g16, 0, none⟩) 2 2] 27 :: .blk g16 [.int .i64 3, .string (str [97]), .string (str [49]), .string (str []), .string (str []), .bool false, .slice none 0 0, .int .i64 1, .string (str [97]), .string (str [49]), .string (str []), .string (str []), .bool false, .slice none 0 0] 51 :: .blk g15 [.int .i64 1, .int .i64 0, .int .i64 0, .slice (some ⟨g14, 0, none⟩) 6 6] 27 :: .blk g14 [.int .i64 1, .string (str [97]), .string (str []), .string (str []), .string (str []), .bool false, .slice none 0 0, .int .i64 3, .string (str [97]), .string (str []), .string (str []), .string (str []), .bool false, .slice none 0 0, .int .i64 1, .string (str [97]), .string (str []), .string (str []), .string (str []), .bool true, .slice none 0 0, .int .i64 5, .string (str []), .string (str []), .string (str [97]), .string (str [97, 0]), .bool false, .slice none 0 0, .int .i64 1, .string (str [97]), .string (str []), .string (str []), .string (str []), .bool false, .slice none 0 0, .int .i64 2, .string (str []), .string (str []), .string (str []), .string (str [122]), .bool false, .slice none 0 0] 51 :: .blk g13 [.string (str []), .string (str [118]), .string (str [98]), .string (str [])] 54 :: Own 54 2 B4 2 c4 (rws [⟨[], [118]⟩, ⟨[98], []⟩]) :: .blk g12 [.int .i64 9007199254740991, .int .i64 3, .int .i64 0, .slice (some ⟨g10, 0, none⟩) 3 3, .int .i64 2, .int .i64 4, .int .i64 0, .slice (some ⟨g11, 0, none⟩) 2 2] 27 :: .blk g11 [.int .i64 5, .string (str []), .string (str []), .string (str [98]), .string (str [97]), .bool false, .slice none 0 0, .int .i64 4, .string (str [110, 111, 110, 101]), .string (str []), .string (str []), .string (str []), .bool false, .slice none 0 0] 51 :: .blk g10 [.int .i64 3, .string (str []), .string (str [118]), .string (str []), .string (str []), .bool false, .slice none 0 0, .int .i64 3, .string (str [98]), .string (str []), .string (str []), .string (str []), .bool false, .slice none 0 0, .int .i64 5, .string (str []), .string (str []), .string (str [97]), .string (str [98]), .bool false, .slice none 0 0] 51 :: Own 3 1 B (([] : List Dn).length) c (nats o) :: .blk g9 [.int .i64 0, .int .i64 0, .int .i64 0, .slice (some ⟨g8, 0, none⟩) 10001 10001] 27 :: .blk g8 (dvs (zeroD 10001)) 51 :: .blk g7 [.int .i64 1, .int .i64 0, .int .i64 0, .slice (some ⟨g6, 0, none⟩) 10001 10001] 27 :: .blk g6 (dvs (zeroD 10001)) 51 :: .blk g5 (nvs (zeroN 1001)) 27 :: .blk g4 [.int .i64 1, .int .i64 0, .int .i64 0, .slice none 0 0, .int .i64 1, .int .i64 1, .int .i64 0, .slice none 0 0] 27 :: .blk g3 [.int .i64 0, .int .i64 0, .int .i64 0, .slice none 0 0, .int .i64 9007199254740992, .int .i64 0, .int .i64 0, .slice none 0 0, .int .i64 1, .int .i64 (-1), .int .i64 0, .slice none 0 0, .int .i64 1, .int .i64 0, .int .i64 0, .slice (some ⟨g1, 0, none⟩) 1 1, .int .i64 1, .int .i64 0, .int .i64 0, .slice (some ⟨g2, 0, none⟩) 1 1] 27 :: .blk g2 [.int .i64 6, .string (str []), .string (str []), .string (str []), .string (str []), .bool false, .slice none 0 0] 51 :: .blk g1 [.int .i64 0, .string (str []), .string (str []), .string (str []), .string (str []), .bool false, .slice none 0 0] 51 :: L) w := s
  refine ⟨_, rfl, ?_⟩; clear ha; intro a ha
  refine st_val (.bool true) ha (by kernel_rfl) (by kernel_rfl) ?_
  clear ha; intro a ha
  refine st_val (.bool true) ha (by kernel_rfl) (by kernel_rfl) ?_
  clear ha; intro a ha
  refine st_val (.bool true) ha (by kernel_rfl) (by kernel_rfl) ?_
  clear ha; intro a ha
  refine st_val (.bool true) ha (by kernel_rfl) (by kernel_rfl) ?_
  clear ha; intro a ha
  refine st_val (.bool true) ha (by kernel_rfl) (by kernel_rfl) ?_
  clear ha; intro a ha
  refine st_val (.slice (some ⟨g15, 0, none⟩) 1 1) ha (by kernel_rfl) (by kernel_rfl) ?_
  clear ha; intro a ha
  have hk12 : Knows (.blk g19 [.int .i64 1, .int .i64 0, .int .i64 0, .slice (some ⟨g18, 0, none⟩) 1 1] 27 :: .blk g18 [.int .i64 1, .string (str [97]), .string (str [49]), .string (str []), .string (str []), .bool false, .slice none 0 0] 51 :: .blk g17 [.int .i64 1, .int .i64 0, .int .i64 0, .slice (some ⟨g16, 0, none⟩) 2 2] 27 :: .blk g16 [.int .i64 3, .string (str [97]), .string (str [49]), .string (str []), .string (str []), .bool false, .slice none 0 0, .int .i64 1, .string (str [97]), .string (str [49]), .string (str []), .string (str []), .bool false, .slice none 0 0] 51 :: .blk g15 [.int .i64 1, .int .i64 0, .int .i64 0, .slice (some ⟨g14, 0, none⟩) 6 6] 27 :: .blk g14 [.int .i64 1, .string (str [97]), .string (str []), .string (str []), .string (str []), .bool false, .slice none 0 0, .int .i64 3, .string (str [97]), .string (str []), .string (str []), .string (str []), .bool false, .slice none 0 0, .int .i64 1, .string (str [97]), .string (str []), .string (str []), .string (str []), .bool true, .slice none 0 0, .int .i64 5, .string (str []), .string (str []), .string (str [97]), .string (str [97, 0]), .bool false, .slice none 0 0, .int .i64 1, .string (str [97]), .string (str []), .string (str []), .string (str []), .bool false, .slice none 0 0, .int .i64 2, .string (str []), .string (str []), .string (str []), .string (str [122]), .bool false, .slice none 0 0] 51 :: .blk g13 [.string (str []), .string (str [118]), .string (str [98]), .string (str [])] 54 :: Own 54 2 B4 2 c4 (rws [⟨[], [118]⟩, ⟨[98], []⟩]) :: .blk g12 [.int .i64 9007199254740991, .int .i64 3, .int .i64 0, .slice (some ⟨g10, 0, none⟩) 3 3, .int .i64 2, .int .i64 4, .int .i64 0, .slice (some ⟨g11, 0, none⟩) 2 2] 27 :: .blk g11 [.int .i64 5, .string (str []), .string (str []), .string (str [98]), .string (str [97]), .bool false, .slice none 0 0, .int .i64 4, .string (str [110, 111, 110, 101]), .string (str []), .string (str []), .string (str []), .bool false, .slice none 0 0] 51 :: .blk g10 [.int .i64 3, .string (str []), .string (str [118]), .string (str []), .string (str []), .bool false, .slice none 0 0, .int .i64 3, .string (str [98]), .string (str []), .string (str []), .string (str []), .bool false, .slice none 0 0, .int .i64 5, .string (str []), .string (str []), .string (str [97]), .string (str [98]), .bool false, .slice none 0 0] 51 :: Own 3 1 B (([] : List Dn).length) c (nats o) :: .blk g9 [.int .i64 0, .int .i64 0, .int .i64 0, .slice (some ⟨g8, 0, none⟩) 10001 10001] 27 :: .blk g8 (dvs (zeroD 10001)) 51 :: .blk g7 [.int .i64 1, .int .i64 0, .int .i64 0, .slice (some ⟨g6, 0, none⟩) 10001 10001] 27 :: .blk g6 (dvs (zeroD 10001)) 51 :: .blk g5 (nvs (zeroN 1001)) 27 :: .blk g4 [.int .i64 1, .int .i64 0, .int .i64 0, .slice none 0 0, .int .i64 1, .int .i64 1, .int .i64 0, .slice none 0 0] 27 :: .blk g3 [.int .i64 0, .int .i64 0, .int .i64 0, .slice none 0 0, .int .i64 9007199254740992, .int .i64 0, .int .i64 0, .slice none 0 0, .int .i64 1, .int .i64 (-1), .int .i64 0, .slice none 0 0, .int .i64 1, .int .i64 0, .int .i64 0, .slice (some ⟨g1, 0, none⟩) 1 1, .int .i64 1, .int .i64 0, .int .i64 0, .slice (some ⟨g2, 0, none⟩) 1 1] 27 :: .blk g2 [.int .i64 6, .string (str []), .string (str []), .string (str []), .string (str []), .bool false, .slice none 0 0] 51 :: .blk g1 [.int .i64 0, .string (str []), .string (str []), .string (str []), .string (str []), .bool false, .slice none 0 0] 51 :: L) (DonesIn (some ⟨g15, 0, none⟩) ([⟨1, 0, 0, (some ⟨g14, 0, none⟩), 6, [⟨⟨1, [97], [], [], [], false, []⟩, none, 0⟩, ⟨⟨3, [97], [], [], [], false, []⟩, none, 0⟩, ⟨⟨1, [97], [], [], [], true, []⟩, none, 0⟩, ⟨⟨5, [], [], [97], [97, 0], false, []⟩, none, 0⟩, ⟨⟨1, [97], [], [], [], false, []⟩, none, 0⟩, ⟨⟨2, [], [], [], [122], false, []⟩, none, 0⟩]⟩] : List Dn)) := fun w s => by
    refine ⟨Knows.reads_blk (j := 4) (k := 4) (n := 1) rfl rfl w s, fun d hd => ?_⟩
    simp only [List.mem_cons, List.not_mem_nil, or_false] at hd
    rcases hd with rfl
    · exact ⟨Knows.reads_blk (j := 5) (k := 7) (n := 6) rfl rfl w s, fun x hx => by simp only [List.mem_cons, List.not_mem_nil, or_false] at hx; rcases hx with rfl | rfl | rfl | rfl | rfl | rfl <;> first | exact ⟨rfl, by simp, by simp⟩⟩
  have hk12b : Bn ([⟨1, 0, 0, (some ⟨g14, 0, none⟩), 6, [⟨⟨1, [97], [], [], [], false, []⟩, none, 0⟩, ⟨⟨3, [97], [], [], [], false, []⟩, none, 0⟩, ⟨⟨1, [97], [], [], [], true, []⟩, none, 0⟩, ⟨⟨5, [], [], [97], [97, 0], false, []⟩, none, 0⟩, ⟨⟨1, [97], [], [], [], false, []⟩, none, 0⟩, ⟨⟨2, [], [], [], [122], false, []⟩, none, 0⟩]⟩] : List Dn) := by
    refine ⟨by simp, fun d hd => ?_⟩
    simp only [List.mem_cons, List.not_mem_nil, or_false] at hd
    rcases hd with rfl
    · exact ⟨by simp, fun x hx => by simp only [List.mem_cons, List.not_mem_nil, or_false] at hx; rcases hx with rfl | rfl | rfl | rfl | rfl | rfl <;> exact ⟨by simp, by simp⟩⟩
  have hk12t : tns ([⟨1, 0, 0, (some ⟨g14, 0, none⟩), 6, [⟨⟨1, [97], [], [], [], false, []⟩, none, 0⟩, ⟨⟨3, [97], [], [], [], false, []⟩, none, 0⟩, ⟨⟨1, [97], [], [], [], true, []⟩, none, 0⟩, ⟨⟨5, [], [], [97], [97, 0], false, []⟩, none, 0⟩, ⟨⟨1, [97], [], [], [], false, []⟩, none, 0⟩, ⟨⟨2, [], [], [], [122], false, []⟩, none, 0⟩]⟩] : List Dn) = ([⟨1, 0, 0, [⟨1, [97], [], [], [], false, []⟩, ⟨3, [97], [], [], [], false, []⟩, ⟨1, [97], [], [], [], true, []⟩, ⟨5, [], [], [97], [97, 0], false, []⟩, ⟨1, [97], [], [], [], false, []⟩, ⟨2, [], [], [], [122], false, []⟩]⟩] : List Tn) := rfl
  refine st_call ha (by kernel_rfl) (by kernel_rfl) (finds_true W hW _ w (some ⟨g15, 0, none⟩) 1 ([⟨1, 0, 0, (some ⟨g14, 0, none⟩), 6, [⟨⟨1, [97], [], [], [], false, []⟩, none, 0⟩, ⟨⟨3, [97], [], [], [], false, []⟩, none, 0⟩, ⟨⟨1, [97], [], [], [], true, []⟩, none, 0⟩, ⟨⟨5, [], [], [97], [97, 0], false, []⟩, none, 0⟩, ⟨⟨1, [97], [], [], [], false, []⟩, none, 0⟩, ⟨⟨2, [], [], [], [122], false, []⟩, none, 0⟩]⟩] : List Dn) hk12 hk12b 0 0 false (by rw [hk12t]; decide) (fun o ho => by rw [hk12t] at *; rw [show o = [0] from ho.unique (by decide)]; decide) s) ?_
  rintro _ w ⟨rfl, s⟩
  replace s : St W (.blk g19 [.int .i64 1, .int .i64 0, .int .i64 0, .slice (some ⟨g18, 0, none⟩) 1 1] 27 :: .blk g18 [.int .i64 1, .string (str [97]), .string (str [49]), .string (str []), .string (str []), .bool false, .slice none 0 0] 51 :: .blk g17 [.int .i64 1, .int .i64 0, .int .i64 0, .slice (some ⟨g16, 0, none⟩) 2 2] 27 :: .blk g16 [.int .i64 3, .string (str [97]), .string (str [49]), .string (str []), .string (str []), .bool false, .slice none 0 0, .int .i64 1, .string (str [97]), .string (str [49]), .string (str []), .string (str []), .bool false, .slice none 0 0] 51 :: .blk g15 [.int .i64 1, .int .i64 0, .int .i64 0, .slice (some ⟨g14, 0, none⟩) 6 6] 27 :: .blk g14 [.int .i64 1, .string (str [97]), .string (str []), .string (str []), .string (str []), .bool false, .slice none 0 0, .int .i64 3, .string (str [97]), .string (str []), .string (str []), .string (str []), .bool false, .slice none 0 0, .int .i64 1, .string (str [97]), .string (str []), .string (str []), .string (str []), .bool true, .slice none 0 0, .int .i64 5, .string (str []), .string (str []), .string (str [97]), .string (str [97, 0]), .bool false, .slice none 0 0, .int .i64 1, .string (str [97]), .string (str []), .string (str []), .string (str []), .bool false, .slice none 0 0, .int .i64 2, .string (str []), .string (str []), .string (str []), .string (str [122]), .bool false, .slice none 0 0] 51 :: .blk g13 [.string (str []), .string (str [118]), .string (str [98]), .string (str [])] 54 :: Own 54 2 B4 2 c4 (rws [⟨[], [118]⟩, ⟨[98], []⟩]) :: .blk g12 [.int .i64 9007199254740991, .int .i64 3, .int .i64 0, .slice (some ⟨g10, 0, none⟩) 3 3, .int .i64 2, .int .i64 4, .int .i64 0, .slice (some ⟨g11, 0, none⟩) 2 2] 27 :: .blk g11 [.int .i64 5, .string (str []), .string (str []), .string (str [98]), .string (str [97]), .bool false, .slice none 0 0, .int .i64 4, .string (str [110, 111, 110, 101]), .string (str []), .string (str []), .string (str []), .bool false, .slice none 0 0] 51 :: .blk g10 [.int .i64 3, .string (str []), .string (str [118]), .string (str []), .string (str []), .bool false, .slice none 0 0, .int .i64 3, .string (str [98]), .string (str []), .string (str []), .string (str []), .bool false, .slice none 0 0, .int .i64 5, .string (str []), .string (str []), .string (str [97]), .string (str [98]), .bool false, .slice none 0 0] 51 :: Own 3 1 B (([] : List Dn).length) c (nats o) :: .blk g9 [.int .i64 0, .int .i64 0, .int .i64 0, .slice (some ⟨g8, 0, none⟩) 10001 10001] 27 :: .blk g8 (dvs (zeroD 10001)) 51 :: .blk g7 [.int .i64 1, .int .i64 0, .int .i64 0, .slice (some ⟨g6, 0, none⟩) 10001 10001] 27 :: .blk g6 (dvs (zeroD 10001)) 51 :: .blk g5 (nvs (zeroN 1001)) 27 :: .blk g4 [.int .i64 1, .int .i64 0, .int .i64 0, .slice none 0 0, .int .i64 1, .int .i64 1, .int .i64 0, .slice none 0 0] 27 :: .blk g3 [.int .i64 0, .int .i64 0, .int .i64 0, .slice none 0 0, .int .i64 9007199254740992, .int .i64 0, .int .i64 0, .slice none 0 0, .int .i64 1, .int .i64 (-1), .int .i64 0, .slice none 0 0, .int .i64 1, .int .i64 0, .int .i64 0, .slice (some ⟨g1, 0, none⟩) 1 1, .int .i64 1, .int .i64 0, .int .i64 0, .slice (some ⟨g2, 0, none⟩) 1 1] 27 :: .blk g2 [.int .i64 6, .string (str []), .string (str []), .string (str []), .string (str []), .bool false, .slice none 0 0] 51 :: .blk g1 [.int .i64 0, .string (str []), .string (str []), .string (str []), .string (str []), .bool false, .slice none 0 0] 51 :: L) w := s
  refine ⟨_, rfl, ?_⟩; clear ha; intro a ha
  refine st_val (.bool true) ha (by kernel_rfl) (by kernel_rfl) ?_
  clear ha; intro a ha
  refine st_val (.bool true) ha (by kernel_rfl) (by kernel_rfl) ?_
  clear ha; intro a ha
  refine st_val (.slice (some ⟨g17, 0, none⟩) 1 1) ha (by kernel_rfl) (by kernel_rfl) ?_
  clear ha; intro a ha
  have hk13 : Knows (.blk g19 [.int .i64 1, .int .i64 0, .int .i64 0, .slice (some ⟨g18, 0, none⟩) 1 1] 27 :: .blk g18 [.int .i64 1, .string (str [97]), .string (str [49]), .string (str []), .string (str []), .bool false, .slice none 0 0] 51 :: .blk g17 [.int .i64 1, .int .i64 0, .int .i64 0, .slice (some ⟨g16, 0, none⟩) 2 2] 27 :: .blk g16 [.int .i64 3, .string (str [97]), .string (str [49]), .string (str []), .string (str []), .bool false, .slice none 0 0, .int .i64 1, .string (str [97]), .string (str [49]), .string (str []), .string (str []), .bool false, .slice none 0 0] 51 :: .blk g15 [.int .i64 1, .int .i64 0, .int .i64 0, .slice (some ⟨g14, 0, none⟩) 6 6] 27 :: .blk g14 [.int .i64 1, .string (str [97]), .string (str []), .string (str []), .string (str []), .bool false, .slice none 0 0, .int .i64 3, .string (str [97]), .string (str []), .string (str []), .string (str []), .bool false, .slice none 0 0, .int .i64 1, .string (str [97]), .string (str []), .string (str []), .string (str []), .bool true, .slice none 0 0, .int .i64 5, .string (str []), .string (str []), .string (str [97]), .string (str [97, 0]), .bool false, .slice none 0 0, .int .i64 1, .string (str [97]), .string (str []), .string (str []), .string (str []), .bool false, .slice none 0 0, .int .i64 2, .string (str []), .string (str []), .string (str []), .string (str [122]), .bool false, .slice none 0 0] 51 :: .blk g13 [.string (str []), .string (str [118]), .string (str [98]), .string (str [])] 54 :: Own 54 2 B4 2 c4 (rws [⟨[], [118]⟩, ⟨[98], []⟩]) :: .blk g12 [.int .i64 9007199254740991, .int .i64 3, .int .i64 0, .slice (some ⟨g10, 0, none⟩) 3 3, .int .i64 2, .int .i64 4, .int .i64 0, .slice (some ⟨g11, 0, none⟩) 2 2] 27 :: .blk g11 [.int .i64 5, .string (str []), .string (str []), .string (str [98]), .string (str [97]), .bool false, .slice none 0 0, .int .i64 4, .string (str [110, 111, 110, 101]), .string (str []), .string (str []), .string (str []), .bool false, .slice none 0 0] 51 :: .blk g10 [.int .i64 3, .string (str []), .string (str [118]), .string (str []), .string (str []), .bool false, .slice none 0 0, .int .i64 3, .string (str [98]), .string (str []), .string (str []), .string (str []), .bool false, .slice none 0 0, .int .i64 5, .string (str []), .string (str []), .string (str [97]), .string (str [98]), .bool false, .slice none 0 0] 51 :: Own 3 1 B (([] : List Dn).length) c (nats o) :: .blk g9 [.int .i64 0, .int .i64 0, .int .i64 0, .slice (some ⟨g8, 0, none⟩) 10001 10001] 27 :: .blk g8 (dvs (zeroD 10001)) 51 :: .blk g7 [.int .i64 1, .int .i64 0, .int .i64 0, .slice (some ⟨g6, 0, none⟩) 10001 10001] 27 :: .blk g6 (dvs (zeroD 10001)) 51 :: .blk g5 (nvs (zeroN 1001)) 27 :: .blk g4 [.int .i64 1, .int .i64 0, .int .i64 0, .slice none 0 0, .int .i64 1, .int .i64 1, .int .i64 0, .slice none 0 0] 27 :: .blk g3 [.int .i64 0, .int .i64 0, .int .i64 0, .slice none 0 0, .int .i64 9007199254740992, .int .i64 0, .int .i64 0, .slice none 0 0, .int .i64 1, .int .i64 (-1), .int .i64 0, .slice none 0 0, .int .i64 1, .int .i64 0, .int .i64 0, .slice (some ⟨g1, 0, none⟩) 1 1, .int .i64 1, .int .i64 0, .int .i64 0, .slice (some ⟨g2, 0, none⟩) 1 1] 27 :: .blk g2 [.int .i64 6, .string (str []), .string (str []), .string (str []), .string (str []), .bool false, .slice none 0 0] 51 :: .blk g1 [.int .i64 0, .string (str []), .string (str []), .string (str []), .string (str []), .bool false, .slice none 0 0] 51 :: L) (DonesIn (some ⟨g17, 0, none⟩) ([⟨1, 0, 0, (some ⟨g16, 0, none⟩), 2, [⟨⟨3, [97], [49], [], [], false, []⟩, none, 0⟩, ⟨⟨1, [97], [49], [], [], false, []⟩, none, 0⟩]⟩] : List Dn)) := fun w s => by
    refine ⟨Knows.reads_blk (j := 2) (k := 4) (n := 1) rfl rfl w s, fun d hd => ?_⟩
    simp only [List.mem_cons, List.not_mem_nil, or_false] at hd
    rcases hd with rfl
    · exact ⟨Knows.reads_blk (j := 3) (k := 7) (n := 2) rfl rfl w s, fun x hx => by simp only [List.mem_cons, List.not_mem_nil, or_false] at hx; rcases hx with rfl | rfl <;> first | exact ⟨rfl, by simp, by simp⟩⟩
  have hk13b : Bn ([⟨1, 0, 0, (some ⟨g16, 0, none⟩), 2, [⟨⟨3, [97], [49], [], [], false, []⟩, none, 0⟩, ⟨⟨1, [97], [49], [], [], false, []⟩, none, 0⟩]⟩] : List Dn) := by
    refine ⟨by simp, fun d hd => ?_⟩
    simp only [List.mem_cons, List.not_mem_nil, or_false] at hd
    rcases hd with rfl
    · exact ⟨by simp, fun x hx => by simp only [List.mem_cons, List.not_mem_nil, or_false] at hx; rcases hx with rfl | rfl <;> exact ⟨by simp, by simp⟩⟩
  have hk13t : tns ([⟨1, 0, 0, (some ⟨g16, 0, none⟩), 2, [⟨⟨3, [97], [49], [], [], false, []⟩, none, 0⟩, ⟨⟨1, [97], [49], [], [], false, []⟩, none, 0⟩]⟩] : List Dn) = ([⟨1, 0, 0, [⟨3, [97], [49], [], [], false, []⟩, ⟨1, [97], [49], [], [], false, []⟩]⟩] : List Tn) := rfl
  refine st_call ha (by kernel_rfl) (by kernel_rfl) (finds_true W hW _ w (some ⟨g17, 0, none⟩) 1 ([⟨1, 0, 0, (some ⟨g16, 0, none⟩), 2, [⟨⟨3, [97], [49], [], [], false, []⟩, none, 0⟩, ⟨⟨1, [97], [49], [], [], false, []⟩, none, 0⟩]⟩] : List Dn) hk13 hk13b 0 1 true (by rw [hk13t]; decide) (fun o ho => by rw [hk13t] at *; rw [show o = [0] from ho.unique (by decide)]; decide) s) ?_
  rintro _ w ⟨rfl, s⟩
  replace s : St W (.blk g19 [.int .i64 1, .int .i64 0, .int .i64 0, .slice (some ⟨g18, 0, none⟩) 1 1] 27 :: .blk g18 [.int .i64 1, .string (str [97]), .string (str [49]), .string (str []), .string (str []), .bool false, .slice none 0 0] 51 :: .blk g17 [.int .i64 1, .int .i64 0, .int .i64 0, .slice (some ⟨g16, 0, none⟩) 2 2] 27 :: .blk g16 [.int .i64 3, .string (str [97]), .string (str [49]), .string (str []), .string (str []), .bool false, .slice none 0 0, .int .i64 1, .string (str [97]), .string (str [49]), .string (str []), .string (str []), .bool false, .slice none 0 0] 51 :: .blk g15 [.int .i64 1, .int .i64 0, .int .i64 0, .slice (some ⟨g14, 0, none⟩) 6 6] 27 :: .blk g14 [.int .i64 1, .string (str [97]), .string (str []), .string (str []), .string (str []), .bool false, .slice none 0 0, .int .i64 3, .string (str [97]), .string (str []), .string (str []), .string (str []), .bool false, .slice none 0 0, .int .i64 1, .string (str [97]), .string (str []), .string (str []), .string (str []), .bool true, .slice none 0 0, .int .i64 5, .string (str []), .string (str []), .string (str [97]), .string (str [97, 0]), .bool false, .slice none 0 0, .int .i64 1, .string (str [97]), .string (str []), .string (str []), .string (str []), .bool false, .slice none 0 0, .int .i64 2, .string (str []), .string (str []), .string (str []), .string (str [122]), .bool false, .slice none 0 0] 51 :: .blk g13 [.string (str []), .string (str [118]), .string (str [98]), .string (str [])] 54 :: Own 54 2 B4 2 c4 (rws [⟨[], [118]⟩, ⟨[98], []⟩]) :: .blk g12 [.int .i64 9007199254740991, .int .i64 3, .int .i64 0, .slice (some ⟨g10, 0, none⟩) 3 3, .int .i64 2, .int .i64 4, .int .i64 0, .slice (some ⟨g11, 0, none⟩) 2 2] 27 :: .blk g11 [.int .i64 5, .string (str []), .string (str []), .string (str [98]), .string (str [97]), .bool false, .slice none 0 0, .int .i64 4, .string (str [110, 111, 110, 101]), .string (str []), .string (str []), .string (str []), .bool false, .slice none 0 0] 51 :: .blk g10 [.int .i64 3, .string (str []), .string (str [118]), .string (str []), .string (str []), .bool false, .slice none 0 0, .int .i64 3, .string (str [98]), .string (str []), .string (str []), .string (str []), .bool false, .slice none 0 0, .int .i64 5, .string (str []), .string (str []), .string (str [97]), .string (str [98]), .bool false, .slice none 0 0] 51 :: Own 3 1 B (([] : List Dn).length) c (nats o) :: .blk g9 [.int .i64 0, .int .i64 0, .int .i64 0, .slice (some ⟨g8, 0, none⟩) 10001 10001] 27 :: .blk g8 (dvs (zeroD 10001)) 51 :: .blk g7 [.int .i64 1, .int .i64 0, .int .i64 0, .slice (some ⟨g6, 0, none⟩) 10001 10001] 27 :: .blk g6 (dvs (zeroD 10001)) 51 :: .blk g5 (nvs (zeroN 1001)) 27 :: .blk g4 [.int .i64 1, .int .i64 0, .int .i64 0, .slice none 0 0, .int .i64 1, .int .i64 1, .int .i64 0, .slice none 0 0] 27 :: .blk g3 [.int .i64 0, .int .i64 0, .int .i64 0, .slice none 0 0, .int .i64 9007199254740992, .int .i64 0, .int .i64 0, .slice none 0 0, .int .i64 1, .int .i64 (-1), .int .i64 0, .slice none 0 0, .int .i64 1, .int .i64 0, .int .i64 0, .slice (some ⟨g1, 0, none⟩) 1 1, .int .i64 1, .int .i64 0, .int .i64 0, .slice (some ⟨g2, 0, none⟩) 1 1] 27 :: .blk g2 [.int .i64 6, .string (str []), .string (str []), .string (str []), .string (str []), .bool false, .slice none 0 0] 51 :: .blk g1 [.int .i64 0, .string (str []), .string (str []), .string (str []), .string (str []), .bool false, .slice none 0 0] 51 :: L) w := s
  refine ⟨_, rfl, ?_⟩; clear ha; intro a ha
  refine st_val (.bool true) ha (by kernel_rfl) (by kernel_rfl) ?_
  clear ha; intro a ha
  refine st_val (.bool true) ha (by kernel_rfl) (by kernel_rfl) ?_
  clear ha; intro a ha
  refine st_val (.slice (some ⟨g19, 0, none⟩) 1 1) ha (by kernel_rfl) (by kernel_rfl) ?_
  clear ha; intro a ha
  have hk14 : Knows (.blk g19 [.int .i64 1, .int .i64 0, .int .i64 0, .slice (some ⟨g18, 0, none⟩) 1 1] 27 :: .blk g18 [.int .i64 1, .string (str [97]), .string (str [49]), .string (str []), .string (str []), .bool false, .slice none 0 0] 51 :: .blk g17 [.int .i64 1, .int .i64 0, .int .i64 0, .slice (some ⟨g16, 0, none⟩) 2 2] 27 :: .blk g16 [.int .i64 3, .string (str [97]), .string (str [49]), .string (str []), .string (str []), .bool false, .slice none 0 0, .int .i64 1, .string (str [97]), .string (str [49]), .string (str []), .string (str []), .bool false, .slice none 0 0] 51 :: .blk g15 [.int .i64 1, .int .i64 0, .int .i64 0, .slice (some ⟨g14, 0, none⟩) 6 6] 27 :: .blk g14 [.int .i64 1, .string (str [97]), .string (str []), .string (str []), .string (str []), .bool false, .slice none 0 0, .int .i64 3, .string (str [97]), .string (str []), .string (str []), .string (str []), .bool false, .slice none 0 0, .int .i64 1, .string (str [97]), .string (str []), .string (str []), .string (str []), .bool true, .slice none 0 0, .int .i64 5, .string (str []), .string (str []), .string (str [97]), .string (str [97, 0]), .bool false, .slice none 0 0, .int .i64 1, .string (str [97]), .string (str []), .string (str []), .string (str []), .bool false, .slice none 0 0, .int .i64 2, .string (str []), .string (str []), .string (str []), .string (str [122]), .bool false, .slice none 0 0] 51 :: .blk g13 [.string (str []), .string (str [118]), .string (str [98]), .string (str [])] 54 :: Own 54 2 B4 2 c4 (rws [⟨[], [118]⟩, ⟨[98], []⟩]) :: .blk g12 [.int .i64 9007199254740991, .int .i64 3, .int .i64 0, .slice (some ⟨g10, 0, none⟩) 3 3, .int .i64 2, .int .i64 4, .int .i64 0, .slice (some ⟨g11, 0, none⟩) 2 2] 27 :: .blk g11 [.int .i64 5, .string (str []), .string (str []), .string (str [98]), .string (str [97]), .bool false, .slice none 0 0, .int .i64 4, .string (str [110, 111, 110, 101]), .string (str []), .string (str []), .string (str []), .bool false, .slice none 0 0] 51 :: .blk g10 [.int .i64 3, .string (str []), .string (str [118]), .string (str []), .string (str []), .bool false, .slice none 0 0, .int .i64 3, .string (str [98]), .string (str []), .string (str []), .string (str []), .bool false, .slice none 0 0, .int .i64 5, .string (str []), .string (str []), .string (str [97]), .string (str [98]), .bool false, .slice none 0 0] 51 :: Own 3 1 B (([] : List Dn).length) c (nats o) :: .blk g9 [.int .i64 0, .int .i64 0, .int .i64 0, .slice (some ⟨g8, 0, none⟩) 10001 10001] 27 :: .blk g8 (dvs (zeroD 10001)) 51 :: .blk g7 [.int .i64 1, .int .i64 0, .int .i64 0, .slice (some ⟨g6, 0, none⟩) 10001 10001] 27 :: .blk g6 (dvs (zeroD 10001)) 51 :: .blk g5 (nvs (zeroN 1001)) 27 :: .blk g4 [.int .i64 1, .int .i64 0, .int .i64 0, .slice none 0 0, .int .i64 1, .int .i64 1, .int .i64 0, .slice none 0 0] 27 :: .blk g3 [.int .i64 0, .int .i64 0, .int .i64 0, .slice none 0 0, .int .i64 9007199254740992, .int .i64 0, .int .i64 0, .slice none 0 0, .int .i64 1, .int .i64 (-1), .int .i64 0, .slice none 0 0, .int .i64 1, .int .i64 0, .int .i64 0, .slice (some ⟨g1, 0, none⟩) 1 1, .int .i64 1, .int .i64 0, .int .i64 0, .slice (some ⟨g2, 0, none⟩) 1 1] 27 :: .blk g2 [.int .i64 6, .string (str []), .string (str []), .string (str []), .string (str []), .bool false, .slice none 0 0] 51 :: .blk g1 [.int .i64 0, .string (str []), .string (str []), .string (str []), .string (str []), .bool false, .slice none 0 0] 51 :: L) (DonesIn (some ⟨g19, 0, none⟩) ([⟨1, 0, 0, (some ⟨g18, 0, none⟩), 1, [⟨⟨1, [97], [49], [], [], false, []⟩, none, 0⟩]⟩] : List Dn)) := fun w s => by
    refine ⟨Knows.reads_blk (j := 0) (k := 4) (n := 1) rfl rfl w s, fun d hd => ?_⟩
    simp only [List.mem_cons, List.not_mem_nil, or_false] at hd
    rcases hd with rfl
    · exact ⟨Knows.reads_blk (j := 1) (k := 7) (n := 1) rfl rfl w s, fun x hx => by simp only [List.mem_cons, List.not_mem_nil, or_false] at hx; rcases hx with rfl <;> first | exact ⟨rfl, by simp, by simp⟩⟩
  have hk14b : Bn ([⟨1, 0, 0, (some ⟨g18, 0, none⟩), 1, [⟨⟨1, [97], [49], [], [], false, []⟩, none, 0⟩]⟩] : List Dn) := by
    refine ⟨by simp, fun d hd => ?_⟩
    simp only [List.mem_cons, List.not_mem_nil, or_false] at hd
    rcases hd with rfl
    · exact ⟨by simp, fun x hx => by simp only [List.mem_cons, List.not_mem_nil, or_false] at hx; rcases hx with rfl <;> exact ⟨by simp, by simp⟩⟩
  have hk14t : tns ([⟨1, 0, 0, (some ⟨g18, 0, none⟩), 1, [⟨⟨1, [97], [49], [], [], false, []⟩, none, 0⟩]⟩] : List Dn) = ([⟨1, 0, 0, [⟨1, [97], [49], [], [], false, []⟩]⟩] : List Tn) := rfl
  refine st_call ha (by kernel_rfl) (by kernel_rfl) (finds_true W hW _ w (some ⟨g19, 0, none⟩) 1 ([⟨1, 0, 0, (some ⟨g18, 0, none⟩), 1, [⟨⟨1, [97], [49], [], [], false, []⟩, none, 0⟩]⟩] : List Dn) hk14 hk14b 0 0 true (by rw [hk14t]; decide) (fun o ho => by rw [hk14t] at *; rw [show o = [0] from ho.unique (by decide)]; decide) s) ?_
  rintro _ w ⟨rfl, s⟩
  replace s : St W (.blk g19 [.int .i64 1, .int .i64 0, .int .i64 0, .slice (some ⟨g18, 0, none⟩) 1 1] 27 :: .blk g18 [.int .i64 1, .string (str [97]), .string (str [49]), .string (str []), .string (str []), .bool false, .slice none 0 0] 51 :: .blk g17 [.int .i64 1, .int .i64 0, .int .i64 0, .slice (some ⟨g16, 0, none⟩) 2 2] 27 :: .blk g16 [.int .i64 3, .string (str [97]), .string (str [49]), .string (str []), .string (str []), .bool false, .slice none 0 0, .int .i64 1, .string (str [97]), .string (str [49]), .string (str []), .string (str []), .bool false, .slice none 0 0] 51 :: .blk g15 [.int .i64 1, .int .i64 0, .int .i64 0, .slice (some ⟨g14, 0, none⟩) 6 6] 27 :: .blk g14 [.int .i64 1, .string (str [97]), .string (str []), .string (str []), .string (str []), .bool false, .slice none 0 0, .int .i64 3, .string (str [97]), .string (str []), .string (str []), .string (str []), .bool false, .slice none 0 0, .int .i64 1, .string (str [97]), .string (str []), .string (str []), .string (str []), .bool true, .slice none 0 0, .int .i64 5, .string (str []), .string (str []), .string (str [97]), .string (str [97, 0]), .bool false, .slice none 0 0, .int .i64 1, .string (str [97]), .string (str []), .string (str []), .string (str []), .bool false, .slice none 0 0, .int .i64 2, .string (str []), .string (str []), .string (str []), .string (str [122]), .bool false, .slice none 0 0] 51 :: .blk g13 [.string (str []), .string (str [118]), .string (str [98]), .string (str [])] 54 :: Own 54 2 B4 2 c4 (rws [⟨[], [118]⟩, ⟨[98], []⟩]) :: .blk g12 [.int .i64 9007199254740991, .int .i64 3, .int .i64 0, .slice (some ⟨g10, 0, none⟩) 3 3, .int .i64 2, .int .i64 4, .int .i64 0, .slice (some ⟨g11, 0, none⟩) 2 2] 27 :: .blk g11 [.int .i64 5, .string (str []), .string (str []), .string (str [98]), .string (str [97]), .bool false, .slice none 0 0, .int .i64 4, .string (str [110, 111, 110, 101]), .string (str []), .string (str []), .string (str []), .bool false, .slice none 0 0] 51 :: .blk g10 [.int .i64 3, .string (str []), .string (str [118]), .string (str []), .string (str []), .bool false, .slice none 0 0, .int .i64 3, .string (str [98]), .string (str []), .string (str []), .string (str []), .bool false, .slice none 0 0, .int .i64 5, .string (str []), .string (str []), .string (str [97]), .string (str [98]), .bool false, .slice none 0 0] 51 :: Own 3 1 B (([] : List Dn).length) c (nats o) :: .blk g9 [.int .i64 0, .int .i64 0, .int .i64 0, .slice (some ⟨g8, 0, none⟩) 10001 10001] 27 :: .blk g8 (dvs (zeroD 10001)) 51 :: .blk g7 [.int .i64 1, .int .i64 0, .int .i64 0, .slice (some ⟨g6, 0, none⟩) 10001 10001] 27 :: .blk g6 (dvs (zeroD 10001)) 51 :: .blk g5 (nvs (zeroN 1001)) 27 :: .blk g4 [.int .i64 1, .int .i64 0, .int .i64 0, .slice none 0 0, .int .i64 1, .int .i64 1, .int .i64 0, .slice none 0 0] 27 :: .blk g3 [.int .i64 0, .int .i64 0, .int .i64 0, .slice none 0 0, .int .i64 9007199254740992, .int .i64 0, .int .i64 0, .slice none 0 0, .int .i64 1, .int .i64 (-1), .int .i64 0, .slice none 0 0, .int .i64 1, .int .i64 0, .int .i64 0, .slice (some ⟨g1, 0, none⟩) 1 1, .int .i64 1, .int .i64 0, .int .i64 0, .slice (some ⟨g2, 0, none⟩) 1 1] 27 :: .blk g2 [.int .i64 6, .string (str []), .string (str []), .string (str []), .string (str []), .bool false, .slice none 0 0] 51 :: .blk g1 [.int .i64 0, .string (str []), .string (str []), .string (str []), .string (str []), .bool false, .slice none 0 0] 51 :: L) w := s
  refine ⟨_, rfl, ?_⟩; clear ha; intro a ha
  refine st_val (.bool true) ha (by kernel_rfl) (by kernel_rfl) ?_
  clear ha; intro a ha
  refine st_val (.bool true) ha (by kernel_rfl) (by kernel_rfl) ?_
  clear ha; intro a ha
  refine wpList_nil ?_
  refine then_normal ?_
  refine wp_ret ?_
  refine ret_with (v := .bool true) ha (results_1 rfl ha (res_tmp (by kernel_rfl) (by kernel_rfl))) ?_
  replace s := s.tail.tail.tail.tail.tail.tail.tail.tail.tail.tail.tail.tail.tail.tail.tail.tail.tail.tail.tail.tail.tail
  replace s : St W (L) w := s
  exact ⟨rfl, s⟩

end Go.Proofs.Ytidfniglnmfphaa.B
