import Derived.Test.YtagbmfdheppmoaaGreatDoorM0
/-
  Calls of the cells' and the stamps' functions on the versions of two keys, run by the machine.
-/
namespace Go.Proofs.YtagbmfdheppmoaaGreatDoor.Vm
set_option linter.unusedVariables false
set_option linter.unusedSimpArgs false
set_option linter.unusedSectionVars false
open Go.RowKit Go.Proofs.YtagbmfdheppmoaaGreatDoor.Sep
noncomputable section
def two (i j : Int) (n : Nat) : Int := match n with | 0 => i | _ => j
theorem two0 (i j : Int) : two i j 0 = i := rfl
theorem two1 (i j : Int) : two i j 1 = j := rfl
/-- A version's key; its text; a stamp's text. -/
def vkey (c : UInt8) (i : Int) : List UInt8 := [118, c, 0, 0, 0, 255, 255, 255, 255, UInt8.ofNat (256 + -1 * i).toNat, 15, 255, 255]
def vkey0 (c : UInt8) : List UInt8 := [118, c, 0, 0, 1, 0, 0, 0, 0, 0, 15, 255, 255]
def vtx (b : Bool) : List UInt8 := match b with | true => [1, 1, 0] | false => [0]
def stx (i : Int) : List UInt8 := [1, UInt8.ofNat (0 + 1 * i).toNat, 0]
abbrev stv (i : Int) : Value := .agg #[.int .i64 i, .int .i64 0]
abbrev txnv (i : Int) : List Value := [.int .i64 7, .int .i64 0, .int .i64 1, .string (Sep.str [98]), .int .i64 i, .int .i64 0, .int .i64 i, .int .i64 0, .int .i64 i, .int .i64 0, .int .i64 i, .int .i64 0]
theorem p_vk_a_r (i : Int) (h : 1 ≤ i ∧ i ≤ 131) : runK (one 1 131) (fun _ => i) (hold1 h) 34 [.str [97], .agg [.isym .i64 ⟨0, [1]⟩, .int .i64 (0)]] = some (.tup [.ystr [⟨118, []⟩, ⟨97, []⟩, ⟨0, []⟩, ⟨0, []⟩, ⟨0, []⟩, ⟨255, []⟩, ⟨255, []⟩, ⟨255, []⟩, ⟨255, []⟩, ⟨256, [-1]⟩, ⟨15, []⟩, ⟨255, []⟩, ⟨255, []⟩], .int .i64 (0)]) := by kernel_rfl
theorem p_vk_a (i : Int) (h : 1 ≤ i ∧ i ≤ 131) : Pure 34 [.string (Sep.str [97]), .agg #[.int .i64 i, .int .i64 0]] (.tuple #[.string (Sep.str (vkey 97 i)), .int .i64 0]) := by
  letI := VK (one 1 131) (fun _ => i) (hold1 h)
  exact pureK (p_vk_a_r i h) (.cons (VK.str _ _) (.cons (DL.agg (.cons (VK.int _ _ _ _ (by rw [VK.eval1]; (try rw [two0]); (try rw [two1]); omega)) (.cons (.int ..) .nil))) .nil)) (fun _ => (DL.tup (.cons (VK.txt _ _ _ (by simp only [List.map_cons, List.map_nil, VK.byte0, VK.byte1]; rfl)) (.cons (.int ..) .nil))))
theorem p_cvk_a_r (i : Int) (h : 1 ≤ i ∧ i ≤ 131) : runK (one 1 131) (fun _ => i) (hold1 h) 144 [.str [97], .agg [.isym .i64 ⟨0, [1]⟩, .int .i64 (0)]] = some (.tup [.ystr [⟨118, []⟩, ⟨97, []⟩, ⟨0, []⟩, ⟨0, []⟩, ⟨0, []⟩, ⟨255, []⟩, ⟨255, []⟩, ⟨255, []⟩, ⟨255, []⟩, ⟨256, [-1]⟩, ⟨15, []⟩, ⟨255, []⟩, ⟨255, []⟩], .int .i64 (0)]) := by kernel_rfl
theorem p_cvk_a (i : Int) (h : 1 ≤ i ∧ i ≤ 131) : Pure 144 [.string (Sep.str [97]), .agg #[.int .i64 i, .int .i64 0]] (.tuple #[.string (Sep.str (vkey 97 i)), .int .i64 0]) := by
  letI := VK (one 1 131) (fun _ => i) (hold1 h)
  exact pureK (p_cvk_a_r i h) (.cons (VK.str _ _) (.cons (DL.agg (.cons (VK.int _ _ _ _ (by rw [VK.eval1]; (try rw [two0]); (try rw [two1]); omega)) (.cons (.int ..) .nil))) .nil)) (fun _ => (DL.tup (.cons (VK.txt _ _ _ (by simp only [List.map_cons, List.map_nil, VK.byte0, VK.byte1]; rfl)) (.cons (.int ..) .nil))))
theorem p_cvk0_a_r : runK [] (fun _ => 0) (hold_nil (fun _ => 0)) 144 [.str [97], .agg [.int .i64 (0), .int .i64 (0)]] = some (.tup [.str [118, 97, 0, 0, 1, 0, 0, 0, 0, 0, 15, 255, 255], .int .i64 (0)]) := by kernel_rfl
theorem p_cvk0_a : Pure 144 [.string (Sep.str [97]), .agg #[.int .i64 0, .int .i64 0]] (.tuple #[.string (Sep.str (vkey0 97)), .int .i64 0]) := by
  letI := VK [] (fun _ => 0) (hold_nil (fun _ => 0))
  exact pureK (p_cvk0_a_r ) (.cons (VK.str _ _) (.cons (DL.agg (.cons (.int ..) (.cons (.int ..) .nil))) .nil)) (fun _ => (DL.tup (.cons (VK.str _ _) (.cons (.int ..) .nil))))
theorem p_rv_a_r (i : Int) (h : 1 ≤ i ∧ i ≤ 131) : runK (one 1 131) (fun _ => i) (hold1 h) 132 [.ystr [⟨118, []⟩, ⟨97, []⟩, ⟨0, []⟩, ⟨0, []⟩, ⟨0, []⟩, ⟨255, []⟩, ⟨255, []⟩, ⟨255, []⟩, ⟨255, []⟩, ⟨256, [-1]⟩, ⟨15, []⟩, ⟨255, []⟩, ⟨255, []⟩]] = some (.tup [.str [97], .agg [.isym .i64 ⟨0, [1]⟩, .int .i64 (0)], .int .i64 (0)]) := by kernel_rfl
theorem p_rv_a (i : Int) (h : 1 ≤ i ∧ i ≤ 131) : Pure 132 [.string (Sep.str (vkey 97 i))] (.tuple #[.string (Sep.str [97]), .agg #[.int .i64 i, .int .i64 0], .int .i64 0]) := by
  letI := VK (one 1 131) (fun _ => i) (hold1 h)
  exact pureK (p_rv_a_r i h) (.cons (VK.txt _ _ _ (by simp only [List.map_cons, List.map_nil, VK.byte0, VK.byte1]; rfl)) .nil) (fun _ => (DL.tup (.cons (VK.str _ _) (.cons (DL.agg (.cons (VK.int _ _ _ _ (by rw [VK.eval1]; (try rw [two0]); (try rw [two1]); omega)) (.cons (.int ..) .nil))) (.cons (.int ..) .nil)))))
theorem p_ik_a_r : runK [] (fun _ => 0) (hold_nil (fun _ => 0)) 142 [.str [97]] = some (.tup [.str [105, 97, 0, 0], .int .i64 (0)]) := by kernel_rfl
theorem p_ik_a : Pure 142 [.string (Sep.str [97])] (.tuple #[.string (Sep.str [105, 97, 0, 0]), .int .i64 0]) := by
  letI := VK [] (fun _ => 0) (hold_nil (fun _ => 0))
  exact pureK (p_ik_a_r ) (.cons (VK.str _ _) .nil) (fun _ => (DL.tup (.cons (VK.str _ _) (.cons (.int ..) .nil))))
theorem p_ok_a_r : runK [] (fun _ => 0) (hold_nil (fun _ => 0)) 40 [.str [97]] = some (.int .i64 (0)) := by kernel_rfl
theorem p_ok_a : Pure 40 [.string (Sep.str [97])] (.int .i64 0) := by
  letI := VK [] (fun _ => 0) (hold_nil (fun _ => 0))
  exact pureK (p_ok_a_r ) (.cons (VK.str _ _) .nil) (fun _ => (.int ..))
theorem p_vk_b_r (i : Int) (h : 1 ≤ i ∧ i ≤ 131) : runK (one 1 131) (fun _ => i) (hold1 h) 34 [.str [98], .agg [.isym .i64 ⟨0, [1]⟩, .int .i64 (0)]] = some (.tup [.ystr [⟨118, []⟩, ⟨98, []⟩, ⟨0, []⟩, ⟨0, []⟩, ⟨0, []⟩, ⟨255, []⟩, ⟨255, []⟩, ⟨255, []⟩, ⟨255, []⟩, ⟨256, [-1]⟩, ⟨15, []⟩, ⟨255, []⟩, ⟨255, []⟩], .int .i64 (0)]) := by kernel_rfl
theorem p_vk_b (i : Int) (h : 1 ≤ i ∧ i ≤ 131) : Pure 34 [.string (Sep.str [98]), .agg #[.int .i64 i, .int .i64 0]] (.tuple #[.string (Sep.str (vkey 98 i)), .int .i64 0]) := by
  letI := VK (one 1 131) (fun _ => i) (hold1 h)
  exact pureK (p_vk_b_r i h) (.cons (VK.str _ _) (.cons (DL.agg (.cons (VK.int _ _ _ _ (by rw [VK.eval1]; (try rw [two0]); (try rw [two1]); omega)) (.cons (.int ..) .nil))) .nil)) (fun _ => (DL.tup (.cons (VK.txt _ _ _ (by simp only [List.map_cons, List.map_nil, VK.byte0, VK.byte1]; rfl)) (.cons (.int ..) .nil))))
theorem p_cvk_b_r (i : Int) (h : 1 ≤ i ∧ i ≤ 131) : runK (one 1 131) (fun _ => i) (hold1 h) 144 [.str [98], .agg [.isym .i64 ⟨0, [1]⟩, .int .i64 (0)]] = some (.tup [.ystr [⟨118, []⟩, ⟨98, []⟩, ⟨0, []⟩, ⟨0, []⟩, ⟨0, []⟩, ⟨255, []⟩, ⟨255, []⟩, ⟨255, []⟩, ⟨255, []⟩, ⟨256, [-1]⟩, ⟨15, []⟩, ⟨255, []⟩, ⟨255, []⟩], .int .i64 (0)]) := by kernel_rfl
theorem p_cvk_b (i : Int) (h : 1 ≤ i ∧ i ≤ 131) : Pure 144 [.string (Sep.str [98]), .agg #[.int .i64 i, .int .i64 0]] (.tuple #[.string (Sep.str (vkey 98 i)), .int .i64 0]) := by
  letI := VK (one 1 131) (fun _ => i) (hold1 h)
  exact pureK (p_cvk_b_r i h) (.cons (VK.str _ _) (.cons (DL.agg (.cons (VK.int _ _ _ _ (by rw [VK.eval1]; (try rw [two0]); (try rw [two1]); omega)) (.cons (.int ..) .nil))) .nil)) (fun _ => (DL.tup (.cons (VK.txt _ _ _ (by simp only [List.map_cons, List.map_nil, VK.byte0, VK.byte1]; rfl)) (.cons (.int ..) .nil))))
theorem p_cvk0_b_r : runK [] (fun _ => 0) (hold_nil (fun _ => 0)) 144 [.str [98], .agg [.int .i64 (0), .int .i64 (0)]] = some (.tup [.str [118, 98, 0, 0, 1, 0, 0, 0, 0, 0, 15, 255, 255], .int .i64 (0)]) := by kernel_rfl
theorem p_cvk0_b : Pure 144 [.string (Sep.str [98]), .agg #[.int .i64 0, .int .i64 0]] (.tuple #[.string (Sep.str (vkey0 98)), .int .i64 0]) := by
  letI := VK [] (fun _ => 0) (hold_nil (fun _ => 0))
  exact pureK (p_cvk0_b_r ) (.cons (VK.str _ _) (.cons (DL.agg (.cons (.int ..) (.cons (.int ..) .nil))) .nil)) (fun _ => (DL.tup (.cons (VK.str _ _) (.cons (.int ..) .nil))))
theorem p_rv_b_r (i : Int) (h : 1 ≤ i ∧ i ≤ 131) : runK (one 1 131) (fun _ => i) (hold1 h) 132 [.ystr [⟨118, []⟩, ⟨98, []⟩, ⟨0, []⟩, ⟨0, []⟩, ⟨0, []⟩, ⟨255, []⟩, ⟨255, []⟩, ⟨255, []⟩, ⟨255, []⟩, ⟨256, [-1]⟩, ⟨15, []⟩, ⟨255, []⟩, ⟨255, []⟩]] = some (.tup [.str [98], .agg [.isym .i64 ⟨0, [1]⟩, .int .i64 (0)], .int .i64 (0)]) := by kernel_rfl
theorem p_rv_b (i : Int) (h : 1 ≤ i ∧ i ≤ 131) : Pure 132 [.string (Sep.str (vkey 98 i))] (.tuple #[.string (Sep.str [98]), .agg #[.int .i64 i, .int .i64 0], .int .i64 0]) := by
  letI := VK (one 1 131) (fun _ => i) (hold1 h)
  exact pureK (p_rv_b_r i h) (.cons (VK.txt _ _ _ (by simp only [List.map_cons, List.map_nil, VK.byte0, VK.byte1]; rfl)) .nil) (fun _ => (DL.tup (.cons (VK.str _ _) (.cons (DL.agg (.cons (VK.int _ _ _ _ (by rw [VK.eval1]; (try rw [two0]); (try rw [two1]); omega)) (.cons (.int ..) .nil))) (.cons (.int ..) .nil)))))
theorem p_ik_b_r : runK [] (fun _ => 0) (hold_nil (fun _ => 0)) 142 [.str [98]] = some (.tup [.str [105, 98, 0, 0], .int .i64 (0)]) := by kernel_rfl
theorem p_ik_b : Pure 142 [.string (Sep.str [98])] (.tuple #[.string (Sep.str [105, 98, 0, 0]), .int .i64 0]) := by
  letI := VK [] (fun _ => 0) (hold_nil (fun _ => 0))
  exact pureK (p_ik_b_r ) (.cons (VK.str _ _) .nil) (fun _ => (DL.tup (.cons (VK.str _ _) (.cons (.int ..) .nil))))
theorem p_ok_b_r : runK [] (fun _ => 0) (hold_nil (fun _ => 0)) 40 [.str [98]] = some (.int .i64 (0)) := by kernel_rfl
theorem p_ok_b : Pure 40 [.string (Sep.str [98])] (.int .i64 0) := by
  letI := VK [] (fun _ => 0) (hold_nil (fun _ => 0))
  exact pureK (p_ok_b_r ) (.cons (VK.str _ _) .nil) (fun _ => (.int ..))
theorem p_ver_true_r : runK [] (fun _ => 0) (hold_nil (fun _ => 0)) 35 [.str [], .bool true] = some (.tup [.str [1, 1, 0], .int .i64 (0)]) := by kernel_rfl
theorem p_ver_true : Pure 35 [.string (Sep.str []), .bool true] (.tuple #[.string (Sep.str (vtx true)), .int .i64 0]) := by
  letI := VK [] (fun _ => 0) (hold_nil (fun _ => 0))
  exact pureK (p_ver_true_r ) (.cons (VK.str _ _) (.cons (.bool _) .nil)) (fun _ => (DL.tup (.cons (VK.str _ _) (.cons (.int ..) .nil))))
theorem p_tv_true_r : runK [] (fun _ => 0) (hold_nil (fun _ => 0)) 133 [.str [1, 1, 0]] = some (.tup [.str [], .bool true, .int .i64 (0)]) := by kernel_rfl
theorem p_tv_true : Pure 133 [.string (Sep.str (vtx true))] (.tuple #[.string (Sep.str []), .bool true, .int .i64 0]) := by
  letI := VK [] (fun _ => 0) (hold_nil (fun _ => 0))
  exact pureK (p_tv_true_r ) (.cons (VK.str _ _) .nil) (fun _ => (DL.tup (.cons (VK.str _ _) (.cons (.bool _) (.cons (.int ..) .nil)))))
theorem p_ver_false_r : runK [] (fun _ => 0) (hold_nil (fun _ => 0)) 35 [.str [], .bool false] = some (.tup [.str [0], .int .i64 (0)]) := by kernel_rfl
theorem p_ver_false : Pure 35 [.string (Sep.str []), .bool false] (.tuple #[.string (Sep.str (vtx false)), .int .i64 0]) := by
  letI := VK [] (fun _ => 0) (hold_nil (fun _ => 0))
  exact pureK (p_ver_false_r ) (.cons (VK.str _ _) (.cons (.bool _) .nil)) (fun _ => (DL.tup (.cons (VK.str _ _) (.cons (.int ..) .nil))))
theorem p_tv_false_r : runK [] (fun _ => 0) (hold_nil (fun _ => 0)) 133 [.str [0]] = some (.tup [.str [], .bool false, .int .i64 (0)]) := by kernel_rfl
theorem p_tv_false : Pure 133 [.string (Sep.str (vtx false))] (.tuple #[.string (Sep.str []), .bool false, .int .i64 0]) := by
  letI := VK [] (fun _ => 0) (hold_nil (fun _ => 0))
  exact pureK (p_tv_false_r ) (.cons (VK.str _ _) .nil) (fun _ => (DL.tup (.cons (VK.str _ _) (.cons (.bool _) (.cons (.int ..) .nil)))))
theorem p_ti_r : runK [] (fun _ => 0) (hold_nil (fun _ => 0)) 143 [.str []] = some (.tup [.agg [.int .i64 (0), .int .i64 (0), .int .i64 (0), .str [], .int .i64 (0), .int .i64 (0), .int .i64 (0), .int .i64 (0), .sl0], .int .i64 (4)]) := by kernel_rfl
theorem p_ti : Pure 143 [.string (Sep.str [])] (.tuple #[.agg #[.int .i64 0, .int .i64 0, .int .i64 0, .string (Sep.str []), .int .i64 0, .int .i64 0, .int .i64 0, .int .i64 0, .slice none 0 0], .int .i64 4]) := by
  letI := VK [] (fun _ => 0) (hold_nil (fun _ => 0))
  exact pureK (p_ti_r ) (.cons (VK.str _ _) .nil) (fun _ => (DL.tup (.cons (DL.agg (.cons (.int ..) (.cons (.int ..) (.cons (.int ..) (.cons (VK.str _ _) (.cons (.int ..) (.cons (.int ..) (.cons (.int ..) (.cons (.int ..) (.cons .sl0 .nil)))))))))) (.cons (.int ..) .nil))))
theorem p_th_r : runK [] (fun _ => 0) (hold_nil (fun _ => 0)) 77 [.int .i64 (1)] = some (.tup [.str [103, 1], .int .i64 (0)]) := by kernel_rfl
theorem p_th : Pure 77 [.int .i64 1] (.tuple #[.string (Sep.str [103, 1]), .int .i64 0]) := by
  letI := VK [] (fun _ => 0) (hold_nil (fun _ => 0))
  exact pureK (p_th_r ) (.cons (.int ..) .nil) (fun _ => (DL.tup (.cons (VK.str _ _) (.cons (.int ..) .nil))))
theorem p_ts_r : runK [] (fun _ => 0) (hold_nil (fun _ => 0)) 80 [.str []] = some (.tup [.agg [.int .i64 (0), .int .i64 (0)], .int .i64 (4)]) := by kernel_rfl
theorem p_ts : Pure 80 [.string (Sep.str [])] (.tuple #[.agg #[.int .i64 0, .int .i64 0], .int .i64 4]) := by
  letI := VK [] (fun _ => 0) (hold_nil (fun _ => 0))
  exact pureK (p_ts_r ) (.cons (VK.str _ _) .nil) (fun _ => (DL.tup (.cons (DL.agg (.cons (.int ..) (.cons (.int ..) .nil))) (.cons (.int ..) .nil))))
theorem p_st_r (i : Int) (h : 1 ≤ i ∧ i ≤ 131) : runK (one 1 131) (fun _ => i) (hold1 h) 78 [.agg [.isym .i64 ⟨0, [1]⟩, .int .i64 (0)]] = some (.tup [.ystr [⟨1, []⟩, ⟨0, [1]⟩, ⟨0, []⟩], .int .i64 (0)]) := by kernel_rfl
theorem p_st (i : Int) (h : 1 ≤ i ∧ i ≤ 131) : Pure 78 [.agg #[.int .i64 i, .int .i64 0]] (.tuple #[.string (Sep.str (stx i)), .int .i64 0]) := by
  letI := VK (one 1 131) (fun _ => i) (hold1 h)
  exact pureK (p_st_r i h) (.cons (DL.agg (.cons (VK.int _ _ _ _ (by rw [VK.eval1]; (try rw [two0]); (try rw [two1]); omega)) (.cons (.int ..) .nil))) .nil) (fun _ => (DL.tup (.cons (VK.txt _ _ _ (by simp only [List.map_cons, List.map_nil, VK.byte0, VK.byte1]; rfl)) (.cons (.int ..) .nil))))
theorem p_ck_r (i : Int) (h : 0 ≤ i ∧ i ≤ 131) : runK (one 0 131) (fun _ => i) (hold1 h) 57 [.agg [.isym .i64 ⟨0, [1]⟩, .int .i64 (0)]] = some (.int .i64 (0)) := by kernel_rfl
theorem p_ck (i : Int) (h : 0 ≤ i ∧ i ≤ 131) : Pure 57 [.agg #[.int .i64 i, .int .i64 0]] (.int .i64 0) := by
  letI := VK (one 0 131) (fun _ => i) (hold1 h)
  exact pureK (p_ck_r i h) (.cons (DL.agg (.cons (VK.int _ _ _ _ (by rw [VK.eval1]; (try rw [two0]); (try rw [two1]); omega)) (.cons (.int ..) .nil))) .nil) (fun _ => (.int ..))
theorem p_sc_r : runK [] (fun _ => 0) (hold_nil (fun _ => 0)) 74 [.agg [.str [97], .str [109]]] = some (.int .i64 (0)) := by kernel_rfl
theorem p_sc : Pure 74 [.agg #[.string (Sep.str [97]), .string (Sep.str [109])]] (.int .i64 0) := by
  letI := VK [] (fun _ => 0) (hold_nil (fun _ => 0))
  exact pureK (p_sc_r ) (.cons (DL.agg (.cons (VK.str _ _) (.cons (VK.str _ _) .nil))) .nil) (fun _ => (.int ..))
theorem p_txn_r (i : Int) (h : 0 ≤ i ∧ i ≤ 131) : runK (one 0 131) (fun _ => i) (hold1 h) 31 [.int .i64 (7), .isym .i64 ⟨0, [1]⟩] = some (.agg [.int .i64 (7), .int .i64 (0), .int .i64 (1), .str [98], .isym .i64 ⟨0, [1]⟩, .int .i64 (0), .isym .i64 ⟨0, [1]⟩, .int .i64 (0), .isym .i64 ⟨0, [1]⟩, .int .i64 (0), .isym .i64 ⟨0, [1]⟩, .int .i64 (0)]) := by kernel_rfl
theorem p_txn (i : Int) (h : 0 ≤ i ∧ i ≤ 131) : Pure 31 [.int .i64 7, .int .i64 i] (.agg #[.int .i64 7, .int .i64 0, .int .i64 1, .string (Sep.str [98]), .int .i64 i, .int .i64 0, .int .i64 i, .int .i64 0, .int .i64 i, .int .i64 0, .int .i64 i, .int .i64 0]) := by
  letI := VK (one 0 131) (fun _ => i) (hold1 h)
  exact pureK (p_txn_r i h) (.cons (.int ..) (.cons (VK.int _ _ _ _ (by rw [VK.eval1]; (try rw [two0]); (try rw [two1]); omega)) .nil)) (fun _ => (DL.agg (.cons (.int ..) (.cons (.int ..) (.cons (.int ..) (.cons (VK.str _ _) (.cons (VK.int _ _ _ _ (by rw [VK.eval1]; (try rw [two0]); (try rw [two1]); omega)) (.cons (.int ..) (.cons (VK.int _ _ _ _ (by rw [VK.eval1]; (try rw [two0]); (try rw [two1]); omega)) (.cons (.int ..) (.cons (VK.int _ _ _ _ (by rw [VK.eval1]; (try rw [two0]); (try rw [two1]); omega)) (.cons (.int ..) (.cons (VK.int _ _ _ _ (by rw [VK.eval1]; (try rw [two0]); (try rw [two1]); omega)) (.cons (.int ..) .nil))))))))))))))
theorem p_at_r (i : Int) (h : 0 ≤ i ∧ i ≤ 131) : runK (one 0 131) (fun _ => i) (hold1 h) 12 [.isym .i64 ⟨0, [1]⟩] = some (.agg [.isym .i64 ⟨0, [1]⟩, .int .i64 (0)]) := by kernel_rfl
theorem p_at (i : Int) (h : 0 ≤ i ∧ i ≤ 131) : Pure 12 [.int .i64 i] (.agg #[.int .i64 i, .int .i64 0]) := by
  letI := VK (one 0 131) (fun _ => i) (hold1 h)
  exact pureK (p_at_r i h) (.cons (VK.int _ _ _ _ (by rw [VK.eval1]; (try rw [two0]); (try rw [two1]); omega)) .nil) (fun _ => (DL.agg (.cons (VK.int _ _ _ _ (by rw [VK.eval1]; (try rw [two0]); (try rw [two1]); omega)) (.cons (.int ..) .nil))))
theorem p_top_r (i : Int) (h : 1 ≤ i ∧ i ≤ 131) : runK (one 1 131) (fun _ => i) (hold1 h) 88 [.agg [.int .i64 (7), .int .i64 (0), .int .i64 (1), .str [98], .isym .i64 ⟨0, [1]⟩, .int .i64 (0), .isym .i64 ⟨0, [1]⟩, .int .i64 (0), .isym .i64 ⟨0, [1]⟩, .int .i64 (0), .isym .i64 ⟨0, [1]⟩, .int .i64 (0)]] = some (.agg [.isym .i64 ⟨0, [1]⟩, .int .i64 (0)]) := by kernel_rfl
theorem p_top (i : Int) (h : 1 ≤ i ∧ i ≤ 131) : Pure 88 [.agg #[.int .i64 7, .int .i64 0, .int .i64 1, .string (Sep.str [98]), .int .i64 i, .int .i64 0, .int .i64 i, .int .i64 0, .int .i64 i, .int .i64 0, .int .i64 i, .int .i64 0]] (.agg #[.int .i64 i, .int .i64 0]) := by
  letI := VK (one 1 131) (fun _ => i) (hold1 h)
  exact pureK (p_top_r i h) (.cons (DL.agg (.cons (.int ..) (.cons (.int ..) (.cons (.int ..) (.cons (VK.str _ _) (.cons (VK.int _ _ _ _ (by rw [VK.eval1]; (try rw [two0]); (try rw [two1]); omega)) (.cons (.int ..) (.cons (VK.int _ _ _ _ (by rw [VK.eval1]; (try rw [two0]); (try rw [two1]); omega)) (.cons (.int ..) (.cons (VK.int _ _ _ _ (by rw [VK.eval1]; (try rw [two0]); (try rw [two1]); omega)) (.cons (.int ..) (.cons (VK.int _ _ _ _ (by rw [VK.eval1]; (try rw [two0]); (try rw [two1]); omega)) (.cons (.int ..) .nil))))))))))))) .nil) (fun _ => (DL.agg (.cons (VK.int _ _ _ _ (by rw [VK.eval1]; (try rw [two0]); (try rw [two1]); omega)) (.cons (.int ..) .nil))))
theorem p_less_lt_r (i : Int) (j : Int) (h : i < j) : runK [([-1, 1], 1)] (two i j) (hold_cons (by show (1 : Int) ≤ (-1) * i + ((1) * j + 0); omega) (hold_nil _)) 33 [.agg [.isym .i64 ⟨0, [1]⟩, .int .i64 (0)], .agg [.isym .i64 ⟨0, [0, 1]⟩, .int .i64 (0)]] = some (.bool true) := by kernel_rfl
theorem p_less_lt (i : Int) (j : Int) (h : i < j) : Pure 33 [.agg #[.int .i64 i, .int .i64 0], .agg #[.int .i64 j, .int .i64 0]] (.bool true) := by
  letI := VK [([-1, 1], 1)] (two i j) (hold_cons (by show (1 : Int) ≤ (-1) * i + ((1) * j + 0); omega) (hold_nil _))
  exact pureK (p_less_lt_r i j h) (.cons (DL.agg (.cons (VK.int _ _ _ _ (by rw [VK.eval1]; (try rw [two0]); (try rw [two1]); omega)) (.cons (.int ..) .nil))) (.cons (DL.agg (.cons (VK.int _ _ _ _ (by rw [VK.eval2]; (try rw [two0]); (try rw [two1]); omega)) (.cons (.int ..) .nil))) .nil)) (fun _ => (.bool _))
theorem p_less_eq_r (i : Int) (j : Int) (h : i = j) : runK [([-1, 1], 0), ([1, -1], 0)] (two i j) (hold_cons (by show (0 : Int) ≤ (-1) * i + ((1) * j + 0); omega) (hold_cons (by show (0 : Int) ≤ (1) * i + ((-1) * j + 0); omega) (hold_nil _))) 33 [.agg [.isym .i64 ⟨0, [1]⟩, .int .i64 (0)], .agg [.isym .i64 ⟨0, [0, 1]⟩, .int .i64 (0)]] = some (.bool false) := by kernel_rfl
theorem p_less_eq (i : Int) (j : Int) (h : i = j) : Pure 33 [.agg #[.int .i64 i, .int .i64 0], .agg #[.int .i64 j, .int .i64 0]] (.bool false) := by
  letI := VK [([-1, 1], 0), ([1, -1], 0)] (two i j) (hold_cons (by show (0 : Int) ≤ (-1) * i + ((1) * j + 0); omega) (hold_cons (by show (0 : Int) ≤ (1) * i + ((-1) * j + 0); omega) (hold_nil _)))
  exact pureK (p_less_eq_r i j h) (.cons (DL.agg (.cons (VK.int _ _ _ _ (by rw [VK.eval1]; (try rw [two0]); (try rw [two1]); omega)) (.cons (.int ..) .nil))) (.cons (DL.agg (.cons (VK.int _ _ _ _ (by rw [VK.eval2]; (try rw [two0]); (try rw [two1]); omega)) (.cons (.int ..) .nil))) .nil)) (fun _ => (.bool _))
theorem p_less_gt_r (i : Int) (j : Int) (h : j < i) : runK [([1, -1], 1)] (two i j) (hold_cons (by show (1 : Int) ≤ (1) * i + ((-1) * j + 0); omega) (hold_nil _)) 33 [.agg [.isym .i64 ⟨0, [1]⟩, .int .i64 (0)], .agg [.isym .i64 ⟨0, [0, 1]⟩, .int .i64 (0)]] = some (.bool false) := by kernel_rfl
theorem p_less_gt (i : Int) (j : Int) (h : j < i) : Pure 33 [.agg #[.int .i64 i, .int .i64 0], .agg #[.int .i64 j, .int .i64 0]] (.bool false) := by
  letI := VK [([1, -1], 1)] (two i j) (hold_cons (by show (1 : Int) ≤ (1) * i + ((-1) * j + 0); omega) (hold_nil _))
  exact pureK (p_less_gt_r i j h) (.cons (DL.agg (.cons (VK.int _ _ _ _ (by rw [VK.eval1]; (try rw [two0]); (try rw [two1]); omega)) (.cons (.int ..) .nil))) (.cons (DL.agg (.cons (VK.int _ _ _ _ (by rw [VK.eval2]; (try rw [two0]); (try rw [two1]); omega)) (.cons (.int ..) .nil))) .nil)) (fun _ => (.bool _))
theorem p_less (i j : Int) : Pure 33 [stv i, stv j] (.bool (decide (i < j))) := by
  rcases Int.lt_trichotomy i j with h | h | h
  · rw [decide_eq_true h]; exact p_less_lt i j h
  · rw [decide_eq_false (by omega)]; exact p_less_eq i j h
  · rw [decide_eq_false (by omega)]; exact p_less_gt i j h
theorem p_ver (b : Bool) : Pure 35 [.string (Sep.str []), .bool b] (.tuple #[.string (Sep.str (vtx b)), .int .i64 0]) := by cases b; exact p_ver_false; exact p_ver_true
theorem p_tv (b : Bool) : Pure 133 [.string (Sep.str (vtx b))] (.tuple #[.string (Sep.str []), .bool b, .int .i64 0]) := by cases b; exact p_tv_false; exact p_tv_true
end
end Go.Proofs.YtagbmfdheppmoaaGreatDoor.Vm
