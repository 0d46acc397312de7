import Derived.Test.YtfcbjcohepkkfaaJ17
namespace Go.Proofs.Ytfcbjcohepkkfaa.B
open Go.RowKit Go.Maps Go.Sort Go.Shelf Go.Proofs.Ytfcbjcohepkkfaa.Sep Go.Proofs.Ytfcbjcohepkkfaa.P
set_option linter.unusedVariables false
set_option linter.unusedSimpArgs false

def x_0 : Ev := ⟨0, 2, 1, 3, 0, 1, [97], [], [], [], false, [], none, 0, 0, 0, 0, 0⟩
def x_1 : Ev := ⟨0, 1, 1, 3, 0, 0, [], [], [], [], false, [], none, 0, 0, 0, 0, 0⟩
def x_2 : Ev := ⟨0, 5, 1, 0, 0, 0, [], [], [], [], false, [], none, 0, 0, 0, 0, 0⟩
def x_3 : Ev := ⟨0, 4, 4, 1, 0, 0, [], [], [], [], false, [], none, 0, 0, 0, 0, 0⟩
def x_4 : Ev := ⟨0, 6, 1, 0, 0, 0, [], [], [], [], false, [], none, 0, 0, 0, 0, 0⟩
def x_5 : Ev := ⟨0, 3, 1, 3, 0, 1, [97], [120], [], [], true, [], none, 0, 0, 0, 0, 0⟩
def x_6 : Ev := ⟨0, 4, 4, 1, 0, 0, [], [], [], [], false, [], none, 0, 10, 0, 0, 3⟩
def x_7 : Ev := ⟨0, 3, 1, 3, 1, 1, [97], [120], [], [], true, [], none, 0, 0, 0, 0, 0⟩
def x_8 : Ev := ⟨0, 3, 1, 2, 0, 1, [97], [120], [], [], true, [], none, 0, 0, 0, 0, 0⟩
def x_9 : Ev := ⟨0, 0, 0, 0, 0, 0, [], [], [], [], false, [], none, 0, 0, 0, 0, 0⟩
def x_10 : Ev := ⟨0, 3, 1, 2, 0, 6, [], [], [], [], false, [], none, 0, 5, 0, 0, 0⟩
def x_11 : Ev := ⟨0, 3, 1, 2, 0, 0, [], [], [], [], false, [], none, 0, 0, 0, 0, 0⟩
def x_12 : Ev := ⟨0, 3, 1, 3, 0, 1, [97], [120], [], [], true, [], none, 0, 0, 0, 200, 0⟩
def x_13 : Ev := ⟨0, 3, 1, 3, 0, 3, [97], [120], [], [], false, [], none, 0, 0, 0, 0, 0⟩
def x_14 : Ev := ⟨0, 7, 1, 0, 0, 0, [], [], [], [], false, [], none, 0, 0, 0, 0, 0⟩
def x_15 : Ev := ⟨0, 6, 0, 0, 0, 0, [], [], [], [], false, [], none, 0, 0, 0, 0, 0⟩
def x_16 : Ev := ⟨0, 6, 5, 0, 0, 0, [], [], [], [], false, [], none, 0, 0, 0, 0, 0⟩
def x_17 : Ev := ⟨(-1), 5, 1, 0, 0, 0, [], [], [], [], false, [], none, 0, 0, 0, 0, 0⟩
def x_18 : Ev := ⟨0, 4, 1, 0, 0, 0, [], [], [], [], false, [], none, 0, 0, 0, 0, 0⟩
def x_19 : Ev := ⟨0, 4, 1, 1, 0, 0, [], [], [], [], false, [], none, 0, 0, 0, 0, 5⟩
def x_20 : Ev := ⟨0, 4, 1, 1, (-1), 0, [], [], [], [], false, [], none, 0, 0, 0, 0, 0⟩
def x_21 : Ev := ⟨0, 4, 1, 1, 0, 0, [], [], [], [], false, [], none, 0, (-1), 0, 0, 0⟩
def x_22 : Ev := ⟨0, 2, 1, 2, 0, 8, [], [], [], [], false, [], none, 0, 0, 0, 0, 0⟩
def x_23 : Ev := ⟨0, 4, 4, 3, 0, 0, [], [], [], [], false, [], none, 0, 10, 0, 0, 3⟩
def x_24 : Ev := ⟨0, 0, 1, 0, 0, 0, [], [], [], [], false, [], none, 0, 0, 0, 0, 0⟩
def x_25 : Ev := ⟨0, 3, 1, 3, 0, 1, [98], [120], [], [], true, [], none, 0, 0, 0, 0, 0⟩
def x_26 : Ev := ⟨0, 3, 2, 3, 0, 1, [97], [120], [], [], true, [], none, 0, 0, 0, 0, 0⟩
def x_27 : Ev := ⟨0, 3, 1, 2, 0, 1, [97], [], [], [], false, [], none, 0, 0, 0, 0, 0⟩
def x_28 : Ev := ⟨0, 3, 1, 3, 0, 1, [97], [120], [], [122], true, [], none, 0, 0, 0, 0, 0⟩
def x_29 : Ev := ⟨0, 2, 1, 3, 2, 1, [97], [], [], [], false, [], none, 0, 0, 0, 0, 0⟩
def x_30 : Ev := ⟨0, 2, 2, 3, 0, 1, [97], [], [], [], false, [], none, 0, 0, 0, 0, 0⟩
def x_31 : Ev := ⟨0, 4, 4, 1, 0, 0, [], [], [], [], false, [], none, 0, 10, 1, 0, 3⟩
def x_32 : Ev := ⟨0, 4, 4, 1, 1, 0, [], [], [], [], false, [], none, 0, 10, 0, 0, 3⟩
def x_33 : Ev := ⟨0, 4, 4, 1, 0, 0, [], [], [], [], false, [], none, 0, 0, 0, 0, 4⟩
def x_34 : Ev := ⟨0, 2, 1, 3, 0, 7, [], [], [], [], false, [], none, 0, 0, 0, 0, 0⟩
def x_35 : Ev := ⟨0, 3, 1, 3, 0, 7, [], [], [], [], false, [], none, 0, 0, 0, 0, 0⟩
def x_36 : Ev := ⟨0, 2, 1, 2, 0, 1, [98], [], [], [], false, [], none, 0, 0, 0, 0, 0⟩
def x_37 : Ev := ⟨0, 3, 1, 2, 0, 1, [98], [], [], [], false, [], none, 0, 0, 0, 0, 0⟩
def x_38 : Ev := ⟨0, 3, 1, 2, 0, 6, [], [], [], [], false, [], none, 0, 10, 0, 0, 0⟩
def x_39 : Ev := ⟨0, 1, 2, 3, 0, 0, [], [], [], [], false, [], none, 0, 0, 0, 0, 0⟩
def x_40 : Ev := ⟨0, 1, 1, 2, 0, 0, [], [], [], [], false, [], none, 0, 0, 0, 0, 0⟩
def x_41 : Ev := ⟨0, 1, 1, 4, 0, 0, [], [], [], [], false, [], none, 0, 0, 0, 0, 0⟩
def x_42 : Ev := ⟨0, 2, 1, 2, 0, 1, [97], [], [], [], false, [], none, 0, 0, 0, 0, 0⟩
theorem fx_0 : findL (startL ((goodL ++ [x_24]))) ((goodL ++ [x_24])) 0 = some (1, 10) := by kernel_rfl
theorem fx_1 : ((goodL ++ [x_24])).all okE = true := by kernel_rfl
theorem fx_2 : findL (startL ((goodL ++ [x_14]))) ((goodL ++ [x_14])) 0 = some (1, 10) := by kernel_rfl
theorem fx_3 : ((goodL ++ [x_14])).all okE = true := by kernel_rfl
theorem fx_4 : findL (startL ((goodL ++ [x_15]))) ((goodL ++ [x_15])) 0 = some (1, 10) := by kernel_rfl
theorem fx_5 : ((goodL ++ [x_15])).all okE = true := by kernel_rfl
theorem fx_6 : findL (startL ((goodL ++ [x_16]))) ((goodL ++ [x_16])) 0 = some (1, 10) := by kernel_rfl
theorem fx_7 : ((goodL ++ [x_16])).all okE = true := by kernel_rfl
theorem fx_8 : findL (startL ((goodL ++ [x_17]))) ((goodL ++ [x_17])) 0 = some (1, 10) := by kernel_rfl
theorem fx_9 : ((goodL ++ [x_17])).all okE = true := by kernel_rfl
theorem fx_10 : findL (startL ((goodL ++ [x_18]))) ((goodL ++ [x_18])) 0 = some (1, 10) := by kernel_rfl
theorem fx_11 : ((goodL ++ [x_18])).all okE = true := by kernel_rfl
theorem fx_12 : findL (startL ((goodL ++ [x_19]))) ((goodL ++ [x_19])) 0 = some (1, 10) := by kernel_rfl
theorem fx_13 : ((goodL ++ [x_19])).all okE = true := by kernel_rfl
theorem fx_14 : findL (startL ((goodL ++ [x_20]))) ((goodL ++ [x_20])) 0 = some (1, 10) := by kernel_rfl
theorem fx_15 : ((goodL ++ [x_20])).all okE = true := by kernel_rfl
theorem fx_16 : findL (startL ((goodL ++ [x_21]))) ((goodL ++ [x_21])) 0 = some (1, 10) := by kernel_rfl
theorem fx_17 : ((goodL ++ [x_21])).all okE = true := by kernel_rfl
theorem fx_18 : findL (startL ((goodL ++ [x_22]))) ((goodL ++ [x_22])) 0 = some (1, 10) := by kernel_rfl
theorem fx_19 : ((goodL ++ [x_22])).all okE = true := by kernel_rfl
theorem fx_20 : findL (startL ((goodL ++ [x_11]))) ((goodL ++ [x_11])) 0 = some (1, 10) := by kernel_rfl
theorem fx_21 : ((goodL ++ [x_11])).all okE = true := by kernel_rfl
theorem fx_22 : findL (startL ((goodL ++ [x_4]))) ((goodL ++ [x_4])) 0 = some (2, 10) := by kernel_rfl
theorem fx_23 : ((goodL ++ [x_4])).all okE = true := by kernel_rfl
theorem fx_24 : findL (startL (((goodL ++ [x_2]) ++ [x_2]))) (((goodL ++ [x_2]) ++ [x_2])) 0 = some (2, 11) := by kernel_rfl
theorem fx_25 : (((goodL ++ [x_2]) ++ [x_2])).all okE = true := by kernel_rfl
theorem fx_26 : findL (startL (((goodL ++ [x_2]) ++ [x_4]))) (((goodL ++ [x_2]) ++ [x_4])) 0 = none := by kernel_rfl
theorem fx_27 : (((goodL ++ [x_2]) ++ [x_4])).all okE = true := by kernel_rfl
theorem fx_28 : findL (startL (((goodL ++ [x_2]) ++ [x_1]))) (((goodL ++ [x_2]) ++ [x_1])) 0 = some (2, 11) := by kernel_rfl
theorem fx_29 : (((goodL ++ [x_2]) ++ [x_1])).all okE = true := by kernel_rfl
theorem fx_30 : findL (startL (((goodL ++ [x_2]) ++ [x_39]))) (((goodL ++ [x_2]) ++ [x_39])) 0 = none := by kernel_rfl
theorem fx_31 : (((goodL ++ [x_2]) ++ [x_39])).all okE = true := by kernel_rfl
theorem fx_32 : findL (startL (((goodL ++ [x_2]) ++ [x_3]))) (((goodL ++ [x_2]) ++ [x_3])) 0 = none := by kernel_rfl
theorem fx_33 : (((goodL ++ [x_2]) ++ [x_3])).all okE = true := by kernel_rfl
theorem fx_34 : findL (startL ((goodL ++ [x_40]))) ((goodL ++ [x_40])) 0 = some (3, 10) := by kernel_rfl
theorem fx_35 : ((goodL ++ [x_40])).all okE = true := by kernel_rfl
theorem fx_36 : findL (startL ((goodL ++ [x_41]))) ((goodL ++ [x_41])) 0 = some (3, 10) := by kernel_rfl
theorem fx_37 : ((goodL ++ [x_41])).all okE = true := by kernel_rfl
theorem fx_38 : findL (startL ((goodL ++ [x_1]))) ((goodL ++ [x_1])) 0 = none := by kernel_rfl
theorem fx_39 : ((goodL ++ [x_1])).all okE = true := by kernel_rfl
theorem fx_40 : findL (startL ((goodL ++ [x_42]))) ((goodL ++ [x_42])) 0 = some (4, 10) := by kernel_rfl
theorem fx_41 : ((goodL ++ [x_42])).all okE = true := by kernel_rfl
theorem fx_42 : findL (startL ((goodL ++ [x_0]))) ((goodL ++ [x_0])) 0 = some (4, 10) := by kernel_rfl
theorem fx_43 : ((goodL ++ [x_0])).all okE = true := by kernel_rfl
theorem fx_44 : findL (startL ((((goodL ++ [x_1]) ++ [x_0]) ++ [x_0]))) ((((goodL ++ [x_1]) ++ [x_0]) ++ [x_0])) 0 = some (4, 12) := by kernel_rfl
theorem fx_45 : ((((goodL ++ [x_1]) ++ [x_0]) ++ [x_0])).all okE = true := by kernel_rfl
theorem fx_46 : findL (startL (((((goodL ++ [x_1]) ++ [x_0])).take 11 ++ [x_30]))) (((((goodL ++ [x_1]) ++ [x_0])).take 11 ++ [x_30])) 0 = some (4, 11) := by kernel_rfl
theorem fx_47 : (((((goodL ++ [x_1]) ++ [x_0])).take 11 ++ [x_30])).all okE = true := by kernel_rfl
theorem fx_48 : findL (startL (((((goodL ++ [x_1]) ++ [x_0])).take 11 ++ [x_2, x_4, x_0]))) (((((goodL ++ [x_1]) ++ [x_0])).take 11 ++ [x_2, x_4, x_0])) 0 = some (4, 13) := by kernel_rfl
theorem fx_49 : (((((goodL ++ [x_1]) ++ [x_0])).take 11 ++ [x_2, x_4, x_0])).all okE = true := by kernel_rfl
theorem fx_50 : findL (startL (((((goodL ++ [x_1]) ++ [x_0])).take 11 ++ [x_34, x_35, x_0]))) (((((goodL ++ [x_1]) ++ [x_0])).take 11 ++ [x_34, x_35, x_0])) 0 = some (4, 13) := by kernel_rfl
theorem fx_51 : (((((goodL ++ [x_1]) ++ [x_0])).take 11 ++ [x_34, x_35, x_0])).all okE = true := by kernel_rfl
theorem fx_52 : findL (startL ((((goodL ++ [x_1]) ++ [x_0]) ++ [x_25]))) ((((goodL ++ [x_1]) ++ [x_0]) ++ [x_25])) 0 = some (5, 12) := by kernel_rfl
theorem fx_53 : ((((goodL ++ [x_1]) ++ [x_0]) ++ [x_25])).all okE = true := by kernel_rfl
theorem fx_54 : findL (startL ((((goodL ++ [x_1]) ++ [x_0]) ++ [x_13]))) ((((goodL ++ [x_1]) ++ [x_0]) ++ [x_13])) 0 = some (5, 12) := by kernel_rfl
theorem fx_55 : ((((goodL ++ [x_1]) ++ [x_0]) ++ [x_13])).all okE = true := by kernel_rfl
theorem fx_56 : findL (startL ((((goodL ++ [x_1]) ++ [x_0]) ++ [x_8]))) ((((goodL ++ [x_1]) ++ [x_0]) ++ [x_8])) 0 = some (5, 12) := by kernel_rfl
theorem fx_57 : ((((goodL ++ [x_1]) ++ [x_0]) ++ [x_8])).all okE = true := by kernel_rfl
theorem fx_58 : findL (startL ((((goodL ++ [x_1]) ++ [x_0]) ++ [x_5]))) ((((goodL ++ [x_1]) ++ [x_0]) ++ [x_5])) 0 = none := by kernel_rfl
theorem fx_59 : ((((goodL ++ [x_1]) ++ [x_0]) ++ [x_5])).all okE = true := by kernel_rfl
theorem fx_60 : findL (startL ((((goodL ++ [x_1]) ++ [x_0]) ++ [x_7]))) ((((goodL ++ [x_1]) ++ [x_0]) ++ [x_7])) 0 = none := by kernel_rfl
theorem fx_61 : ((((goodL ++ [x_1]) ++ [x_0]) ++ [x_7])).all okE = true := by kernel_rfl
theorem fx_62 : findL (startL ((((goodL ++ [x_1]) ++ [x_0]) ++ [x_26]))) ((((goodL ++ [x_1]) ++ [x_0]) ++ [x_26])) 0 = some (5, 12) := by kernel_rfl
theorem fx_63 : ((((goodL ++ [x_1]) ++ [x_0]) ++ [x_26])).all okE = true := by kernel_rfl
theorem fx_64 : findL (startL ((((goodL ++ [x_1]) ++ [x_0]) ++ [x_28]))) ((((goodL ++ [x_1]) ++ [x_0]) ++ [x_28])) 0 = some (5, 12) := by kernel_rfl
theorem fx_65 : ((((goodL ++ [x_1]) ++ [x_0]) ++ [x_28])).all okE = true := by kernel_rfl
theorem fx_66 : findL (startL (((((goodL ++ [x_1]) ++ [x_0])).take 11 ++ [x_29, x_7]))) (((((goodL ++ [x_1]) ++ [x_0])).take 11 ++ [x_29, x_7])) 0 = some (5, 12) := by kernel_rfl
theorem fx_67 : (((((goodL ++ [x_1]) ++ [x_0])).take 11 ++ [x_29, x_7])).all okE = true := by kernel_rfl
theorem fx_68 : findL (startL ((((goodL ++ [x_1]) ++ [x_0]) ++ [x_5, x_5]))) ((((goodL ++ [x_1]) ++ [x_0]) ++ [x_5, x_5])) 0 = some (5, 13) := by kernel_rfl
theorem fx_69 : ((((goodL ++ [x_1]) ++ [x_0]) ++ [x_5, x_5])).all okE = true := by kernel_rfl
theorem fx_70 : findL (startL ((((goodL ++ [x_1]) ++ [x_0]) ++ [x_2, x_4, x_5]))) ((((goodL ++ [x_1]) ++ [x_0]) ++ [x_2, x_4, x_5])) 0 = some (5, 14) := by kernel_rfl
theorem fx_71 : ((((goodL ++ [x_1]) ++ [x_0]) ++ [x_2, x_4, x_5])).all okE = true := by kernel_rfl
theorem fx_72 : findL (startL ((goodL ++ [x_6]))) ((goodL ++ [x_6])) 0 = none := by kernel_rfl
theorem fx_73 : ((goodL ++ [x_6])).all okE = true := by kernel_rfl
theorem fx_74 : findL (startL ((goodL ++ [x_31]))) ((goodL ++ [x_31])) 0 = some (6, 10) := by kernel_rfl
theorem fx_75 : ((goodL ++ [x_31])).all okE = true := by kernel_rfl
theorem fx_76 : findL (startL ((goodL ++ [x_32]))) ((goodL ++ [x_32])) 0 = some (6, 10) := by kernel_rfl
theorem fx_77 : ((goodL ++ [x_32])).all okE = true := by kernel_rfl
theorem fx_78 : findL (startL ((goodL ++ [x_33]))) ((goodL ++ [x_33])) 0 = some (6, 10) := by kernel_rfl
theorem fx_79 : ((goodL ++ [x_33])).all okE = true := by kernel_rfl
theorem fx_80 : findL (startL ((((goodL ++ [x_1]) ++ [x_0]) ++ [x_12, x_23]))) ((((goodL ++ [x_1]) ++ [x_0]) ++ [x_12, x_23])) 0 = some (6, 13) := by kernel_rfl
theorem fx_81 : ((((goodL ++ [x_1]) ++ [x_0]) ++ [x_12, x_23])).all okE = true := by kernel_rfl
theorem fx_82 : findL (startL ((((goodL ++ [x_1]) ++ [x_0]) ++ [x_23, x_12]))) ((((goodL ++ [x_1]) ++ [x_0]) ++ [x_23, x_12])) 0 = some (6, 13) := by kernel_rfl
theorem fx_83 : ((((goodL ++ [x_1]) ++ [x_0]) ++ [x_23, x_12])).all okE = true := by kernel_rfl
theorem fx_84 : code (tnsP (ordL (txsL (((goodL.set 9 x_10).set 7 x_27))) (((goodL.set 9 x_10).set 7 x_27)))) = 0 := by kernel_rfl
theorem fx_85 : findL (startL (((goodL.set 9 x_10).set 7 x_27))) (((goodL.set 9 x_10).set 7 x_27)) 0 = none := by kernel_rfl
theorem fx_86 : isOrdB (tnsP (ordL (txsL (((goodL.set 9 x_10).set 7 x_27))) (((goodL.set 9 x_10).set 7 x_27)))) [1, 0] = true := by kernel_rfl
theorem fx_87 : resF (((goodL.set 9 x_10).set 7 x_27)) true [1, 0] = (8, 5) := by kernel_rfl
theorem fx_88 : (((goodL.set 9 x_10).set 7 x_27)).all okE = true := by kernel_rfl
theorem fx_89 : code (tnsP (ordL (txsL (((((goodL.set 9 x_10).set 7 x_27).set 6 x_36).set 7 x_37))) (((((goodL.set 9 x_10).set 7 x_27).set 6 x_36).set 7 x_37)))) = 0 := by kernel_rfl
theorem fx_90 : findL (startL (((((goodL.set 9 x_10).set 7 x_27).set 6 x_36).set 7 x_37))) (((((goodL.set 9 x_10).set 7 x_27).set 6 x_36).set 7 x_37)) 0 = none := by kernel_rfl
theorem fx_91 : isOrdB (tnsP (ordL (txsL (((((goodL.set 9 x_10).set 7 x_27).set 6 x_36).set 7 x_37))) (((((goodL.set 9 x_10).set 7 x_27).set 6 x_36).set 7 x_37)))) [1, 0] = true := by kernel_rfl
theorem fx_92 : resF (((((goodL.set 9 x_10).set 7 x_27).set 6 x_36).set 7 x_37)) true [1, 0] = (0, 0) := by kernel_rfl
theorem fx_93 : (((((goodL.set 9 x_10).set 7 x_27).set 6 x_36).set 7 x_37)).all okE = true := by kernel_rfl
theorem fx_94 : code (tnsP (ordL (txsL ((goodL.set 9 x_10))) ((goodL.set 9 x_10)))) = 0 := by kernel_rfl
theorem fx_95 : findL (startL ((goodL.set 9 x_10))) ((goodL.set 9 x_10)) 0 = none := by kernel_rfl
theorem fx_96 : isOrdB (tnsP (ordL (txsL ((goodL.set 9 x_10))) ((goodL.set 9 x_10)))) [1, 0] = true := by kernel_rfl
theorem fx_97 : resF ((goodL.set 9 x_10)) true [1, 0] = (7, 7) := by kernel_rfl
theorem fx_98 : ((goodL.set 9 x_10)).all okE = true := by kernel_rfl
theorem fx_99 : code (tnsP (ordL (txsL ((goodL.set 9 x_38))) ((goodL.set 9 x_38)))) = 0 := by kernel_rfl
theorem fx_100 : findL (startL ((goodL.set 9 x_38))) ((goodL.set 9 x_38)) 0 = none := by kernel_rfl
theorem fx_101 : isOrdB (tnsP (ordL (txsL ((goodL.set 9 x_38))) ((goodL.set 9 x_38)))) [0, 1] = true := by kernel_rfl
theorem fx_102 : resF ((goodL.set 9 x_38)) true [0, 1] = (0, 0) := by kernel_rfl
theorem fx_103 : ((goodL.set 9 x_38)).all okE = true := by kernel_rfl
theorem fx_104 : code (tnsP (ordL (txsL (([] : List Ev))) (([] : List Ev)))) = 0 := by kernel_rfl
theorem fx_105 : findL (startL (([] : List Ev))) (([] : List Ev)) 0 = none := by kernel_rfl
theorem fx_106 : isOrdB (tnsP (ordL (txsL (([] : List Ev))) (([] : List Ev)))) [] = true := by kernel_rfl
theorem fx_107 : resF (([] : List Ev)) true [] = (0, 0) := by kernel_rfl
theorem fx_108 : (([] : List Ev)).all okE = true := by kernel_rfl
set_option maxRecDepth 100000 in
set_option maxHeartbeats 4000000 in
theorem known_true (W : World) (hW : W.drawn = 0) (L : List Chunk) (w : World) (s : St W L w) :
    Calls Try.prog 4 #[] w fun e w' => e = .returned (.bool true) ∧ St W L w' := by
  refine enter_args (l := []) Try.func4 rfl rfl (Nat.le_of_ble_eq_true rfl) ?_
  intro a ha; replace ha : Has a 397 [] := ha
  refine wp_seq ?_
  refine wp_region_lit ?_
  refine st_val (.bool false) ha (by kernel_rfl) (by kernel_rfl) ?_
  clear ha a; intro a ha
  refine wpList_nil ?_
  refine then_normal ?_
  refine wp_seq ?_
  refine wp_region_lit ?_
  refine st_call ha (by kernel_rfl) (by kernel_rfl) (good_any W _ w s) ?_
  clear s w; rintro _ w ⟨A1, rfl, s⟩
  refine ⟨_, rfl, ?_⟩; clear ha a; intro a ha
  refine st_ex ha (by kernel_rfl) (ex_alloc [.slice none 0 0] s rfl (Try.zeroValue22 _) (by kernel_rfl)) ?_
  clear ha a s w; rintro _ w a ⟨g2, rfl, s⟩ ha
  refine st_exd ha (by kernel_rfl) (ex_store (of_ := 0) 0 [.slice A1 10 10] s rfl rfl (by kernel_rfl) (by kernel_rfl) (Try.sizeOf22 _) rfl (by simp [Value.oneCell']) (Nat.le_of_ble_eq_true rfl)) ?_
  clear ha a s w; rintro w a s ha
  replace s : St W (.blk g2 [.slice A1 10 10] 22 :: Own 36 16 A1 10 10 (evs goodL) :: L) w := s
  refine wpList_nil ?_
  refine then_normal ?_
  refine wp_seq ?_
  refine wp_region_lit ?_
  refine st_val (.func (.func 9) #[] #[.pointer (some ⟨g2, 0, none⟩)]) ha (by kernel_rfl) (by kernel_rfl) ?_
  clear ha a; intro a ha
  refine st_val (.func (.func 9) #[] #[.pointer (some ⟨g2, 0, none⟩)]) ha (by kernel_rfl) (by kernel_rfl) ?_
  clear ha a; intro a ha
  refine wpList_nil ?_
  refine then_normal ?_
  refine wp_seq ?_
  refine wp_region_lit ?_
  refine st_val (.agg (evv x_3).toArray) ha (by kernel_rfl) (by kernel_rfl) ?_
  clear ha a; intro a ha
  refine st_ex ha (by kernel_rfl) (ex_alloc (evv x_9) s rfl (Try.zeroValue36 _) (by kernel_rfl)) ?_
  clear ha a s w; rintro _ w a ⟨g3, rfl, s⟩ ha
  refine st_exd ha (by kernel_rfl) (ex_store (of_ := 0) 0 (evv x_3) s rfl rfl (by kernel_rfl) (by kernel_rfl) (Try.sizeOf36 _) rfl (evv_one _) (Nat.le_of_ble_eq_true rfl)) ?_
  clear ha a s w; rintro w a s ha
  replace s : St W (.blk g3 (evv x_3) 36 :: .blk g2 [.slice A1 10 10] 22 :: Own 36 16 A1 10 10 (evs goodL) :: L) w := s
  refine wpList_nil ?_
  refine then_normal ?_
  refine wp_seq ?_
  refine wp_region_lit ?_
  refine st_val (.agg (evv x_24).toArray) ha (by kernel_rfl) (by kernel_rfl) ?_
  clear ha a; intro a ha
  refine st_val (.agg (evv x_14).toArray) ha (by kernel_rfl) (by kernel_rfl) ?_
  clear ha a; intro a ha
  refine st_val (.agg (evv x_15).toArray) ha (by kernel_rfl) (by kernel_rfl) ?_
  clear ha a; intro a ha
  refine st_val (.agg (evv x_16).toArray) ha (by kernel_rfl) (by kernel_rfl) ?_
  clear ha a; intro a ha
  refine st_val (.agg (evv x_17).toArray) ha (by kernel_rfl) (by kernel_rfl) ?_
  clear ha a; intro a ha
  refine st_val (.agg (evv x_18).toArray) ha (by kernel_rfl) (by kernel_rfl) ?_
  clear ha a; intro a ha
  refine st_val (.agg (evv x_19).toArray) ha (by kernel_rfl) (by kernel_rfl) ?_
  clear ha a; intro a ha
  refine st_val (.agg (evv x_20).toArray) ha (by kernel_rfl) (by kernel_rfl) ?_
  clear ha a; intro a ha
  refine st_val (.agg #[.int .i64 (-1), .int .i64 0]) ha (by kernel_rfl) (by kernel_rfl) ?_
  clear ha a; intro a ha
  refine st_val (.agg (evv x_21).toArray) ha (by kernel_rfl) (by kernel_rfl) ?_
  clear ha a; intro a ha
  refine st_val (.agg (evv x_22).toArray) ha (by kernel_rfl) (by kernel_rfl) ?_
  clear ha a; intro a ha
  refine st_val (.agg (evv x_11).toArray) ha (by kernel_rfl) (by kernel_rfl) ?_
  clear ha a; intro a ha
  refine st_ex ha (by kernel_rfl) (ex_buildSlice elt22 _ zs22 (evs [x_24, x_14, x_15, x_16, x_17, x_18, x_19, x_20, x_21, x_22, x_11]) s rfl (by kernel_rfl) (by decide)) ?_
  clear ha a s w; rintro _ w a ⟨g4, rfl, s⟩ ha
  refine st_val (.slice (some ⟨g4, 0, none⟩) 11 11) ha (by kernel_rfl) (by kernel_rfl) ?_
  clear ha a; intro a ha
  refine wpList_nil ?_
  refine then_normal ?_
  refine wp_seq ?_
  refine wp_seq ?_
  refine wp_region_lit ?_
  refine st_val (.int .i64 0) ha (by kernel_rfl) (by kernel_rfl) ?_
  clear ha a; intro a ha
  refine wpList_nil ?_
  refine then_normal ?_
  refine wp_block ?_
  refine wp_loop_rounds 12 ?_
  show Code.rounds _ _ _ 12 _ _
  rw [rounds_succ]
  refine wp_seq ?_
  refine wp_seq ?_
  refine wp_region_lit ?_
  refine st_val (.int .i64 0) ha (by kernel_rfl) (by kernel_rfl) ?_
  clear ha a; intro a ha
  refine st_val (.slice (some ⟨g4, 0, none⟩) 11 11) ha (by kernel_rfl) (by kernel_rfl) ?_
  clear ha a; intro a ha
  refine st_val (.int .i64 11) ha (by kernel_rfl) (by kernel_rfl) ?_
  clear ha a; intro a ha
  refine st_val (.bool true) ha (by kernel_rfl) (by kernel_rfl) ?_
  clear ha a; intro a ha
  refine wpList_nil ?_
  refine then_normal ?_
  refine wp_true ha rfl (by kernel_rfl) ?_
  refine wp_skip ?_
  refine then_normal ?_
  refine wp_seq ?_
  refine wp_block ?_
  refine wp_seq ?_
  refine wp_region_lit ?_
  refine st_val (.func (.func 9) #[] #[.pointer (some ⟨g2, 0, none⟩)]) ha (by kernel_rfl) (by kernel_rfl) ?_
  clear ha a; intro a ha
  refine st_val (.slice (some ⟨g4, 0, none⟩) 11 11) ha (by kernel_rfl) (by kernel_rfl) ?_
  clear ha a; intro a ha
  refine st_val (.int .i64 0) ha (by kernel_rfl) (by kernel_rfl) ?_
  clear ha a; intro a ha
  refine st_val (.pointer (some ⟨g4, 0, none⟩)) ha (by kernel_rfl) (run_indexAddr (kd := .i64) (i := 0) (n := 11) (c := 11) 0 rfl Try.underlying22 Try.sizeOf36 (by kernel_rfl) (by kernel_rfl) rfl (by first | assumption | omega) _) ?_
  clear ha a; intro a ha
  refine st_val (.agg (evv x_24).toArray) ha (by kernel_rfl) (run_loadN (of_ := 0) (evv x_24) (s.blkIs 0 rfl) rfl (by kernel_rfl) Try.isAgg36 Try.sizeOf36 rfl (Nat.le_of_ble_eq_true rfl)) ?_
  clear ha a; intro a ha
  replace s := (s.at_ (j := 3) rfl).at_ (j := 3) rfl
  replace s : St W (.blk g2 [.slice A1 10 10] 22 :: Own 36 16 A1 10 10 (evs goodL) :: .blk g4 (evs [x_24, x_14, x_15, x_16, x_17, x_18, x_19, x_20, x_21, x_22, x_11]) 36 :: .blk g3 (evv x_3) 36 :: L) w := s
  refine st_call ha (by kernel_rfl) (by kernel_rfl) (e_any W _ w g2 A1 x_24 s) ?_
  clear s w; rintro _ w ⟨A5, c6, rfl, s⟩
  refine ⟨_, rfl, ?_⟩; clear ha a; intro a ha
  refine st_call ha (by kernel_rfl) (by kernel_rfl) (finds_true W hW _ w A5 c6 (goodL ++ [x_24]) (Knows.own (j := 0) rfl) fx_1 (by decide) false 1 10 (lit_rule fx_0) s) ?_
  clear s w; rintro _ w ⟨rfl, s⟩
  refine ⟨_, rfl, ?_⟩; clear ha a; intro a ha
  refine st_val (.bool false) ha (by kernel_rfl) (by kernel_rfl) ?_
  clear ha a; intro a ha
  refine wpList_nil ?_
  refine then_normal ?_
  refine wp_false ha rfl (by kernel_rfl) ?_
  refine wp_skip ?_
  refine block_normal ?_
  refine then_normal ?_
  refine wp_region_lit ?_
  refine st_val (.int .i64 0) ha (by kernel_rfl) (by kernel_rfl) ?_
  clear ha a; intro a ha
  refine st_val (.int .i64 1) ha (by kernel_rfl) (by kernel_rfl) ?_
  clear ha a; intro a ha
  refine st_val (.int .i64 1) ha (by kernel_rfl) (by kernel_rfl) ?_
  clear ha a; intro a ha
  refine wpList_nil ?_
  refine then_normal ?_
  show Code.rounds _ _ _ 11 _ _
  rw [rounds_succ]
  refine wp_seq ?_
  refine wp_seq ?_
  refine wp_region_lit ?_
  refine st_val (.int .i64 1) ha (by kernel_rfl) (by kernel_rfl) ?_
  clear ha a; intro a ha
  refine st_val (.slice (some ⟨g4, 0, none⟩) 11 11) ha (by kernel_rfl) (by kernel_rfl) ?_
  clear ha a; intro a ha
  refine st_val (.int .i64 11) ha (by kernel_rfl) (by kernel_rfl) ?_
  clear ha a; intro a ha
  refine st_val (.bool true) ha (by kernel_rfl) (by kernel_rfl) ?_
  clear ha a; intro a ha
  refine wpList_nil ?_
  refine then_normal ?_
  refine wp_true ha rfl (by kernel_rfl) ?_
  refine wp_skip ?_
  refine then_normal ?_
  refine wp_seq ?_
  refine wp_block ?_
  refine wp_seq ?_
  refine wp_region_lit ?_
  refine st_val (.func (.func 9) #[] #[.pointer (some ⟨g2, 0, none⟩)]) ha (by kernel_rfl) (by kernel_rfl) ?_
  clear ha a; intro a ha
  refine st_val (.slice (some ⟨g4, 0, none⟩) 11 11) ha (by kernel_rfl) (by kernel_rfl) ?_
  clear ha a; intro a ha
  refine st_val (.int .i64 1) ha (by kernel_rfl) (by kernel_rfl) ?_
  clear ha a; intro a ha
  refine st_val (.pointer (some ⟨g4, 16, none⟩)) ha (by kernel_rfl) (run_indexAddr (kd := .i64) (i := 1) (n := 11) (c := 11) 1 rfl Try.underlying22 Try.sizeOf36 (by kernel_rfl) (by kernel_rfl) rfl (by first | assumption | omega) _) ?_
  clear ha a; intro a ha
  refine st_val (.agg (evv x_14).toArray) ha (by kernel_rfl) (run_loadN (of_ := 16) (evv x_14) (s.blkIs 3 rfl) rfl (by kernel_rfl) Try.isAgg36 Try.sizeOf36 rfl (Nat.le_of_ble_eq_true rfl)) ?_
  clear ha a; intro a ha
  replace s := (s.at_ (j := 2) rfl).at_ (j := 2) rfl
  replace s : St W (.blk g2 [.slice A1 10 10] 22 :: Own 36 16 A1 10 10 (evs goodL) :: Own 36 16 A5 11 c6 (evs (goodL ++ [x_24])) :: .blk g4 (evs [x_24, x_14, x_15, x_16, x_17, x_18, x_19, x_20, x_21, x_22, x_11]) 36 :: .blk g3 (evv x_3) 36 :: L) w := s
  refine st_call ha (by kernel_rfl) (by kernel_rfl) (e_any W _ w g2 A1 x_14 s) ?_
  clear s w; rintro _ w ⟨A7, c8, rfl, s⟩
  refine ⟨_, rfl, ?_⟩; clear ha a; intro a ha
  refine st_call ha (by kernel_rfl) (by kernel_rfl) (finds_true W hW _ w A7 c8 (goodL ++ [x_14]) (Knows.own (j := 0) rfl) fx_3 (by decide) false 1 10 (lit_rule fx_2) s) ?_
  clear s w; rintro _ w ⟨rfl, s⟩
  replace s := ((((s.at_ (j := 5) rfl).at_ (j := 5) rfl).at_ (j := 4) rfl).at_ (j := 4) rfl).at_ (j := 4) rfl
  replace s : St W (Own 36 16 A7 11 c8 (evs (goodL ++ [x_14])) :: .blk g2 [.slice A1 10 10] 22 :: Own 36 16 A1 10 10 (evs goodL) :: .blk g4 (evs [x_24, x_14, x_15, x_16, x_17, x_18, x_19, x_20, x_21, x_22, x_11]) 36 :: .blk g3 (evv x_3) 36 :: L) w := s.keep 5 1
  refine ⟨_, rfl, ?_⟩; clear ha a; intro a ha
  refine st_val (.bool false) ha (by kernel_rfl) (by kernel_rfl) ?_
  clear ha a; intro a ha
  refine wpList_nil ?_
  refine then_normal ?_
  refine wp_false ha rfl (by kernel_rfl) ?_
  refine wp_skip ?_
  refine block_normal ?_
  refine then_normal ?_
  refine wp_region_lit ?_
  refine st_val (.int .i64 1) ha (by kernel_rfl) (by kernel_rfl) ?_
  clear ha a; intro a ha
  refine st_val (.int .i64 2) ha (by kernel_rfl) (by kernel_rfl) ?_
  clear ha a; intro a ha
  refine st_val (.int .i64 2) ha (by kernel_rfl) (by kernel_rfl) ?_
  clear ha a; intro a ha
  refine wpList_nil ?_
  refine then_normal ?_
  show Code.rounds _ _ _ 10 _ _
  rw [rounds_succ]
  refine wp_seq ?_
  refine wp_seq ?_
  refine wp_region_lit ?_
  refine st_val (.int .i64 2) ha (by kernel_rfl) (by kernel_rfl) ?_
  clear ha a; intro a ha
  refine st_val (.slice (some ⟨g4, 0, none⟩) 11 11) ha (by kernel_rfl) (by kernel_rfl) ?_
  clear ha a; intro a ha
  refine st_val (.int .i64 11) ha (by kernel_rfl) (by kernel_rfl) ?_
  clear ha a; intro a ha
  refine st_val (.bool true) ha (by kernel_rfl) (by kernel_rfl) ?_
  clear ha a; intro a ha
  refine wpList_nil ?_
  refine then_normal ?_
  refine wp_true ha rfl (by kernel_rfl) ?_
  refine wp_skip ?_
  refine then_normal ?_
  refine wp_seq ?_
  refine wp_block ?_
  refine wp_seq ?_
  refine wp_region_lit ?_
  refine st_val (.func (.func 9) #[] #[.pointer (some ⟨g2, 0, none⟩)]) ha (by kernel_rfl) (by kernel_rfl) ?_
  clear ha a; intro a ha
  refine st_val (.slice (some ⟨g4, 0, none⟩) 11 11) ha (by kernel_rfl) (by kernel_rfl) ?_
  clear ha a; intro a ha
  refine st_val (.int .i64 2) ha (by kernel_rfl) (by kernel_rfl) ?_
  clear ha a; intro a ha
  refine st_val (.pointer (some ⟨g4, 32, none⟩)) ha (by kernel_rfl) (run_indexAddr (kd := .i64) (i := 2) (n := 11) (c := 11) 2 rfl Try.underlying22 Try.sizeOf36 (by kernel_rfl) (by kernel_rfl) rfl (by first | assumption | omega) _) ?_
  clear ha a; intro a ha
  refine st_val (.agg (evv x_15).toArray) ha (by kernel_rfl) (run_loadN (of_ := 32) (evv x_15) (s.blkIs 3 rfl) rfl (by kernel_rfl) Try.isAgg36 Try.sizeOf36 rfl (Nat.le_of_ble_eq_true rfl)) ?_
  clear ha a; intro a ha
  replace s := (s.at_ (j := 2) rfl).at_ (j := 2) rfl
  replace s : St W (.blk g2 [.slice A1 10 10] 22 :: Own 36 16 A1 10 10 (evs goodL) :: Own 36 16 A7 11 c8 (evs (goodL ++ [x_14])) :: .blk g4 (evs [x_24, x_14, x_15, x_16, x_17, x_18, x_19, x_20, x_21, x_22, x_11]) 36 :: .blk g3 (evv x_3) 36 :: L) w := s
  refine st_call ha (by kernel_rfl) (by kernel_rfl) (e_any W _ w g2 A1 x_15 s) ?_
  clear s w; rintro _ w ⟨A9, c10, rfl, s⟩
  refine ⟨_, rfl, ?_⟩; clear ha a; intro a ha
  refine st_call ha (by kernel_rfl) (by kernel_rfl) (finds_true W hW _ w A9 c10 (goodL ++ [x_15]) (Knows.own (j := 0) rfl) fx_5 (by decide) false 1 10 (lit_rule fx_4) s) ?_
  clear s w; rintro _ w ⟨rfl, s⟩
  replace s := ((((s.at_ (j := 5) rfl).at_ (j := 5) rfl).at_ (j := 4) rfl).at_ (j := 4) rfl).at_ (j := 4) rfl
  replace s : St W (Own 36 16 A9 11 c10 (evs (goodL ++ [x_15])) :: .blk g2 [.slice A1 10 10] 22 :: Own 36 16 A1 10 10 (evs goodL) :: .blk g4 (evs [x_24, x_14, x_15, x_16, x_17, x_18, x_19, x_20, x_21, x_22, x_11]) 36 :: .blk g3 (evv x_3) 36 :: L) w := s.keep 5 1
  refine ⟨_, rfl, ?_⟩; clear ha a; intro a ha
  refine st_val (.bool false) ha (by kernel_rfl) (by kernel_rfl) ?_
  clear ha a; intro a ha
  refine wpList_nil ?_
  refine then_normal ?_
  refine wp_false ha rfl (by kernel_rfl) ?_
  refine wp_skip ?_
  refine block_normal ?_
  refine then_normal ?_
  refine wp_region_lit ?_
  refine st_val (.int .i64 2) ha (by kernel_rfl) (by kernel_rfl) ?_
  clear ha a; intro a ha
  refine st_val (.int .i64 3) ha (by kernel_rfl) (by kernel_rfl) ?_
  clear ha a; intro a ha
  refine st_val (.int .i64 3) ha (by kernel_rfl) (by kernel_rfl) ?_
  clear ha a; intro a ha
  refine wpList_nil ?_
  refine then_normal ?_
  show Code.rounds _ _ _ 9 _ _
  rw [rounds_succ]
  refine wp_seq ?_
  refine wp_seq ?_
  refine wp_region_lit ?_
  refine st_val (.int .i64 3) ha (by kernel_rfl) (by kernel_rfl) ?_
  clear ha a; intro a ha
  refine st_val (.slice (some ⟨g4, 0, none⟩) 11 11) ha (by kernel_rfl) (by kernel_rfl) ?_
  clear ha a; intro a ha
  refine st_val (.int .i64 11) ha (by kernel_rfl) (by kernel_rfl) ?_
  clear ha a; intro a ha
  refine st_val (.bool true) ha (by kernel_rfl) (by kernel_rfl) ?_
  clear ha a; intro a ha
  refine wpList_nil ?_
  refine then_normal ?_
  refine wp_true ha rfl (by kernel_rfl) ?_
  refine wp_skip ?_
  refine then_normal ?_
  refine wp_seq ?_
  refine wp_block ?_
  refine wp_seq ?_
  refine wp_region_lit ?_
  refine st_val (.func (.func 9) #[] #[.pointer (some ⟨g2, 0, none⟩)]) ha (by kernel_rfl) (by kernel_rfl) ?_
  clear ha a; intro a ha
  refine st_val (.slice (some ⟨g4, 0, none⟩) 11 11) ha (by kernel_rfl) (by kernel_rfl) ?_
  clear ha a; intro a ha
  refine st_val (.int .i64 3) ha (by kernel_rfl) (by kernel_rfl) ?_
  clear ha a; intro a ha
  refine st_val (.pointer (some ⟨g4, 48, none⟩)) ha (by kernel_rfl) (run_indexAddr (kd := .i64) (i := 3) (n := 11) (c := 11) 3 rfl Try.underlying22 Try.sizeOf36 (by kernel_rfl) (by kernel_rfl) rfl (by first | assumption | omega) _) ?_
  clear ha a; intro a ha
  refine st_val (.agg (evv x_16).toArray) ha (by kernel_rfl) (run_loadN (of_ := 48) (evv x_16) (s.blkIs 3 rfl) rfl (by kernel_rfl) Try.isAgg36 Try.sizeOf36 rfl (Nat.le_of_ble_eq_true rfl)) ?_
  clear ha a; intro a ha
  replace s := (s.at_ (j := 2) rfl).at_ (j := 2) rfl
  replace s : St W (.blk g2 [.slice A1 10 10] 22 :: Own 36 16 A1 10 10 (evs goodL) :: Own 36 16 A9 11 c10 (evs (goodL ++ [x_15])) :: .blk g4 (evs [x_24, x_14, x_15, x_16, x_17, x_18, x_19, x_20, x_21, x_22, x_11]) 36 :: .blk g3 (evv x_3) 36 :: L) w := s
  refine st_call ha (by kernel_rfl) (by kernel_rfl) (e_any W _ w g2 A1 x_16 s) ?_
  clear s w; rintro _ w ⟨A11, c12, rfl, s⟩
  refine ⟨_, rfl, ?_⟩; clear ha a; intro a ha
  refine st_call ha (by kernel_rfl) (by kernel_rfl) (finds_true W hW _ w A11 c12 (goodL ++ [x_16]) (Knows.own (j := 0) rfl) fx_7 (by decide) false 1 10 (lit_rule fx_6) s) ?_
  clear s w; rintro _ w ⟨rfl, s⟩
  replace s := ((((s.at_ (j := 5) rfl).at_ (j := 5) rfl).at_ (j := 4) rfl).at_ (j := 4) rfl).at_ (j := 4) rfl
  replace s : St W (Own 36 16 A11 11 c12 (evs (goodL ++ [x_16])) :: .blk g2 [.slice A1 10 10] 22 :: Own 36 16 A1 10 10 (evs goodL) :: .blk g4 (evs [x_24, x_14, x_15, x_16, x_17, x_18, x_19, x_20, x_21, x_22, x_11]) 36 :: .blk g3 (evv x_3) 36 :: L) w := s.keep 5 1
  refine ⟨_, rfl, ?_⟩; clear ha a; intro a ha
  refine st_val (.bool false) ha (by kernel_rfl) (by kernel_rfl) ?_
  clear ha a; intro a ha
  refine wpList_nil ?_
  refine then_normal ?_
  refine wp_false ha rfl (by kernel_rfl) ?_
  refine wp_skip ?_
  refine block_normal ?_
  refine then_normal ?_
  refine wp_region_lit ?_
  refine st_val (.int .i64 3) ha (by kernel_rfl) (by kernel_rfl) ?_
  clear ha a; intro a ha
  refine st_val (.int .i64 4) ha (by kernel_rfl) (by kernel_rfl) ?_
  clear ha a; intro a ha
  refine st_val (.int .i64 4) ha (by kernel_rfl) (by kernel_rfl) ?_
  clear ha a; intro a ha
  refine wpList_nil ?_
  refine then_normal ?_
  show Code.rounds _ _ _ 8 _ _
  rw [rounds_succ]
  refine wp_seq ?_
  refine wp_seq ?_
  refine wp_region_lit ?_
  refine st_val (.int .i64 4) ha (by kernel_rfl) (by kernel_rfl) ?_
  clear ha a; intro a ha
  refine st_val (.slice (some ⟨g4, 0, none⟩) 11 11) ha (by kernel_rfl) (by kernel_rfl) ?_
  clear ha a; intro a ha
  refine st_val (.int .i64 11) ha (by kernel_rfl) (by kernel_rfl) ?_
  clear ha a; intro a ha
  refine st_val (.bool true) ha (by kernel_rfl) (by kernel_rfl) ?_
  clear ha a; intro a ha
  refine wpList_nil ?_
  refine then_normal ?_
  refine wp_true ha rfl (by kernel_rfl) ?_
  refine wp_skip ?_
  refine then_normal ?_
  refine wp_seq ?_
  refine wp_block ?_
  refine wp_seq ?_
  refine wp_region_lit ?_
  refine st_val (.func (.func 9) #[] #[.pointer (some ⟨g2, 0, none⟩)]) ha (by kernel_rfl) (by kernel_rfl) ?_
  clear ha a; intro a ha
  refine st_val (.slice (some ⟨g4, 0, none⟩) 11 11) ha (by kernel_rfl) (by kernel_rfl) ?_
  clear ha a; intro a ha
  refine st_val (.int .i64 4) ha (by kernel_rfl) (by kernel_rfl) ?_
  clear ha a; intro a ha
  refine st_val (.pointer (some ⟨g4, 64, none⟩)) ha (by kernel_rfl) (run_indexAddr (kd := .i64) (i := 4) (n := 11) (c := 11) 4 rfl Try.underlying22 Try.sizeOf36 (by kernel_rfl) (by kernel_rfl) rfl (by first | assumption | omega) _) ?_
  clear ha a; intro a ha
  refine st_val (.agg (evv x_17).toArray) ha (by kernel_rfl) (run_loadN (of_ := 64) (evv x_17) (s.blkIs 3 rfl) rfl (by kernel_rfl) Try.isAgg36 Try.sizeOf36 rfl (Nat.le_of_ble_eq_true rfl)) ?_
  clear ha a; intro a ha
  replace s := (s.at_ (j := 2) rfl).at_ (j := 2) rfl
  replace s : St W (.blk g2 [.slice A1 10 10] 22 :: Own 36 16 A1 10 10 (evs goodL) :: Own 36 16 A11 11 c12 (evs (goodL ++ [x_16])) :: .blk g4 (evs [x_24, x_14, x_15, x_16, x_17, x_18, x_19, x_20, x_21, x_22, x_11]) 36 :: .blk g3 (evv x_3) 36 :: L) w := s
  refine st_call ha (by kernel_rfl) (by kernel_rfl) (e_any W _ w g2 A1 x_17 s) ?_
  clear s w; rintro _ w ⟨A13, c14, rfl, s⟩
  refine ⟨_, rfl, ?_⟩; clear ha a; intro a ha
  refine st_call ha (by kernel_rfl) (by kernel_rfl) (finds_true W hW _ w A13 c14 (goodL ++ [x_17]) (Knows.own (j := 0) rfl) fx_9 (by decide) false 1 10 (lit_rule fx_8) s) ?_
  clear s w; rintro _ w ⟨rfl, s⟩
  replace s := ((((s.at_ (j := 5) rfl).at_ (j := 5) rfl).at_ (j := 4) rfl).at_ (j := 4) rfl).at_ (j := 4) rfl
  replace s : St W (Own 36 16 A13 11 c14 (evs (goodL ++ [x_17])) :: .blk g2 [.slice A1 10 10] 22 :: Own 36 16 A1 10 10 (evs goodL) :: .blk g4 (evs [x_24, x_14, x_15, x_16, x_17, x_18, x_19, x_20, x_21, x_22, x_11]) 36 :: .blk g3 (evv x_3) 36 :: L) w := s.keep 5 1
  refine ⟨_, rfl, ?_⟩; clear ha a; intro a ha
  refine st_val (.bool false) ha (by kernel_rfl) (by kernel_rfl) ?_
  clear ha a; intro a ha
  refine wpList_nil ?_
  refine then_normal ?_
  refine wp_false ha rfl (by kernel_rfl) ?_
  refine wp_skip ?_
  refine block_normal ?_
  refine then_normal ?_
  refine wp_region_lit ?_
  refine st_val (.int .i64 4) ha (by kernel_rfl) (by kernel_rfl) ?_
  clear ha a; intro a ha
  refine st_val (.int .i64 5) ha (by kernel_rfl) (by kernel_rfl) ?_
  clear ha a; intro a ha
  refine st_val (.int .i64 5) ha (by kernel_rfl) (by kernel_rfl) ?_
  clear ha a; intro a ha
  refine wpList_nil ?_
  refine then_normal ?_
  show Code.rounds _ _ _ 7 _ _
  rw [rounds_succ]
  refine wp_seq ?_
  refine wp_seq ?_
  refine wp_region_lit ?_
  refine st_val (.int .i64 5) ha (by kernel_rfl) (by kernel_rfl) ?_
  clear ha a; intro a ha
  refine st_val (.slice (some ⟨g4, 0, none⟩) 11 11) ha (by kernel_rfl) (by kernel_rfl) ?_
  clear ha a; intro a ha
  refine st_val (.int .i64 11) ha (by kernel_rfl) (by kernel_rfl) ?_
  clear ha a; intro a ha
  refine st_val (.bool true) ha (by kernel_rfl) (by kernel_rfl) ?_
  clear ha a; intro a ha
  refine wpList_nil ?_
  refine then_normal ?_
  refine wp_true ha rfl (by kernel_rfl) ?_
  refine wp_skip ?_
  refine then_normal ?_
  refine wp_seq ?_
  refine wp_block ?_
  refine wp_seq ?_
  refine wp_region_lit ?_
  refine st_val (.func (.func 9) #[] #[.pointer (some ⟨g2, 0, none⟩)]) ha (by kernel_rfl) (by kernel_rfl) ?_
  clear ha a; intro a ha
  refine st_val (.slice (some ⟨g4, 0, none⟩) 11 11) ha (by kernel_rfl) (by kernel_rfl) ?_
  clear ha a; intro a ha
  refine st_val (.int .i64 5) ha (by kernel_rfl) (by kernel_rfl) ?_
  clear ha a; intro a ha
  refine st_val (.pointer (some ⟨g4, 80, none⟩)) ha (by kernel_rfl) (run_indexAddr (kd := .i64) (i := 5) (n := 11) (c := 11) 5 rfl Try.underlying22 Try.sizeOf36 (by kernel_rfl) (by kernel_rfl) rfl (by first | assumption | omega) _) ?_
  clear ha a; intro a ha
  refine st_val (.agg (evv x_18).toArray) ha (by kernel_rfl) (run_loadN (of_ := 80) (evv x_18) (s.blkIs 3 rfl) rfl (by kernel_rfl) Try.isAgg36 Try.sizeOf36 rfl (Nat.le_of_ble_eq_true rfl)) ?_
  clear ha a; intro a ha
  replace s := (s.at_ (j := 2) rfl).at_ (j := 2) rfl
  replace s : St W (.blk g2 [.slice A1 10 10] 22 :: Own 36 16 A1 10 10 (evs goodL) :: Own 36 16 A13 11 c14 (evs (goodL ++ [x_17])) :: .blk g4 (evs [x_24, x_14, x_15, x_16, x_17, x_18, x_19, x_20, x_21, x_22, x_11]) 36 :: .blk g3 (evv x_3) 36 :: L) w := s
  refine st_call ha (by kernel_rfl) (by kernel_rfl) (e_any W _ w g2 A1 x_18 s) ?_
  clear s w; rintro _ w ⟨A15, c16, rfl, s⟩
  refine ⟨_, rfl, ?_⟩; clear ha a; intro a ha
  refine st_call ha (by kernel_rfl) (by kernel_rfl) (finds_true W hW _ w A15 c16 (goodL ++ [x_18]) (Knows.own (j := 0) rfl) fx_11 (by decide) false 1 10 (lit_rule fx_10) s) ?_
  clear s w; rintro _ w ⟨rfl, s⟩
  replace s := ((((s.at_ (j := 5) rfl).at_ (j := 5) rfl).at_ (j := 4) rfl).at_ (j := 4) rfl).at_ (j := 4) rfl
  replace s : St W (Own 36 16 A15 11 c16 (evs (goodL ++ [x_18])) :: .blk g2 [.slice A1 10 10] 22 :: Own 36 16 A1 10 10 (evs goodL) :: .blk g4 (evs [x_24, x_14, x_15, x_16, x_17, x_18, x_19, x_20, x_21, x_22, x_11]) 36 :: .blk g3 (evv x_3) 36 :: L) w := s.keep 5 1
  refine ⟨_, rfl, ?_⟩; clear ha a; intro a ha
  refine st_val (.bool false) ha (by kernel_rfl) (by kernel_rfl) ?_
  clear ha a; intro a ha
  refine wpList_nil ?_
  refine then_normal ?_
  refine wp_false ha rfl (by kernel_rfl) ?_
  refine wp_skip ?_
  refine block_normal ?_
  refine then_normal ?_
  refine wp_region_lit ?_
  refine st_val (.int .i64 5) ha (by kernel_rfl) (by kernel_rfl) ?_
  clear ha a; intro a ha
  refine st_val (.int .i64 6) ha (by kernel_rfl) (by kernel_rfl) ?_
  clear ha a; intro a ha
  refine st_val (.int .i64 6) ha (by kernel_rfl) (by kernel_rfl) ?_
  clear ha a; intro a ha
  refine wpList_nil ?_
  refine then_normal ?_
  show Code.rounds _ _ _ 6 _ _
  rw [rounds_succ]
  refine wp_seq ?_
  refine wp_seq ?_
  refine wp_region_lit ?_
  refine st_val (.int .i64 6) ha (by kernel_rfl) (by kernel_rfl) ?_
  clear ha a; intro a ha
  refine st_val (.slice (some ⟨g4, 0, none⟩) 11 11) ha (by kernel_rfl) (by kernel_rfl) ?_
  clear ha a; intro a ha
  refine st_val (.int .i64 11) ha (by kernel_rfl) (by kernel_rfl) ?_
  clear ha a; intro a ha
  refine st_val (.bool true) ha (by kernel_rfl) (by kernel_rfl) ?_
  clear ha a; intro a ha
  refine wpList_nil ?_
  refine then_normal ?_
  refine wp_true ha rfl (by kernel_rfl) ?_
  refine wp_skip ?_
  refine then_normal ?_
  refine wp_seq ?_
  refine wp_block ?_
  refine wp_seq ?_
  refine wp_region_lit ?_
  refine st_val (.func (.func 9) #[] #[.pointer (some ⟨g2, 0, none⟩)]) ha (by kernel_rfl) (by kernel_rfl) ?_
  clear ha a; intro a ha
  refine st_val (.slice (some ⟨g4, 0, none⟩) 11 11) ha (by kernel_rfl) (by kernel_rfl) ?_
  clear ha a; intro a ha
  refine st_val (.int .i64 6) ha (by kernel_rfl) (by kernel_rfl) ?_
  clear ha a; intro a ha
  refine st_val (.pointer (some ⟨g4, 96, none⟩)) ha (by kernel_rfl) (run_indexAddr (kd := .i64) (i := 6) (n := 11) (c := 11) 6 rfl Try.underlying22 Try.sizeOf36 (by kernel_rfl) (by kernel_rfl) rfl (by first | assumption | omega) _) ?_
  clear ha a; intro a ha
  refine st_val (.agg (evv x_19).toArray) ha (by kernel_rfl) (run_loadN (of_ := 96) (evv x_19) (s.blkIs 3 rfl) rfl (by kernel_rfl) Try.isAgg36 Try.sizeOf36 rfl (Nat.le_of_ble_eq_true rfl)) ?_
  clear ha a; intro a ha
  replace s := (s.at_ (j := 2) rfl).at_ (j := 2) rfl
  replace s : St W (.blk g2 [.slice A1 10 10] 22 :: Own 36 16 A1 10 10 (evs goodL) :: Own 36 16 A15 11 c16 (evs (goodL ++ [x_18])) :: .blk g4 (evs [x_24, x_14, x_15, x_16, x_17, x_18, x_19, x_20, x_21, x_22, x_11]) 36 :: .blk g3 (evv x_3) 36 :: L) w := s
  refine st_call ha (by kernel_rfl) (by kernel_rfl) (e_any W _ w g2 A1 x_19 s) ?_
  clear s w; rintro _ w ⟨A17, c18, rfl, s⟩
  refine ⟨_, rfl, ?_⟩; clear ha a; intro a ha
  refine st_call ha (by kernel_rfl) (by kernel_rfl) (finds_true W hW _ w A17 c18 (goodL ++ [x_19]) (Knows.own (j := 0) rfl) fx_13 (by decide) false 1 10 (lit_rule fx_12) s) ?_
  clear s w; rintro _ w ⟨rfl, s⟩
  replace s := ((((s.at_ (j := 5) rfl).at_ (j := 5) rfl).at_ (j := 4) rfl).at_ (j := 4) rfl).at_ (j := 4) rfl
  replace s : St W (Own 36 16 A17 11 c18 (evs (goodL ++ [x_19])) :: .blk g2 [.slice A1 10 10] 22 :: Own 36 16 A1 10 10 (evs goodL) :: .blk g4 (evs [x_24, x_14, x_15, x_16, x_17, x_18, x_19, x_20, x_21, x_22, x_11]) 36 :: .blk g3 (evv x_3) 36 :: L) w := s.keep 5 1
  refine ⟨_, rfl, ?_⟩; clear ha a; intro a ha
  refine st_val (.bool false) ha (by kernel_rfl) (by kernel_rfl) ?_
  clear ha a; intro a ha
  refine wpList_nil ?_
  refine then_normal ?_
  refine wp_false ha rfl (by kernel_rfl) ?_
  refine wp_skip ?_
  refine block_normal ?_
  refine then_normal ?_
  refine wp_region_lit ?_
  refine st_val (.int .i64 6) ha (by kernel_rfl) (by kernel_rfl) ?_
  clear ha a; intro a ha
  refine st_val (.int .i64 7) ha (by kernel_rfl) (by kernel_rfl) ?_
  clear ha a; intro a ha
  refine st_val (.int .i64 7) ha (by kernel_rfl) (by kernel_rfl) ?_
  clear ha a; intro a ha
  refine wpList_nil ?_
  refine then_normal ?_
  show Code.rounds _ _ _ 5 _ _
  rw [rounds_succ]
  refine wp_seq ?_
  refine wp_seq ?_
  refine wp_region_lit ?_
  refine st_val (.int .i64 7) ha (by kernel_rfl) (by kernel_rfl) ?_
  clear ha a; intro a ha
  refine st_val (.slice (some ⟨g4, 0, none⟩) 11 11) ha (by kernel_rfl) (by kernel_rfl) ?_
  clear ha a; intro a ha
  refine st_val (.int .i64 11) ha (by kernel_rfl) (by kernel_rfl) ?_
  clear ha a; intro a ha
  refine st_val (.bool true) ha (by kernel_rfl) (by kernel_rfl) ?_
  clear ha a; intro a ha
  refine wpList_nil ?_
  refine then_normal ?_
  refine wp_true ha rfl (by kernel_rfl) ?_
  refine wp_skip ?_
  refine then_normal ?_
  refine wp_seq ?_
  refine wp_block ?_
  refine wp_seq ?_
  refine wp_region_lit ?_
  refine st_val (.func (.func 9) #[] #[.pointer (some ⟨g2, 0, none⟩)]) ha (by kernel_rfl) (by kernel_rfl) ?_
  clear ha a; intro a ha
  refine st_val (.slice (some ⟨g4, 0, none⟩) 11 11) ha (by kernel_rfl) (by kernel_rfl) ?_
  clear ha a; intro a ha
  refine st_val (.int .i64 7) ha (by kernel_rfl) (by kernel_rfl) ?_
  clear ha a; intro a ha
  refine st_val (.pointer (some ⟨g4, 112, none⟩)) ha (by kernel_rfl) (run_indexAddr (kd := .i64) (i := 7) (n := 11) (c := 11) 7 rfl Try.underlying22 Try.sizeOf36 (by kernel_rfl) (by kernel_rfl) rfl (by first | assumption | omega) _) ?_
  clear ha a; intro a ha
  refine st_val (.agg (evv x_20).toArray) ha (by kernel_rfl) (run_loadN (of_ := 112) (evv x_20) (s.blkIs 3 rfl) rfl (by kernel_rfl) Try.isAgg36 Try.sizeOf36 rfl (Nat.le_of_ble_eq_true rfl)) ?_
  clear ha a; intro a ha
  replace s := (s.at_ (j := 2) rfl).at_ (j := 2) rfl
  replace s : St W (.blk g2 [.slice A1 10 10] 22 :: Own 36 16 A1 10 10 (evs goodL) :: Own 36 16 A17 11 c18 (evs (goodL ++ [x_19])) :: .blk g4 (evs [x_24, x_14, x_15, x_16, x_17, x_18, x_19, x_20, x_21, x_22, x_11]) 36 :: .blk g3 (evv x_3) 36 :: L) w := s
  refine st_call ha (by kernel_rfl) (by kernel_rfl) (e_any W _ w g2 A1 x_20 s) ?_
  clear s w; rintro _ w ⟨A19, c20, rfl, s⟩
  refine ⟨_, rfl, ?_⟩; clear ha a; intro a ha
  refine st_call ha (by kernel_rfl) (by kernel_rfl) (finds_true W hW _ w A19 c20 (goodL ++ [x_20]) (Knows.own (j := 0) rfl) fx_15 (by decide) false 1 10 (lit_rule fx_14) s) ?_
  clear s w; rintro _ w ⟨rfl, s⟩
  replace s := ((((s.at_ (j := 5) rfl).at_ (j := 5) rfl).at_ (j := 4) rfl).at_ (j := 4) rfl).at_ (j := 4) rfl
  replace s : St W (Own 36 16 A19 11 c20 (evs (goodL ++ [x_20])) :: .blk g2 [.slice A1 10 10] 22 :: Own 36 16 A1 10 10 (evs goodL) :: .blk g4 (evs [x_24, x_14, x_15, x_16, x_17, x_18, x_19, x_20, x_21, x_22, x_11]) 36 :: .blk g3 (evv x_3) 36 :: L) w := s.keep 5 1
  refine ⟨_, rfl, ?_⟩; clear ha a; intro a ha
  refine st_val (.bool false) ha (by kernel_rfl) (by kernel_rfl) ?_
  clear ha a; intro a ha
  refine wpList_nil ?_
  refine then_normal ?_
  refine wp_false ha rfl (by kernel_rfl) ?_
  refine wp_skip ?_
  refine block_normal ?_
  refine then_normal ?_
  refine wp_region_lit ?_
  refine st_val (.int .i64 7) ha (by kernel_rfl) (by kernel_rfl) ?_
  clear ha a; intro a ha
  refine st_val (.int .i64 8) ha (by kernel_rfl) (by kernel_rfl) ?_
  clear ha a; intro a ha
  refine st_val (.int .i64 8) ha (by kernel_rfl) (by kernel_rfl) ?_
  clear ha a; intro a ha
  refine wpList_nil ?_
  refine then_normal ?_
  show Code.rounds _ _ _ 4 _ _
  rw [rounds_succ]
  refine wp_seq ?_
  refine wp_seq ?_
  refine wp_region_lit ?_
  refine st_val (.int .i64 8) ha (by kernel_rfl) (by kernel_rfl) ?_
  clear ha a; intro a ha
  refine st_val (.slice (some ⟨g4, 0, none⟩) 11 11) ha (by kernel_rfl) (by kernel_rfl) ?_
  clear ha a; intro a ha
  refine st_val (.int .i64 11) ha (by kernel_rfl) (by kernel_rfl) ?_
  clear ha a; intro a ha
  refine st_val (.bool true) ha (by kernel_rfl) (by kernel_rfl) ?_
  clear ha a; intro a ha
  refine wpList_nil ?_
  refine then_normal ?_
  refine wp_true ha rfl (by kernel_rfl) ?_
  refine wp_skip ?_
  refine then_normal ?_
  refine wp_seq ?_
  refine wp_block ?_
  refine wp_seq ?_
  refine wp_region_lit ?_
  refine st_val (.func (.func 9) #[] #[.pointer (some ⟨g2, 0, none⟩)]) ha (by kernel_rfl) (by kernel_rfl) ?_
  clear ha a; intro a ha
  refine st_val (.slice (some ⟨g4, 0, none⟩) 11 11) ha (by kernel_rfl) (by kernel_rfl) ?_
  clear ha a; intro a ha
  refine st_val (.int .i64 8) ha (by kernel_rfl) (by kernel_rfl) ?_
  clear ha a; intro a ha
  refine st_val (.pointer (some ⟨g4, 128, none⟩)) ha (by kernel_rfl) (run_indexAddr (kd := .i64) (i := 8) (n := 11) (c := 11) 8 rfl Try.underlying22 Try.sizeOf36 (by kernel_rfl) (by kernel_rfl) rfl (by first | assumption | omega) _) ?_
  clear ha a; intro a ha
  refine st_val (.agg (evv x_21).toArray) ha (by kernel_rfl) (run_loadN (of_ := 128) (evv x_21) (s.blkIs 3 rfl) rfl (by kernel_rfl) Try.isAgg36 Try.sizeOf36 rfl (Nat.le_of_ble_eq_true rfl)) ?_
  clear ha a; intro a ha
  replace s := (s.at_ (j := 2) rfl).at_ (j := 2) rfl
  replace s : St W (.blk g2 [.slice A1 10 10] 22 :: Own 36 16 A1 10 10 (evs goodL) :: Own 36 16 A19 11 c20 (evs (goodL ++ [x_20])) :: .blk g4 (evs [x_24, x_14, x_15, x_16, x_17, x_18, x_19, x_20, x_21, x_22, x_11]) 36 :: .blk g3 (evv x_3) 36 :: L) w := s
  refine st_call ha (by kernel_rfl) (by kernel_rfl) (e_any W _ w g2 A1 x_21 s) ?_
  clear s w; rintro _ w ⟨A21, c22, rfl, s⟩
  refine ⟨_, rfl, ?_⟩; clear ha a; intro a ha
  refine st_call ha (by kernel_rfl) (by kernel_rfl) (finds_true W hW _ w A21 c22 (goodL ++ [x_21]) (Knows.own (j := 0) rfl) fx_17 (by decide) false 1 10 (lit_rule fx_16) s) ?_
  clear s w; rintro _ w ⟨rfl, s⟩
  replace s := ((((s.at_ (j := 5) rfl).at_ (j := 5) rfl).at_ (j := 4) rfl).at_ (j := 4) rfl).at_ (j := 4) rfl
  replace s : St W (Own 36 16 A21 11 c22 (evs (goodL ++ [x_21])) :: .blk g2 [.slice A1 10 10] 22 :: Own 36 16 A1 10 10 (evs goodL) :: .blk g4 (evs [x_24, x_14, x_15, x_16, x_17, x_18, x_19, x_20, x_21, x_22, x_11]) 36 :: .blk g3 (evv x_3) 36 :: L) w := s.keep 5 1
  refine ⟨_, rfl, ?_⟩; clear ha a; intro a ha
  refine st_val (.bool false) ha (by kernel_rfl) (by kernel_rfl) ?_
  clear ha a; intro a ha
  refine wpList_nil ?_
  refine then_normal ?_
  refine wp_false ha rfl (by kernel_rfl) ?_
  refine wp_skip ?_
  refine block_normal ?_
  refine then_normal ?_
  refine wp_region_lit ?_
  refine st_val (.int .i64 8) ha (by kernel_rfl) (by kernel_rfl) ?_
  clear ha a; intro a ha
  refine st_val (.int .i64 9) ha (by kernel_rfl) (by kernel_rfl) ?_
  clear ha a; intro a ha
  refine st_val (.int .i64 9) ha (by kernel_rfl) (by kernel_rfl) ?_
  clear ha a; intro a ha
  refine wpList_nil ?_
  refine then_normal ?_
  show Code.rounds _ _ _ 3 _ _
  rw [rounds_succ]
  refine wp_seq ?_
  refine wp_seq ?_
  refine wp_region_lit ?_
  refine st_val (.int .i64 9) ha (by kernel_rfl) (by kernel_rfl) ?_
  clear ha a; intro a ha
  refine st_val (.slice (some ⟨g4, 0, none⟩) 11 11) ha (by kernel_rfl) (by kernel_rfl) ?_
  clear ha a; intro a ha
  refine st_val (.int .i64 11) ha (by kernel_rfl) (by kernel_rfl) ?_
  clear ha a; intro a ha
  refine st_val (.bool true) ha (by kernel_rfl) (by kernel_rfl) ?_
  clear ha a; intro a ha
  refine wpList_nil ?_
  refine then_normal ?_
  refine wp_true ha rfl (by kernel_rfl) ?_
  refine wp_skip ?_
  refine then_normal ?_
  refine wp_seq ?_
  refine wp_block ?_
  refine wp_seq ?_
  refine wp_region_lit ?_
  refine st_val (.func (.func 9) #[] #[.pointer (some ⟨g2, 0, none⟩)]) ha (by kernel_rfl) (by kernel_rfl) ?_
  clear ha a; intro a ha
  refine st_val (.slice (some ⟨g4, 0, none⟩) 11 11) ha (by kernel_rfl) (by kernel_rfl) ?_
  clear ha a; intro a ha
  refine st_val (.int .i64 9) ha (by kernel_rfl) (by kernel_rfl) ?_
  clear ha a; intro a ha
  refine st_val (.pointer (some ⟨g4, 144, none⟩)) ha (by kernel_rfl) (run_indexAddr (kd := .i64) (i := 9) (n := 11) (c := 11) 9 rfl Try.underlying22 Try.sizeOf36 (by kernel_rfl) (by kernel_rfl) rfl (by first | assumption | omega) _) ?_
  clear ha a; intro a ha
  refine st_val (.agg (evv x_22).toArray) ha (by kernel_rfl) (run_loadN (of_ := 144) (evv x_22) (s.blkIs 3 rfl) rfl (by kernel_rfl) Try.isAgg36 Try.sizeOf36 rfl (Nat.le_of_ble_eq_true rfl)) ?_
  clear ha a; intro a ha
  replace s := (s.at_ (j := 2) rfl).at_ (j := 2) rfl
  replace s : St W (.blk g2 [.slice A1 10 10] 22 :: Own 36 16 A1 10 10 (evs goodL) :: Own 36 16 A21 11 c22 (evs (goodL ++ [x_21])) :: .blk g4 (evs [x_24, x_14, x_15, x_16, x_17, x_18, x_19, x_20, x_21, x_22, x_11]) 36 :: .blk g3 (evv x_3) 36 :: L) w := s
  refine st_call ha (by kernel_rfl) (by kernel_rfl) (e_any W _ w g2 A1 x_22 s) ?_
  clear s w; rintro _ w ⟨A23, c24, rfl, s⟩
  refine ⟨_, rfl, ?_⟩; clear ha a; intro a ha
  refine st_call ha (by kernel_rfl) (by kernel_rfl) (finds_true W hW _ w A23 c24 (goodL ++ [x_22]) (Knows.own (j := 0) rfl) fx_19 (by decide) false 1 10 (lit_rule fx_18) s) ?_
  clear s w; rintro _ w ⟨rfl, s⟩
  replace s := ((((s.at_ (j := 5) rfl).at_ (j := 5) rfl).at_ (j := 4) rfl).at_ (j := 4) rfl).at_ (j := 4) rfl
  replace s : St W (Own 36 16 A23 11 c24 (evs (goodL ++ [x_22])) :: .blk g2 [.slice A1 10 10] 22 :: Own 36 16 A1 10 10 (evs goodL) :: .blk g4 (evs [x_24, x_14, x_15, x_16, x_17, x_18, x_19, x_20, x_21, x_22, x_11]) 36 :: .blk g3 (evv x_3) 36 :: L) w := s.keep 5 1
  refine ⟨_, rfl, ?_⟩; clear ha a; intro a ha
  refine st_val (.bool false) ha (by kernel_rfl) (by kernel_rfl) ?_
  clear ha a; intro a ha
  refine wpList_nil ?_
  refine then_normal ?_
  refine wp_false ha rfl (by kernel_rfl) ?_
  refine wp_skip ?_
  refine block_normal ?_
  refine then_normal ?_
  refine wp_region_lit ?_
  refine st_val (.int .i64 9) ha (by kernel_rfl) (by kernel_rfl) ?_
  clear ha a; intro a ha
  refine st_val (.int .i64 10) ha (by kernel_rfl) (by kernel_rfl) ?_
  clear ha a; intro a ha
  refine st_val (.int .i64 10) ha (by kernel_rfl) (by kernel_rfl) ?_
  clear ha a; intro a ha
  refine wpList_nil ?_
  refine then_normal ?_
  show Code.rounds _ _ _ 2 _ _
  rw [rounds_succ]
  refine wp_seq ?_
  refine wp_seq ?_
  refine wp_region_lit ?_
  refine st_val (.int .i64 10) ha (by kernel_rfl) (by kernel_rfl) ?_
  clear ha a; intro a ha
  refine st_val (.slice (some ⟨g4, 0, none⟩) 11 11) ha (by kernel_rfl) (by kernel_rfl) ?_
  clear ha a; intro a ha
  refine st_val (.int .i64 11) ha (by kernel_rfl) (by kernel_rfl) ?_
  clear ha a; intro a ha
  refine st_val (.bool true) ha (by kernel_rfl) (by kernel_rfl) ?_
  clear ha a; intro a ha
  refine wpList_nil ?_
  refine then_normal ?_
  refine wp_true ha rfl (by kernel_rfl) ?_
  refine wp_skip ?_
  refine then_normal ?_
  refine wp_seq ?_
  refine wp_block ?_
  refine wp_seq ?_
  refine wp_region_lit ?_
  refine st_val (.func (.func 9) #[] #[.pointer (some ⟨g2, 0, none⟩)]) ha (by kernel_rfl) (by kernel_rfl) ?_
  clear ha a; intro a ha
  refine st_val (.slice (some ⟨g4, 0, none⟩) 11 11) ha (by kernel_rfl) (by kernel_rfl) ?_
  clear ha a; intro a ha
  refine st_val (.int .i64 10) ha (by kernel_rfl) (by kernel_rfl) ?_
  clear ha a; intro a ha
  refine st_val (.pointer (some ⟨g4, 160, none⟩)) ha (by kernel_rfl) (run_indexAddr (kd := .i64) (i := 10) (n := 11) (c := 11) 10 rfl Try.underlying22 Try.sizeOf36 (by kernel_rfl) (by kernel_rfl) rfl (by first | assumption | omega) _) ?_
  clear ha a; intro a ha
  refine st_val (.agg (evv x_11).toArray) ha (by kernel_rfl) (run_loadN (of_ := 160) (evv x_11) (s.blkIs 3 rfl) rfl (by kernel_rfl) Try.isAgg36 Try.sizeOf36 rfl (Nat.le_of_ble_eq_true rfl)) ?_
  clear ha a; intro a ha
  replace s := (s.at_ (j := 2) rfl).at_ (j := 2) rfl
  replace s : St W (.blk g2 [.slice A1 10 10] 22 :: Own 36 16 A1 10 10 (evs goodL) :: Own 36 16 A23 11 c24 (evs (goodL ++ [x_22])) :: .blk g4 (evs [x_24, x_14, x_15, x_16, x_17, x_18, x_19, x_20, x_21, x_22, x_11]) 36 :: .blk g3 (evv x_3) 36 :: L) w := s
  refine st_call ha (by kernel_rfl) (by kernel_rfl) (e_any W _ w g2 A1 x_11 s) ?_
  clear s w; rintro _ w ⟨A25, c26, rfl, s⟩
  refine ⟨_, rfl, ?_⟩; clear ha a; intro a ha
  refine st_call ha (by kernel_rfl) (by kernel_rfl) (finds_true W hW _ w A25 c26 (goodL ++ [x_11]) (Knows.own (j := 0) rfl) fx_21 (by decide) false 1 10 (lit_rule fx_20) s) ?_
  clear s w; rintro _ w ⟨rfl, s⟩
  replace s := ((((s.at_ (j := 5) rfl).at_ (j := 5) rfl).at_ (j := 4) rfl).at_ (j := 4) rfl).at_ (j := 4) rfl
  replace s : St W (Own 36 16 A25 11 c26 (evs (goodL ++ [x_11])) :: .blk g2 [.slice A1 10 10] 22 :: Own 36 16 A1 10 10 (evs goodL) :: .blk g4 (evs [x_24, x_14, x_15, x_16, x_17, x_18, x_19, x_20, x_21, x_22, x_11]) 36 :: .blk g3 (evv x_3) 36 :: L) w := s.keep 5 1
  refine ⟨_, rfl, ?_⟩; clear ha a; intro a ha
  refine st_val (.bool false) ha (by kernel_rfl) (by kernel_rfl) ?_
  clear ha a; intro a ha
  refine wpList_nil ?_
  refine then_normal ?_
  refine wp_false ha rfl (by kernel_rfl) ?_
  refine wp_skip ?_
  refine block_normal ?_
  refine then_normal ?_
  refine wp_region_lit ?_
  refine st_val (.int .i64 10) ha (by kernel_rfl) (by kernel_rfl) ?_
  clear ha a; intro a ha
  refine st_val (.int .i64 11) ha (by kernel_rfl) (by kernel_rfl) ?_
  clear ha a; intro a ha
  refine st_val (.int .i64 11) ha (by kernel_rfl) (by kernel_rfl) ?_
  clear ha a; intro a ha
  refine wpList_nil ?_
  refine then_normal ?_
  show Code.rounds _ _ _ 1 _ _
  rw [rounds_succ]
  refine wp_seq ?_
  refine wp_seq ?_
  refine wp_region_lit ?_
  refine st_val (.int .i64 11) ha (by kernel_rfl) (by kernel_rfl) ?_
  clear ha a; intro a ha
  refine st_val (.slice (some ⟨g4, 0, none⟩) 11 11) ha (by kernel_rfl) (by kernel_rfl) ?_
  clear ha a; intro a ha
  refine st_val (.int .i64 11) ha (by kernel_rfl) (by kernel_rfl) ?_
  clear ha a; intro a ha
  refine st_val (.bool false) ha (by kernel_rfl) (by kernel_rfl) ?_
  clear ha a; intro a ha
  refine wpList_nil ?_
  refine then_normal ?_
  refine wp_false ha rfl (by kernel_rfl) ?_
  refine wp_exit ?_
  refine then_exit ?_
  refine then_exit ?_
  refine block_hit ?_
  refine then_normal ?_
  refine wp_seq ?_
  refine wp_region_lit ?_
  refine st_val (.agg (evv x_2).toArray) ha (by kernel_rfl) (by kernel_rfl) ?_
  clear ha a; intro a ha
  refine st_val (.agg (evv x_4).toArray) ha (by kernel_rfl) (by kernel_rfl) ?_
  clear ha a; intro a ha
  refine st_ex ha (by kernel_rfl) (ex_alloc (evv x_9) s rfl (Try.zeroValue36 _) (by kernel_rfl)) ?_
  clear ha a s w; rintro _ w a ⟨g27, rfl, s⟩ ha
  refine st_ex ha (by kernel_rfl) (ex_alloc (evv x_9) s rfl (Try.zeroValue36 _) (by kernel_rfl)) ?_
  clear ha a s w; rintro _ w a ⟨g28, rfl, s⟩ ha
  refine st_exd ha (by kernel_rfl) (ex_store (of_ := 0) 1 (evv x_2) s rfl rfl (by kernel_rfl) (by kernel_rfl) (Try.sizeOf36 _) rfl (evv_one _) (Nat.le_of_ble_eq_true rfl)) ?_
  clear ha a s w; rintro w a s ha
  replace s : St W (.blk g28 (evv x_9) 36 :: .blk g27 (evv x_2) 36 :: Own 36 16 A25 11 c26 (evs (goodL ++ [x_11])) :: .blk g2 [.slice A1 10 10] 22 :: Own 36 16 A1 10 10 (evs goodL) :: .blk g4 (evs [x_24, x_14, x_15, x_16, x_17, x_18, x_19, x_20, x_21, x_22, x_11]) 36 :: .blk g3 (evv x_3) 36 :: L) w := s
  refine st_exd ha (by kernel_rfl) (ex_store (of_ := 0) 0 (evv x_4) s rfl rfl (by kernel_rfl) (by kernel_rfl) (Try.sizeOf36 _) rfl (evv_one _) (Nat.le_of_ble_eq_true rfl)) ?_
  clear ha a s w; rintro w a s ha
  replace s : St W (.blk g28 (evv x_4) 36 :: .blk g27 (evv x_2) 36 :: Own 36 16 A25 11 c26 (evs (goodL ++ [x_11])) :: .blk g2 [.slice A1 10 10] 22 :: Own 36 16 A1 10 10 (evs goodL) :: .blk g4 (evs [x_24, x_14, x_15, x_16, x_17, x_18, x_19, x_20, x_21, x_22, x_11]) 36 :: .blk g3 (evv x_3) 36 :: L) w := s
  refine wpList_nil ?_
  refine then_normal ?_
  refine wp_seq ?_
  refine wp_region_head 46 (fun w => BlkIs g28 (evv x_4) w ∧ BlkIs g27 (evv x_2) w ∧ BlkIs g3 (evv x_3) w ∧ True) (by kernel_rfl) (by decide) ?_
  replace s := s.drew; generalize _root_.Go.World.drew _ = w at s ⊢
  have hS : (fun w => BlkIs g28 (evv x_4) w ∧ BlkIs g27 (evv x_2) w ∧ BlkIs g3 (evv x_3) w ∧ True) w := ⟨s.blkIs 0 rfl, s.blkIs 1 rfl, s.blkIs 6 rfl, trivial⟩
  refine hd_val (i := 0) (.func (.func 9) #[] #[.pointer (some ⟨g2, 0, none⟩)]) ha rfl (by as_aux_lemma => kernel_rfl) (fun _ _ _ h => h) (by as_aux_lemma => kernel_rfl) (fun w hS => (by as_aux_lemma => kernel_rfl)) hS ?_
  clear ha a; intro a ha
  refine hd_val (i := 1) (.agg (evv x_4).toArray) ha rfl (by as_aux_lemma => kernel_rfl) (fun _ _ _ h => h) (by as_aux_lemma => kernel_rfl) (fun w hS => run_loadN (of_ := 0) (evv x_4) hS.1 rfl (by as_aux_lemma => kernel_rfl) Try.isAgg36 Try.sizeOf36 rfl (Nat.le_of_ble_eq_true rfl)) hS ?_
  clear ha a; intro a ha
  replace s := (s.at_ (j := 4) rfl).at_ (j := 4) rfl
  replace s : St W (.blk g2 [.slice A1 10 10] 22 :: Own 36 16 A1 10 10 (evs goodL) :: .blk g28 (evv x_4) 36 :: .blk g27 (evv x_2) 36 :: Own 36 16 A25 11 c26 (evs (goodL ++ [x_11])) :: .blk g4 (evs [x_24, x_14, x_15, x_16, x_17, x_18, x_19, x_20, x_21, x_22, x_11]) 36 :: .blk g3 (evv x_3) 36 :: L) w := s
  refine hd_call (i := 2) ha rfl (by as_aux_lemma => kernel_rfl) (by as_aux_lemma => kernel_rfl) (by as_aux_lemma => kernel_rfl) (e_any W _ w g2 A1 x_4 s) ?_
  clear hS s w; rintro _ w ⟨A29, c30, rfl, s⟩
  refine ⟨_, rfl, and_keep ⟨s.blkIs 3 rfl, s.blkIs 4 rfl, s.blkIs 7 rfl, trivial⟩ fun hS => ?_⟩; clear ha a; intro a ha
  refine hd_call (i := 3) ha rfl (by as_aux_lemma => kernel_rfl) (by as_aux_lemma => kernel_rfl) (by as_aux_lemma => kernel_rfl) (finds_true W hW _ w A29 c30 (goodL ++ [x_4]) (Knows.own (j := 0) rfl) fx_23 (by decide) false 2 10 (lit_rule fx_22) s) ?_
  clear hS s w; rintro _ w ⟨rfl, s⟩
  replace s := ((((s.at_ (j := 7) rfl).at_ (j := 5) rfl).at_ (j := 5) rfl).at_ (j := 5) rfl).at_ (j := 5) rfl
  replace s : St W (.blk g2 [.slice A1 10 10] 22 :: Own 36 16 A1 10 10 (evs goodL) :: .blk g28 (evv x_4) 36 :: .blk g27 (evv x_2) 36 :: .blk g3 (evv x_3) 36 :: L) w := s.keep 5 3
  refine ⟨_, rfl, and_keep ⟨s.blkIs 2 rfl, s.blkIs 3 rfl, s.blkIs 4 rfl, trivial⟩ fun hS => ?_⟩; clear ha a; intro a ha
  refine hd_val (i := 4) (.bool true) ha rfl (by as_aux_lemma => kernel_rfl) (fun _ _ _ h => h) (by as_aux_lemma => kernel_rfl) (fun w hS => (by as_aux_lemma => kernel_rfl)) hS ?_
  clear ha a; intro a ha
  refine hd_val (i := 5) (.func (.func 9) #[] #[.pointer (some ⟨g2, 0, none⟩)]) ha rfl (by as_aux_lemma => kernel_rfl) (fun _ _ _ h => h) (by as_aux_lemma => kernel_rfl) (fun w hS => (by as_aux_lemma => kernel_rfl)) hS ?_
  clear ha a; intro a ha
  refine hd_val (i := 6) (.agg (evv x_2).toArray) ha rfl (by as_aux_lemma => kernel_rfl) (fun _ _ _ h => h) (by as_aux_lemma => kernel_rfl) (fun w hS => run_loadN (of_ := 0) (evv x_2) hS.2.1 rfl (by as_aux_lemma => kernel_rfl) Try.isAgg36 Try.sizeOf36 rfl (Nat.le_of_ble_eq_true rfl)) hS ?_
  clear ha a; intro a ha
  refine hd_val (i := 8) (.agg (evv x_2).toArray) ha rfl (by as_aux_lemma => kernel_rfl) (fun _ _ _ h => h) (by as_aux_lemma => kernel_rfl) (fun w hS => run_loadN (of_ := 0) (evv x_2) hS.2.1 rfl (by as_aux_lemma => kernel_rfl) Try.isAgg36 Try.sizeOf36 rfl (Nat.le_of_ble_eq_true rfl)) hS ?_
  clear ha a; intro a ha
  refine Head.fork (k := 36) [true, true, true, true, true, true, true, true, true, true, false, false, false, false, false, false, false, false, false, false, false, false, false, false, false, false, false, false, false, false, false, false, false, false, false, false, false, false, false, false, false, false, false, false, false, false, false, false, false, false] (fun a w => ∃ (A32 : Option Addr) (c33 : Nat) (g62 : Nat), Has a 397 [(0, .bool false), (1, .pointer (some ⟨g2, 0, none⟩)), (2, .func (.func 9) #[] #[.pointer (some ⟨g2, 0, none⟩)]), (3, .pointer (some ⟨g3, 0, none⟩)), (54, .bool false), (64, .bool false), (6, .pointer (some ⟨g27, 0, none⟩)), (7, .pointer (some ⟨g28, 0, none⟩)), (71, .bool true), (74, .slice A32 11 c33), (76, .slice (some ⟨g62, 0, none⟩) 1 1)] ∧ St W (.blk g62 (evv x_2) 36 :: Own 36 16 A32 11 c33 (evs (goodL ++ [x_2])) :: .blk g2 [.slice A1 10 10] 22 :: Own 36 16 A1 10 10 (evs goodL) :: .blk g28 (evv x_4) 36 :: .blk g27 (evv x_2) 36 :: .blk g3 (evv x_3) 36 :: L) w) ?_ ?_
  · intro K
    refine Head.two (i := 7) (j := 9) (by as_aux_lemma => kernel_rfl) ?_ ?_
    · skip
      refine hat_call (i := 7) ha rfl (by as_aux_lemma => kernel_rfl) (by as_aux_lemma => kernel_rfl) (e_any W _ w g2 A1 x_2 s) ?_
      clear hS s w; rintro _ w ⟨A32, c33, rfl, s⟩
      refine ⟨_, rfl, and_keep ⟨s.blkIs 3 rfl, s.blkIs 4 rfl, s.blkIs 5 rfl, trivial⟩ fun hS => ?_⟩; clear ha a; intro a ha
      refine hd_ex (i := 9) ha rfl (by as_aux_lemma => kernel_rfl) (by as_aux_lemma => kernel_rfl) (ex_buildSlice elt22 _ zs22 (evv x_2) s rfl (by as_aux_lemma => kernel_rfl) (by decide)) ?_
      clear hS s w; rintro _ w ⟨g62, rfl, s⟩
      refine and_keep ⟨s.blkIs 4 rfl, s.blkIs 5 rfl, s.blkIs 6 rfl, trivial⟩ fun hS => ?_; clear ha a; intro a ha
      exact K _ _ _ (by as_aux_lemma => kernel_rfl) ⟨A32, c33, g62, (Has.cons ha (by as_aux_lemma => kernel_rfl) (by as_aux_lemma => kernel_rfl) (Has.cons ha (by as_aux_lemma => kernel_rfl) (by as_aux_lemma => kernel_rfl) (Has.cons ha (by as_aux_lemma => kernel_rfl) (by as_aux_lemma => kernel_rfl) (Has.cons ha (by as_aux_lemma => kernel_rfl) (by as_aux_lemma => kernel_rfl) (Has.cons ha (by as_aux_lemma => kernel_rfl) (by as_aux_lemma => kernel_rfl) (Has.cons ha (by as_aux_lemma => kernel_rfl) (by as_aux_lemma => kernel_rfl) (Has.cons ha (by as_aux_lemma => kernel_rfl) (by as_aux_lemma => kernel_rfl) (Has.cons ha (by as_aux_lemma => kernel_rfl) (by as_aux_lemma => kernel_rfl) (Has.cons ha (by as_aux_lemma => kernel_rfl) (by as_aux_lemma => kernel_rfl) (Has.cons ha (by as_aux_lemma => kernel_rfl) (by as_aux_lemma => kernel_rfl) (Has.cons ha (by as_aux_lemma => kernel_rfl) (by as_aux_lemma => kernel_rfl) (Has.nil ha)))))))))))), s⟩
    · skip
      refine hat_ex (i := 9) ha rfl (by as_aux_lemma => kernel_rfl) (ex_buildSlice elt22 _ zs22 (evv x_2) s rfl (by as_aux_lemma => kernel_rfl) (by decide)) ?_
      clear hS s w; rintro _ w ⟨g62, rfl, s⟩
      refine and_keep ⟨s.blkIs 3 rfl, s.blkIs 4 rfl, s.blkIs 5 rfl, trivial⟩ fun hS => ?_; clear ha a; intro a ha
      replace s := (s.at_ (j := 2) rfl).at_ (j := 2) rfl
      replace s : St W (.blk g2 [.slice A1 10 10] 22 :: Own 36 16 A1 10 10 (evs goodL) :: .blk g62 (evv x_2) 36 :: .blk g28 (evv x_4) 36 :: .blk g27 (evv x_2) 36 :: .blk g3 (evv x_3) 36 :: L) w := s
      refine hd_call (i := 7) ha rfl (by as_aux_lemma => kernel_rfl) (by as_aux_lemma => kernel_rfl) (by as_aux_lemma => kernel_rfl) (e_any W _ w g2 A1 x_2 s) ?_
      clear hS s w; rintro _ w ⟨A32, c33, rfl, s⟩
      refine ⟨_, rfl, and_keep ⟨s.blkIs 4 rfl, s.blkIs 5 rfl, s.blkIs 6 rfl, trivial⟩ fun hS => ?_⟩; clear ha a; intro a ha
      replace s := ((((((s.at_ (j := 6) rfl).at_ (j := 6) rfl).at_ (j := 6) rfl).at_ (j := 5) rfl).at_ (j := 5) rfl).at_ (j := 5) rfl).at_ (j := 6) rfl
      replace s : St W (.blk g62 (evv x_2) 36 :: Own 36 16 A32 11 c33 (evs (goodL ++ [x_2])) :: .blk g2 [.slice A1 10 10] 22 :: Own 36 16 A1 10 10 (evs goodL) :: .blk g28 (evv x_4) 36 :: .blk g27 (evv x_2) 36 :: .blk g3 (evv x_3) 36 :: L) w := s
      exact K _ _ _ (by as_aux_lemma => kernel_rfl) ⟨A32, c33, g62, (Has.cons ha (by as_aux_lemma => kernel_rfl) (by as_aux_lemma => kernel_rfl) (Has.cons ha (by as_aux_lemma => kernel_rfl) (by as_aux_lemma => kernel_rfl) (Has.cons ha (by as_aux_lemma => kernel_rfl) (by as_aux_lemma => kernel_rfl) (Has.cons ha (by as_aux_lemma => kernel_rfl) (by as_aux_lemma => kernel_rfl) (Has.cons ha (by as_aux_lemma => kernel_rfl) (by as_aux_lemma => kernel_rfl) (Has.cons ha (by as_aux_lemma => kernel_rfl) (by as_aux_lemma => kernel_rfl) (Has.cons ha (by as_aux_lemma => kernel_rfl) (by as_aux_lemma => kernel_rfl) (Has.cons ha (by as_aux_lemma => kernel_rfl) (by as_aux_lemma => kernel_rfl) (Has.cons ha (by as_aux_lemma => kernel_rfl) (by as_aux_lemma => kernel_rfl) (Has.cons ha (by as_aux_lemma => kernel_rfl) (by as_aux_lemma => kernel_rfl) (Has.cons ha (by as_aux_lemma => kernel_rfl) (by as_aux_lemma => kernel_rfl) (Has.nil ha)))))))))))), s⟩
  clear ha s hS a w; rintro a w ⟨A32, c33, g62, ha, s⟩
  have hS : (fun w => BlkIs g28 (evv x_4) w ∧ BlkIs g27 (evv x_2) w ∧ BlkIs g3 (evv x_3) w ∧ True) w := ⟨s.blkIs 4 rfl, s.blkIs 5 rfl, s.blkIs 6 rfl, trivial⟩
  refine hd_ex (i := 10) ha rfl (by as_aux_lemma => kernel_rfl) (by as_aux_lemma => kernel_rfl) (ex_append (m := 1) (d' := 1) elt22 (by decide) 1 (evv x_2) s rfl (by as_aux_lemma => kernel_rfl) (by as_aux_lemma => kernel_rfl) rfl (reads_blk (s.blkIs 0 rfl) rfl) (evv_one _) (by simp only [maxLen]; omega) (by omega)) ?_
  clear hS s w; rintro _ w ⟨A92, c93, rfl, hA_, s⟩
  rw [show (evv x_2) = evs [x_2] from by kernel_rfl, ← evs_append] at s
  replace s : St W (.blk g62 (evv x_2) 36 :: Own 36 16 A92 12 c93 (evs ((goodL ++ [x_2]) ++ [x_2])) :: .blk g2 [.slice A1 10 10] 22 :: Own 36 16 A1 10 10 (evs goodL) :: .blk g28 (evv x_4) 36 :: .blk g27 (evv x_2) 36 :: .blk g3 (evv x_3) 36 :: L) w := s
  refine and_keep ⟨s.blkIs 4 rfl, s.blkIs 5 rfl, s.blkIs 6 rfl, trivial⟩ fun hS => ?_; clear ha a; intro a ha
  refine hd_call (i := 11) ha rfl (by as_aux_lemma => kernel_rfl) (by as_aux_lemma => kernel_rfl) (by as_aux_lemma => kernel_rfl) (finds_true W hW _ w A92 c93 ((goodL ++ [x_2]) ++ [x_2]) (Knows.own (j := 1) rfl) fx_25 (by decide) false 2 11 (lit_rule fx_24) s) ?_
  clear hS s w; rintro _ w ⟨rfl, s⟩
  replace s := ((((s.at_ (j := 6) rfl).at_ (j := 6) rfl).at_ (j := 6) rfl).at_ (j := 6) rfl).at_ (j := 6) rfl
  replace s : St W (.blk g2 [.slice A1 10 10] 22 :: Own 36 16 A1 10 10 (evs goodL) :: .blk g28 (evv x_4) 36 :: .blk g27 (evv x_2) 36 :: .blk g3 (evv x_3) 36 :: L) w := s.keep 5 2
  refine ⟨_, rfl, and_keep ⟨s.blkIs 2 rfl, s.blkIs 3 rfl, s.blkIs 4 rfl, trivial⟩ fun hS => ?_⟩; clear ha a; intro a ha
  refine hd_val (i := 12) (.bool true) ha rfl (by as_aux_lemma => kernel_rfl) (fun _ _ _ h => h) (by as_aux_lemma => kernel_rfl) (fun w hS => (by as_aux_lemma => kernel_rfl)) hS ?_
  clear ha a; intro a ha
  refine hd_val (i := 13) (.bool true) ha rfl (by as_aux_lemma => kernel_rfl) (fun _ _ _ h => h) (by as_aux_lemma => kernel_rfl) (fun w hS => (by as_aux_lemma => kernel_rfl)) hS ?_
  clear ha a; intro a ha
  refine hd_val (i := 14) (.func (.func 9) #[] #[.pointer (some ⟨g2, 0, none⟩)]) ha rfl (by as_aux_lemma => kernel_rfl) (fun _ _ _ h => h) (by as_aux_lemma => kernel_rfl) (fun w hS => (by as_aux_lemma => kernel_rfl)) hS ?_
  clear ha a; intro a ha
  refine hd_val (i := 15) (.agg (evv x_2).toArray) ha rfl (by as_aux_lemma => kernel_rfl) (fun _ _ _ h => h) (by as_aux_lemma => kernel_rfl) (fun w hS => run_loadN (of_ := 0) (evv x_2) hS.2.1 rfl (by as_aux_lemma => kernel_rfl) Try.isAgg36 Try.sizeOf36 rfl (Nat.le_of_ble_eq_true rfl)) hS ?_
  clear ha a; intro a ha
  refine hd_val (i := 17) (.agg (evv x_4).toArray) ha rfl (by as_aux_lemma => kernel_rfl) (fun _ _ _ h => h) (by as_aux_lemma => kernel_rfl) (fun w hS => run_loadN (of_ := 0) (evv x_4) hS.1 rfl (by as_aux_lemma => kernel_rfl) Try.isAgg36 Try.sizeOf36 rfl (Nat.le_of_ble_eq_true rfl)) hS ?_
  clear ha a; intro a ha
  refine Head.fork (k := 27) [true, true, true, true, true, true, true, true, true, true, true, true, true, true, true, true, true, true, true, false, false, false, false, false, false, false, false, false, false, false, false, false, false, false, false, false, false, false, false, false, false, false, false, false, false, false, false, false, false, false] (fun a w => ∃ (A95 : Option Addr) (c96 : Nat) (g125 : Nat), Has a 397 [(0, .bool false), (1, .pointer (some ⟨g2, 0, none⟩)), (2, .func (.func 9) #[] #[.pointer (some ⟨g2, 0, none⟩)]), (3, .pointer (some ⟨g3, 0, none⟩)), (54, .bool false), (64, .bool false), (6, .pointer (some ⟨g27, 0, none⟩)), (7, .pointer (some ⟨g28, 0, none⟩)), (80, .bool true), (83, .slice A95 11 c96), (85, .slice (some ⟨g125, 0, none⟩) 1 1)] ∧ St W (.blk g125 (evv x_4) 36 :: Own 36 16 A95 11 c96 (evs (goodL ++ [x_2])) :: .blk g2 [.slice A1 10 10] 22 :: Own 36 16 A1 10 10 (evs goodL) :: .blk g28 (evv x_4) 36 :: .blk g27 (evv x_2) 36 :: .blk g3 (evv x_3) 36 :: L) w) ?_ ?_
  · intro K
    refine Head.two (i := 16) (j := 18) (by as_aux_lemma => kernel_rfl) ?_ ?_
    · skip
      refine hat_call (i := 16) ha rfl (by as_aux_lemma => kernel_rfl) (by as_aux_lemma => kernel_rfl) (e_any W _ w g2 A1 x_2 s) ?_
      clear hS s w; rintro _ w ⟨A95, c96, rfl, s⟩
      refine ⟨_, rfl, and_keep ⟨s.blkIs 3 rfl, s.blkIs 4 rfl, s.blkIs 5 rfl, trivial⟩ fun hS => ?_⟩; clear ha a; intro a ha
      refine hd_ex (i := 18) ha rfl (by as_aux_lemma => kernel_rfl) (by as_aux_lemma => kernel_rfl) (ex_buildSlice elt22 _ zs22 (evv x_4) s rfl (by as_aux_lemma => kernel_rfl) (by decide)) ?_
      clear hS s w; rintro _ w ⟨g125, rfl, s⟩
      refine and_keep ⟨s.blkIs 4 rfl, s.blkIs 5 rfl, s.blkIs 6 rfl, trivial⟩ fun hS => ?_; clear ha a; intro a ha
      exact K _ _ _ (by as_aux_lemma => kernel_rfl) ⟨A95, c96, g125, (Has.cons ha (by as_aux_lemma => kernel_rfl) (by as_aux_lemma => kernel_rfl) (Has.cons ha (by as_aux_lemma => kernel_rfl) (by as_aux_lemma => kernel_rfl) (Has.cons ha (by as_aux_lemma => kernel_rfl) (by as_aux_lemma => kernel_rfl) (Has.cons ha (by as_aux_lemma => kernel_rfl) (by as_aux_lemma => kernel_rfl) (Has.cons ha (by as_aux_lemma => kernel_rfl) (by as_aux_lemma => kernel_rfl) (Has.cons ha (by as_aux_lemma => kernel_rfl) (by as_aux_lemma => kernel_rfl) (Has.cons ha (by as_aux_lemma => kernel_rfl) (by as_aux_lemma => kernel_rfl) (Has.cons ha (by as_aux_lemma => kernel_rfl) (by as_aux_lemma => kernel_rfl) (Has.cons ha (by as_aux_lemma => kernel_rfl) (by as_aux_lemma => kernel_rfl) (Has.cons ha (by as_aux_lemma => kernel_rfl) (by as_aux_lemma => kernel_rfl) (Has.cons ha (by as_aux_lemma => kernel_rfl) (by as_aux_lemma => kernel_rfl) (Has.nil ha)))))))))))), s⟩
    · skip
      refine hat_ex (i := 18) ha rfl (by as_aux_lemma => kernel_rfl) (ex_buildSlice elt22 _ zs22 (evv x_4) s rfl (by as_aux_lemma => kernel_rfl) (by decide)) ?_
      clear hS s w; rintro _ w ⟨g125, rfl, s⟩
      refine and_keep ⟨s.blkIs 3 rfl, s.blkIs 4 rfl, s.blkIs 5 rfl, trivial⟩ fun hS => ?_; clear ha a; intro a ha
      replace s := (s.at_ (j := 2) rfl).at_ (j := 2) rfl
      replace s : St W (.blk g2 [.slice A1 10 10] 22 :: Own 36 16 A1 10 10 (evs goodL) :: .blk g125 (evv x_4) 36 :: .blk g28 (evv x_4) 36 :: .blk g27 (evv x_2) 36 :: .blk g3 (evv x_3) 36 :: L) w := s
      refine hd_call (i := 16) ha rfl (by as_aux_lemma => kernel_rfl) (by as_aux_lemma => kernel_rfl) (by as_aux_lemma => kernel_rfl) (e_any W _ w g2 A1 x_2 s) ?_
      clear hS s w; rintro _ w ⟨A95, c96, rfl, s⟩
      refine ⟨_, rfl, and_keep ⟨s.blkIs 4 rfl, s.blkIs 5 rfl, s.blkIs 6 rfl, trivial⟩ fun hS => ?_⟩; clear ha a; intro a ha
      replace s := ((((((s.at_ (j := 6) rfl).at_ (j := 6) rfl).at_ (j := 6) rfl).at_ (j := 5) rfl).at_ (j := 5) rfl).at_ (j := 5) rfl).at_ (j := 6) rfl
      replace s : St W (.blk g125 (evv x_4) 36 :: Own 36 16 A95 11 c96 (evs (goodL ++ [x_2])) :: .blk g2 [.slice A1 10 10] 22 :: Own 36 16 A1 10 10 (evs goodL) :: .blk g28 (evv x_4) 36 :: .blk g27 (evv x_2) 36 :: .blk g3 (evv x_3) 36 :: L) w := s
      exact K _ _ _ (by as_aux_lemma => kernel_rfl) ⟨A95, c96, g125, (Has.cons ha (by as_aux_lemma => kernel_rfl) (by as_aux_lemma => kernel_rfl) (Has.cons ha (by as_aux_lemma => kernel_rfl) (by as_aux_lemma => kernel_rfl) (Has.cons ha (by as_aux_lemma => kernel_rfl) (by as_aux_lemma => kernel_rfl) (Has.cons ha (by as_aux_lemma => kernel_rfl) (by as_aux_lemma => kernel_rfl) (Has.cons ha (by as_aux_lemma => kernel_rfl) (by as_aux_lemma => kernel_rfl) (Has.cons ha (by as_aux_lemma => kernel_rfl) (by as_aux_lemma => kernel_rfl) (Has.cons ha (by as_aux_lemma => kernel_rfl) (by as_aux_lemma => kernel_rfl) (Has.cons ha (by as_aux_lemma => kernel_rfl) (by as_aux_lemma => kernel_rfl) (Has.cons ha (by as_aux_lemma => kernel_rfl) (by as_aux_lemma => kernel_rfl) (Has.cons ha (by as_aux_lemma => kernel_rfl) (by as_aux_lemma => kernel_rfl) (Has.cons ha (by as_aux_lemma => kernel_rfl) (by as_aux_lemma => kernel_rfl) (Has.nil ha)))))))))))), s⟩
  clear ha s hS a w; rintro a w ⟨A95, c96, g125, ha, s⟩
  have hS : (fun w => BlkIs g28 (evv x_4) w ∧ BlkIs g27 (evv x_2) w ∧ BlkIs g3 (evv x_3) w ∧ True) w := ⟨s.blkIs 4 rfl, s.blkIs 5 rfl, s.blkIs 6 rfl, trivial⟩
  refine hd_ex (i := 19) ha rfl (by as_aux_lemma => kernel_rfl) (by as_aux_lemma => kernel_rfl) (ex_append (m := 1) (d' := 1) elt22 (by decide) 1 (evv x_4) s rfl (by as_aux_lemma => kernel_rfl) (by as_aux_lemma => kernel_rfl) rfl (reads_blk (s.blkIs 0 rfl) rfl) (evv_one _) (by simp only [maxLen]; omega) (by omega)) ?_
  clear hS s w; rintro _ w ⟨A155, c156, rfl, hA_, s⟩
  rw [show (evv x_4) = evs [x_4] from by kernel_rfl, ← evs_append] at s
  replace s : St W (.blk g125 (evv x_4) 36 :: Own 36 16 A155 12 c156 (evs ((goodL ++ [x_2]) ++ [x_4])) :: .blk g2 [.slice A1 10 10] 22 :: Own 36 16 A1 10 10 (evs goodL) :: .blk g28 (evv x_4) 36 :: .blk g27 (evv x_2) 36 :: .blk g3 (evv x_3) 36 :: L) w := s
  refine and_keep ⟨s.blkIs 4 rfl, s.blkIs 5 rfl, s.blkIs 6 rfl, trivial⟩ fun hS => ?_; clear ha a; intro a ha
  refine hd_call (i := 20) ha rfl (by as_aux_lemma => kernel_rfl) (by as_aux_lemma => kernel_rfl) (by as_aux_lemma => kernel_rfl) (finds_true W hW _ w A155 c156 ((goodL ++ [x_2]) ++ [x_4]) (Knows.own (j := 1) rfl) fx_27 (by decide) false 0 0 (lit_not fx_26) s) ?_
  clear hS s w; rintro _ w ⟨rfl, s⟩
  replace s := ((((s.at_ (j := 6) rfl).at_ (j := 6) rfl).at_ (j := 6) rfl).at_ (j := 6) rfl).at_ (j := 6) rfl
  replace s : St W (.blk g2 [.slice A1 10 10] 22 :: Own 36 16 A1 10 10 (evs goodL) :: .blk g28 (evv x_4) 36 :: .blk g27 (evv x_2) 36 :: .blk g3 (evv x_3) 36 :: L) w := s.keep 5 2
  refine ⟨_, rfl, and_keep ⟨s.blkIs 2 rfl, s.blkIs 3 rfl, s.blkIs 4 rfl, trivial⟩ fun hS => ?_⟩; clear ha a; intro a ha
  refine hd_val (i := 21) (.bool true) ha rfl (by as_aux_lemma => kernel_rfl) (fun _ _ _ h => h) (by as_aux_lemma => kernel_rfl) (fun w hS => (by as_aux_lemma => kernel_rfl)) hS ?_
  clear ha a; intro a ha
  refine hd_val (i := 22) (.bool true) ha rfl (by as_aux_lemma => kernel_rfl) (fun _ _ _ h => h) (by as_aux_lemma => kernel_rfl) (fun w hS => (by as_aux_lemma => kernel_rfl)) hS ?_
  clear ha a; intro a ha
  refine hd_val (i := 23) (.func (.func 9) #[] #[.pointer (some ⟨g2, 0, none⟩)]) ha rfl (by as_aux_lemma => kernel_rfl) (fun _ _ _ h => h) (by as_aux_lemma => kernel_rfl) (fun w hS => (by as_aux_lemma => kernel_rfl)) hS ?_
  clear ha a; intro a ha
  refine hd_val (i := 24) (.agg (evv x_2).toArray) ha rfl (by as_aux_lemma => kernel_rfl) (fun _ _ _ h => h) (by as_aux_lemma => kernel_rfl) (fun w hS => run_loadN (of_ := 0) (evv x_2) hS.2.1 rfl (by as_aux_lemma => kernel_rfl) Try.isAgg36 Try.sizeOf36 rfl (Nat.le_of_ble_eq_true rfl)) hS ?_
  clear ha a; intro a ha
  refine hd_call (i := 25) ha rfl (by as_aux_lemma => kernel_rfl) (by as_aux_lemma => kernel_rfl) (by as_aux_lemma => kernel_rfl) (e_any W _ w g2 A1 x_2 s) ?_
  clear hS s w; rintro _ w ⟨A157, c158, rfl, s⟩
  refine ⟨_, rfl, and_keep ⟨s.blkIs 3 rfl, s.blkIs 4 rfl, s.blkIs 5 rfl, trivial⟩ fun hS => ?_⟩; clear ha a; intro a ha
  refine hd_call (i := 26) ha rfl (by as_aux_lemma => kernel_rfl) (by as_aux_lemma => kernel_rfl) (by as_aux_lemma => kernel_rfl) (ev_any W _ w 1 1 3 s) ?_
  clear hS s w; rintro _ w ⟨rfl, s⟩
  refine ⟨_, rfl, and_keep ⟨s.blkIs 3 rfl, s.blkIs 4 rfl, s.blkIs 5 rfl, trivial⟩ fun hS => ?_⟩; clear ha a; intro a ha
  refine hd_ex (i := 27) ha rfl (by as_aux_lemma => kernel_rfl) (by as_aux_lemma => kernel_rfl) (ex_buildSlice elt22 _ zs22 (evv x_1) s rfl (by as_aux_lemma => kernel_rfl) (by decide)) ?_
  clear hS s w; rintro _ w ⟨g159, rfl, s⟩
  refine and_keep ⟨s.blkIs 4 rfl, s.blkIs 5 rfl, s.blkIs 6 rfl, trivial⟩ fun hS => ?_; clear ha a; intro a ha
  refine hd_ex (i := 28) ha rfl (by as_aux_lemma => kernel_rfl) (by as_aux_lemma => kernel_rfl) (ex_append (m := 1) (d' := 1) elt22 (by decide) 1 (evv x_1) s rfl (by as_aux_lemma => kernel_rfl) (by as_aux_lemma => kernel_rfl) rfl (reads_blk (s.blkIs 0 rfl) rfl) (evv_one _) (by simp only [maxLen]; omega) (by omega)) ?_
  clear hS s w; rintro _ w ⟨A160, c161, rfl, hA_, s⟩
  rw [show (evv x_1) = evs [x_1] from by kernel_rfl, ← evs_append] at s
  replace s : St W (.blk g159 (evv x_1) 36 :: Own 36 16 A160 12 c161 (evs ((goodL ++ [x_2]) ++ [x_1])) :: .blk g2 [.slice A1 10 10] 22 :: Own 36 16 A1 10 10 (evs goodL) :: .blk g28 (evv x_4) 36 :: .blk g27 (evv x_2) 36 :: .blk g3 (evv x_3) 36 :: L) w := s
  refine and_keep ⟨s.blkIs 4 rfl, s.blkIs 5 rfl, s.blkIs 6 rfl, trivial⟩ fun hS => ?_; clear ha a; intro a ha
  refine hd_call (i := 29) ha rfl (by as_aux_lemma => kernel_rfl) (by as_aux_lemma => kernel_rfl) (by as_aux_lemma => kernel_rfl) (finds_true W hW _ w A160 c161 ((goodL ++ [x_2]) ++ [x_1]) (Knows.own (j := 1) rfl) fx_29 (by decide) false 2 11 (lit_rule fx_28) s) ?_
  clear hS s w; rintro _ w ⟨rfl, s⟩
  replace s := ((((s.at_ (j := 6) rfl).at_ (j := 6) rfl).at_ (j := 6) rfl).at_ (j := 6) rfl).at_ (j := 6) rfl
  replace s : St W (.blk g2 [.slice A1 10 10] 22 :: Own 36 16 A1 10 10 (evs goodL) :: .blk g28 (evv x_4) 36 :: .blk g27 (evv x_2) 36 :: .blk g3 (evv x_3) 36 :: L) w := s.keep 5 2
  refine ⟨_, rfl, and_keep ⟨s.blkIs 2 rfl, s.blkIs 3 rfl, s.blkIs 4 rfl, trivial⟩ fun hS => ?_⟩; clear ha a; intro a ha
  refine hd_val (i := 30) (.bool true) ha rfl (by as_aux_lemma => kernel_rfl) (fun _ _ _ h => h) (by as_aux_lemma => kernel_rfl) (fun w hS => (by as_aux_lemma => kernel_rfl)) hS ?_
  clear ha a; intro a ha
  refine hd_val (i := 31) (.bool true) ha rfl (by as_aux_lemma => kernel_rfl) (fun _ _ _ h => h) (by as_aux_lemma => kernel_rfl) (fun w hS => (by as_aux_lemma => kernel_rfl)) hS ?_
  clear ha a; intro a ha
  refine hd_val (i := 32) (.func (.func 9) #[] #[.pointer (some ⟨g2, 0, none⟩)]) ha rfl (by as_aux_lemma => kernel_rfl) (fun _ _ _ h => h) (by as_aux_lemma => kernel_rfl) (fun w hS => (by as_aux_lemma => kernel_rfl)) hS ?_
  clear ha a; intro a ha
  refine hd_val (i := 33) (.agg (evv x_2).toArray) ha rfl (by as_aux_lemma => kernel_rfl) (fun _ _ _ h => h) (by as_aux_lemma => kernel_rfl) (fun w hS => run_loadN (of_ := 0) (evv x_2) hS.2.1 rfl (by as_aux_lemma => kernel_rfl) Try.isAgg36 Try.sizeOf36 rfl (Nat.le_of_ble_eq_true rfl)) hS ?_
  clear ha a; intro a ha
  refine hd_call (i := 34) ha rfl (by as_aux_lemma => kernel_rfl) (by as_aux_lemma => kernel_rfl) (by as_aux_lemma => kernel_rfl) (e_any W _ w g2 A1 x_2 s) ?_
  clear hS s w; rintro _ w ⟨A162, c163, rfl, s⟩
  refine ⟨_, rfl, and_keep ⟨s.blkIs 3 rfl, s.blkIs 4 rfl, s.blkIs 5 rfl, trivial⟩ fun hS => ?_⟩; clear ha a; intro a ha
  refine hd_call (i := 35) ha rfl (by as_aux_lemma => kernel_rfl) (by as_aux_lemma => kernel_rfl) (by as_aux_lemma => kernel_rfl) (ev_any W _ w 1 2 3 s) ?_
  clear hS s w; rintro _ w ⟨rfl, s⟩
  refine ⟨_, rfl, and_keep ⟨s.blkIs 3 rfl, s.blkIs 4 rfl, s.blkIs 5 rfl, trivial⟩ fun hS => ?_⟩; clear ha a; intro a ha
  refine hd_ex (i := 36) ha rfl (by as_aux_lemma => kernel_rfl) (by as_aux_lemma => kernel_rfl) (ex_buildSlice elt22 _ zs22 (evv x_39) s rfl (by as_aux_lemma => kernel_rfl) (by decide)) ?_
  clear hS s w; rintro _ w ⟨g164, rfl, s⟩
  refine and_keep ⟨s.blkIs 4 rfl, s.blkIs 5 rfl, s.blkIs 6 rfl, trivial⟩ fun hS => ?_; clear ha a; intro a ha
  refine hd_ex (i := 37) ha rfl (by as_aux_lemma => kernel_rfl) (by as_aux_lemma => kernel_rfl) (ex_append (m := 1) (d' := 1) elt22 (by decide) 1 (evv x_39) s rfl (by as_aux_lemma => kernel_rfl) (by as_aux_lemma => kernel_rfl) rfl (reads_blk (s.blkIs 0 rfl) rfl) (evv_one _) (by simp only [maxLen]; omega) (by omega)) ?_
  clear hS s w; rintro _ w ⟨A165, c166, rfl, hA_, s⟩
  rw [show (evv x_39) = evs [x_39] from by kernel_rfl, ← evs_append] at s
  replace s : St W (.blk g164 (evv x_39) 36 :: Own 36 16 A165 12 c166 (evs ((goodL ++ [x_2]) ++ [x_39])) :: .blk g2 [.slice A1 10 10] 22 :: Own 36 16 A1 10 10 (evs goodL) :: .blk g28 (evv x_4) 36 :: .blk g27 (evv x_2) 36 :: .blk g3 (evv x_3) 36 :: L) w := s
  refine and_keep ⟨s.blkIs 4 rfl, s.blkIs 5 rfl, s.blkIs 6 rfl, trivial⟩ fun hS => ?_; clear ha a; intro a ha
  refine hd_call (i := 38) ha rfl (by as_aux_lemma => kernel_rfl) (by as_aux_lemma => kernel_rfl) (by as_aux_lemma => kernel_rfl) (finds_true W hW _ w A165 c166 ((goodL ++ [x_2]) ++ [x_39]) (Knows.own (j := 1) rfl) fx_31 (by decide) false 0 0 (lit_not fx_30) s) ?_
  clear hS s w; rintro _ w ⟨rfl, s⟩
  replace s := ((((s.at_ (j := 6) rfl).at_ (j := 6) rfl).at_ (j := 6) rfl).at_ (j := 6) rfl).at_ (j := 6) rfl
  replace s : St W (.blk g2 [.slice A1 10 10] 22 :: Own 36 16 A1 10 10 (evs goodL) :: .blk g28 (evv x_4) 36 :: .blk g27 (evv x_2) 36 :: .blk g3 (evv x_3) 36 :: L) w := s.keep 5 2
  refine ⟨_, rfl, and_keep ⟨s.blkIs 2 rfl, s.blkIs 3 rfl, s.blkIs 4 rfl, trivial⟩ fun hS => ?_⟩; clear ha a; intro a ha
  refine hd_val (i := 39) (.bool true) ha rfl (by as_aux_lemma => kernel_rfl) (fun _ _ _ h => h) (by as_aux_lemma => kernel_rfl) (fun w hS => (by as_aux_lemma => kernel_rfl)) hS ?_
  clear ha a; intro a ha
  refine hd_val (i := 40) (.bool true) ha rfl (by as_aux_lemma => kernel_rfl) (fun _ _ _ h => h) (by as_aux_lemma => kernel_rfl) (fun w hS => (by as_aux_lemma => kernel_rfl)) hS ?_
  clear ha a; intro a ha
  refine hd_val (i := 41) (.func (.func 9) #[] #[.pointer (some ⟨g2, 0, none⟩)]) ha rfl (by as_aux_lemma => kernel_rfl) (fun _ _ _ h => h) (by as_aux_lemma => kernel_rfl) (fun w hS => (by as_aux_lemma => kernel_rfl)) hS ?_
  clear ha a; intro a ha
  refine hd_val (i := 42) (.agg (evv x_2).toArray) ha rfl (by as_aux_lemma => kernel_rfl) (fun _ _ _ h => h) (by as_aux_lemma => kernel_rfl) (fun w hS => run_loadN (of_ := 0) (evv x_2) hS.2.1 rfl (by as_aux_lemma => kernel_rfl) Try.isAgg36 Try.sizeOf36 rfl (Nat.le_of_ble_eq_true rfl)) hS ?_
  clear ha a; intro a ha
  refine hd_val (i := 44) (.agg (evv x_3).toArray) ha rfl (by as_aux_lemma => kernel_rfl) (fun _ _ _ h => h) (by as_aux_lemma => kernel_rfl) (fun w hS => run_loadN (of_ := 0) (evv x_3) hS.2.2.1 rfl (by as_aux_lemma => kernel_rfl) Try.isAgg36 Try.sizeOf36 rfl (Nat.le_of_ble_eq_true rfl)) hS ?_
  clear ha a; intro a ha
  refine Head.fork (k := 0) [true, true, true, true, true, true, true, true, true, true, true, true, true, true, true, true, true, true, true, true, true, true, true, true, true, true, true, true, true, true, true, true, true, true, true, true, true, true, true, true, true, true, true, true, true, true, false, false, false, false] (fun a w => ∃ (A168 : Option Addr) (c169 : Nat) (g198 : Nat), Has a 397 [(0, .bool false), (1, .pointer (some ⟨g2, 0, none⟩)), (2, .func (.func 9) #[] #[.pointer (some ⟨g2, 0, none⟩)]), (3, .pointer (some ⟨g3, 0, none⟩)), (54, .bool false), (64, .bool false), (6, .pointer (some ⟨g27, 0, none⟩)), (7, .pointer (some ⟨g28, 0, none⟩)), (107, .bool true), (110, .slice A168 11 c169), (112, .slice (some ⟨g198, 0, none⟩) 1 1)] ∧ St W (.blk g198 (evv x_3) 36 :: Own 36 16 A168 11 c169 (evs (goodL ++ [x_2])) :: .blk g2 [.slice A1 10 10] 22 :: Own 36 16 A1 10 10 (evs goodL) :: .blk g28 (evv x_4) 36 :: .blk g27 (evv x_2) 36 :: .blk g3 (evv x_3) 36 :: L) w) ?_ ?_
  · intro K
    refine Head.two (i := 43) (j := 45) (by as_aux_lemma => kernel_rfl) ?_ ?_
    · skip
      refine hat_call (i := 43) ha rfl (by as_aux_lemma => kernel_rfl) (by as_aux_lemma => kernel_rfl) (e_any W _ w g2 A1 x_2 s) ?_
      clear hS s w; rintro _ w ⟨A168, c169, rfl, s⟩
      refine ⟨_, rfl, and_keep ⟨s.blkIs 3 rfl, s.blkIs 4 rfl, s.blkIs 5 rfl, trivial⟩ fun hS => ?_⟩; clear ha a; intro a ha
      refine hd_ex (i := 45) ha rfl (by as_aux_lemma => kernel_rfl) (by as_aux_lemma => kernel_rfl) (ex_buildSlice elt22 _ zs22 (evv x_3) s rfl (by as_aux_lemma => kernel_rfl) (by decide)) ?_
      clear hS s w; rintro _ w ⟨g198, rfl, s⟩
      refine and_keep ⟨s.blkIs 4 rfl, s.blkIs 5 rfl, s.blkIs 6 rfl, trivial⟩ fun hS => ?_; clear ha a; intro a ha
      exact K _ _ _ (by as_aux_lemma => kernel_rfl) ⟨A168, c169, g198, (Has.cons ha (by as_aux_lemma => kernel_rfl) (by as_aux_lemma => kernel_rfl) (Has.cons ha (by as_aux_lemma => kernel_rfl) (by as_aux_lemma => kernel_rfl) (Has.cons ha (by as_aux_lemma => kernel_rfl) (by as_aux_lemma => kernel_rfl) (Has.cons ha (by as_aux_lemma => kernel_rfl) (by as_aux_lemma => kernel_rfl) (Has.cons ha (by as_aux_lemma => kernel_rfl) (by as_aux_lemma => kernel_rfl) (Has.cons ha (by as_aux_lemma => kernel_rfl) (by as_aux_lemma => kernel_rfl) (Has.cons ha (by as_aux_lemma => kernel_rfl) (by as_aux_lemma => kernel_rfl) (Has.cons ha (by as_aux_lemma => kernel_rfl) (by as_aux_lemma => kernel_rfl) (Has.cons ha (by as_aux_lemma => kernel_rfl) (by as_aux_lemma => kernel_rfl) (Has.cons ha (by as_aux_lemma => kernel_rfl) (by as_aux_lemma => kernel_rfl) (Has.cons ha (by as_aux_lemma => kernel_rfl) (by as_aux_lemma => kernel_rfl) (Has.nil ha)))))))))))), s⟩
    · skip
      refine hat_ex (i := 45) ha rfl (by as_aux_lemma => kernel_rfl) (ex_buildSlice elt22 _ zs22 (evv x_3) s rfl (by as_aux_lemma => kernel_rfl) (by decide)) ?_
      clear hS s w; rintro _ w ⟨g198, rfl, s⟩
      refine and_keep ⟨s.blkIs 3 rfl, s.blkIs 4 rfl, s.blkIs 5 rfl, trivial⟩ fun hS => ?_; clear ha a; intro a ha
      replace s := (s.at_ (j := 2) rfl).at_ (j := 2) rfl
      replace s : St W (.blk g2 [.slice A1 10 10] 22 :: Own 36 16 A1 10 10 (evs goodL) :: .blk g198 (evv x_3) 36 :: .blk g28 (evv x_4) 36 :: .blk g27 (evv x_2) 36 :: .blk g3 (evv x_3) 36 :: L) w := s
      refine hd_call (i := 43) ha rfl (by as_aux_lemma => kernel_rfl) (by as_aux_lemma => kernel_rfl) (by as_aux_lemma => kernel_rfl) (e_any W _ w g2 A1 x_2 s) ?_
      clear hS s w; rintro _ w ⟨A168, c169, rfl, s⟩
      refine ⟨_, rfl, and_keep ⟨s.blkIs 4 rfl, s.blkIs 5 rfl, s.blkIs 6 rfl, trivial⟩ fun hS => ?_⟩; clear ha a; intro a ha
      replace s := ((((((s.at_ (j := 6) rfl).at_ (j := 6) rfl).at_ (j := 6) rfl).at_ (j := 5) rfl).at_ (j := 5) rfl).at_ (j := 5) rfl).at_ (j := 6) rfl
      replace s : St W (.blk g198 (evv x_3) 36 :: Own 36 16 A168 11 c169 (evs (goodL ++ [x_2])) :: .blk g2 [.slice A1 10 10] 22 :: Own 36 16 A1 10 10 (evs goodL) :: .blk g28 (evv x_4) 36 :: .blk g27 (evv x_2) 36 :: .blk g3 (evv x_3) 36 :: L) w := s
      exact K _ _ _ (by as_aux_lemma => kernel_rfl) ⟨A168, c169, g198, (Has.cons ha (by as_aux_lemma => kernel_rfl) (by as_aux_lemma => kernel_rfl) (Has.cons ha (by as_aux_lemma => kernel_rfl) (by as_aux_lemma => kernel_rfl) (Has.cons ha (by as_aux_lemma => kernel_rfl) (by as_aux_lemma => kernel_rfl) (Has.cons ha (by as_aux_lemma => kernel_rfl) (by as_aux_lemma => kernel_rfl) (Has.cons ha (by as_aux_lemma => kernel_rfl) (by as_aux_lemma => kernel_rfl) (Has.cons ha (by as_aux_lemma => kernel_rfl) (by as_aux_lemma => kernel_rfl) (Has.cons ha (by as_aux_lemma => kernel_rfl) (by as_aux_lemma => kernel_rfl) (Has.cons ha (by as_aux_lemma => kernel_rfl) (by as_aux_lemma => kernel_rfl) (Has.cons ha (by as_aux_lemma => kernel_rfl) (by as_aux_lemma => kernel_rfl) (Has.cons ha (by as_aux_lemma => kernel_rfl) (by as_aux_lemma => kernel_rfl) (Has.cons ha (by as_aux_lemma => kernel_rfl) (by as_aux_lemma => kernel_rfl) (Has.nil ha)))))))))))), s⟩
  clear ha s hS a w; rintro a w ⟨A168, c169, g198, ha, s⟩
  have hS : (fun w => BlkIs g28 (evv x_4) w ∧ BlkIs g27 (evv x_2) w ∧ BlkIs g3 (evv x_3) w ∧ True) w := ⟨s.blkIs 4 rfl, s.blkIs 5 rfl, s.blkIs 6 rfl, trivial⟩
  refine Head.done (by as_aux_lemma => kernel_rfl) ?_
  clear hS; simp only [List.drop_succ_cons, List.drop_zero]
  refine st_ex ha (by kernel_rfl) (ex_append (m := 1) (d' := 1) elt22 (by decide) 1 (evv x_3) s rfl (by kernel_rfl) (by kernel_rfl) rfl (reads_blk (s.blkIs 0 rfl) rfl) (evv_one _) (by simp only [maxLen]; omega) (by omega)) ?_
  clear ha a s w; rintro _ w a ⟨A228, c229, rfl, hA_, s⟩ ha
  rw [show (evv x_3) = evs [x_3] from by kernel_rfl, ← evs_append] at s
  replace s : St W (.blk g198 (evv x_3) 36 :: Own 36 16 A228 12 c229 (evs ((goodL ++ [x_2]) ++ [x_3])) :: .blk g2 [.slice A1 10 10] 22 :: Own 36 16 A1 10 10 (evs goodL) :: .blk g28 (evv x_4) 36 :: .blk g27 (evv x_2) 36 :: .blk g3 (evv x_3) 36 :: L) w := s
  refine st_call ha (by kernel_rfl) (by kernel_rfl) (finds_true W hW _ w A228 c229 ((goodL ++ [x_2]) ++ [x_3]) (Knows.own (j := 1) rfl) fx_33 (by decide) false 0 0 (lit_not fx_32) s) ?_
  clear s w; rintro _ w ⟨rfl, s⟩
  replace s := ((((s.at_ (j := 6) rfl).at_ (j := 6) rfl).at_ (j := 6) rfl).at_ (j := 6) rfl).at_ (j := 6) rfl
  replace s : St W (.blk g2 [.slice A1 10 10] 22 :: Own 36 16 A1 10 10 (evs goodL) :: .blk g28 (evv x_4) 36 :: .blk g27 (evv x_2) 36 :: .blk g3 (evv x_3) 36 :: L) w := s.keep 5 2
  refine ⟨_, rfl, ?_⟩; clear ha a; intro a ha
  refine st_val (.bool true) ha (by kernel_rfl) (by kernel_rfl) ?_
  clear ha a; intro a ha
  refine st_val (.bool true) ha (by kernel_rfl) (by kernel_rfl) ?_
  clear ha a; intro a ha
  refine wpList_nil ?_
  refine then_normal ?_
  refine wp_seq ?_
  refine wp_region_lit ?_
  refine st_val (.func (.func 9) #[] #[.pointer (some ⟨g2, 0, none⟩)]) ha (by kernel_rfl) (by kernel_rfl) ?_
  clear ha a; intro a ha
  refine st_call ha (by kernel_rfl) (by kernel_rfl) (ev_any W _ w 1 1 2 s) ?_
  clear s w; rintro _ w ⟨rfl, s⟩
  refine ⟨_, rfl, ?_⟩; clear ha a; intro a ha
  refine st_call ha (by kernel_rfl) (by kernel_rfl) (e_any W _ w g2 A1 x_40 s) ?_
  clear s w; rintro _ w ⟨A230, c231, rfl, s⟩
  refine ⟨_, rfl, ?_⟩; clear ha a; intro a ha
  refine st_call ha (by kernel_rfl) (by kernel_rfl) (finds_true W hW _ w A230 c231 (goodL ++ [x_40]) (Knows.own (j := 0) rfl) fx_35 (by decide) false 3 10 (lit_rule fx_34) s) ?_
  clear s w; rintro _ w ⟨rfl, s⟩
  replace s := ((((s.at_ (j := 5) rfl).at_ (j := 5) rfl).at_ (j := 5) rfl).at_ (j := 5) rfl).at_ (j := 5) rfl
  replace s : St W (.blk g2 [.slice A1 10 10] 22 :: Own 36 16 A1 10 10 (evs goodL) :: .blk g28 (evv x_4) 36 :: .blk g27 (evv x_2) 36 :: .blk g3 (evv x_3) 36 :: L) w := s.keep 5 1
  refine ⟨_, rfl, ?_⟩; clear ha a; intro a ha
  refine st_val (.bool true) ha (by kernel_rfl) (by kernel_rfl) ?_
  clear ha a; intro a ha
  refine st_val (.func (.func 9) #[] #[.pointer (some ⟨g2, 0, none⟩)]) ha (by kernel_rfl) (by kernel_rfl) ?_
  clear ha a; intro a ha
  refine st_call ha (by kernel_rfl) (by kernel_rfl) (ev_any W _ w 1 1 4 s) ?_
  clear s w; rintro _ w ⟨rfl, s⟩
  refine ⟨_, rfl, ?_⟩; clear ha a; intro a ha
  refine st_call ha (by kernel_rfl) (by kernel_rfl) (e_any W _ w g2 A1 x_41 s) ?_
  clear s w; rintro _ w ⟨A232, c233, rfl, s⟩
  refine ⟨_, rfl, ?_⟩; clear ha a; intro a ha
  refine st_call ha (by kernel_rfl) (by kernel_rfl) (finds_true W hW _ w A232 c233 (goodL ++ [x_41]) (Knows.own (j := 0) rfl) fx_37 (by decide) false 3 10 (lit_rule fx_36) s) ?_
  clear s w; rintro _ w ⟨rfl, s⟩
  replace s := ((((s.at_ (j := 5) rfl).at_ (j := 5) rfl).at_ (j := 5) rfl).at_ (j := 5) rfl).at_ (j := 5) rfl
  replace s : St W (.blk g2 [.slice A1 10 10] 22 :: Own 36 16 A1 10 10 (evs goodL) :: .blk g28 (evv x_4) 36 :: .blk g27 (evv x_2) 36 :: .blk g3 (evv x_3) 36 :: L) w := s.keep 5 1
  refine ⟨_, rfl, ?_⟩; clear ha a; intro a ha
  refine st_val (.bool true) ha (by kernel_rfl) (by kernel_rfl) ?_
  clear ha a; intro a ha
  refine st_val (.bool true) ha (by kernel_rfl) (by kernel_rfl) ?_
  clear ha a; intro a ha
  refine st_val (.func (.func 9) #[] #[.pointer (some ⟨g2, 0, none⟩)]) ha (by kernel_rfl) (by kernel_rfl) ?_
  clear ha a; intro a ha
  refine st_call ha (by kernel_rfl) (by kernel_rfl) (ev_any W _ w 1 1 3 s) ?_
  clear s w; rintro _ w ⟨rfl, s⟩
  refine ⟨_, rfl, ?_⟩; clear ha a; intro a ha
  refine st_call ha (by kernel_rfl) (by kernel_rfl) (e_any W _ w g2 A1 x_1 s) ?_
  clear s w; rintro _ w ⟨A234, c235, rfl, s⟩
  refine ⟨_, rfl, ?_⟩; clear ha a; intro a ha
  refine st_call ha (by kernel_rfl) (by kernel_rfl) (finds_true W hW _ w A234 c235 (goodL ++ [x_1]) (Knows.own (j := 0) rfl) fx_39 (by decide) false 0 0 (lit_not fx_38) s) ?_
  clear s w; rintro _ w ⟨rfl, s⟩
  replace s := ((((s.at_ (j := 5) rfl).at_ (j := 5) rfl).at_ (j := 5) rfl).at_ (j := 5) rfl).at_ (j := 5) rfl
  replace s : St W (.blk g2 [.slice A1 10 10] 22 :: Own 36 16 A1 10 10 (evs goodL) :: .blk g28 (evv x_4) 36 :: .blk g27 (evv x_2) 36 :: .blk g3 (evv x_3) 36 :: L) w := s.keep 5 1
  refine ⟨_, rfl, ?_⟩; clear ha a; intro a ha
  refine st_val (.bool true) ha (by kernel_rfl) (by kernel_rfl) ?_
  clear ha a; intro a ha
  refine st_val (.bool true) ha (by kernel_rfl) (by kernel_rfl) ?_
  clear ha a; intro a ha
  refine wpList_nil ?_
  refine then_normal ?_
  refine wp_seq ?_
  refine wp_region_lit ?_
  refine st_val (.func (.func 9) #[] #[.pointer (some ⟨g2, 0, none⟩)]) ha (by kernel_rfl) (by kernel_rfl) ?_
  clear ha a; intro a ha
  refine st_call ha (by kernel_rfl) (by kernel_rfl) (ev_any W _ w 1 1 3 s) ?_
  clear s w; rintro _ w ⟨rfl, s⟩
  refine ⟨_, rfl, ?_⟩; clear ha a; intro a ha
  refine st_call ha (by kernel_rfl) (by kernel_rfl) (e_any W _ w g2 A1 x_1 s) ?_
  clear s w; rintro _ w ⟨A236, c237, rfl, s⟩
  refine ⟨_, rfl, ?_⟩; clear ha a; intro a ha
  refine st_call ha (by kernel_rfl) (by kernel_rfl) (ask_any W _ w 3 1 [97] s) ?_
  clear s w; rintro _ w ⟨rfl, s⟩
  refine ⟨_, rfl, ?_⟩; clear ha a; intro a ha
  refine st_ex ha (by kernel_rfl) (ex_buildSlice elt22 _ zs22 (evv x_0) s rfl (by kernel_rfl) (by decide)) ?_
  clear ha a s w; rintro _ w a ⟨g238, rfl, s⟩ ha
  refine st_ex ha (by kernel_rfl) (ex_append (m := 1) (d' := 1) elt22 (by decide) 1 (evv x_0) s rfl (by kernel_rfl) (by kernel_rfl) rfl (reads_blk (s.blkIs 0 rfl) rfl) (evv_one _) (by simp only [maxLen]; omega) (by omega)) ?_
  clear ha a s w; rintro _ w a ⟨A239, c240, rfl, hA_, s⟩ ha
  rw [show (evv x_0) = evs [x_0] from by kernel_rfl, ← evs_append] at s
  replace s : St W (.blk g238 (evv x_0) 36 :: Own 36 16 A239 12 c240 (evs ((goodL ++ [x_1]) ++ [x_0])) :: .blk g2 [.slice A1 10 10] 22 :: Own 36 16 A1 10 10 (evs goodL) :: .blk g28 (evv x_4) 36 :: .blk g27 (evv x_2) 36 :: .blk g3 (evv x_3) 36 :: L) w := s
  refine st_val (.slice A239 12 c240) ha (by kernel_rfl) (by kernel_rfl) ?_
  clear ha a; intro a ha
  refine wpList_nil ?_
  refine then_normal ?_
  refine wp_seq ?_
  have hc10 := (Own.facts (s.at_ (j := 1) rfl).1).2.1
  refine wp_region_lit ?_
  refine st_call ha (by kernel_rfl) (by kernel_rfl) (ask_any W _ w 3 1 [97] s) ?_
  clear s w; rintro _ w ⟨rfl, s⟩
  refine ⟨_, rfl, ?_⟩; clear ha a; intro a ha
  refine st_ex ha (by kernel_rfl) (ex_alloc (evv x_9) s rfl (Try.zeroValue36 _) (by kernel_rfl)) ?_
  clear ha a s w; rintro _ w a ⟨g241, rfl, s⟩ ha
  refine st_exd ha (by kernel_rfl) (ex_store (of_ := 0) 0 (evv x_0) s rfl rfl (by kernel_rfl) (by kernel_rfl) (Try.sizeOf36 _) rfl (evv_one _) (Nat.le_of_ble_eq_true rfl)) ?_
  clear ha a s w; rintro w a s ha
  replace s : St W (.blk g241 (evv x_0) 36 :: .blk g238 (evv x_0) 36 :: Own 36 16 A239 12 c240 (evs ((goodL ++ [x_1]) ++ [x_0])) :: .blk g2 [.slice A1 10 10] 22 :: Own 36 16 A1 10 10 (evs goodL) :: .blk g28 (evv x_4) 36 :: .blk g27 (evv x_2) 36 :: .blk g3 (evv x_3) 36 :: L) w := s
  refine wpList_nil ?_
  refine then_normal ?_
  refine wp_seq ?_
  refine wp_region_lit ?_
  refine st_val (.pointer (some ⟨g241, 2, none⟩)) ha (by kernel_rfl) (by kernel_rfl) ?_
  clear ha a; intro a ha
  refine st_exd ha (by kernel_rfl) (ex_store (of_ := 2) 0 [.int .i64 2] s rfl rfl (by kernel_rfl) (by kernel_rfl) (Try.sizeOf3 _) rfl (by simp [Value.oneCell']) (Nat.le_of_ble_eq_true rfl)) ?_
  clear ha a s w; rintro w a s ha
  replace s : St W (.blk g241 (evv x_30) 36 :: .blk g238 (evv x_0) 36 :: Own 36 16 A239 12 c240 (evs ((goodL ++ [x_1]) ++ [x_0])) :: .blk g2 [.slice A1 10 10] 22 :: Own 36 16 A1 10 10 (evs goodL) :: .blk g28 (evv x_4) 36 :: .blk g27 (evv x_2) 36 :: .blk g3 (evv x_3) 36 :: L) w := s
  refine wpList_nil ?_
  refine then_normal ?_
  refine wp_seq ?_
  refine wp_region_head 6 (fun w => True) (by kernel_rfl) (by decide) ?_
  replace s := s.drew; generalize _root_.Go.World.drew _ = w at s ⊢
  have hS : (fun w => True) w := trivial
  refine hd_val (i := 0) (.slice A239 12 c240) ha rfl (by as_aux_lemma => kernel_rfl) (fun _ _ _ h => h) (by as_aux_lemma => kernel_rfl) (fun w hS => (by as_aux_lemma => kernel_rfl)) hS ?_
  clear ha a; intro a ha
  refine hd_val (i := 1) (.slice A239 11 11) ha rfl (by as_aux_lemma => kernel_rfl) (fun _ _ _ h => h) (by as_aux_lemma => kernel_rfl) (fun w hS => (run_slice0 (n := 12) (c := c240) 11 11 rfl Try.underlying22 Try.sizeOf36 (by as_aux_lemma => kernel_rfl) (fun _ => rfl) (bnd_some .i64 (by as_aux_lemma => kernel_rfl)) (bnd_some .i64 (by as_aux_lemma => kernel_rfl)) bnd_none (by omega) (by omega) _)) hS ?_
  clear ha a; intro a ha
  refine hd_call (i := 2) ha rfl (by as_aux_lemma => kernel_rfl) (by as_aux_lemma => kernel_rfl) (by as_aux_lemma => kernel_rfl) (ask_any W _ w 3 7 [] s) ?_
  clear hS s w; rintro _ w ⟨rfl, s⟩
  refine ⟨_, rfl, and_keep trivial fun hS => ?_⟩; clear ha a; intro a ha
  refine hd_call (i := 3) ha rfl (by as_aux_lemma => kernel_rfl) (by as_aux_lemma => kernel_rfl) (by as_aux_lemma => kernel_rfl) (done_any W _ w 3 7 [] [] s) ?_
  clear hS s w; rintro _ w ⟨rfl, s⟩
  refine ⟨_, rfl, and_keep trivial fun hS => ?_⟩; clear ha a; intro a ha
  refine hd_call (i := 4) ha rfl (by as_aux_lemma => kernel_rfl) (by as_aux_lemma => kernel_rfl) (by as_aux_lemma => kernel_rfl) (ask_any W _ w 3 1 [97] s) ?_
  clear hS s w; rintro _ w ⟨rfl, s⟩
  refine ⟨_, rfl, and_keep trivial fun hS => ?_⟩; clear ha a; intro a ha
  refine hd_ex (i := 5) ha rfl (by as_aux_lemma => kernel_rfl) (by as_aux_lemma => kernel_rfl) (ex_buildSlice elt22 _ zs22 (evs [x_34, x_35, x_0]) s rfl (by as_aux_lemma => kernel_rfl) (by decide)) ?_
  clear hS s w; rintro _ w ⟨g242, rfl, s⟩
  refine and_keep trivial fun hS => ?_; clear ha a; intro a ha
  refine Head.done (by as_aux_lemma => kernel_rfl) ?_
  clear hS; simp only [List.drop_succ_cons, List.drop_zero]
  refine st_ex ha (by kernel_rfl) (ex_append_fresh (A := A239) (n := 11) (m := 3) (d' := 3) (cs := evs ((((goodL ++ [x_1]) ++ [x_0])).take 11)) elt22 (by decide) (evs [x_34, x_35, x_0]) s rfl (by kernel_rfl) (by kernel_rfl) (reads_evs_tk ((goodL ++ [x_1]) ++ [x_0]) 11 12 ((Knows.own (j := 3) rfl) w s.sat) (by kernel_rfl) (by decide)) (reads_blk (s.blkIs 0 rfl) rfl) (by decide) (by simp only [maxLen]; omega) (by omega)) ?_
  clear ha a s w; rintro _ w a ⟨A243, c244, rfl, s⟩ ha
  rw [show (evs [x_34, x_35, x_0]) = evs [x_34, x_35, x_0] from by kernel_rfl, ← evs_append] at s
  replace s : St W (Own 36 16 A243 14 c244 (evs ((((goodL ++ [x_1]) ++ [x_0])).take 11 ++ [x_34, x_35, x_0])) :: .blk g242 (evs [x_34, x_35, x_0]) 36 :: .blk g241 (evv x_30) 36 :: .blk g238 (evv x_0) 36 :: Own 36 16 A239 12 c240 (evs ((goodL ++ [x_1]) ++ [x_0])) :: .blk g2 [.slice A1 10 10] 22 :: Own 36 16 A1 10 10 (evs goodL) :: .blk g28 (evv x_4) 36 :: .blk g27 (evv x_2) 36 :: .blk g3 (evv x_3) 36 :: L) w := s
  refine st_val (.slice A243 14 c244) ha (by kernel_rfl) (by kernel_rfl) ?_
  clear ha a; intro a ha
  refine wpList_nil ?_
  refine then_normal ?_
  refine wp_seq ?_
  refine wp_region_head 32 (fun w => BlkIs g241 (evv x_30) w ∧ BlkIs g27 (evv x_2) w ∧ BlkIs g28 (evv x_4) w ∧ True) (by kernel_rfl) (by decide) ?_
  replace s := s.drew; generalize _root_.Go.World.drew _ = w at s ⊢
  have hS : (fun w => BlkIs g241 (evv x_30) w ∧ BlkIs g27 (evv x_2) w ∧ BlkIs g28 (evv x_4) w ∧ True) w := ⟨s.blkIs 2 rfl, s.blkIs 8 rfl, s.blkIs 7 rfl, trivial⟩
  refine hd_val (i := 0) (.func (.func 9) #[] #[.pointer (some ⟨g2, 0, none⟩)]) ha rfl (by as_aux_lemma => kernel_rfl) (fun _ _ _ h => h) (by as_aux_lemma => kernel_rfl) (fun w hS => (by as_aux_lemma => kernel_rfl)) hS ?_
  clear ha a; intro a ha
  refine hd_call (i := 1) ha rfl (by as_aux_lemma => kernel_rfl) (by as_aux_lemma => kernel_rfl) (by as_aux_lemma => kernel_rfl) (ask_any W _ w 2 1 [97] s) ?_
  clear hS s w; rintro _ w ⟨rfl, s⟩
  refine ⟨_, rfl, and_keep ⟨s.blkIs 2 rfl, s.blkIs 8 rfl, s.blkIs 7 rfl, trivial⟩ fun hS => ?_⟩; clear ha a; intro a ha
  replace s := (s.at_ (j := 6) rfl).at_ (j := 6) rfl
  replace s : St W (.blk g2 [.slice A1 10 10] 22 :: Own 36 16 A1 10 10 (evs goodL) :: Own 36 16 A243 14 c244 (evs ((((goodL ++ [x_1]) ++ [x_0])).take 11 ++ [x_34, x_35, x_0])) :: .blk g242 (evs [x_34, x_35, x_0]) 36 :: .blk g241 (evv x_30) 36 :: .blk g238 (evv x_0) 36 :: Own 36 16 A239 12 c240 (evs ((goodL ++ [x_1]) ++ [x_0])) :: .blk g28 (evv x_4) 36 :: .blk g27 (evv x_2) 36 :: .blk g3 (evv x_3) 36 :: L) w := s
  refine hd_call (i := 2) ha rfl (by as_aux_lemma => kernel_rfl) (by as_aux_lemma => kernel_rfl) (by as_aux_lemma => kernel_rfl) (e_any W _ w g2 A1 x_42 s) ?_
  clear hS s w; rintro _ w ⟨A245, c246, rfl, s⟩
  refine ⟨_, rfl, and_keep ⟨s.blkIs 5 rfl, s.blkIs 9 rfl, s.blkIs 8 rfl, trivial⟩ fun hS => ?_⟩; clear ha a; intro a ha
  refine hd_call (i := 3) ha rfl (by as_aux_lemma => kernel_rfl) (by as_aux_lemma => kernel_rfl) (by as_aux_lemma => kernel_rfl) (finds_true W hW _ w A245 c246 (goodL ++ [x_42]) (Knows.own (j := 0) rfl) fx_41 (by decide) false 4 10 (lit_rule fx_40) s) ?_
  clear hS s w; rintro _ w ⟨rfl, s⟩
  replace s := (((((((s.at_ (j := 10) rfl).at_ (j := 10) rfl).at_ (j := 10) rfl).at_ (j := 10) rfl).at_ (j := 9) rfl).at_ (j := 8) rfl).at_ (j := 8) rfl).at_ (j := 8) rfl
  replace s : St W (.blk g2 [.slice A1 10 10] 22 :: Own 36 16 A1 10 10 (evs goodL) :: Own 36 16 A243 14 c244 (evs ((((goodL ++ [x_1]) ++ [x_0])).take 11 ++ [x_34, x_35, x_0])) :: .blk g241 (evv x_30) 36 :: Own 36 16 A239 12 c240 (evs ((goodL ++ [x_1]) ++ [x_0])) :: .blk g28 (evv x_4) 36 :: .blk g27 (evv x_2) 36 :: .blk g3 (evv x_3) 36 :: L) w := s.keep 8 3
  refine ⟨_, rfl, and_keep ⟨s.blkIs 3 rfl, s.blkIs 6 rfl, s.blkIs 5 rfl, trivial⟩ fun hS => ?_⟩; clear ha a; intro a ha
  refine hd_val (i := 4) (.bool true) ha rfl (by as_aux_lemma => kernel_rfl) (fun _ _ _ h => h) (by as_aux_lemma => kernel_rfl) (fun w hS => (by as_aux_lemma => kernel_rfl)) hS ?_
  clear ha a; intro a ha
  refine hd_val (i := 5) (.func (.func 9) #[] #[.pointer (some ⟨g2, 0, none⟩)]) ha rfl (by as_aux_lemma => kernel_rfl) (fun _ _ _ h => h) (by as_aux_lemma => kernel_rfl) (fun w hS => (by as_aux_lemma => kernel_rfl)) hS ?_
  clear ha a; intro a ha
  refine hd_call (i := 6) ha rfl (by as_aux_lemma => kernel_rfl) (by as_aux_lemma => kernel_rfl) (by as_aux_lemma => kernel_rfl) (ask_any W _ w 3 1 [97] s) ?_
  clear hS s w; rintro _ w ⟨rfl, s⟩
  refine ⟨_, rfl, and_keep ⟨s.blkIs 3 rfl, s.blkIs 6 rfl, s.blkIs 5 rfl, trivial⟩ fun hS => ?_⟩; clear ha a; intro a ha
  refine hd_call (i := 7) ha rfl (by as_aux_lemma => kernel_rfl) (by as_aux_lemma => kernel_rfl) (by as_aux_lemma => kernel_rfl) (e_any W _ w g2 A1 x_0 s) ?_
  clear hS s w; rintro _ w ⟨A247, c248, rfl, s⟩
  refine ⟨_, rfl, and_keep ⟨s.blkIs 4 rfl, s.blkIs 7 rfl, s.blkIs 6 rfl, trivial⟩ fun hS => ?_⟩; clear ha a; intro a ha
  refine hd_call (i := 8) ha rfl (by as_aux_lemma => kernel_rfl) (by as_aux_lemma => kernel_rfl) (by as_aux_lemma => kernel_rfl) (finds_true W hW _ w A247 c248 (goodL ++ [x_0]) (Knows.own (j := 0) rfl) fx_43 (by decide) false 4 10 (lit_rule fx_42) s) ?_
  clear hS s w; rintro _ w ⟨rfl, s⟩
  replace s := (((((((s.at_ (j := 8) rfl).at_ (j := 8) rfl).at_ (j := 8) rfl).at_ (j := 8) rfl).at_ (j := 8) rfl).at_ (j := 8) rfl).at_ (j := 8) rfl).at_ (j := 8) rfl
  replace s : St W (.blk g2 [.slice A1 10 10] 22 :: Own 36 16 A1 10 10 (evs goodL) :: Own 36 16 A243 14 c244 (evs ((((goodL ++ [x_1]) ++ [x_0])).take 11 ++ [x_34, x_35, x_0])) :: .blk g241 (evv x_30) 36 :: Own 36 16 A239 12 c240 (evs ((goodL ++ [x_1]) ++ [x_0])) :: .blk g28 (evv x_4) 36 :: .blk g27 (evv x_2) 36 :: .blk g3 (evv x_3) 36 :: L) w := s.keep 8 1
  refine ⟨_, rfl, and_keep ⟨s.blkIs 3 rfl, s.blkIs 6 rfl, s.blkIs 5 rfl, trivial⟩ fun hS => ?_⟩; clear ha a; intro a ha
  refine hd_val (i := 9) (.bool true) ha rfl (by as_aux_lemma => kernel_rfl) (fun _ _ _ h => h) (by as_aux_lemma => kernel_rfl) (fun w hS => (by as_aux_lemma => kernel_rfl)) hS ?_
  clear ha a; intro a ha
  refine hd_val (i := 10) (.bool true) ha rfl (by as_aux_lemma => kernel_rfl) (fun _ _ _ h => h) (by as_aux_lemma => kernel_rfl) (fun w hS => (by as_aux_lemma => kernel_rfl)) hS ?_
  clear ha a; intro a ha
  refine hd_val (i := 11) (.slice A239 12 c240) ha rfl (by as_aux_lemma => kernel_rfl) (fun _ _ _ h => h) (by as_aux_lemma => kernel_rfl) (fun w hS => (by as_aux_lemma => kernel_rfl)) hS ?_
  clear ha a; intro a ha
  refine hd_call (i := 12) ha rfl (by as_aux_lemma => kernel_rfl) (by as_aux_lemma => kernel_rfl) (by as_aux_lemma => kernel_rfl) (ask_any W _ w 3 1 [97] s) ?_
  clear hS s w; rintro _ w ⟨rfl, s⟩
  refine ⟨_, rfl, and_keep ⟨s.blkIs 3 rfl, s.blkIs 6 rfl, s.blkIs 5 rfl, trivial⟩ fun hS => ?_⟩; clear ha a; intro a ha
  refine hd_ex (i := 13) ha rfl (by as_aux_lemma => kernel_rfl) (by as_aux_lemma => kernel_rfl) (ex_buildSlice elt22 _ zs22 (evv x_0) s rfl (by as_aux_lemma => kernel_rfl) (by decide)) ?_
  clear hS s w; rintro _ w ⟨g249, rfl, s⟩
  refine and_keep ⟨s.blkIs 4 rfl, s.blkIs 7 rfl, s.blkIs 6 rfl, trivial⟩ fun hS => ?_; clear ha a; intro a ha
  refine hd_ex (i := 14) ha rfl (by as_aux_lemma => kernel_rfl) (by as_aux_lemma => kernel_rfl) (ex_append_keep (m := 1) (d' := 1) elt22 (by decide) 5 (evv x_0) s rfl (by as_aux_lemma => kernel_rfl) (by as_aux_lemma => kernel_rfl) rfl (reads_blk (s.blkIs 0 rfl) rfl) (evv_one _) (by simp only [maxLen]; omega) (by omega)) ?_
  clear hS s w; rintro _ w ⟨A250, c251, rfl, s⟩
  rw [show (evv x_0) = evs [x_0] from by kernel_rfl] at s
  replace s : St W (.blk g249 (evv x_0) 36 :: .blk g2 [.slice A1 10 10] 22 :: Own 36 16 A1 10 10 (evs goodL) :: Own 36 16 A243 14 c244 (evs ((((goodL ++ [x_1]) ++ [x_0])).take 11 ++ [x_34, x_35, x_0])) :: .blk g241 (evv x_30) 36 :: Forked 36 16 A239 12 c240 (evs (((goodL ++ [x_1]) ++ [x_0]))) A250 13 c251 (evs [x_0]) :: .blk g28 (evv x_4) 36 :: .blk g27 (evv x_2) 36 :: .blk g3 (evv x_3) 36 :: L) w := s
  refine and_keep ⟨s.blkIs 4 rfl, s.blkIs 7 rfl, s.blkIs 6 rfl, trivial⟩ fun hS => ?_; clear ha a; intro a ha
  refine hd_call (i := 15) ha rfl (by as_aux_lemma => kernel_rfl) (by as_aux_lemma => kernel_rfl) (by as_aux_lemma => kernel_rfl) (finds_true W hW _ w A250 c251 (((goodL ++ [x_1]) ++ [x_0]) ++ [x_0]) (Knows.forkedNew (j := 5) rfl) fx_45 (by decide) false 4 12 (lit_rule fx_44) s) ?_
  clear hS s w; rintro _ w ⟨rfl, s⟩
  replace s := (((((((s.at_ (j := 8) rfl).at_ (j := 8) rfl).at_ (j := 8) rfl).at_ (j := 8) rfl).at_ (j := 8) rfl).at_ (j := 8) rfl).at_ (j := 8) rfl).at_ (j := 8) rfl
  replace s : St W (.blk g2 [.slice A1 10 10] 22 :: Own 36 16 A1 10 10 (evs goodL) :: Own 36 16 A243 14 c244 (evs ((((goodL ++ [x_1]) ++ [x_0])).take 11 ++ [x_34, x_35, x_0])) :: .blk g241 (evv x_30) 36 :: Forked 36 16 A239 12 c240 (evs (((goodL ++ [x_1]) ++ [x_0]))) A250 13 c251 (evs [x_0]) :: .blk g28 (evv x_4) 36 :: .blk g27 (evv x_2) 36 :: .blk g3 (evv x_3) 36 :: L) w := s.keep 8 1
  refine ⟨_, rfl, and_keep ⟨s.blkIs 3 rfl, s.blkIs 6 rfl, s.blkIs 5 rfl, trivial⟩ fun hS => ?_⟩; clear ha a; intro a ha
  refine hd_val (i := 16) (.bool true) ha rfl (by as_aux_lemma => kernel_rfl) (fun _ _ _ h => h) (by as_aux_lemma => kernel_rfl) (fun w hS => (by as_aux_lemma => kernel_rfl)) hS ?_
  clear ha a; intro a ha
  refine hd_val (i := 17) (.bool true) ha rfl (by as_aux_lemma => kernel_rfl) (fun _ _ _ h => h) (by as_aux_lemma => kernel_rfl) (fun w hS => (by as_aux_lemma => kernel_rfl)) hS ?_
  clear ha a; intro a ha
  refine hd_val (i := 18) (.slice A239 12 c240) ha rfl (by as_aux_lemma => kernel_rfl) (fun _ _ _ h => h) (by as_aux_lemma => kernel_rfl) (fun w hS => (by as_aux_lemma => kernel_rfl)) hS ?_
  clear ha a; intro a ha
  refine hd_val (i := 19) (.slice A239 11 11) ha rfl (by as_aux_lemma => kernel_rfl) (fun _ _ _ h => h) (by as_aux_lemma => kernel_rfl) (fun w hS => (run_slice0 (n := 12) (c := c240) 11 11 rfl Try.underlying22 Try.sizeOf36 (by as_aux_lemma => kernel_rfl) (fun _ => rfl) (bnd_some .i64 (by as_aux_lemma => kernel_rfl)) (bnd_some .i64 (by as_aux_lemma => kernel_rfl)) bnd_none (by omega) (by omega) _)) hS ?_
  clear ha a; intro a ha
  refine hd_val (i := 20) (.agg (evv x_30).toArray) ha rfl (by as_aux_lemma => kernel_rfl) (fun _ _ _ h => h) (by as_aux_lemma => kernel_rfl) (fun w hS => run_loadN (of_ := 0) (evv x_30) hS.1 rfl (by as_aux_lemma => kernel_rfl) Try.isAgg36 Try.sizeOf36 rfl (Nat.le_of_ble_eq_true rfl)) hS ?_
  clear ha a; intro a ha
  refine hd_ex (i := 21) ha rfl (by as_aux_lemma => kernel_rfl) (by as_aux_lemma => kernel_rfl) (ex_buildSlice elt22 _ zs22 (evv x_30) s rfl (by as_aux_lemma => kernel_rfl) (by decide)) ?_
  clear hS s w; rintro _ w ⟨g252, rfl, s⟩
  refine and_keep ⟨s.blkIs 4 rfl, s.blkIs 7 rfl, s.blkIs 6 rfl, trivial⟩ fun hS => ?_; clear ha a; intro a ha
  refine hd_ex (i := 22) ha rfl (by as_aux_lemma => kernel_rfl) (by as_aux_lemma => kernel_rfl) (ex_append_fresh (A := A239) (n := 11) (m := 1) (d' := 1) (cs := evs ((((goodL ++ [x_1]) ++ [x_0])).take 11)) elt22 (by decide) (evv x_30) s rfl (by as_aux_lemma => kernel_rfl) (by as_aux_lemma => kernel_rfl) (reads_evs_tk ((goodL ++ [x_1]) ++ [x_0]) 11 12 ((Knows.forkedOld (j := 5) rfl) w s.sat) (by as_aux_lemma => kernel_rfl) (by decide)) (reads_blk (s.blkIs 0 rfl) rfl) (by decide) (by simp only [maxLen]; omega) (by omega)) ?_
  clear hS s w; rintro _ w ⟨A253, c254, rfl, s⟩
  rw [show (evv x_30) = evs [x_30] from by kernel_rfl, ← evs_append] at s
  replace s : St W (Own 36 16 A253 12 c254 (evs ((((goodL ++ [x_1]) ++ [x_0])).take 11 ++ [x_30])) :: .blk g252 (evv x_30) 36 :: .blk g2 [.slice A1 10 10] 22 :: Own 36 16 A1 10 10 (evs goodL) :: Own 36 16 A243 14 c244 (evs ((((goodL ++ [x_1]) ++ [x_0])).take 11 ++ [x_34, x_35, x_0])) :: .blk g241 (evv x_30) 36 :: Forked 36 16 A239 12 c240 (evs (((goodL ++ [x_1]) ++ [x_0]))) A250 13 c251 (evs [x_0]) :: .blk g28 (evv x_4) 36 :: .blk g27 (evv x_2) 36 :: .blk g3 (evv x_3) 36 :: L) w := s
  refine and_keep ⟨s.blkIs 5 rfl, s.blkIs 8 rfl, s.blkIs 7 rfl, trivial⟩ fun hS => ?_; clear ha a; intro a ha
  refine hd_call (i := 23) ha rfl (by as_aux_lemma => kernel_rfl) (by as_aux_lemma => kernel_rfl) (by as_aux_lemma => kernel_rfl) (finds_true W hW _ w A253 c254 ((((goodL ++ [x_1]) ++ [x_0])).take 11 ++ [x_30]) (Knows.own (j := 0) rfl) fx_47 (by decide) false 4 11 (lit_rule fx_46) s) ?_
  clear hS s w; rintro _ w ⟨rfl, s⟩
  replace s := (((((((s.at_ (j := 9) rfl).at_ (j := 9) rfl).at_ (j := 9) rfl).at_ (j := 9) rfl).at_ (j := 9) rfl).at_ (j := 9) rfl).at_ (j := 9) rfl).at_ (j := 9) rfl
  replace s : St W (.blk g2 [.slice A1 10 10] 22 :: Own 36 16 A1 10 10 (evs goodL) :: Own 36 16 A243 14 c244 (evs ((((goodL ++ [x_1]) ++ [x_0])).take 11 ++ [x_34, x_35, x_0])) :: .blk g241 (evv x_30) 36 :: Forked 36 16 A239 12 c240 (evs (((goodL ++ [x_1]) ++ [x_0]))) A250 13 c251 (evs [x_0]) :: .blk g28 (evv x_4) 36 :: .blk g27 (evv x_2) 36 :: .blk g3 (evv x_3) 36 :: L) w := s.keep 8 2
  refine ⟨_, rfl, and_keep ⟨s.blkIs 3 rfl, s.blkIs 6 rfl, s.blkIs 5 rfl, trivial⟩ fun hS => ?_⟩; clear ha a; intro a ha
  refine hd_val (i := 24) (.bool true) ha rfl (by as_aux_lemma => kernel_rfl) (fun _ _ _ h => h) (by as_aux_lemma => kernel_rfl) (fun w hS => (by as_aux_lemma => kernel_rfl)) hS ?_
  clear ha a; intro a ha
  refine hd_val (i := 25) (.bool true) ha rfl (by as_aux_lemma => kernel_rfl) (fun _ _ _ h => h) (by as_aux_lemma => kernel_rfl) (fun w hS => (by as_aux_lemma => kernel_rfl)) hS ?_
  clear ha a; intro a ha
  refine hd_val (i := 26) (.slice A239 12 c240) ha rfl (by as_aux_lemma => kernel_rfl) (fun _ _ _ h => h) (by as_aux_lemma => kernel_rfl) (fun w hS => (by as_aux_lemma => kernel_rfl)) hS ?_
  clear ha a; intro a ha
  refine hd_val (i := 27) (.slice A239 11 11) ha rfl (by as_aux_lemma => kernel_rfl) (fun _ _ _ h => h) (by as_aux_lemma => kernel_rfl) (fun w hS => (run_slice0 (n := 12) (c := c240) 11 11 rfl Try.underlying22 Try.sizeOf36 (by as_aux_lemma => kernel_rfl) (fun _ => rfl) (bnd_some .i64 (by as_aux_lemma => kernel_rfl)) (bnd_some .i64 (by as_aux_lemma => kernel_rfl)) bnd_none (by omega) (by omega) _)) hS ?_
  clear ha a; intro a ha
  refine hd_val (i := 28) (.agg (evv x_2).toArray) ha rfl (by as_aux_lemma => kernel_rfl) (fun _ _ _ h => h) (by as_aux_lemma => kernel_rfl) (fun w hS => run_loadN (of_ := 0) (evv x_2) hS.2.1 rfl (by as_aux_lemma => kernel_rfl) Try.isAgg36 Try.sizeOf36 rfl (Nat.le_of_ble_eq_true rfl)) hS ?_
  clear ha a; intro a ha
  refine hd_val (i := 29) (.agg (evv x_4).toArray) ha rfl (by as_aux_lemma => kernel_rfl) (fun _ _ _ h => h) (by as_aux_lemma => kernel_rfl) (fun w hS => run_loadN (of_ := 0) (evv x_4) hS.2.2.1 rfl (by as_aux_lemma => kernel_rfl) Try.isAgg36 Try.sizeOf36 rfl (Nat.le_of_ble_eq_true rfl)) hS ?_
  clear ha a; intro a ha
  refine hd_call (i := 30) ha rfl (by as_aux_lemma => kernel_rfl) (by as_aux_lemma => kernel_rfl) (by as_aux_lemma => kernel_rfl) (ask_any W _ w 3 1 [97] s) ?_
  clear hS s w; rintro _ w ⟨rfl, s⟩
  refine ⟨_, rfl, and_keep ⟨s.blkIs 3 rfl, s.blkIs 6 rfl, s.blkIs 5 rfl, trivial⟩ fun hS => ?_⟩; clear ha a; intro a ha
  refine hd_ex (i := 31) ha rfl (by as_aux_lemma => kernel_rfl) (by as_aux_lemma => kernel_rfl) (ex_buildSlice elt22 _ zs22 (evs [x_2, x_4, x_0]) s rfl (by as_aux_lemma => kernel_rfl) (by decide)) ?_
  clear hS s w; rintro _ w ⟨g255, rfl, s⟩
  refine and_keep ⟨s.blkIs 4 rfl, s.blkIs 7 rfl, s.blkIs 6 rfl, trivial⟩ fun hS => ?_; clear ha a; intro a ha
  refine Head.done (by as_aux_lemma => kernel_rfl) ?_
  clear hS; simp only [List.drop_succ_cons, List.drop_zero]
  refine st_ex ha (by kernel_rfl) (ex_append_fresh (A := A239) (n := 11) (m := 3) (d' := 3) (cs := evs ((((goodL ++ [x_1]) ++ [x_0])).take 11)) elt22 (by decide) (evs [x_2, x_4, x_0]) s rfl (by kernel_rfl) (by kernel_rfl) (reads_evs_tk ((goodL ++ [x_1]) ++ [x_0]) 11 12 ((Knows.forkedOld (j := 5) rfl) w s.sat) (by kernel_rfl) (by decide)) (reads_blk (s.blkIs 0 rfl) rfl) (by decide) (by simp only [maxLen]; omega) (by omega)) ?_
  clear ha a s w; rintro _ w a ⟨A256, c257, rfl, s⟩ ha
  rw [show (evs [x_2, x_4, x_0]) = evs [x_2, x_4, x_0] from by kernel_rfl, ← evs_append] at s
  replace s : St W (Own 36 16 A256 14 c257 (evs ((((goodL ++ [x_1]) ++ [x_0])).take 11 ++ [x_2, x_4, x_0])) :: .blk g255 (evs [x_2, x_4, x_0]) 36 :: .blk g2 [.slice A1 10 10] 22 :: Own 36 16 A1 10 10 (evs goodL) :: Own 36 16 A243 14 c244 (evs ((((goodL ++ [x_1]) ++ [x_0])).take 11 ++ [x_34, x_35, x_0])) :: .blk g241 (evv x_30) 36 :: Forked 36 16 A239 12 c240 (evs (((goodL ++ [x_1]) ++ [x_0]))) A250 13 c251 (evs [x_0]) :: .blk g28 (evv x_4) 36 :: .blk g27 (evv x_2) 36 :: .blk g3 (evv x_3) 36 :: L) w := s
  refine st_call ha (by kernel_rfl) (by kernel_rfl) (finds_true W hW _ w A256 c257 ((((goodL ++ [x_1]) ++ [x_0])).take 11 ++ [x_2, x_4, x_0]) (Knows.own (j := 0) rfl) fx_49 (by decide) false 4 13 (lit_rule fx_48) s) ?_
  clear s w; rintro _ w ⟨rfl, s⟩
  replace s := ((((((s.at_ (j := 9) rfl).at_ (j := 9) rfl).at_ (j := 9) rfl).at_ (j := 9) rfl).at_ (j := 8) rfl).at_ (j := 8) rfl).at_ (j := 8) rfl
  replace s : St W (.blk g2 [.slice A1 10 10] 22 :: Own 36 16 A1 10 10 (evs goodL) :: Own 36 16 A243 14 c244 (evs ((((goodL ++ [x_1]) ++ [x_0])).take 11 ++ [x_34, x_35, x_0])) :: Forked 36 16 A239 12 c240 (evs (((goodL ++ [x_1]) ++ [x_0]))) A250 13 c251 (evs [x_0]) :: .blk g28 (evv x_4) 36 :: .blk g27 (evv x_2) 36 :: .blk g3 (evv x_3) 36 :: L) w := s.keep 7 3
  refine ⟨_, rfl, ?_⟩; clear ha a; intro a ha
  refine st_val (.bool true) ha (by kernel_rfl) (by kernel_rfl) ?_
  clear ha a; intro a ha
  refine st_val (.bool true) ha (by kernel_rfl) (by kernel_rfl) ?_
  clear ha a; intro a ha
  refine st_val (.slice A243 14 c244) ha (by kernel_rfl) (by kernel_rfl) ?_
  clear ha a; intro a ha
  refine st_call ha (by kernel_rfl) (by kernel_rfl) (finds_true W hW _ w A243 c244 ((((goodL ++ [x_1]) ++ [x_0])).take 11 ++ [x_34, x_35, x_0]) (Knows.own (j := 2) rfl) fx_51 (by decide) false 4 13 (lit_rule fx_50) s) ?_
  clear s w; rintro _ w ⟨rfl, s⟩
  replace s := (((((s.at_ (j := 6) rfl).at_ (j := 6) rfl).at_ (j := 6) rfl).at_ (j := 6) rfl).at_ (j := 5) rfl).at_ (j := 5) rfl
  replace s : St W (.blk g2 [.slice A1 10 10] 22 :: Own 36 16 A1 10 10 (evs goodL) :: Forked 36 16 A239 12 c240 (evs (((goodL ++ [x_1]) ++ [x_0]))) A250 13 c251 (evs [x_0]) :: .blk g28 (evv x_4) 36 :: .blk g27 (evv x_2) 36 :: .blk g3 (evv x_3) 36 :: L) w := s.keep 6 1
  refine ⟨_, rfl, ?_⟩; clear ha a; intro a ha
  refine st_val (.bool true) ha (by kernel_rfl) (by kernel_rfl) ?_
  clear ha a; intro a ha
  refine st_val (.bool true) ha (by kernel_rfl) (by kernel_rfl) ?_
  clear ha a; intro a ha
  refine wpList_nil ?_
  refine then_normal ?_
  refine wp_seq ?_
  refine wp_region_lit ?_
  refine st_call ha (by kernel_rfl) (by kernel_rfl) (done_any W _ w 3 1 [97] [120] s) ?_
  clear s w; rintro _ w ⟨rfl, s⟩
  refine ⟨_, rfl, ?_⟩; clear ha a; intro a ha
  refine st_ex ha (by kernel_rfl) (ex_alloc (evv x_9) s rfl (Try.zeroValue36 _) (by kernel_rfl)) ?_
  clear ha a s w; rintro _ w a ⟨g258, rfl, s⟩ ha
  refine st_exd ha (by kernel_rfl) (ex_store (of_ := 0) 0 (evv x_5) s rfl rfl (by kernel_rfl) (by kernel_rfl) (Try.sizeOf36 _) rfl (evv_one _) (Nat.le_of_ble_eq_true rfl)) ?_
  clear ha a s w; rintro w a s ha
  replace s : St W (.blk g258 (evv x_5) 36 :: .blk g2 [.slice A1 10 10] 22 :: Own 36 16 A1 10 10 (evs goodL) :: Forked 36 16 A239 12 c240 (evs (((goodL ++ [x_1]) ++ [x_0]))) A250 13 c251 (evs [x_0]) :: .blk g28 (evv x_4) 36 :: .blk g27 (evv x_2) 36 :: .blk g3 (evv x_3) 36 :: L) w := s
  refine wpList_nil ?_
  refine then_normal ?_
  refine wp_seq ?_
  refine wp_region_lit ?_
  refine st_val (.agg (evv x_5).toArray) ha (by kernel_rfl) (run_loadN (of_ := 0) (evv x_5) (s.blkIs 0 rfl) rfl (by kernel_rfl) Try.isAgg36 Try.sizeOf36 rfl (Nat.le_of_ble_eq_true rfl)) ?_
  clear ha a; intro a ha
  refine st_ex ha (by kernel_rfl) (ex_alloc (evv x_9) s rfl (Try.zeroValue36 _) (by kernel_rfl)) ?_
  clear ha a s w; rintro _ w a ⟨g259, rfl, s⟩ ha
  refine st_exd ha (by kernel_rfl) (ex_store (of_ := 0) 0 (evv x_5) s rfl rfl (by kernel_rfl) (by kernel_rfl) (Try.sizeOf36 _) rfl (evv_one _) (Nat.le_of_ble_eq_true rfl)) ?_
  clear ha a s w; rintro w a s ha
  replace s : St W (.blk g259 (evv x_5) 36 :: .blk g258 (evv x_5) 36 :: .blk g2 [.slice A1 10 10] 22 :: Own 36 16 A1 10 10 (evs goodL) :: Forked 36 16 A239 12 c240 (evs (((goodL ++ [x_1]) ++ [x_0]))) A250 13 c251 (evs [x_0]) :: .blk g28 (evv x_4) 36 :: .blk g27 (evv x_2) 36 :: .blk g3 (evv x_3) 36 :: L) w := s
  refine wpList_nil ?_
  refine then_normal ?_
  refine wp_seq ?_
  refine wp_region_lit ?_
  refine st_val (.pointer (some ⟨g259, 4, none⟩)) ha (by kernel_rfl) (by kernel_rfl) ?_
  clear ha a; intro a ha
  refine st_exd ha (by kernel_rfl) (ex_store (of_ := 4) 0 [.int .i64 1] s rfl rfl (by kernel_rfl) (by kernel_rfl) (Try.sizeOf3 _) rfl (by simp [Value.oneCell']) (Nat.le_of_ble_eq_true rfl)) ?_
  clear ha a s w; rintro w a s ha
  replace s : St W (.blk g259 (evv x_7) 36 :: .blk g258 (evv x_5) 36 :: .blk g2 [.slice A1 10 10] 22 :: Own 36 16 A1 10 10 (evs goodL) :: Forked 36 16 A239 12 c240 (evs (((goodL ++ [x_1]) ++ [x_0]))) A250 13 c251 (evs [x_0]) :: .blk g28 (evv x_4) 36 :: .blk g27 (evv x_2) 36 :: .blk g3 (evv x_3) 36 :: L) w := s
  refine wpList_nil ?_
  refine then_normal ?_
  refine wp_seq ?_
  refine wp_region_lit ?_
  refine st_call ha (by kernel_rfl) (by kernel_rfl) (done_any W _ w 3 1 [98] [120] s) ?_
  clear s w; rintro _ w ⟨rfl, s⟩
  refine ⟨_, rfl, ?_⟩; clear ha a; intro a ha
  refine st_call ha (by kernel_rfl) (by kernel_rfl) (done_any W _ w 3 3 [97] [120] s) ?_
  clear s w; rintro _ w ⟨rfl, s⟩
  refine ⟨_, rfl, ?_⟩; clear ha a; intro a ha
  refine st_call ha (by kernel_rfl) (by kernel_rfl) (done_any W _ w 2 1 [97] [120] s) ?_
  clear s w; rintro _ w ⟨rfl, s⟩
  refine ⟨_, rfl, ?_⟩; clear ha a; intro a ha
  refine st_ex ha (by kernel_rfl) (ex_buildSlice elt22 _ zs22 (evs [x_25, x_13, x_8]) s rfl (by kernel_rfl) (by decide)) ?_
  clear ha a s w; rintro _ w a ⟨g260, rfl, s⟩ ha
  refine st_val (.slice (some ⟨g260, 0, none⟩) 3 3) ha (by kernel_rfl) (by kernel_rfl) ?_
  clear ha a; intro a ha
  refine wpList_nil ?_
  refine then_normal ?_
  refine wp_seq ?_
  refine wp_seq ?_
  refine wp_region_lit ?_
  refine st_val (.int .i64 0) ha (by kernel_rfl) (by kernel_rfl) ?_
  clear ha a; intro a ha
  refine wpList_nil ?_
  refine then_normal ?_
  refine wp_block ?_
  refine wp_loop_rounds 4 ?_
  show Code.rounds _ _ _ 4 _ _
  rw [rounds_succ]
  refine wp_seq ?_
  refine wp_seq ?_
  refine wp_region_lit ?_
  refine st_val (.int .i64 0) ha (by kernel_rfl) (by kernel_rfl) ?_
  clear ha a; intro a ha
  refine st_val (.slice (some ⟨g260, 0, none⟩) 3 3) ha (by kernel_rfl) (by kernel_rfl) ?_
  clear ha a; intro a ha
  refine st_val (.int .i64 3) ha (by kernel_rfl) (by kernel_rfl) ?_
  clear ha a; intro a ha
  refine st_val (.bool true) ha (by kernel_rfl) (by kernel_rfl) ?_
  clear ha a; intro a ha
  refine wpList_nil ?_
  refine then_normal ?_
  refine wp_true ha rfl (by kernel_rfl) ?_
  refine wp_skip ?_
  refine then_normal ?_
  refine wp_seq ?_
  refine wp_block ?_
  refine wp_seq ?_
  refine wp_region_head 7 (fun w => BlkIs g260 (evs [x_25, x_13, x_8]) w ∧ True) (by kernel_rfl) (by decide) ?_
  replace s := s.drew; generalize _root_.Go.World.drew _ = w at s ⊢
  have hS : (fun w => BlkIs g260 (evs [x_25, x_13, x_8]) w ∧ True) w := ⟨s.blkIs 0 rfl, trivial⟩
  refine hd_val (i := 0) (.slice A239 12 c240) ha rfl (by as_aux_lemma => kernel_rfl) (fun _ _ _ h => h) (by as_aux_lemma => kernel_rfl) (fun w hS => (by as_aux_lemma => kernel_rfl)) hS ?_
  clear ha a; intro a ha
  refine hd_val (i := 1) (.slice A239 12 12) ha rfl (by as_aux_lemma => kernel_rfl) (fun _ _ _ h => h) (by as_aux_lemma => kernel_rfl) (fun w hS => (run_slice0 (n := 12) (c := c240) 12 12 rfl Try.underlying22 Try.sizeOf36 (by as_aux_lemma => kernel_rfl) (fun _ => rfl) (bnd_some .i64 (by as_aux_lemma => kernel_rfl)) (bnd_some .i64 (by as_aux_lemma => kernel_rfl)) bnd_none (by omega) (by omega) _)) hS ?_
  clear ha a; intro a ha
  refine hd_val (i := 2) (.slice (some ⟨g260, 0, none⟩) 3 3) ha rfl (by as_aux_lemma => kernel_rfl) (fun _ _ _ h => h) (by as_aux_lemma => kernel_rfl) (fun w hS => (by as_aux_lemma => kernel_rfl)) hS ?_
  clear ha a; intro a ha
  refine hd_val (i := 3) (.int .i64 0) ha rfl (by as_aux_lemma => kernel_rfl) (fun _ _ _ h => h) (by as_aux_lemma => kernel_rfl) (fun w hS => (by as_aux_lemma => kernel_rfl)) hS ?_
  clear ha a; intro a ha
  refine hd_val (i := 4) (.pointer (some ⟨g260, 0, none⟩)) ha rfl (by as_aux_lemma => kernel_rfl) (fun _ _ _ h => h) (by as_aux_lemma => kernel_rfl) (fun w hS => (run_indexAddr (kd := .i64) (i := 0) (n := 3) (c := 3) 0 rfl Try.underlying22 Try.sizeOf36 (by as_aux_lemma => kernel_rfl) (by as_aux_lemma => kernel_rfl) rfl (by first | assumption | omega) _)) hS ?_
  clear ha a; intro a ha
  refine hd_val (i := 5) (.agg (evv x_25).toArray) ha rfl (by as_aux_lemma => kernel_rfl) (fun _ _ _ h => h) (by as_aux_lemma => kernel_rfl) (fun w hS => run_loadN (of_ := 0) (evv x_25) hS.1 rfl (by as_aux_lemma => kernel_rfl) Try.isAgg36 Try.sizeOf36 rfl (Nat.le_of_ble_eq_true rfl)) hS ?_
  clear ha a; intro a ha
  refine hd_ex (i := 6) ha rfl (by as_aux_lemma => kernel_rfl) (by as_aux_lemma => kernel_rfl) (ex_buildSlice elt22 _ zs22 (evv x_25) s rfl (by as_aux_lemma => kernel_rfl) (by decide)) ?_
  clear hS s w; rintro _ w ⟨g261, rfl, s⟩
  refine and_keep ⟨s.blkIs 1 rfl, trivial⟩ fun hS => ?_; clear ha a; intro a ha
  refine Head.done (by as_aux_lemma => kernel_rfl) ?_
  clear hS; simp only [List.drop_succ_cons, List.drop_zero]
  refine st_ex ha (by kernel_rfl) (ex_append_fresh (A := A239) (n := 12) (m := 1) (d' := 1) (cs := evs (((goodL ++ [x_1]) ++ [x_0]))) elt22 (by decide) (evv x_25) s rfl (by kernel_rfl) (by kernel_rfl) ((Knows.forkedOld (j := 6) rfl) w s.sat) (reads_blk (s.blkIs 0 rfl) rfl) (by decide) (by simp only [maxLen]; omega) (by omega)) ?_
  clear ha a s w; rintro _ w a ⟨A262, c263, rfl, s⟩ ha
  rw [show (evv x_25) = evs [x_25] from by kernel_rfl, ← evs_append] at s
  replace s : St W (Own 36 16 A262 13 c263 (evs (((goodL ++ [x_1]) ++ [x_0]) ++ [x_25])) :: .blk g261 (evv x_25) 36 :: .blk g260 (evs [x_25, x_13, x_8]) 36 :: .blk g259 (evv x_7) 36 :: .blk g258 (evv x_5) 36 :: .blk g2 [.slice A1 10 10] 22 :: Own 36 16 A1 10 10 (evs goodL) :: Forked 36 16 A239 12 c240 (evs (((goodL ++ [x_1]) ++ [x_0]))) A250 13 c251 (evs [x_0]) :: .blk g28 (evv x_4) 36 :: .blk g27 (evv x_2) 36 :: .blk g3 (evv x_3) 36 :: L) w := s
  refine st_call ha (by kernel_rfl) (by kernel_rfl) (finds_true W hW _ w A262 c263 (((goodL ++ [x_1]) ++ [x_0]) ++ [x_25]) (Knows.own (j := 0) rfl) fx_53 (by decide) false 5 12 (lit_rule fx_52) s) ?_
  clear s w; rintro _ w ⟨rfl, s⟩
  refine ⟨_, rfl, ?_⟩; clear ha a; intro a ha
  refine st_val (.bool false) ha (by kernel_rfl) (by kernel_rfl) ?_
  clear ha a; intro a ha
  refine wpList_nil ?_
  refine then_normal ?_
  refine wp_false ha rfl (by kernel_rfl) ?_
  refine wp_skip ?_
  refine block_normal ?_
  refine then_normal ?_
  refine wp_region_lit ?_
  refine st_val (.int .i64 0) ha (by kernel_rfl) (by kernel_rfl) ?_
  clear ha a; intro a ha
  refine st_val (.int .i64 1) ha (by kernel_rfl) (by kernel_rfl) ?_
  clear ha a; intro a ha
  refine st_val (.int .i64 1) ha (by kernel_rfl) (by kernel_rfl) ?_
  clear ha a; intro a ha
  refine wpList_nil ?_
  refine then_normal ?_
  show Code.rounds _ _ _ 3 _ _
  rw [rounds_succ]
  refine wp_seq ?_
  refine wp_seq ?_
  refine wp_region_lit ?_
  refine st_val (.int .i64 1) ha (by kernel_rfl) (by kernel_rfl) ?_
  clear ha a; intro a ha
  refine st_val (.slice (some ⟨g260, 0, none⟩) 3 3) ha (by kernel_rfl) (by kernel_rfl) ?_
  clear ha a; intro a ha
  refine st_val (.int .i64 3) ha (by kernel_rfl) (by kernel_rfl) ?_
  clear ha a; intro a ha
  refine st_val (.bool true) ha (by kernel_rfl) (by kernel_rfl) ?_
  clear ha a; intro a ha
  refine wpList_nil ?_
  refine then_normal ?_
  refine wp_true ha rfl (by kernel_rfl) ?_
  refine wp_skip ?_
  refine then_normal ?_
  refine wp_seq ?_
  refine wp_block ?_
  refine wp_seq ?_
  refine wp_region_head 7 (fun w => BlkIs g260 (evs [x_25, x_13, x_8]) w ∧ True) (by kernel_rfl) (by decide) ?_
  replace s := s.drew; generalize _root_.Go.World.drew _ = w at s ⊢
  have hS : (fun w => BlkIs g260 (evs [x_25, x_13, x_8]) w ∧ True) w := ⟨s.blkIs 2 rfl, trivial⟩
  refine hd_val (i := 0) (.slice A239 12 c240) ha rfl (by as_aux_lemma => kernel_rfl) (fun _ _ _ h => h) (by as_aux_lemma => kernel_rfl) (fun w hS => (by as_aux_lemma => kernel_rfl)) hS ?_
  clear ha a; intro a ha
  refine hd_val (i := 1) (.slice A239 12 12) ha rfl (by as_aux_lemma => kernel_rfl) (fun _ _ _ h => h) (by as_aux_lemma => kernel_rfl) (fun w hS => (run_slice0 (n := 12) (c := c240) 12 12 rfl Try.underlying22 Try.sizeOf36 (by as_aux_lemma => kernel_rfl) (fun _ => rfl) (bnd_some .i64 (by as_aux_lemma => kernel_rfl)) (bnd_some .i64 (by as_aux_lemma => kernel_rfl)) bnd_none (by omega) (by omega) _)) hS ?_
  clear ha a; intro a ha
  refine hd_val (i := 2) (.slice (some ⟨g260, 0, none⟩) 3 3) ha rfl (by as_aux_lemma => kernel_rfl) (fun _ _ _ h => h) (by as_aux_lemma => kernel_rfl) (fun w hS => (by as_aux_lemma => kernel_rfl)) hS ?_
  clear ha a; intro a ha
  refine hd_val (i := 3) (.int .i64 1) ha rfl (by as_aux_lemma => kernel_rfl) (fun _ _ _ h => h) (by as_aux_lemma => kernel_rfl) (fun w hS => (by as_aux_lemma => kernel_rfl)) hS ?_
  clear ha a; intro a ha
  refine hd_val (i := 4) (.pointer (some ⟨g260, 16, none⟩)) ha rfl (by as_aux_lemma => kernel_rfl) (fun _ _ _ h => h) (by as_aux_lemma => kernel_rfl) (fun w hS => (run_indexAddr (kd := .i64) (i := 1) (n := 3) (c := 3) 1 rfl Try.underlying22 Try.sizeOf36 (by as_aux_lemma => kernel_rfl) (by as_aux_lemma => kernel_rfl) rfl (by first | assumption | omega) _)) hS ?_
  clear ha a; intro a ha
  refine hd_val (i := 5) (.agg (evv x_13).toArray) ha rfl (by as_aux_lemma => kernel_rfl) (fun _ _ _ h => h) (by as_aux_lemma => kernel_rfl) (fun w hS => run_loadN (of_ := 16) (evv x_13) hS.1 rfl (by as_aux_lemma => kernel_rfl) Try.isAgg36 Try.sizeOf36 rfl (Nat.le_of_ble_eq_true rfl)) hS ?_
  clear ha a; intro a ha
  refine hd_ex (i := 6) ha rfl (by as_aux_lemma => kernel_rfl) (by as_aux_lemma => kernel_rfl) (ex_buildSlice elt22 _ zs22 (evv x_13) s rfl (by as_aux_lemma => kernel_rfl) (by decide)) ?_
  clear hS s w; rintro _ w ⟨g264, rfl, s⟩
  refine and_keep ⟨s.blkIs 3 rfl, trivial⟩ fun hS => ?_; clear ha a; intro a ha
  refine Head.done (by as_aux_lemma => kernel_rfl) ?_
  clear hS; simp only [List.drop_succ_cons, List.drop_zero]
  refine st_ex ha (by kernel_rfl) (ex_append_fresh (A := A239) (n := 12) (m := 1) (d' := 1) (cs := evs (((goodL ++ [x_1]) ++ [x_0]))) elt22 (by decide) (evv x_13) s rfl (by kernel_rfl) (by kernel_rfl) ((Knows.forkedOld (j := 8) rfl) w s.sat) (reads_blk (s.blkIs 0 rfl) rfl) (by decide) (by simp only [maxLen]; omega) (by omega)) ?_
  clear ha a s w; rintro _ w a ⟨A265, c266, rfl, s⟩ ha
  rw [show (evv x_13) = evs [x_13] from by kernel_rfl, ← evs_append] at s
  replace s : St W (Own 36 16 A265 13 c266 (evs (((goodL ++ [x_1]) ++ [x_0]) ++ [x_13])) :: .blk g264 (evv x_13) 36 :: Own 36 16 A262 13 c263 (evs (((goodL ++ [x_1]) ++ [x_0]) ++ [x_25])) :: .blk g261 (evv x_25) 36 :: .blk g260 (evs [x_25, x_13, x_8]) 36 :: .blk g259 (evv x_7) 36 :: .blk g258 (evv x_5) 36 :: .blk g2 [.slice A1 10 10] 22 :: Own 36 16 A1 10 10 (evs goodL) :: Forked 36 16 A239 12 c240 (evs (((goodL ++ [x_1]) ++ [x_0]))) A250 13 c251 (evs [x_0]) :: .blk g28 (evv x_4) 36 :: .blk g27 (evv x_2) 36 :: .blk g3 (evv x_3) 36 :: L) w := s
  refine st_call ha (by kernel_rfl) (by kernel_rfl) (finds_true W hW _ w A265 c266 (((goodL ++ [x_1]) ++ [x_0]) ++ [x_13]) (Knows.own (j := 0) rfl) fx_55 (by decide) false 5 12 (lit_rule fx_54) s) ?_
  clear s w; rintro _ w ⟨rfl, s⟩
  replace s := ((((((((((s.at_ (j := 12) rfl).at_ (j := 12) rfl).at_ (j := 12) rfl).at_ (j := 12) rfl).at_ (j := 12) rfl).at_ (j := 12) rfl).at_ (j := 12) rfl).at_ (j := 12) rfl).at_ (j := 12) rfl).at_ (j := 10) rfl).at_ (j := 10) rfl
  replace s : St W (Own 36 16 A265 13 c266 (evs (((goodL ++ [x_1]) ++ [x_0]) ++ [x_13])) :: .blk g264 (evv x_13) 36 :: .blk g260 (evs [x_25, x_13, x_8]) 36 :: .blk g259 (evv x_7) 36 :: .blk g258 (evv x_5) 36 :: .blk g2 [.slice A1 10 10] 22 :: Own 36 16 A1 10 10 (evs goodL) :: Forked 36 16 A239 12 c240 (evs (((goodL ++ [x_1]) ++ [x_0]))) A250 13 c251 (evs [x_0]) :: .blk g28 (evv x_4) 36 :: .blk g27 (evv x_2) 36 :: .blk g3 (evv x_3) 36 :: L) w := s.keep 11 2
  refine ⟨_, rfl, ?_⟩; clear ha a; intro a ha
  refine st_val (.bool false) ha (by kernel_rfl) (by kernel_rfl) ?_
  clear ha a; intro a ha
  refine wpList_nil ?_
  refine then_normal ?_
  refine wp_false ha rfl (by kernel_rfl) ?_
  refine wp_skip ?_
  refine block_normal ?_
  refine then_normal ?_
  refine wp_region_lit ?_
  refine st_val (.int .i64 1) ha (by kernel_rfl) (by kernel_rfl) ?_
  clear ha a; intro a ha
  refine st_val (.int .i64 2) ha (by kernel_rfl) (by kernel_rfl) ?_
  clear ha a; intro a ha
  refine st_val (.int .i64 2) ha (by kernel_rfl) (by kernel_rfl) ?_
  clear ha a; intro a ha
  refine wpList_nil ?_
  refine then_normal ?_
  show Code.rounds _ _ _ 2 _ _
  rw [rounds_succ]
  refine wp_seq ?_
  refine wp_seq ?_
  refine wp_region_lit ?_
  refine st_val (.int .i64 2) ha (by kernel_rfl) (by kernel_rfl) ?_
  clear ha a; intro a ha
  refine st_val (.slice (some ⟨g260, 0, none⟩) 3 3) ha (by kernel_rfl) (by kernel_rfl) ?_
  clear ha a; intro a ha
  refine st_val (.int .i64 3) ha (by kernel_rfl) (by kernel_rfl) ?_
  clear ha a; intro a ha
  refine st_val (.bool true) ha (by kernel_rfl) (by kernel_rfl) ?_
  clear ha a; intro a ha
  refine wpList_nil ?_
  refine then_normal ?_
  refine wp_true ha rfl (by kernel_rfl) ?_
  refine wp_skip ?_
  refine then_normal ?_
  refine wp_seq ?_
  refine wp_block ?_
  refine wp_seq ?_
  refine wp_region_head 7 (fun w => BlkIs g260 (evs [x_25, x_13, x_8]) w ∧ True) (by kernel_rfl) (by decide) ?_
  replace s := s.drew; generalize _root_.Go.World.drew _ = w at s ⊢
  have hS : (fun w => BlkIs g260 (evs [x_25, x_13, x_8]) w ∧ True) w := ⟨s.blkIs 2 rfl, trivial⟩
  refine hd_val (i := 0) (.slice A239 12 c240) ha rfl (by as_aux_lemma => kernel_rfl) (fun _ _ _ h => h) (by as_aux_lemma => kernel_rfl) (fun w hS => (by as_aux_lemma => kernel_rfl)) hS ?_
  clear ha a; intro a ha
  refine hd_val (i := 1) (.slice A239 12 12) ha rfl (by as_aux_lemma => kernel_rfl) (fun _ _ _ h => h) (by as_aux_lemma => kernel_rfl) (fun w hS => (run_slice0 (n := 12) (c := c240) 12 12 rfl Try.underlying22 Try.sizeOf36 (by as_aux_lemma => kernel_rfl) (fun _ => rfl) (bnd_some .i64 (by as_aux_lemma => kernel_rfl)) (bnd_some .i64 (by as_aux_lemma => kernel_rfl)) bnd_none (by omega) (by omega) _)) hS ?_
  clear ha a; intro a ha
  refine hd_val (i := 2) (.slice (some ⟨g260, 0, none⟩) 3 3) ha rfl (by as_aux_lemma => kernel_rfl) (fun _ _ _ h => h) (by as_aux_lemma => kernel_rfl) (fun w hS => (by as_aux_lemma => kernel_rfl)) hS ?_
  clear ha a; intro a ha
  refine hd_val (i := 3) (.int .i64 2) ha rfl (by as_aux_lemma => kernel_rfl) (fun _ _ _ h => h) (by as_aux_lemma => kernel_rfl) (fun w hS => (by as_aux_lemma => kernel_rfl)) hS ?_
  clear ha a; intro a ha
  refine hd_val (i := 4) (.pointer (some ⟨g260, 32, none⟩)) ha rfl (by as_aux_lemma => kernel_rfl) (fun _ _ _ h => h) (by as_aux_lemma => kernel_rfl) (fun w hS => (run_indexAddr (kd := .i64) (i := 2) (n := 3) (c := 3) 2 rfl Try.underlying22 Try.sizeOf36 (by as_aux_lemma => kernel_rfl) (by as_aux_lemma => kernel_rfl) rfl (by first | assumption | omega) _)) hS ?_
  clear ha a; intro a ha
  refine hd_val (i := 5) (.agg (evv x_8).toArray) ha rfl (by as_aux_lemma => kernel_rfl) (fun _ _ _ h => h) (by as_aux_lemma => kernel_rfl) (fun w hS => run_loadN (of_ := 32) (evv x_8) hS.1 rfl (by as_aux_lemma => kernel_rfl) Try.isAgg36 Try.sizeOf36 rfl (Nat.le_of_ble_eq_true rfl)) hS ?_
  clear ha a; intro a ha
  refine hd_ex (i := 6) ha rfl (by as_aux_lemma => kernel_rfl) (by as_aux_lemma => kernel_rfl) (ex_buildSlice elt22 _ zs22 (evv x_8) s rfl (by as_aux_lemma => kernel_rfl) (by decide)) ?_
  clear hS s w; rintro _ w ⟨g267, rfl, s⟩
  refine and_keep ⟨s.blkIs 3 rfl, trivial⟩ fun hS => ?_; clear ha a; intro a ha
  refine Head.done (by as_aux_lemma => kernel_rfl) ?_
  clear hS; simp only [List.drop_succ_cons, List.drop_zero]
  refine st_ex ha (by kernel_rfl) (ex_append_fresh (A := A239) (n := 12) (m := 1) (d' := 1) (cs := evs (((goodL ++ [x_1]) ++ [x_0]))) elt22 (by decide) (evv x_8) s rfl (by kernel_rfl) (by kernel_rfl) ((Knows.forkedOld (j := 8) rfl) w s.sat) (reads_blk (s.blkIs 0 rfl) rfl) (by decide) (by simp only [maxLen]; omega) (by omega)) ?_
  clear ha a s w; rintro _ w a ⟨A268, c269, rfl, s⟩ ha
  rw [show (evv x_8) = evs [x_8] from by kernel_rfl, ← evs_append] at s
  replace s : St W (Own 36 16 A268 13 c269 (evs (((goodL ++ [x_1]) ++ [x_0]) ++ [x_8])) :: .blk g267 (evv x_8) 36 :: Own 36 16 A265 13 c266 (evs (((goodL ++ [x_1]) ++ [x_0]) ++ [x_13])) :: .blk g264 (evv x_13) 36 :: .blk g260 (evs [x_25, x_13, x_8]) 36 :: .blk g259 (evv x_7) 36 :: .blk g258 (evv x_5) 36 :: .blk g2 [.slice A1 10 10] 22 :: Own 36 16 A1 10 10 (evs goodL) :: Forked 36 16 A239 12 c240 (evs (((goodL ++ [x_1]) ++ [x_0]))) A250 13 c251 (evs [x_0]) :: .blk g28 (evv x_4) 36 :: .blk g27 (evv x_2) 36 :: .blk g3 (evv x_3) 36 :: L) w := s
  refine st_call ha (by kernel_rfl) (by kernel_rfl) (finds_true W hW _ w A268 c269 (((goodL ++ [x_1]) ++ [x_0]) ++ [x_8]) (Knows.own (j := 0) rfl) fx_57 (by decide) false 5 12 (lit_rule fx_56) s) ?_
  clear s w; rintro _ w ⟨rfl, s⟩
  replace s := ((((((((((s.at_ (j := 12) rfl).at_ (j := 12) rfl).at_ (j := 12) rfl).at_ (j := 12) rfl).at_ (j := 12) rfl).at_ (j := 12) rfl).at_ (j := 12) rfl).at_ (j := 12) rfl).at_ (j := 12) rfl).at_ (j := 10) rfl).at_ (j := 10) rfl
  replace s : St W (Own 36 16 A268 13 c269 (evs (((goodL ++ [x_1]) ++ [x_0]) ++ [x_8])) :: .blk g267 (evv x_8) 36 :: .blk g260 (evs [x_25, x_13, x_8]) 36 :: .blk g259 (evv x_7) 36 :: .blk g258 (evv x_5) 36 :: .blk g2 [.slice A1 10 10] 22 :: Own 36 16 A1 10 10 (evs goodL) :: Forked 36 16 A239 12 c240 (evs (((goodL ++ [x_1]) ++ [x_0]))) A250 13 c251 (evs [x_0]) :: .blk g28 (evv x_4) 36 :: .blk g27 (evv x_2) 36 :: .blk g3 (evv x_3) 36 :: L) w := s.keep 11 2
  refine ⟨_, rfl, ?_⟩; clear ha a; intro a ha
  refine st_val (.bool false) ha (by kernel_rfl) (by kernel_rfl) ?_
  clear ha a; intro a ha
  refine wpList_nil ?_
  refine then_normal ?_
  refine wp_false ha rfl (by kernel_rfl) ?_
  refine wp_skip ?_
  refine block_normal ?_
  refine then_normal ?_
  refine wp_region_lit ?_
  refine st_val (.int .i64 2) ha (by kernel_rfl) (by kernel_rfl) ?_
  clear ha a; intro a ha
  refine st_val (.int .i64 3) ha (by kernel_rfl) (by kernel_rfl) ?_
  clear ha a; intro a ha
  refine st_val (.int .i64 3) ha (by kernel_rfl) (by kernel_rfl) ?_
  clear ha a; intro a ha
  refine wpList_nil ?_
  refine then_normal ?_
  show Code.rounds _ _ _ 1 _ _
  rw [rounds_succ]
  refine wp_seq ?_
  refine wp_seq ?_
  refine wp_region_lit ?_
  refine st_val (.int .i64 3) ha (by kernel_rfl) (by kernel_rfl) ?_
  clear ha a; intro a ha
  refine st_val (.slice (some ⟨g260, 0, none⟩) 3 3) ha (by kernel_rfl) (by kernel_rfl) ?_
  clear ha a; intro a ha
  refine st_val (.int .i64 3) ha (by kernel_rfl) (by kernel_rfl) ?_
  clear ha a; intro a ha
  refine st_val (.bool false) ha (by kernel_rfl) (by kernel_rfl) ?_
  clear ha a; intro a ha
  refine wpList_nil ?_
  refine then_normal ?_
  refine wp_false ha rfl (by kernel_rfl) ?_
  refine wp_exit ?_
  refine then_exit ?_
  refine then_exit ?_
  refine block_hit ?_
  refine then_normal ?_
  refine wp_seq ?_
  refine wp_region_lit ?_
  refine st_val (.agg (evv x_5).toArray) ha (by kernel_rfl) (run_loadN (of_ := 0) (evv x_5) (s.blkIs 4 rfl) rfl (by kernel_rfl) Try.isAgg36 Try.sizeOf36 rfl (Nat.le_of_ble_eq_true rfl)) ?_
  clear ha a; intro a ha
  refine st_ex ha (by kernel_rfl) (ex_alloc (evv x_9) s rfl (Try.zeroValue36 _) (by kernel_rfl)) ?_
  clear ha a s w; rintro _ w a ⟨g270, rfl, s⟩ ha
  refine st_exd ha (by kernel_rfl) (ex_store (of_ := 0) 0 (evv x_5) s rfl rfl (by kernel_rfl) (by kernel_rfl) (Try.sizeOf36 _) rfl (evv_one _) (Nat.le_of_ble_eq_true rfl)) ?_
  clear ha a s w; rintro w a s ha
  replace s : St W (.blk g270 (evv x_5) 36 :: Own 36 16 A268 13 c269 (evs (((goodL ++ [x_1]) ++ [x_0]) ++ [x_8])) :: .blk g267 (evv x_8) 36 :: .blk g260 (evs [x_25, x_13, x_8]) 36 :: .blk g259 (evv x_7) 36 :: .blk g258 (evv x_5) 36 :: .blk g2 [.slice A1 10 10] 22 :: Own 36 16 A1 10 10 (evs goodL) :: Forked 36 16 A239 12 c240 (evs (((goodL ++ [x_1]) ++ [x_0]))) A250 13 c251 (evs [x_0]) :: .blk g28 (evv x_4) 36 :: .blk g27 (evv x_2) 36 :: .blk g3 (evv x_3) 36 :: L) w := s
  refine wpList_nil ?_
  refine then_normal ?_
  refine wp_seq ?_
  refine wp_region_lit ?_
  refine st_val (.pointer (some ⟨g270, 2, none⟩)) ha (by kernel_rfl) (by kernel_rfl) ?_
  clear ha a; intro a ha
  refine st_exd ha (by kernel_rfl) (ex_store (of_ := 2) 0 [.int .i64 2] s rfl rfl (by kernel_rfl) (by kernel_rfl) (Try.sizeOf3 _) rfl (by simp [Value.oneCell']) (Nat.le_of_ble_eq_true rfl)) ?_
  clear ha a s w; rintro w a s ha
  replace s : St W (.blk g270 (evv x_26) 36 :: Own 36 16 A268 13 c269 (evs (((goodL ++ [x_1]) ++ [x_0]) ++ [x_8])) :: .blk g267 (evv x_8) 36 :: .blk g260 (evs [x_25, x_13, x_8]) 36 :: .blk g259 (evv x_7) 36 :: .blk g258 (evv x_5) 36 :: .blk g2 [.slice A1 10 10] 22 :: Own 36 16 A1 10 10 (evs goodL) :: Forked 36 16 A239 12 c240 (evs (((goodL ++ [x_1]) ++ [x_0]))) A250 13 c251 (evs [x_0]) :: .blk g28 (evv x_4) 36 :: .blk g27 (evv x_2) 36 :: .blk g3 (evv x_3) 36 :: L) w := s
  refine wpList_nil ?_
  refine then_normal ?_
  refine wp_seq ?_
  refine wp_region_lit ?_
  refine st_val (.agg (evv x_5).toArray) ha (by kernel_rfl) (run_loadN (of_ := 0) (evv x_5) (s.blkIs 5 rfl) rfl (by kernel_rfl) Try.isAgg36 Try.sizeOf36 rfl (Nat.le_of_ble_eq_true rfl)) ?_
  clear ha a; intro a ha
  refine st_ex ha (by kernel_rfl) (ex_alloc (evv x_9) s rfl (Try.zeroValue36 _) (by kernel_rfl)) ?_
  clear ha a s w; rintro _ w a ⟨g271, rfl, s⟩ ha
  refine st_exd ha (by kernel_rfl) (ex_store (of_ := 0) 0 (evv x_5) s rfl rfl (by kernel_rfl) (by kernel_rfl) (Try.sizeOf36 _) rfl (evv_one _) (Nat.le_of_ble_eq_true rfl)) ?_
  clear ha a s w; rintro w a s ha
  replace s : St W (.blk g271 (evv x_5) 36 :: .blk g270 (evv x_26) 36 :: Own 36 16 A268 13 c269 (evs (((goodL ++ [x_1]) ++ [x_0]) ++ [x_8])) :: .blk g267 (evv x_8) 36 :: .blk g260 (evs [x_25, x_13, x_8]) 36 :: .blk g259 (evv x_7) 36 :: .blk g258 (evv x_5) 36 :: .blk g2 [.slice A1 10 10] 22 :: Own 36 16 A1 10 10 (evs goodL) :: Forked 36 16 A239 12 c240 (evs (((goodL ++ [x_1]) ++ [x_0]))) A250 13 c251 (evs [x_0]) :: .blk g28 (evv x_4) 36 :: .blk g27 (evv x_2) 36 :: .blk g3 (evv x_3) 36 :: L) w := s
  refine wpList_nil ?_
  refine then_normal ?_
  refine wp_seq ?_
  refine wp_region_lit ?_
  refine st_val (.pointer (some ⟨g271, 8, none⟩)) ha (by kernel_rfl) (by kernel_rfl) ?_
  clear ha a; intro a ha
  refine st_val (.pointer (some ⟨g271, 9, none⟩)) ha (by kernel_rfl) (by kernel_rfl) ?_
  clear ha a; intro a ha
  refine st_exd ha (by kernel_rfl) (ex_store (of_ := 9) 0 [.string (str [122])] s rfl rfl (by kernel_rfl) (by kernel_rfl) (Try.sizeOf9 _) rfl (by simp [Value.oneCell']) (Nat.le_of_ble_eq_true rfl)) ?_
  clear ha a s w; rintro w a s ha
  replace s : St W (.blk g271 (evv x_28) 36 :: .blk g270 (evv x_26) 36 :: Own 36 16 A268 13 c269 (evs (((goodL ++ [x_1]) ++ [x_0]) ++ [x_8])) :: .blk g267 (evv x_8) 36 :: .blk g260 (evs [x_25, x_13, x_8]) 36 :: .blk g259 (evv x_7) 36 :: .blk g258 (evv x_5) 36 :: .blk g2 [.slice A1 10 10] 22 :: Own 36 16 A1 10 10 (evs goodL) :: Forked 36 16 A239 12 c240 (evs (((goodL ++ [x_1]) ++ [x_0]))) A250 13 c251 (evs [x_0]) :: .blk g28 (evv x_4) 36 :: .blk g27 (evv x_2) 36 :: .blk g3 (evv x_3) 36 :: L) w := s
  refine wpList_nil ?_
  refine then_normal ?_
  refine wp_seq ?_
  obtain ⟨a3, hA3⟩ := Reads.addr ((Knows.forkedOld (j := 9) rfl) w s.sat) (by omega)
  subst hA3
  replace s : St W (.blk g271 (evv x_28) 36 :: .blk g270 (evv x_26) 36 :: Own 36 16 A268 13 c269 (evs (((goodL ++ [x_1]) ++ [x_0]) ++ [x_8])) :: .blk g267 (evv x_8) 36 :: .blk g260 (evs [x_25, x_13, x_8]) 36 :: .blk g259 (evv x_7) 36 :: .blk g258 (evv x_5) 36 :: .blk g2 [.slice A1 10 10] 22 :: Own 36 16 A1 10 10 (evs goodL) :: Forked 36 16 (some a3) 12 c240 (evs (((goodL ++ [x_1]) ++ [x_0]))) A250 13 c251 (evs [x_0]) :: .blk g28 (evv x_4) 36 :: .blk g27 (evv x_2) 36 :: .blk g3 (evv x_3) 36 :: L) w := s
  refine wp_region_lit ?_
  refine st_val (.slice (some a3) 12 c240) ha (by kernel_rfl) (by kernel_rfl) ?_
  clear ha a; intro a ha
  refine st_val (.pointer (some (a3.add (11 * 16)))) ha (by kernel_rfl) (run_indexAddr' (kd := .i64) (i := 11) (n := 12) (c := c240) 11 rfl Try.underlying22 Try.sizeOf36 (by kernel_rfl) (by kernel_rfl) rfl (by first | assumption | omega) _) ?_
  clear ha a; intro a ha
  refine st_val (.agg (evv x_0).toArray) ha (by kernel_rfl) (run_loadAtN (i := 11 * 16) (evv x_0) (((Knows.forkedOld (j := 9) rfl) w s.sat)) rfl (by kernel_rfl) Try.isAgg36 Try.sizeOf36 (fun q_ hq_ => evs_at (k := 11) (x := x_0) (by kernel_rfl) hq_) rfl) ?_
  clear ha a; intro a ha
  refine st_ex ha (by kernel_rfl) (ex_alloc (evv x_9) s rfl (Try.zeroValue36 _) (by kernel_rfl)) ?_
  clear ha a s w; rintro _ w a ⟨g272, rfl, s⟩ ha
  refine st_exd ha (by kernel_rfl) (ex_store (of_ := 0) 0 (evv x_0) s rfl rfl (by kernel_rfl) (by kernel_rfl) (Try.sizeOf36 _) rfl (evv_one _) (Nat.le_of_ble_eq_true rfl)) ?_
  clear ha a s w; rintro w a s ha
  replace s : St W (.blk g272 (evv x_0) 36 :: .blk g271 (evv x_28) 36 :: .blk g270 (evv x_26) 36 :: Own 36 16 A268 13 c269 (evs (((goodL ++ [x_1]) ++ [x_0]) ++ [x_8])) :: .blk g267 (evv x_8) 36 :: .blk g260 (evs [x_25, x_13, x_8]) 36 :: .blk g259 (evv x_7) 36 :: .blk g258 (evv x_5) 36 :: .blk g2 [.slice A1 10 10] 22 :: Own 36 16 A1 10 10 (evs goodL) :: Forked 36 16 (some a3) 12 c240 (evs (((goodL ++ [x_1]) ++ [x_0]))) A250 13 c251 (evs [x_0]) :: .blk g28 (evv x_4) 36 :: .blk g27 (evv x_2) 36 :: .blk g3 (evv x_3) 36 :: L) w := s
  refine wpList_nil ?_
  refine then_normal ?_
  refine wp_seq ?_
  refine wp_region_lit ?_
  refine st_val (.pointer (some ⟨g272, 4, none⟩)) ha (by kernel_rfl) (by kernel_rfl) ?_
  clear ha a; intro a ha
  refine st_exd ha (by kernel_rfl) (ex_store (of_ := 4) 0 [.int .i64 2] s rfl rfl (by kernel_rfl) (by kernel_rfl) (Try.sizeOf3 _) rfl (by simp [Value.oneCell']) (Nat.le_of_ble_eq_true rfl)) ?_
  clear ha a s w; rintro w a s ha
  replace s : St W (.blk g272 (evv x_29) 36 :: .blk g271 (evv x_28) 36 :: .blk g270 (evv x_26) 36 :: Own 36 16 A268 13 c269 (evs (((goodL ++ [x_1]) ++ [x_0]) ++ [x_8])) :: .blk g267 (evv x_8) 36 :: .blk g260 (evs [x_25, x_13, x_8]) 36 :: .blk g259 (evv x_7) 36 :: .blk g258 (evv x_5) 36 :: .blk g2 [.slice A1 10 10] 22 :: Own 36 16 A1 10 10 (evs goodL) :: Forked 36 16 (some a3) 12 c240 (evs (((goodL ++ [x_1]) ++ [x_0]))) A250 13 c251 (evs [x_0]) :: .blk g28 (evv x_4) 36 :: .blk g27 (evv x_2) 36 :: .blk g3 (evv x_3) 36 :: L) w := s
  refine wpList_nil ?_
  refine then_normal ?_
  refine wp_seq ?_
  refine wp_region_head 55 (fun w => BlkIs g258 (evv x_5) w ∧ BlkIs g259 (evv x_7) w ∧ BlkIs g270 (evv x_26) w ∧ BlkIs g271 (evv x_28) w ∧ BlkIs g272 (evv x_29) w ∧ BlkIs g27 (evv x_2) w ∧ BlkIs g28 (evv x_4) w ∧ True) (by kernel_rfl) (by decide) ?_
  replace s := s.drew; generalize _root_.Go.World.drew _ = w at s ⊢
  have hS : (fun w => BlkIs g258 (evv x_5) w ∧ BlkIs g259 (evv x_7) w ∧ BlkIs g270 (evv x_26) w ∧ BlkIs g271 (evv x_28) w ∧ BlkIs g272 (evv x_29) w ∧ BlkIs g27 (evv x_2) w ∧ BlkIs g28 (evv x_4) w ∧ True) w := ⟨s.blkIs 7 rfl, s.blkIs 6 rfl, s.blkIs 2 rfl, s.blkIs 1 rfl, s.blkIs 0 rfl, s.blkIs 12 rfl, s.blkIs 11 rfl, trivial⟩
  refine hd_val (i := 0) (.slice (some a3) 12 c240) ha rfl (by as_aux_lemma => kernel_rfl) (fun _ _ _ h => h) (by as_aux_lemma => kernel_rfl) (fun w hS => (by as_aux_lemma => kernel_rfl)) hS ?_
  clear ha a; intro a ha
  refine hd_val (i := 1) (.slice (some a3) 12 12) ha rfl (by as_aux_lemma => kernel_rfl) (fun _ _ _ h => h) (by as_aux_lemma => kernel_rfl) (fun w hS => (run_slice0 (n := 12) (c := c240) 12 12 rfl Try.underlying22 Try.sizeOf36 (by as_aux_lemma => kernel_rfl) (fun _ => rfl) (bnd_some .i64 (by as_aux_lemma => kernel_rfl)) (bnd_some .i64 (by as_aux_lemma => kernel_rfl)) bnd_none (by omega) (by omega) _)) hS ?_
  clear ha a; intro a ha
  refine hd_val (i := 2) (.agg (evv x_5).toArray) ha rfl (by as_aux_lemma => kernel_rfl) (fun _ _ _ h => h) (by as_aux_lemma => kernel_rfl) (fun w hS => run_loadN (of_ := 0) (evv x_5) hS.1 rfl (by as_aux_lemma => kernel_rfl) Try.isAgg36 Try.sizeOf36 rfl (Nat.le_of_ble_eq_true rfl)) hS ?_
  clear ha a; intro a ha
  refine hd_ex (i := 3) ha rfl (by as_aux_lemma => kernel_rfl) (by as_aux_lemma => kernel_rfl) (ex_buildSlice elt22 _ zs22 (evv x_5) s rfl (by as_aux_lemma => kernel_rfl) (by decide)) ?_
  clear hS s w; rintro _ w ⟨g273, rfl, s⟩
  refine and_keep ⟨s.blkIs 8 rfl, s.blkIs 7 rfl, s.blkIs 3 rfl, s.blkIs 2 rfl, s.blkIs 1 rfl, s.blkIs 13 rfl, s.blkIs 12 rfl, trivial⟩ fun hS => ?_; clear ha a; intro a ha
  refine hd_ex (i := 4) ha rfl (by as_aux_lemma => kernel_rfl) (by as_aux_lemma => kernel_rfl) (ex_append_fresh (A := (some a3)) (n := 12) (m := 1) (d' := 1) (cs := evs (((goodL ++ [x_1]) ++ [x_0]))) elt22 (by decide) (evv x_5) s rfl (by as_aux_lemma => kernel_rfl) (by as_aux_lemma => kernel_rfl) ((Knows.forkedOld (j := 11) rfl) w s.sat) (reads_blk (s.blkIs 0 rfl) rfl) (by decide) (by simp only [maxLen]; omega) (by omega)) ?_
  clear hS s w; rintro _ w ⟨A274, c275, rfl, s⟩
  rw [show (evv x_5) = evs [x_5] from by kernel_rfl, ← evs_append] at s
  replace s : St W (Own 36 16 A274 13 c275 (evs (((goodL ++ [x_1]) ++ [x_0]) ++ [x_5])) :: .blk g273 (evv x_5) 36 :: .blk g272 (evv x_29) 36 :: .blk g271 (evv x_28) 36 :: .blk g270 (evv x_26) 36 :: Own 36 16 A268 13 c269 (evs (((goodL ++ [x_1]) ++ [x_0]) ++ [x_8])) :: .blk g267 (evv x_8) 36 :: .blk g260 (evs [x_25, x_13, x_8]) 36 :: .blk g259 (evv x_7) 36 :: .blk g258 (evv x_5) 36 :: .blk g2 [.slice A1 10 10] 22 :: Own 36 16 A1 10 10 (evs goodL) :: Forked 36 16 (some a3) 12 c240 (evs (((goodL ++ [x_1]) ++ [x_0]))) A250 13 c251 (evs [x_0]) :: .blk g28 (evv x_4) 36 :: .blk g27 (evv x_2) 36 :: .blk g3 (evv x_3) 36 :: L) w := s
  refine and_keep ⟨s.blkIs 9 rfl, s.blkIs 8 rfl, s.blkIs 4 rfl, s.blkIs 3 rfl, s.blkIs 2 rfl, s.blkIs 14 rfl, s.blkIs 13 rfl, trivial⟩ fun hS => ?_; clear ha a; intro a ha
  refine hd_call (i := 5) ha rfl (by as_aux_lemma => kernel_rfl) (by as_aux_lemma => kernel_rfl) (by as_aux_lemma => kernel_rfl) (finds_true W hW _ w A274 c275 (((goodL ++ [x_1]) ++ [x_0]) ++ [x_5]) (Knows.own (j := 0) rfl) fx_59 (by decide) false 0 0 (lit_not fx_58) s) ?_
  clear hS s w; rintro _ w ⟨rfl, s⟩
  replace s := ((((((((((s.at_ (j := 15) rfl).at_ (j := 15) rfl).at_ (j := 15) rfl).at_ (j := 15) rfl).at_ (j := 15) rfl).at_ (j := 15) rfl).at_ (j := 15) rfl).at_ (j := 15) rfl).at_ (j := 12) rfl).at_ (j := 12) rfl).at_ (j := 12) rfl
  replace s : St W (.blk g272 (evv x_29) 36 :: .blk g271 (evv x_28) 36 :: .blk g270 (evv x_26) 36 :: .blk g259 (evv x_7) 36 :: .blk g258 (evv x_5) 36 :: .blk g2 [.slice A1 10 10] 22 :: Own 36 16 A1 10 10 (evs goodL) :: Forked 36 16 (some a3) 12 c240 (evs (((goodL ++ [x_1]) ++ [x_0]))) A250 13 c251 (evs [x_0]) :: .blk g28 (evv x_4) 36 :: .blk g27 (evv x_2) 36 :: .blk g3 (evv x_3) 36 :: L) w := s.keep 11 5
  refine ⟨_, rfl, and_keep ⟨s.blkIs 4 rfl, s.blkIs 3 rfl, s.blkIs 2 rfl, s.blkIs 1 rfl, s.blkIs 0 rfl, s.blkIs 9 rfl, s.blkIs 8 rfl, trivial⟩ fun hS => ?_⟩; clear ha a; intro a ha
  refine hd_val (i := 6) (.bool true) ha rfl (by as_aux_lemma => kernel_rfl) (fun _ _ _ h => h) (by as_aux_lemma => kernel_rfl) (fun w hS => (by as_aux_lemma => kernel_rfl)) hS ?_
  clear ha a; intro a ha
  refine hd_val (i := 7) (.slice (some a3) 12 c240) ha rfl (by as_aux_lemma => kernel_rfl) (fun _ _ _ h => h) (by as_aux_lemma => kernel_rfl) (fun w hS => (by as_aux_lemma => kernel_rfl)) hS ?_
  clear ha a; intro a ha
  refine hd_val (i := 8) (.slice (some a3) 12 12) ha rfl (by as_aux_lemma => kernel_rfl) (fun _ _ _ h => h) (by as_aux_lemma => kernel_rfl) (fun w hS => (run_slice0 (n := 12) (c := c240) 12 12 rfl Try.underlying22 Try.sizeOf36 (by as_aux_lemma => kernel_rfl) (fun _ => rfl) (bnd_some .i64 (by as_aux_lemma => kernel_rfl)) (bnd_some .i64 (by as_aux_lemma => kernel_rfl)) bnd_none (by omega) (by omega) _)) hS ?_
  clear ha a; intro a ha
  refine hd_val (i := 9) (.agg (evv x_7).toArray) ha rfl (by as_aux_lemma => kernel_rfl) (fun _ _ _ h => h) (by as_aux_lemma => kernel_rfl) (fun w hS => run_loadN (of_ := 0) (evv x_7) hS.2.1 rfl (by as_aux_lemma => kernel_rfl) Try.isAgg36 Try.sizeOf36 rfl (Nat.le_of_ble_eq_true rfl)) hS ?_
  clear ha a; intro a ha
  refine hd_ex (i := 10) ha rfl (by as_aux_lemma => kernel_rfl) (by as_aux_lemma => kernel_rfl) (ex_buildSlice elt22 _ zs22 (evv x_7) s rfl (by as_aux_lemma => kernel_rfl) (by decide)) ?_
  clear hS s w; rintro _ w ⟨g276, rfl, s⟩
  refine and_keep ⟨s.blkIs 5 rfl, s.blkIs 4 rfl, s.blkIs 3 rfl, s.blkIs 2 rfl, s.blkIs 1 rfl, s.blkIs 10 rfl, s.blkIs 9 rfl, trivial⟩ fun hS => ?_; clear ha a; intro a ha
  refine hd_ex (i := 11) ha rfl (by as_aux_lemma => kernel_rfl) (by as_aux_lemma => kernel_rfl) (ex_append_fresh (A := (some a3)) (n := 12) (m := 1) (d' := 1) (cs := evs (((goodL ++ [x_1]) ++ [x_0]))) elt22 (by decide) (evv x_7) s rfl (by as_aux_lemma => kernel_rfl) (by as_aux_lemma => kernel_rfl) ((Knows.forkedOld (j := 8) rfl) w s.sat) (reads_blk (s.blkIs 0 rfl) rfl) (by decide) (by simp only [maxLen]; omega) (by omega)) ?_
  clear hS s w; rintro _ w ⟨A277, c278, rfl, s⟩
  rw [show (evv x_7) = evs [x_7] from by kernel_rfl, ← evs_append] at s
  replace s : St W (Own 36 16 A277 13 c278 (evs (((goodL ++ [x_1]) ++ [x_0]) ++ [x_7])) :: .blk g276 (evv x_7) 36 :: .blk g272 (evv x_29) 36 :: .blk g271 (evv x_28) 36 :: .blk g270 (evv x_26) 36 :: .blk g259 (evv x_7) 36 :: .blk g258 (evv x_5) 36 :: .blk g2 [.slice A1 10 10] 22 :: Own 36 16 A1 10 10 (evs goodL) :: Forked 36 16 (some a3) 12 c240 (evs (((goodL ++ [x_1]) ++ [x_0]))) A250 13 c251 (evs [x_0]) :: .blk g28 (evv x_4) 36 :: .blk g27 (evv x_2) 36 :: .blk g3 (evv x_3) 36 :: L) w := s
  refine and_keep ⟨s.blkIs 6 rfl, s.blkIs 5 rfl, s.blkIs 4 rfl, s.blkIs 3 rfl, s.blkIs 2 rfl, s.blkIs 11 rfl, s.blkIs 10 rfl, trivial⟩ fun hS => ?_; clear ha a; intro a ha
  refine hd_call (i := 12) ha rfl (by as_aux_lemma => kernel_rfl) (by as_aux_lemma => kernel_rfl) (by as_aux_lemma => kernel_rfl) (finds_true W hW _ w A277 c278 (((goodL ++ [x_1]) ++ [x_0]) ++ [x_7]) (Knows.own (j := 0) rfl) fx_61 (by decide) false 0 0 (lit_not fx_60) s) ?_
  clear hS s w; rintro _ w ⟨rfl, s⟩
  replace s := ((((((((((s.at_ (j := 12) rfl).at_ (j := 12) rfl).at_ (j := 12) rfl).at_ (j := 12) rfl).at_ (j := 12) rfl).at_ (j := 12) rfl).at_ (j := 12) rfl).at_ (j := 12) rfl).at_ (j := 12) rfl).at_ (j := 12) rfl).at_ (j := 12) rfl
  replace s : St W (.blk g272 (evv x_29) 36 :: .blk g271 (evv x_28) 36 :: .blk g270 (evv x_26) 36 :: .blk g259 (evv x_7) 36 :: .blk g258 (evv x_5) 36 :: .blk g2 [.slice A1 10 10] 22 :: Own 36 16 A1 10 10 (evs goodL) :: Forked 36 16 (some a3) 12 c240 (evs (((goodL ++ [x_1]) ++ [x_0]))) A250 13 c251 (evs [x_0]) :: .blk g28 (evv x_4) 36 :: .blk g27 (evv x_2) 36 :: .blk g3 (evv x_3) 36 :: L) w := s.keep 11 2
  refine ⟨_, rfl, and_keep ⟨s.blkIs 4 rfl, s.blkIs 3 rfl, s.blkIs 2 rfl, s.blkIs 1 rfl, s.blkIs 0 rfl, s.blkIs 9 rfl, s.blkIs 8 rfl, trivial⟩ fun hS => ?_⟩; clear ha a; intro a ha
  refine hd_val (i := 13) (.bool true) ha rfl (by as_aux_lemma => kernel_rfl) (fun _ _ _ h => h) (by as_aux_lemma => kernel_rfl) (fun w hS => (by as_aux_lemma => kernel_rfl)) hS ?_
  clear ha a; intro a ha
  refine hd_val (i := 14) (.bool true) ha rfl (by as_aux_lemma => kernel_rfl) (fun _ _ _ h => h) (by as_aux_lemma => kernel_rfl) (fun w hS => (by as_aux_lemma => kernel_rfl)) hS ?_
  clear ha a; intro a ha
  refine hd_val (i := 15) (.slice (some a3) 12 c240) ha rfl (by as_aux_lemma => kernel_rfl) (fun _ _ _ h => h) (by as_aux_lemma => kernel_rfl) (fun w hS => (by as_aux_lemma => kernel_rfl)) hS ?_
  clear ha a; intro a ha
  refine hd_val (i := 16) (.slice (some a3) 12 12) ha rfl (by as_aux_lemma => kernel_rfl) (fun _ _ _ h => h) (by as_aux_lemma => kernel_rfl) (fun w hS => (run_slice0 (n := 12) (c := c240) 12 12 rfl Try.underlying22 Try.sizeOf36 (by as_aux_lemma => kernel_rfl) (fun _ => rfl) (bnd_some .i64 (by as_aux_lemma => kernel_rfl)) (bnd_some .i64 (by as_aux_lemma => kernel_rfl)) bnd_none (by omega) (by omega) _)) hS ?_
  clear ha a; intro a ha
  refine hd_val (i := 17) (.agg (evv x_26).toArray) ha rfl (by as_aux_lemma => kernel_rfl) (fun _ _ _ h => h) (by as_aux_lemma => kernel_rfl) (fun w hS => run_loadN (of_ := 0) (evv x_26) hS.2.2.1 rfl (by as_aux_lemma => kernel_rfl) Try.isAgg36 Try.sizeOf36 rfl (Nat.le_of_ble_eq_true rfl)) hS ?_
  clear ha a; intro a ha
  refine hd_ex (i := 18) ha rfl (by as_aux_lemma => kernel_rfl) (by as_aux_lemma => kernel_rfl) (ex_buildSlice elt22 _ zs22 (evv x_26) s rfl (by as_aux_lemma => kernel_rfl) (by decide)) ?_
  clear hS s w; rintro _ w ⟨g279, rfl, s⟩
  refine and_keep ⟨s.blkIs 5 rfl, s.blkIs 4 rfl, s.blkIs 3 rfl, s.blkIs 2 rfl, s.blkIs 1 rfl, s.blkIs 10 rfl, s.blkIs 9 rfl, trivial⟩ fun hS => ?_; clear ha a; intro a ha
  refine hd_ex (i := 19) ha rfl (by as_aux_lemma => kernel_rfl) (by as_aux_lemma => kernel_rfl) (ex_append_fresh (A := (some a3)) (n := 12) (m := 1) (d' := 1) (cs := evs (((goodL ++ [x_1]) ++ [x_0]))) elt22 (by decide) (evv x_26) s rfl (by as_aux_lemma => kernel_rfl) (by as_aux_lemma => kernel_rfl) ((Knows.forkedOld (j := 8) rfl) w s.sat) (reads_blk (s.blkIs 0 rfl) rfl) (by decide) (by simp only [maxLen]; omega) (by omega)) ?_
  clear hS s w; rintro _ w ⟨A280, c281, rfl, s⟩
  rw [show (evv x_26) = evs [x_26] from by kernel_rfl, ← evs_append] at s
  replace s : St W (Own 36 16 A280 13 c281 (evs (((goodL ++ [x_1]) ++ [x_0]) ++ [x_26])) :: .blk g279 (evv x_26) 36 :: .blk g272 (evv x_29) 36 :: .blk g271 (evv x_28) 36 :: .blk g270 (evv x_26) 36 :: .blk g259 (evv x_7) 36 :: .blk g258 (evv x_5) 36 :: .blk g2 [.slice A1 10 10] 22 :: Own 36 16 A1 10 10 (evs goodL) :: Forked 36 16 (some a3) 12 c240 (evs (((goodL ++ [x_1]) ++ [x_0]))) A250 13 c251 (evs [x_0]) :: .blk g28 (evv x_4) 36 :: .blk g27 (evv x_2) 36 :: .blk g3 (evv x_3) 36 :: L) w := s
  refine and_keep ⟨s.blkIs 6 rfl, s.blkIs 5 rfl, s.blkIs 4 rfl, s.blkIs 3 rfl, s.blkIs 2 rfl, s.blkIs 11 rfl, s.blkIs 10 rfl, trivial⟩ fun hS => ?_; clear ha a; intro a ha
  refine hd_call (i := 20) ha rfl (by as_aux_lemma => kernel_rfl) (by as_aux_lemma => kernel_rfl) (by as_aux_lemma => kernel_rfl) (finds_true W hW _ w A280 c281 (((goodL ++ [x_1]) ++ [x_0]) ++ [x_26]) (Knows.own (j := 0) rfl) fx_63 (by decide) false 5 12 (lit_rule fx_62) s) ?_
  clear hS s w; rintro _ w ⟨rfl, s⟩
  replace s := ((((((((((s.at_ (j := 12) rfl).at_ (j := 12) rfl).at_ (j := 12) rfl).at_ (j := 12) rfl).at_ (j := 12) rfl).at_ (j := 12) rfl).at_ (j := 12) rfl).at_ (j := 12) rfl).at_ (j := 12) rfl).at_ (j := 12) rfl).at_ (j := 12) rfl
  replace s : St W (.blk g272 (evv x_29) 36 :: .blk g271 (evv x_28) 36 :: .blk g270 (evv x_26) 36 :: .blk g259 (evv x_7) 36 :: .blk g258 (evv x_5) 36 :: .blk g2 [.slice A1 10 10] 22 :: Own 36 16 A1 10 10 (evs goodL) :: Forked 36 16 (some a3) 12 c240 (evs (((goodL ++ [x_1]) ++ [x_0]))) A250 13 c251 (evs [x_0]) :: .blk g28 (evv x_4) 36 :: .blk g27 (evv x_2) 36 :: .blk g3 (evv x_3) 36 :: L) w := s.keep 11 2
  refine ⟨_, rfl, and_keep ⟨s.blkIs 4 rfl, s.blkIs 3 rfl, s.blkIs 2 rfl, s.blkIs 1 rfl, s.blkIs 0 rfl, s.blkIs 9 rfl, s.blkIs 8 rfl, trivial⟩ fun hS => ?_⟩; clear ha a; intro a ha
  refine hd_val (i := 21) (.bool true) ha rfl (by as_aux_lemma => kernel_rfl) (fun _ _ _ h => h) (by as_aux_lemma => kernel_rfl) (fun w hS => (by as_aux_lemma => kernel_rfl)) hS ?_
  clear ha a; intro a ha
  refine hd_val (i := 22) (.bool true) ha rfl (by as_aux_lemma => kernel_rfl) (fun _ _ _ h => h) (by as_aux_lemma => kernel_rfl) (fun w hS => (by as_aux_lemma => kernel_rfl)) hS ?_
  clear ha a; intro a ha
  refine hd_val (i := 23) (.slice (some a3) 12 c240) ha rfl (by as_aux_lemma => kernel_rfl) (fun _ _ _ h => h) (by as_aux_lemma => kernel_rfl) (fun w hS => (by as_aux_lemma => kernel_rfl)) hS ?_
  clear ha a; intro a ha
  refine hd_val (i := 24) (.slice (some a3) 12 12) ha rfl (by as_aux_lemma => kernel_rfl) (fun _ _ _ h => h) (by as_aux_lemma => kernel_rfl) (fun w hS => (run_slice0 (n := 12) (c := c240) 12 12 rfl Try.underlying22 Try.sizeOf36 (by as_aux_lemma => kernel_rfl) (fun _ => rfl) (bnd_some .i64 (by as_aux_lemma => kernel_rfl)) (bnd_some .i64 (by as_aux_lemma => kernel_rfl)) bnd_none (by omega) (by omega) _)) hS ?_
  clear ha a; intro a ha
  refine hd_val (i := 25) (.agg (evv x_28).toArray) ha rfl (by as_aux_lemma => kernel_rfl) (fun _ _ _ h => h) (by as_aux_lemma => kernel_rfl) (fun w hS => run_loadN (of_ := 0) (evv x_28) hS.2.2.2.1 rfl (by as_aux_lemma => kernel_rfl) Try.isAgg36 Try.sizeOf36 rfl (Nat.le_of_ble_eq_true rfl)) hS ?_
  clear ha a; intro a ha
  refine hd_ex (i := 26) ha rfl (by as_aux_lemma => kernel_rfl) (by as_aux_lemma => kernel_rfl) (ex_buildSlice elt22 _ zs22 (evv x_28) s rfl (by as_aux_lemma => kernel_rfl) (by decide)) ?_
  clear hS s w; rintro _ w ⟨g282, rfl, s⟩
  refine and_keep ⟨s.blkIs 5 rfl, s.blkIs 4 rfl, s.blkIs 3 rfl, s.blkIs 2 rfl, s.blkIs 1 rfl, s.blkIs 10 rfl, s.blkIs 9 rfl, trivial⟩ fun hS => ?_; clear ha a; intro a ha
  refine hd_ex (i := 27) ha rfl (by as_aux_lemma => kernel_rfl) (by as_aux_lemma => kernel_rfl) (ex_append_fresh (A := (some a3)) (n := 12) (m := 1) (d' := 1) (cs := evs (((goodL ++ [x_1]) ++ [x_0]))) elt22 (by decide) (evv x_28) s rfl (by as_aux_lemma => kernel_rfl) (by as_aux_lemma => kernel_rfl) ((Knows.forkedOld (j := 8) rfl) w s.sat) (reads_blk (s.blkIs 0 rfl) rfl) (by decide) (by simp only [maxLen]; omega) (by omega)) ?_
  clear hS s w; rintro _ w ⟨A283, c284, rfl, s⟩
  rw [show (evv x_28) = evs [x_28] from by kernel_rfl, ← evs_append] at s
  replace s : St W (Own 36 16 A283 13 c284 (evs (((goodL ++ [x_1]) ++ [x_0]) ++ [x_28])) :: .blk g282 (evv x_28) 36 :: .blk g272 (evv x_29) 36 :: .blk g271 (evv x_28) 36 :: .blk g270 (evv x_26) 36 :: .blk g259 (evv x_7) 36 :: .blk g258 (evv x_5) 36 :: .blk g2 [.slice A1 10 10] 22 :: Own 36 16 A1 10 10 (evs goodL) :: Forked 36 16 (some a3) 12 c240 (evs (((goodL ++ [x_1]) ++ [x_0]))) A250 13 c251 (evs [x_0]) :: .blk g28 (evv x_4) 36 :: .blk g27 (evv x_2) 36 :: .blk g3 (evv x_3) 36 :: L) w := s
  refine and_keep ⟨s.blkIs 6 rfl, s.blkIs 5 rfl, s.blkIs 4 rfl, s.blkIs 3 rfl, s.blkIs 2 rfl, s.blkIs 11 rfl, s.blkIs 10 rfl, trivial⟩ fun hS => ?_; clear ha a; intro a ha
  refine hd_call (i := 28) ha rfl (by as_aux_lemma => kernel_rfl) (by as_aux_lemma => kernel_rfl) (by as_aux_lemma => kernel_rfl) (finds_true W hW _ w A283 c284 (((goodL ++ [x_1]) ++ [x_0]) ++ [x_28]) (Knows.own (j := 0) rfl) fx_65 (by decide) false 5 12 (lit_rule fx_64) s) ?_
  clear hS s w; rintro _ w ⟨rfl, s⟩
  replace s := ((((((((((s.at_ (j := 12) rfl).at_ (j := 12) rfl).at_ (j := 12) rfl).at_ (j := 12) rfl).at_ (j := 12) rfl).at_ (j := 12) rfl).at_ (j := 12) rfl).at_ (j := 12) rfl).at_ (j := 12) rfl).at_ (j := 12) rfl).at_ (j := 12) rfl
  replace s : St W (.blk g272 (evv x_29) 36 :: .blk g271 (evv x_28) 36 :: .blk g270 (evv x_26) 36 :: .blk g259 (evv x_7) 36 :: .blk g258 (evv x_5) 36 :: .blk g2 [.slice A1 10 10] 22 :: Own 36 16 A1 10 10 (evs goodL) :: Forked 36 16 (some a3) 12 c240 (evs (((goodL ++ [x_1]) ++ [x_0]))) A250 13 c251 (evs [x_0]) :: .blk g28 (evv x_4) 36 :: .blk g27 (evv x_2) 36 :: .blk g3 (evv x_3) 36 :: L) w := s.keep 11 2
  refine ⟨_, rfl, and_keep ⟨s.blkIs 4 rfl, s.blkIs 3 rfl, s.blkIs 2 rfl, s.blkIs 1 rfl, s.blkIs 0 rfl, s.blkIs 9 rfl, s.blkIs 8 rfl, trivial⟩ fun hS => ?_⟩; clear ha a; intro a ha
  refine hd_val (i := 29) (.bool true) ha rfl (by as_aux_lemma => kernel_rfl) (fun _ _ _ h => h) (by as_aux_lemma => kernel_rfl) (fun w hS => (by as_aux_lemma => kernel_rfl)) hS ?_
  clear ha a; intro a ha
  refine hd_val (i := 30) (.bool true) ha rfl (by as_aux_lemma => kernel_rfl) (fun _ _ _ h => h) (by as_aux_lemma => kernel_rfl) (fun w hS => (by as_aux_lemma => kernel_rfl)) hS ?_
  clear ha a; intro a ha
  refine hd_val (i := 31) (.slice (some a3) 12 c240) ha rfl (by as_aux_lemma => kernel_rfl) (fun _ _ _ h => h) (by as_aux_lemma => kernel_rfl) (fun w hS => (by as_aux_lemma => kernel_rfl)) hS ?_
  clear ha a; intro a ha
  refine hd_val (i := 32) (.slice (some a3) 11 11) ha rfl (by as_aux_lemma => kernel_rfl) (fun _ _ _ h => h) (by as_aux_lemma => kernel_rfl) (fun w hS => (run_slice0 (n := 12) (c := c240) 11 11 rfl Try.underlying22 Try.sizeOf36 (by as_aux_lemma => kernel_rfl) (fun _ => rfl) (bnd_some .i64 (by as_aux_lemma => kernel_rfl)) (bnd_some .i64 (by as_aux_lemma => kernel_rfl)) bnd_none (by omega) (by omega) _)) hS ?_
  clear ha a; intro a ha
  refine hd_val (i := 33) (.agg (evv x_29).toArray) ha rfl (by as_aux_lemma => kernel_rfl) (fun _ _ _ h => h) (by as_aux_lemma => kernel_rfl) (fun w hS => run_loadN (of_ := 0) (evv x_29) hS.2.2.2.2.1 rfl (by as_aux_lemma => kernel_rfl) Try.isAgg36 Try.sizeOf36 rfl (Nat.le_of_ble_eq_true rfl)) hS ?_
  clear ha a; intro a ha
  refine hd_val (i := 34) (.agg (evv x_7).toArray) ha rfl (by as_aux_lemma => kernel_rfl) (fun _ _ _ h => h) (by as_aux_lemma => kernel_rfl) (fun w hS => run_loadN (of_ := 0) (evv x_7) hS.2.1 rfl (by as_aux_lemma => kernel_rfl) Try.isAgg36 Try.sizeOf36 rfl (Nat.le_of_ble_eq_true rfl)) hS ?_
  clear ha a; intro a ha
  refine hd_ex (i := 35) ha rfl (by as_aux_lemma => kernel_rfl) (by as_aux_lemma => kernel_rfl) (ex_buildSlice elt22 _ zs22 (evs [x_29, x_7]) s rfl (by as_aux_lemma => kernel_rfl) (by decide)) ?_
  clear hS s w; rintro _ w ⟨g285, rfl, s⟩
  refine and_keep ⟨s.blkIs 5 rfl, s.blkIs 4 rfl, s.blkIs 3 rfl, s.blkIs 2 rfl, s.blkIs 1 rfl, s.blkIs 10 rfl, s.blkIs 9 rfl, trivial⟩ fun hS => ?_; clear ha a; intro a ha
  refine hd_ex (i := 36) ha rfl (by as_aux_lemma => kernel_rfl) (by as_aux_lemma => kernel_rfl) (ex_append_fresh (A := (some a3)) (n := 11) (m := 2) (d' := 2) (cs := evs ((((goodL ++ [x_1]) ++ [x_0])).take 11)) elt22 (by decide) (evs [x_29, x_7]) s rfl (by as_aux_lemma => kernel_rfl) (by as_aux_lemma => kernel_rfl) (reads_evs_tk ((goodL ++ [x_1]) ++ [x_0]) 11 12 ((Knows.forkedOld (j := 8) rfl) w s.sat) (by as_aux_lemma => kernel_rfl) (by decide)) (reads_blk (s.blkIs 0 rfl) rfl) (by decide) (by simp only [maxLen]; omega) (by omega)) ?_
  clear hS s w; rintro _ w ⟨A286, c287, rfl, s⟩
  rw [show (evs [x_29, x_7]) = evs [x_29, x_7] from by kernel_rfl, ← evs_append] at s
  replace s : St W (Own 36 16 A286 13 c287 (evs ((((goodL ++ [x_1]) ++ [x_0])).take 11 ++ [x_29, x_7])) :: .blk g285 (evs [x_29, x_7]) 36 :: .blk g272 (evv x_29) 36 :: .blk g271 (evv x_28) 36 :: .blk g270 (evv x_26) 36 :: .blk g259 (evv x_7) 36 :: .blk g258 (evv x_5) 36 :: .blk g2 [.slice A1 10 10] 22 :: Own 36 16 A1 10 10 (evs goodL) :: Forked 36 16 (some a3) 12 c240 (evs (((goodL ++ [x_1]) ++ [x_0]))) A250 13 c251 (evs [x_0]) :: .blk g28 (evv x_4) 36 :: .blk g27 (evv x_2) 36 :: .blk g3 (evv x_3) 36 :: L) w := s
  refine and_keep ⟨s.blkIs 6 rfl, s.blkIs 5 rfl, s.blkIs 4 rfl, s.blkIs 3 rfl, s.blkIs 2 rfl, s.blkIs 11 rfl, s.blkIs 10 rfl, trivial⟩ fun hS => ?_; clear ha a; intro a ha
  refine hd_call (i := 37) ha rfl (by as_aux_lemma => kernel_rfl) (by as_aux_lemma => kernel_rfl) (by as_aux_lemma => kernel_rfl) (finds_true W hW _ w A286 c287 ((((goodL ++ [x_1]) ++ [x_0])).take 11 ++ [x_29, x_7]) (Knows.own (j := 0) rfl) fx_67 (by decide) false 5 12 (lit_rule fx_66) s) ?_
  clear hS s w; rintro _ w ⟨rfl, s⟩
  replace s := ((((((((((s.at_ (j := 12) rfl).at_ (j := 12) rfl).at_ (j := 12) rfl).at_ (j := 12) rfl).at_ (j := 12) rfl).at_ (j := 12) rfl).at_ (j := 12) rfl).at_ (j := 12) rfl).at_ (j := 12) rfl).at_ (j := 12) rfl).at_ (j := 12) rfl
  replace s : St W (.blk g272 (evv x_29) 36 :: .blk g271 (evv x_28) 36 :: .blk g270 (evv x_26) 36 :: .blk g259 (evv x_7) 36 :: .blk g258 (evv x_5) 36 :: .blk g2 [.slice A1 10 10] 22 :: Own 36 16 A1 10 10 (evs goodL) :: Forked 36 16 (some a3) 12 c240 (evs (((goodL ++ [x_1]) ++ [x_0]))) A250 13 c251 (evs [x_0]) :: .blk g28 (evv x_4) 36 :: .blk g27 (evv x_2) 36 :: .blk g3 (evv x_3) 36 :: L) w := s.keep 11 2
  refine ⟨_, rfl, and_keep ⟨s.blkIs 4 rfl, s.blkIs 3 rfl, s.blkIs 2 rfl, s.blkIs 1 rfl, s.blkIs 0 rfl, s.blkIs 9 rfl, s.blkIs 8 rfl, trivial⟩ fun hS => ?_⟩; clear ha a; intro a ha
  refine hd_val (i := 38) (.bool true) ha rfl (by as_aux_lemma => kernel_rfl) (fun _ _ _ h => h) (by as_aux_lemma => kernel_rfl) (fun w hS => (by as_aux_lemma => kernel_rfl)) hS ?_
  clear ha a; intro a ha
  refine hd_val (i := 39) (.bool true) ha rfl (by as_aux_lemma => kernel_rfl) (fun _ _ _ h => h) (by as_aux_lemma => kernel_rfl) (fun w hS => (by as_aux_lemma => kernel_rfl)) hS ?_
  clear ha a; intro a ha
  refine hd_val (i := 40) (.slice (some a3) 12 c240) ha rfl (by as_aux_lemma => kernel_rfl) (fun _ _ _ h => h) (by as_aux_lemma => kernel_rfl) (fun w hS => (by as_aux_lemma => kernel_rfl)) hS ?_
  clear ha a; intro a ha
  refine hd_val (i := 41) (.slice (some a3) 12 12) ha rfl (by as_aux_lemma => kernel_rfl) (fun _ _ _ h => h) (by as_aux_lemma => kernel_rfl) (fun w hS => (run_slice0 (n := 12) (c := c240) 12 12 rfl Try.underlying22 Try.sizeOf36 (by as_aux_lemma => kernel_rfl) (fun _ => rfl) (bnd_some .i64 (by as_aux_lemma => kernel_rfl)) (bnd_some .i64 (by as_aux_lemma => kernel_rfl)) bnd_none (by omega) (by omega) _)) hS ?_
  clear ha a; intro a ha
  refine hd_val (i := 42) (.agg (evv x_5).toArray) ha rfl (by as_aux_lemma => kernel_rfl) (fun _ _ _ h => h) (by as_aux_lemma => kernel_rfl) (fun w hS => run_loadN (of_ := 0) (evv x_5) hS.1 rfl (by as_aux_lemma => kernel_rfl) Try.isAgg36 Try.sizeOf36 rfl (Nat.le_of_ble_eq_true rfl)) hS ?_
  clear ha a; intro a ha
  refine hd_val (i := 43) (.agg (evv x_5).toArray) ha rfl (by as_aux_lemma => kernel_rfl) (fun _ _ _ h => h) (by as_aux_lemma => kernel_rfl) (fun w hS => run_loadN (of_ := 0) (evv x_5) hS.1 rfl (by as_aux_lemma => kernel_rfl) Try.isAgg36 Try.sizeOf36 rfl (Nat.le_of_ble_eq_true rfl)) hS ?_
  clear ha a; intro a ha
  refine hd_ex (i := 44) ha rfl (by as_aux_lemma => kernel_rfl) (by as_aux_lemma => kernel_rfl) (ex_buildSlice elt22 _ zs22 (evs [x_5, x_5]) s rfl (by as_aux_lemma => kernel_rfl) (by decide)) ?_
  clear hS s w; rintro _ w ⟨g288, rfl, s⟩
  refine and_keep ⟨s.blkIs 5 rfl, s.blkIs 4 rfl, s.blkIs 3 rfl, s.blkIs 2 rfl, s.blkIs 1 rfl, s.blkIs 10 rfl, s.blkIs 9 rfl, trivial⟩ fun hS => ?_; clear ha a; intro a ha
  refine hd_ex (i := 45) ha rfl (by as_aux_lemma => kernel_rfl) (by as_aux_lemma => kernel_rfl) (ex_append_fresh (A := (some a3)) (n := 12) (m := 2) (d' := 2) (cs := evs (((goodL ++ [x_1]) ++ [x_0]))) elt22 (by decide) (evs [x_5, x_5]) s rfl (by as_aux_lemma => kernel_rfl) (by as_aux_lemma => kernel_rfl) ((Knows.forkedOld (j := 8) rfl) w s.sat) (reads_blk (s.blkIs 0 rfl) rfl) (by decide) (by simp only [maxLen]; omega) (by omega)) ?_
  clear hS s w; rintro _ w ⟨A289, c290, rfl, s⟩
  rw [show (evs [x_5, x_5]) = evs [x_5, x_5] from by kernel_rfl, ← evs_append] at s
  replace s : St W (Own 36 16 A289 14 c290 (evs (((goodL ++ [x_1]) ++ [x_0]) ++ [x_5, x_5])) :: .blk g288 (evs [x_5, x_5]) 36 :: .blk g272 (evv x_29) 36 :: .blk g271 (evv x_28) 36 :: .blk g270 (evv x_26) 36 :: .blk g259 (evv x_7) 36 :: .blk g258 (evv x_5) 36 :: .blk g2 [.slice A1 10 10] 22 :: Own 36 16 A1 10 10 (evs goodL) :: Forked 36 16 (some a3) 12 c240 (evs (((goodL ++ [x_1]) ++ [x_0]))) A250 13 c251 (evs [x_0]) :: .blk g28 (evv x_4) 36 :: .blk g27 (evv x_2) 36 :: .blk g3 (evv x_3) 36 :: L) w := s
  refine and_keep ⟨s.blkIs 6 rfl, s.blkIs 5 rfl, s.blkIs 4 rfl, s.blkIs 3 rfl, s.blkIs 2 rfl, s.blkIs 11 rfl, s.blkIs 10 rfl, trivial⟩ fun hS => ?_; clear ha a; intro a ha
  refine hd_call (i := 46) ha rfl (by as_aux_lemma => kernel_rfl) (by as_aux_lemma => kernel_rfl) (by as_aux_lemma => kernel_rfl) (finds_true W hW _ w A289 c290 (((goodL ++ [x_1]) ++ [x_0]) ++ [x_5, x_5]) (Knows.own (j := 0) rfl) fx_69 (by decide) false 5 13 (lit_rule fx_68) s) ?_
  clear hS s w; rintro _ w ⟨rfl, s⟩
  replace s := ((((((((((s.at_ (j := 12) rfl).at_ (j := 12) rfl).at_ (j := 12) rfl).at_ (j := 12) rfl).at_ (j := 12) rfl).at_ (j := 12) rfl).at_ (j := 12) rfl).at_ (j := 12) rfl).at_ (j := 12) rfl).at_ (j := 12) rfl).at_ (j := 12) rfl
  replace s : St W (.blk g272 (evv x_29) 36 :: .blk g271 (evv x_28) 36 :: .blk g270 (evv x_26) 36 :: .blk g259 (evv x_7) 36 :: .blk g258 (evv x_5) 36 :: .blk g2 [.slice A1 10 10] 22 :: Own 36 16 A1 10 10 (evs goodL) :: Forked 36 16 (some a3) 12 c240 (evs (((goodL ++ [x_1]) ++ [x_0]))) A250 13 c251 (evs [x_0]) :: .blk g28 (evv x_4) 36 :: .blk g27 (evv x_2) 36 :: .blk g3 (evv x_3) 36 :: L) w := s.keep 11 2
  refine ⟨_, rfl, and_keep ⟨s.blkIs 4 rfl, s.blkIs 3 rfl, s.blkIs 2 rfl, s.blkIs 1 rfl, s.blkIs 0 rfl, s.blkIs 9 rfl, s.blkIs 8 rfl, trivial⟩ fun hS => ?_⟩; clear ha a; intro a ha
  refine hd_val (i := 47) (.bool true) ha rfl (by as_aux_lemma => kernel_rfl) (fun _ _ _ h => h) (by as_aux_lemma => kernel_rfl) (fun w hS => (by as_aux_lemma => kernel_rfl)) hS ?_
  clear ha a; intro a ha
  refine hd_val (i := 48) (.bool true) ha rfl (by as_aux_lemma => kernel_rfl) (fun _ _ _ h => h) (by as_aux_lemma => kernel_rfl) (fun w hS => (by as_aux_lemma => kernel_rfl)) hS ?_
  clear ha a; intro a ha
  refine hd_val (i := 49) (.slice (some a3) 12 c240) ha rfl (by as_aux_lemma => kernel_rfl) (fun _ _ _ h => h) (by as_aux_lemma => kernel_rfl) (fun w hS => (by as_aux_lemma => kernel_rfl)) hS ?_
  clear ha a; intro a ha
  refine hd_val (i := 50) (.slice (some a3) 12 12) ha rfl (by as_aux_lemma => kernel_rfl) (fun _ _ _ h => h) (by as_aux_lemma => kernel_rfl) (fun w hS => (run_slice0 (n := 12) (c := c240) 12 12 rfl Try.underlying22 Try.sizeOf36 (by as_aux_lemma => kernel_rfl) (fun _ => rfl) (bnd_some .i64 (by as_aux_lemma => kernel_rfl)) (bnd_some .i64 (by as_aux_lemma => kernel_rfl)) bnd_none (by omega) (by omega) _)) hS ?_
  clear ha a; intro a ha
  refine hd_val (i := 51) (.agg (evv x_2).toArray) ha rfl (by as_aux_lemma => kernel_rfl) (fun _ _ _ h => h) (by as_aux_lemma => kernel_rfl) (fun w hS => run_loadN (of_ := 0) (evv x_2) hS.2.2.2.2.2.1 rfl (by as_aux_lemma => kernel_rfl) Try.isAgg36 Try.sizeOf36 rfl (Nat.le_of_ble_eq_true rfl)) hS ?_
  clear ha a; intro a ha
  refine hd_val (i := 52) (.agg (evv x_4).toArray) ha rfl (by as_aux_lemma => kernel_rfl) (fun _ _ _ h => h) (by as_aux_lemma => kernel_rfl) (fun w hS => run_loadN (of_ := 0) (evv x_4) hS.2.2.2.2.2.2.1 rfl (by as_aux_lemma => kernel_rfl) Try.isAgg36 Try.sizeOf36 rfl (Nat.le_of_ble_eq_true rfl)) hS ?_
  clear ha a; intro a ha
  refine hd_val (i := 53) (.agg (evv x_5).toArray) ha rfl (by as_aux_lemma => kernel_rfl) (fun _ _ _ h => h) (by as_aux_lemma => kernel_rfl) (fun w hS => run_loadN (of_ := 0) (evv x_5) hS.1 rfl (by as_aux_lemma => kernel_rfl) Try.isAgg36 Try.sizeOf36 rfl (Nat.le_of_ble_eq_true rfl)) hS ?_
  clear ha a; intro a ha
  refine hd_ex (i := 54) ha rfl (by as_aux_lemma => kernel_rfl) (by as_aux_lemma => kernel_rfl) (ex_buildSlice elt22 _ zs22 (evs [x_2, x_4, x_5]) s rfl (by as_aux_lemma => kernel_rfl) (by decide)) ?_
  clear hS s w; rintro _ w ⟨g291, rfl, s⟩
  refine and_keep ⟨s.blkIs 5 rfl, s.blkIs 4 rfl, s.blkIs 3 rfl, s.blkIs 2 rfl, s.blkIs 1 rfl, s.blkIs 10 rfl, s.blkIs 9 rfl, trivial⟩ fun hS => ?_; clear ha a; intro a ha
  refine Head.done (by as_aux_lemma => kernel_rfl) ?_
  clear hS; simp only [List.drop_succ_cons, List.drop_zero]
  refine st_ex ha (by kernel_rfl) (ex_append_fresh (A := (some a3)) (n := 12) (m := 3) (d' := 3) (cs := evs (((goodL ++ [x_1]) ++ [x_0]))) elt22 (by decide) (evs [x_2, x_4, x_5]) s rfl (by kernel_rfl) (by kernel_rfl) ((Knows.forkedOld (j := 8) rfl) w s.sat) (reads_blk (s.blkIs 0 rfl) rfl) (by decide) (by simp only [maxLen]; omega) (by omega)) ?_
  clear ha a s w; rintro _ w a ⟨A292, c293, rfl, s⟩ ha
  rw [show (evs [x_2, x_4, x_5]) = evs [x_2, x_4, x_5] from by kernel_rfl, ← evs_append] at s
  replace s : St W (Own 36 16 A292 15 c293 (evs (((goodL ++ [x_1]) ++ [x_0]) ++ [x_2, x_4, x_5])) :: .blk g291 (evs [x_2, x_4, x_5]) 36 :: .blk g272 (evv x_29) 36 :: .blk g271 (evv x_28) 36 :: .blk g270 (evv x_26) 36 :: .blk g259 (evv x_7) 36 :: .blk g258 (evv x_5) 36 :: .blk g2 [.slice A1 10 10] 22 :: Own 36 16 A1 10 10 (evs goodL) :: Forked 36 16 (some a3) 12 c240 (evs (((goodL ++ [x_1]) ++ [x_0]))) A250 13 c251 (evs [x_0]) :: .blk g28 (evv x_4) 36 :: .blk g27 (evv x_2) 36 :: .blk g3 (evv x_3) 36 :: L) w := s
  refine st_call ha (by kernel_rfl) (by kernel_rfl) (finds_true W hW _ w A292 c293 (((goodL ++ [x_1]) ++ [x_0]) ++ [x_2, x_4, x_5]) (Knows.own (j := 0) rfl) fx_71 (by decide) false 5 14 (lit_rule fx_70) s) ?_
  clear s w; rintro _ w ⟨rfl, s⟩
  replace s := ((((s.at_ (j := 12) rfl).at_ (j := 10) rfl).at_ (j := 10) rfl).at_ (j := 10) rfl).at_ (j := 10) rfl
  replace s : St W (.blk g258 (evv x_5) 36 :: .blk g2 [.slice A1 10 10] 22 :: Own 36 16 A1 10 10 (evs goodL) :: Forked 36 16 (some a3) 12 c240 (evs (((goodL ++ [x_1]) ++ [x_0]))) A250 13 c251 (evs [x_0]) :: .blk g3 (evv x_3) 36 :: L) w := s.keep 5 8
  refine ⟨_, rfl, ?_⟩; clear ha a; intro a ha
  refine st_val (.bool true) ha (by kernel_rfl) (by kernel_rfl) ?_
  clear ha a; intro a ha
  refine st_val (.bool true) ha (by kernel_rfl) (by kernel_rfl) ?_
  clear ha a; intro a ha
  refine wpList_nil ?_
  refine then_normal ?_
  refine wp_seq ?_
  refine wp_region_lit ?_
  refine st_val (.agg (evv x_3).toArray) ha (by kernel_rfl) (run_loadN (of_ := 0) (evv x_3) (s.blkIs 4 rfl) rfl (by kernel_rfl) Try.isAgg36 Try.sizeOf36 rfl (Nat.le_of_ble_eq_true rfl)) ?_
  clear ha a; intro a ha
  refine st_ex ha (by kernel_rfl) (ex_alloc (evv x_9) s rfl (Try.zeroValue36 _) (by kernel_rfl)) ?_
  clear ha a s w; rintro _ w a ⟨g294, rfl, s⟩ ha
  refine st_exd ha (by kernel_rfl) (ex_store (of_ := 0) 0 (evv x_3) s rfl rfl (by kernel_rfl) (by kernel_rfl) (Try.sizeOf36 _) rfl (evv_one _) (Nat.le_of_ble_eq_true rfl)) ?_
  clear ha a s w; rintro w a s ha
  replace s : St W (.blk g294 (evv x_3) 36 :: .blk g258 (evv x_5) 36 :: .blk g2 [.slice A1 10 10] 22 :: Own 36 16 A1 10 10 (evs goodL) :: Forked 36 16 (some a3) 12 c240 (evs (((goodL ++ [x_1]) ++ [x_0]))) A250 13 c251 (evs [x_0]) :: .blk g3 (evv x_3) 36 :: L) w := s
  refine wpList_nil ?_
  refine then_normal ?_
  refine wp_seq ?_
  refine wp_region_lit ?_
  refine st_val (.pointer (some ⟨g294, 15, none⟩)) ha (by kernel_rfl) (by kernel_rfl) ?_
  clear ha a; intro a ha
  refine st_exd ha (by kernel_rfl) (ex_store (of_ := 15) 0 [.int .i64 3] s rfl rfl (by kernel_rfl) (by kernel_rfl) (Try.sizeOf3 _) rfl (by simp [Value.oneCell']) (Nat.le_of_ble_eq_true rfl)) ?_
  clear ha a s w; rintro w a s ha
  replace s : St W (.blk g294 (evv ⟨0, 4, 4, 1, 0, 0, [], [], [], [], false, [], none, 0, 0, 0, 0, 3⟩) 36 :: .blk g258 (evv x_5) 36 :: .blk g2 [.slice A1 10 10] 22 :: Own 36 16 A1 10 10 (evs goodL) :: Forked 36 16 (some a3) 12 c240 (evs (((goodL ++ [x_1]) ++ [x_0]))) A250 13 c251 (evs [x_0]) :: .blk g3 (evv x_3) 36 :: L) w := s
  refine wpList_nil ?_
  refine then_normal ?_
  refine wp_seq ?_
  refine wp_region_lit ?_
  refine st_val (.agg #[.int .i64 10, .int .i64 0]) ha (by kernel_rfl) (by kernel_rfl) ?_
  clear ha a; intro a ha
  refine st_val (.pointer (some ⟨g294, 12, none⟩)) ha (by kernel_rfl) (by kernel_rfl) ?_
  clear ha a; intro a ha
  refine st_exd ha (by kernel_rfl) (ex_store (of_ := 12) 0 [.int .i64 10, .int .i64 0] s rfl rfl (by kernel_rfl) (by kernel_rfl) (Try.sizeOf34 _) rfl (by simp [Value.oneCell']) (Nat.le_of_ble_eq_true rfl)) ?_
  clear ha a s w; rintro w a s ha
  replace s : St W (.blk g294 (evv x_6) 36 :: .blk g258 (evv x_5) 36 :: .blk g2 [.slice A1 10 10] 22 :: Own 36 16 A1 10 10 (evs goodL) :: Forked 36 16 (some a3) 12 c240 (evs (((goodL ++ [x_1]) ++ [x_0]))) A250 13 c251 (evs [x_0]) :: .blk g3 (evv x_3) 36 :: L) w := s
  refine wpList_nil ?_
  refine then_normal ?_
  refine wp_seq ?_
  refine wp_region_head 8 (fun w => BlkIs g294 (evv x_6) w ∧ BlkIs g3 (evv x_3) w ∧ True) (by kernel_rfl) (by decide) ?_
  replace s := s.drew; generalize _root_.Go.World.drew _ = w at s ⊢
  have hS : (fun w => BlkIs g294 (evv x_6) w ∧ BlkIs g3 (evv x_3) w ∧ True) w := ⟨s.blkIs 0 rfl, s.blkIs 5 rfl, trivial⟩
  refine hd_val (i := 0) (.agg (evv x_6).toArray) ha rfl (by as_aux_lemma => kernel_rfl) (fun _ _ _ h => h) (by as_aux_lemma => kernel_rfl) (fun w hS => run_loadN (of_ := 0) (evv x_6) hS.1 rfl (by as_aux_lemma => kernel_rfl) Try.isAgg36 Try.sizeOf36 rfl (Nat.le_of_ble_eq_true rfl)) hS ?_
  clear ha a; intro a ha
  refine hd_val (i := 1) (.agg (evv x_6).toArray) ha rfl (by as_aux_lemma => kernel_rfl) (fun _ _ _ h => h) (by as_aux_lemma => kernel_rfl) (fun w hS => run_loadN (of_ := 0) (evv x_6) hS.1 rfl (by as_aux_lemma => kernel_rfl) Try.isAgg36 Try.sizeOf36 rfl (Nat.le_of_ble_eq_true rfl)) hS ?_
  clear ha a; intro a ha
  refine hd_val (i := 2) (.agg (evv x_3).toArray) ha rfl (by as_aux_lemma => kernel_rfl) (fun _ _ _ h => h) (by as_aux_lemma => kernel_rfl) (fun w hS => run_loadN (of_ := 0) (evv x_3) hS.2.1 rfl (by as_aux_lemma => kernel_rfl) Try.isAgg36 Try.sizeOf36 rfl (Nat.le_of_ble_eq_true rfl)) hS ?_
  clear ha a; intro a ha
  refine Head.fork (k := 2) [true, true, true, true, true, true, false, false, false] (fun a w => ∃ (g296 : Nat) (g326 : Nat) (g356 : Nat), Has a 397 [(0, .bool false), (1, .pointer (some ⟨g2, 0, none⟩)), (2, .func (.func 9) #[] #[.pointer (some ⟨g2, 0, none⟩)]), (54, .bool false), (64, .bool false), (8, .bool true), (9, .bool true), (10, .slice (some a3) 12 c240), (13, .bool true), (14, .pointer (some ⟨g258, 0, none⟩)), (196, .bool false), (208, .bool false), (21, .bool true), (22, .pointer (some ⟨g294, 0, none⟩)), (280, .agg (evv x_6).toArray), (281, .agg (evv x_6).toArray), (282, .agg (evv x_3).toArray), (23, .pointer (some ⟨g296, 0, none⟩)), (24, .pointer (some ⟨g326, 0, none⟩)), (25, .pointer (some ⟨g356, 0, none⟩))] ∧ St W (.blk g356 (evv x_9) 36 :: .blk g326 (evv x_9) 36 :: .blk g296 (evv x_9) 36 :: .blk g294 (evv x_6) 36 :: .blk g258 (evv x_5) 36 :: .blk g2 [.slice A1 10 10] 22 :: Own 36 16 A1 10 10 (evs goodL) :: Forked 36 16 (some a3) 12 c240 (evs (((goodL ++ [x_1]) ++ [x_0]))) A250 13 c251 (evs [x_0]) :: .blk g3 (evv x_3) 36 :: L) w) ?_ ?_
  · intro K
    refine Head.three (i := 3) (j := 4) (k := 5) (by as_aux_lemma => kernel_rfl) ?_ ?_ ?_
    · skip
      refine hat_ex (i := 3) ha rfl (by as_aux_lemma => kernel_rfl) (ex_alloc (evv x_9) s rfl (Try.zeroValue36 _) (by as_aux_lemma => kernel_rfl)) ?_
      clear hS s w; rintro _ w ⟨g296, rfl, s⟩
      refine and_keep ⟨s.blkIs 1 rfl, s.blkIs 6 rfl, trivial⟩ fun hS => ?_; clear ha a; intro a ha
      refine Head.two (i := 4) (j := 5) (by as_aux_lemma => kernel_rfl) ?_ ?_
      · skip
        refine hat_ex (i := 4) ha rfl (by as_aux_lemma => kernel_rfl) (ex_alloc (evv x_9) s rfl (Try.zeroValue36 _) (by as_aux_lemma => kernel_rfl)) ?_
        clear hS s w; rintro _ w ⟨g326, rfl, s⟩
        refine and_keep ⟨s.blkIs 2 rfl, s.blkIs 7 rfl, trivial⟩ fun hS => ?_; clear ha a; intro a ha
        refine hd_ex (i := 5) ha rfl (by as_aux_lemma => kernel_rfl) (by as_aux_lemma => kernel_rfl) (ex_alloc (evv x_9) s rfl (Try.zeroValue36 _) (by as_aux_lemma => kernel_rfl)) ?_
        clear hS s w; rintro _ w ⟨g356, rfl, s⟩
        refine and_keep ⟨s.blkIs 3 rfl, s.blkIs 8 rfl, trivial⟩ fun hS => ?_; clear ha a; intro a ha
        exact K _ _ _ (by as_aux_lemma => kernel_rfl) ⟨g296, g326, g356, (Has.cons ha (by as_aux_lemma => kernel_rfl) (by as_aux_lemma => kernel_rfl) (Has.cons ha (by as_aux_lemma => kernel_rfl) (by as_aux_lemma => kernel_rfl) (Has.cons ha (by as_aux_lemma => kernel_rfl) (by as_aux_lemma => kernel_rfl) (Has.cons ha (by as_aux_lemma => kernel_rfl) (by as_aux_lemma => kernel_rfl) (Has.cons ha (by as_aux_lemma => kernel_rfl) (by as_aux_lemma => kernel_rfl) (Has.cons ha (by as_aux_lemma => kernel_rfl) (by as_aux_lemma => kernel_rfl) (Has.cons ha (by as_aux_lemma => kernel_rfl) (by as_aux_lemma => kernel_rfl) (Has.cons ha (by as_aux_lemma => kernel_rfl) (by as_aux_lemma => kernel_rfl) (Has.cons ha (by as_aux_lemma => kernel_rfl) (by as_aux_lemma => kernel_rfl) (Has.cons ha (by as_aux_lemma => kernel_rfl) (by as_aux_lemma => kernel_rfl) (Has.cons ha (by as_aux_lemma => kernel_rfl) (by as_aux_lemma => kernel_rfl) (Has.cons ha (by as_aux_lemma => kernel_rfl) (by as_aux_lemma => kernel_rfl) (Has.cons ha (by as_aux_lemma => kernel_rfl) (by as_aux_lemma => kernel_rfl) (Has.cons ha (by as_aux_lemma => kernel_rfl) (by as_aux_lemma => kernel_rfl) (Has.cons ha (by as_aux_lemma => kernel_rfl) (by as_aux_lemma => kernel_rfl) (Has.cons ha (by as_aux_lemma => kernel_rfl) (by as_aux_lemma => kernel_rfl) (Has.cons ha (by as_aux_lemma => kernel_rfl) (by as_aux_lemma => kernel_rfl) (Has.cons ha (by as_aux_lemma => kernel_rfl) (by as_aux_lemma => kernel_rfl) (Has.cons ha (by as_aux_lemma => kernel_rfl) (by as_aux_lemma => kernel_rfl) (Has.cons ha (by as_aux_lemma => kernel_rfl) (by as_aux_lemma => kernel_rfl) (Has.nil ha))))))))))))))))))))), s⟩
      · skip
        refine hat_ex (i := 5) ha rfl (by as_aux_lemma => kernel_rfl) (ex_alloc (evv x_9) s rfl (Try.zeroValue36 _) (by as_aux_lemma => kernel_rfl)) ?_
        clear hS s w; rintro _ w ⟨g356, rfl, s⟩
        refine and_keep ⟨s.blkIs 2 rfl, s.blkIs 7 rfl, trivial⟩ fun hS => ?_; clear ha a; intro a ha
        refine hd_ex (i := 4) ha rfl (by as_aux_lemma => kernel_rfl) (by as_aux_lemma => kernel_rfl) (ex_alloc (evv x_9) s rfl (Try.zeroValue36 _) (by as_aux_lemma => kernel_rfl)) ?_
        clear hS s w; rintro _ w ⟨g326, rfl, s⟩
        refine and_keep ⟨s.blkIs 3 rfl, s.blkIs 8 rfl, trivial⟩ fun hS => ?_; clear ha a; intro a ha
        replace s := ((((((((s.at_ (j := 8) rfl).at_ (j := 8) rfl).at_ (j := 8) rfl).at_ (j := 8) rfl).at_ (j := 8) rfl).at_ (j := 8) rfl).at_ (j := 8) rfl).at_ (j := 7) rfl).at_ (j := 8) rfl
        replace s : St W (.blk g356 (evv x_9) 36 :: .blk g326 (evv x_9) 36 :: .blk g296 (evv x_9) 36 :: .blk g294 (evv x_6) 36 :: .blk g258 (evv x_5) 36 :: .blk g2 [.slice A1 10 10] 22 :: Own 36 16 A1 10 10 (evs goodL) :: Forked 36 16 (some a3) 12 c240 (evs (((goodL ++ [x_1]) ++ [x_0]))) A250 13 c251 (evs [x_0]) :: .blk g3 (evv x_3) 36 :: L) w := s
        exact K _ _ _ (by as_aux_lemma => kernel_rfl) ⟨g296, g326, g356, (Has.cons ha (by as_aux_lemma => kernel_rfl) (by as_aux_lemma => kernel_rfl) (Has.cons ha (by as_aux_lemma => kernel_rfl) (by as_aux_lemma => kernel_rfl) (Has.cons ha (by as_aux_lemma => kernel_rfl) (by as_aux_lemma => kernel_rfl) (Has.cons ha (by as_aux_lemma => kernel_rfl) (by as_aux_lemma => kernel_rfl) (Has.cons ha (by as_aux_lemma => kernel_rfl) (by as_aux_lemma => kernel_rfl) (Has.cons ha (by as_aux_lemma => kernel_rfl) (by as_aux_lemma => kernel_rfl) (Has.cons ha (by as_aux_lemma => kernel_rfl) (by as_aux_lemma => kernel_rfl) (Has.cons ha (by as_aux_lemma => kernel_rfl) (by as_aux_lemma => kernel_rfl) (Has.cons ha (by as_aux_lemma => kernel_rfl) (by as_aux_lemma => kernel_rfl) (Has.cons ha (by as_aux_lemma => kernel_rfl) (by as_aux_lemma => kernel_rfl) (Has.cons ha (by as_aux_lemma => kernel_rfl) (by as_aux_lemma => kernel_rfl) (Has.cons ha (by as_aux_lemma => kernel_rfl) (by as_aux_lemma => kernel_rfl) (Has.cons ha (by as_aux_lemma => kernel_rfl) (by as_aux_lemma => kernel_rfl) (Has.cons ha (by as_aux_lemma => kernel_rfl) (by as_aux_lemma => kernel_rfl) (Has.cons ha (by as_aux_lemma => kernel_rfl) (by as_aux_lemma => kernel_rfl) (Has.cons ha (by as_aux_lemma => kernel_rfl) (by as_aux_lemma => kernel_rfl) (Has.cons ha (by as_aux_lemma => kernel_rfl) (by as_aux_lemma => kernel_rfl) (Has.cons ha (by as_aux_lemma => kernel_rfl) (by as_aux_lemma => kernel_rfl) (Has.cons ha (by as_aux_lemma => kernel_rfl) (by as_aux_lemma => kernel_rfl) (Has.cons ha (by as_aux_lemma => kernel_rfl) (by as_aux_lemma => kernel_rfl) (Has.nil ha))))))))))))))))))))), s⟩
    · skip
      refine hat_ex (i := 4) ha rfl (by as_aux_lemma => kernel_rfl) (ex_alloc (evv x_9) s rfl (Try.zeroValue36 _) (by as_aux_lemma => kernel_rfl)) ?_
      clear hS s w; rintro _ w ⟨g326, rfl, s⟩
      refine and_keep ⟨s.blkIs 1 rfl, s.blkIs 6 rfl, trivial⟩ fun hS => ?_; clear ha a; intro a ha
      refine Head.two (i := 3) (j := 5) (by as_aux_lemma => kernel_rfl) ?_ ?_
      · skip
        refine hat_ex (i := 3) ha rfl (by as_aux_lemma => kernel_rfl) (ex_alloc (evv x_9) s rfl (Try.zeroValue36 _) (by as_aux_lemma => kernel_rfl)) ?_
        clear hS s w; rintro _ w ⟨g296, rfl, s⟩
        refine and_keep ⟨s.blkIs 2 rfl, s.blkIs 7 rfl, trivial⟩ fun hS => ?_; clear ha a; intro a ha
        refine hd_ex (i := 5) ha rfl (by as_aux_lemma => kernel_rfl) (by as_aux_lemma => kernel_rfl) (ex_alloc (evv x_9) s rfl (Try.zeroValue36 _) (by as_aux_lemma => kernel_rfl)) ?_
        clear hS s w; rintro _ w ⟨g356, rfl, s⟩
        refine and_keep ⟨s.blkIs 3 rfl, s.blkIs 8 rfl, trivial⟩ fun hS => ?_; clear ha a; intro a ha
        replace s := ((((((((s.at_ (j := 8) rfl).at_ (j := 8) rfl).at_ (j := 8) rfl).at_ (j := 8) rfl).at_ (j := 8) rfl).at_ (j := 8) rfl).at_ (j := 7) rfl).at_ (j := 8) rfl).at_ (j := 8) rfl
        replace s : St W (.blk g356 (evv x_9) 36 :: .blk g326 (evv x_9) 36 :: .blk g296 (evv x_9) 36 :: .blk g294 (evv x_6) 36 :: .blk g258 (evv x_5) 36 :: .blk g2 [.slice A1 10 10] 22 :: Own 36 16 A1 10 10 (evs goodL) :: Forked 36 16 (some a3) 12 c240 (evs (((goodL ++ [x_1]) ++ [x_0]))) A250 13 c251 (evs [x_0]) :: .blk g3 (evv x_3) 36 :: L) w := s
        exact K _ _ _ (by as_aux_lemma => kernel_rfl) ⟨g296, g326, g356, (Has.cons ha (by as_aux_lemma => kernel_rfl) (by as_aux_lemma => kernel_rfl) (Has.cons ha (by as_aux_lemma => kernel_rfl) (by as_aux_lemma => kernel_rfl) (Has.cons ha (by as_aux_lemma => kernel_rfl) (by as_aux_lemma => kernel_rfl) (Has.cons ha (by as_aux_lemma => kernel_rfl) (by as_aux_lemma => kernel_rfl) (Has.cons ha (by as_aux_lemma => kernel_rfl) (by as_aux_lemma => kernel_rfl) (Has.cons ha (by as_aux_lemma => kernel_rfl) (by as_aux_lemma => kernel_rfl) (Has.cons ha (by as_aux_lemma => kernel_rfl) (by as_aux_lemma => kernel_rfl) (Has.cons ha (by as_aux_lemma => kernel_rfl) (by as_aux_lemma => kernel_rfl) (Has.cons ha (by as_aux_lemma => kernel_rfl) (by as_aux_lemma => kernel_rfl) (Has.cons ha (by as_aux_lemma => kernel_rfl) (by as_aux_lemma => kernel_rfl) (Has.cons ha (by as_aux_lemma => kernel_rfl) (by as_aux_lemma => kernel_rfl) (Has.cons ha (by as_aux_lemma => kernel_rfl) (by as_aux_lemma => kernel_rfl) (Has.cons ha (by as_aux_lemma => kernel_rfl) (by as_aux_lemma => kernel_rfl) (Has.cons ha (by as_aux_lemma => kernel_rfl) (by as_aux_lemma => kernel_rfl) (Has.cons ha (by as_aux_lemma => kernel_rfl) (by as_aux_lemma => kernel_rfl) (Has.cons ha (by as_aux_lemma => kernel_rfl) (by as_aux_lemma => kernel_rfl) (Has.cons ha (by as_aux_lemma => kernel_rfl) (by as_aux_lemma => kernel_rfl) (Has.cons ha (by as_aux_lemma => kernel_rfl) (by as_aux_lemma => kernel_rfl) (Has.cons ha (by as_aux_lemma => kernel_rfl) (by as_aux_lemma => kernel_rfl) (Has.cons ha (by as_aux_lemma => kernel_rfl) (by as_aux_lemma => kernel_rfl) (Has.nil ha))))))))))))))))))))), s⟩
      · skip
        refine hat_ex (i := 5) ha rfl (by as_aux_lemma => kernel_rfl) (ex_alloc (evv x_9) s rfl (Try.zeroValue36 _) (by as_aux_lemma => kernel_rfl)) ?_
        clear hS s w; rintro _ w ⟨g356, rfl, s⟩
        refine and_keep ⟨s.blkIs 2 rfl, s.blkIs 7 rfl, trivial⟩ fun hS => ?_; clear ha a; intro a ha
        refine hd_ex (i := 3) ha rfl (by as_aux_lemma => kernel_rfl) (by as_aux_lemma => kernel_rfl) (ex_alloc (evv x_9) s rfl (Try.zeroValue36 _) (by as_aux_lemma => kernel_rfl)) ?_
        clear hS s w; rintro _ w ⟨g296, rfl, s⟩
        refine and_keep ⟨s.blkIs 3 rfl, s.blkIs 8 rfl, trivial⟩ fun hS => ?_; clear ha a; intro a ha
        replace s := ((((((((s.at_ (j := 8) rfl).at_ (j := 8) rfl).at_ (j := 8) rfl).at_ (j := 8) rfl).at_ (j := 8) rfl).at_ (j := 8) rfl).at_ (j := 6) rfl).at_ (j := 8) rfl).at_ (j := 8) rfl
        replace s : St W (.blk g356 (evv x_9) 36 :: .blk g326 (evv x_9) 36 :: .blk g296 (evv x_9) 36 :: .blk g294 (evv x_6) 36 :: .blk g258 (evv x_5) 36 :: .blk g2 [.slice A1 10 10] 22 :: Own 36 16 A1 10 10 (evs goodL) :: Forked 36 16 (some a3) 12 c240 (evs (((goodL ++ [x_1]) ++ [x_0]))) A250 13 c251 (evs [x_0]) :: .blk g3 (evv x_3) 36 :: L) w := s
        exact K _ _ _ (by as_aux_lemma => kernel_rfl) ⟨g296, g326, g356, (Has.cons ha (by as_aux_lemma => kernel_rfl) (by as_aux_lemma => kernel_rfl) (Has.cons ha (by as_aux_lemma => kernel_rfl) (by as_aux_lemma => kernel_rfl) (Has.cons ha (by as_aux_lemma => kernel_rfl) (by as_aux_lemma => kernel_rfl) (Has.cons ha (by as_aux_lemma => kernel_rfl) (by as_aux_lemma => kernel_rfl) (Has.cons ha (by as_aux_lemma => kernel_rfl) (by as_aux_lemma => kernel_rfl) (Has.cons ha (by as_aux_lemma => kernel_rfl) (by as_aux_lemma => kernel_rfl) (Has.cons ha (by as_aux_lemma => kernel_rfl) (by as_aux_lemma => kernel_rfl) (Has.cons ha (by as_aux_lemma => kernel_rfl) (by as_aux_lemma => kernel_rfl) (Has.cons ha (by as_aux_lemma => kernel_rfl) (by as_aux_lemma => kernel_rfl) (Has.cons ha (by as_aux_lemma => kernel_rfl) (by as_aux_lemma => kernel_rfl) (Has.cons ha (by as_aux_lemma => kernel_rfl) (by as_aux_lemma => kernel_rfl) (Has.cons ha (by as_aux_lemma => kernel_rfl) (by as_aux_lemma => kernel_rfl) (Has.cons ha (by as_aux_lemma => kernel_rfl) (by as_aux_lemma => kernel_rfl) (Has.cons ha (by as_aux_lemma => kernel_rfl) (by as_aux_lemma => kernel_rfl) (Has.cons ha (by as_aux_lemma => kernel_rfl) (by as_aux_lemma => kernel_rfl) (Has.cons ha (by as_aux_lemma => kernel_rfl) (by as_aux_lemma => kernel_rfl) (Has.cons ha (by as_aux_lemma => kernel_rfl) (by as_aux_lemma => kernel_rfl) (Has.cons ha (by as_aux_lemma => kernel_rfl) (by as_aux_lemma => kernel_rfl) (Has.cons ha (by as_aux_lemma => kernel_rfl) (by as_aux_lemma => kernel_rfl) (Has.cons ha (by as_aux_lemma => kernel_rfl) (by as_aux_lemma => kernel_rfl) (Has.nil ha))))))))))))))))))))), s⟩
    · skip
      refine hat_ex (i := 5) ha rfl (by as_aux_lemma => kernel_rfl) (ex_alloc (evv x_9) s rfl (Try.zeroValue36 _) (by as_aux_lemma => kernel_rfl)) ?_
      clear hS s w; rintro _ w ⟨g356, rfl, s⟩
      refine and_keep ⟨s.blkIs 1 rfl, s.blkIs 6 rfl, trivial⟩ fun hS => ?_; clear ha a; intro a ha
      refine Head.two (i := 3) (j := 4) (by as_aux_lemma => kernel_rfl) ?_ ?_
      · skip
        refine hat_ex (i := 3) ha rfl (by as_aux_lemma => kernel_rfl) (ex_alloc (evv x_9) s rfl (Try.zeroValue36 _) (by as_aux_lemma => kernel_rfl)) ?_
        clear hS s w; rintro _ w ⟨g296, rfl, s⟩
        refine and_keep ⟨s.blkIs 2 rfl, s.blkIs 7 rfl, trivial⟩ fun hS => ?_; clear ha a; intro a ha
        refine hd_ex (i := 4) ha rfl (by as_aux_lemma => kernel_rfl) (by as_aux_lemma => kernel_rfl) (ex_alloc (evv x_9) s rfl (Try.zeroValue36 _) (by as_aux_lemma => kernel_rfl)) ?_
        clear hS s w; rintro _ w ⟨g326, rfl, s⟩
        refine and_keep ⟨s.blkIs 3 rfl, s.blkIs 8 rfl, trivial⟩ fun hS => ?_; clear ha a; intro a ha
        replace s := ((((((((s.at_ (j := 8) rfl).at_ (j := 8) rfl).at_ (j := 8) rfl).at_ (j := 8) rfl).at_ (j := 8) rfl).at_ (j := 8) rfl).at_ (j := 7) rfl).at_ (j := 7) rfl).at_ (j := 8) rfl
        replace s : St W (.blk g356 (evv x_9) 36 :: .blk g326 (evv x_9) 36 :: .blk g296 (evv x_9) 36 :: .blk g294 (evv x_6) 36 :: .blk g258 (evv x_5) 36 :: .blk g2 [.slice A1 10 10] 22 :: Own 36 16 A1 10 10 (evs goodL) :: Forked 36 16 (some a3) 12 c240 (evs (((goodL ++ [x_1]) ++ [x_0]))) A250 13 c251 (evs [x_0]) :: .blk g3 (evv x_3) 36 :: L) w := s
        exact K _ _ _ (by as_aux_lemma => kernel_rfl) ⟨g296, g326, g356, (Has.cons ha (by as_aux_lemma => kernel_rfl) (by as_aux_lemma => kernel_rfl) (Has.cons ha (by as_aux_lemma => kernel_rfl) (by as_aux_lemma => kernel_rfl) (Has.cons ha (by as_aux_lemma => kernel_rfl) (by as_aux_lemma => kernel_rfl) (Has.cons ha (by as_aux_lemma => kernel_rfl) (by as_aux_lemma => kernel_rfl) (Has.cons ha (by as_aux_lemma => kernel_rfl) (by as_aux_lemma => kernel_rfl) (Has.cons ha (by as_aux_lemma => kernel_rfl) (by as_aux_lemma => kernel_rfl) (Has.cons ha (by as_aux_lemma => kernel_rfl) (by as_aux_lemma => kernel_rfl) (Has.cons ha (by as_aux_lemma => kernel_rfl) (by as_aux_lemma => kernel_rfl) (Has.cons ha (by as_aux_lemma => kernel_rfl) (by as_aux_lemma => kernel_rfl) (Has.cons ha (by as_aux_lemma => kernel_rfl) (by as_aux_lemma => kernel_rfl) (Has.cons ha (by as_aux_lemma => kernel_rfl) (by as_aux_lemma => kernel_rfl) (Has.cons ha (by as_aux_lemma => kernel_rfl) (by as_aux_lemma => kernel_rfl) (Has.cons ha (by as_aux_lemma => kernel_rfl) (by as_aux_lemma => kernel_rfl) (Has.cons ha (by as_aux_lemma => kernel_rfl) (by as_aux_lemma => kernel_rfl) (Has.cons ha (by as_aux_lemma => kernel_rfl) (by as_aux_lemma => kernel_rfl) (Has.cons ha (by as_aux_lemma => kernel_rfl) (by as_aux_lemma => kernel_rfl) (Has.cons ha (by as_aux_lemma => kernel_rfl) (by as_aux_lemma => kernel_rfl) (Has.cons ha (by as_aux_lemma => kernel_rfl) (by as_aux_lemma => kernel_rfl) (Has.cons ha (by as_aux_lemma => kernel_rfl) (by as_aux_lemma => kernel_rfl) (Has.cons ha (by as_aux_lemma => kernel_rfl) (by as_aux_lemma => kernel_rfl) (Has.nil ha))))))))))))))))))))), s⟩
      · skip
        refine hat_ex (i := 4) ha rfl (by as_aux_lemma => kernel_rfl) (ex_alloc (evv x_9) s rfl (Try.zeroValue36 _) (by as_aux_lemma => kernel_rfl)) ?_
        clear hS s w; rintro _ w ⟨g326, rfl, s⟩
        refine and_keep ⟨s.blkIs 2 rfl, s.blkIs 7 rfl, trivial⟩ fun hS => ?_; clear ha a; intro a ha
        refine hd_ex (i := 3) ha rfl (by as_aux_lemma => kernel_rfl) (by as_aux_lemma => kernel_rfl) (ex_alloc (evv x_9) s rfl (Try.zeroValue36 _) (by as_aux_lemma => kernel_rfl)) ?_
        clear hS s w; rintro _ w ⟨g296, rfl, s⟩
        refine and_keep ⟨s.blkIs 3 rfl, s.blkIs 8 rfl, trivial⟩ fun hS => ?_; clear ha a; intro a ha
        replace s := ((((((((s.at_ (j := 8) rfl).at_ (j := 8) rfl).at_ (j := 8) rfl).at_ (j := 8) rfl).at_ (j := 8) rfl).at_ (j := 8) rfl).at_ (j := 6) rfl).at_ (j := 7) rfl).at_ (j := 8) rfl
        replace s : St W (.blk g356 (evv x_9) 36 :: .blk g326 (evv x_9) 36 :: .blk g296 (evv x_9) 36 :: .blk g294 (evv x_6) 36 :: .blk g258 (evv x_5) 36 :: .blk g2 [.slice A1 10 10] 22 :: Own 36 16 A1 10 10 (evs goodL) :: Forked 36 16 (some a3) 12 c240 (evs (((goodL ++ [x_1]) ++ [x_0]))) A250 13 c251 (evs [x_0]) :: .blk g3 (evv x_3) 36 :: L) w := s
        exact K _ _ _ (by as_aux_lemma => kernel_rfl) ⟨g296, g326, g356, (Has.cons ha (by as_aux_lemma => kernel_rfl) (by as_aux_lemma => kernel_rfl) (Has.cons ha (by as_aux_lemma => kernel_rfl) (by as_aux_lemma => kernel_rfl) (Has.cons ha (by as_aux_lemma => kernel_rfl) (by as_aux_lemma => kernel_rfl) (Has.cons ha (by as_aux_lemma => kernel_rfl) (by as_aux_lemma => kernel_rfl) (Has.cons ha (by as_aux_lemma => kernel_rfl) (by as_aux_lemma => kernel_rfl) (Has.cons ha (by as_aux_lemma => kernel_rfl) (by as_aux_lemma => kernel_rfl) (Has.cons ha (by as_aux_lemma => kernel_rfl) (by as_aux_lemma => kernel_rfl) (Has.cons ha (by as_aux_lemma => kernel_rfl) (by as_aux_lemma => kernel_rfl) (Has.cons ha (by as_aux_lemma => kernel_rfl) (by as_aux_lemma => kernel_rfl) (Has.cons ha (by as_aux_lemma => kernel_rfl) (by as_aux_lemma => kernel_rfl) (Has.cons ha (by as_aux_lemma => kernel_rfl) (by as_aux_lemma => kernel_rfl) (Has.cons ha (by as_aux_lemma => kernel_rfl) (by as_aux_lemma => kernel_rfl) (Has.cons ha (by as_aux_lemma => kernel_rfl) (by as_aux_lemma => kernel_rfl) (Has.cons ha (by as_aux_lemma => kernel_rfl) (by as_aux_lemma => kernel_rfl) (Has.cons ha (by as_aux_lemma => kernel_rfl) (by as_aux_lemma => kernel_rfl) (Has.cons ha (by as_aux_lemma => kernel_rfl) (by as_aux_lemma => kernel_rfl) (Has.cons ha (by as_aux_lemma => kernel_rfl) (by as_aux_lemma => kernel_rfl) (Has.cons ha (by as_aux_lemma => kernel_rfl) (by as_aux_lemma => kernel_rfl) (Has.cons ha (by as_aux_lemma => kernel_rfl) (by as_aux_lemma => kernel_rfl) (Has.cons ha (by as_aux_lemma => kernel_rfl) (by as_aux_lemma => kernel_rfl) (Has.nil ha))))))))))))))))))))), s⟩
  clear ha s hS a w; rintro a w ⟨g296, g326, g356, ha, s⟩
  have hS : (fun w => BlkIs g294 (evv x_6) w ∧ BlkIs g3 (evv x_3) w ∧ True) w := ⟨s.blkIs 3 rfl, s.blkIs 8 rfl, trivial⟩
  refine hd_exd (i := 6) ha rfl (by as_aux_lemma => kernel_rfl) (by as_aux_lemma => kernel_rfl) (ex_store (of_ := 0) 2 (evv x_6) s rfl rfl (by as_aux_lemma => kernel_rfl) (by as_aux_lemma => kernel_rfl) (Try.sizeOf36 _) rfl (evv_one _) (Nat.le_of_ble_eq_true rfl)) ?_
  clear hS s w; rintro w s
  replace s : St W (.blk g356 (evv x_9) 36 :: .blk g326 (evv x_9) 36 :: .blk g296 (evv x_6) 36 :: .blk g294 (evv x_6) 36 :: .blk g258 (evv x_5) 36 :: .blk g2 [.slice A1 10 10] 22 :: Own 36 16 A1 10 10 (evs goodL) :: Forked 36 16 (some a3) 12 c240 (evs (((goodL ++ [x_1]) ++ [x_0]))) A250 13 c251 (evs [x_0]) :: .blk g3 (evv x_3) 36 :: L) w := s
  refine and_keep ⟨s.blkIs 3 rfl, s.blkIs 8 rfl, trivial⟩ fun hS => ?_; clear ha a; intro a ha
  refine hd_exd (i := 7) ha rfl (by as_aux_lemma => kernel_rfl) (by as_aux_lemma => kernel_rfl) (ex_store (of_ := 0) 1 (evv x_6) s rfl rfl (by as_aux_lemma => kernel_rfl) (by as_aux_lemma => kernel_rfl) (Try.sizeOf36 _) rfl (evv_one _) (Nat.le_of_ble_eq_true rfl)) ?_
  clear hS s w; rintro w s
  replace s : St W (.blk g356 (evv x_9) 36 :: .blk g326 (evv x_6) 36 :: .blk g296 (evv x_6) 36 :: .blk g294 (evv x_6) 36 :: .blk g258 (evv x_5) 36 :: .blk g2 [.slice A1 10 10] 22 :: Own 36 16 A1 10 10 (evs goodL) :: Forked 36 16 (some a3) 12 c240 (evs (((goodL ++ [x_1]) ++ [x_0]))) A250 13 c251 (evs [x_0]) :: .blk g3 (evv x_3) 36 :: L) w := s
  refine and_keep ⟨s.blkIs 3 rfl, s.blkIs 8 rfl, trivial⟩ fun hS => ?_; clear ha a; intro a ha
  refine Head.done (by as_aux_lemma => kernel_rfl) ?_
  clear hS; simp only [List.drop_succ_cons, List.drop_zero]
  refine st_exd ha (by kernel_rfl) (ex_store (of_ := 0) 0 (evv x_3) s rfl rfl (by kernel_rfl) (by kernel_rfl) (Try.sizeOf36 _) rfl (evv_one _) (Nat.le_of_ble_eq_true rfl)) ?_
  clear ha a s w; rintro w a s ha
  replace s : St W (.blk g356 (evv x_3) 36 :: .blk g326 (evv x_6) 36 :: .blk g296 (evv x_6) 36 :: .blk g294 (evv x_6) 36 :: .blk g258 (evv x_5) 36 :: .blk g2 [.slice A1 10 10] 22 :: Own 36 16 A1 10 10 (evs goodL) :: Forked 36 16 (some a3) 12 c240 (evs (((goodL ++ [x_1]) ++ [x_0]))) A250 13 c251 (evs [x_0]) :: .blk g3 (evv x_3) 36 :: L) w := s
  refine wpList_nil ?_
  refine then_normal ?_
  refine wp_seq ?_
  refine wp_region_lit ?_
  refine st_val (.pointer (some ⟨g296, 12, none⟩)) ha (by kernel_rfl) (by kernel_rfl) ?_
  clear ha a; intro a ha
  refine st_val (.pointer (some ⟨g296, 13, none⟩)) ha (by kernel_rfl) (by kernel_rfl) ?_
  clear ha a; intro a ha
  refine st_exd ha (by kernel_rfl) (ex_store (of_ := 13) 2 [.int .i64 1] s rfl rfl (by kernel_rfl) (by kernel_rfl) (Try.sizeOf3 _) rfl (by simp [Value.oneCell']) (Nat.le_of_ble_eq_true rfl)) ?_
  clear ha a s w; rintro w a s ha
  replace s : St W (.blk g356 (evv x_3) 36 :: .blk g326 (evv x_6) 36 :: .blk g296 (evv x_31) 36 :: .blk g294 (evv x_6) 36 :: .blk g258 (evv x_5) 36 :: .blk g2 [.slice A1 10 10] 22 :: Own 36 16 A1 10 10 (evs goodL) :: Forked 36 16 (some a3) 12 c240 (evs (((goodL ++ [x_1]) ++ [x_0]))) A250 13 c251 (evs [x_0]) :: .blk g3 (evv x_3) 36 :: L) w := s
  refine wpList_nil ?_
  refine then_normal ?_
  refine wp_seq ?_
  refine wp_region_lit ?_
  refine st_val (.pointer (some ⟨g326, 4, none⟩)) ha (by kernel_rfl) (by kernel_rfl) ?_
  clear ha a; intro a ha
  refine st_exd ha (by kernel_rfl) (ex_store (of_ := 4) 1 [.int .i64 1] s rfl rfl (by kernel_rfl) (by kernel_rfl) (Try.sizeOf3 _) rfl (by simp [Value.oneCell']) (Nat.le_of_ble_eq_true rfl)) ?_
  clear ha a s w; rintro w a s ha
  replace s : St W (.blk g356 (evv x_3) 36 :: .blk g326 (evv x_32) 36 :: .blk g296 (evv x_31) 36 :: .blk g294 (evv x_6) 36 :: .blk g258 (evv x_5) 36 :: .blk g2 [.slice A1 10 10] 22 :: Own 36 16 A1 10 10 (evs goodL) :: Forked 36 16 (some a3) 12 c240 (evs (((goodL ++ [x_1]) ++ [x_0]))) A250 13 c251 (evs [x_0]) :: .blk g3 (evv x_3) 36 :: L) w := s
  refine wpList_nil ?_
  refine then_normal ?_
  refine wp_seq ?_
  refine wp_region_lit ?_
  refine st_val (.pointer (some ⟨g356, 15, none⟩)) ha (by kernel_rfl) (by kernel_rfl) ?_
  clear ha a; intro a ha
  refine st_exd ha (by kernel_rfl) (ex_store (of_ := 15) 0 [.int .i64 4] s rfl rfl (by kernel_rfl) (by kernel_rfl) (Try.sizeOf3 _) rfl (by simp [Value.oneCell']) (Nat.le_of_ble_eq_true rfl)) ?_
  clear ha a s w; rintro w a s ha
  replace s : St W (.blk g356 (evv x_33) 36 :: .blk g326 (evv x_32) 36 :: .blk g296 (evv x_31) 36 :: .blk g294 (evv x_6) 36 :: .blk g258 (evv x_5) 36 :: .blk g2 [.slice A1 10 10] 22 :: Own 36 16 A1 10 10 (evs goodL) :: Forked 36 16 (some a3) 12 c240 (evs (((goodL ++ [x_1]) ++ [x_0]))) A250 13 c251 (evs [x_0]) :: .blk g3 (evv x_3) 36 :: L) w := s
  refine wpList_nil ?_
  refine then_normal ?_
  refine wp_seq ?_
  refine wp_region_lit ?_
  refine st_val (.agg (evv x_5).toArray) ha (by kernel_rfl) (run_loadN (of_ := 0) (evv x_5) (s.blkIs 4 rfl) rfl (by kernel_rfl) Try.isAgg36 Try.sizeOf36 rfl (Nat.le_of_ble_eq_true rfl)) ?_
  clear ha a; intro a ha
  refine st_ex ha (by kernel_rfl) (ex_alloc (evv x_9) s rfl (Try.zeroValue36 _) (by kernel_rfl)) ?_
  clear ha a s w; rintro _ w a ⟨g386, rfl, s⟩ ha
  refine st_exd ha (by kernel_rfl) (ex_store (of_ := 0) 0 (evv x_5) s rfl rfl (by kernel_rfl) (by kernel_rfl) (Try.sizeOf36 _) rfl (evv_one _) (Nat.le_of_ble_eq_true rfl)) ?_
  clear ha a s w; rintro w a s ha
  replace s : St W (.blk g386 (evv x_5) 36 :: .blk g356 (evv x_33) 36 :: .blk g326 (evv x_32) 36 :: .blk g296 (evv x_31) 36 :: .blk g294 (evv x_6) 36 :: .blk g258 (evv x_5) 36 :: .blk g2 [.slice A1 10 10] 22 :: Own 36 16 A1 10 10 (evs goodL) :: Forked 36 16 (some a3) 12 c240 (evs (((goodL ++ [x_1]) ++ [x_0]))) A250 13 c251 (evs [x_0]) :: .blk g3 (evv x_3) 36 :: L) w := s
  refine wpList_nil ?_
  refine then_normal ?_
  refine wp_seq ?_
  refine wp_region_lit ?_
  refine st_val (.pointer (some ⟨g386, 14, none⟩)) ha (by kernel_rfl) (by kernel_rfl) ?_
  clear ha a; intro a ha
  refine st_exd ha (by kernel_rfl) (ex_store (of_ := 14) 0 [.int .i64 200] s rfl rfl (by kernel_rfl) (by kernel_rfl) (Try.sizeOf25 _) rfl (by simp [Value.oneCell']) (Nat.le_of_ble_eq_true rfl)) ?_
  clear ha a s w; rintro w a s ha
  replace s : St W (.blk g386 (evv x_12) 36 :: .blk g356 (evv x_33) 36 :: .blk g326 (evv x_32) 36 :: .blk g296 (evv x_31) 36 :: .blk g294 (evv x_6) 36 :: .blk g258 (evv x_5) 36 :: .blk g2 [.slice A1 10 10] 22 :: Own 36 16 A1 10 10 (evs goodL) :: Forked 36 16 (some a3) 12 c240 (evs (((goodL ++ [x_1]) ++ [x_0]))) A250 13 c251 (evs [x_0]) :: .blk g3 (evv x_3) 36 :: L) w := s
  refine wpList_nil ?_
  refine then_normal ?_
  refine wp_seq ?_
  refine wp_region_lit ?_
  refine st_val (.agg (evv x_6).toArray) ha (by kernel_rfl) (run_loadN (of_ := 0) (evv x_6) (s.blkIs 4 rfl) rfl (by kernel_rfl) Try.isAgg36 Try.sizeOf36 rfl (Nat.le_of_ble_eq_true rfl)) ?_
  clear ha a; intro a ha
  refine st_ex ha (by kernel_rfl) (ex_alloc (evv x_9) s rfl (Try.zeroValue36 _) (by kernel_rfl)) ?_
  clear ha a s w; rintro _ w a ⟨g387, rfl, s⟩ ha
  refine st_exd ha (by kernel_rfl) (ex_store (of_ := 0) 0 (evv x_6) s rfl rfl (by kernel_rfl) (by kernel_rfl) (Try.sizeOf36 _) rfl (evv_one _) (Nat.le_of_ble_eq_true rfl)) ?_
  clear ha a s w; rintro w a s ha
  replace s : St W (.blk g387 (evv x_6) 36 :: .blk g386 (evv x_12) 36 :: .blk g356 (evv x_33) 36 :: .blk g326 (evv x_32) 36 :: .blk g296 (evv x_31) 36 :: .blk g294 (evv x_6) 36 :: .blk g258 (evv x_5) 36 :: .blk g2 [.slice A1 10 10] 22 :: Own 36 16 A1 10 10 (evs goodL) :: Forked 36 16 (some a3) 12 c240 (evs (((goodL ++ [x_1]) ++ [x_0]))) A250 13 c251 (evs [x_0]) :: .blk g3 (evv x_3) 36 :: L) w := s
  refine wpList_nil ?_
  refine then_normal ?_
  refine wp_seq ?_
  refine wp_region_lit ?_
  refine st_val (.pointer (some ⟨g387, 3, none⟩)) ha (by kernel_rfl) (by kernel_rfl) ?_
  clear ha a; intro a ha
  refine st_exd ha (by kernel_rfl) (ex_store (of_ := 3) 0 [.int .i64 3] s rfl rfl (by kernel_rfl) (by kernel_rfl) (Try.sizeOf3 _) rfl (by simp [Value.oneCell']) (Nat.le_of_ble_eq_true rfl)) ?_
  clear ha a s w; rintro w a s ha
  replace s : St W (.blk g387 (evv x_23) 36 :: .blk g386 (evv x_12) 36 :: .blk g356 (evv x_33) 36 :: .blk g326 (evv x_32) 36 :: .blk g296 (evv x_31) 36 :: .blk g294 (evv x_6) 36 :: .blk g258 (evv x_5) 36 :: .blk g2 [.slice A1 10 10] 22 :: Own 36 16 A1 10 10 (evs goodL) :: Forked 36 16 (some a3) 12 c240 (evs (((goodL ++ [x_1]) ++ [x_0]))) A250 13 c251 (evs [x_0]) :: .blk g3 (evv x_3) 36 :: L) w := s
  refine wpList_nil ?_
  refine then_normal ?_
  refine wp_seq ?_
  refine wp_region_head 37 (fun w => BlkIs g294 (evv x_6) w ∧ BlkIs g296 (evv x_31) w ∧ BlkIs g326 (evv x_32) w ∧ BlkIs g356 (evv x_33) w ∧ BlkIs g386 (evv x_12) w ∧ BlkIs g387 (evv x_23) w ∧ True) (by kernel_rfl) (by decide) ?_
  replace s := s.drew; generalize _root_.Go.World.drew _ = w at s ⊢
  have hS : (fun w => BlkIs g294 (evv x_6) w ∧ BlkIs g296 (evv x_31) w ∧ BlkIs g326 (evv x_32) w ∧ BlkIs g356 (evv x_33) w ∧ BlkIs g386 (evv x_12) w ∧ BlkIs g387 (evv x_23) w ∧ True) w := ⟨s.blkIs 5 rfl, s.blkIs 4 rfl, s.blkIs 3 rfl, s.blkIs 2 rfl, s.blkIs 1 rfl, s.blkIs 0 rfl, trivial⟩
  refine hd_val (i := 0) (.func (.func 9) #[] #[.pointer (some ⟨g2, 0, none⟩)]) ha rfl (by as_aux_lemma => kernel_rfl) (fun _ _ _ h => h) (by as_aux_lemma => kernel_rfl) (fun w hS => (by as_aux_lemma => kernel_rfl)) hS ?_
  clear ha a; intro a ha
  refine hd_val (i := 1) (.agg (evv x_6).toArray) ha rfl (by as_aux_lemma => kernel_rfl) (fun _ _ _ h => h) (by as_aux_lemma => kernel_rfl) (fun w hS => run_loadN (of_ := 0) (evv x_6) hS.1 rfl (by as_aux_lemma => kernel_rfl) Try.isAgg36 Try.sizeOf36 rfl (Nat.le_of_ble_eq_true rfl)) hS ?_
  clear ha a; intro a ha
  replace s := (s.at_ (j := 8) rfl).at_ (j := 8) rfl
  replace s : St W (.blk g2 [.slice A1 10 10] 22 :: Own 36 16 A1 10 10 (evs goodL) :: .blk g387 (evv x_23) 36 :: .blk g386 (evv x_12) 36 :: .blk g356 (evv x_33) 36 :: .blk g326 (evv x_32) 36 :: .blk g296 (evv x_31) 36 :: .blk g294 (evv x_6) 36 :: .blk g258 (evv x_5) 36 :: Forked 36 16 (some a3) 12 c240 (evs (((goodL ++ [x_1]) ++ [x_0]))) A250 13 c251 (evs [x_0]) :: .blk g3 (evv x_3) 36 :: L) w := s
  refine hd_call (i := 2) ha rfl (by as_aux_lemma => kernel_rfl) (by as_aux_lemma => kernel_rfl) (by as_aux_lemma => kernel_rfl) (e_any W _ w g2 A1 x_6 s) ?_
  clear hS s w; rintro _ w ⟨A388, c389, rfl, s⟩
  refine ⟨_, rfl, and_keep ⟨s.blkIs 8 rfl, s.blkIs 7 rfl, s.blkIs 6 rfl, s.blkIs 5 rfl, s.blkIs 4 rfl, s.blkIs 3 rfl, trivial⟩ fun hS => ?_⟩; clear ha a; intro a ha
  refine hd_call (i := 3) ha rfl (by as_aux_lemma => kernel_rfl) (by as_aux_lemma => kernel_rfl) (by as_aux_lemma => kernel_rfl) (finds_true W hW _ w A388 c389 (goodL ++ [x_6]) (Knows.own (j := 0) rfl) fx_73 (by decide) false 0 0 (lit_not fx_72) s) ?_
  clear hS s w; rintro _ w ⟨rfl, s⟩
  replace s := ((((((((s.at_ (j := 10) rfl).at_ (j := 9) rfl).at_ (j := 9) rfl).at_ (j := 9) rfl).at_ (j := 9) rfl).at_ (j := 9) rfl).at_ (j := 9) rfl).at_ (j := 9) rfl).at_ (j := 9) rfl
  replace s : St W (.blk g2 [.slice A1 10 10] 22 :: Own 36 16 A1 10 10 (evs goodL) :: .blk g387 (evv x_23) 36 :: .blk g386 (evv x_12) 36 :: .blk g356 (evv x_33) 36 :: .blk g326 (evv x_32) 36 :: .blk g296 (evv x_31) 36 :: .blk g294 (evv x_6) 36 :: Forked 36 16 (some a3) 12 c240 (evs (((goodL ++ [x_1]) ++ [x_0]))) A250 13 c251 (evs [x_0]) :: L) w := s.keep 9 3
  refine ⟨_, rfl, and_keep ⟨s.blkIs 7 rfl, s.blkIs 6 rfl, s.blkIs 5 rfl, s.blkIs 4 rfl, s.blkIs 3 rfl, s.blkIs 2 rfl, trivial⟩ fun hS => ?_⟩; clear ha a; intro a ha
  refine hd_val (i := 4) (.bool true) ha rfl (by as_aux_lemma => kernel_rfl) (fun _ _ _ h => h) (by as_aux_lemma => kernel_rfl) (fun w hS => (by as_aux_lemma => kernel_rfl)) hS ?_
  clear ha a; intro a ha
  refine hd_val (i := 5) (.func (.func 9) #[] #[.pointer (some ⟨g2, 0, none⟩)]) ha rfl (by as_aux_lemma => kernel_rfl) (fun _ _ _ h => h) (by as_aux_lemma => kernel_rfl) (fun w hS => (by as_aux_lemma => kernel_rfl)) hS ?_
  clear ha a; intro a ha
  refine hd_val (i := 6) (.agg (evv x_31).toArray) ha rfl (by as_aux_lemma => kernel_rfl) (fun _ _ _ h => h) (by as_aux_lemma => kernel_rfl) (fun w hS => run_loadN (of_ := 0) (evv x_31) hS.2.1 rfl (by as_aux_lemma => kernel_rfl) Try.isAgg36 Try.sizeOf36 rfl (Nat.le_of_ble_eq_true rfl)) hS ?_
  clear ha a; intro a ha
  refine hd_call (i := 7) ha rfl (by as_aux_lemma => kernel_rfl) (by as_aux_lemma => kernel_rfl) (by as_aux_lemma => kernel_rfl) (e_any W _ w g2 A1 x_31 s) ?_
  clear hS s w; rintro _ w ⟨A390, c391, rfl, s⟩
  refine ⟨_, rfl, and_keep ⟨s.blkIs 8 rfl, s.blkIs 7 rfl, s.blkIs 6 rfl, s.blkIs 5 rfl, s.blkIs 4 rfl, s.blkIs 3 rfl, trivial⟩ fun hS => ?_⟩; clear ha a; intro a ha
  refine hd_call (i := 8) ha rfl (by as_aux_lemma => kernel_rfl) (by as_aux_lemma => kernel_rfl) (by as_aux_lemma => kernel_rfl) (finds_true W hW _ w A390 c391 (goodL ++ [x_31]) (Knows.own (j := 0) rfl) fx_75 (by decide) false 6 10 (lit_rule fx_74) s) ?_
  clear hS s w; rintro _ w ⟨rfl, s⟩
  replace s := ((((((((s.at_ (j := 9) rfl).at_ (j := 9) rfl).at_ (j := 9) rfl).at_ (j := 9) rfl).at_ (j := 9) rfl).at_ (j := 9) rfl).at_ (j := 9) rfl).at_ (j := 9) rfl).at_ (j := 9) rfl
  replace s : St W (.blk g2 [.slice A1 10 10] 22 :: Own 36 16 A1 10 10 (evs goodL) :: .blk g387 (evv x_23) 36 :: .blk g386 (evv x_12) 36 :: .blk g356 (evv x_33) 36 :: .blk g326 (evv x_32) 36 :: .blk g296 (evv x_31) 36 :: .blk g294 (evv x_6) 36 :: Forked 36 16 (some a3) 12 c240 (evs (((goodL ++ [x_1]) ++ [x_0]))) A250 13 c251 (evs [x_0]) :: L) w := s.keep 9 1
  refine ⟨_, rfl, and_keep ⟨s.blkIs 7 rfl, s.blkIs 6 rfl, s.blkIs 5 rfl, s.blkIs 4 rfl, s.blkIs 3 rfl, s.blkIs 2 rfl, trivial⟩ fun hS => ?_⟩; clear ha a; intro a ha
  refine hd_val (i := 9) (.bool true) ha rfl (by as_aux_lemma => kernel_rfl) (fun _ _ _ h => h) (by as_aux_lemma => kernel_rfl) (fun w hS => (by as_aux_lemma => kernel_rfl)) hS ?_
  clear ha a; intro a ha
  refine hd_val (i := 10) (.bool true) ha rfl (by as_aux_lemma => kernel_rfl) (fun _ _ _ h => h) (by as_aux_lemma => kernel_rfl) (fun w hS => (by as_aux_lemma => kernel_rfl)) hS ?_
  clear ha a; intro a ha
  refine hd_val (i := 11) (.func (.func 9) #[] #[.pointer (some ⟨g2, 0, none⟩)]) ha rfl (by as_aux_lemma => kernel_rfl) (fun _ _ _ h => h) (by as_aux_lemma => kernel_rfl) (fun w hS => (by as_aux_lemma => kernel_rfl)) hS ?_
  clear ha a; intro a ha
  refine hd_val (i := 12) (.agg (evv x_32).toArray) ha rfl (by as_aux_lemma => kernel_rfl) (fun _ _ _ h => h) (by as_aux_lemma => kernel_rfl) (fun w hS => run_loadN (of_ := 0) (evv x_32) hS.2.2.1 rfl (by as_aux_lemma => kernel_rfl) Try.isAgg36 Try.sizeOf36 rfl (Nat.le_of_ble_eq_true rfl)) hS ?_
  clear ha a; intro a ha
  refine hd_call (i := 13) ha rfl (by as_aux_lemma => kernel_rfl) (by as_aux_lemma => kernel_rfl) (by as_aux_lemma => kernel_rfl) (e_any W _ w g2 A1 x_32 s) ?_
  clear hS s w; rintro _ w ⟨A392, c393, rfl, s⟩
  refine ⟨_, rfl, and_keep ⟨s.blkIs 8 rfl, s.blkIs 7 rfl, s.blkIs 6 rfl, s.blkIs 5 rfl, s.blkIs 4 rfl, s.blkIs 3 rfl, trivial⟩ fun hS => ?_⟩; clear ha a; intro a ha
  refine hd_call (i := 14) ha rfl (by as_aux_lemma => kernel_rfl) (by as_aux_lemma => kernel_rfl) (by as_aux_lemma => kernel_rfl) (finds_true W hW _ w A392 c393 (goodL ++ [x_32]) (Knows.own (j := 0) rfl) fx_77 (by decide) false 6 10 (lit_rule fx_76) s) ?_
  clear hS s w; rintro _ w ⟨rfl, s⟩
  replace s := ((((((((s.at_ (j := 9) rfl).at_ (j := 9) rfl).at_ (j := 9) rfl).at_ (j := 9) rfl).at_ (j := 9) rfl).at_ (j := 9) rfl).at_ (j := 9) rfl).at_ (j := 9) rfl).at_ (j := 9) rfl
  replace s : St W (.blk g2 [.slice A1 10 10] 22 :: Own 36 16 A1 10 10 (evs goodL) :: .blk g387 (evv x_23) 36 :: .blk g386 (evv x_12) 36 :: .blk g356 (evv x_33) 36 :: .blk g326 (evv x_32) 36 :: .blk g296 (evv x_31) 36 :: .blk g294 (evv x_6) 36 :: Forked 36 16 (some a3) 12 c240 (evs (((goodL ++ [x_1]) ++ [x_0]))) A250 13 c251 (evs [x_0]) :: L) w := s.keep 9 1
  refine ⟨_, rfl, and_keep ⟨s.blkIs 7 rfl, s.blkIs 6 rfl, s.blkIs 5 rfl, s.blkIs 4 rfl, s.blkIs 3 rfl, s.blkIs 2 rfl, trivial⟩ fun hS => ?_⟩; clear ha a; intro a ha
  refine hd_val (i := 15) (.bool true) ha rfl (by as_aux_lemma => kernel_rfl) (fun _ _ _ h => h) (by as_aux_lemma => kernel_rfl) (fun w hS => (by as_aux_lemma => kernel_rfl)) hS ?_
  clear ha a; intro a ha
  refine hd_val (i := 16) (.bool true) ha rfl (by as_aux_lemma => kernel_rfl) (fun _ _ _ h => h) (by as_aux_lemma => kernel_rfl) (fun w hS => (by as_aux_lemma => kernel_rfl)) hS ?_
  clear ha a; intro a ha
  refine hd_val (i := 17) (.func (.func 9) #[] #[.pointer (some ⟨g2, 0, none⟩)]) ha rfl (by as_aux_lemma => kernel_rfl) (fun _ _ _ h => h) (by as_aux_lemma => kernel_rfl) (fun w hS => (by as_aux_lemma => kernel_rfl)) hS ?_
  clear ha a; intro a ha
  refine hd_val (i := 18) (.agg (evv x_33).toArray) ha rfl (by as_aux_lemma => kernel_rfl) (fun _ _ _ h => h) (by as_aux_lemma => kernel_rfl) (fun w hS => run_loadN (of_ := 0) (evv x_33) hS.2.2.2.1 rfl (by as_aux_lemma => kernel_rfl) Try.isAgg36 Try.sizeOf36 rfl (Nat.le_of_ble_eq_true rfl)) hS ?_
  clear ha a; intro a ha
  refine hd_call (i := 19) ha rfl (by as_aux_lemma => kernel_rfl) (by as_aux_lemma => kernel_rfl) (by as_aux_lemma => kernel_rfl) (e_any W _ w g2 A1 x_33 s) ?_
  clear hS s w; rintro _ w ⟨A394, c395, rfl, s⟩
  refine ⟨_, rfl, and_keep ⟨s.blkIs 8 rfl, s.blkIs 7 rfl, s.blkIs 6 rfl, s.blkIs 5 rfl, s.blkIs 4 rfl, s.blkIs 3 rfl, trivial⟩ fun hS => ?_⟩; clear ha a; intro a ha
  refine hd_call (i := 20) ha rfl (by as_aux_lemma => kernel_rfl) (by as_aux_lemma => kernel_rfl) (by as_aux_lemma => kernel_rfl) (finds_true W hW _ w A394 c395 (goodL ++ [x_33]) (Knows.own (j := 0) rfl) fx_79 (by decide) false 6 10 (lit_rule fx_78) s) ?_
  clear hS s w; rintro _ w ⟨rfl, s⟩
  replace s := ((((((((s.at_ (j := 9) rfl).at_ (j := 9) rfl).at_ (j := 9) rfl).at_ (j := 9) rfl).at_ (j := 9) rfl).at_ (j := 9) rfl).at_ (j := 9) rfl).at_ (j := 9) rfl).at_ (j := 9) rfl
  replace s : St W (.blk g2 [.slice A1 10 10] 22 :: Own 36 16 A1 10 10 (evs goodL) :: .blk g387 (evv x_23) 36 :: .blk g386 (evv x_12) 36 :: .blk g356 (evv x_33) 36 :: .blk g326 (evv x_32) 36 :: .blk g296 (evv x_31) 36 :: .blk g294 (evv x_6) 36 :: Forked 36 16 (some a3) 12 c240 (evs (((goodL ++ [x_1]) ++ [x_0]))) A250 13 c251 (evs [x_0]) :: L) w := s.keep 9 1
  refine ⟨_, rfl, and_keep ⟨s.blkIs 7 rfl, s.blkIs 6 rfl, s.blkIs 5 rfl, s.blkIs 4 rfl, s.blkIs 3 rfl, s.blkIs 2 rfl, trivial⟩ fun hS => ?_⟩; clear ha a; intro a ha
  refine hd_val (i := 21) (.bool true) ha rfl (by as_aux_lemma => kernel_rfl) (fun _ _ _ h => h) (by as_aux_lemma => kernel_rfl) (fun w hS => (by as_aux_lemma => kernel_rfl)) hS ?_
  clear ha a; intro a ha
  refine hd_val (i := 22) (.bool true) ha rfl (by as_aux_lemma => kernel_rfl) (fun _ _ _ h => h) (by as_aux_lemma => kernel_rfl) (fun w hS => (by as_aux_lemma => kernel_rfl)) hS ?_
  clear ha a; intro a ha
  refine hd_val (i := 23) (.slice (some a3) 12 c240) ha rfl (by as_aux_lemma => kernel_rfl) (fun _ _ _ h => h) (by as_aux_lemma => kernel_rfl) (fun w hS => (by as_aux_lemma => kernel_rfl)) hS ?_
  clear ha a; intro a ha
  refine hd_val (i := 24) (.slice (some a3) 12 12) ha rfl (by as_aux_lemma => kernel_rfl) (fun _ _ _ h => h) (by as_aux_lemma => kernel_rfl) (fun w hS => (run_slice0 (n := 12) (c := c240) 12 12 rfl Try.underlying22 Try.sizeOf36 (by as_aux_lemma => kernel_rfl) (fun _ => rfl) (bnd_some .i64 (by as_aux_lemma => kernel_rfl)) (bnd_some .i64 (by as_aux_lemma => kernel_rfl)) bnd_none (by omega) (by omega) _)) hS ?_
  clear ha a; intro a ha
  refine hd_val (i := 25) (.agg (evv x_12).toArray) ha rfl (by as_aux_lemma => kernel_rfl) (fun _ _ _ h => h) (by as_aux_lemma => kernel_rfl) (fun w hS => run_loadN (of_ := 0) (evv x_12) hS.2.2.2.2.1 rfl (by as_aux_lemma => kernel_rfl) Try.isAgg36 Try.sizeOf36 rfl (Nat.le_of_ble_eq_true rfl)) hS ?_
  clear ha a; intro a ha
  refine hd_val (i := 26) (.agg (evv x_23).toArray) ha rfl (by as_aux_lemma => kernel_rfl) (fun _ _ _ h => h) (by as_aux_lemma => kernel_rfl) (fun w hS => run_loadN (of_ := 0) (evv x_23) hS.2.2.2.2.2.1 rfl (by as_aux_lemma => kernel_rfl) Try.isAgg36 Try.sizeOf36 rfl (Nat.le_of_ble_eq_true rfl)) hS ?_
  clear ha a; intro a ha
  refine hd_ex (i := 27) ha rfl (by as_aux_lemma => kernel_rfl) (by as_aux_lemma => kernel_rfl) (ex_buildSlice elt22 _ zs22 (evs [x_12, x_23]) s rfl (by as_aux_lemma => kernel_rfl) (by decide)) ?_
  clear hS s w; rintro _ w ⟨g396, rfl, s⟩
  refine and_keep ⟨s.blkIs 8 rfl, s.blkIs 7 rfl, s.blkIs 6 rfl, s.blkIs 5 rfl, s.blkIs 4 rfl, s.blkIs 3 rfl, trivial⟩ fun hS => ?_; clear ha a; intro a ha
  refine hd_ex (i := 28) ha rfl (by as_aux_lemma => kernel_rfl) (by as_aux_lemma => kernel_rfl) (ex_append_fresh (A := (some a3)) (n := 12) (m := 2) (d' := 2) (cs := evs (((goodL ++ [x_1]) ++ [x_0]))) elt22 (by decide) (evs [x_12, x_23]) s rfl (by as_aux_lemma => kernel_rfl) (by as_aux_lemma => kernel_rfl) ((Knows.forkedOld (j := 9) rfl) w s.sat) (reads_blk (s.blkIs 0 rfl) rfl) (by decide) (by simp only [maxLen]; omega) (by omega)) ?_
  clear hS s w; rintro _ w ⟨A397, c398, rfl, s⟩
  rw [show (evs [x_12, x_23]) = evs [x_12, x_23] from by kernel_rfl, ← evs_append] at s
  replace s : St W (Own 36 16 A397 14 c398 (evs (((goodL ++ [x_1]) ++ [x_0]) ++ [x_12, x_23])) :: .blk g396 (evs [x_12, x_23]) 36 :: .blk g2 [.slice A1 10 10] 22 :: Own 36 16 A1 10 10 (evs goodL) :: .blk g387 (evv x_23) 36 :: .blk g386 (evv x_12) 36 :: .blk g356 (evv x_33) 36 :: .blk g326 (evv x_32) 36 :: .blk g296 (evv x_31) 36 :: .blk g294 (evv x_6) 36 :: Forked 36 16 (some a3) 12 c240 (evs (((goodL ++ [x_1]) ++ [x_0]))) A250 13 c251 (evs [x_0]) :: L) w := s
  refine and_keep ⟨s.blkIs 9 rfl, s.blkIs 8 rfl, s.blkIs 7 rfl, s.blkIs 6 rfl, s.blkIs 5 rfl, s.blkIs 4 rfl, trivial⟩ fun hS => ?_; clear ha a; intro a ha
  refine hd_call (i := 29) ha rfl (by as_aux_lemma => kernel_rfl) (by as_aux_lemma => kernel_rfl) (by as_aux_lemma => kernel_rfl) (finds_true W hW _ w A397 c398 (((goodL ++ [x_1]) ++ [x_0]) ++ [x_12, x_23]) (Knows.own (j := 0) rfl) fx_81 (by decide) false 6 13 (lit_rule fx_80) s) ?_
  clear hS s w; rintro _ w ⟨rfl, s⟩
  replace s := ((((((((s.at_ (j := 10) rfl).at_ (j := 10) rfl).at_ (j := 10) rfl).at_ (j := 10) rfl).at_ (j := 10) rfl).at_ (j := 10) rfl).at_ (j := 10) rfl).at_ (j := 10) rfl).at_ (j := 10) rfl
  replace s : St W (.blk g2 [.slice A1 10 10] 22 :: Own 36 16 A1 10 10 (evs goodL) :: .blk g387 (evv x_23) 36 :: .blk g386 (evv x_12) 36 :: .blk g356 (evv x_33) 36 :: .blk g326 (evv x_32) 36 :: .blk g296 (evv x_31) 36 :: .blk g294 (evv x_6) 36 :: Forked 36 16 (some a3) 12 c240 (evs (((goodL ++ [x_1]) ++ [x_0]))) A250 13 c251 (evs [x_0]) :: L) w := s.keep 9 2
  refine ⟨_, rfl, and_keep ⟨s.blkIs 7 rfl, s.blkIs 6 rfl, s.blkIs 5 rfl, s.blkIs 4 rfl, s.blkIs 3 rfl, s.blkIs 2 rfl, trivial⟩ fun hS => ?_⟩; clear ha a; intro a ha
  refine hd_val (i := 30) (.bool true) ha rfl (by as_aux_lemma => kernel_rfl) (fun _ _ _ h => h) (by as_aux_lemma => kernel_rfl) (fun w hS => (by as_aux_lemma => kernel_rfl)) hS ?_
  clear ha a; intro a ha
  refine hd_val (i := 31) (.bool true) ha rfl (by as_aux_lemma => kernel_rfl) (fun _ _ _ h => h) (by as_aux_lemma => kernel_rfl) (fun w hS => (by as_aux_lemma => kernel_rfl)) hS ?_
  clear ha a; intro a ha
  refine hd_val (i := 32) (.slice (some a3) 12 c240) ha rfl (by as_aux_lemma => kernel_rfl) (fun _ _ _ h => h) (by as_aux_lemma => kernel_rfl) (fun w hS => (by as_aux_lemma => kernel_rfl)) hS ?_
  clear ha a; intro a ha
  refine hd_val (i := 33) (.slice (some a3) 12 12) ha rfl (by as_aux_lemma => kernel_rfl) (fun _ _ _ h => h) (by as_aux_lemma => kernel_rfl) (fun w hS => (run_slice0 (n := 12) (c := c240) 12 12 rfl Try.underlying22 Try.sizeOf36 (by as_aux_lemma => kernel_rfl) (fun _ => rfl) (bnd_some .i64 (by as_aux_lemma => kernel_rfl)) (bnd_some .i64 (by as_aux_lemma => kernel_rfl)) bnd_none (by omega) (by omega) _)) hS ?_
  clear ha a; intro a ha
  refine hd_val (i := 34) (.agg (evv x_23).toArray) ha rfl (by as_aux_lemma => kernel_rfl) (fun _ _ _ h => h) (by as_aux_lemma => kernel_rfl) (fun w hS => run_loadN (of_ := 0) (evv x_23) hS.2.2.2.2.2.1 rfl (by as_aux_lemma => kernel_rfl) Try.isAgg36 Try.sizeOf36 rfl (Nat.le_of_ble_eq_true rfl)) hS ?_
  clear ha a; intro a ha
  refine hd_val (i := 35) (.agg (evv x_12).toArray) ha rfl (by as_aux_lemma => kernel_rfl) (fun _ _ _ h => h) (by as_aux_lemma => kernel_rfl) (fun w hS => run_loadN (of_ := 0) (evv x_12) hS.2.2.2.2.1 rfl (by as_aux_lemma => kernel_rfl) Try.isAgg36 Try.sizeOf36 rfl (Nat.le_of_ble_eq_true rfl)) hS ?_
  clear ha a; intro a ha
  refine hd_ex (i := 36) ha rfl (by as_aux_lemma => kernel_rfl) (by as_aux_lemma => kernel_rfl) (ex_buildSlice elt22 _ zs22 (evs [x_23, x_12]) s rfl (by as_aux_lemma => kernel_rfl) (by decide)) ?_
  clear hS s w; rintro _ w ⟨g399, rfl, s⟩
  refine and_keep ⟨s.blkIs 8 rfl, s.blkIs 7 rfl, s.blkIs 6 rfl, s.blkIs 5 rfl, s.blkIs 4 rfl, s.blkIs 3 rfl, trivial⟩ fun hS => ?_; clear ha a; intro a ha
  refine Head.done (by as_aux_lemma => kernel_rfl) ?_
  clear hS; simp only [List.drop_succ_cons, List.drop_zero]
  refine st_ex ha (by kernel_rfl) (ex_append_fresh (A := (some a3)) (n := 12) (m := 2) (d' := 2) (cs := evs (((goodL ++ [x_1]) ++ [x_0]))) elt22 (by decide) (evs [x_23, x_12]) s rfl (by kernel_rfl) (by kernel_rfl) ((Knows.forkedOld (j := 9) rfl) w s.sat) (reads_blk (s.blkIs 0 rfl) rfl) (by decide) (by simp only [maxLen]; omega) (by omega)) ?_
  clear ha a s w; rintro _ w a ⟨A400, c401, rfl, s⟩ ha
  rw [show (evs [x_23, x_12]) = evs [x_23, x_12] from by kernel_rfl, ← evs_append] at s
  replace s : St W (Own 36 16 A400 14 c401 (evs (((goodL ++ [x_1]) ++ [x_0]) ++ [x_23, x_12])) :: .blk g399 (evs [x_23, x_12]) 36 :: .blk g2 [.slice A1 10 10] 22 :: Own 36 16 A1 10 10 (evs goodL) :: .blk g387 (evv x_23) 36 :: .blk g386 (evv x_12) 36 :: .blk g356 (evv x_33) 36 :: .blk g326 (evv x_32) 36 :: .blk g296 (evv x_31) 36 :: .blk g294 (evv x_6) 36 :: Forked 36 16 (some a3) 12 c240 (evs (((goodL ++ [x_1]) ++ [x_0]))) A250 13 c251 (evs [x_0]) :: L) w := s
  refine st_call ha (by kernel_rfl) (by kernel_rfl) (finds_true W hW _ w A400 c401 (((goodL ++ [x_1]) ++ [x_0]) ++ [x_23, x_12]) (Knows.own (j := 0) rfl) fx_83 (by decide) false 6 13 (lit_rule fx_82) s) ?_
  clear s w; rintro _ w ⟨rfl, s⟩
  replace s := (s.at_ (j := 3) rfl).at_ (j := 3) rfl
  replace s : St W (.blk g2 [.slice A1 10 10] 22 :: Own 36 16 A1 10 10 (evs goodL) :: L) w := s.keep 2 9
  refine ⟨_, rfl, ?_⟩; clear ha a; intro a ha
  refine st_val (.bool true) ha (by kernel_rfl) (by kernel_rfl) ?_
  clear ha a; intro a ha
  refine st_val (.bool true) ha (by kernel_rfl) (by kernel_rfl) ?_
  clear ha a; intro a ha
  refine wpList_nil ?_
  refine then_normal ?_
  refine wp_seq ?_
  refine wp_region_head 4 (fun w => BlkIs g2 [.slice A1 10 10] w ∧ True) (by kernel_rfl) (by decide) ?_
  replace s := s.drew; generalize _root_.Go.World.drew _ = w at s ⊢
  have hS : (fun w => BlkIs g2 [.slice A1 10 10] w ∧ True) w := ⟨s.blkIs 0 rfl, trivial⟩
  refine hd_val (i := 0) (.slice A1 10 10) ha rfl (by as_aux_lemma => kernel_rfl) (fun _ _ _ h => h) (by as_aux_lemma => kernel_rfl) (fun w hS => run_load1 (of_ := 0) hS.1 rfl (by as_aux_lemma => kernel_rfl) Try.isAgg22 rfl) hS ?_
  clear ha a; intro a ha
  refine hd_val (i := 3) (.agg (evv x_27).toArray) ha rfl (by as_aux_lemma => kernel_rfl) (fun _ _ _ h => h) (by as_aux_lemma => kernel_rfl) (fun w hS => (by as_aux_lemma => kernel_rfl)) hS ?_
  clear ha a; intro a ha
  refine hd_call (i := 1) ha rfl (by as_aux_lemma => kernel_rfl) (by as_aux_lemma => kernel_rfl) (by as_aux_lemma => kernel_rfl) (coms_any W _ w 2 5 s) ?_
  clear hS s w; rintro _ w ⟨rfl, s⟩
  refine ⟨_, rfl, and_keep ⟨s.blkIs 0 rfl, trivial⟩ fun hS => ?_⟩; clear ha a; intro a ha
  refine hd_call (i := 2) ha rfl (by as_aux_lemma => kernel_rfl) (by as_aux_lemma => kernel_rfl) (by as_aux_lemma => kernel_rfl) (with_any W _ w A1 10 goodL (Knows.own (j := 1) rfl) (by decide) 9 (by decide) x_10 s) ?_
  clear hS s w; rintro _ w ⟨A402, c403, rfl, s⟩
  replace s : St W (Own 36 16 A402 10 c403 (evs (goodL.set 9 x_10)) :: .blk g2 [.slice A1 10 10] 22 :: Own 36 16 A1 10 10 (evs goodL) :: L) w := s
  refine ⟨_, rfl, and_keep ⟨s.blkIs 1 rfl, trivial⟩ fun hS => ?_⟩; clear ha a; intro a ha
  refine Head.done (by as_aux_lemma => kernel_rfl) ?_
  clear hS; simp only [List.drop_succ_cons, List.drop_zero]
  refine st_call ha (by kernel_rfl) (by kernel_rfl) (with_any W _ w A402 c403 (goodL.set 9 x_10) (Knows.own (j := 0) rfl) (by decide) 7 (by decide) x_27 s) ?_
  clear s w; rintro _ w ⟨A404, c405, rfl, s⟩
  replace s : St W (Own 36 16 A404 10 c405 (evs ((goodL.set 9 x_10).set 7 x_27)) :: Own 36 16 A402 10 c403 (evs (goodL.set 9 x_10)) :: .blk g2 [.slice A1 10 10] 22 :: Own 36 16 A1 10 10 (evs goodL) :: L) w := s
  refine ⟨_, rfl, ?_⟩; clear ha a; intro a ha
  refine st_val (.slice A404 10 c405) ha (by kernel_rfl) (by kernel_rfl) ?_
  clear ha a; intro a ha
  refine wpList_nil ?_
  refine then_normal ?_
  refine wp_seq ?_
  refine wp_region_lit ?_
  refine st_val (.slice A404 10 c405) ha (by kernel_rfl) (by kernel_rfl) ?_
  clear ha a; intro a ha
  refine st_call ha (by kernel_rfl) (by kernel_rfl) (ask_any W _ w 2 1 [98] s) ?_
  clear s w; rintro _ w ⟨rfl, s⟩
  refine ⟨_, rfl, ?_⟩; clear ha a; intro a ha
  refine st_call ha (by kernel_rfl) (by kernel_rfl) (with_any W _ w A404 c405 ((goodL.set 9 x_10).set 7 x_27) (Knows.own (j := 0) rfl) (by decide) 6 (by decide) x_36 s) ?_
  clear s w; rintro _ w ⟨A406, c407, rfl, s⟩
  replace s : St W (Own 36 16 A406 10 c407 (evs (((goodL.set 9 x_10).set 7 x_27).set 6 x_36)) :: Own 36 16 A404 10 c405 (evs ((goodL.set 9 x_10).set 7 x_27)) :: Own 36 16 A402 10 c403 (evs (goodL.set 9 x_10)) :: .blk g2 [.slice A1 10 10] 22 :: Own 36 16 A1 10 10 (evs goodL) :: L) w := s
  refine ⟨_, rfl, ?_⟩; clear ha a; intro a ha
  refine st_val (.agg (evv x_37).toArray) ha (by kernel_rfl) (by kernel_rfl) ?_
  clear ha a; intro a ha
  refine st_call ha (by kernel_rfl) (by kernel_rfl) (with_any W _ w A406 c407 (((goodL.set 9 x_10).set 7 x_27).set 6 x_36) (Knows.own (j := 0) rfl) (by decide) 7 (by decide) x_37 s) ?_
  clear s w; rintro _ w ⟨A408, c409, rfl, s⟩
  replace s : St W (Own 36 16 A408 10 c409 (evs ((((goodL.set 9 x_10).set 7 x_27).set 6 x_36).set 7 x_37)) :: Own 36 16 A406 10 c407 (evs (((goodL.set 9 x_10).set 7 x_27).set 6 x_36)) :: Own 36 16 A404 10 c405 (evs ((goodL.set 9 x_10).set 7 x_27)) :: Own 36 16 A402 10 c403 (evs (goodL.set 9 x_10)) :: .blk g2 [.slice A1 10 10] 22 :: Own 36 16 A1 10 10 (evs goodL) :: L) w := s
  refine ⟨_, rfl, ?_⟩; clear ha a; intro a ha
  refine st_val (.slice A408 10 c409) ha (by kernel_rfl) (by kernel_rfl) ?_
  clear ha a; intro a ha
  refine wpList_nil ?_
  refine then_normal ?_
  refine wp_seq ?_
  refine wp_region_head 19 (fun w => BlkIs g2 [.slice A1 10 10] w ∧ True) (by kernel_rfl) (by decide) ?_
  replace s := s.drew; generalize _root_.Go.World.drew _ = w at s ⊢
  have hS : (fun w => BlkIs g2 [.slice A1 10 10] w ∧ True) w := ⟨s.blkIs 4 rfl, trivial⟩
  refine hd_val (i := 0) (.slice A404 10 c405) ha rfl (by as_aux_lemma => kernel_rfl) (fun _ _ _ h => h) (by as_aux_lemma => kernel_rfl) (fun w hS => (by as_aux_lemma => kernel_rfl)) hS ?_
  clear ha a; intro a ha
  refine hd_call (i := 1) ha rfl (by as_aux_lemma => kernel_rfl) (by as_aux_lemma => kernel_rfl) (by as_aux_lemma => kernel_rfl) (finds_true W hW _ w A404 c405 ((goodL.set 9 x_10).set 7 x_27) (Knows.own (j := 2) rfl) fx_88 (by decide) true 8 5 (lit_well [1, 0] fx_84 fx_85 fx_86 fx_87) s) ?_
  clear hS s w; rintro _ w ⟨rfl, s⟩
  replace s := (((s.at_ (j := 5) rfl).at_ (j := 5) rfl).at_ (j := 4) rfl).at_ (j := 3) rfl
  replace s : St W (Own 36 16 A408 10 c409 (evs ((((goodL.set 9 x_10).set 7 x_27).set 6 x_36).set 7 x_37)) :: Own 36 16 A404 10 c405 (evs ((goodL.set 9 x_10).set 7 x_27)) :: .blk g2 [.slice A1 10 10] 22 :: Own 36 16 A1 10 10 (evs goodL) :: L) w := s.keep 4 2
  refine ⟨_, rfl, and_keep ⟨s.blkIs 2 rfl, trivial⟩ fun hS => ?_⟩; clear ha a; intro a ha
  refine hd_val (i := 2) (.bool true) ha rfl (by as_aux_lemma => kernel_rfl) (fun _ _ _ h => h) (by as_aux_lemma => kernel_rfl) (fun w hS => (by as_aux_lemma => kernel_rfl)) hS ?_
  clear ha a; intro a ha
  refine hd_val (i := 3) (.slice A404 10 c405) ha rfl (by as_aux_lemma => kernel_rfl) (fun _ _ _ h => h) (by as_aux_lemma => kernel_rfl) (fun w hS => (by as_aux_lemma => kernel_rfl)) hS ?_
  clear ha a; intro a ha
  refine hd_call (i := 4) ha rfl (by as_aux_lemma => kernel_rfl) (by as_aux_lemma => kernel_rfl) (by as_aux_lemma => kernel_rfl) (finds_true W hW _ w A404 c405 ((goodL.set 9 x_10).set 7 x_27) (Knows.own (j := 1) rfl) fx_88 (by decide) false 0 0 (lit_not fx_85) s) ?_
  clear hS s w; rintro _ w ⟨rfl, s⟩
  replace s := ((s.at_ (j := 3) rfl).at_ (j := 3) rfl).at_ (j := 2) rfl
  replace s : St W (Own 36 16 A408 10 c409 (evs ((((goodL.set 9 x_10).set 7 x_27).set 6 x_36).set 7 x_37)) :: .blk g2 [.slice A1 10 10] 22 :: Own 36 16 A1 10 10 (evs goodL) :: L) w := s.keep 3 1
  refine ⟨_, rfl, and_keep ⟨s.blkIs 1 rfl, trivial⟩ fun hS => ?_⟩; clear ha a; intro a ha
  refine hd_val (i := 5) (.bool true) ha rfl (by as_aux_lemma => kernel_rfl) (fun _ _ _ h => h) (by as_aux_lemma => kernel_rfl) (fun w hS => (by as_aux_lemma => kernel_rfl)) hS ?_
  clear ha a; intro a ha
  refine hd_val (i := 6) (.bool true) ha rfl (by as_aux_lemma => kernel_rfl) (fun _ _ _ h => h) (by as_aux_lemma => kernel_rfl) (fun w hS => (by as_aux_lemma => kernel_rfl)) hS ?_
  clear ha a; intro a ha
  refine hd_val (i := 7) (.slice A408 10 c409) ha rfl (by as_aux_lemma => kernel_rfl) (fun _ _ _ h => h) (by as_aux_lemma => kernel_rfl) (fun w hS => (by as_aux_lemma => kernel_rfl)) hS ?_
  clear ha a; intro a ha
  refine hd_call (i := 8) ha rfl (by as_aux_lemma => kernel_rfl) (by as_aux_lemma => kernel_rfl) (by as_aux_lemma => kernel_rfl) (finds_true W hW _ w A408 c409 ((((goodL.set 9 x_10).set 7 x_27).set 6 x_36).set 7 x_37) (Knows.own (j := 0) rfl) fx_93 (by decide) true 0 0 (lit_well [1, 0] fx_89 fx_90 fx_91 fx_92) s) ?_
  clear hS s w; rintro _ w ⟨rfl, s⟩
  replace s := (s.at_ (j := 2) rfl).at_ (j := 2) rfl
  replace s : St W (.blk g2 [.slice A1 10 10] 22 :: Own 36 16 A1 10 10 (evs goodL) :: L) w := s.keep 2 1
  refine ⟨_, rfl, and_keep ⟨s.blkIs 0 rfl, trivial⟩ fun hS => ?_⟩; clear ha a; intro a ha
  refine hd_val (i := 9) (.bool true) ha rfl (by as_aux_lemma => kernel_rfl) (fun _ _ _ h => h) (by as_aux_lemma => kernel_rfl) (fun w hS => (by as_aux_lemma => kernel_rfl)) hS ?_
  clear ha a; intro a ha
  refine hd_val (i := 10) (.bool true) ha rfl (by as_aux_lemma => kernel_rfl) (fun _ _ _ h => h) (by as_aux_lemma => kernel_rfl) (fun w hS => (by as_aux_lemma => kernel_rfl)) hS ?_
  clear ha a; intro a ha
  refine hd_val (i := 11) (.slice A1 10 10) ha rfl (by as_aux_lemma => kernel_rfl) (fun _ _ _ h => h) (by as_aux_lemma => kernel_rfl) (fun w hS => run_load1 (of_ := 0) hS.1 rfl (by as_aux_lemma => kernel_rfl) Try.isAgg22 rfl) hS ?_
  clear ha a; intro a ha
  refine hd_call (i := 12) ha rfl (by as_aux_lemma => kernel_rfl) (by as_aux_lemma => kernel_rfl) (by as_aux_lemma => kernel_rfl) (coms_any W _ w 2 5 s) ?_
  clear hS s w; rintro _ w ⟨rfl, s⟩
  refine ⟨_, rfl, and_keep ⟨s.blkIs 0 rfl, trivial⟩ fun hS => ?_⟩; clear ha a; intro a ha
  refine hd_call (i := 13) ha rfl (by as_aux_lemma => kernel_rfl) (by as_aux_lemma => kernel_rfl) (by as_aux_lemma => kernel_rfl) (with_any W _ w A1 10 goodL (Knows.own (j := 1) rfl) (by decide) 9 (by decide) x_10 s) ?_
  clear hS s w; rintro _ w ⟨A410, c411, rfl, s⟩
  replace s : St W (Own 36 16 A410 10 c411 (evs (goodL.set 9 x_10)) :: .blk g2 [.slice A1 10 10] 22 :: Own 36 16 A1 10 10 (evs goodL) :: L) w := s
  refine ⟨_, rfl, and_keep ⟨s.blkIs 1 rfl, trivial⟩ fun hS => ?_⟩; clear ha a; intro a ha
  refine hd_call (i := 14) ha rfl (by as_aux_lemma => kernel_rfl) (by as_aux_lemma => kernel_rfl) (by as_aux_lemma => kernel_rfl) (finds_true W hW _ w A410 c411 (goodL.set 9 x_10) (Knows.own (j := 0) rfl) fx_98 (by decide) true 7 7 (lit_well [1, 0] fx_94 fx_95 fx_96 fx_97) s) ?_
  clear hS s w; rintro _ w ⟨rfl, s⟩
  replace s := (s.at_ (j := 2) rfl).at_ (j := 2) rfl
  replace s : St W (.blk g2 [.slice A1 10 10] 22 :: Own 36 16 A1 10 10 (evs goodL) :: L) w := s.keep 2 1
  refine ⟨_, rfl, and_keep ⟨s.blkIs 0 rfl, trivial⟩ fun hS => ?_⟩; clear ha a; intro a ha
  refine hd_val (i := 15) (.bool true) ha rfl (by as_aux_lemma => kernel_rfl) (fun _ _ _ h => h) (by as_aux_lemma => kernel_rfl) (fun w hS => (by as_aux_lemma => kernel_rfl)) hS ?_
  clear ha a; intro a ha
  refine hd_val (i := 16) (.bool true) ha rfl (by as_aux_lemma => kernel_rfl) (fun _ _ _ h => h) (by as_aux_lemma => kernel_rfl) (fun w hS => (by as_aux_lemma => kernel_rfl)) hS ?_
  clear ha a; intro a ha
  refine hd_val (i := 17) (.slice A1 10 10) ha rfl (by as_aux_lemma => kernel_rfl) (fun _ _ _ h => h) (by as_aux_lemma => kernel_rfl) (fun w hS => run_load1 (of_ := 0) hS.1 rfl (by as_aux_lemma => kernel_rfl) Try.isAgg22 rfl) hS ?_
  clear ha a; intro a ha
  refine hd_call (i := 18) ha rfl (by as_aux_lemma => kernel_rfl) (by as_aux_lemma => kernel_rfl) (by as_aux_lemma => kernel_rfl) (coms_any W _ w 2 10 s) ?_
  clear hS s w; rintro _ w ⟨rfl, s⟩
  refine ⟨_, rfl, and_keep ⟨s.blkIs 0 rfl, trivial⟩ fun hS => ?_⟩; clear ha a; intro a ha
  refine Head.done (by as_aux_lemma => kernel_rfl) ?_
  clear hS; simp only [List.drop_succ_cons, List.drop_zero]
  refine st_call ha (by kernel_rfl) (by kernel_rfl) (with_any W _ w A1 10 goodL (Knows.own (j := 1) rfl) (by decide) 9 (by decide) x_38 s) ?_
  clear s w; rintro _ w ⟨A412, c413, rfl, s⟩
  replace s : St W (Own 36 16 A412 10 c413 (evs (goodL.set 9 x_38)) :: .blk g2 [.slice A1 10 10] 22 :: Own 36 16 A1 10 10 (evs goodL) :: L) w := s
  refine ⟨_, rfl, ?_⟩; clear ha a; intro a ha
  refine st_call ha (by kernel_rfl) (by kernel_rfl) (finds_true W hW _ w A412 c413 (goodL.set 9 x_38) (Knows.own (j := 0) rfl) fx_103 (by decide) true 0 0 (lit_well [0, 1] fx_99 fx_100 fx_101 fx_102) s) ?_
  clear s w; rintro _ w ⟨rfl, s⟩
  refine ⟨_, rfl, ?_⟩; clear ha a; intro a ha
  refine st_val (.bool true) ha (by kernel_rfl) (by kernel_rfl) ?_
  clear ha a; intro a ha
  refine st_val (.bool true) ha (by kernel_rfl) (by kernel_rfl) ?_
  clear ha a; intro a ha
  refine wpList_nil ?_
  refine then_normal ?_
  refine wp_seq ?_
  refine wp_region_lit ?_
  refine st_ex ha (by kernel_rfl) (ex_makeSlice (n := 5001) (c := 5001) (kx := .i64) (ky := .i64) elt22 (evv x_9).toArray (by kernel_rfl) s rfl rfl rfl (by omega) (by omega) (by omega) (by first | decide | simp [roomBytes])) ?_
  clear ha a s w; rintro _ w a ⟨g414, rfl, s⟩ ha
  replace s := s.tail
  replace s : St W (Own 36 16 A412 10 c413 (evs (goodL.set 9 x_38)) :: .blk g2 [.slice A1 10 10] 22 :: Own 36 16 A1 10 10 (evs goodL) :: L) w := s
  replace s : St W (Own 36 16 A412 10 c413 (evs (goodL.set 9 x_38)) :: .blk g2 [.slice A1 10 10] 22 :: Own 36 16 A1 10 10 (evs goodL) :: L) w := s
  refine st_call ha (by kernel_rfl) (by kernel_rfl) (find_limit W _ w (some ⟨g414, 0, none⟩) 5001 5001 (by decide) false s) ?_
  clear s w; rintro _ w ⟨rfl, s⟩
  refine ⟨_, rfl, ?_⟩; clear ha a; intro a ha
  refine st_val (.tuple #[.int .i64 0, .int .i64 0, .int .i64 5]) ha (by kernel_rfl) (by kernel_rfl) ?_
  clear ha a; intro a ha
  refine st_val (.int .i64 0) ha (by kernel_rfl) (by kernel_rfl) ?_
  clear ha a; intro a ha
  refine st_val (.int .i64 0) ha (by kernel_rfl) (by kernel_rfl) ?_
  clear ha a; intro a ha
  refine st_val (.int .i64 5) ha (by kernel_rfl) (by kernel_rfl) ?_
  clear ha a; intro a ha
  refine st_val (.int .i64 0) ha (by kernel_rfl) (by kernel_rfl) ?_
  clear ha a; intro a ha
  refine st_val (.int .i64 0) ha (by kernel_rfl) (by kernel_rfl) ?_
  clear ha a; intro a ha
  refine st_val (.int .i64 5) ha (by kernel_rfl) (by kernel_rfl) ?_
  clear ha a; intro a ha
  refine wpList_nil ?_
  refine then_normal ?_
  refine wp_seq ?_
  refine wp_region_lit ?_
  refine st_val (.bool true) ha (by kernel_rfl) (by kernel_rfl) ?_
  clear ha a; intro a ha
  refine st_call ha (by kernel_rfl) (by kernel_rfl) (works_true W hW _ w s) ?_
  clear s w; rintro _ w ⟨rfl, s⟩
  refine ⟨_, rfl, ?_⟩; clear ha a; intro a ha
  refine st_val (.bool true) ha (by kernel_rfl) (by kernel_rfl) ?_
  clear ha a; intro a ha
  refine st_val (.bool true) ha (by kernel_rfl) (by kernel_rfl) ?_
  clear ha a; intro a ha
  refine st_val (.bool true) ha (by kernel_rfl) (by kernel_rfl) ?_
  clear ha a; intro a ha
  refine st_val (.bool true) ha (by kernel_rfl) (by kernel_rfl) ?_
  clear ha a; intro a ha
  refine st_val (.bool true) ha (by kernel_rfl) (by kernel_rfl) ?_
  clear ha a; intro a ha
  refine st_val (.bool true) ha (by kernel_rfl) (by kernel_rfl) ?_
  clear ha a; intro a ha
  refine st_val (.bool true) ha (by kernel_rfl) (by kernel_rfl) ?_
  clear ha a; intro a ha
  refine st_val (.bool true) ha (by kernel_rfl) (by kernel_rfl) ?_
  clear ha a; intro a ha
  refine st_val (.bool true) ha (by kernel_rfl) (by kernel_rfl) ?_
  clear ha a; intro a ha
  refine st_val (.bool true) ha (by kernel_rfl) (by kernel_rfl) ?_
  clear ha a; intro a ha
  refine st_val (.bool true) ha (by kernel_rfl) (by kernel_rfl) ?_
  clear ha a; intro a ha
  refine st_val (.bool true) ha (by kernel_rfl) (by kernel_rfl) ?_
  clear ha a; intro a ha
  refine st_val (.bool true) ha (by kernel_rfl) (by kernel_rfl) ?_
  clear ha a; intro a ha
  refine st_val (.bool true) ha (by kernel_rfl) (by kernel_rfl) ?_
  clear ha a; intro a ha
  refine st_val (.bool true) ha (by kernel_rfl) (by kernel_rfl) ?_
  clear ha a; intro a ha
  refine st_val (.bool true) ha (by kernel_rfl) (by kernel_rfl) ?_
  clear ha a; intro a ha
  refine st_val (.bool true) ha (by kernel_rfl) (by kernel_rfl) ?_
  clear ha a; intro a ha
  refine st_val (.bool true) ha (by kernel_rfl) (by kernel_rfl) ?_
  clear ha a; intro a ha
  refine st_val (.bool true) ha (by kernel_rfl) (by kernel_rfl) ?_
  clear ha a; intro a ha
  refine st_val (.bool true) ha (by kernel_rfl) (by kernel_rfl) ?_
  clear ha a; intro a ha
  refine st_val (.int .i64 5) ha (by kernel_rfl) (by kernel_rfl) ?_
  clear ha a; intro a ha
  refine st_val (.bool true) ha (by kernel_rfl) (by kernel_rfl) ?_
  clear ha a; intro a ha
  refine st_val (.bool true) ha (by kernel_rfl) (by kernel_rfl) ?_
  clear ha a; intro a ha
  refine st_val (.bool true) ha (by kernel_rfl) (by kernel_rfl) ?_
  clear ha a; intro a ha
  refine st_call ha (by kernel_rfl) (by kernel_rfl) (finds_true W hW _ w none 0 ([] : List Ev) (fun w s => ⟨rfl, by simp, by simp⟩) fx_108 (by decide) true 0 0 (lit_well [] fx_104 fx_105 fx_106 fx_107) s) ?_
  clear s w; rintro _ w ⟨rfl, s⟩
  refine ⟨_, rfl, ?_⟩; clear ha a; intro a ha
  refine st_val (.bool true) ha (by kernel_rfl) (by kernel_rfl) ?_
  clear ha a; intro a ha
  refine st_val (.bool true) ha (by kernel_rfl) (by kernel_rfl) ?_
  clear ha a; intro a ha
  refine wpList_nil ?_
  refine then_normal ?_
  refine wp_ret ?_
  refine ret_with (v := .bool true) ha (results_1 rfl ha (res_tmp (by kernel_rfl) (by kernel_rfl))) ?_
  replace s := s.tail.tail.tail
  replace s : St W (L) w := s
  exact ⟨rfl, s⟩

end Go.Proofs.Ytfcbjcohepkkfaa.B
