import Derived.Test.YtpjclkfeobhpaaaK2
import Derived.Calls
import Derived.Carry
import Derived.ChangeShapes
import Derived.KernelRfl
import Derived.OpenShut
set_option linter.unusedVariables false
namespace Go.Am.T
def am6 : AFunc := { nargs := 0, nt := 178, sites := 3, mode := .pure, body := .seq (.seq (.region [⟨some 0, .move (.cst (.bool false)), none⟩]) (.clr [0])) (.seq (.seq (.region [⟨some 26, .call 8 [.cst (.int .i64 16)], none⟩, ⟨some 25, .move (.tmp 26), none⟩, ⟨some 27, .extract (.tmp 25) 0, none⟩, ⟨some 28, .extract (.tmp 25) 1, none⟩, ⟨some 1, .move (.tmp 27), none⟩, ⟨some 2, .move (.tmp 28), none⟩]) (.clr [28, 27, 26, 25])) (.seq (.seq (.region [⟨some 29, .build [.int .i64 0, .int .i64 0] [(0, 1, .cst (.int .i64 7)), (1, 1, .cst (.int .i64 2147483647))], none⟩, ⟨some 3, .allocz 0 [.int .i64 0, .int .i64 0], none⟩, ⟨none, .store 2 (.tmp 3) (.tmp 29), none⟩]) (.clr [29])) (.seq (.seq (.region [⟨some 4, .move (.cst (.int .i64 0)), none⟩]) (.block 0 (.loop [] [] (.seq (.seq (.seq (.region [⟨some 30, .move (.tmp 4), none⟩, ⟨some 31, .bin .lss (.tmp 30) (.cst (.int .i64 4096)), none⟩]) (.clr [30])) (.cond (.tmp 31) (.seq (.clr [31]) .skip) (.seq (.clr [31, 4]) (.exit 0)))) (.seq (.block 1 (.seq (.seq (.region [⟨some 35, .move (.tmp 1), none⟩, ⟨some 36, .load (some 2) (.tmp 3), none⟩, ⟨some 37, .move (.tmp 4), none⟩, ⟨some 38, .cint .u8 (.tmp 37), none⟩, ⟨some 39, .call 20 [.tmp 38], none⟩, ⟨some 40, .call 11 [.tmp 35, .tmp 36, .cst (.int .i64 15), .tmp 39], none⟩, ⟨some 34, .move (.tmp 40), none⟩, ⟨some 41, .extract (.tmp 34) 0, none⟩, ⟨some 42, .extract (.tmp 34) 1, none⟩, ⟨some 5, .move (.tmp 41), none⟩, ⟨some 6, .move (.tmp 42), none⟩]) (.clr [42, 41, 40, 39, 38, 37, 36, 35, 34])) (.seq (.seq (.region [⟨some 43, .move (.tmp 5), none⟩, ⟨some 44, .move (.tmp 4), none⟩, ⟨some 45, .bin .add (.tmp 44) (.cst (.int .i64 1)), none⟩, ⟨some 46, .bin .neq (.tmp 43) (.tmp 45), none⟩, ⟨some 47, .move (.tmp 46), none⟩, ⟨some 48, .move (.tmp 6), some (47, false)⟩, ⟨some 49, .call 9 [.tmp 48], some (47, false)⟩, ⟨some 50, .bin .neq (.tmp 49) (.cst (.int .i64 0)), some (47, false)⟩, ⟨some 51, .pick (.tmp 47) (.cst (.bool true)) (.tmp 50), none⟩]) (.clr [50, 49, 48, 47, 46, 45, 44, 43, 6, 5])) (.cond (.tmp 51) (.seq (.clr [51, 4, 3, 2, 1]) (.seq (.region [⟨some 0, .move (.cst (.bool false)), none⟩]) .ret)) (.seq (.clr [51]) .skip))))) (.seq (.region [⟨some 32, .move (.tmp 4), none⟩, ⟨some 33, .bin .add (.tmp 32) (.cst (.int .i64 1)), none⟩, ⟨some 4, .move (.tmp 33), none⟩]) (.clr [33, 32]))))))) (.seq (.seq (.region [⟨some 53, .move (.tmp 1), none⟩, ⟨some 54, .load (some 2) (.tmp 3), none⟩, ⟨some 55, .call 20 [.cst (.int .u8 0)], none⟩, ⟨some 56, .call 11 [.tmp 53, .tmp 54, .cst (.int .i64 15), .tmp 55], none⟩, ⟨some 52, .move (.tmp 56), none⟩, ⟨some 57, .extract (.tmp 52) 0, none⟩, ⟨some 58, .extract (.tmp 52) 1, none⟩, ⟨some 7, .move (.tmp 57), none⟩, ⟨some 8, .move (.tmp 58), none⟩]) (.clr [58, 57, 56, 55, 54, 53, 52, 7])) (.seq (.seq (.region [⟨some 60, .move (.tmp 1), none⟩, ⟨some 61, .build [.int .i64 0, .int .i64 0] [(0, 1, .cst (.int .i64 8)), (1, 1, .cst (.int .i64 1))], none⟩, ⟨some 62, .call 20 [.cst (.int .u8 0)], none⟩, ⟨some 63, .call 11 [.tmp 60, .tmp 61, .cst (.int .i64 0), .tmp 62], none⟩, ⟨some 59, .move (.tmp 63), none⟩, ⟨some 64, .extract (.tmp 59) 0, none⟩, ⟨some 65, .extract (.tmp 59) 1, none⟩, ⟨some 9, .move (.tmp 64), none⟩, ⟨some 10, .move (.tmp 65), none⟩]) (.clr [65, 64, 63, 62, 61, 60, 59, 9])) (.seq (.seq (.region [⟨some 67, .move (.tmp 1), none⟩, ⟨some 68, .build [.int .i64 0, .int .i64 0] [(0, 1, .cst (.int .i64 0)), (1, 1, .cst (.int .i64 0))], none⟩, ⟨some 69, .call 20 [.cst (.int .u8 0)], none⟩, ⟨some 70, .call 11 [.tmp 67, .tmp 68, .cst (.int .i64 0), .tmp 69], none⟩, ⟨some 66, .move (.tmp 70), none⟩, ⟨some 71, .extract (.tmp 66) 0, none⟩, ⟨some 72, .extract (.tmp 66) 1, none⟩, ⟨some 11, .move (.tmp 71), none⟩, ⟨some 12, .move (.tmp 72), none⟩]) (.clr [72, 71, 70, 69, 68, 67, 66, 11])) (.seq (.seq (.region [⟨some 74, .move (.tmp 1), none⟩, ⟨some 75, .build [.int .i64 0, .int .i64 0] [(0, 1, .cst (.int .i64 0)), (1, 1, .cst (.int .i64 2147483648))], none⟩, ⟨some 76, .call 20 [.cst (.int .u8 0)], none⟩, ⟨some 77, .call 11 [.tmp 74, .tmp 75, .cst (.int .i64 0), .tmp 76], none⟩, ⟨some 73, .move (.tmp 77), none⟩, ⟨some 78, .extract (.tmp 73) 0, none⟩, ⟨some 79, .extract (.tmp 73) 1, none⟩, ⟨some 13, .move (.tmp 78), none⟩, ⟨some 14, .move (.tmp 79), none⟩]) (.clr [79, 78, 77, 76, 75, 74, 73, 13])) (.seq (.seq (.region [⟨some 81, .call 8 [.cst (.int .i64 17)], none⟩, ⟨some 80, .move (.tmp 81), none⟩, ⟨some 82, .extract (.tmp 80) 0, none⟩, ⟨some 83, .extract (.tmp 80) 1, none⟩, ⟨some 15, .move (.tmp 82), none⟩, ⟨some 16, .move (.tmp 83), none⟩]) (.clr [83, 82, 81, 80, 15])) (.seq (.seq (.region [⟨some 85, .call 8 [.cst (.int .i64 2)], none⟩, ⟨some 84, .move (.tmp 85), none⟩, ⟨some 86, .extract (.tmp 84) 0, none⟩, ⟨some 87, .extract (.tmp 84) 1, none⟩, ⟨some 17, .move (.tmp 86), none⟩, ⟨some 18, .move (.tmp 87), none⟩]) (.clr [87, 86, 85, 84, 18])) (.seq (.seq (.region [⟨some 89, .call 8 [.cst (.int .i64 2)], none⟩, ⟨some 88, .move (.tmp 89), none⟩, ⟨some 90, .extract (.tmp 88) 0, none⟩, ⟨some 91, .extract (.tmp 88) 1, none⟩, ⟨some 19, .move (.tmp 90), none⟩, ⟨some 20, .move (.tmp 91), none⟩]) (.clr [91, 90, 89, 88, 20])) (.seq (.seq (.region [⟨some 92, .move (.tmp 17), none⟩, ⟨some 93, .load (some 2) (.tmp 3), none⟩, ⟨some 94, .call 20 [.cst (.int .u8 1)], none⟩, ⟨some 95, .call 11 [.tmp 92, .tmp 93, .cst (.int .i64 0), .tmp 94], none⟩]) (.clr [95, 94, 93, 92])) (.seq (.seq (.region [⟨some 96, .move (.tmp 17), none⟩, ⟨some 97, .load (some 2) (.tmp 3), none⟩, ⟨some 98, .call 20 [.cst (.int .u8 2)], none⟩, ⟨some 99, .call 11 [.tmp 96, .tmp 97, .cst (.int .i64 1), .tmp 98], none⟩]) (.clr [99, 98, 97, 96])) (.seq (.seq (.region [⟨some 100, .move (.tmp 19), none⟩, ⟨some 101, .load (some 2) (.tmp 3), none⟩, ⟨some 102, .call 20 [.cst (.int .u8 2)], none⟩, ⟨some 103, .call 11 [.tmp 100, .tmp 101, .cst (.int .i64 1), .tmp 102], none⟩]) (.clr [103, 102, 101, 100])) (.seq (.seq (.region [⟨some 104, .move (.tmp 19), none⟩, ⟨some 105, .load (some 2) (.tmp 3), none⟩, ⟨some 106, .call 20 [.cst (.int .u8 1)], none⟩, ⟨some 107, .call 11 [.tmp 104, .tmp 105, .cst (.int .i64 0), .tmp 106], none⟩]) (.clr [107, 106, 105, 104])) (.seq (.seq (.seq (.region [⟨some 108, .move (.tmp 17), none⟩, ⟨some 109, .move (.tmp 19), none⟩, ⟨some 110, .call 17 [.tmp 108, .tmp 109], none⟩]) (.clr [109, 108, 19, 17])) (.cond (.tmp 110) (.seq (.clr [110, 16, 14, 12, 10, 8, 3, 2, 1]) (.seq (.region [⟨some 0, .move (.cst (.bool false)), none⟩]) .ret)) (.seq (.clr [110]) .skip))) (.seq (.seq (.region [⟨some 112, .move (.tmp 1), none⟩, ⟨some 113, .load (some 2) (.tmp 3), none⟩, ⟨some 114, .call 13 [.tmp 112, .tmp 113, .cst (.int .i64 4095)], none⟩, ⟨some 111, .move (.tmp 114), none⟩, ⟨some 115, .extract (.tmp 111) 0, none⟩, ⟨some 116, .extract (.tmp 111) 1, none⟩, ⟨some 21, .move (.tmp 115), none⟩, ⟨some 22, .move (.tmp 116), none⟩]) (.clr [116, 115, 114, 113, 112, 111, 3])) (.seq (.seq (.region [⟨some 118, .move (.tmp 1), none⟩, ⟨some 119, .call 21 [.tmp 118, .cst (.int .i64 15)], none⟩, ⟨some 117, .move (.tmp 119), none⟩, ⟨some 120, .extract (.tmp 117) 0, none⟩, ⟨some 121, .extract (.tmp 117) 1, none⟩, ⟨some 23, .allocz 1 [.int .i64 0, .int .u8 0, .int .u8 0, .int .u8 0, .int .u8 0, .int .u8 0, .int .u8 0, .int .u8 0, .int .u8 0, .int .u8 0, .int .u8 0, .int .u8 0, .int .u8 0, .int .u8 0, .int .u8 0, .int .u8 0, .int .u8 0, .int .u8 0, .int .u8 0, .int .u8 0, .int .u8 0, .int .u8 0, .int .u8 0, .int .u8 0, .int .u8 0, .int .u8 0, .int .u8 0, .int .u8 0, .int .u8 0, .int .u8 0, .int .u8 0, .int .u8 0, .int .u8 0, .int .u8 0, .int .u8 0, .int .u8 0, .int .u8 0, .int .u8 0, .int .u8 0, .int .u8 0, .int .u8 0, .int .u8 0, .int .u8 0, .int .u8 0, .int .u8 0, .int .u8 0, .int .u8 0, .int .u8 0, .int .u8 0, .int .u8 0, .int .u8 0, .int .u8 0, .int .u8 0, .int .u8 0, .int .u8 0, .int .u8 0, .int .u8 0, .int .u8 0, .int .u8 0, .int .u8 0, .int .u8 0, .int .u8 0, .int .u8 0, .int .u8 0, .int .u8 0, .int .u8 0, .int .u8 0, .int .u8 0, .int .u8 0, .int .u8 0, .int .u8 0, .int .u8 0, .int .u8 0, .int .u8 0, .int .u8 0, .int .u8 0, .int .u8 0, .int .u8 0, .int .u8 0, .int .u8 0, .int .u8 0, .int .u8 0, .int .u8 0, .int .u8 0, .int .u8 0, .int .u8 0, .int .u8 0, .int .u8 0, .int .u8 0, .int .u8 0, .int .u8 0, .int .u8 0, .int .u8 0, .int .u8 0, .int .u8 0, .int .u8 0, .int .u8 0], none⟩, ⟨none, .store 97 (.tmp 23) (.tmp 120), none⟩, ⟨some 24, .move (.tmp 121), none⟩]) (.clr [121, 120, 119, 118, 117, 24])) (.seq (.seq (.region [⟨some 122, .move (.tmp 2), none⟩, ⟨some 123, .call 9 [.tmp 122], none⟩, ⟨some 124, .move (.tmp 22), none⟩, ⟨some 125, .call 9 [.tmp 124], none⟩, ⟨some 126, .bin .add (.tmp 123) (.tmp 125), none⟩, ⟨some 127, .bin .eql (.tmp 126) (.cst (.int .i64 0)), none⟩, ⟨some 128, .move (.tmp 127), none⟩, ⟨some 129, .move (.tmp 8), some (128, true)⟩, ⟨some 130, .call 9 [.tmp 129], some (128, true)⟩, ⟨some 131, .bin .eql (.tmp 130) (.cst (.int .i64 5)), some (128, true)⟩, ⟨some 132, .pick (.tmp 128) (.tmp 131) (.cst (.bool false)), none⟩, ⟨some 133, .move (.tmp 132), none⟩, ⟨some 134, .move (.tmp 10), some (133, true)⟩, ⟨some 135, .call 9 [.tmp 134], some (133, true)⟩, ⟨some 136, .bin .eql (.tmp 135) (.cst (.int .i64 2)), some (133, true)⟩, ⟨some 137, .pick (.tmp 133) (.tmp 136) (.cst (.bool false)), none⟩, ⟨some 138, .move (.tmp 137), none⟩, ⟨some 139, .move (.tmp 12), some (138, true)⟩, ⟨some 140, .call 9 [.tmp 139], some (138, true)⟩, ⟨some 141, .bin .eql (.tmp 140) (.cst (.int .i64 2)), some (138, true)⟩, ⟨some 142, .pick (.tmp 138) (.tmp 141) (.cst (.bool false)), none⟩, ⟨some 143, .move (.tmp 142), none⟩, ⟨some 144, .move (.tmp 14), some (143, true)⟩, ⟨some 145, .call 9 [.tmp 144], some (143, true)⟩, ⟨some 146, .bin .eql (.tmp 145) (.cst (.int .i64 2)), some (143, true)⟩, ⟨some 147, .pick (.tmp 143) (.tmp 146) (.cst (.bool false)), none⟩, ⟨some 148, .move (.tmp 147), none⟩, ⟨some 149, .move (.tmp 16), some (148, true)⟩, ⟨some 150, .call 9 [.tmp 149], some (148, true)⟩, ⟨some 151, .bin .eql (.tmp 150) (.cst (.int .i64 2)), some (148, true)⟩, ⟨some 152, .pick (.tmp 148) (.tmp 151) (.cst (.bool false)), none⟩, ⟨some 153, .move (.tmp 152), none⟩, ⟨some 154, .move (.tmp 21), some (153, true)⟩, ⟨some 155, .bin .eql (.tmp 154) (.cst (.int .i64 1)), some (153, true)⟩, ⟨some 156, .pick (.tmp 153) (.tmp 155) (.cst (.bool false)), none⟩, ⟨some 157, .move (.tmp 156), none⟩, ⟨some 158, .faddr 0 (.tmp 23), some (157, true)⟩, ⟨some 159, .load none (.tmp 158), some (157, true)⟩, ⟨some 160, .bin .eql (.tmp 159) (.cst (.int .i64 4095)), some (157, true)⟩, ⟨some 161, .pick (.tmp 157) (.tmp 160) (.cst (.bool false)), none⟩, ⟨some 162, .move (.tmp 161), none⟩, ⟨some 163, .call 22 [.cst .nilp], some (162, true)⟩, ⟨some 164, .pick (.tmp 162) (.tmp 163) (.cst (.bool false)), none⟩, ⟨some 165, .move (.tmp 164), none⟩, ⟨some 166, .build [.nils, .nils, .nils, .nils, .nils, .nils, .nils, .nils, .nils, .nils, .nils, .nils, .nils, .nils, .nils, .nils, .int .i64 0, .nilm] [], some (165, true)⟩, ⟨some 167, .box 2 (.tmp 166), some (165, true)⟩, ⟨some 168, .call 22 [.tmp 167], some (165, true)⟩, ⟨some 169, .pick (.tmp 165) (.tmp 168) (.cst (.bool false)), none⟩, ⟨some 170, .move (.tmp 169), none⟩, ⟨some 171, .move (.tmp 1), some (170, true)⟩, ⟨some 172, .call 17 [.tmp 171, .cst .nilp], some (170, true)⟩, ⟨some 173, .un .not (.tmp 172), some (170, true)⟩, ⟨some 174, .pick (.tmp 170) (.tmp 173) (.cst (.bool false)), none⟩, ⟨some 175, .move (.tmp 174), none⟩, ⟨some 176, .call 7 [], some (175, true)⟩, ⟨some 177, .pick (.tmp 175) (.tmp 176) (.cst (.bool false)), none⟩, ⟨some 0, .move (.tmp 177), none⟩]) (.clr [177, 176, 175, 174, 173, 172, 171, 170, 169, 168, 167, 166, 165, 164, 163, 162, 161, 160, 159, 158, 157, 156, 155, 154, 153, 152, 151, 150, 149, 148, 147, 146, 145, 144, 143, 142, 141, 140, 139, 138, 137, 136, 135, 134, 133, 132, 131, 130, 129, 128, 127, 126, 125, 124, 123, 122, 23, 22, 21, 16, 14, 12, 10, 8, 2, 1])) .ret)))))))))))))))))), res := [.tmp 0] }
def am7 : AFunc := { nargs := 0, nt := 242, sites := 8, mode := .pure, body := .seq (.seq (.region [⟨some 0, .move (.cst (.bool false)), none⟩]) (.clr [0])) (.seq (.seq (.region [⟨some 39, .build [.int .i64 0, .int .i64 0] [(0, 1, .cst (.int .i64 0)), (1, 1, .cst (.int .i64 1))], none⟩, ⟨some 40, .build [.int .i64 0, .int .i64 0] [(0, 1, .cst (.int .i64 1)), (1, 1, .cst (.int .i64 1))], none⟩, ⟨some 1, .allocz 0 [.int .i64 0, .int .i64 0], none⟩, ⟨some 2, .allocz 1 [.int .i64 0, .int .i64 0], none⟩, ⟨none, .store 2 (.tmp 1) (.tmp 39), none⟩, ⟨none, .store 2 (.tmp 2) (.tmp 40), none⟩]) (.clr [40, 39])) (.seq (.seq (.region [⟨some 42, .call 8 [.cst (.int .i64 2)], none⟩, ⟨some 41, .move (.tmp 42), none⟩, ⟨some 43, .extract (.tmp 41) 0, none⟩, ⟨some 44, .extract (.tmp 41) 1, none⟩, ⟨some 3, .move (.tmp 43), none⟩, ⟨some 4, .move (.tmp 44), none⟩]) (.clr [44, 43, 42, 41])) (.seq (.seq (.region [⟨some 46, .move (.tmp 3), none⟩, ⟨some 47, .load (some 2) (.tmp 1), none⟩, ⟨some 48, .call 20 [.cst (.int .u8 120)], none⟩, ⟨some 49, .call 11 [.tmp 46, .tmp 47, .cst (.int .i64 0), .tmp 48], none⟩, ⟨some 45, .move (.tmp 49), none⟩, ⟨some 50, .extract (.tmp 45) 0, none⟩, ⟨some 51, .extract (.tmp 45) 1, none⟩, ⟨some 5, .move (.tmp 50), none⟩, ⟨some 6, .move (.tmp 51), none⟩]) (.clr [51, 50, 49, 48, 47, 46, 45])) (.seq (.seq (.region [⟨some 53, .move (.tmp 3), none⟩, ⟨some 54, .load (some 2) (.tmp 1), none⟩, ⟨some 55, .call 20 [.cst (.int .u8 121)], none⟩, ⟨some 56, .call 11 [.tmp 53, .tmp 54, .cst (.int .i64 1), .tmp 55], none⟩, ⟨some 52, .move (.tmp 56), none⟩, ⟨some 57, .extract (.tmp 52) 0, none⟩, ⟨some 58, .extract (.tmp 52) 1, none⟩, ⟨some 7, .move (.tmp 57), none⟩, ⟨some 8, .move (.tmp 58), none⟩]) (.clr [58, 57, 56, 55, 54, 53, 52])) (.seq (.seq (.region [⟨some 60, .move (.tmp 3), none⟩, ⟨some 61, .load (some 2) (.tmp 1), none⟩, ⟨some 62, .call 20 [.cst (.int .u8 122)], none⟩, ⟨some 63, .call 11 [.tmp 60, .tmp 61, .cst (.int .i64 0), .tmp 62], none⟩, ⟨some 59, .move (.tmp 63), none⟩, ⟨some 64, .extract (.tmp 59) 0, none⟩, ⟨some 65, .extract (.tmp 59) 1, none⟩, ⟨some 9, .move (.tmp 64), none⟩, ⟨some 10, .move (.tmp 65), none⟩]) (.clr [65, 64, 63, 62, 61, 60, 59])) (.seq (.seq (.region [⟨some 67, .move (.tmp 3), none⟩, ⟨some 68, .load (some 2) (.tmp 2), none⟩, ⟨some 69, .call 20 [.cst (.int .u8 119)], none⟩, ⟨some 70, .call 11 [.tmp 67, .tmp 68, .cst (.int .i64 0), .tmp 69], none⟩, ⟨some 66, .move (.tmp 70), none⟩, ⟨some 71, .extract (.tmp 66) 0, none⟩, ⟨some 72, .extract (.tmp 66) 1, none⟩, ⟨some 11, .move (.tmp 71), none⟩, ⟨some 12, .move (.tmp 72), none⟩]) (.clr [72, 71, 70, 69, 68, 67, 66, 11])) (.seq (.seq (.region [⟨some 74, .move (.tmp 3), none⟩, ⟨some 75, .load (some 2) (.tmp 1), none⟩, ⟨some 76, .call 12 [.tmp 74, .tmp 75, .cst (.int .i64 1)], none⟩, ⟨some 73, .move (.tmp 76), none⟩, ⟨some 77, .extract (.tmp 73) 0, none⟩, ⟨some 78, .extract (.tmp 73) 1, none⟩, ⟨some 13, .move (.tmp 77), none⟩, ⟨some 14, .move (.tmp 78), none⟩]) (.clr [78, 77, 76, 75, 74, 73])) (.seq (.seq (.region [⟨some 80, .move (.tmp 3), none⟩, ⟨some 81, .call 21 [.tmp 80, .cst (.int .i64 0)], none⟩, ⟨some 79, .move (.tmp 81), none⟩, ⟨some 82, .extract (.tmp 79) 0, none⟩, ⟨some 83, .extract (.tmp 79) 1, none⟩, ⟨some 15, .allocz 2 [.int .i64 0, .int .u8 0, .int .u8 0, .int .u8 0, .int .u8 0, .int .u8 0, .int .u8 0, .int .u8 0, .int .u8 0, .int .u8 0, .int .u8 0, .int .u8 0, .int .u8 0, .int .u8 0, .int .u8 0, .int .u8 0, .int .u8 0, .int .u8 0, .int .u8 0, .int .u8 0, .int .u8 0, .int .u8 0, .int .u8 0, .int .u8 0, .int .u8 0, .int .u8 0, .int .u8 0, .int .u8 0, .int .u8 0, .int .u8 0, .int .u8 0, .int .u8 0, .int .u8 0, .int .u8 0, .int .u8 0, .int .u8 0, .int .u8 0, .int .u8 0, .int .u8 0, .int .u8 0, .int .u8 0, .int .u8 0, .int .u8 0, .int .u8 0, .int .u8 0, .int .u8 0, .int .u8 0, .int .u8 0, .int .u8 0, .int .u8 0, .int .u8 0, .int .u8 0, .int .u8 0, .int .u8 0, .int .u8 0, .int .u8 0, .int .u8 0, .int .u8 0, .int .u8 0, .int .u8 0, .int .u8 0, .int .u8 0, .int .u8 0, .int .u8 0, .int .u8 0, .int .u8 0, .int .u8 0, .int .u8 0, .int .u8 0, .int .u8 0, .int .u8 0, .int .u8 0, .int .u8 0, .int .u8 0, .int .u8 0, .int .u8 0, .int .u8 0, .int .u8 0, .int .u8 0, .int .u8 0, .int .u8 0, .int .u8 0, .int .u8 0, .int .u8 0, .int .u8 0, .int .u8 0, .int .u8 0, .int .u8 0, .int .u8 0, .int .u8 0, .int .u8 0, .int .u8 0, .int .u8 0, .int .u8 0, .int .u8 0, .int .u8 0, .int .u8 0], none⟩, ⟨none, .store 97 (.tmp 15) (.tmp 82), none⟩, ⟨some 16, .move (.tmp 83), none⟩]) (.clr [83, 82, 81, 80, 79, 16])) (.seq (.seq (.region [⟨some 85, .move (.tmp 3), none⟩, ⟨some 86, .call 23 [.tmp 85, .cst (.int .i64 0)], none⟩, ⟨some 84, .move (.tmp 86), none⟩, ⟨some 87, .extract (.tmp 84) 0, none⟩, ⟨some 88, .extract (.tmp 84) 1, none⟩, ⟨some 17, .allocz 3 [.int .i64 0, .int .u8 0, .int .u8 0, .int .u8 0, .int .u8 0, .int .u8 0, .int .u8 0, .int .u8 0, .int .u8 0, .int .u8 0, .int .u8 0, .int .u8 0, .int .u8 0, .int .u8 0, .int .u8 0, .int .u8 0, .int .u8 0, .int .u8 0, .int .u8 0, .int .u8 0, .int .u8 0, .int .u8 0, .int .u8 0, .int .u8 0, .int .u8 0, .int .u8 0, .int .u8 0, .int .u8 0, .int .u8 0, .int .u8 0, .int .u8 0, .int .u8 0, .int .u8 0, .int .u8 0, .int .u8 0, .int .u8 0, .int .u8 0, .int .u8 0, .int .u8 0, .int .u8 0, .int .u8 0, .int .u8 0, .int .u8 0, .int .u8 0, .int .u8 0, .int .u8 0, .int .u8 0, .int .u8 0, .int .u8 0, .int .u8 0, .int .u8 0, .int .u8 0, .int .u8 0, .int .u8 0, .int .u8 0, .int .u8 0, .int .u8 0, .int .u8 0, .int .u8 0, .int .u8 0, .int .u8 0, .int .u8 0, .int .u8 0, .int .u8 0, .int .u8 0, .int .u8 0, .int .u8 0, .int .u8 0, .int .u8 0, .int .u8 0, .int .u8 0, .int .u8 0, .int .u8 0, .int .u8 0, .int .u8 0, .int .u8 0, .int .u8 0, .int .u8 0, .int .u8 0, .int .u8 0, .int .u8 0, .int .u8 0, .int .u8 0, .int .u8 0, .int .u8 0, .int .u8 0, .int .u8 0, .int .u8 0, .int .u8 0, .int .u8 0, .int .u8 0, .int .u8 0, .int .u8 0, .int .u8 0, .int .u8 0, .int .u8 0, .int .u8 0], none⟩, ⟨none, .store 97 (.tmp 17) (.tmp 87), none⟩, ⟨some 18, .move (.tmp 88), none⟩]) (.clr [88, 87, 86, 85, 84, 18])) (.seq (.seq (.region [⟨some 90, .move (.tmp 3), none⟩, ⟨some 91, .call 24 [.tmp 90, .cst (.int .i64 1)], none⟩, ⟨some 89, .move (.tmp 91), none⟩, ⟨some 92, .extract (.tmp 89) 0, none⟩, ⟨some 93, .extract (.tmp 89) 1, none⟩, ⟨some 19, .allocz 4 [.int .i64 0, .int .i64 0], none⟩, ⟨none, .store 2 (.tmp 19) (.tmp 92), none⟩, ⟨some 20, .move (.tmp 93), none⟩]) (.clr [93, 92, 91, 90, 89])) (.seq (.seq (.region [⟨some 95, .move (.tmp 3), none⟩, ⟨some 96, .load (some 2) (.tmp 1), none⟩, ⟨some 97, .call 13 [.tmp 95, .tmp 96, .cst (.int .i64 1)], none⟩, ⟨some 94, .move (.tmp 97), none⟩, ⟨some 98, .extract (.tmp 94) 0, none⟩, ⟨some 99, .extract (.tmp 94) 1, none⟩, ⟨some 21, .move (.tmp 98), none⟩, ⟨some 22, .move (.tmp 99), none⟩]) (.clr [99, 98, 97, 96, 95, 94])) (.seq (.seq (.region [⟨some 101, .move (.tmp 3), none⟩, ⟨some 102, .call 23 [.tmp 101, .cst (.int .i64 0)], none⟩, ⟨some 100, .move (.tmp 102), none⟩, ⟨some 103, .extract (.tmp 100) 0, none⟩, ⟨some 104, .extract (.tmp 100) 1, none⟩, ⟨some 23, .allocz 5 [.int .i64 0, .int .u8 0, .int .u8 0, .int .u8 0, .int .u8 0, .int .u8 0, .int .u8 0, .int .u8 0, .int .u8 0, .int .u8 0, .int .u8 0, .int .u8 0, .int .u8 0, .int .u8 0, .int .u8 0, .int .u8 0, .int .u8 0, .int .u8 0, .int .u8 0, .int .u8 0, .int .u8 0, .int .u8 0, .int .u8 0, .int .u8 0, .int .u8 0, .int .u8 0, .int .u8 0, .int .u8 0, .int .u8 0, .int .u8 0, .int .u8 0, .int .u8 0, .int .u8 0, .int .u8 0, .int .u8 0, .int .u8 0, .int .u8 0, .int .u8 0, .int .u8 0, .int .u8 0, .int .u8 0, .int .u8 0, .int .u8 0, .int .u8 0, .int .u8 0, .int .u8 0, .int .u8 0, .int .u8 0, .int .u8 0, .int .u8 0, .int .u8 0, .int .u8 0, .int .u8 0, .int .u8 0, .int .u8 0, .int .u8 0, .int .u8 0, .int .u8 0, .int .u8 0, .int .u8 0, .int .u8 0, .int .u8 0, .int .u8 0, .int .u8 0, .int .u8 0, .int .u8 0, .int .u8 0, .int .u8 0, .int .u8 0, .int .u8 0, .int .u8 0, .int .u8 0, .int .u8 0, .int .u8 0, .int .u8 0, .int .u8 0, .int .u8 0, .int .u8 0, .int .u8 0, .int .u8 0, .int .u8 0, .int .u8 0, .int .u8 0, .int .u8 0, .int .u8 0, .int .u8 0, .int .u8 0, .int .u8 0, .int .u8 0, .int .u8 0, .int .u8 0, .int .u8 0, .int .u8 0, .int .u8 0, .int .u8 0, .int .u8 0, .int .u8 0], none⟩, ⟨none, .store 97 (.tmp 23) (.tmp 103), none⟩, ⟨some 24, .move (.tmp 104), none⟩]) (.clr [104, 103, 102, 101, 100, 24])) (.seq (.seq (.region [⟨some 106, .move (.tmp 3), none⟩, ⟨some 107, .call 23 [.tmp 106, .cst (.int .i64 1)], none⟩, ⟨some 105, .move (.tmp 107), none⟩, ⟨some 108, .extract (.tmp 105) 0, none⟩, ⟨some 109, .extract (.tmp 105) 1, none⟩, ⟨some 25, .allocz 6 [.int .i64 0, .int .u8 0, .int .u8 0, .int .u8 0, .int .u8 0, .int .u8 0, .int .u8 0, .int .u8 0, .int .u8 0, .int .u8 0, .int .u8 0, .int .u8 0, .int .u8 0, .int .u8 0, .int .u8 0, .int .u8 0, .int .u8 0, .int .u8 0, .int .u8 0, .int .u8 0, .int .u8 0, .int .u8 0, .int .u8 0, .int .u8 0, .int .u8 0, .int .u8 0, .int .u8 0, .int .u8 0, .int .u8 0, .int .u8 0, .int .u8 0, .int .u8 0, .int .u8 0, .int .u8 0, .int .u8 0, .int .u8 0, .int .u8 0, .int .u8 0, .int .u8 0, .int .u8 0, .int .u8 0, .int .u8 0, .int .u8 0, .int .u8 0, .int .u8 0, .int .u8 0, .int .u8 0, .int .u8 0, .int .u8 0, .int .u8 0, .int .u8 0, .int .u8 0, .int .u8 0, .int .u8 0, .int .u8 0, .int .u8 0, .int .u8 0, .int .u8 0, .int .u8 0, .int .u8 0, .int .u8 0, .int .u8 0, .int .u8 0, .int .u8 0, .int .u8 0, .int .u8 0, .int .u8 0, .int .u8 0, .int .u8 0, .int .u8 0, .int .u8 0, .int .u8 0, .int .u8 0, .int .u8 0, .int .u8 0, .int .u8 0, .int .u8 0, .int .u8 0, .int .u8 0, .int .u8 0, .int .u8 0, .int .u8 0, .int .u8 0, .int .u8 0, .int .u8 0, .int .u8 0, .int .u8 0, .int .u8 0, .int .u8 0, .int .u8 0, .int .u8 0, .int .u8 0, .int .u8 0, .int .u8 0, .int .u8 0, .int .u8 0, .int .u8 0], none⟩, ⟨none, .store 97 (.tmp 25) (.tmp 108), none⟩, ⟨some 26, .move (.tmp 109), none⟩]) (.clr [109, 108, 107, 106, 105, 26])) (.seq (.seq (.region [⟨some 111, .move (.tmp 3), none⟩, ⟨some 112, .load (some 2) (.tmp 2), none⟩, ⟨some 113, .call 20 [.cst (.int .u8 119)], none⟩, ⟨some 114, .call 11 [.tmp 111, .tmp 112, .cst (.int .i64 0), .tmp 113], none⟩, ⟨some 110, .move (.tmp 114), none⟩, ⟨some 115, .extract (.tmp 110) 0, none⟩, ⟨some 116, .extract (.tmp 110) 1, none⟩, ⟨some 27, .move (.tmp 115), none⟩, ⟨some 28, .move (.tmp 116), none⟩]) (.clr [116, 115, 114, 113, 112, 111, 110])) (.seq (.seq (.region [⟨some 118, .call 8 [.cst (.int .i64 0)], none⟩, ⟨some 117, .move (.tmp 118), none⟩, ⟨some 119, .extract (.tmp 117) 0, none⟩, ⟨some 120, .extract (.tmp 117) 1, none⟩, ⟨some 29, .move (.tmp 119), none⟩, ⟨some 30, .move (.tmp 120), none⟩]) (.clr [120, 119, 118, 117, 29])) (.seq (.seq (.region [⟨some 122, .move (.tmp 3), none⟩, ⟨some 123, .load (some 2) (.tmp 1), none⟩, ⟨some 124, .call 20 [.cst (.int .u8 120)], none⟩, ⟨some 125, .call 11 [.tmp 122, .tmp 123, .cst (.int .i64 2), .tmp 124], none⟩, ⟨some 121, .move (.tmp 125), none⟩, ⟨some 126, .extract (.tmp 121) 0, none⟩, ⟨some 127, .extract (.tmp 121) 1, none⟩, ⟨some 31, .move (.tmp 126), none⟩, ⟨some 32, .move (.tmp 127), none⟩]) (.clr [127, 126, 125, 124, 123, 122, 121, 31])) (.seq (.seq (.region [⟨some 129, .move (.tmp 3), none⟩, ⟨some 130, .load (some 2) (.tmp 1), none⟩, ⟨some 131, .call 12 [.tmp 129, .tmp 130, .cst (.int .i64 (-1))], none⟩, ⟨some 128, .move (.tmp 131), none⟩, ⟨some 132, .extract (.tmp 128) 0, none⟩, ⟨some 133, .extract (.tmp 128) 1, none⟩, ⟨some 33, .move (.tmp 132), none⟩, ⟨some 34, .move (.tmp 133), none⟩]) (.clr [133, 132, 131, 130, 129, 128, 33])) (.seq (.seq (.region [⟨some 135, .move (.tmp 3), none⟩, ⟨some 136, .load (some 2) (.tmp 2), none⟩, ⟨some 137, .call 13 [.tmp 135, .tmp 136, .cst (.int .i64 0)], none⟩, ⟨some 134, .move (.tmp 137), none⟩, ⟨some 138, .extract (.tmp 134) 0, none⟩, ⟨some 139, .extract (.tmp 134) 1, none⟩, ⟨some 35, .move (.tmp 138), none⟩, ⟨some 36, .move (.tmp 139), none⟩]) (.clr [139, 138, 137, 136, 135, 134, 36, 2])) (.seq (.seq (.region [⟨some 141, .move (.tmp 3), none⟩, ⟨some 142, .call 23 [.tmp 141, .cst (.int .i64 0)], none⟩, ⟨some 140, .move (.tmp 142), none⟩, ⟨some 143, .extract (.tmp 140) 0, none⟩, ⟨some 144, .extract (.tmp 140) 1, none⟩, ⟨some 37, .allocz 7 [.int .i64 0, .int .u8 0, .int .u8 0, .int .u8 0, .int .u8 0, .int .u8 0, .int .u8 0, .int .u8 0, .int .u8 0, .int .u8 0, .int .u8 0, .int .u8 0, .int .u8 0, .int .u8 0, .int .u8 0, .int .u8 0, .int .u8 0, .int .u8 0, .int .u8 0, .int .u8 0, .int .u8 0, .int .u8 0, .int .u8 0, .int .u8 0, .int .u8 0, .int .u8 0, .int .u8 0, .int .u8 0, .int .u8 0, .int .u8 0, .int .u8 0, .int .u8 0, .int .u8 0, .int .u8 0, .int .u8 0, .int .u8 0, .int .u8 0, .int .u8 0, .int .u8 0, .int .u8 0, .int .u8 0, .int .u8 0, .int .u8 0, .int .u8 0, .int .u8 0, .int .u8 0, .int .u8 0, .int .u8 0, .int .u8 0, .int .u8 0, .int .u8 0, .int .u8 0, .int .u8 0, .int .u8 0, .int .u8 0, .int .u8 0, .int .u8 0, .int .u8 0, .int .u8 0, .int .u8 0, .int .u8 0, .int .u8 0, .int .u8 0, .int .u8 0, .int .u8 0, .int .u8 0, .int .u8 0, .int .u8 0, .int .u8 0, .int .u8 0, .int .u8 0, .int .u8 0, .int .u8 0, .int .u8 0, .int .u8 0, .int .u8 0, .int .u8 0, .int .u8 0, .int .u8 0, .int .u8 0, .int .u8 0, .int .u8 0, .int .u8 0, .int .u8 0, .int .u8 0, .int .u8 0, .int .u8 0, .int .u8 0, .int .u8 0, .int .u8 0, .int .u8 0, .int .u8 0, .int .u8 0, .int .u8 0, .int .u8 0, .int .u8 0, .int .u8 0], none⟩, ⟨none, .store 97 (.tmp 37) (.tmp 143), none⟩, ⟨some 38, .move (.tmp 144), none⟩]) (.clr [144, 143, 142, 141, 140, 38, 3])) (.seq (.seq (.region [⟨some 145, .move (.tmp 4), none⟩, ⟨some 146, .call 9 [.tmp 145], none⟩, ⟨some 147, .move (.tmp 6), none⟩, ⟨some 148, .call 9 [.tmp 147], none⟩, ⟨some 149, .bin .add (.tmp 146) (.tmp 148), none⟩, ⟨some 150, .move (.tmp 8), none⟩, ⟨some 151, .call 9 [.tmp 150], none⟩, ⟨some 152, .bin .add (.tmp 149) (.tmp 151), none⟩, ⟨some 153, .move (.tmp 10), none⟩, ⟨some 154, .call 9 [.tmp 153], none⟩, ⟨some 155, .bin .add (.tmp 152) (.tmp 154), none⟩, ⟨some 156, .move (.tmp 14), none⟩, ⟨some 157, .call 9 [.tmp 156], none⟩, ⟨some 158, .bin .add (.tmp 155) (.tmp 157), none⟩, ⟨some 159, .move (.tmp 22), none⟩, ⟨some 160, .call 9 [.tmp 159], none⟩, ⟨some 161, .bin .add (.tmp 158) (.tmp 160), none⟩, ⟨some 162, .move (.tmp 28), none⟩, ⟨some 163, .call 9 [.tmp 162], none⟩, ⟨some 164, .bin .add (.tmp 161) (.tmp 163), none⟩, ⟨some 165, .bin .eql (.tmp 164) (.cst (.int .i64 0)), none⟩, ⟨some 166, .move (.tmp 165), none⟩, ⟨some 167, .move (.tmp 5), some (166, true)⟩, ⟨some 168, .bin .eql (.tmp 167) (.cst (.int .i64 1)), some (166, true)⟩, ⟨some 169, .pick (.tmp 166) (.tmp 168) (.cst (.bool false)), none⟩, ⟨some 170, .move (.tmp 169), none⟩, ⟨some 171, .move (.tmp 7), some (170, true)⟩, ⟨some 172, .bin .eql (.tmp 171) (.cst (.int .i64 1)), some (170, true)⟩, ⟨some 173, .pick (.tmp 170) (.tmp 172) (.cst (.bool false)), none⟩, ⟨some 174, .move (.tmp 173), none⟩, ⟨some 175, .move (.tmp 9), some (174, true)⟩, ⟨some 176, .bin .eql (.tmp 175) (.cst (.int .i64 2)), some (174, true)⟩, ⟨some 177, .pick (.tmp 174) (.tmp 176) (.cst (.bool false)), none⟩, ⟨some 178, .move (.tmp 177), none⟩, ⟨some 179, .move (.tmp 12), some (178, true)⟩, ⟨some 180, .call 9 [.tmp 179], some (178, true)⟩, ⟨some 181, .bin .eql (.tmp 180) (.cst (.int .i64 11)), some (178, true)⟩, ⟨some 182, .pick (.tmp 178) (.tmp 181) (.cst (.bool false)), none⟩, ⟨some 183, .move (.tmp 182), none⟩, ⟨some 184, .move (.tmp 13), some (183, true)⟩, ⟨some 185, .bin .eql (.tmp 184) (.cst (.int .i64 1)), some (183, true)⟩, ⟨some 186, .pick (.tmp 183) (.tmp 185) (.cst (.bool false)), none⟩, ⟨some 187, .move (.tmp 186), none⟩, ⟨some 188, .load (some 97) (.tmp 15), some (187, true)⟩, ⟨some 189, .call 25 [.tmp 188, .cst (.int .i64 1), .cst (.int .u8 120)], some (187, true)⟩, ⟨some 190, .pick (.tmp 187) (.tmp 189) (.cst (.bool false)), none⟩, ⟨some 191, .move (.tmp 190), none⟩, ⟨some 192, .load (some 97) (.tmp 17), some (191, true)⟩, ⟨some 193, .call 25 [.tmp 192, .cst (.int .i64 2), .cst (.int .u8 122)], some (191, true)⟩, ⟨some 194, .pick (.tmp 191) (.tmp 193) (.cst (.bool false)), none⟩, ⟨some 195, .move (.tmp 194), none⟩, ⟨some 196, .load (some 2) (.tmp 19), some (195, true)⟩, ⟨some 197, .load (some 2) (.tmp 1), some (195, true)⟩, ⟨some 198, .eqc false true [.i .i64, .i .i64] (.tmp 196) (.tmp 197), some (195, true)⟩, ⟨some 199, .pick (.tmp 195) (.tmp 198) (.cst (.bool false)), none⟩, ⟨some 200, .move (.tmp 199), none⟩, ⟨some 201, .move (.tmp 20), some (200, true)⟩, ⟨some 202, .pick (.tmp 200) (.tmp 201) (.cst (.bool false)), none⟩, ⟨some 203, .move (.tmp 202), none⟩, ⟨some 204, .move (.tmp 21), some (203, true)⟩, ⟨some 205, .bin .eql (.tmp 204) (.cst (.int .i64 1)), some (203, true)⟩, ⟨some 206, .pick (.tmp 203) (.tmp 205) (.cst (.bool false)), none⟩, ⟨some 207, .move (.tmp 206), none⟩, ⟨some 208, .load (some 97) (.tmp 23), some (207, true)⟩, ⟨some 209, .call 25 [.tmp 208, .cst (.int .i64 1), .cst (.int .u8 120)], some (207, true)⟩, ⟨some 210, .pick (.tmp 207) (.tmp 209) (.cst (.bool false)), none⟩, ⟨some 211, .move (.tmp 210), none⟩, ⟨some 212, .load (some 97) (.tmp 25), some (211, true)⟩, ⟨some 213, .call 25 [.tmp 212, .cst (.int .i64 1), .cst (.int .u8 121)], some (211, true)⟩, ⟨some 214, .pick (.tmp 211) (.tmp 213) (.cst (.bool false)), none⟩, ⟨some 215, .move (.tmp 214), none⟩, ⟨some 216, .move (.tmp 27), some (215, true)⟩, ⟨some 217, .bin .eql (.tmp 216) (.cst (.int .i64 2)), some (215, true)⟩, ⟨some 218, .pick (.tmp 215) (.tmp 217) (.cst (.bool false)), none⟩, ⟨some 219, .move (.tmp 218), none⟩, ⟨some 220, .move (.tmp 30), some (219, true)⟩, ⟨some 221, .call 9 [.tmp 220], some (219, true)⟩, ⟨some 222, .bin .eql (.tmp 221) (.cst (.int .i64 2)), some (219, true)⟩, ⟨some 223, .pick (.tmp 219) (.tmp 222) (.cst (.bool false)), none⟩, ⟨some 224, .move (.tmp 223), none⟩, ⟨some 225, .move (.tmp 32), some (224, true)⟩, ⟨some 226, .call 9 [.tmp 225], some (224, true)⟩, ⟨some 227, .bin .eql (.tmp 226) (.cst (.int .i64 2)), some (224, true)⟩, ⟨some 228, .pick (.tmp 224) (.tmp 227) (.cst (.bool false)), none⟩, ⟨some 229, .move (.tmp 228), none⟩, ⟨some 230, .move (.tmp 34), some (229, true)⟩, ⟨some 231, .call 9 [.tmp 230], some (229, true)⟩, ⟨some 232, .bin .eql (.tmp 231) (.cst (.int .i64 2)), some (229, true)⟩, ⟨some 233, .pick (.tmp 229) (.tmp 232) (.cst (.bool false)), none⟩, ⟨some 234, .move (.tmp 233), none⟩, ⟨some 235, .move (.tmp 35), some (234, true)⟩, ⟨some 236, .bin .eql (.tmp 235) (.cst (.int .i64 1)), some (234, true)⟩, ⟨some 237, .pick (.tmp 234) (.tmp 236) (.cst (.bool false)), none⟩, ⟨some 238, .move (.tmp 237), none⟩, ⟨some 239, .load (some 97) (.tmp 37), some (238, true)⟩, ⟨some 240, .call 25 [.tmp 239, .cst (.int .i64 1), .cst (.int .u8 120)], some (238, true)⟩, ⟨some 241, .pick (.tmp 238) (.tmp 240) (.cst (.bool false)), none⟩, ⟨some 0, .move (.tmp 241), none⟩]) (.clr [241, 240, 239, 238, 237, 236, 235, 234, 233, 232, 231, 230, 229, 228, 227, 226, 225, 224, 223, 222, 221, 220, 219, 218, 217, 216, 215, 214, 213, 212, 211, 210, 209, 208, 207, 206, 205, 204, 203, 202, 201, 200, 199, 198, 197, 196, 195, 194, 193, 192, 191, 190, 189, 188, 187, 186, 185, 184, 183, 182, 181, 180, 179, 178, 177, 176, 175, 174, 173, 172, 171, 170, 169, 168, 167, 166, 165, 164, 163, 162, 161, 160, 159, 158, 157, 156, 155, 154, 153, 152, 151, 150, 149, 148, 147, 146, 145, 37, 35, 34, 32, 30, 28, 27, 25, 23, 22, 21, 20, 19, 17, 15, 14, 13, 12, 10, 9, 8, 7, 6, 5, 4, 1])) .ret)))))))))))))))))))), res := [.tmp 0] }
def am8 : AFunc := { nargs := 1, nt := 14, sites := 2, mode := .keep, body := .seq (.seq (.region [⟨some 2, .move (.cst .nilp), none⟩, ⟨some 3, .move (.cst (.int .i64 0)), none⟩]) (.clr [3, 2])) (.seq (.seq (.seq (.region [⟨some 4, .move (.tmp 0), none⟩, ⟨some 5, .bin .lss (.tmp 4) (.cst (.int .i64 1)), none⟩, ⟨some 6, .move (.tmp 5), none⟩, ⟨some 7, .move (.tmp 0), some (6, false)⟩, ⟨some 8, .bin .gtr (.tmp 7) (.cst (.int .i64 16)), some (6, false)⟩, ⟨some 9, .pick (.tmp 6) (.cst (.bool true)) (.tmp 8), none⟩]) (.clr [8, 7, 6, 5, 4])) (.cond (.tmp 9) (.seq (.clr [9, 0]) (.seq (.region [⟨some 2, .move (.cst .nilp), none⟩, ⟨some 3, .move (.cst (.int .i64 2)), none⟩]) .ret)) (.seq (.clr [9]) .skip))) (.seq (.seq (.region [⟨some 10, .move (.tmp 0), none⟩, ⟨some 11, .mkmap 0, none⟩, ⟨some 12, .build [.nils, .nils, .nils, .nils, .nils, .nils, .nils, .nils, .nils, .nils, .nils, .nils, .nils, .nils, .nils, .nils, .int .i64 0, .nilm] [(16, 1, .tmp 10), (17, 1, .tmp 11)], none⟩, ⟨some 13, .box 1 (.tmp 12), none⟩, ⟨some 2, .move (.tmp 13), none⟩, ⟨some 3, .move (.cst (.int .i64 0)), none⟩]) (.clr [13, 12, 11, 10, 0])) .ret)), res := [.tmp 2, .tmp 3] }
def am9 : AFunc := { nargs := 1, nt := 4, sites := 0, mode := .pure, body := .seq (.seq (.region [⟨some 2, .move (.cst (.int .i64 0)), none⟩]) (.clr [2])) (.seq (.seq (.region [⟨some 3, .move (.tmp 0), none⟩, ⟨some 2, .move (.tmp 3), none⟩]) (.clr [3, 0])) .ret), res := [.tmp 2] }
def am10 : AFunc := { nargs := 1, nt := 52, sites := 4, mode := .keep, body := .seq (.seq (.region [⟨some 2, .move (.cst .nilp), none⟩]) (.clr [2])) (.seq (.seq (.seq (.region [⟨some 8, .move (.tmp 0), none⟩, ⟨some 9, .call 26 [.tmp 8], none⟩, ⟨some 10, .un .not (.tmp 9), none⟩]) (.clr [9, 8])) (.cond (.tmp 10) (.seq (.clr [10, 0]) (.seq (.region [⟨some 2, .move (.cst .nilp), none⟩]) .ret)) (.seq (.clr [10]) .skip))) (.seq (.seq (.region [⟨some 11, .move (.tmp 0), none⟩, ⟨some 12, .nilck (.tmp 11), none⟩, ⟨some 13, .faddr 16 (.tmp 12), none⟩, ⟨some 14, .load none (.tmp 13), none⟩, ⟨some 15, .mkmap 0, none⟩, ⟨some 16, .build [.nils, .nils, .nils, .nils, .nils, .nils, .nils, .nils, .nils, .nils, .nils, .nils, .nils, .nils, .nils, .nils, .int .i64 0, .nilm] [(16, 1, .tmp 14), (17, 1, .tmp 15)], none⟩, ⟨some 17, .box 1 (.tmp 16), none⟩, ⟨some 3, .move (.tmp 17), none⟩]) (.clr [17, 16, 15, 14, 13, 12, 11])) (.seq (.seq (.seq (.region [⟨some 18, .move (.tmp 0), none⟩, ⟨some 19, .nilck (.tmp 18), none⟩, ⟨some 20, .faddr 0 (.tmp 19), none⟩, ⟨some 21, .load (some 16) (.tmp 20), none⟩, ⟨some 22, .move (.cst (.int .i64 0)), none⟩]) (.clr [20, 19, 18])) (.block 0 (.loop [] [] (.seq (.region [⟨some 23, .bin .lss (.tmp 22) (.cst (.int .i64 16)), none⟩]) (.seq (.cond (.tmp 23) (.seq (.clr [23]) .skip) (.seq (.clr [23, 22, 21]) (.exit 0))) (.seq (.block 1 (.seq (.seq (.region [⟨some 24, .move (.tmp 22), none⟩, ⟨some 25, .indexA 16 1 none (.tmp 21) (.tmp 22), none⟩, ⟨some 4, .move (.tmp 24), none⟩, ⟨some 5, .move (.tmp 25), none⟩]) (.clr [25, 24])) (.seq (.region [⟨some 26, .move (.tmp 3), none⟩, ⟨some 27, .move (.tmp 4), none⟩, ⟨some 28, .move (.tmp 5), none⟩, ⟨some 29, .call 27 [.tmp 28], none⟩, ⟨some 30, .nilck (.tmp 26), none⟩, ⟨some 31, .faddr 0 (.tmp 30), none⟩, ⟨some 32, .iaddrA 16 1 (.tmp 31) (.tmp 27), none⟩, ⟨none, .store 1 (.tmp 32) (.tmp 29), none⟩]) (.clr [32, 31, 30, 29, 28, 27, 26, 5, 4])))) (.seq (.region [⟨some 33, .bin .add (.tmp 22) (.cst (.int .i64 1)), none⟩, ⟨some 22, .move (.tmp 33), none⟩]) (.clr [33])))))))) (.seq (.seq (.region [⟨some 34, .move (.tmp 0), none⟩, ⟨some 35, .nilck (.tmp 34), none⟩, ⟨some 36, .faddr 17 (.tmp 35), none⟩, ⟨some 37, .load none (.tmp 36), none⟩]) (.block 2 (.rangeM (.tmp 37) 38 39 40 41 2 [50, 49, 48, 47, 46, 45, 44, 43, 42, 41, 40, 39, 7, 6] [3] (.block 3 (.seq (.region [⟨some 42, .extract (.tmp 41) 0, none⟩, ⟨some 43, .extract (.tmp 41) 1, none⟩, ⟨some 6, .allocz 3 [.int .i64 0, .int .i64 0], none⟩, ⟨none, .store 2 (.tmp 6) (.tmp 42), none⟩, ⟨some 7, .move (.tmp 43), none⟩]) (.seq (.draw [(⟨some 44, .move (.tmp 3), none⟩, []), (⟨some 45, .nilck (.tmp 44), none⟩, []), (⟨some 46, .faddr 17 (.tmp 45), none⟩, []), (⟨some 47, .load none (.tmp 46), none⟩, []), (⟨some 48, .load (some 2) (.tmp 6), none⟩, []), (⟨some 49, .move (.tmp 7), none⟩, []), (⟨some 50, .call 28 [.tmp 49], none⟩, [3, 4]), (⟨none, .mput true [.i .i64, .i .i64] (.tmp 47) (.tmp 48) (.tmp 50), none⟩, [])]) (.clr [50, 49, 48, 47, 46, 45, 44, 7, 6]))))))) (.seq (.seq (.region [⟨some 51, .move (.tmp 3), none⟩, ⟨some 2, .move (.tmp 51), none⟩]) (.clr [51, 3])) .ret))))), res := [.tmp 2] }
def am11 : AFunc := { nargs := 4, nt := 75, sites := 5, mode := .keep, body := .seq (.seq (.region [⟨some 5, .box 0 (.tmp 1), none⟩, ⟨some 7, .box 1 (.tmp 3), none⟩, ⟨some 8, .move (.cst (.int .i64 0)), none⟩, ⟨some 9, .move (.cst (.int .i64 0)), none⟩]) (.clr [9, 8, 3, 1])) (.seq (.seq (.seq (.region [⟨some 15, .move (.tmp 0), none⟩, ⟨some 16, .load (some 2) (.tmp 5), none⟩, ⟨some 17, .move (.tmp 2), none⟩, ⟨some 18, .call 29 [.tmp 15, .tmp 16, .tmp 17, .cst (.int .i64 0)], none⟩, ⟨some 10, .move (.tmp 18), none⟩]) (.clr [18, 17, 16, 15])) (.seq (.seq (.region [⟨some 19, .move (.tmp 10), none⟩, ⟨some 20, .bin .neq (.tmp 19) (.cst (.int .i64 0)), none⟩]) (.clr [19])) (.cond (.tmp 20) (.seq (.clr [20, 7, 5, 2, 0]) (.seq (.seq (.region [⟨some 21, .move (.tmp 10), none⟩, ⟨some 8, .move (.cst (.int .i64 0)), none⟩, ⟨some 9, .move (.tmp 21), none⟩]) (.clr [21, 10])) .ret)) (.seq (.clr [20, 10]) .skip)))) (.seq (.seq (.seq (.region [⟨some 23, .move (.tmp 0), none⟩, ⟨some 24, .move (.tmp 2), none⟩, ⟨some 25, .call 24 [.tmp 23, .tmp 24], none⟩, ⟨some 22, .move (.tmp 25), none⟩, ⟨some 26, .extract (.tmp 22) 0, none⟩, ⟨some 27, .extract (.tmp 22) 1, none⟩, ⟨some 11, .allocz 2 [.int .i64 0, .int .i64 0], none⟩, ⟨none, .store 2 (.tmp 11) (.tmp 26), none⟩, ⟨some 12, .move (.tmp 27), none⟩]) (.clr [27, 26, 25, 24, 23, 22])) (.seq (.seq (.region [⟨some 28, .move (.tmp 12), none⟩, ⟨some 29, .move (.tmp 28), none⟩, ⟨some 30, .load (some 2) (.tmp 11), some (29, true)⟩, ⟨some 31, .load (some 2) (.tmp 5), some (29, true)⟩, ⟨some 32, .eqc true true [.i .i64, .i .i64] (.tmp 30) (.tmp 31), some (29, true)⟩, ⟨some 33, .pick (.tmp 29) (.tmp 32) (.cst (.bool false)), none⟩]) (.clr [32, 31, 30, 29, 28, 12, 11])) (.cond (.tmp 33) (.seq (.clr [33, 7, 5, 2, 0]) (.seq (.region [⟨some 8, .move (.cst (.int .i64 0)), none⟩, ⟨some 9, .move (.cst (.int .i64 11)), none⟩]) .ret)) (.seq (.clr [33]) .skip)))) (.seq (.seq (.region [⟨some 34, .move (.tmp 0), none⟩, ⟨some 35, .move (.tmp 2), none⟩, ⟨some 36, .nilck (.tmp 34), none⟩, ⟨some 37, .faddr 0 (.tmp 36), none⟩, ⟨some 38, .iaddrA 16 1 (.tmp 37) (.tmp 35), none⟩, ⟨some 39, .load none (.tmp 38), none⟩, ⟨some 13, .move (.tmp 39), none⟩]) (.clr [39, 38, 37, 36, 35, 34])) (.seq (.seq (.seq (.region [⟨some 40, .move (.tmp 13), none⟩, ⟨some 41, .lenS (.tmp 40), none⟩, ⟨some 42, .bin .geq (.tmp 41) (.cst (.int .i64 4096)), none⟩]) (.clr [41, 40])) (.cond (.tmp 42) (.seq (.clr [42, 13, 7, 5, 2, 0]) (.seq (.region [⟨some 8, .move (.cst (.int .i64 0)), none⟩, ⟨some 9, .move (.cst (.int .i64 5)), none⟩]) .ret)) (.seq (.clr [42]) .skip))) (.seq (.seq (.region [⟨some 43, .move (.tmp 13), none⟩, ⟨some 44, .lenS (.tmp 43), none⟩, ⟨some 45, .bin .add (.tmp 44) (.cst (.int .i64 1)), none⟩, ⟨some 14, .move (.tmp 45), none⟩]) (.clr [45, 44, 43])) (.seq (.seq (.region [⟨some 46, .move (.tmp 0), none⟩, ⟨some 47, .move (.tmp 2), none⟩, ⟨some 48, .move (.tmp 13), none⟩, ⟨some 49, .load (some 2) (.tmp 5), none⟩, ⟨some 50, .move (.tmp 2), none⟩, ⟨some 51, .move (.tmp 14), none⟩, ⟨some 52, .load (some 96) (.tmp 7), none⟩, ⟨some 53, .build [.int .i64 0, .int .u8 0, .int .u8 0, .int .u8 0, .int .u8 0, .int .u8 0, .int .u8 0, .int .u8 0, .int .u8 0, .int .u8 0, .int .u8 0, .int .u8 0, .int .u8 0, .int .u8 0, .int .u8 0, .int .u8 0, .int .u8 0, .int .u8 0, .int .u8 0, .int .u8 0, .int .u8 0, .int .u8 0, .int .u8 0, .int .u8 0, .int .u8 0, .int .u8 0, .int .u8 0, .int .u8 0, .int .u8 0, .int .u8 0, .int .u8 0, .int .u8 0, .int .u8 0, .int .u8 0, .int .u8 0, .int .u8 0, .int .u8 0, .int .u8 0, .int .u8 0, .int .u8 0, .int .u8 0, .int .u8 0, .int .u8 0, .int .u8 0, .int .u8 0, .int .u8 0, .int .u8 0, .int .u8 0, .int .u8 0, .int .u8 0, .int .u8 0, .int .u8 0, .int .u8 0, .int .u8 0, .int .u8 0, .int .u8 0, .int .u8 0, .int .u8 0, .int .u8 0, .int .u8 0, .int .u8 0, .int .u8 0, .int .u8 0, .int .u8 0, .int .u8 0, .int .u8 0, .int .u8 0, .int .u8 0, .int .u8 0, .int .u8 0, .int .u8 0, .int .u8 0, .int .u8 0, .int .u8 0, .int .u8 0, .int .u8 0, .int .u8 0, .int .u8 0, .int .u8 0, .int .u8 0, .int .u8 0, .int .u8 0, .int .u8 0, .int .u8 0, .int .u8 0, .int .u8 0, .int .u8 0, .int .u8 0, .int .u8 0, .int .u8 0, .int .u8 0, .int .u8 0, .int .u8 0, .int .u8 0, .int .u8 0, .int .u8 0, .int .u8 0] [(0, 1, .tmp 51), (1, 96, .tmp 52)], none⟩, ⟨some 54, .build [.int .i64 0, .int .i64 0, .int .i64 0, .int .i64 0, .int .u8 0, .int .u8 0, .int .u8 0, .int .u8 0, .int .u8 0, .int .u8 0, .int .u8 0, .int .u8 0, .int .u8 0, .int .u8 0, .int .u8 0, .int .u8 0, .int .u8 0, .int .u8 0, .int .u8 0, .int .u8 0, .int .u8 0, .int .u8 0, .int .u8 0, .int .u8 0, .int .u8 0, .int .u8 0, .int .u8 0, .int .u8 0, .int .u8 0, .int .u8 0, .int .u8 0, .int .u8 0, .int .u8 0, .int .u8 0, .int .u8 0, .int .u8 0, .int .u8 0, .int .u8 0, .int .u8 0, .int .u8 0, .int .u8 0, .int .u8 0, .int .u8 0, .int .u8 0, .int .u8 0, .int .u8 0, .int .u8 0, .int .u8 0, .int .u8 0, .int .u8 0, .int .u8 0, .int .u8 0, .int .u8 0, .int .u8 0, .int .u8 0, .int .u8 0, .int .u8 0, .int .u8 0, .int .u8 0, .int .u8 0, .int .u8 0, .int .u8 0, .int .u8 0, .int .u8 0, .int .u8 0, .int .u8 0, .int .u8 0, .int .u8 0, .int .u8 0, .int .u8 0, .int .u8 0, .int .u8 0, .int .u8 0, .int .u8 0, .int .u8 0, .int .u8 0, .int .u8 0, .int .u8 0, .int .u8 0, .int .u8 0, .int .u8 0, .int .u8 0, .int .u8 0, .int .u8 0, .int .u8 0, .int .u8 0, .int .u8 0, .int .u8 0, .int .u8 0, .int .u8 0, .int .u8 0, .int .u8 0, .int .u8 0, .int .u8 0, .int .u8 0, .int .u8 0, .int .u8 0, .int .u8 0, .int .u8 0, .int .u8 0, .bool false] [(0, 2, .tmp 49), (2, 1, .tmp 50), (3, 97, .tmp 53)], none⟩, ⟨some 55, .bslice [.int .i64 0, .int .i64 0, .int .i64 0, .int .i64 0, .int .u8 0, .int .u8 0, .int .u8 0, .int .u8 0, .int .u8 0, .int .u8 0, .int .u8 0, .int .u8 0, .int .u8 0, .int .u8 0, .int .u8 0, .int .u8 0, .int .u8 0, .int .u8 0, .int .u8 0, .int .u8 0, .int .u8 0, .int .u8 0, .int .u8 0, .int .u8 0, .int .u8 0, .int .u8 0, .int .u8 0, .int .u8 0, .int .u8 0, .int .u8 0, .int .u8 0, .int .u8 0, .int .u8 0, .int .u8 0, .int .u8 0, .int .u8 0, .int .u8 0, .int .u8 0, .int .u8 0, .int .u8 0, .int .u8 0, .int .u8 0, .int .u8 0, .int .u8 0, .int .u8 0, .int .u8 0, .int .u8 0, .int .u8 0, .int .u8 0, .int .u8 0, .int .u8 0, .int .u8 0, .int .u8 0, .int .u8 0, .int .u8 0, .int .u8 0, .int .u8 0, .int .u8 0, .int .u8 0, .int .u8 0, .int .u8 0, .int .u8 0, .int .u8 0, .int .u8 0, .int .u8 0, .int .u8 0, .int .u8 0, .int .u8 0, .int .u8 0, .int .u8 0, .int .u8 0, .int .u8 0, .int .u8 0, .int .u8 0, .int .u8 0, .int .u8 0, .int .u8 0, .int .u8 0, .int .u8 0, .int .u8 0, .int .u8 0, .int .u8 0, .int .u8 0, .int .u8 0, .int .u8 0, .int .u8 0, .int .u8 0, .int .u8 0, .int .u8 0, .int .u8 0, .int .u8 0, .int .u8 0, .int .u8 0, .int .u8 0, .int .u8 0, .int .u8 0, .int .u8 0, .int .u8 0, .int .u8 0, .int .u8 0, .bool false] 1 101 [(0, 101, .tmp 54)], none⟩, ⟨some 56, .append 3 101 136 (.tmp 48) (.tmp 55), none⟩, ⟨some 57, .nilck (.tmp 46), none⟩, ⟨some 58, .faddr 0 (.tmp 57), none⟩, ⟨some 59, .iaddrA 16 1 (.tmp 58) (.tmp 47), none⟩, ⟨none, .store 1 (.tmp 59) (.tmp 56), none⟩]) (.clr [59, 58, 57, 56, 55, 54, 53, 52, 51, 50, 49, 48, 47, 46, 7])) (.seq (.seq (.region [⟨some 60, .move (.tmp 0), none⟩, ⟨some 61, .nilck (.tmp 60), none⟩, ⟨some 62, .faddr 17 (.tmp 61), none⟩, ⟨some 63, .load none (.tmp 62), none⟩, ⟨some 64, .load (some 2) (.tmp 5), none⟩, ⟨some 66, .move (.tmp 2), none⟩, ⟨some 67, .move (.tmp 13), none⟩, ⟨some 68, .lenS (.tmp 67), none⟩, ⟨some 69, .build [.int .i64 0, .int .i64 0] [(0, 1, .tmp 66), (1, 1, .tmp 68)], none⟩, ⟨some 70, .bslice [.int .i64 0, .int .i64 0] 1 2 [(0, 2, .tmp 69)], none⟩, ⟨some 71, .move (.cst (.bool true)), none⟩, ⟨some 73, .un .not (.tmp 71), none⟩, ⟨some 71, .un .not (.tmp 73), none⟩, ⟨some 71, .move (.cst .junk), none⟩, ⟨some 73, .move (.cst .junk), none⟩, ⟨some 65, .mget true [.i .i64, .i .i64] .nils false (.tmp 63) (.tmp 64), none⟩, ⟨some 72, .append 4 2 16 (.tmp 65) (.tmp 70), none⟩, ⟨none, .mput true [.i .i64, .i .i64] (.tmp 63) (.tmp 64) (.tmp 72), none⟩]) (.clr [73, 72, 71, 70, 69, 68, 67, 66, 65, 64, 63, 62, 61, 60, 13, 5, 2, 0])) (.seq (.seq (.region [⟨some 74, .move (.tmp 14), none⟩, ⟨some 8, .move (.tmp 74), none⟩, ⟨some 9, .move (.cst (.int .i64 0)), none⟩]) (.clr [74, 14])) .ret)))))))), res := [.tmp 8, .tmp 9] }
def am12 : AFunc := { nargs := 3, nt := 67, sites := 2, mode := .keep, body := .seq (.seq (.region [⟨some 4, .box 0 (.tmp 1), none⟩, ⟨some 6, .move (.cst (.int .i64 0)), none⟩, ⟨some 7, .move (.cst (.int .i64 0)), none⟩]) (.clr [7, 6, 1])) (.seq (.seq (.seq (.region [⟨some 12, .move (.tmp 0), none⟩, ⟨some 13, .load (some 2) (.tmp 4), none⟩, ⟨some 14, .move (.tmp 2), none⟩, ⟨some 15, .call 29 [.tmp 12, .tmp 13, .cst (.int .i64 0), .tmp 14], none⟩, ⟨some 8, .move (.tmp 15), none⟩]) (.clr [15, 14, 13, 12])) (.seq (.seq (.region [⟨some 16, .move (.tmp 8), none⟩, ⟨some 17, .bin .neq (.tmp 16) (.cst (.int .i64 0)), none⟩]) (.clr [16])) (.cond (.tmp 17) (.seq (.clr [17, 4, 2, 0]) (.seq (.seq (.region [⟨some 18, .move (.tmp 8), none⟩, ⟨some 6, .move (.cst (.int .i64 0)), none⟩, ⟨some 7, .move (.tmp 18), none⟩]) (.clr [18, 8])) .ret)) (.seq (.clr [17, 8]) .skip)))) (.seq (.seq (.region [⟨some 19, .move (.tmp 0), none⟩, ⟨some 20, .nilck (.tmp 19), none⟩, ⟨some 21, .faddr 17 (.tmp 20), none⟩, ⟨some 22, .load none (.tmp 21), none⟩, ⟨some 23, .load (some 2) (.tmp 4), none⟩, ⟨some 24, .mget true [.i .i64, .i .i64] .nils false (.tmp 22) (.tmp 23), none⟩, ⟨some 9, .move (.tmp 24), none⟩]) (.clr [24, 23, 22, 21, 20, 19])) (.seq (.seq (.region [⟨some 25, .move (.tmp 2), none⟩, ⟨some 26, .move (.tmp 9), none⟩, ⟨some 27, .lenS (.tmp 26), none⟩, ⟨some 28, .minmax false [.tmp 25, .tmp 27], none⟩, ⟨some 2, .move (.tmp 28), none⟩]) (.clr [28, 27, 26, 25])) (.seq (.seq (.seq (.region [⟨some 29, .move (.tmp 9), none⟩, ⟨some 30, .move (.tmp 2), none⟩, ⟨some 31, .slS 2 (.tmp 29) none (some (.tmp 30)) none, none⟩, ⟨some 32, .lenS (.tmp 31), none⟩, ⟨some 33, .move (.cst (.int .i64 0)), none⟩]) (.clr [30, 29])) (.block 0 (.loop [] [] (.seq (.region [⟨some 34, .bin .lss (.tmp 33) (.tmp 32), none⟩]) (.seq (.cond (.tmp 34) (.seq (.clr [34]) .skip) (.seq (.clr [34, 33, 32, 31]) (.exit 0))) (.seq (.block 1 (.seq (.seq (.region [⟨some 35, .iaddrS 2 (.tmp 31) (.tmp 33), none⟩, ⟨some 36, .load (some 2) (.tmp 35), none⟩, ⟨some 11, .allocz 1 [.int .i64 0, .int .i64 0], none⟩, ⟨none, .store 2 (.tmp 11) (.tmp 36), none⟩]) (.clr [36, 35])) (.seq (.region [⟨some 37, .move (.tmp 0), none⟩, ⟨some 38, .faddr 0 (.tmp 11), none⟩, ⟨some 39, .load none (.tmp 38), none⟩, ⟨some 40, .nilck (.tmp 37), none⟩, ⟨some 41, .faddr 0 (.tmp 40), none⟩, ⟨some 42, .iaddrA 16 1 (.tmp 41) (.tmp 39), none⟩, ⟨some 43, .load none (.tmp 42), none⟩, ⟨some 44, .faddr 1 (.tmp 11), none⟩, ⟨some 45, .load none (.tmp 44), none⟩, ⟨some 46, .iaddrS 101 (.tmp 43) (.tmp 45), none⟩, ⟨some 47, .faddr 100 (.tmp 46), none⟩, ⟨none, .store 1 (.tmp 47) (.cst (.bool true)), none⟩]) (.clr [47, 46, 45, 44, 43, 42, 41, 40, 39, 38, 37, 11])))) (.seq (.region [⟨some 48, .bin .add (.tmp 33) (.cst (.int .i64 1)), none⟩, ⟨some 33, .move (.tmp 48), none⟩]) (.clr [48])))))))) (.seq (.seq (.region [⟨some 49, .move (.tmp 0), none⟩, ⟨some 50, .nilck (.tmp 49), none⟩, ⟨some 51, .faddr 17 (.tmp 50), none⟩, ⟨some 52, .load none (.tmp 51), none⟩, ⟨some 53, .load (some 2) (.tmp 4), none⟩, ⟨some 54, .move (.tmp 9), none⟩, ⟨some 55, .move (.tmp 2), none⟩, ⟨some 56, .slS 2 (.tmp 54) (some (.tmp 55)) none none, none⟩, ⟨none, .mput true [.i .i64, .i .i64] (.tmp 52) (.tmp 53) (.tmp 56), none⟩]) (.clr [56, 55, 54, 53, 52, 51, 50, 49])) (.seq (.seq (.seq (.region [⟨some 57, .move (.tmp 2), none⟩, ⟨some 58, .move (.tmp 9), none⟩, ⟨some 59, .lenS (.tmp 58), none⟩, ⟨some 60, .bin .eql (.tmp 57) (.tmp 59), none⟩]) (.clr [59, 58, 57, 9])) (.cond (.tmp 60) (.seq (.clr [60]) (.seq (.region [⟨some 61, .move (.tmp 0), none⟩, ⟨some 62, .nilck (.tmp 61), none⟩, ⟨some 63, .faddr 17 (.tmp 62), none⟩, ⟨some 64, .load none (.tmp 63), none⟩, ⟨some 65, .load (some 2) (.tmp 4), none⟩, ⟨none, .mdel true [.i .i64, .i .i64] (.tmp 64) (.tmp 65), none⟩]) (.clr [65, 64, 63, 62, 61, 4, 0]))) (.seq (.clr [60, 4, 0]) .skip))) (.seq (.seq (.region [⟨some 66, .move (.tmp 2), none⟩, ⟨some 6, .move (.tmp 66), none⟩, ⟨some 7, .move (.cst (.int .i64 0)), none⟩]) (.clr [66, 2])) .ret))))))), res := [.tmp 6, .tmp 7] }
def am13 : AFunc := { nargs := 3, nt := 72, sites := 2, mode := .keep, body := .seq (.seq (.region [⟨some 4, .box 0 (.tmp 1), none⟩, ⟨some 6, .move (.cst (.int .i64 0)), none⟩, ⟨some 7, .move (.cst (.int .i64 0)), none⟩]) (.clr [7, 6, 1])) (.seq (.seq (.seq (.region [⟨some 14, .move (.tmp 0), none⟩, ⟨some 15, .load (some 2) (.tmp 4), none⟩, ⟨some 16, .move (.tmp 2), none⟩, ⟨some 17, .call 12 [.tmp 14, .tmp 15, .tmp 16], none⟩, ⟨some 13, .move (.tmp 17), none⟩, ⟨some 18, .extract (.tmp 13) 0, none⟩, ⟨some 19, .extract (.tmp 13) 1, none⟩, ⟨some 8, .move (.tmp 18), none⟩, ⟨some 9, .move (.tmp 19), none⟩]) (.clr [19, 18, 17, 16, 15, 14, 13, 8, 2])) (.seq (.seq (.region [⟨some 20, .move (.tmp 9), none⟩, ⟨some 21, .bin .neq (.tmp 20) (.cst (.int .i64 0)), none⟩]) (.clr [20])) (.cond (.tmp 21) (.seq (.clr [21, 4, 0]) (.seq (.seq (.region [⟨some 22, .move (.tmp 9), none⟩, ⟨some 6, .move (.cst (.int .i64 0)), none⟩, ⟨some 7, .move (.tmp 22), none⟩]) (.clr [22, 9])) .ret)) (.seq (.clr [21, 9]) .skip)))) (.seq (.seq (.region [⟨some 23, .move (.tmp 0), none⟩, ⟨some 24, .nilck (.tmp 23), none⟩, ⟨some 25, .faddr 17 (.tmp 24), none⟩, ⟨some 26, .load none (.tmp 25), none⟩, ⟨some 27, .load (some 2) (.tmp 4), none⟩, ⟨some 28, .mget true [.i .i64, .i .i64] .nils false (.tmp 26) (.tmp 27), none⟩, ⟨some 10, .move (.tmp 28), none⟩]) (.clr [28, 27, 26, 25, 24, 23])) (.seq (.seq (.region [⟨some 29, .move (.tmp 10), none⟩, ⟨some 30, .lenS (.tmp 29), none⟩, ⟨some 31, .move (.cst (.int .i64 0)), none⟩]) (.block 0 (.loop [] [] (.seq (.region [⟨some 32, .bin .lss (.tmp 31) (.tmp 30), none⟩]) (.seq (.cond (.tmp 32) (.seq (.clr [32]) .skip) (.seq (.clr [32, 31, 30, 29]) (.exit 0))) (.seq (.block 1 (.seq (.seq (.region [⟨some 33, .iaddrS 2 (.tmp 29) (.tmp 31), none⟩, ⟨some 34, .load (some 2) (.tmp 33), none⟩, ⟨some 12, .allocz 1 [.int .i64 0, .int .i64 0], none⟩, ⟨none, .store 2 (.tmp 12) (.tmp 34), none⟩]) (.clr [34, 33])) (.seq (.seq (.region [⟨some 35, .faddr 1 (.tmp 12), none⟩, ⟨some 36, .load none (.tmp 35), none⟩, ⟨some 37, .move (.tmp 0), none⟩, ⟨some 38, .faddr 0 (.tmp 12), none⟩, ⟨some 39, .load none (.tmp 38), none⟩, ⟨some 40, .nilck (.tmp 37), none⟩, ⟨some 41, .faddr 0 (.tmp 40), none⟩, ⟨some 42, .iaddrA 16 1 (.tmp 41) (.tmp 39), none⟩, ⟨some 43, .load none (.tmp 42), none⟩, ⟨some 44, .lenS (.tmp 43), none⟩, ⟨some 45, .bin .lss (.tmp 36) (.tmp 44), none⟩]) (.clr [44, 43, 42, 41, 40, 39, 38, 37, 36, 35])) (.cond (.tmp 45) (.seq (.clr [45]) (.seq (.region [⟨some 46, .move (.tmp 0), none⟩, ⟨some 47, .faddr 0 (.tmp 12), none⟩, ⟨some 48, .load none (.tmp 47), none⟩, ⟨some 49, .move (.tmp 0), none⟩, ⟨some 50, .faddr 0 (.tmp 12), none⟩, ⟨some 51, .load none (.tmp 50), none⟩, ⟨some 52, .nilck (.tmp 49), none⟩, ⟨some 53, .faddr 0 (.tmp 52), none⟩, ⟨some 54, .iaddrA 16 1 (.tmp 53) (.tmp 51), none⟩, ⟨some 55, .load none (.tmp 54), none⟩, ⟨some 56, .faddr 1 (.tmp 12), none⟩, ⟨some 57, .load none (.tmp 56), none⟩, ⟨some 58, .faddr 1 (.tmp 12), none⟩, ⟨some 59, .load none (.tmp 58), none⟩, ⟨some 60, .slS 101 (.tmp 55) none (some (.tmp 57)) (some (.tmp 59)), none⟩, ⟨some 61, .nilck (.tmp 46), none⟩, ⟨some 62, .faddr 0 (.tmp 61), none⟩, ⟨some 63, .iaddrA 16 1 (.tmp 62) (.tmp 48), none⟩, ⟨none, .store 1 (.tmp 63) (.tmp 60), none⟩]) (.clr [63, 62, 61, 60, 59, 58, 57, 56, 55, 54, 53, 52, 51, 50, 49, 48, 47, 46, 12]))) (.seq (.clr [45, 12]) .skip))))) (.seq (.region [⟨some 64, .bin .add (.tmp 31) (.cst (.int .i64 1)), none⟩, ⟨some 31, .move (.tmp 64), none⟩]) (.clr [64])))))))) (.seq (.seq (.region [⟨some 65, .move (.tmp 0), none⟩, ⟨some 66, .nilck (.tmp 65), none⟩, ⟨some 67, .faddr 17 (.tmp 66), none⟩, ⟨some 68, .load none (.tmp 67), none⟩, ⟨some 69, .load (some 2) (.tmp 4), none⟩, ⟨none, .mdel true [.i .i64, .i .i64] (.tmp 68) (.tmp 69), none⟩]) (.clr [69, 68, 67, 66, 65, 4, 0])) (.seq (.seq (.region [⟨some 70, .move (.tmp 10), none⟩, ⟨some 71, .lenS (.tmp 70), none⟩, ⟨some 6, .move (.tmp 71), none⟩, ⟨some 7, .move (.cst (.int .i64 0)), none⟩]) (.clr [71, 70, 10])) .ret))))), res := [.tmp 6, .tmp 7] }
def am14 : AFunc := { nargs := 2, nt := 21, sites := 4, mode := .keep, body := .seq (.region [⟨some 4, .move (.cst .nils), none⟩, ⟨some 5, .move (.cst (.bool false)), none⟩]) (.seq (.seq (.region [⟨some 9, .move (.tmp 0), none⟩, ⟨some 10, .move (.tmp 1), none⟩, ⟨some 11, .call 30 [.tmp 9, .tmp 10], none⟩, ⟨some 6, .move (.tmp 11), none⟩]) (.clr [11, 10, 9, 1, 0])) (.seq (.seq (.seq (.region [⟨some 12, .move (.tmp 6), none⟩, ⟨some 13, .eqnil false (NK.f) (.tmp 12), none⟩]) (.clr [12])) (.cond (.tmp 13) (.seq (.clr [15, 13, 6, 5, 4]) (.seq (.region [⟨some 4, .move (.cst .nils), none⟩, ⟨some 5, .move (.cst (.bool false)), none⟩]) .ret)) (.seq (.clr [13]) .skip))) (.seq (.region [⟨some 7, .allocz 0 [.nils], none⟩]) (.seq (.seq (.seq (.region [⟨some 14, .move (.tmp 6), none⟩]) (.clr [6])) (.block 0 (.rangeF (.tmp 14) [15] (.seq (.region [⟨some 8, .allocz 1 [.int .i64 0, .int .i64 0, .int .i64 0, .int .i64 0, .int .u8 0, .int .u8 0, .int .u8 0, .int .u8 0, .int .u8 0, .int .u8 0, .int .u8 0, .int .u8 0, .int .u8 0, .int .u8 0, .int .u8 0, .int .u8 0, .int .u8 0, .int .u8 0, .int .u8 0, .int .u8 0, .int .u8 0, .int .u8 0, .int .u8 0, .int .u8 0, .int .u8 0, .int .u8 0, .int .u8 0, .int .u8 0, .int .u8 0, .int .u8 0, .int .u8 0, .int .u8 0, .int .u8 0, .int .u8 0, .int .u8 0, .int .u8 0, .int .u8 0, .int .u8 0, .int .u8 0, .int .u8 0, .int .u8 0, .int .u8 0, .int .u8 0, .int .u8 0, .int .u8 0, .int .u8 0, .int .u8 0, .int .u8 0, .int .u8 0, .int .u8 0, .int .u8 0, .int .u8 0, .int .u8 0, .int .u8 0, .int .u8 0, .int .u8 0, .int .u8 0, .int .u8 0, .int .u8 0, .int .u8 0, .int .u8 0, .int .u8 0, .int .u8 0, .int .u8 0, .int .u8 0, .int .u8 0, .int .u8 0, .int .u8 0, .int .u8 0, .int .u8 0, .int .u8 0, .int .u8 0, .int .u8 0, .int .u8 0, .int .u8 0, .int .u8 0, .int .u8 0, .int .u8 0, .int .u8 0, .int .u8 0, .int .u8 0, .int .u8 0, .int .u8 0, .int .u8 0, .int .u8 0, .int .u8 0, .int .u8 0, .int .u8 0, .int .u8 0, .int .u8 0, .int .u8 0, .int .u8 0, .int .u8 0, .int .u8 0, .int .u8 0, .int .u8 0, .int .u8 0, .int .u8 0, .int .u8 0, .int .u8 0, .bool false], none⟩, ⟨none, .store 101 (.tmp 8) (.tmp 15), none⟩]) (.clr [15])) (.block 1 (.seq (.region [⟨some 16, .load none (.tmp 7), none⟩, ⟨some 17, .load (some 101) (.tmp 8), none⟩, ⟨some 18, .bslice [.int .i64 0, .int .i64 0, .int .i64 0, .int .i64 0, .int .u8 0, .int .u8 0, .int .u8 0, .int .u8 0, .int .u8 0, .int .u8 0, .int .u8 0, .int .u8 0, .int .u8 0, .int .u8 0, .int .u8 0, .int .u8 0, .int .u8 0, .int .u8 0, .int .u8 0, .int .u8 0, .int .u8 0, .int .u8 0, .int .u8 0, .int .u8 0, .int .u8 0, .int .u8 0, .int .u8 0, .int .u8 0, .int .u8 0, .int .u8 0, .int .u8 0, .int .u8 0, .int .u8 0, .int .u8 0, .int .u8 0, .int .u8 0, .int .u8 0, .int .u8 0, .int .u8 0, .int .u8 0, .int .u8 0, .int .u8 0, .int .u8 0, .int .u8 0, .int .u8 0, .int .u8 0, .int .u8 0, .int .u8 0, .int .u8 0, .int .u8 0, .int .u8 0, .int .u8 0, .int .u8 0, .int .u8 0, .int .u8 0, .int .u8 0, .int .u8 0, .int .u8 0, .int .u8 0, .int .u8 0, .int .u8 0, .int .u8 0, .int .u8 0, .int .u8 0, .int .u8 0, .int .u8 0, .int .u8 0, .int .u8 0, .int .u8 0, .int .u8 0, .int .u8 0, .int .u8 0, .int .u8 0, .int .u8 0, .int .u8 0, .int .u8 0, .int .u8 0, .int .u8 0, .int .u8 0, .int .u8 0, .int .u8 0, .int .u8 0, .int .u8 0, .int .u8 0, .int .u8 0, .int .u8 0, .int .u8 0, .int .u8 0, .int .u8 0, .int .u8 0, .int .u8 0, .int .u8 0, .int .u8 0, .int .u8 0, .int .u8 0, .int .u8 0, .int .u8 0, .int .u8 0, .int .u8 0, .int .u8 0, .bool false] 1 101 [(0, 101, .tmp 17)], none⟩, ⟨some 19, .append 2 101 136 (.tmp 16) (.tmp 18), none⟩, ⟨none, .store 1 (.tmp 7) (.tmp 19), none⟩]) (.clr [19, 18, 17, 16, 8, 7]))) 14 0 3))) (.seq (.seq (.region [⟨some 20, .load none (.tmp 7), none⟩, ⟨some 4, .move (.tmp 20), none⟩, ⟨some 5, .move (.cst (.bool true)), none⟩]) (.clr [20, 7])) .ret))))), res := [.tmp 4, .tmp 5] }
def am17 : AFunc := { nargs := 2, nt := 84, sites := 2, mode := .keep, body := .seq (.seq (.region [⟨some 4, .move (.cst (.bool false)), none⟩]) (.clr [4])) (.seq (.seq (.seq (.region [⟨some 8, .move (.tmp 0), none⟩, ⟨some 9, .call 26 [.tmp 8], none⟩, ⟨some 10, .un .not (.tmp 9), none⟩, ⟨some 11, .move (.tmp 10), none⟩, ⟨some 12, .move (.tmp 1), some (11, false)⟩, ⟨some 13, .call 26 [.tmp 12], some (11, false)⟩, ⟨some 14, .un .not (.tmp 13), some (11, false)⟩, ⟨some 15, .pick (.tmp 11) (.cst (.bool true)) (.tmp 14), none⟩]) (.clr [14, 13, 12, 11, 10, 9, 8])) (.cond (.tmp 15) (.seq (.clr [15]) (.seq (.seq (.region [⟨some 16, .move (.tmp 0), none⟩, ⟨some 17, .call 26 [.tmp 16], none⟩, ⟨some 18, .move (.tmp 1), none⟩, ⟨some 19, .call 26 [.tmp 18], none⟩, ⟨some 20, .eqc false false [.b] (.tmp 17) (.tmp 19), none⟩, ⟨some 4, .move (.tmp 20), none⟩]) (.clr [20, 19, 18, 17, 16, 1, 0])) .ret)) (.seq (.clr [15]) .skip))) (.seq (.seq (.seq (.region [⟨some 21, .move (.tmp 0), none⟩, ⟨some 22, .nilck (.tmp 21), none⟩, ⟨some 23, .faddr 16 (.tmp 22), none⟩, ⟨some 24, .load none (.tmp 23), none⟩, ⟨some 25, .move (.tmp 1), none⟩, ⟨some 26, .nilck (.tmp 25), none⟩, ⟨some 27, .faddr 16 (.tmp 26), none⟩, ⟨some 28, .load none (.tmp 27), none⟩, ⟨some 29, .bin .neq (.tmp 24) (.tmp 28), none⟩, ⟨some 30, .move (.tmp 29), none⟩, ⟨some 31, .move (.tmp 0), some (30, false)⟩, ⟨some 32, .nilck (.tmp 31), some (30, false)⟩, ⟨some 33, .faddr 17 (.tmp 32), some (30, false)⟩, ⟨some 34, .load none (.tmp 33), some (30, false)⟩, ⟨some 35, .mlen (.tmp 34), some (30, false)⟩, ⟨some 36, .move (.tmp 1), some (30, false)⟩, ⟨some 37, .nilck (.tmp 36), some (30, false)⟩, ⟨some 38, .faddr 17 (.tmp 37), some (30, false)⟩, ⟨some 39, .load none (.tmp 38), some (30, false)⟩, ⟨some 40, .mlen (.tmp 39), some (30, false)⟩, ⟨some 41, .bin .neq (.tmp 35) (.tmp 40), some (30, false)⟩, ⟨some 42, .pick (.tmp 30) (.cst (.bool true)) (.tmp 41), none⟩]) (.clr [41, 40, 39, 38, 37, 36, 35, 34, 33, 32, 31, 30, 29, 28, 27, 26, 25, 24, 23, 22, 21])) (.cond (.tmp 42) (.seq (.clr [42, 1, 0]) (.seq (.region [⟨some 4, .move (.cst (.bool false)), none⟩]) .ret)) (.seq (.clr [42]) .skip))) (.seq (.seq (.seq (.region [⟨some 43, .move (.tmp 0), none⟩, ⟨some 44, .nilck (.tmp 43), none⟩, ⟨some 45, .faddr 16 (.tmp 44), none⟩, ⟨some 46, .load none (.tmp 45), none⟩, ⟨some 47, .move (.cst (.int .i64 0)), none⟩]) (.clr [45, 44, 43])) (.block 0 (.loop [] [] (.seq (.region [⟨some 48, .bin .lss (.tmp 47) (.tmp 46), none⟩]) (.seq (.cond (.tmp 48) (.seq (.clr [48]) .skip) (.seq (.clr [48, 47, 46]) (.exit 0))) (.seq (.block 1 (.seq (.seq (.region [⟨some 49, .move (.tmp 47), none⟩, ⟨some 5, .move (.tmp 49), none⟩]) (.clr [49])) (.seq (.seq (.region [⟨some 50, .move (.tmp 0), none⟩, ⟨some 51, .move (.tmp 5), none⟩, ⟨some 52, .nilck (.tmp 50), none⟩, ⟨some 53, .faddr 0 (.tmp 52), none⟩, ⟨some 54, .iaddrA 16 1 (.tmp 53) (.tmp 51), none⟩, ⟨some 55, .load none (.tmp 54), none⟩, ⟨some 56, .move (.tmp 1), none⟩, ⟨some 57, .move (.tmp 5), none⟩, ⟨some 58, .nilck (.tmp 56), none⟩, ⟨some 59, .faddr 0 (.tmp 58), none⟩, ⟨some 60, .iaddrA 16 1 (.tmp 59) (.tmp 57), none⟩, ⟨some 61, .load none (.tmp 60), none⟩, ⟨some 62, .call 34 [.tmp 55, .tmp 61], none⟩, ⟨some 63, .un .not (.tmp 62), none⟩]) (.clr [62, 61, 60, 59, 58, 57, 56, 55, 54, 53, 52, 51, 50, 5])) (.cond (.tmp 63) (.seq (.clr [63, 47, 46, 1, 0]) (.seq (.region [⟨some 4, .move (.cst (.bool false)), none⟩]) .ret)) (.seq (.clr [63]) .skip))))) (.seq (.region [⟨some 64, .bin .add (.tmp 47) (.cst (.int .i64 1)), none⟩, ⟨some 47, .move (.tmp 64), none⟩]) (.clr [64])))))))) (.seq (.seq (.region [⟨some 65, .move (.tmp 0), none⟩, ⟨some 66, .nilck (.tmp 65), none⟩, ⟨some 67, .faddr 17 (.tmp 66), none⟩, ⟨some 68, .load none (.tmp 67), none⟩]) (.block 2 (.rangeM (.tmp 68) 69 70 71 72 0 [83, 82, 81, 80, 79, 78, 77, 76, 75, 74, 73, 72, 71, 70, 7, 6] [1] (.block 3 (.seq (.region [⟨some 73, .extract (.tmp 72) 0, none⟩, ⟨some 74, .extract (.tmp 72) 1, none⟩, ⟨some 6, .allocz 1 [.int .i64 0, .int .i64 0], none⟩, ⟨none, .store 2 (.tmp 6) (.tmp 73), none⟩, ⟨some 7, .move (.tmp 74), none⟩]) (.seq (.seq (.region [⟨some 75, .move (.tmp 7), none⟩, ⟨some 76, .move (.tmp 1), none⟩, ⟨some 77, .nilck (.tmp 76), none⟩, ⟨some 78, .faddr 17 (.tmp 77), none⟩, ⟨some 79, .load none (.tmp 78), none⟩, ⟨some 80, .load (some 2) (.tmp 6), none⟩, ⟨some 81, .mget true [.i .i64, .i .i64] .nils false (.tmp 79) (.tmp 80), none⟩, ⟨some 82, .call 35 [.tmp 75, .tmp 81], none⟩, ⟨some 83, .un .not (.tmp 82), none⟩]) (.clr [82, 81, 80, 79, 78, 77, 76, 75, 7, 6])) (.cond (.tmp 83) (.seq (.clr [83, 69, 1]) (.seq (.region [⟨some 4, .move (.cst (.bool false)), none⟩]) .ret)) (.seq (.clr [83]) .skip)))))))) (.seq (.region [⟨some 4, .move (.cst (.bool true)), none⟩]) .ret))))), res := [.tmp 4] }
def am20 : AFunc := { nargs := 1, nt := 7, sites := 2, mode := .pure, body := .seq (.region [⟨some 2, .allocz 0 [.int .u8 0, .int .u8 0, .int .u8 0, .int .u8 0, .int .u8 0, .int .u8 0, .int .u8 0, .int .u8 0, .int .u8 0, .int .u8 0, .int .u8 0, .int .u8 0, .int .u8 0, .int .u8 0, .int .u8 0, .int .u8 0, .int .u8 0, .int .u8 0, .int .u8 0, .int .u8 0, .int .u8 0, .int .u8 0, .int .u8 0, .int .u8 0, .int .u8 0, .int .u8 0, .int .u8 0, .int .u8 0, .int .u8 0, .int .u8 0, .int .u8 0, .int .u8 0, .int .u8 0, .int .u8 0, .int .u8 0, .int .u8 0, .int .u8 0, .int .u8 0, .int .u8 0, .int .u8 0, .int .u8 0, .int .u8 0, .int .u8 0, .int .u8 0, .int .u8 0, .int .u8 0, .int .u8 0, .int .u8 0, .int .u8 0, .int .u8 0, .int .u8 0, .int .u8 0, .int .u8 0, .int .u8 0, .int .u8 0, .int .u8 0, .int .u8 0, .int .u8 0, .int .u8 0, .int .u8 0, .int .u8 0, .int .u8 0, .int .u8 0, .int .u8 0, .int .u8 0, .int .u8 0, .int .u8 0, .int .u8 0, .int .u8 0, .int .u8 0, .int .u8 0, .int .u8 0, .int .u8 0, .int .u8 0, .int .u8 0, .int .u8 0, .int .u8 0, .int .u8 0, .int .u8 0, .int .u8 0, .int .u8 0, .int .u8 0, .int .u8 0, .int .u8 0, .int .u8 0, .int .u8 0, .int .u8 0, .int .u8 0, .int .u8 0, .int .u8 0, .int .u8 0, .int .u8 0, .int .u8 0, .int .u8 0, .int .u8 0, .int .u8 0], none⟩]) (.seq (.region [⟨some 3, .allocz 1 [.int .u8 0, .int .u8 0, .int .u8 0, .int .u8 0, .int .u8 0, .int .u8 0, .int .u8 0, .int .u8 0, .int .u8 0, .int .u8 0, .int .u8 0, .int .u8 0, .int .u8 0, .int .u8 0, .int .u8 0, .int .u8 0, .int .u8 0, .int .u8 0, .int .u8 0, .int .u8 0, .int .u8 0, .int .u8 0, .int .u8 0, .int .u8 0, .int .u8 0, .int .u8 0, .int .u8 0, .int .u8 0, .int .u8 0, .int .u8 0, .int .u8 0, .int .u8 0, .int .u8 0, .int .u8 0, .int .u8 0, .int .u8 0, .int .u8 0, .int .u8 0, .int .u8 0, .int .u8 0, .int .u8 0, .int .u8 0, .int .u8 0, .int .u8 0, .int .u8 0, .int .u8 0, .int .u8 0, .int .u8 0, .int .u8 0, .int .u8 0, .int .u8 0, .int .u8 0, .int .u8 0, .int .u8 0, .int .u8 0, .int .u8 0, .int .u8 0, .int .u8 0, .int .u8 0, .int .u8 0, .int .u8 0, .int .u8 0, .int .u8 0, .int .u8 0, .int .u8 0, .int .u8 0, .int .u8 0, .int .u8 0, .int .u8 0, .int .u8 0, .int .u8 0, .int .u8 0, .int .u8 0, .int .u8 0, .int .u8 0, .int .u8 0, .int .u8 0, .int .u8 0, .int .u8 0, .int .u8 0, .int .u8 0, .int .u8 0, .int .u8 0, .int .u8 0, .int .u8 0, .int .u8 0, .int .u8 0, .int .u8 0, .int .u8 0, .int .u8 0, .int .u8 0, .int .u8 0, .int .u8 0, .int .u8 0, .int .u8 0, .int .u8 0], none⟩]) (.seq (.seq (.region [⟨some 4, .move (.tmp 0), none⟩, ⟨some 5, .iaddrA 96 1 (.tmp 3) (.cst (.int .i64 0)), none⟩, ⟨none, .store 1 (.tmp 5) (.tmp 4), none⟩]) (.clr [5, 4, 0])) (.seq (.seq (.region [⟨some 6, .load (some 96) (.tmp 3), none⟩, ⟨none, .store 96 (.tmp 2) (.tmp 6), none⟩]) (.clr [6, 3])) .ret))), res := [.cell 2 (some 96)] }
def am21 : AFunc := { nargs := 2, nt := 11, sites := 1, mode := .keep, body := .seq (.seq (.region [⟨some 4, .allocz 0 [.int .i64 0, .int .u8 0, .int .u8 0, .int .u8 0, .int .u8 0, .int .u8 0, .int .u8 0, .int .u8 0, .int .u8 0, .int .u8 0, .int .u8 0, .int .u8 0, .int .u8 0, .int .u8 0, .int .u8 0, .int .u8 0, .int .u8 0, .int .u8 0, .int .u8 0, .int .u8 0, .int .u8 0, .int .u8 0, .int .u8 0, .int .u8 0, .int .u8 0, .int .u8 0, .int .u8 0, .int .u8 0, .int .u8 0, .int .u8 0, .int .u8 0, .int .u8 0, .int .u8 0, .int .u8 0, .int .u8 0, .int .u8 0, .int .u8 0, .int .u8 0, .int .u8 0, .int .u8 0, .int .u8 0, .int .u8 0, .int .u8 0, .int .u8 0, .int .u8 0, .int .u8 0, .int .u8 0, .int .u8 0, .int .u8 0, .int .u8 0, .int .u8 0, .int .u8 0, .int .u8 0, .int .u8 0, .int .u8 0, .int .u8 0, .int .u8 0, .int .u8 0, .int .u8 0, .int .u8 0, .int .u8 0, .int .u8 0, .int .u8 0, .int .u8 0, .int .u8 0, .int .u8 0, .int .u8 0, .int .u8 0, .int .u8 0, .int .u8 0, .int .u8 0, .int .u8 0, .int .u8 0, .int .u8 0, .int .u8 0, .int .u8 0, .int .u8 0, .int .u8 0, .int .u8 0, .int .u8 0, .int .u8 0, .int .u8 0, .int .u8 0, .int .u8 0, .int .u8 0, .int .u8 0, .int .u8 0, .int .u8 0, .int .u8 0, .int .u8 0, .int .u8 0, .int .u8 0, .int .u8 0, .int .u8 0, .int .u8 0, .int .u8 0, .int .u8 0], none⟩, ⟨some 5, .move (.cst (.int .i64 0)), none⟩]) (.clr [5])) (.seq (.seq (.region [⟨some 6, .move (.tmp 0), none⟩, ⟨some 7, .move (.tmp 1), none⟩, ⟨some 8, .call 45 [.tmp 6, .tmp 7, .cst (.func 46 [] [])], none⟩, ⟨some 9, .extract (.tmp 8) 0, none⟩, ⟨some 10, .extract (.tmp 8) 1, none⟩, ⟨none, .store 97 (.tmp 4) (.tmp 9), none⟩, ⟨some 5, .move (.tmp 10), none⟩]) (.clr [10, 9, 8, 7, 6, 1, 0])) .ret), res := [.cell 4 (some 97), .tmp 5] }
def am22 : AFunc := { nargs := 1, nt := 120, sites := 4, mode := .keep, body := .seq (.seq (.region [⟨some 2, .move (.cst (.bool false)), none⟩]) (.clr [2])) (.seq (.seq (.region [⟨some 18, .build [.int .i64 0, .int .i64 0] [(0, 1, .cst (.int .i64 0)), (1, 1, .cst (.int .i64 1))], none⟩, ⟨some 3, .allocz 0 [.int .i64 0, .int .i64 0], none⟩, ⟨none, .store 2 (.tmp 3) (.tmp 18), none⟩]) (.clr [18])) (.seq (.seq (.region [⟨some 20, .move (.tmp 0), none⟩, ⟨some 21, .load (some 2) (.tmp 3), none⟩, ⟨some 22, .call 20 [.cst (.int .u8 0)], none⟩, ⟨some 23, .call 11 [.tmp 20, .tmp 21, .cst (.int .i64 0), .tmp 22], none⟩, ⟨some 19, .move (.tmp 23), none⟩, ⟨some 24, .extract (.tmp 19) 0, none⟩, ⟨some 25, .extract (.tmp 19) 1, none⟩, ⟨some 4, .move (.tmp 24), none⟩, ⟨some 5, .move (.tmp 25), none⟩]) (.clr [25, 24, 23, 22, 21, 20, 19, 4])) (.seq (.seq (.region [⟨some 27, .move (.tmp 0), none⟩, ⟨some 28, .load (some 2) (.tmp 3), none⟩, ⟨some 29, .call 12 [.tmp 27, .tmp 28, .cst (.int .i64 0)], none⟩, ⟨some 26, .move (.tmp 29), none⟩, ⟨some 30, .extract (.tmp 26) 0, none⟩, ⟨some 31, .extract (.tmp 26) 1, none⟩, ⟨some 6, .move (.tmp 30), none⟩, ⟨some 7, .move (.tmp 31), none⟩]) (.clr [31, 30, 29, 28, 27, 26, 6])) (.seq (.seq (.region [⟨some 33, .move (.tmp 0), none⟩, ⟨some 34, .load (some 2) (.tmp 3), none⟩, ⟨some 35, .call 13 [.tmp 33, .tmp 34, .cst (.int .i64 0)], none⟩, ⟨some 32, .move (.tmp 35), none⟩, ⟨some 36, .extract (.tmp 32) 0, none⟩, ⟨some 37, .extract (.tmp 32) 1, none⟩, ⟨some 8, .move (.tmp 36), none⟩, ⟨some 9, .move (.tmp 37), none⟩]) (.clr [37, 36, 35, 34, 33, 32, 8])) (.seq (.seq (.region [⟨some 39, .move (.tmp 0), none⟩, ⟨some 40, .call 23 [.tmp 39, .cst (.int .i64 0)], none⟩, ⟨some 38, .move (.tmp 40), none⟩, ⟨some 41, .extract (.tmp 38) 0, none⟩, ⟨some 42, .extract (.tmp 38) 1, none⟩, ⟨some 10, .allocz 1 [.int .i64 0, .int .u8 0, .int .u8 0, .int .u8 0, .int .u8 0, .int .u8 0, .int .u8 0, .int .u8 0, .int .u8 0, .int .u8 0, .int .u8 0, .int .u8 0, .int .u8 0, .int .u8 0, .int .u8 0, .int .u8 0, .int .u8 0, .int .u8 0, .int .u8 0, .int .u8 0, .int .u8 0, .int .u8 0, .int .u8 0, .int .u8 0, .int .u8 0, .int .u8 0, .int .u8 0, .int .u8 0, .int .u8 0, .int .u8 0, .int .u8 0, .int .u8 0, .int .u8 0, .int .u8 0, .int .u8 0, .int .u8 0, .int .u8 0, .int .u8 0, .int .u8 0, .int .u8 0, .int .u8 0, .int .u8 0, .int .u8 0, .int .u8 0, .int .u8 0, .int .u8 0, .int .u8 0, .int .u8 0, .int .u8 0, .int .u8 0, .int .u8 0, .int .u8 0, .int .u8 0, .int .u8 0, .int .u8 0, .int .u8 0, .int .u8 0, .int .u8 0, .int .u8 0, .int .u8 0, .int .u8 0, .int .u8 0, .int .u8 0, .int .u8 0, .int .u8 0, .int .u8 0, .int .u8 0, .int .u8 0, .int .u8 0, .int .u8 0, .int .u8 0, .int .u8 0, .int .u8 0, .int .u8 0, .int .u8 0, .int .u8 0, .int .u8 0, .int .u8 0, .int .u8 0, .int .u8 0, .int .u8 0, .int .u8 0, .int .u8 0, .int .u8 0, .int .u8 0, .int .u8 0, .int .u8 0, .int .u8 0, .int .u8 0, .int .u8 0, .int .u8 0, .int .u8 0, .int .u8 0, .int .u8 0, .int .u8 0, .int .u8 0, .int .u8 0], none⟩, ⟨none, .store 97 (.tmp 10) (.tmp 41), none⟩, ⟨some 11, .move (.tmp 42), none⟩]) (.clr [42, 41, 40, 39, 38, 10])) (.seq (.seq (.region [⟨some 44, .move (.tmp 0), none⟩, ⟨some 45, .call 21 [.tmp 44, .cst (.int .i64 0)], none⟩, ⟨some 43, .move (.tmp 45), none⟩, ⟨some 46, .extract (.tmp 43) 0, none⟩, ⟨some 47, .extract (.tmp 43) 1, none⟩, ⟨some 12, .allocz 2 [.int .i64 0, .int .u8 0, .int .u8 0, .int .u8 0, .int .u8 0, .int .u8 0, .int .u8 0, .int .u8 0, .int .u8 0, .int .u8 0, .int .u8 0, .int .u8 0, .int .u8 0, .int .u8 0, .int .u8 0, .int .u8 0, .int .u8 0, .int .u8 0, .int .u8 0, .int .u8 0, .int .u8 0, .int .u8 0, .int .u8 0, .int .u8 0, .int .u8 0, .int .u8 0, .int .u8 0, .int .u8 0, .int .u8 0, .int .u8 0, .int .u8 0, .int .u8 0, .int .u8 0, .int .u8 0, .int .u8 0, .int .u8 0, .int .u8 0, .int .u8 0, .int .u8 0, .int .u8 0, .int .u8 0, .int .u8 0, .int .u8 0, .int .u8 0, .int .u8 0, .int .u8 0, .int .u8 0, .int .u8 0, .int .u8 0, .int .u8 0, .int .u8 0, .int .u8 0, .int .u8 0, .int .u8 0, .int .u8 0, .int .u8 0, .int .u8 0, .int .u8 0, .int .u8 0, .int .u8 0, .int .u8 0, .int .u8 0, .int .u8 0, .int .u8 0, .int .u8 0, .int .u8 0, .int .u8 0, .int .u8 0, .int .u8 0, .int .u8 0, .int .u8 0, .int .u8 0, .int .u8 0, .int .u8 0, .int .u8 0, .int .u8 0, .int .u8 0, .int .u8 0, .int .u8 0, .int .u8 0, .int .u8 0, .int .u8 0, .int .u8 0, .int .u8 0, .int .u8 0, .int .u8 0, .int .u8 0, .int .u8 0, .int .u8 0, .int .u8 0, .int .u8 0, .int .u8 0, .int .u8 0, .int .u8 0, .int .u8 0, .int .u8 0, .int .u8 0], none⟩, ⟨none, .store 97 (.tmp 12) (.tmp 46), none⟩, ⟨some 13, .move (.tmp 47), none⟩]) (.clr [47, 46, 45, 44, 43, 12])) (.seq (.seq (.region [⟨some 49, .move (.tmp 0), none⟩, ⟨some 50, .call 24 [.tmp 49, .cst (.int .i64 0)], none⟩, ⟨some 48, .move (.tmp 50), none⟩, ⟨some 51, .extract (.tmp 48) 0, none⟩, ⟨some 52, .extract (.tmp 48) 1, none⟩, ⟨some 14, .allocz 3 [.int .i64 0, .int .i64 0], none⟩, ⟨none, .store 2 (.tmp 14) (.tmp 51), none⟩, ⟨some 15, .move (.tmp 52), none⟩]) (.clr [52, 51, 50, 49, 48, 14])) (.seq (.seq (.region [⟨some 54, .move (.tmp 0), none⟩, ⟨some 55, .call 14 [.tmp 54, .cst (.int .i64 0)], none⟩, ⟨some 53, .move (.tmp 55), none⟩, ⟨some 56, .extract (.tmp 53) 0, none⟩, ⟨some 57, .extract (.tmp 53) 1, none⟩, ⟨some 16, .move (.tmp 56), none⟩, ⟨some 17, .move (.tmp 57), none⟩]) (.clr [57, 56, 55, 54, 53])) (.seq (.seq (.region [⟨some 58, .move (.tmp 5), none⟩, ⟨some 59, .call 9 [.tmp 58], none⟩, ⟨some 60, .bin .eql (.tmp 59) (.cst (.int .i64 1)), none⟩, ⟨some 61, .move (.tmp 60), none⟩, ⟨some 62, .move (.tmp 7), some (61, true)⟩, ⟨some 63, .call 9 [.tmp 62], some (61, true)⟩, ⟨some 64, .bin .eql (.tmp 63) (.cst (.int .i64 1)), some (61, true)⟩, ⟨some 65, .pick (.tmp 61) (.tmp 64) (.cst (.bool false)), none⟩, ⟨some 66, .move (.tmp 65), none⟩, ⟨some 67, .move (.tmp 9), some (66, true)⟩, ⟨some 68, .call 9 [.tmp 67], some (66, true)⟩, ⟨some 69, .bin .eql (.tmp 68) (.cst (.int .i64 1)), some (66, true)⟩, ⟨some 70, .pick (.tmp 66) (.tmp 69) (.cst (.bool false)), none⟩, ⟨some 71, .move (.tmp 70), none⟩, ⟨some 72, .move (.tmp 11), some (71, true)⟩, ⟨some 73, .call 9 [.tmp 72], some (71, true)⟩, ⟨some 74, .bin .eql (.tmp 73) (.cst (.int .i64 1)), some (71, true)⟩, ⟨some 75, .pick (.tmp 71) (.tmp 74) (.cst (.bool false)), none⟩, ⟨some 76, .move (.tmp 75), none⟩, ⟨some 77, .move (.tmp 13), some (76, true)⟩, ⟨some 78, .call 9 [.tmp 77], some (76, true)⟩, ⟨some 79, .bin .eql (.tmp 78) (.cst (.int .i64 1)), some (76, true)⟩, ⟨some 80, .pick (.tmp 76) (.tmp 79) (.cst (.bool false)), none⟩, ⟨some 81, .move (.tmp 80), none⟩, ⟨some 82, .move (.tmp 15), some (81, true)⟩, ⟨some 83, .un .not (.tmp 82), some (81, true)⟩, ⟨some 84, .pick (.tmp 81) (.tmp 83) (.cst (.bool false)), none⟩, ⟨some 85, .move (.tmp 84), none⟩, ⟨some 86, .move (.tmp 17), some (85, true)⟩, ⟨some 87, .pick (.tmp 85) (.tmp 86) (.cst (.bool false)), none⟩, ⟨some 88, .move (.tmp 87), none⟩, ⟨some 89, .move (.tmp 16), some (88, true)⟩, ⟨some 90, .lenS (.tmp 89), some (88, true)⟩, ⟨some 91, .bin .eql (.tmp 90) (.cst (.int .i64 0)), some (88, true)⟩, ⟨some 92, .pick (.tmp 88) (.tmp 91) (.cst (.bool false)), none⟩, ⟨some 93, .move (.tmp 92), none⟩, ⟨some 94, .move (.tmp 0), some (93, true)⟩, ⟨some 95, .load (some 2) (.tmp 3), some (93, true)⟩, ⟨some 96, .call 41 [.tmp 94, .tmp 95], some (93, true)⟩, ⟨some 97, .lenS (.tmp 96), some (93, true)⟩, ⟨some 98, .bin .eql (.tmp 97) (.cst (.int .i64 0)), some (93, true)⟩, ⟨some 99, .pick (.tmp 93) (.tmp 98) (.cst (.bool false)), none⟩, ⟨some 100, .move (.tmp 99), none⟩, ⟨some 101, .move (.tmp 0), some (100, true)⟩, ⟨some 102, .call 39 [.tmp 101], some (100, true)⟩, ⟨some 103, .bin .eql (.tmp 102) (.cst (.int .i64 0)), some (100, true)⟩, ⟨some 104, .pick (.tmp 100) (.tmp 103) (.cst (.bool false)), none⟩, ⟨some 105, .move (.tmp 104), none⟩, ⟨some 106, .move (.tmp 0), some (105, true)⟩, ⟨some 107, .call 47 [.tmp 106], some (105, true)⟩, ⟨some 108, .lenS (.tmp 107), some (105, true)⟩, ⟨some 109, .bin .eql (.tmp 108) (.cst (.int .i64 0)), some (105, true)⟩, ⟨some 110, .pick (.tmp 105) (.tmp 109) (.cst (.bool false)), none⟩, ⟨some 111, .move (.tmp 110), none⟩, ⟨some 112, .move (.tmp 0), some (111, true)⟩, ⟨some 113, .call 10 [.tmp 112], some (111, true)⟩, ⟨some 114, .eqnil false (NK.p) (.tmp 113), some (111, true)⟩, ⟨some 115, .pick (.tmp 111) (.tmp 114) (.cst (.bool false)), none⟩, ⟨some 116, .move (.tmp 115), none⟩, ⟨some 117, .move (.tmp 0), some (116, true)⟩, ⟨some 118, .call 17 [.tmp 117, .cst .nilp], some (116, true)⟩, ⟨some 119, .pick (.tmp 116) (.tmp 118) (.cst (.bool false)), none⟩, ⟨some 2, .move (.tmp 119), none⟩]) (.clr [119, 118, 117, 116, 115, 114, 113, 112, 111, 110, 109, 108, 107, 106, 105, 104, 103, 102, 101, 100, 99, 98, 97, 96, 95, 94, 93, 92, 91, 90, 89, 88, 87, 86, 85, 84, 83, 82, 81, 80, 79, 78, 77, 76, 75, 74, 73, 72, 71, 70, 69, 68, 67, 66, 65, 64, 63, 62, 61, 60, 59, 58, 17, 16, 15, 13, 11, 9, 7, 5, 3, 0])) .ret))))))))), res := [.tmp 2] }
def am23 : AFunc := { nargs := 2, nt := 11, sites := 1, mode := .keep, body := .seq (.seq (.region [⟨some 4, .allocz 0 [.int .i64 0, .int .u8 0, .int .u8 0, .int .u8 0, .int .u8 0, .int .u8 0, .int .u8 0, .int .u8 0, .int .u8 0, .int .u8 0, .int .u8 0, .int .u8 0, .int .u8 0, .int .u8 0, .int .u8 0, .int .u8 0, .int .u8 0, .int .u8 0, .int .u8 0, .int .u8 0, .int .u8 0, .int .u8 0, .int .u8 0, .int .u8 0, .int .u8 0, .int .u8 0, .int .u8 0, .int .u8 0, .int .u8 0, .int .u8 0, .int .u8 0, .int .u8 0, .int .u8 0, .int .u8 0, .int .u8 0, .int .u8 0, .int .u8 0, .int .u8 0, .int .u8 0, .int .u8 0, .int .u8 0, .int .u8 0, .int .u8 0, .int .u8 0, .int .u8 0, .int .u8 0, .int .u8 0, .int .u8 0, .int .u8 0, .int .u8 0, .int .u8 0, .int .u8 0, .int .u8 0, .int .u8 0, .int .u8 0, .int .u8 0, .int .u8 0, .int .u8 0, .int .u8 0, .int .u8 0, .int .u8 0, .int .u8 0, .int .u8 0, .int .u8 0, .int .u8 0, .int .u8 0, .int .u8 0, .int .u8 0, .int .u8 0, .int .u8 0, .int .u8 0, .int .u8 0, .int .u8 0, .int .u8 0, .int .u8 0, .int .u8 0, .int .u8 0, .int .u8 0, .int .u8 0, .int .u8 0, .int .u8 0, .int .u8 0, .int .u8 0, .int .u8 0, .int .u8 0, .int .u8 0, .int .u8 0, .int .u8 0, .int .u8 0, .int .u8 0, .int .u8 0, .int .u8 0, .int .u8 0, .int .u8 0, .int .u8 0, .int .u8 0, .int .u8 0], none⟩, ⟨some 5, .move (.cst (.int .i64 0)), none⟩]) (.clr [5])) (.seq (.seq (.region [⟨some 6, .move (.tmp 0), none⟩, ⟨some 7, .move (.tmp 1), none⟩, ⟨some 8, .call 45 [.tmp 6, .tmp 7, .cst (.func 48 [] [])], none⟩, ⟨some 9, .extract (.tmp 8) 0, none⟩, ⟨some 10, .extract (.tmp 8) 1, none⟩, ⟨none, .store 97 (.tmp 4) (.tmp 9), none⟩, ⟨some 5, .move (.tmp 10), none⟩]) (.clr [10, 9, 8, 7, 6, 1, 0])) .ret), res := [.cell 4 (some 97), .tmp 5] }
def am24 : AFunc := { nargs := 2, nt := 24, sites := 4, mode := .keep, body := .seq (.region [⟨some 4, .allocz 0 [.int .i64 0, .int .i64 0], none⟩, ⟨some 5, .move (.cst (.bool false)), none⟩]) (.seq (.region [⟨some 6, .allocz 1 [.int .i64 0, .int .i64 0, .int .i64 0, .int .i64 0, .int .u8 0, .int .u8 0, .int .u8 0, .int .u8 0, .int .u8 0, .int .u8 0, .int .u8 0, .int .u8 0, .int .u8 0, .int .u8 0, .int .u8 0, .int .u8 0, .int .u8 0, .int .u8 0, .int .u8 0, .int .u8 0, .int .u8 0, .int .u8 0, .int .u8 0, .int .u8 0, .int .u8 0, .int .u8 0, .int .u8 0, .int .u8 0, .int .u8 0, .int .u8 0, .int .u8 0, .int .u8 0, .int .u8 0, .int .u8 0, .int .u8 0, .int .u8 0, .int .u8 0, .int .u8 0, .int .u8 0, .int .u8 0, .int .u8 0, .int .u8 0, .int .u8 0, .int .u8 0, .int .u8 0, .int .u8 0, .int .u8 0, .int .u8 0, .int .u8 0, .int .u8 0, .int .u8 0, .int .u8 0, .int .u8 0, .int .u8 0, .int .u8 0, .int .u8 0, .int .u8 0, .int .u8 0, .int .u8 0, .int .u8 0, .int .u8 0, .int .u8 0, .int .u8 0, .int .u8 0, .int .u8 0, .int .u8 0, .int .u8 0, .int .u8 0, .int .u8 0, .int .u8 0, .int .u8 0, .int .u8 0, .int .u8 0, .int .u8 0, .int .u8 0, .int .u8 0, .int .u8 0, .int .u8 0, .int .u8 0, .int .u8 0, .int .u8 0, .int .u8 0, .int .u8 0, .int .u8 0, .int .u8 0, .int .u8 0, .int .u8 0, .int .u8 0, .int .u8 0, .int .u8 0, .int .u8 0, .int .u8 0, .int .u8 0, .int .u8 0, .int .u8 0, .int .u8 0, .int .u8 0, .int .u8 0, .int .u8 0, .int .u8 0, .bool false], none⟩]) (.seq (.seq (.seq (.region [⟨some 8, .move (.tmp 0), none⟩, ⟨some 9, .move (.tmp 1), none⟩, ⟨some 10, .call 30 [.tmp 8, .tmp 9], none⟩]) (.clr [9, 8, 1, 0])) (.block 0 (.rangeF (.tmp 10) [11] (.seq (.region [⟨some 7, .allocz 2 [.int .i64 0, .int .i64 0, .int .i64 0, .int .i64 0, .int .u8 0, .int .u8 0, .int .u8 0, .int .u8 0, .int .u8 0, .int .u8 0, .int .u8 0, .int .u8 0, .int .u8 0, .int .u8 0, .int .u8 0, .int .u8 0, .int .u8 0, .int .u8 0, .int .u8 0, .int .u8 0, .int .u8 0, .int .u8 0, .int .u8 0, .int .u8 0, .int .u8 0, .int .u8 0, .int .u8 0, .int .u8 0, .int .u8 0, .int .u8 0, .int .u8 0, .int .u8 0, .int .u8 0, .int .u8 0, .int .u8 0, .int .u8 0, .int .u8 0, .int .u8 0, .int .u8 0, .int .u8 0, .int .u8 0, .int .u8 0, .int .u8 0, .int .u8 0, .int .u8 0, .int .u8 0, .int .u8 0, .int .u8 0, .int .u8 0, .int .u8 0, .int .u8 0, .int .u8 0, .int .u8 0, .int .u8 0, .int .u8 0, .int .u8 0, .int .u8 0, .int .u8 0, .int .u8 0, .int .u8 0, .int .u8 0, .int .u8 0, .int .u8 0, .int .u8 0, .int .u8 0, .int .u8 0, .int .u8 0, .int .u8 0, .int .u8 0, .int .u8 0, .int .u8 0, .int .u8 0, .int .u8 0, .int .u8 0, .int .u8 0, .int .u8 0, .int .u8 0, .int .u8 0, .int .u8 0, .int .u8 0, .int .u8 0, .int .u8 0, .int .u8 0, .int .u8 0, .int .u8 0, .int .u8 0, .int .u8 0, .int .u8 0, .int .u8 0, .int .u8 0, .int .u8 0, .int .u8 0, .int .u8 0, .int .u8 0, .int .u8 0, .int .u8 0, .int .u8 0, .int .u8 0, .int .u8 0, .int .u8 0, .bool false], none⟩, ⟨none, .store 101 (.tmp 7) (.tmp 11), none⟩]) (.clr [11])) (.block 1 (.seq (.region [⟨some 12, .load (some 101) (.tmp 7), none⟩, ⟨none, .store 101 (.tmp 6) (.tmp 12), none⟩]) (.clr [12, 7, 6]))) 24 0 3))) (.seq (.seq (.seq (.region [⟨some 13, .faddr 3 (.tmp 6), none⟩, ⟨some 14, .faddr 0 (.tmp 13), none⟩, ⟨some 15, .load none (.tmp 14), none⟩, ⟨some 16, .bin .eql (.tmp 15) (.cst (.int .i64 0)), none⟩, ⟨some 17, .move (.tmp 16), none⟩, ⟨some 18, .faddr 100 (.tmp 6), some (17, false)⟩, ⟨some 19, .load none (.tmp 18), some (17, false)⟩, ⟨some 20, .pick (.tmp 17) (.cst (.bool true)) (.tmp 19), none⟩]) (.clr [19, 18, 17, 16, 15, 14, 13])) (.cond (.tmp 20) (.seq (.clr [20, 6]) (.seq (.seq (.region [⟨some 21, .build [.int .i64 0, .int .i64 0] [], none⟩, ⟨none, .store 2 (.tmp 4) (.tmp 21), none⟩, ⟨some 5, .move (.cst (.bool false)), none⟩]) (.clr [21])) .ret)) (.seq (.clr [20]) .skip))) (.seq (.seq (.region [⟨some 22, .faddr 0 (.tmp 6), none⟩, ⟨some 23, .load (some 2) (.tmp 22), none⟩, ⟨none, .store 2 (.tmp 4) (.tmp 23), none⟩, ⟨some 5, .move (.cst (.bool true)), none⟩]) (.clr [23, 22, 6])) .ret)))), res := [.cell 4 (some 2), .tmp 5] }
def am25 : AFunc := { nargs := 3, nt := 18, sites := 1, mode := .pure, body := .seq (.seq (.region [⟨some 3, .box 0 (.tmp 0), none⟩, ⟨some 6, .move (.cst (.bool false)), none⟩]) (.clr [6, 0])) (.seq (.seq (.region [⟨some 7, .faddr 0 (.tmp 3), none⟩, ⟨some 8, .load none (.tmp 7), none⟩, ⟨some 9, .move (.tmp 1), none⟩, ⟨some 10, .bin .eql (.tmp 8) (.tmp 9), none⟩, ⟨some 11, .move (.tmp 10), none⟩, ⟨some 12, .faddr 1 (.tmp 3), some (11, true)⟩, ⟨some 13, .load (some 96) (.tmp 12), some (11, true)⟩, ⟨some 14, .move (.tmp 2), some (11, true)⟩, ⟨some 15, .call 20 [.tmp 14], some (11, true)⟩, ⟨some 16, .eqc false true [.i .u8, .i .u8, .i .u8, .i .u8, .i .u8, .i .u8, .i .u8, .i .u8, .i .u8, .i .u8, .i .u8, .i .u8, .i .u8, .i .u8, .i .u8, .i .u8, .i .u8, .i .u8, .i .u8, .i .u8, .i .u8, .i .u8, .i .u8, .i .u8, .i .u8, .i .u8, .i .u8, .i .u8, .i .u8, .i .u8, .i .u8, .i .u8, .i .u8, .i .u8, .i .u8, .i .u8, .i .u8, .i .u8, .i .u8, .i .u8, .i .u8, .i .u8, .i .u8, .i .u8, .i .u8, .i .u8, .i .u8, .i .u8, .i .u8, .i .u8, .i .u8, .i .u8, .i .u8, .i .u8, .i .u8, .i .u8, .i .u8, .i .u8, .i .u8, .i .u8, .i .u8, .i .u8, .i .u8, .i .u8, .i .u8, .i .u8, .i .u8, .i .u8, .i .u8, .i .u8, .i .u8, .i .u8, .i .u8, .i .u8, .i .u8, .i .u8, .i .u8, .i .u8, .i .u8, .i .u8, .i .u8, .i .u8, .i .u8, .i .u8, .i .u8, .i .u8, .i .u8, .i .u8, .i .u8, .i .u8, .i .u8, .i .u8, .i .u8, .i .u8, .i .u8, .i .u8] (.tmp 13) (.tmp 15), some (11, true)⟩, ⟨some 17, .pick (.tmp 11) (.tmp 16) (.cst (.bool false)), none⟩, ⟨some 6, .move (.tmp 17), none⟩]) (.clr [17, 16, 15, 14, 13, 12, 11, 10, 9, 8, 7, 3, 2, 1])) .ret), res := [.tmp 6] }
def am26 : AFunc := { nargs := 1, nt := 12, sites := 0, mode := .keep, body := .seq (.seq (.region [⟨some 2, .move (.cst (.bool false)), none⟩]) (.clr [2])) (.seq (.seq (.region [⟨some 3, .move (.tmp 0), none⟩, ⟨some 4, .eqnil true (NK.p) (.tmp 3), none⟩, ⟨some 5, .move (.tmp 4), none⟩, ⟨some 6, .move (.tmp 0), some (5, true)⟩, ⟨some 7, .nilck (.tmp 6), some (5, true)⟩, ⟨some 8, .faddr 16 (.tmp 7), some (5, true)⟩, ⟨some 9, .load none (.tmp 8), some (5, true)⟩, ⟨some 10, .bin .gtr (.tmp 9) (.cst (.int .i64 0)), some (5, true)⟩, ⟨some 11, .pick (.tmp 5) (.tmp 10) (.cst (.bool false)), none⟩, ⟨some 2, .move (.tmp 11), none⟩]) (.clr [11, 10, 9, 8, 7, 6, 5, 4, 3, 0])) .ret), res := [.tmp 2] }
def am27 : AFunc := { nargs := 1, nt := 8, sites := 1, mode := .keep, body := .seq (.seq (.region [⟨some 2, .move (.cst .nils), none⟩]) (.clr [2])) (.seq (.seq (.seq (.region [⟨some 3, .move (.tmp 0), none⟩, ⟨some 4, .eqnil false (NK.s) (.tmp 3), none⟩]) (.clr [3])) (.cond (.tmp 4) (.seq (.clr [4, 0]) (.seq (.region [⟨some 2, .move (.cst .nils), none⟩]) .ret)) (.seq (.clr [4]) .skip))) (.seq (.seq (.region [⟨some 5, .bslice [] 0 101 [], none⟩, ⟨some 6, .move (.tmp 0), none⟩, ⟨some 7, .append 0 101 136 (.tmp 5) (.tmp 6), none⟩, ⟨some 2, .move (.tmp 7), none⟩]) (.clr [7, 6, 5, 0])) .ret)), res := [.tmp 2] }
def am28 : AFunc := { nargs := 1, nt := 8, sites := 1, mode := .keep, body := .seq (.seq (.region [⟨some 2, .move (.cst .nils), none⟩]) (.clr [2])) (.seq (.seq (.seq (.region [⟨some 3, .move (.tmp 0), none⟩, ⟨some 4, .eqnil false (NK.s) (.tmp 3), none⟩]) (.clr [3])) (.cond (.tmp 4) (.seq (.clr [4, 0]) (.seq (.region [⟨some 2, .move (.cst .nils), none⟩]) .ret)) (.seq (.clr [4]) .skip))) (.seq (.seq (.region [⟨some 5, .bslice [] 0 2 [], none⟩, ⟨some 6, .move (.tmp 0), none⟩, ⟨some 7, .append 0 2 16 (.tmp 5) (.tmp 6), none⟩, ⟨some 2, .move (.tmp 7), none⟩]) (.clr [7, 6, 5, 0])) .ret)), res := [.tmp 2] }
def am29 : AFunc := { nargs := 4, nt := 48, sites := 1, mode := .keep, body := .seq (.seq (.region [⟨some 5, .box 0 (.tmp 1), none⟩, ⟨some 8, .move (.cst (.int .i64 0)), none⟩]) (.clr [8, 1])) (.seq (.block 0 (.seq (.seq (.region [⟨some 10, .move (.tmp 0), none⟩, ⟨some 11, .call 26 [.tmp 10], none⟩, ⟨some 12, .un .not (.tmp 11), none⟩, ⟨some 9, .move (.tmp 12), none⟩]) (.clr [12, 11, 10])) (.cond (.tmp 9) (.seq (.clr [9, 5, 3, 2, 0]) (.seq (.region [⟨some 8, .move (.cst (.int .i64 1)), none⟩]) .ret)) (.seq (.clr [9]) (.seq (.seq (.region [⟨some 14, .faddr 0 (.tmp 5), none⟩, ⟨some 15, .load none (.tmp 14), none⟩, ⟨some 16, .bin .lss (.tmp 15) (.cst (.int .i64 0)), none⟩, ⟨some 17, .move (.tmp 16), none⟩, ⟨some 18, .faddr 0 (.tmp 5), some (17, false)⟩, ⟨some 19, .load none (.tmp 18), some (17, false)⟩, ⟨some 20, .bin .geq (.tmp 19) (.cst (.int .i64 8)), some (17, false)⟩, ⟨some 21, .pick (.tmp 17) (.cst (.bool true)) (.tmp 20), none⟩, ⟨some 22, .move (.tmp 21), none⟩, ⟨some 23, .faddr 1 (.tmp 5), some (22, false)⟩, ⟨some 24, .load none (.tmp 23), some (22, false)⟩, ⟨some 25, .bin .lss (.tmp 24) (.cst (.int .i64 1)), some (22, false)⟩, ⟨some 26, .pick (.tmp 22) (.cst (.bool true)) (.tmp 25), none⟩, ⟨some 27, .move (.tmp 26), none⟩, ⟨some 28, .faddr 1 (.tmp 5), some (27, false)⟩, ⟨some 29, .load none (.tmp 28), some (27, false)⟩, ⟨some 30, .bin .gtr (.tmp 29) (.cst (.int .i64 2147483647)), some (27, false)⟩, ⟨some 31, .pick (.tmp 27) (.cst (.bool true)) (.tmp 30), none⟩, ⟨some 32, .move (.tmp 31), none⟩, ⟨some 33, .move (.tmp 2), some (32, false)⟩, ⟨some 34, .bin .lss (.tmp 33) (.cst (.int .i64 0)), some (32, false)⟩, ⟨some 35, .pick (.tmp 32) (.cst (.bool true)) (.tmp 34), none⟩, ⟨some 36, .move (.tmp 35), none⟩, ⟨some 37, .move (.tmp 2), some (36, false)⟩, ⟨some 38, .move (.tmp 0), some (36, false)⟩, ⟨some 39, .nilck (.tmp 38), some (36, false)⟩, ⟨some 40, .faddr 16 (.tmp 39), some (36, false)⟩, ⟨some 41, .load none (.tmp 40), some (36, false)⟩, ⟨some 42, .bin .geq (.tmp 37) (.tmp 41), some (36, false)⟩, ⟨some 43, .pick (.tmp 36) (.cst (.bool true)) (.tmp 42), none⟩, ⟨some 44, .move (.tmp 43), none⟩, ⟨some 45, .move (.tmp 3), some (44, false)⟩, ⟨some 46, .bin .lss (.tmp 45) (.cst (.int .i64 0)), some (44, false)⟩, ⟨some 47, .pick (.tmp 44) (.cst (.bool true)) (.tmp 46), none⟩, ⟨some 13, .move (.tmp 47), none⟩]) (.clr [47, 46, 45, 44, 43, 42, 41, 40, 39, 38, 37, 36, 35, 34, 33, 32, 31, 30, 29, 28, 27, 26, 25, 24, 23, 22, 21, 20, 19, 18, 17, 16, 15, 14, 5, 3, 2, 0])) (.cond (.tmp 13) (.seq (.clr [13]) (.seq (.region [⟨some 8, .move (.cst (.int .i64 2)), none⟩]) .ret)) (.seq (.clr [13]) .skip))))))) (.seq (.region [⟨some 8, .move (.cst (.int .i64 0)), none⟩]) .ret)), res := [.tmp 8] }
def am30 : AFunc := { nargs := 2, nt := 6, sites := 2, mode := .keep, body := .seq (.seq (.region [⟨some 2, .box 0 (.tmp 0), none⟩, ⟨some 3, .box 1 (.tmp 1), none⟩, ⟨some 4, .move (.cst .nilf), none⟩]) (.clr [4, 1, 0])) (.seq (.seq (.region [⟨some 5, .mkfunc 49 [] [.tmp 2, .tmp 3], none⟩, ⟨some 4, .move (.tmp 5), none⟩]) (.clr [5, 3, 2])) .ret), res := [.tmp 4] }
def am34 : AFunc := { nargs := 2, nt := 26, sites := 0, mode := .look, body := .seq (.seq (.region [⟨some 4, .move (.cst (.bool false)), none⟩]) (.clr [4])) (.seq (.seq (.seq (.region [⟨some 6, .move (.tmp 0), none⟩, ⟨some 7, .lenS (.tmp 6), none⟩, ⟨some 8, .move (.tmp 1), none⟩, ⟨some 9, .lenS (.tmp 8), none⟩, ⟨some 10, .bin .neq (.tmp 7) (.tmp 9), none⟩]) (.clr [9, 8, 7, 6])) (.cond (.tmp 10) (.seq (.clr [10, 1, 0]) (.seq (.region [⟨some 4, .move (.cst (.bool false)), none⟩]) .ret)) (.seq (.clr [10]) .skip))) (.seq (.seq (.seq (.region [⟨some 11, .move (.tmp 0), none⟩, ⟨some 12, .lenS (.tmp 11), none⟩, ⟨some 13, .move (.cst (.int .i64 0)), none⟩]) (.clr [11])) (.block 0 (.loop [] [] (.seq (.region [⟨some 14, .bin .lss (.tmp 13) (.tmp 12), none⟩]) (.seq (.cond (.tmp 14) (.seq (.clr [14]) .skip) (.seq (.clr [14, 13, 12, 1, 0]) (.exit 0))) (.seq (.block 1 (.seq (.seq (.region [⟨some 15, .move (.tmp 13), none⟩, ⟨some 5, .move (.tmp 15), none⟩]) (.clr [15])) (.seq (.seq (.region [⟨some 16, .move (.tmp 0), none⟩, ⟨some 17, .move (.tmp 5), none⟩, ⟨some 18, .iaddrS 101 (.tmp 16) (.tmp 17), none⟩, ⟨some 19, .load (some 101) (.tmp 18), none⟩, ⟨some 20, .move (.tmp 1), none⟩, ⟨some 21, .move (.tmp 5), none⟩, ⟨some 22, .iaddrS 101 (.tmp 20) (.tmp 21), none⟩, ⟨some 23, .load (some 101) (.tmp 22), none⟩, ⟨some 24, .eqc true true [.i .i64, .i .i64, .i .i64, .i .i64, .i .u8, .i .u8, .i .u8, .i .u8, .i .u8, .i .u8, .i .u8, .i .u8, .i .u8, .i .u8, .i .u8, .i .u8, .i .u8, .i .u8, .i .u8, .i .u8, .i .u8, .i .u8, .i .u8, .i .u8, .i .u8, .i .u8, .i .u8, .i .u8, .i .u8, .i .u8, .i .u8, .i .u8, .i .u8, .i .u8, .i .u8, .i .u8, .i .u8, .i .u8, .i .u8, .i .u8, .i .u8, .i .u8, .i .u8, .i .u8, .i .u8, .i .u8, .i .u8, .i .u8, .i .u8, .i .u8, .i .u8, .i .u8, .i .u8, .i .u8, .i .u8, .i .u8, .i .u8, .i .u8, .i .u8, .i .u8, .i .u8, .i .u8, .i .u8, .i .u8, .i .u8, .i .u8, .i .u8, .i .u8, .i .u8, .i .u8, .i .u8, .i .u8, .i .u8, .i .u8, .i .u8, .i .u8, .i .u8, .i .u8, .i .u8, .i .u8, .i .u8, .i .u8, .i .u8, .i .u8, .i .u8, .i .u8, .i .u8, .i .u8, .i .u8, .i .u8, .i .u8, .i .u8, .i .u8, .i .u8, .i .u8, .i .u8, .i .u8, .i .u8, .i .u8, .i .u8, .b] (.tmp 19) (.tmp 23), none⟩]) (.clr [23, 22, 21, 20, 19, 18, 17, 16, 5])) (.cond (.tmp 24) (.seq (.clr [24, 13, 12, 1, 0]) (.seq (.region [⟨some 4, .move (.cst (.bool false)), none⟩]) .ret)) (.seq (.clr [24]) .skip))))) (.seq (.region [⟨some 25, .bin .add (.tmp 13) (.cst (.int .i64 1)), none⟩, ⟨some 13, .move (.tmp 25), none⟩]) (.clr [25])))))))) (.seq (.region [⟨some 4, .move (.cst (.bool true)), none⟩]) .ret))), res := [.tmp 4] }
def am35 : AFunc := { nargs := 2, nt := 26, sites := 0, mode := .look, body := .seq (.seq (.region [⟨some 4, .move (.cst (.bool false)), none⟩]) (.clr [4])) (.seq (.seq (.seq (.region [⟨some 6, .move (.tmp 0), none⟩, ⟨some 7, .lenS (.tmp 6), none⟩, ⟨some 8, .move (.tmp 1), none⟩, ⟨some 9, .lenS (.tmp 8), none⟩, ⟨some 10, .bin .neq (.tmp 7) (.tmp 9), none⟩]) (.clr [9, 8, 7, 6])) (.cond (.tmp 10) (.seq (.clr [10, 1, 0]) (.seq (.region [⟨some 4, .move (.cst (.bool false)), none⟩]) .ret)) (.seq (.clr [10]) .skip))) (.seq (.seq (.seq (.region [⟨some 11, .move (.tmp 0), none⟩, ⟨some 12, .lenS (.tmp 11), none⟩, ⟨some 13, .move (.cst (.int .i64 0)), none⟩]) (.clr [11])) (.block 0 (.loop [] [] (.seq (.region [⟨some 14, .bin .lss (.tmp 13) (.tmp 12), none⟩]) (.seq (.cond (.tmp 14) (.seq (.clr [14]) .skip) (.seq (.clr [14, 13, 12, 1, 0]) (.exit 0))) (.seq (.block 1 (.seq (.seq (.region [⟨some 15, .move (.tmp 13), none⟩, ⟨some 5, .move (.tmp 15), none⟩]) (.clr [15])) (.seq (.seq (.region [⟨some 16, .move (.tmp 0), none⟩, ⟨some 17, .move (.tmp 5), none⟩, ⟨some 18, .iaddrS 2 (.tmp 16) (.tmp 17), none⟩, ⟨some 19, .load (some 2) (.tmp 18), none⟩, ⟨some 20, .move (.tmp 1), none⟩, ⟨some 21, .move (.tmp 5), none⟩, ⟨some 22, .iaddrS 2 (.tmp 20) (.tmp 21), none⟩, ⟨some 23, .load (some 2) (.tmp 22), none⟩, ⟨some 24, .eqc true true [.i .i64, .i .i64] (.tmp 19) (.tmp 23), none⟩]) (.clr [23, 22, 21, 20, 19, 18, 17, 16, 5])) (.cond (.tmp 24) (.seq (.clr [24, 13, 12, 1, 0]) (.seq (.region [⟨some 4, .move (.cst (.bool false)), none⟩]) .ret)) (.seq (.clr [24]) .skip))))) (.seq (.region [⟨some 25, .bin .add (.tmp 13) (.cst (.int .i64 1)), none⟩, ⟨some 13, .move (.tmp 25), none⟩]) (.clr [25])))))))) (.seq (.region [⟨some 4, .move (.cst (.bool true)), none⟩]) .ret))), res := [.tmp 4] }
def am39 : AFunc := { nargs := 1, nt := 10, sites := 0, mode := .keep, body := .seq (.seq (.region [⟨some 2, .move (.cst (.int .i64 0)), none⟩]) (.clr [2])) (.seq (.seq (.seq (.region [⟨some 3, .move (.tmp 0), none⟩, ⟨some 4, .call 26 [.tmp 3], none⟩, ⟨some 5, .un .not (.tmp 4), none⟩]) (.clr [4, 3])) (.cond (.tmp 5) (.seq (.clr [5, 0]) (.seq (.region [⟨some 2, .move (.cst (.int .i64 0)), none⟩]) .ret)) (.seq (.clr [5]) .skip))) (.seq (.seq (.region [⟨some 6, .move (.tmp 0), none⟩, ⟨some 7, .nilck (.tmp 6), none⟩, ⟨some 8, .faddr 16 (.tmp 7), none⟩, ⟨some 9, .load none (.tmp 8), none⟩, ⟨some 2, .move (.tmp 9), none⟩]) (.clr [9, 8, 7, 6, 0])) .ret)), res := [.tmp 2] }
def am41 : AFunc := { nargs := 2, nt := 38, sites := 3, mode := .keep, body := .seq (.seq (.region [⟨some 3, .box 0 (.tmp 1), none⟩, ⟨some 4, .move (.cst .nils), none⟩]) (.clr [4, 1])) (.seq (.seq (.seq (.region [⟨some 8, .move (.tmp 0), none⟩, ⟨some 9, .call 26 [.tmp 8], none⟩, ⟨some 10, .un .not (.tmp 9), none⟩]) (.clr [9, 8])) (.cond (.tmp 10) (.seq (.clr [10, 3, 0]) (.seq (.region [⟨some 4, .move (.cst .nils), none⟩]) .ret)) (.seq (.clr [10]) .skip))) (.seq (.region [⟨some 5, .move (.cst .nils), none⟩]) (.seq (.seq (.seq (.region [⟨some 11, .move (.tmp 0), none⟩, ⟨some 12, .nilck (.tmp 11), none⟩, ⟨some 13, .faddr 17 (.tmp 12), none⟩, ⟨some 14, .load none (.tmp 13), none⟩, ⟨some 15, .load (some 2) (.tmp 3), none⟩, ⟨some 16, .mget true [.i .i64, .i .i64] .nils false (.tmp 14) (.tmp 15), none⟩, ⟨some 17, .lenS (.tmp 16), none⟩, ⟨some 18, .move (.cst (.int .i64 0)), none⟩]) (.clr [15, 14, 13, 12, 11, 3])) (.block 0 (.loop [] [] (.seq (.region [⟨some 19, .bin .lss (.tmp 18) (.tmp 17), none⟩]) (.seq (.cond (.tmp 19) (.seq (.clr [19]) .skip) (.seq (.clr [19, 18, 17, 16, 0]) (.exit 0))) (.seq (.block 1 (.seq (.seq (.region [⟨some 20, .iaddrS 2 (.tmp 16) (.tmp 18), none⟩, ⟨some 21, .load (some 2) (.tmp 20), none⟩, ⟨some 7, .allocz 1 [.int .i64 0, .int .i64 0], none⟩, ⟨none, .store 2 (.tmp 7) (.tmp 21), none⟩]) (.clr [21, 20])) (.seq (.region [⟨some 22, .move (.tmp 5), none⟩, ⟨some 23, .move (.tmp 0), none⟩, ⟨some 24, .faddr 0 (.tmp 7), none⟩, ⟨some 25, .load none (.tmp 24), none⟩, ⟨some 26, .nilck (.tmp 23), none⟩, ⟨some 27, .faddr 0 (.tmp 26), none⟩, ⟨some 28, .iaddrA 16 1 (.tmp 27) (.tmp 25), none⟩, ⟨some 29, .load none (.tmp 28), none⟩, ⟨some 30, .faddr 1 (.tmp 7), none⟩, ⟨some 31, .load none (.tmp 30), none⟩, ⟨some 32, .iaddrS 101 (.tmp 29) (.tmp 31), none⟩, ⟨some 33, .load (some 101) (.tmp 32), none⟩, ⟨some 34, .bslice [.int .i64 0, .int .i64 0, .int .i64 0, .int .i64 0, .int .u8 0, .int .u8 0, .int .u8 0, .int .u8 0, .int .u8 0, .int .u8 0, .int .u8 0, .int .u8 0, .int .u8 0, .int .u8 0, .int .u8 0, .int .u8 0, .int .u8 0, .int .u8 0, .int .u8 0, .int .u8 0, .int .u8 0, .int .u8 0, .int .u8 0, .int .u8 0, .int .u8 0, .int .u8 0, .int .u8 0, .int .u8 0, .int .u8 0, .int .u8 0, .int .u8 0, .int .u8 0, .int .u8 0, .int .u8 0, .int .u8 0, .int .u8 0, .int .u8 0, .int .u8 0, .int .u8 0, .int .u8 0, .int .u8 0, .int .u8 0, .int .u8 0, .int .u8 0, .int .u8 0, .int .u8 0, .int .u8 0, .int .u8 0, .int .u8 0, .int .u8 0, .int .u8 0, .int .u8 0, .int .u8 0, .int .u8 0, .int .u8 0, .int .u8 0, .int .u8 0, .int .u8 0, .int .u8 0, .int .u8 0, .int .u8 0, .int .u8 0, .int .u8 0, .int .u8 0, .int .u8 0, .int .u8 0, .int .u8 0, .int .u8 0, .int .u8 0, .int .u8 0, .int .u8 0, .int .u8 0, .int .u8 0, .int .u8 0, .int .u8 0, .int .u8 0, .int .u8 0, .int .u8 0, .int .u8 0, .int .u8 0, .int .u8 0, .int .u8 0, .int .u8 0, .int .u8 0, .int .u8 0, .int .u8 0, .int .u8 0, .int .u8 0, .int .u8 0, .int .u8 0, .int .u8 0, .int .u8 0, .int .u8 0, .int .u8 0, .int .u8 0, .int .u8 0, .int .u8 0, .int .u8 0, .int .u8 0, .int .u8 0, .bool false] 1 101 [(0, 101, .tmp 33)], none⟩, ⟨some 35, .append 2 101 136 (.tmp 22) (.tmp 34), none⟩, ⟨some 5, .move (.tmp 35), none⟩]) (.clr [35, 34, 33, 32, 31, 30, 29, 28, 27, 26, 25, 24, 23, 22, 7])))) (.seq (.region [⟨some 36, .bin .add (.tmp 18) (.cst (.int .i64 1)), none⟩, ⟨some 18, .move (.tmp 36), none⟩]) (.clr [36])))))))) (.seq (.seq (.region [⟨some 37, .move (.tmp 5), none⟩, ⟨some 4, .move (.tmp 37), none⟩]) (.clr [37, 5])) .ret)))), res := [.tmp 4] }
def am45 : AFunc := { nargs := 3, nt := 35, sites := 5, mode := .keep, body := .seq (.seq (.region [⟨some 5, .box 0 (.tmp 2), none⟩, ⟨some 6, .allocz 1 [.int .i64 0, .int .u8 0, .int .u8 0, .int .u8 0, .int .u8 0, .int .u8 0, .int .u8 0, .int .u8 0, .int .u8 0, .int .u8 0, .int .u8 0, .int .u8 0, .int .u8 0, .int .u8 0, .int .u8 0, .int .u8 0, .int .u8 0, .int .u8 0, .int .u8 0, .int .u8 0, .int .u8 0, .int .u8 0, .int .u8 0, .int .u8 0, .int .u8 0, .int .u8 0, .int .u8 0, .int .u8 0, .int .u8 0, .int .u8 0, .int .u8 0, .int .u8 0, .int .u8 0, .int .u8 0, .int .u8 0, .int .u8 0, .int .u8 0, .int .u8 0, .int .u8 0, .int .u8 0, .int .u8 0, .int .u8 0, .int .u8 0, .int .u8 0, .int .u8 0, .int .u8 0, .int .u8 0, .int .u8 0, .int .u8 0, .int .u8 0, .int .u8 0, .int .u8 0, .int .u8 0, .int .u8 0, .int .u8 0, .int .u8 0, .int .u8 0, .int .u8 0, .int .u8 0, .int .u8 0, .int .u8 0, .int .u8 0, .int .u8 0, .int .u8 0, .int .u8 0, .int .u8 0, .int .u8 0, .int .u8 0, .int .u8 0, .int .u8 0, .int .u8 0, .int .u8 0, .int .u8 0, .int .u8 0, .int .u8 0, .int .u8 0, .int .u8 0, .int .u8 0, .int .u8 0, .int .u8 0, .int .u8 0, .int .u8 0, .int .u8 0, .int .u8 0, .int .u8 0, .int .u8 0, .int .u8 0, .int .u8 0, .int .u8 0, .int .u8 0, .int .u8 0, .int .u8 0, .int .u8 0, .int .u8 0, .int .u8 0, .int .u8 0, .int .u8 0], none⟩, ⟨some 7, .move (.cst (.int .i64 0)), none⟩]) (.clr [2])) (.seq (.seq (.seq (.region [⟨some 12, .move (.tmp 0), none⟩, ⟨some 13, .build [.int .i64 0, .int .i64 0] [(1, 1, .cst (.int .i64 1))], none⟩, ⟨some 14, .move (.tmp 1), none⟩, ⟨some 15, .call 29 [.tmp 12, .tmp 13, .tmp 14, .cst (.int .i64 0)], none⟩, ⟨some 8, .move (.tmp 15), none⟩]) (.clr [15, 14, 13, 12])) (.seq (.seq (.region [⟨some 16, .move (.tmp 8), none⟩, ⟨some 17, .bin .neq (.tmp 16) (.cst (.int .i64 0)), none⟩]) (.clr [16])) (.cond (.tmp 17) (.seq (.clr [28, 17, 7, 5, 1, 0]) (.seq (.seq (.region [⟨some 18, .build [.int .i64 0, .int .u8 0, .int .u8 0, .int .u8 0, .int .u8 0, .int .u8 0, .int .u8 0, .int .u8 0, .int .u8 0, .int .u8 0, .int .u8 0, .int .u8 0, .int .u8 0, .int .u8 0, .int .u8 0, .int .u8 0, .int .u8 0, .int .u8 0, .int .u8 0, .int .u8 0, .int .u8 0, .int .u8 0, .int .u8 0, .int .u8 0, .int .u8 0, .int .u8 0, .int .u8 0, .int .u8 0, .int .u8 0, .int .u8 0, .int .u8 0, .int .u8 0, .int .u8 0, .int .u8 0, .int .u8 0, .int .u8 0, .int .u8 0, .int .u8 0, .int .u8 0, .int .u8 0, .int .u8 0, .int .u8 0, .int .u8 0, .int .u8 0, .int .u8 0, .int .u8 0, .int .u8 0, .int .u8 0, .int .u8 0, .int .u8 0, .int .u8 0, .int .u8 0, .int .u8 0, .int .u8 0, .int .u8 0, .int .u8 0, .int .u8 0, .int .u8 0, .int .u8 0, .int .u8 0, .int .u8 0, .int .u8 0, .int .u8 0, .int .u8 0, .int .u8 0, .int .u8 0, .int .u8 0, .int .u8 0, .int .u8 0, .int .u8 0, .int .u8 0, .int .u8 0, .int .u8 0, .int .u8 0, .int .u8 0, .int .u8 0, .int .u8 0, .int .u8 0, .int .u8 0, .int .u8 0, .int .u8 0, .int .u8 0, .int .u8 0, .int .u8 0, .int .u8 0, .int .u8 0, .int .u8 0, .int .u8 0, .int .u8 0, .int .u8 0, .int .u8 0, .int .u8 0, .int .u8 0, .int .u8 0, .int .u8 0, .int .u8 0, .int .u8 0] [], none⟩, ⟨some 19, .move (.tmp 8), none⟩, ⟨none, .store 97 (.tmp 6) (.tmp 18), none⟩, ⟨some 7, .move (.tmp 19), none⟩]) (.clr [19, 18, 8])) .ret)) (.seq (.clr [17, 8]) .skip)))) (.seq (.region [⟨some 9, .allocz 2 [.int .i64 0, .int .u8 0, .int .u8 0, .int .u8 0, .int .u8 0, .int .u8 0, .int .u8 0, .int .u8 0, .int .u8 0, .int .u8 0, .int .u8 0, .int .u8 0, .int .u8 0, .int .u8 0, .int .u8 0, .int .u8 0, .int .u8 0, .int .u8 0, .int .u8 0, .int .u8 0, .int .u8 0, .int .u8 0, .int .u8 0, .int .u8 0, .int .u8 0, .int .u8 0, .int .u8 0, .int .u8 0, .int .u8 0, .int .u8 0, .int .u8 0, .int .u8 0, .int .u8 0, .int .u8 0, .int .u8 0, .int .u8 0, .int .u8 0, .int .u8 0, .int .u8 0, .int .u8 0, .int .u8 0, .int .u8 0, .int .u8 0, .int .u8 0, .int .u8 0, .int .u8 0, .int .u8 0, .int .u8 0, .int .u8 0, .int .u8 0, .int .u8 0, .int .u8 0, .int .u8 0, .int .u8 0, .int .u8 0, .int .u8 0, .int .u8 0, .int .u8 0, .int .u8 0, .int .u8 0, .int .u8 0, .int .u8 0, .int .u8 0, .int .u8 0, .int .u8 0, .int .u8 0, .int .u8 0, .int .u8 0, .int .u8 0, .int .u8 0, .int .u8 0, .int .u8 0, .int .u8 0, .int .u8 0, .int .u8 0, .int .u8 0, .int .u8 0, .int .u8 0, .int .u8 0, .int .u8 0, .int .u8 0, .int .u8 0, .int .u8 0, .int .u8 0, .int .u8 0, .int .u8 0, .int .u8 0, .int .u8 0, .int .u8 0, .int .u8 0, .int .u8 0, .int .u8 0, .int .u8 0, .int .u8 0, .int .u8 0, .int .u8 0, .int .u8 0], none⟩]) (.seq .skip (.seq (.seq (.seq (.region [⟨some 20, .move (.tmp 0), none⟩, ⟨some 21, .move (.tmp 1), none⟩, ⟨some 22, .nilck (.tmp 20), none⟩, ⟨some 23, .faddr 0 (.tmp 22), none⟩, ⟨some 24, .iaddrA 16 1 (.tmp 23) (.tmp 21), none⟩, ⟨some 25, .load none (.tmp 24), none⟩, ⟨some 26, .call 51 [.tmp 25], none⟩]) (.clr [25, 24, 23, 22, 21, 20, 1, 0])) (.block 0 (.rangeF (.tmp 26) [27, 28] (.seq (.region [⟨some 11, .allocz 3 [.int .i64 0, .int .i64 0, .int .i64 0, .int .i64 0, .int .u8 0, .int .u8 0, .int .u8 0, .int .u8 0, .int .u8 0, .int .u8 0, .int .u8 0, .int .u8 0, .int .u8 0, .int .u8 0, .int .u8 0, .int .u8 0, .int .u8 0, .int .u8 0, .int .u8 0, .int .u8 0, .int .u8 0, .int .u8 0, .int .u8 0, .int .u8 0, .int .u8 0, .int .u8 0, .int .u8 0, .int .u8 0, .int .u8 0, .int .u8 0, .int .u8 0, .int .u8 0, .int .u8 0, .int .u8 0, .int .u8 0, .int .u8 0, .int .u8 0, .int .u8 0, .int .u8 0, .int .u8 0, .int .u8 0, .int .u8 0, .int .u8 0, .int .u8 0, .int .u8 0, .int .u8 0, .int .u8 0, .int .u8 0, .int .u8 0, .int .u8 0, .int .u8 0, .int .u8 0, .int .u8 0, .int .u8 0, .int .u8 0, .int .u8 0, .int .u8 0, .int .u8 0, .int .u8 0, .int .u8 0, .int .u8 0, .int .u8 0, .int .u8 0, .int .u8 0, .int .u8 0, .int .u8 0, .int .u8 0, .int .u8 0, .int .u8 0, .int .u8 0, .int .u8 0, .int .u8 0, .int .u8 0, .int .u8 0, .int .u8 0, .int .u8 0, .int .u8 0, .int .u8 0, .int .u8 0, .int .u8 0, .int .u8 0, .int .u8 0, .int .u8 0, .int .u8 0, .int .u8 0, .int .u8 0, .int .u8 0, .int .u8 0, .int .u8 0, .int .u8 0, .int .u8 0, .int .u8 0, .int .u8 0, .int .u8 0, .int .u8 0, .int .u8 0, .int .u8 0, .int .u8 0, .int .u8 0, .int .u8 0, .bool false], none⟩, ⟨none, .store 101 (.tmp 11) (.tmp 28), none⟩]) (.clr [28])) (.block 1 (.seq (.seq (.region [⟨some 29, .load none (.tmp 5), none⟩, ⟨some 30, .load (some 101) (.tmp 11), none⟩, ⟨some 31, .callv (.tmp 29) [.tmp 30], none⟩]) (.clr [30, 29, 5])) (.cond (.tmp 31) (.seq (.clr [31]) (.seq (.seq (.region [⟨some 32, .faddr 3 (.tmp 11), none⟩, ⟨some 33, .load (some 97) (.tmp 32), none⟩, ⟨none, .store 97 (.tmp 9) (.tmp 33), none⟩]) (.clr [33, 32, 11, 9])) (.exit 0))) (.seq (.clr [31, 11, 9]) .skip)))) 45 0 4))) (.seq (.seq (.region [⟨some 34, .load (some 97) (.tmp 9), none⟩, ⟨none, .store 97 (.tmp 6) (.tmp 34), none⟩, ⟨some 7, .move (.cst (.int .i64 0)), none⟩]) (.clr [34, 9])) .ret))))), res := [.cell 6 (some 97), .tmp 7] }
def am46 : AFunc := { nargs := 1, nt := 5, sites := 1, mode := .pure, body := .seq (.seq (.region [⟨some 1, .box 0 (.tmp 0), none⟩, ⟨some 2, .move (.cst (.bool false)), none⟩]) (.clr [2, 0])) (.seq (.seq (.region [⟨some 3, .faddr 100 (.tmp 1), none⟩, ⟨some 4, .load none (.tmp 3), none⟩, ⟨some 2, .move (.tmp 4), none⟩]) (.clr [4, 3, 1])) .ret), res := [.tmp 2] }
def am47 : AFunc := { nargs := 1, nt := 24, sites := 2, mode := .keep, body := .seq (.seq (.region [⟨some 2, .move (.cst .nils), none⟩]) (.clr [2])) (.seq (.region [⟨some 3, .move (.cst .nils), none⟩]) (.seq (.seq (.seq (.region [⟨some 7, .move (.tmp 0), none⟩, ⟨some 8, .call 39 [.tmp 7], none⟩, ⟨some 9, .move (.cst (.int .i64 0)), none⟩]) (.clr [7])) (.block 0 (.loop [] [] (.seq (.region [⟨some 10, .bin .lss (.tmp 9) (.tmp 8), none⟩]) (.seq (.cond (.tmp 10) (.seq (.clr [10]) .skip) (.seq (.clr [10, 9, 8, 0]) (.exit 0))) (.seq (.block 1 (.seq (.seq (.region [⟨some 11, .move (.tmp 9), none⟩, ⟨some 4, .move (.tmp 11), none⟩]) (.clr [11])) (.seq (.seq (.region [⟨some 13, .move (.tmp 0), none⟩, ⟨some 14, .move (.tmp 4), none⟩, ⟨some 15, .call 21 [.tmp 13, .tmp 14], none⟩, ⟨some 12, .move (.tmp 15), none⟩, ⟨some 16, .extract (.tmp 12) 0, none⟩, ⟨some 17, .extract (.tmp 12) 1, none⟩, ⟨some 5, .allocz 0 [.int .i64 0, .int .u8 0, .int .u8 0, .int .u8 0, .int .u8 0, .int .u8 0, .int .u8 0, .int .u8 0, .int .u8 0, .int .u8 0, .int .u8 0, .int .u8 0, .int .u8 0, .int .u8 0, .int .u8 0, .int .u8 0, .int .u8 0, .int .u8 0, .int .u8 0, .int .u8 0, .int .u8 0, .int .u8 0, .int .u8 0, .int .u8 0, .int .u8 0, .int .u8 0, .int .u8 0, .int .u8 0, .int .u8 0, .int .u8 0, .int .u8 0, .int .u8 0, .int .u8 0, .int .u8 0, .int .u8 0, .int .u8 0, .int .u8 0, .int .u8 0, .int .u8 0, .int .u8 0, .int .u8 0, .int .u8 0, .int .u8 0, .int .u8 0, .int .u8 0, .int .u8 0, .int .u8 0, .int .u8 0, .int .u8 0, .int .u8 0, .int .u8 0, .int .u8 0, .int .u8 0, .int .u8 0, .int .u8 0, .int .u8 0, .int .u8 0, .int .u8 0, .int .u8 0, .int .u8 0, .int .u8 0, .int .u8 0, .int .u8 0, .int .u8 0, .int .u8 0, .int .u8 0, .int .u8 0, .int .u8 0, .int .u8 0, .int .u8 0, .int .u8 0, .int .u8 0, .int .u8 0, .int .u8 0, .int .u8 0, .int .u8 0, .int .u8 0, .int .u8 0, .int .u8 0, .int .u8 0, .int .u8 0, .int .u8 0, .int .u8 0, .int .u8 0, .int .u8 0, .int .u8 0, .int .u8 0, .int .u8 0, .int .u8 0, .int .u8 0, .int .u8 0, .int .u8 0, .int .u8 0, .int .u8 0, .int .u8 0, .int .u8 0, .int .u8 0], none⟩, ⟨none, .store 97 (.tmp 5) (.tmp 16), none⟩, ⟨some 6, .move (.tmp 17), none⟩]) (.clr [17, 16, 15, 14, 13, 12, 6, 4])) (.seq (.region [⟨some 18, .move (.tmp 3), none⟩, ⟨some 19, .load (some 97) (.tmp 5), none⟩, ⟨some 20, .bslice [.int .i64 0, .int .u8 0, .int .u8 0, .int .u8 0, .int .u8 0, .int .u8 0, .int .u8 0, .int .u8 0, .int .u8 0, .int .u8 0, .int .u8 0, .int .u8 0, .int .u8 0, .int .u8 0, .int .u8 0, .int .u8 0, .int .u8 0, .int .u8 0, .int .u8 0, .int .u8 0, .int .u8 0, .int .u8 0, .int .u8 0, .int .u8 0, .int .u8 0, .int .u8 0, .int .u8 0, .int .u8 0, .int .u8 0, .int .u8 0, .int .u8 0, .int .u8 0, .int .u8 0, .int .u8 0, .int .u8 0, .int .u8 0, .int .u8 0, .int .u8 0, .int .u8 0, .int .u8 0, .int .u8 0, .int .u8 0, .int .u8 0, .int .u8 0, .int .u8 0, .int .u8 0, .int .u8 0, .int .u8 0, .int .u8 0, .int .u8 0, .int .u8 0, .int .u8 0, .int .u8 0, .int .u8 0, .int .u8 0, .int .u8 0, .int .u8 0, .int .u8 0, .int .u8 0, .int .u8 0, .int .u8 0, .int .u8 0, .int .u8 0, .int .u8 0, .int .u8 0, .int .u8 0, .int .u8 0, .int .u8 0, .int .u8 0, .int .u8 0, .int .u8 0, .int .u8 0, .int .u8 0, .int .u8 0, .int .u8 0, .int .u8 0, .int .u8 0, .int .u8 0, .int .u8 0, .int .u8 0, .int .u8 0, .int .u8 0, .int .u8 0, .int .u8 0, .int .u8 0, .int .u8 0, .int .u8 0, .int .u8 0, .int .u8 0, .int .u8 0, .int .u8 0, .int .u8 0, .int .u8 0, .int .u8 0, .int .u8 0, .int .u8 0, .int .u8 0] 1 97 [(0, 97, .tmp 19)], none⟩, ⟨some 21, .append 1 97 104 (.tmp 18) (.tmp 20), none⟩, ⟨some 3, .move (.tmp 21), none⟩]) (.clr [21, 20, 19, 18, 5]))))) (.seq (.region [⟨some 22, .bin .add (.tmp 9) (.cst (.int .i64 1)), none⟩, ⟨some 9, .move (.tmp 22), none⟩]) (.clr [22])))))))) (.seq (.seq (.region [⟨some 23, .move (.tmp 3), none⟩, ⟨some 2, .move (.tmp 23), none⟩]) (.clr [23, 3])) .ret))), res := [.tmp 2] }
def am48 : AFunc := { nargs := 1, nt := 3, sites := 1, mode := .pure, body := .seq (.seq (.region [⟨some 1, .box 0 (.tmp 0), none⟩, ⟨some 2, .move (.cst (.bool false)), none⟩]) (.clr [2, 1, 0])) (.seq (.region [⟨some 2, .move (.cst (.bool true)), none⟩]) .ret), res := [.tmp 2] }
def am49 : AFunc := { nargs := 3, nt := 27, sites := 1, mode := .keep, body := .seq (.seq (.seq (.region [⟨some 6, .load none (.tmp 1), none⟩, ⟨some 7, .build [.int .i64 0, .int .i64 0] [(1, 1, .cst (.int .i64 1))], none⟩, ⟨some 8, .load none (.tmp 2), none⟩, ⟨some 9, .call 29 [.tmp 6, .tmp 7, .tmp 8, .cst (.int .i64 0)], none⟩, ⟨some 10, .bin .neq (.tmp 9) (.cst (.int .i64 0)), none⟩]) (.clr [9, 8, 7, 6])) (.cond (.tmp 10) (.seq (.clr [10, 2, 1, 0]) .ret) (.seq (.clr [10]) .skip))) (.seq (.seq (.region [⟨some 11, .load none (.tmp 1), none⟩, ⟨some 12, .load none (.tmp 2), none⟩, ⟨some 13, .nilck (.tmp 11), none⟩, ⟨some 14, .faddr 0 (.tmp 13), none⟩, ⟨some 15, .iaddrA 16 1 (.tmp 14) (.tmp 12), none⟩, ⟨some 16, .load none (.tmp 15), none⟩, ⟨some 17, .lenS (.tmp 16), none⟩, ⟨some 18, .move (.cst (.int .i64 0)), none⟩]) (.clr [15, 14, 13, 12, 11, 2, 1])) (.block 0 (.loop [] [] (.seq (.region [⟨some 19, .bin .lss (.tmp 18) (.tmp 17), none⟩]) (.seq (.cond (.tmp 19) (.seq (.clr [19]) .skip) (.seq (.clr [19, 18, 17, 16, 0]) (.exit 0))) (.seq (.block 1 (.seq (.seq (.region [⟨some 20, .iaddrS 101 (.tmp 16) (.tmp 18), none⟩, ⟨some 21, .load (some 101) (.tmp 20), none⟩, ⟨some 5, .allocz 0 [.int .i64 0, .int .i64 0, .int .i64 0, .int .i64 0, .int .u8 0, .int .u8 0, .int .u8 0, .int .u8 0, .int .u8 0, .int .u8 0, .int .u8 0, .int .u8 0, .int .u8 0, .int .u8 0, .int .u8 0, .int .u8 0, .int .u8 0, .int .u8 0, .int .u8 0, .int .u8 0, .int .u8 0, .int .u8 0, .int .u8 0, .int .u8 0, .int .u8 0, .int .u8 0, .int .u8 0, .int .u8 0, .int .u8 0, .int .u8 0, .int .u8 0, .int .u8 0, .int .u8 0, .int .u8 0, .int .u8 0, .int .u8 0, .int .u8 0, .int .u8 0, .int .u8 0, .int .u8 0, .int .u8 0, .int .u8 0, .int .u8 0, .int .u8 0, .int .u8 0, .int .u8 0, .int .u8 0, .int .u8 0, .int .u8 0, .int .u8 0, .int .u8 0, .int .u8 0, .int .u8 0, .int .u8 0, .int .u8 0, .int .u8 0, .int .u8 0, .int .u8 0, .int .u8 0, .int .u8 0, .int .u8 0, .int .u8 0, .int .u8 0, .int .u8 0, .int .u8 0, .int .u8 0, .int .u8 0, .int .u8 0, .int .u8 0, .int .u8 0, .int .u8 0, .int .u8 0, .int .u8 0, .int .u8 0, .int .u8 0, .int .u8 0, .int .u8 0, .int .u8 0, .int .u8 0, .int .u8 0, .int .u8 0, .int .u8 0, .int .u8 0, .int .u8 0, .int .u8 0, .int .u8 0, .int .u8 0, .int .u8 0, .int .u8 0, .int .u8 0, .int .u8 0, .int .u8 0, .int .u8 0, .int .u8 0, .int .u8 0, .int .u8 0, .int .u8 0, .int .u8 0, .int .u8 0, .int .u8 0, .bool false], none⟩, ⟨none, .store 101 (.tmp 5) (.tmp 21), none⟩]) (.clr [21, 20])) (.seq (.seq (.region [⟨some 22, .move (.tmp 0), none⟩, ⟨some 23, .load (some 101) (.tmp 5), none⟩, ⟨some 24, .callv (.tmp 22) [.tmp 23], none⟩, ⟨some 25, .un .not (.tmp 24), none⟩]) (.clr [24, 23, 22, 5])) (.cond (.tmp 25) (.seq (.clr [25, 18, 17, 16, 0]) .ret) (.seq (.clr [25]) .skip))))) (.seq (.region [⟨some 26, .bin .add (.tmp 18) (.cst (.int .i64 1)), none⟩, ⟨some 18, .move (.tmp 26), none⟩]) (.clr [26])))))))), res := [] }
def am51 : AFunc := { nargs := 1, nt := 4, sites := 1, mode := .keep, body := .seq (.seq (.region [⟨some 1, .box 0 (.tmp 0), none⟩, ⟨some 2, .move (.cst .nilf), none⟩]) (.clr [2, 0])) (.seq (.seq (.region [⟨some 3, .mkfunc 52 [] [.tmp 1], none⟩, ⟨some 2, .move (.tmp 3), none⟩]) (.clr [3, 1])) .ret), res := [.tmp 2] }
def am52 : AFunc := { nargs := 2, nt := 19, sites := 0, mode := .keep, body := .seq (.seq (.region [⟨some 4, .load none (.tmp 1), none⟩, ⟨some 5, .lenS (.tmp 4), none⟩, ⟨some 6, .bin .sub (.tmp 5) (.cst (.int .i64 1)), none⟩, ⟨some 3, .move (.tmp 6), none⟩]) (.clr [6, 5, 4])) (.block 0 (.loop [] [] (.seq (.seq (.seq (.region [⟨some 7, .move (.tmp 3), none⟩, ⟨some 8, .bin .geq (.tmp 7) (.cst (.int .i64 0)), none⟩]) (.clr [7])) (.cond (.tmp 8) (.seq (.clr [8]) .skip) (.seq (.clr [8, 3, 1, 0]) (.exit 0)))) (.seq (.block 1 (.seq (.seq (.region [⟨some 11, .move (.tmp 0), none⟩, ⟨some 12, .move (.tmp 3), none⟩, ⟨some 13, .load none (.tmp 1), none⟩, ⟨some 14, .move (.tmp 3), none⟩, ⟨some 15, .iaddrS 101 (.tmp 13) (.tmp 14), none⟩, ⟨some 16, .load (some 101) (.tmp 15), none⟩, ⟨some 17, .callv (.tmp 11) [.tmp 12, .tmp 16], none⟩, ⟨some 18, .un .not (.tmp 17), none⟩]) (.clr [17, 16, 15, 14, 13, 12, 11])) (.cond (.tmp 18) (.seq (.clr [18, 3, 1, 0]) .ret) (.seq (.clr [18]) .skip)))) (.seq (.region [⟨some 9, .move (.tmp 3), none⟩, ⟨some 10, .bin .sub (.tmp 9) (.cst (.int .i64 1)), none⟩, ⟨some 3, .move (.tmp 10), none⟩]) (.clr [10, 9])))))), res := [] }
def am : AProg := [none, none, none, none, none, none, some am6, some am7, some am8, some am9, some am10, some am11, some am12, some am13, some am14, none, none, some am17, none, none, some am20, some am21, some am22, some am23, some am24, some am25, some am26, some am27, some am28, some am29, some am30, none, none, none, some am34, some am35, none, none, none, some am39, none, some am41, none, none, none, some am45, some am46, some am47, some am48, some am49, none, some am51, some am52]
theorem at6 : am[6]? = some (some am6) := rfl
theorem pm7 : pureOf am 7 = .pure := rfl
theorem at8 : am[8]? = some (some am8) := rfl
theorem at9 : am[9]? = some (some am9) := rfl
theorem pm9 : pureOf am 9 = .pure := rfl
theorem at10 : am[10]? = some (some am10) := rfl
theorem pm10 : pureOf am 10 = .keep := rfl
theorem at11 : am[11]? = some (some am11) := rfl
theorem at12 : am[12]? = some (some am12) := rfl
theorem at13 : am[13]? = some (some am13) := rfl
theorem at14 : am[14]? = some (some am14) := rfl
theorem at17 : am[17]? = some (some am17) := rfl
theorem pm17 : pureOf am 17 = .keep := rfl
theorem at20 : am[20]? = some (some am20) := rfl
theorem pm20 : pureOf am 20 = .pure := rfl
theorem at21 : am[21]? = some (some am21) := rfl
theorem at22 : am[22]? = some (some am22) := rfl
theorem pm22 : pureOf am 22 = .keep := rfl
theorem at23 : am[23]? = some (some am23) := rfl
theorem at24 : am[24]? = some (some am24) := rfl
theorem at26 : am[26]? = some (some am26) := rfl
theorem pm26 : pureOf am 26 = .keep := rfl
theorem at29 : am[29]? = some (some am29) := rfl
theorem at30 : am[30]? = some (some am30) := rfl
theorem at34 : am[34]? = some (some am34) := rfl
theorem pm34 : pureOf am 34 = .look := rfl
theorem at35 : am[35]? = some (some am35) := rfl
theorem pm35 : pureOf am 35 = .look := rfl
theorem at39 : am[39]? = some (some am39) := rfl
theorem pm39 : pureOf am 39 = .keep := rfl
theorem at41 : am[41]? = some (some am41) := rfl
theorem pm41 : pureOf am 41 = .keep := rfl
theorem at45 : am[45]? = some (some am45) := rfl
theorem at46 : am[46]? = some (some am46) := rfl
theorem at47 : am[47]? = some (some am47) := rfl
theorem pm47 : pureOf am 47 = .keep := rfl
theorem at48 : am[48]? = some (some am48) := rfl
theorem at49 : am[49]? = some (some am49) := rfl
theorem at51 : am[51]? = some (some am51) := rfl
theorem at52 : am[52]? = some (some am52) := rfl
end Go.Am.T


set_option linter.unusedVariables false
set_option linter.unusedSimpArgs false
namespace Go.Am
end Go.Am


set_option linter.unusedVariables false
set_option linter.unusedSimpArgs false
namespace Go.Am
end Go.Am


set_option linter.unusedVariables false
set_option linter.unusedSimpArgs false
namespace Go.Am
abbrev Sl := List (Nat × V)
def getB : Sl → Nat → V
  | [], _ => .junk
  | (j, v) :: l, i => match Nat.beq i j with | true => v | false => getB l i
def insB (i : Nat) (x : V) : Sl → Sl
  | [] => [(i, x)]
  | (j, v) :: l => match Nat.beq i j with | true => (i, x) :: l | false => match Nat.blt i j with | true => (i, x) :: (j, v) :: l | false => (j, v) :: insB i x l
def delB (i : Nat) : Sl → Sl
  | [] => []
  | (j, v) :: l => match Nat.beq i j with | true => delB i l | false => (j, v) :: delB i l
def delsB : List Nat → Sl → Sl
  | [], l => l
  | i :: is, l => delsB is (delB i l)
theorem getB_eq : ∀ (l : Sl) (i : Nat), getB l i = get l i
  | [], _ => rfl
  | (j, v) :: l, i => by
    simp only [getB, get]
    cases h : Nat.beq i j with
    | true => rw [if_pos (Nat.eq_of_beq_eq_true h)]
    | false => rw [if_neg (Nat.ne_of_beq_eq_false h), getB_eq l]
theorem insB_eq (i : Nat) (x : V) : ∀ (l : Sl), insB i x l = ins i x l
  | [] => rfl
  | (j, v) :: l => by
    simp only [insB, ins]
    cases h : Nat.beq i j with
    | true => rw [if_pos (Nat.eq_of_beq_eq_true h)]
    | false =>
      rw [if_neg (Nat.ne_of_beq_eq_false h)]
      cases h2 : Nat.blt i j with
      | true => rw [if_pos (by simpa [Nat.blt_eq] using h2)]
      | false =>
        rw [if_neg (fun h3 => by rw [← Nat.blt_eq] at h3; rw [h3] at h2; cases h2), insB_eq i x l]
theorem delB_eq (i : Nat) : ∀ (l : Sl), delB i l = del i l
  | [] => rfl
  | (j, v) :: l => by
    simp only [delB, del]
    cases h : Nat.beq i j with
    | true => rw [if_pos (Nat.eq_of_beq_eq_true h), delB_eq i l]
    | false => rw [if_neg (Nat.ne_of_beq_eq_false h), delB_eq i l]
theorem delsB_eq : ∀ (is : List Nat) (l : Sl), delsB is l = dels is l
  | [], l => rfl
  | i :: is, l => by simp only [delsB, dels, delB_eq, delsB_eq is]
def evB (n : Nat) (l : Sl) : Opd → V
  | .tmp i => match Nat.blt i n with | true => getB l i | false => .junk
  | .cst v => v
theorem evB_eq (n : Nat) (l : Sl) : evB n l = ev (fr n l) := by
  funext o
  cases o with
  | cst v => rfl
  | tmp i =>
    simp only [evB, ev]
    cases h : Nat.blt i n with
    | true => rw [fr_getD (by simpa [Nat.blt_eq] using h), getB_eq]
    | false =>
      have hn : ¬ i < n := fun h3 => by rw [← Nat.blt_eq] at h3; rw [h3] at h; cases h
      rw [List.getD_eq_getElem?_getD, List.getElem?_eq_none (by rw [fr_length]; omega)]
      rfl
def putB (l : Sl) (dst : Option Nat) (v : V) : Sl := match dst with | some d => insB d v l | none => l
theorem put_B (n : Nat) (l : Sl) (dst : Option Nat) (v : V) : put (fr n l) dst v = fr n (putB l dst v) := by
  cases dst with
  | none => rfl
  | some d => simp only [putB, insB_eq]; exact put_fr n l d v
def wantedB (n : Nat) (o : AOper) (l : Sl) : Option Bool :=
  match o.guard with
  | none => some true
  | some (g, want) =>
    match evB n l (.tmp g) with
    | .bool b => some (match want with | true => b | false => !b)
    | .tup [] => some false
    | _ => none
theorem wanted_B (n : Nat) (o : AOper) (l : Sl) : wanted o (fr n l) = wantedB n o l := by
  unfold wanted wantedB
  rw [evB_eq]
  rfl
def stepOpB (call : Caller) (fb n : Nat) (o : AOper) (l : Sl) (h : Heap) : Option (Sl × Heap) :=
  match wantedB n o l with
  | none => none
  | some false => some (putB l o.dst (.tup []), h)
  | some true =>
    match doOp call fb o.op (evB n l) h with
    | some (v, h') => some (putB l o.dst v, h')
    | none => none
theorem stepOp_B (call : Caller) (fb n : Nat) (o : AOper) (l : Sl) (h : Heap) : stepOp call fb o (fr n l) h = (stepOpB call fb n o l h).map fun p => (fr n p.1, p.2) := by
  unfold stepOp stepOpB
  rw [wanted_B, evB_eq]
  cases wantedB n o l with
  | none => rfl
  | some b =>
    cases b with
    | false => simp only [put_B, Option.map_some]
    | true =>
      cases doOp call fb o.op (ev (fr n l)) h with
      | none => rfl
      | some p => simp only [put_B, Option.map_some]
def runOpsB (call : Caller) (fb n : Nat) : List AOper → Sl → Heap → Option (Sl × Heap)
  | [], l, h => some (l, h)
  | o :: os, l, h =>
    match stepOpB call fb n o l h with
    | some (l', h') => runOpsB call fb n os l' h'
    | none => none
theorem runOps_B (call : Caller) (fb n : Nat) : ∀ (ops : List AOper) (l : Sl) (h : Heap), runOps call fb ops (fr n l) h = (runOpsB call fb n ops l h).map fun p => (fr n p.1, p.2)
  | [], l, h => rfl
  | o :: os, l, h => by
    simp only [runOps, runOpsB, stepOp_B]
    cases stepOpB call fb n o l h with
    | none => rfl
    | some p => exact runOps_B call fb n os p.1 p.2
def fpAtB (pureF : FuncId → FMode) (fb n : Nat) (o : AOper) (l : Sl) (h : Heap) : Fp :=
  match wantedB n o l with
  | some true => fpOf pureF fb (evB n l) h o.op
  | _ => .io [] []
theorem fpAt_B (pureF : FuncId → FMode) (fb n : Nat) (o : AOper) (l : Sl) (h : Heap) : fpAt pureF fb o (fr n l) h = fpAtB pureF fb n o l h := by
  unfold fpAt fpAtB
  rw [wanted_B, evB_eq]
  rfl
def runDrawB (pureF : FuncId → FMode) (call : Caller) (fb m n : Nat) : List (AOper × List Nat) → List FpT → Sl → Heap → Option (Sl × Heap)
  | [], _, l, h => some (l, h)
  | (o, ps) :: os, fps, l, h =>
    match ps.all (fun k => (fps.getD k .bar).ok m (fpAtB pureF fb n o l h)) with
    | true =>
      match stepOpB call fb n o l h with
      | some (l', h') => runDrawB pureF call fb m n os (fps ++ [tagP (o.op.rds (evB n l)) (fpAtB pureF fb n o l h) h h']) l' h'
      | none => none
    | false => none
theorem runDraw_B (pureF : FuncId → FMode) (call : Caller) (fb m n : Nat) : ∀ (ops : List (AOper × List Nat)) (fps : List FpT) (l : Sl) (h : Heap), runDraw pureF call fb m ops fps (fr n l) h = (runDrawB pureF call fb m n ops fps l h).map fun p => (fr n p.1, p.2)
  | [], fps, l, h => rfl
  | (o, ps) :: os, fps, l, h => by
    simp only [runDraw, runDrawB, stepOp_B, fpAt_B, evB_eq]
    cases ps.all (fun k => (fps.getD k .bar).ok m (fpAtB pureF fb n o l h)) with
    | false => rfl
    | true =>
      simp only [↓reduceIte]
      cases stepOpB call fb n o l h with
      | none => rfl
      | some p => exact runDraw_B pureF call fb m n os _ p.1 p.2
def loopNB (f : Sl → Heap → Option (Ex × Sl × Heap)) (pre : Sl → Heap → Sl × Heap) : Nat → Sl → Heap → Option (Ex × Sl × Heap)
  | 0, _, _ => none
  | n + 1, l, h =>
    match f (pre l h).1 (pre l h).2 with
    | some (.norm, l', h') => loopNB f pre n l' h'
    | r => r
theorem loopN_B {n : Nat} {f : List V → Heap → Option (Ex × List V × Heap)} {f' : Sl → Heap → Option (Ex × Sl × Heap)} (hf : ∀ l h p, f' l h = some p → f (fr n l) h = some (p.1, fr n p.2.1, p.2.2)) {pre : List V → Heap → List V × Heap} {pre' : Sl → Heap → Sl × Heap}
    (hp : ∀ l h, pre (fr n l) h = (fr n (pre' l h).1, (pre' l h).2)) : ∀ (m : Nat) (l : Sl) (h : Heap) (p : Ex × Sl × Heap), loopNB f' pre' m l h = some p → loopN f pre m (fr n l) h = some (p.1, fr n p.2.1, p.2.2)
  | 0, l, h, p, H => by simp [loopNB] at H
  | m + 1, l, h, p, H => by
    simp only [loopNB] at H
    simp only [loopN, hp]
    cases hq : f' (pre' l h).1 (pre' l h).2 with
    | none => rw [hq] at H; cases H
    | some q =>
      obtain ⟨e, l', h'⟩ := q
      rw [hq] at H
      rw [hf _ _ _ hq]
      cases e with
      | norm => exact loopN_B hf hp m l' h' p H
      | _ => cases H; rfl
def execB (pureF : FuncId → FMode) (call : Caller) (N fb n : Nat) : ACode → Sl → Heap → Option (Ex × Sl × Heap)
  | .skip, l, h => some (.norm, l, h)
  | .region ops, l, h => match runOpsB call fb n ops l h with | some (l', h') => some (.norm, l', h') | none => none
  | .draw ops, l, h => match runDrawB pureF (frameC pureF call) fb h.length n ops [] l h with | some (l', h') => some (.norm, l', h') | none => none
  | .seq a b, l, h => match execB pureF call N fb n a l h with | some (.norm, l', h') => execB pureF call N fb n b l' h' | r => r
  | .cond c a b, l, h => match evB n l c with | .bool true => execB pureF call N fb n a l h | .bool false => execB pureF call N fb n b l h | _ => none
  | .block id b, l, h => match execB pureF call N fb n b l h with | some (.exit i, l', h') => (match Nat.beq i id with | true => some (.norm, l', h') | false => some (.exit i, l', h')) | r => r
  | .loop clr kill b, l, h => loopNB (execB pureF call N fb n b) (fun l h => (delsB clr l, killA fb kill h)) N l h
  | .exit id, l, h => some (.exit id, l, h)
  | .ret, l, h => some (.ret, l, h)
  | .clr is, l, h => some (.norm, delsB is l, h)
  | .fresh k b, l, h => execB pureF call N h.length n b l (h ++ deads k)
  | .rangeM _ _ _ _ _ _ _ _ _, _, _ => none
  | .rangeF f _ _ _ fid k site, l, h =>
    match h[fb + site]? with
    | some x =>
      match evB n l f with
      | .func g xs ys =>
        match Nat.beq g YLD with
        | true => none
        | false =>
        match call g (xs ++ [.yld (fb + site) (x.ver + 1)] ++ ys) (h.set (fb + site) ⟨x.ver + 1, .loop 0 none (fr n l) fb fid k⟩) with
        | some (_, h2) =>
          match h2[fb + site]? with
          | some ⟨v, .loop st pend _ _ _ _⟩ => if v = x.ver + 1 then if st = 1 then none else some (jumpE pend, l, h2.set (fb + site) ⟨v, .dead⟩) else none
          | _ => none
        | none => none
      | _ => none
    | none => none
theorem exec_B (pureF : FuncId → FMode) (call : Caller) (N fb n : Nat) : ∀ (c : ACode) (l : Sl) (h : Heap) (p : Ex × Sl × Heap), execB pureF call N fb n c l h = some p → exec pureF call N fb c (fr n l) h = some (p.1, fr n p.2.1, p.2.2)
  | .skip, l, h, p, H => by simp only [execB, Option.some.injEq] at H; subst H; rfl
  | .region ops, l, h, p, H => by
    simp only [execB] at H
    simp only [exec, runOps_B]
    cases hq : runOpsB call fb n ops l h with
    | none => rw [hq] at H; cases H
    | some q => rw [hq] at H; cases H; rfl
  | .draw ops, l, h, p, H => by
    simp only [execB] at H
    simp only [exec, runDraw_B]
    cases hq : runDrawB pureF (frameC pureF call) fb h.length n ops [] l h with
    | none => rw [hq] at H; cases H
    | some q => rw [hq] at H; cases H; rfl
  | .seq a b, l, h, p, H => by
    simp only [execB] at H
    simp only [exec]
    cases hq : execB pureF call N fb n a l h with
    | none => rw [hq] at H; cases H
    | some q =>
      obtain ⟨e, l', h'⟩ := q
      rw [hq] at H
      rw [exec_B pureF call N fb n a l h _ hq]
      cases e with
      | norm => exact exec_B pureF call N fb n b l' h' p H
      | _ => cases H; rfl
  | .cond c a b, l, h, p, H => by
    simp only [execB, evB_eq] at H
    simp only [exec]
    revert H
    cases ev (fr n l) c with
    | bool x => cases x <;> first | exact fun H => exec_B pureF call N fb n a l h p H | exact fun H => exec_B pureF call N fb n b l h p H
    | _ => intro H; cases H
  | .block id b, l, h, p, H => by
    simp only [execB] at H
    simp only [exec]
    cases hq : execB pureF call N fb n b l h with
    | none => rw [hq] at H; cases H
    | some q =>
      obtain ⟨e, l', h'⟩ := q
      rw [hq] at H
      rw [exec_B pureF call N fb n b l h _ hq]
      cases e with
      | exit i =>
        simp only at H ⊢
        cases hb : Nat.beq i id with
        | true => rw [hb] at H; cases H; rw [if_pos (Nat.eq_of_beq_eq_true hb)]
        | false => rw [hb] at H; cases H; rw [if_neg (Nat.ne_of_beq_eq_false hb)]
      | _ => cases H; rfl
  | .loop clr kill b, l, h, p, H => by
    simp only [execB] at H
    simp only [exec]
    exact loopN_B (exec_B pureF call N fb n b) (fun l h => by rw [fr_clear, delsB_eq]) N l h p H
  | .exit id, l, h, p, H => by simp only [execB, Option.some.injEq] at H; subst H; rfl
  | .ret, l, h, p, H => by simp only [execB, Option.some.injEq] at H; subst H; rfl
  | .clr is, l, h, p, H => by
    simp only [execB, Option.some.injEq] at H
    subst H
    simp only [exec, fr_clear, delsB_eq]
  | .fresh k b, l, h, p, H => by
    simp only [execB] at H
    simp only [exec]
    exact exec_B pureF call N h.length n b l _ p H
  | .rangeM _ _ _ _ _ _ _ _ _, l, h, p, H => by simp [execB] at H
  | .rangeF f ps a b fid k site, l, h, p, H => by
    simp only [execB, evB_eq] at H
    simp only [exec]
    revert H
    cases h[fb + site]? with
    | none => intro H; cases H
    | some x =>
      cases ev (fr n l) f with
      | func g xs ys =>
        simp only
        cases hg : Nat.beq g YLD with
        | true => intro H; cases H
        | false =>
          rw [if_neg (Nat.ne_of_beq_eq_false hg)]
          simp only
          cases call g (xs ++ [.yld (fb + site) (x.ver + 1)] ++ ys) (h.set (fb + site) ⟨x.ver + 1, .loop 0 none (fr n l) fb fid k⟩) with
          | none => intro H; cases H
          | some p =>
            obtain ⟨v, h2⟩ := p
            simp only
            cases hq : h2[fb + site]? with
            | none => intro H; cases H
            | some ob =>
              obtain ⟨v, bd⟩ := ob
              cases bd with
              | loop st pend t' fb' f' k' =>
                simp only
                by_cases c1 : v = x.ver + 1
                · by_cases c2 : st = 1
                  · simp only [c1, c2, ↓reduceIte]; intro H; cases H
                  · simp only [c1, c2, ↓reduceIte]; intro H; cases H; rfl
                · simp only [c1, ↓reduceIte]; intro H; cases H
              | _ => intro H; cases H
      | _ => intro H; cases H
def toB : Nat → List V → Sl
  | _, [] => []
  | i, v :: t => match v with | .junk => toB (i + 1) t | v => (i, v) :: toB (i + 1) t
theorem get_toB : ∀ (t : List V) (k i : Nat), get (toB k t) i = if i < k then .junk else t.getD (i - k) .junk
  | [], k, i => by simp [toB, get]
  | v :: t, k, i => by
    have ih := get_toB t (k + 1) i
    have step : ∀ (l : Sl), (get l i = if i < k + 1 then .junk else t.getD (i - (k + 1)) .junk) → (if i = k then v else get l i) = if i < k then .junk else (v :: t).getD (i - k) .junk := by
      intro l hl
      by_cases h1 : i = k
      · subst h1; simp
      · rw [if_neg h1, hl]
        by_cases h2 : i < k
        · rw [if_pos (by omega), if_pos h2]
        · rw [if_neg (by omega), if_neg h2, show i - k = (i - (k + 1)) + 1 by omega, List.getD_cons_succ]
    cases v with
    | junk =>
      simp only [toB]
      rw [ih]
      by_cases h2 : i < k
      · rw [if_pos (by omega), if_pos h2]
      · rw [if_neg h2]
        by_cases h1 : i = k
        · subst h1; simp
        · rw [if_neg (by omega), show i - k = (i - (k + 1)) + 1 by omega, List.getD_cons_succ]
    | _ => exact step _ ih
theorem fr_toB (t : List V) : fr t.length (toB 0 t) = t := by
  apply List.ext_getElem?
  intro i
  rcases Nat.lt_or_ge i t.length with h | h
  · rw [fr_get? h, get_toB]
    simp [List.getD_eq_getElem?_getD, h]
  · rw [List.getElem?_eq_none (by rw [fr_length]; exact h), List.getElem?_eq_none h]
def yieldB (p : AProg) (call : Caller) (N : Nat) (args : List V) (h : Heap) : Option (V × Heap) :=
  match args with
  | .yld o ver :: xs =>
    match h[o]? with
    | some ⟨v, .loop _ _ t fb f k⟩ =>
      match Nat.beq v ver with
      | false => none
      | true =>
        match p[f]? with
        | some (some af) =>
          match (rangesA af.body)[k]? with
          | some (ps, asn, body) =>
            match Nat.beq xs.length ps.length with
            | false => none
            | true =>
              match execB (pureOf p) call N fb t.length asn ((ps.zip xs).foldl (fun l p => insB p.1 p.2 l) (toB 0 t)) h with
              | some (.norm, t1, h1) =>
                match h1[o]? with
                | some ⟨v1, .loop 0 p1 t2 fb2 f2 k2⟩ =>
                  match Nat.beq v1 ver with
                  | false => none
                  | true =>
                    match execB (pureOf p) call N fb t.length body t1 (h1.set o ⟨ver, .loop 1 p1 t2 fb2 f2 k2⟩) with
                    | some (x, _, h2) =>
                      match h2[o]? with
                      | some ⟨v2, .loop _ _ t3 fb3 f3 k3⟩ =>
                        match Nat.beq v2 ver with
                        | false => none
                        | true =>
                          match x with
                          | .norm => some (.bool true, h2.set o ⟨ver, .loop 0 none t3 fb3 f3 k3⟩)
                          | .exit id => some (.bool false, h2.set o ⟨ver, .loop 2 (some (some id)) t3 fb3 f3 k3⟩)
                          | .ret => some (.bool false, h2.set o ⟨ver, .loop 2 (some none) t3 fb3 f3 k3⟩)
                      | _ => none
                    | none => none
                | _ => none
              | _ => none
          | none => none
        | _ => none
    | _ => none
  | _ => none
theorem setPs_B (n : Nat) : ∀ (ps : List (Nat × V)) (l : Sl), ps.foldl (fun t p => t.set p.1 p.2) (fr n l) = fr n (ps.foldl (fun l p => insB p.1 p.2 l) l)
  | [], l => rfl
  | p :: ps, l => by
    rw [List.foldl_cons, List.foldl_cons, fr_set, ← insB_eq]
    exact setPs_B n ps _
theorem yield_B {p : AProg} {call : Caller} {N : Nat} {args : List V} {h : Heap} {r : V × Heap} (H : yieldB p call N args h = some r) : yieldA p call N args h = some r := by
  unfold yieldB at H
  split at H
  case h_2 => cases H
  rename_i o ver xs
  split at H
  case h_2 => cases H
  rename_i v st pd t fb f k hob
  split at H
  case h_1 => cases H
  rename_i hv
  have hv := Nat.eq_of_beq_eq_true hv
  split at H
  case h_2 => cases H
  rename_i af haf
  split at H
  case h_2 => cases H
  rename_i ps asn body hra
  split at H
  case h_1 => cases H
  rename_i hl
  have hl := Nat.eq_of_beq_eq_true hl
  split at H
  case h_2 => cases H
  rename_i t1 h1 he1
  split at H
  case h_2 => cases H
  rename_i v1 p1 t2 fb2 f2 k2 ho1
  split at H
  case h_1 => cases H
  rename_i hv1
  have hv1 := Nat.eq_of_beq_eq_true hv1
  split at H
  case h_2 => cases H
  rename_i x t4 h2 he2
  split at H
  case h_2 => cases H
  rename_i v2 st3 pd3 t3 fb3 f3 k3 ho2
  split at H
  case h_1 => cases H
  rename_i hv2
  have hv2 := Nat.eq_of_beq_eq_true hv2
  have e1 : exec (pureOf p) call N fb asn (setPs ps xs t) h = some (.norm, fr t.length t1, h1) := by
    have := exec_B (pureOf p) call N fb t.length asn ((ps.zip xs).foldl (fun l p => insB p.1 p.2 l) (toB 0 t)) h _ he1
    rw [← setPs_B, fr_toB] at this
    exact this
  have e2 := exec_B (pureOf p) call N fb t.length body t1 (h1.set o ⟨ver, .loop 1 p1 t2 fb2 f2 k2⟩) _ he2
  unfold yieldA
  simp only [hob, hv, ↓reduceIte, haf, hra, hl, e1, ho1, hv1, e2, Option.map_some, ho2, hv2]
  exact H
def resB (get : Nat → Option Ob) (n : Nat) (l : Sl) : List ARes → Option (List V)
  | [] => some []
  | r :: rs => match (match r with | .tmp i => some (evB n l (.tmp i)) | .cell i ag => (loadA get (nAg ag) (evB n l (.tmp i))).bind (packA ag)), resB get n l rs with | some v, some vs => some (v :: vs) | _, _ => none
theorem res_B (get : Nat → Option Ob) (n : Nat) (l : Sl) : ∀ (rs : List ARes), resA get (fr n l) rs = resB get n l rs
  | [] => rfl
  | r :: rs => by
    have e : resA1 get (fr n l) r = (match r with | .tmp i => some (evB n l (.tmp i)) | .cell i ag => (loadA get (nAg ag) (evB n l (.tmp i))).bind (packA ag)) := by
      rw [evB_eq]
      cases r <;> rfl
    simp only [resA, resB, e, res_B get n l rs] <;> (cases r <;> rfl)
def bodyB (p : AProg) (call : Caller) (N fb : Nat) (fn : AFunc) (args : List V) (h : Heap) : Option (V × Heap) :=
  match Nat.ble args.length fn.nt with
  | false => none
  | true =>
    match execB (pureOf p) call N fb fn.nt fn.body (argsF 0 args) h with
    | some (.norm, l, h') => match resB (fun o => h'[o]?) fn.nt l fn.res with | some vs => some (packR vs, h') | none => none
    | some (.ret, l, h') => match resB (fun o => h'[o]?) fn.nt l fn.res with | some vs => some (packR vs, h') | none => none
    | _ => none
theorem body_B {p : AProg} {call : Caller} {N fb : Nat} {fn : AFunc} {args : List V} {h : Heap} {r : V × Heap} (H : bodyB p call N fb fn args h = some r) : bodyA p call N fb fn args h = some r := by
  unfold bodyB at H
  split at H
  case h_1 => cases H
  rename_i hle
  have hle := Nat.le_of_ble_eq_true hle
  unfold bodyA
  rw [fr_args args fn.nt hle]
  split at H
  · rename_i l h' he
    rw [exec_B _ _ _ _ _ _ _ _ _ he]
    simp only [res_B]
    exact H
  · rename_i l h' he
    rw [exec_B _ _ _ _ _ _ _ _ _ he]
    simp only [res_B]
    exact H
  · cases H
def callB (p : AProg) (N : Nat) : Nat → Caller
  | 0, _, _, _ => none
  | n + 1, f, args, h =>
    match Nat.beq f YLD with
    | true => yieldB p (callB p N n) N args h
    | false =>
    match p[f]? with
    | some (some fn) =>
      match Nat.beq args.length fn.nargs with
      | false => none
      | true =>
        match fn.mode with
        | .keep => bodyB p (callB p N n) N h.length fn args (h ++ deads fn.sites)
        | .auto =>
          match V.freeL args with
          | true =>
            match bodyB p (callB p N n) N 0 fn args (deads fn.sites) with
            | some (v, h') => match V.shut (fun o => h'[o]?) sealDepth v with | some v' => some (v', h) | none => none
            | none => none
          | false => bodyB p (callB p N n) N h.length fn args (h ++ deads fn.sites)
        | .pure =>
          match V.freeL args with
          | true =>
            match bodyB p (callB p N n) N 0 fn args (deads fn.sites) with
            | some (v, h') => match V.shut (fun o => h'[o]?) sealDepth v with | some v' => some (v', h) | none => none
            | none => none
          | false => none
        | .look =>
          match args.mapM (V.shut (fun o => h[o]?) sealDepth) with
          | some args' =>
            match bodyB p (callB p N n) N 0 fn args' (deads fn.sites) with
            | some (v, _) => match v.plain with | true => some (v, h) | false => none
            | none => none
          | none => none
    | _ => none
theorem call_B (p : AProg) (N : Nat) : ∀ (n : Nat), Sub (callB p N n) (callA p N n)
  | 0 => by intro f args h r H; simp [callB] at H
  | n + 1 => by
    have ih := call_B p N n
    have B : ∀ {fb : Nat} {fn : AFunc} {args : List V} {h : Heap} {r : V × Heap}, bodyB p (callB p N n) N fb fn args h = some r → bodyA p (callA p N n) N fb fn args h = some r := fun H => bodyA_mono ih (Nat.le_refl _) (body_B H)
    intro f args h r H
    unfold callB at H
    unfold callA
    split at H
    · rename_i hy
      rw [if_pos (Nat.eq_of_beq_eq_true hy)]
      exact yieldA_mono ih (Nat.le_refl _) (yield_B H)
    · rename_i hy
      rw [if_neg (Nat.ne_of_beq_eq_false hy)]
      split at H
      case h_2 => cases H
      rename_i fn hf
      try simp only [hf]
      split at H
      case h_1 => cases H
      rename_i hl
      rw [if_pos (Nat.eq_of_beq_eq_true hl)]
      split at H
      · rename_i hm; (try simp only [hm]); exact B H
      · rename_i hm
        try simp only [hm]
        split at H
        · rename_i hfr
          rw [if_pos hfr]
          split at H
          · rename_i hb
            rw [B hb]
            exact H
          · cases H
        · rename_i hfr
          rw [if_neg (by rw [hfr]; decide)]
          exact B H
      · rename_i hm
        try simp only [hm]
        split at H
        · rename_i hfr
          rw [if_pos hfr]
          split at H
          · rename_i hb
            rw [B hb]
            exact H
          · cases H
        · cases H
      · rename_i hm
        try simp only [hm]
        split at H
        · rename_i hs
          try simp only [hs]
          split at H
          · rename_i hb
            rw [B hb]
            split at H
            · rename_i hp
              simp only [hp, ↓reduceIte]
              exact H
            · cases H
          · cases H
        · cases H
theorem closed_quick {p : AProg} {N0 n0 : Nat} {f : FuncId} {args : List V} {v : V} (hm : pureOf p f = .pure) (H : callB p N0 n0 f args [] = some (v, [])) {N n : Nat} (hN : N0 ≤ N) (hn : n0 ≤ n) (h : Heap) (hy : f ≠ YLD := by decide) : callA p N n f args h = some (v, h) :=
  closed_call hm (call_B p N0 n0 f args [] (v, []) H) hN hn h hy
end Go.Am


set_option linter.unusedVariables false
set_option linter.unusedSimpArgs false
namespace Go.Am
theorem setPs_nil (xs : List V) (t : List V) : setPs [] xs t = t := rfl
theorem setPs_cons {p : Nat} {ps : List Nat} {x : V} {xs : List V} {n : Nat} {l : List (Nat × V)} : setPs (p :: ps) (x :: xs) (fr n l) = setPs ps xs (fr n (ins p x l)) := by
  simp only [setPs, List.zip_cons_cons, List.foldl_cons, fr_set]
theorem sx_rangeF {E : Env} {f : Opd} {ps : List Nat} {a b : ACode} {fid k site : Nat} {t : List V} {h : Heap} {Q : Post} {x : Ob} {g : FuncId} {xs ys : List V} {v : V} {h2 : Heap} {st : Nat} {pend : Option (Option Nat)} {t' : List V} {fb' f' k' : Nat}
    (hx : h[E.fb + site]? = some x) (hf : ev t f = .func g xs ys) (hc : E.call g (xs ++ [.yld (E.fb + site) (x.ver + 1)] ++ ys) (h.set (E.fb + site) ⟨x.ver + 1, .loop 0 none t E.fb fid k⟩) = some (v, h2))
    (h2o : h2[E.fb + site]? = some ⟨x.ver + 1, .loop st pend t' fb' f' k'⟩) (hst : st ≠ 1) (HQ : Q (jumpE pend) t (h2.set (E.fb + site) ⟨x.ver + 1, .dead⟩)) (hg : g ≠ YLD := by decide) : sx E (.rangeF f ps a b fid k site) t h Q := by
  show wp E (.rangeF f ps a b fid k site) t h Q
  unfold wp
  simp only [exec, hx, hf, if_neg hg, hc, h2o, ↓reduceIte, if_neg hst]
  exact HQ
def roundEnd : Ex → Nat × Option (Option Nat) × Bool
  | .norm => (0, none, true)
  | .exit id => (2, some (some id), false)
  | .ret => (2, some none, false)
theorem call_yld {p : AProg} {N n o ver : Nat} {xs : List V} {h : Heap} {st : Nat} {pd : Option (Option Nat)} {t : List V} {fb f k : Nat} {af : AFunc} {ps : List Nat} {asn body : ACode} {v : V} {h' : Heap} (ho : h[o]? = some ⟨ver, .loop st pd t fb f k⟩) (hp : p[f]? = some (some af))
    (hr : (rangesA af.body)[k]? = some (ps, asn, body)) (hl : xs.length = ps.length)
    (H : sx ⟨pureOf p, callA p N n, N, fb⟩ asn (setPs ps xs t) h fun e t1 h1 => e = .norm ∧ ∃ p1 t2 fb2 f2 k2, h1[o]? = some ⟨ver, .loop 0 p1 t2 fb2 f2 k2⟩ ∧
      sx ⟨pureOf p, callA p N n, N, fb⟩ body t1 (h1.set o ⟨ver, .loop 1 p1 t2 fb2 f2 k2⟩) fun e t' h2 => ∃ s3 p3 t3 fb3 f3 k3, h2[o]? = some ⟨ver, .loop s3 p3 t3 fb3 f3 k3⟩ ∧
        v = .bool (roundEnd e).2.2 ∧ h' = h2.set o ⟨ver, .loop (roundEnd e).1 (roundEnd e).2.1 t3 fb3 f3 k3⟩) :
    callA p N (n + 1) YLD (.yld o ver :: xs) h = some (v, h') := by
  have H1 := sx_wp H
  unfold wp at H1
  unfold callA
  rw [if_pos rfl]
  unfold yieldA
  simp only [ho, ↓reduceIte, hp, hr, hl]
  split at H1
  case h_2 => exact H1.elim
  rename_i e t1 h1 he
  obtain ⟨rfl, p1, t2, fb2, f2, k2, ho1, H2⟩ := H1
  have H3 := sx_wp H2
  unfold wp at H3
  simp only at he
  rw [he]
  simp only [ho1, ↓reduceIte]
  split at H3
  case h_2 => exact H3.elim
  rename_i e2 t4 h2 he2
  obtain ⟨s3, p3, t3, fb3, f3, k3, ho3, rfl, rfl⟩ := H3
  simp only at he2
  rw [he2]
  simp only [ho3, ↓reduceIte]
  cases e2 <;> rfl
end Go.Am


set_option linter.unusedVariables false
set_option linter.unusedSimpArgs false
namespace Go.Am
end Go.Am
namespace Go.Am
theorem sxb : type_of% (And.intro (And.intro (And.intro (And.intro (And.intro (And.intro (And.intro (@sx_seq) (@sxL_succ)) (And.intro (@lpQ_norm) (@lpQ_exit))) (And.intro (And.intro (@lpQ_ret) (@loopQ_norm)) (And.intro (@loopQ_exit) (And.intro (@loopQ_ret) (@sqQ_norm))))) (And.intro (And.intro (And.intro (@sqQ_ret) (@sqQ_exit)) (And.intro (@sx_block) (@blkQ_norm))) (And.intro (And.intro (@blkQ_exit) (@blkQ_ret)) (And.intro (@sx_cond) (And.intro (@cdP_true) (@cdP_false)))))) (And.intro (And.intro (And.intro (And.intro (@cdP_bool) (@sx_region)) (And.intro (@sx_draw) (@sxo_nil))) (And.intro (And.intro (@sxo_cons) (@sxo_guard)) (And.intro (@gdS_bool) (And.intro (@gdS_eff) (@gdS_tup))))) (And.intro (And.intro (And.intro (@gdS_sel) (@gdS_seleff)) (And.intro (@sxK_def) (And.intro (@wcall_some) (@effP_ret)))) (And.intro (And.intro (@effP_set) (@effP_none)) (And.intro (@effP_ite) (And.intro (@wop_call) (@wop_cv))))))) (And.intro (And.intro (And.intro (And.intro (And.intro (@cvP_func) (@sx_ret)) (And.intro (@sx_exit) (@sx_skip))) (And.intro (And.intro (@sx_clr) (@sx_fresh)) (And.intro (@wantB_true) (And.intro (@wantB_false) (@impB_triv))))) (And.intro (And.intro (And.intro (@valOf_some) (@retH_some)) (And.intro (@pickO_true) (@pickO_false))) (And.intro (And.intro (@pickO_and) (@pickO_or)) (And.intro (@pickO_andr) (And.intro (@pickO_orr) (@pickO_orrn)))))) (And.intro (And.intro (And.intro (And.intro (@pickO_orn) (@pickO_bb)) (And.intro (@pickAnd_bool) (@pickOr_bool))) (And.intro (And.intro (@Bool.and_assoc) (@Bool.or_assoc)) (And.intro (@ev_fr) (And.intro (@ev_cst) (@put_none))))) (And.intro (And.intro (And.intro (@put_fr) (@not_false_eq_true)) (And.intro (@framed_pureF) (And.intro (@framed_fb) (@framed_N)))) (And.intro (And.intro (@framed_pure) (@wop_prim)) (And.intro (@Nat.zero_add) (And.intro (@Nat.add_zero) (@Nat.not_lt_zero)))))))) (And.intro (And.intro (And.intro (And.intro (And.intro (And.intro (@opt_bind_some) (@opt_map_some)) (And.intro (@opt_bind_none) (@opt_map_none))) (And.intro (And.intro (@sr_nil) (@sr_cons)) (And.intro (@sr_succ) (And.intro (@sr_all) (@sr_len))))) (And.intro (And.intro (And.intro (@retQ_ret) (@retQ_norm)) (And.intro (@fr_getD) (@shut_bool))) (And.intro (And.intro (@shut_int) (@V.bool.injEq)) (And.intro (@V.int.injEq) (And.intro (@Bool.not_true) (@Bool.not_false)))))) (And.intro (And.intro (And.intro (And.intro (@true_and) (@and_true)) (And.intro (@and_self) (@Bool.and_true))) (And.intro (And.intro (@Bool.and_false) (@Bool.true_and)) (And.intro (@Bool.false_and) (And.intro (@Bool.or_true) (@Bool.or_false))))) (And.intro (And.intro (And.intro (@Bool.true_or) (@Bool.false_or)) (And.intro (@Bool.false_eq_true) (And.intro (@shut_plain) (@freeL_cons)))) (And.intro (And.intro (@freeL_nil) (@free_int)) (And.intro (@free_bool) (And.intro (@free_agg) (@free_str))))))) (And.intro (And.intro (And.intro (And.intro (And.intro (@free_nils) (@free_tup)) (And.intro (@free_sl) (@true_implies))) (And.intro (And.intro (@false_implies) (@Nat.sub_zero)) (And.intro (@Int.natCast_nonneg) (And.intro (@Int.toNat_natCast) (@Nat.le_refl))))) (And.intro (And.intro (And.intro (@not_true_eq_false) (@wrap64)) (And.intro (@false_and) (@and_false))) (And.intro (And.intro (@Bool.cond_true_left) (@Bool.cond_false_right)) (And.intro (@decide_true) (And.intro (@decide_false) (@Int.cast_ofNat_Int)))))) (And.intro (And.intro (And.intro (And.intro (@Nat.mul_one) (@Bool.true_eq_false)) (And.intro (@Bool.not_eq_true) (@Bool.not_eq_false))) (And.intro (And.intro (@List.all_cons.{0}) (@List.all_nil.{0})) (And.intro (@List.isEmpty_nil.{0}) (And.intro (@List.isEmpty_cons.{0}) (@List.getElem?_cons_zero.{0}))))) (And.intro (And.intro (And.intro (@List.getElem?_cons_succ.{0}) (@List.set_cons_zero.{0})) (And.intro (@List.set_cons_succ.{0}) (And.intro (@List.map_cons.{0, 0}) (@List.map_nil.{0, 0})))) (And.intro (And.intro (@List.cons_append.{0}) (@List.nil_append.{0})) (And.intro (@List.length_cons.{0}) (And.intro (@List.length_nil.{0}) (@Option.some.injEq.{0}))))))))) := And.intro (And.intro (And.intro (And.intro (And.intro (And.intro (And.intro (@sx_seq) (@sxL_succ)) (And.intro (@lpQ_norm) (@lpQ_exit))) (And.intro (And.intro (@lpQ_ret) (@loopQ_norm)) (And.intro (@loopQ_exit) (And.intro (@loopQ_ret) (@sqQ_norm))))) (And.intro (And.intro (And.intro (@sqQ_ret) (@sqQ_exit)) (And.intro (@sx_block) (@blkQ_norm))) (And.intro (And.intro (@blkQ_exit) (@blkQ_ret)) (And.intro (@sx_cond) (And.intro (@cdP_true) (@cdP_false)))))) (And.intro (And.intro (And.intro (And.intro (@cdP_bool) (@sx_region)) (And.intro (@sx_draw) (@sxo_nil))) (And.intro (And.intro (@sxo_cons) (@sxo_guard)) (And.intro (@gdS_bool) (And.intro (@gdS_eff) (@gdS_tup))))) (And.intro (And.intro (And.intro (@gdS_sel) (@gdS_seleff)) (And.intro (@sxK_def) (And.intro (@wcall_some) (@effP_ret)))) (And.intro (And.intro (@effP_set) (@effP_none)) (And.intro (@effP_ite) (And.intro (@wop_call) (@wop_cv))))))) (And.intro (And.intro (And.intro (And.intro (And.intro (@cvP_func) (@sx_ret)) (And.intro (@sx_exit) (@sx_skip))) (And.intro (And.intro (@sx_clr) (@sx_fresh)) (And.intro (@wantB_true) (And.intro (@wantB_false) (@impB_triv))))) (And.intro (And.intro (And.intro (@valOf_some) (@retH_some)) (And.intro (@pickO_true) (@pickO_false))) (And.intro (And.intro (@pickO_and) (@pickO_or)) (And.intro (@pickO_andr) (And.intro (@pickO_orr) (@pickO_orrn)))))) (And.intro (And.intro (And.intro (And.intro (@pickO_orn) (@pickO_bb)) (And.intro (@pickAnd_bool) (@pickOr_bool))) (And.intro (And.intro (@Bool.and_assoc) (@Bool.or_assoc)) (And.intro (@ev_fr) (And.intro (@ev_cst) (@put_none))))) (And.intro (And.intro (And.intro (@put_fr) (@not_false_eq_true)) (And.intro (@framed_pureF) (And.intro (@framed_fb) (@framed_N)))) (And.intro (And.intro (@framed_pure) (@wop_prim)) (And.intro (@Nat.zero_add) (And.intro (@Nat.add_zero) (@Nat.not_lt_zero)))))))) (And.intro (And.intro (And.intro (And.intro (And.intro (And.intro (@opt_bind_some) (@opt_map_some)) (And.intro (@opt_bind_none) (@opt_map_none))) (And.intro (And.intro (@sr_nil) (@sr_cons)) (And.intro (@sr_succ) (And.intro (@sr_all) (@sr_len))))) (And.intro (And.intro (And.intro (@retQ_ret) (@retQ_norm)) (And.intro (@fr_getD) (@shut_bool))) (And.intro (And.intro (@shut_int) (@V.bool.injEq)) (And.intro (@V.int.injEq) (And.intro (@Bool.not_true) (@Bool.not_false)))))) (And.intro (And.intro (And.intro (And.intro (@true_and) (@and_true)) (And.intro (@and_self) (@Bool.and_true))) (And.intro (And.intro (@Bool.and_false) (@Bool.true_and)) (And.intro (@Bool.false_and) (And.intro (@Bool.or_true) (@Bool.or_false))))) (And.intro (And.intro (And.intro (@Bool.true_or) (@Bool.false_or)) (And.intro (@Bool.false_eq_true) (And.intro (@shut_plain) (@freeL_cons)))) (And.intro (And.intro (@freeL_nil) (@free_int)) (And.intro (@free_bool) (And.intro (@free_agg) (@free_str))))))) (And.intro (And.intro (And.intro (And.intro (And.intro (@free_nils) (@free_tup)) (And.intro (@free_sl) (@true_implies))) (And.intro (And.intro (@false_implies) (@Nat.sub_zero)) (And.intro (@Int.natCast_nonneg) (And.intro (@Int.toNat_natCast) (@Nat.le_refl))))) (And.intro (And.intro (And.intro (@not_true_eq_false) (@wrap64)) (And.intro (@false_and) (@and_false))) (And.intro (And.intro (@Bool.cond_true_left) (@Bool.cond_false_right)) (And.intro (@decide_true) (And.intro (@decide_false) (@Int.cast_ofNat_Int)))))) (And.intro (And.intro (And.intro (And.intro (@Nat.mul_one) (@Bool.true_eq_false)) (And.intro (@Bool.not_eq_true) (@Bool.not_eq_false))) (And.intro (And.intro (@List.all_cons.{0}) (@List.all_nil.{0})) (And.intro (@List.isEmpty_nil.{0}) (And.intro (@List.isEmpty_cons.{0}) (@List.getElem?_cons_zero.{0}))))) (And.intro (And.intro (And.intro (@List.getElem?_cons_succ.{0}) (@List.set_cons_zero.{0})) (And.intro (@List.set_cons_succ.{0}) (And.intro (@List.map_cons.{0, 0}) (@List.map_nil.{0, 0})))) (And.intro (And.intro (@List.cons_append.{0}) (@List.nil_append.{0})) (And.intro (@List.length_cons.{0}) (And.intro (@List.length_nil.{0}) (@Option.some.injEq.{0}))))))))
end Go.Am


set_option linter.unusedSectionVars false
set_option linter.unusedVariables false
set_option linter.unusedSimpArgs false
namespace Go.Am
def InV (S : Nat → Prop) (v : V) : Prop := ∀ o ∈ v.objs, S o
def InL (S : Nat → Prop) (l : List V) : Prop := ∀ v ∈ l, InV S v
section
variable {S : Nat → Prop}
theorem mem_objsL' : ∀ {l : List V} {o : Nat}, o ∈ V.objsL l → ∃ c ∈ l, o ∈ c.objs
  | [], o, h => by cases h
  | v :: l, o, h => by
    have h' : o ∈ v.objs ++ V.objsL l := h
    rcases List.mem_append.1 h' with h | h
    · exact ⟨v, by simp, h⟩
    · obtain ⟨c, h1, h2⟩ := mem_objsL' h
      exact ⟨c, by simp [h1], h2⟩
theorem inL_iff {l : List V} : InL S l ↔ ∀ o ∈ V.objsL l, S o := by
  constructor
  · intro h o ho
    obtain ⟨c, h1, h2⟩ := mem_objsL' ho
    exact h c h1 o h2
  · intro h c hc o ho
    exact h o (mem_objsL hc o ho)
theorem inV_nil {v : V} (h : v.objs = []) : InV S v := fun o ho => by rw [h] at ho; cases ho
mutual
theorem free_objs : ∀ (v : V), v.free = true → v.objs = []
  | .junk, _ | .bool _, _ | .int .., _ | .str _, _ | .nilp, _ | .nils, _ | .nilm, _ | .nilf, _ | .nili, _ => rfl
  | .ptr .., h | .view .., h | .vend .., h | .map .., h | .yld .., h => by simp [V.free] at h
  | .iptr cs _, h => by simp only [V.objs]; exact free_objsL cs (by simpa [V.free] using h)
  | .sl L _ _, h => by simp only [V.objs]; exact free_objsL L (by simpa [V.free] using h)
  | .func _ xs ys, h => by
    simp only [V.free, Bool.and_eq_true] at h
    simp only [V.objs, free_objsL xs h.1, free_objsL ys h.2, List.append_nil]
  | .iface _ v, h => by simp only [V.objs]; exact free_objs v (by simpa [V.free] using h)
  | .agg cs, h => by simp only [V.objs]; exact free_objsL cs (by simpa [V.free] using h)
  | .tup cs, h => by simp only [V.objs]; exact free_objsL cs (by simpa [V.free] using h)
  termination_by structural v => v
theorem free_objsL : ∀ (l : List V), V.freeL l = true → V.objsL l = []
  | [], _ => rfl
  | v :: l, h => by
    simp only [V.freeL, Bool.and_eq_true] at h
    simp only [V.objsL, free_objs v h.1, free_objsL l h.2, List.append_nil]
  termination_by structural l => l
end
theorem InL.sub {l m : List V} (h : InL S l) (hs : ∀ v ∈ m, v ∈ l) : InL S m := fun v hv => h v (hs v hv)
theorem InL.take {l : List V} (h : InL S l) (n : Nat) : InL S (l.take n) := h.sub fun v hv => List.mem_of_mem_take hv
theorem InL.drop {l : List V} (h : InL S l) (n : Nat) : InL S (l.drop n) := h.sub fun v hv => List.mem_of_mem_drop hv
theorem InL.app {l m : List V} (h1 : InL S l) (h2 : InL S m) : InL S (l ++ m) := fun v hv => by
  rcases List.mem_append.1 hv with h | h
  · exact h1 v h
  · exact h2 v h
theorem InL.cons {v : V} {l : List V} (h1 : InV S v) (h2 : InL S l) : InL S (v :: l) := fun u hu => by
  rcases List.mem_cons.1 hu with rfl | h
  · exact h1
  · exact h2 u h
theorem inL_nil : InL S [] := fun v hv => by cases hv
theorem InV.agg {l : List V} (h : InL S l) : InV S (.agg l) := fun o ho => inL_iff.1 h o (by simpa [V.objs] using ho)
theorem InV.tup {l : List V} (h : InL S l) : InV S (.tup l) := fun o ho => inL_iff.1 h o (by simpa [V.objs] using ho)
theorem InV.sl {l : List V} {s : Nat} {c : Option Nat} (h : InL S l) : InV S (.sl l s c) := fun o ho => inL_iff.1 h o (by simpa [V.objs] using ho)
theorem InV.iptr {l : List V} {f : Nat} (h : InL S l) : InV S (.iptr l f) := fun o ho => inL_iff.1 h o (by simpa [V.objs] using ho)
theorem InV.agg' {l : List V} (h : InV S (.agg l)) : InL S l := inL_iff.2 fun o ho => h o (by simpa [V.objs] using ho)
theorem InV.cells {v : V} (h : InV S v) : InL S v.cells := by
  cases v <;> first | exact h.agg' | exact InL.cons h inL_nil
def InG (S : Nat → Prop) (get : Nat → Option Ob) : Prop := ∀ o x, get o = some x → ∀ i ∈ x.bd.objs, S i
def Bd.plainBd : Bd → Bool
  | .loop .. => false
  | _ => true
end
end Go.Am


set_option linter.unusedSectionVars false
set_option linter.unusedVariables false
set_option linter.unusedSimpArgs false
namespace Go.Am
structure Good (S : Nat → Prop) (n0 : Nat) (h : Heap) : Prop where
  names : InG S (fun o => h[o]?)
  base : ∀ (o v st : Nat) pd t fb f k, h[o]? = some ⟨v, .loop st pd t fb f k⟩ → n0 ≤ fb
  len : n0 ≤ h.length
section
variable {S : Nat → Prop} {n0 : Nat}
theorem Good.set {h : Heap} (H : Good S n0 h) {o : Nat} {x : Ob} (hx : ∀ i ∈ x.bd.objs, S i) (hl : ∀ st pd t fb f k, x.bd = .loop st pd t fb f k → n0 ≤ fb) : Good S n0 (h.set o x) := by
  refine ⟨fun i y hy => ?_, fun i v st pd t fb f k hy => ?_, by rw [List.length_set]; exact H.len⟩
  · simp only [List.getElem?_set] at hy
    split at hy
    · split at hy
      · cases hy; exact hx
      · cases hy
    · exact H.names i y hy
  · simp only [List.getElem?_set] at hy
    split at hy
    · split at hy
      · cases hy; exact hl _ _ _ _ _ _ rfl
      · cases hy
    · exact H.base i v st pd t fb f k hy
theorem Good.setP {h : Heap} (H : Good S n0 h) {o : Nat} {x : Ob} (hx : ∀ i ∈ x.bd.objs, S i) (hl : x.bd.plainBd = true) : Good S n0 (h.set o x) :=
  H.set hx fun st pd t fb f k e => by rw [e] at hl; cases hl
theorem Good.dead {h : Heap} (H : Good S n0 h) {o v : Nat} : Good S n0 (h.set o ⟨v, .dead⟩) := H.setP (fun i hi => by cases hi) rfl
theorem Good.app {h : Heap} (H : Good S n0 h) (n : Nat) : Good S n0 (h ++ deads n) := by
  refine ⟨fun i y hy => ?_, fun i v st pd t fb f k hy => ?_, by have := H.len; simp; omega⟩
  · simp only at hy
    rcases Nat.lt_or_ge i h.length with hl | hl
    · rw [List.getElem?_append_left hl] at hy; exact H.names i y hy
    · rw [List.getElem?_append_right hl] at hy
      obtain rfl := List.eq_of_mem_replicate (List.mem_of_getElem? hy)
      intro j hj; cases hj
  · rcases Nat.lt_or_ge i h.length with hl | hl
    · rw [List.getElem?_append_left hl] at hy; exact H.base i v st pd t fb f k hy
    · rw [List.getElem?_append_right hl] at hy
      have := List.eq_of_mem_replicate (List.mem_of_getElem? hy)
      cases this
theorem InL.put {t : List V} (h : InL S t) {d : Option Nat} {v : V} (hv : InV S v) : InL S (put t d v) := by
  cases d with
  | none => exact h
  | some d =>
    intro u hu
    rcases List.mem_or_eq_of_mem_set hu with hu | rfl
    · exact h u hu
    · exact hv
theorem InL.clear {t : List V} : ∀ (l : List Nat), InL S t → InL S (clear l t) := by
  intro l
  induction l generalizing t with
  | nil => exact fun h => h
  | cons i l ih => exact fun h => ih (h.put (d := some i) (v := .junk) (inV_nil rfl))
theorem Good.kill {h : Heap} (fb : Nat) : ∀ (l : List Nat), Good S n0 h → Good S n0 (killA fb l h) := by
  intro l
  induction l generalizing h with
  | nil => exact fun H => H
  | cons i l ih =>
    intro H
    unfold killA
    simp only [List.foldl_cons]
    split
    · exact ih H.dead
    · exact ih H
variable (hS : ∀ i, n0 ≤ i → S i)
include hS in
include hS in
include hS in
theorem InL.set {t : List V} (h : InL S t) {i : Nat} {v : V} (hv : InV S v) : InL S (t.set i v) := fun u hu => by
  rcases List.mem_or_eq_of_mem_set hu with hu | rfl
  · exact h u hu
  · exact hv
include hS in
mutual
theorem plain_free : ∀ (v : V), v.plain = true → v.free = true
  | .bool _, _ | .int .., _ | .str _, _ | .nilp, _ | .nils, _ | .nilm, _ | .nilf, _ | .nili, _ => rfl
  | .agg cs, h => plainL_free cs (by simpa [V.plain] using h)
  | .tup cs, h => plainL_free cs (by simpa [V.plain] using h)
  | .iface _ v, h => plain_free v (by simpa [V.plain] using h)
  | .junk, h | .ptr .., h | .iptr .., h | .view .., h | .vend .., h | .sl .., h | .map .., h | .func .., h | .yld .., h => by simp [V.plain] at h
  termination_by structural v => v
theorem plainL_free : ∀ (l : List V), V.plainL l = true → V.freeL l = true
  | [], _ => rfl
  | v :: l, h => by
    simp only [V.plainL, Bool.and_eq_true] at h
    simp only [V.freeL, plain_free v h.1, plainL_free l h.2, Bool.and_self]
  termination_by structural l => l
end
include hS in
include hS in
include hS in
end
end Go.Am


set_option linter.unusedVariables false
set_option linter.unusedSimpArgs false
namespace Go.Am
variable {P : Program}
inductive Sh where
  | int (k : IntKind)
  | bool
  | str
  | unit
  | pair (a b : Sh)
  | arr (n : Nat) (e : Sh)
  | sl (ag : Bool) (s : Nat) (e : Sh)
  deriving DecidableEq
def elemV (ag : Bool) (u : List V) : V := match ag with | true => .agg u | false => u.headD .junk
def InSh : Sh → List V → Prop
  | .int k, vs => ∃ n, vs = [.int k n] ∧ (Lit.int k n).wf = true
  | .bool, vs => ∃ b, vs = [.bool b]
  | .str, vs => ∃ s, vs = [.str s] ∧ s.length ≤ maxLen
  | .unit, vs => vs = []
  | .pair a b, vs => ∃ u v, vs = u ++ v ∧ InSh a u ∧ InSh b v
  | .arr n e, vs => ∃ us : List (List V), us.length = n ∧ vs = us.flatten ∧ ∀ u ∈ us, InSh e u
  | .sl ag s e, vs => vs = [.nils] ∨ ∃ (us : List (List V)) (c : Nat), vs = [.sl (us.map (elemV ag)) s (some c)] ∧ us.length ≤ c ∧ c ≤ maxLen ∧ ∀ u ∈ us, u.length = s ∧ InSh e u
section
variable {H : Type} {enc : TypeId × Value → H} {w : World} {sp : Nat → Bool} {held : Bool} {g : G}
def InP (ag : Bool) (S : Sh) (v : V) : Prop := match ag with | true => ∃ cs, v = .agg cs ∧ InSh S cs | false => InSh S [v]
theorem InSh.free : ∀ {S : Sh} {vs : List V}, InSh S vs → V.freeL vs = true
  | .int k, vs, ⟨n, h, _⟩ => by subst h; rfl
  | .bool, vs, ⟨n, h⟩ => by subst h; rfl
  | .str, vs, ⟨n, h, _⟩ => by subst h; rfl
  | .unit, vs, h => by cases h; rfl
  | .pair a b, vs, ⟨u, v, h, h1, h2⟩ => by subst h; rw [freeL_append, InSh.free h1, InSh.free h2]; rfl
  | .arr n e, vs, ⟨us, hn, h, h1⟩ => by
    subst h
    clear hn
    induction us with
    | nil => rfl
    | cons u us ih => rw [List.flatten_cons, freeL_append, InSh.free (h1 u (by simp)), ih (fun v hv => h1 v (by simp [hv]))]; rfl
  | .sl ag s e, vs, h => by
    rcases h with rfl | ⟨us, c, rfl, -, -, h1⟩
    · rfl
    · rw [freeL_cons, freeL_nil, Bool.and_true, free_sl]
      clear c
      induction us with
      | nil => rfl
      | cons u us ih =>
        have hu := InSh.free (h1 u (by simp)).2
        rw [List.map_cons, freeL_cons, ih (fun v hv => h1 v (by simp [hv])), Bool.and_true]
        cases ag with
        | true => exact hu
        | false =>
          cases u with
          | nil => rfl
          | cons x u => rw [freeL_cons, Bool.and_eq_true] at hu; exact hu.1
theorem InP.free {ag : Bool} {S : Sh} {v : V} (h : InP ag S v) : v.free = true := by
  cases ag with
  | true => obtain ⟨cs, rfl, h⟩ := h; exact h.free
  | false => have := InSh.free h; rw [freeL_cons, Bool.and_eq_true] at this; exact this.1
end
end Go.Am


set_option linter.unusedVariables false
set_option linter.unusedSimpArgs false
namespace Go.Am
end Go.Am


set_option linter.unusedVariables false
set_option linter.unusedSimpArgs false
set_option linter.unusedSectionVars false
set_option maxRecDepth 10000
namespace Go.Am.T
attribute [local congr] selV_congr impB_congr
theorem lt_of_get {h : Heap} {o : Nat} {x : Ob} (ho : h[o]? = some x) : o < h.length := (List.getElem?_eq_some_iff.1 ho).1
structure Wr where
  nd : Int
  ep : Int
  pg : Int
  ps : Int
  b : List Int
  du : Bool
def Wr.hd (x : Wr) : List V := [.int .i64 x.nd, .int .i64 x.ep, .int .i64 x.pg, .int .i64 x.ps]
def Wr.cs (x : Wr) : List V := x.hd ++ (x.b.map (V.int .u8) ++ [.bool x.du])
def Wr.Ok (x : Wr) : Prop := x.b.length = 96
theorem Wr.len {x : Wr} (h : x.Ok) : x.cs.length = 101 := by
  unfold Wr.cs Wr.hd
  unfold Wr.Ok at h
  simp [h]
theorem allOne_app {a b : List V} (h1 : a.all V.oneCell = true) (h2 : b.all V.oneCell = true) : (a ++ b).all V.oneCell = true := by
  rw [List.all_append, h1, h2]; rfl
theorem Wr.one (x : Wr) : x.cs.all V.oneCell = true := by
  unfold Wr.cs Wr.hd
  exact allOne_app rfl (allOne_app (allOne_ints _ _) rfl)
def flatW (l : List Wr) : List V := l.flatMap Wr.cs
theorem flatW_len : ∀ {l : List Wr}, (∀ x ∈ l, x.Ok) → (flatW l).length = l.length * 101
  | [], _ => rfl
  | x :: l, h => by
    have := flatW_len (l := l) fun y hy => h y (by simp [hy])
    unfold flatW at this ⊢
    rw [List.flatMap_cons, List.length_append, this, Wr.len (h x (by simp))]
    simp only [List.length_cons]
    omega
theorem flatW_app (a b : List Wr) : flatW (a ++ b) = flatW a ++ flatW b := by simp [flatW]
theorem flat_at {α : Type} (f : α → List V) (s : Nat) : ∀ {l : List α} {i : Nat} {x : α}, (∀ x ∈ l, (f x).length = s) → l[i]? = some x → ((l.flatMap f).drop (i * s)).take s = f x
  | [], i, x, _, h => by simp at h
  | y :: l, 0, x, h, hx => by
    simp at hx
    subst hx
    have := h y (by simp)
    rw [Nat.zero_mul, List.drop_zero, List.flatMap_cons, List.take_append, this, Nat.sub_self, List.take_zero, List.append_nil, List.take_of_length_le (by omega)]
  | y :: l, i + 1, x, h, hx => by
    have hy := h y (by simp)
    have ih := flat_at f s (l := l) (i := i) (x := x) (fun z hz => h z (by simp [hz])) (by simpa using hx)
    rw [List.flatMap_cons, show (i + 1) * s = (f y).length + i * s by rw [hy, Nat.add_mul]; omega, List.drop_append, List.drop_of_length_le (by omega), List.nil_append, Nat.add_sub_cancel_left]
    exact ih
theorem flat_set {α : Type} (f : α → List V) (s : Nat) : ∀ {l : List α} {i : Nat} {x y : α} {k : Nat} {c : List V} {rest : List V}, (∀ x ∈ l, (f x).length = s) → l[i]? = some x → f y = setRange (f x) k c → k + c.length ≤ s →
    setRange (l.flatMap f ++ rest) (i * s + k) c = (l.set i y).flatMap f ++ rest
  | [], i, x, y, k, c, rest, _, h, _, _ => by simp at h
  | z :: l, 0, x, y, k, c, rest, h, hx, hy, hk => by
    simp at hx
    subst hx
    have hz := h z (by simp)
    simp only [List.set_cons_zero, List.flatMap_cons, hy, Nat.zero_mul, Nat.zero_add, setRange, List.append_assoc]
    have h1 : (f z ++ (l.flatMap f ++ rest)).take k = (f z).take k := by rw [List.take_append, show k - (f z).length = 0 by omega]; simp
    have h2 : (f z ++ (l.flatMap f ++ rest)).drop (k + c.length) = (f z).drop (k + c.length) ++ (l.flatMap f ++ rest) := by
      rw [List.drop_append, show k + c.length - (f z).length = 0 by omega]; rfl
    rw [h1, h2]
  | z :: l, i + 1, x, y, k, c, rest, h, hx, hy, hk => by
    have hz := h z (by simp)
    have ih := flat_set f s (l := l) (i := i) (x := x) (y := y) (k := k) (c := c) (rest := rest) (fun z hz => h z (by simp [hz])) (by simpa using hx) hy hk
    simp only [List.set_cons_succ, List.flatMap_cons, List.append_assoc]
    rw [← ih]
    simp only [setRange]
    have e : (i + 1) * s + k = (f z).length + (i * s + k) := by rw [hz, Nat.add_mul]; omega
    rw [e, List.take_append, List.take_of_length_le (by omega), Nat.add_sub_cancel_left, Nat.add_assoc, List.drop_append, List.drop_of_length_le (show (f z).length ≤ (f z).length + (i * s + k + c.length) by omega), Nat.add_sub_cancel_left, List.nil_append]
    simp only [List.append_assoc]
def NilW (W : V) : Prop := W = .nils ∨ W = .sl [] 101 (some 0)
def PRow (H : Heap) (W : V) (l : List Wr) (R : List Nat) : Prop :=
  (∀ x ∈ l, x.Ok) ∧ ((l = [] ∧ NilW W ∧ R = []) ∨ ∃ o ver cap rest, R = [o] ∧ W = .view o ver 0 l.length 101 cap ∧ H[o]? = some ⟨ver, .arr (flatW l ++ rest)⟩ ∧ ((cap = none ∧ rest = []) ∨ cap = some l.length))
theorem PRow.keep {H H' : Heap} {W : V} {l : List Wr} {R : List Nat} (h : PRow H W l R) (hk : ∀ o ∈ R, H'[o]? = H[o]?) : PRow H' W l R := by
  obtain ⟨h0, h | ⟨o, ver, cap, rest, rfl, hw, ho, hc⟩⟩ := h
  · exact ⟨h0, .inl h⟩
  · exact ⟨h0, .inr ⟨o, ver, cap, rest, rfl, hw, by rw [hk o (by simp)]; exact ho, hc⟩⟩
theorem PRow.lt {H : Heap} {W : V} {l : List Wr} {R : List Nat} (h : PRow H W l R) : ∀ o ∈ R, o < H.length := by
  obtain ⟨-, ⟨-, -, rfl⟩ | ⟨o, ver, cap, rest, rfl, hw, ho, hc⟩⟩ := h
  · intro o ho; cases ho
  · intro o' h'
    obtain rfl : o' = o := by simpa using h'
    exact lt_of_get ho
theorem PRow.len {H : Heap} {W : V} {l : List Wr} {R : List Nat} (h : PRow H W l R) : lenA W = some l.length := by
  obtain ⟨-, ⟨rfl, rfl | rfl, -⟩ | ⟨o, ver, cap, rest, rfl, rfl, ho, hc⟩⟩ := h <;> rfl
theorem PRow.shape {H : Heap} {W : V} {l : List Wr} {R : List Nat} (h : PRow H W l R) : W.cells = [W] ∧ W.oneCell = true ∧ (∀ s, W ≠ .str s) ∧ (∀ s, W ≠ .agg s) ∧ (∀ s, W ≠ .tup s) ∧ W ≠ .junk := by
  obtain ⟨-, ⟨rfl, rfl | rfl, -⟩ | ⟨o, ver, cap, rest, rfl, rfl, ho, hc⟩⟩ := h <;> exact ⟨rfl, rfl, fun _ => V.noConfusion, fun _ => V.noConfusion, fun _ => V.noConfusion, V.noConfusion⟩
theorem PRow.objs {H : Heap} {W : V} {l : List Wr} {R : List Nat} (h : PRow H W l R) : W.objs = R := by
  obtain ⟨-, ⟨rfl, rfl | rfl, rfl⟩ | ⟨o, ver, cap, rest, rfl, rfl, ho, hc⟩⟩ := h <;> rfl
theorem PRow.nodup {H : Heap} {W : V} {l : List Wr} {R : List Nat} (h : PRow H W l R) : R.length ≤ 1 := by
  obtain ⟨-, ⟨rfl, rfl | rfl, rfl⟩ | ⟨o, ver, cap, rest, rfl, rfl, ho, hc⟩⟩ := h <;> simp
theorem PRow.append {H : Heap} {W : V} {l : List Wr} {R : List Nat} {o0 : Nat} {x0 : Ob} {x : Wr} (h : PRow H W l R) (hx : x.Ok) (h0 : H[o0]? = some x0) (hL : l.length ≤ 100000) :
    ∃ o1 y W', appendA (fun o => H[o]?) o0 101 136 W (.sl [.agg x.cs] 101 (some 1)) = some (.set o1 y W') ∧ PRow (H.set o1 y) W' (l ++ [x]) [o1] ∧ (o1 = o0 ∨ o1 ∈ R) ∧ o1 < H.length := by
  have hl1 : lenA (.sl [.agg x.cs] 101 (some 1)) = some 1 := rfl
  have hf1 : firstA (fun o => H[o]?) 101 1 (.sl [.agg x.cs] 101 (some 1)) = some x.cs := firstA_sl1
  have ha1 := x.one
  obtain ⟨hall, ⟨rfl, hnil, rfl⟩ | ⟨o, ver, cap, rest, rfl, rfl, ho, hc⟩⟩ := h
  · refine ⟨o0, ⟨x0.ver + 1, .arr x.cs⟩, .view o0 (x0.ver + 1) 0 1 101 none, ?_, ⟨by simpa using hx, .inr ⟨o0, x0.ver + 1, none, [], rfl, rfl, ?_, .inl ⟨rfl, rfl⟩⟩⟩, .inl rfl, lt_of_get h0⟩
    · rcases hnil with rfl | rfl <;>
      · unfold appendA
        simp [hl1, hf1, ha1, mkA, h0, maxBytes]
    · rw [List.getElem?_set_self (lt_of_get h0)]; simp [flatW]
  · have hlen := flatW_len hall
    have hall' : ∀ z ∈ l ++ [x], z.Ok := fun z hz => by
      rcases List.mem_append.1 hz with hz | hz
      · exact hall z hz
      · obtain rfl : z = x := by simpa using hz
        exact hx
    have hbig : (l.length + 1) * 136 ≤ maxBytes := by unfold maxBytes; omega
    rcases hc with ⟨rfl, rfl⟩ | rfl
    · rw [List.append_nil] at ho
      refine ⟨o, ⟨ver + 1, .arr (flatW (l ++ [x]))⟩, .view o (ver + 1) 0 (l.length + 1) 101 none, ?_, ⟨hall', .inr ⟨o, ver + 1, none, [], rfl, by simp, ?_, .inl ⟨rfl, rfl⟩⟩⟩, .inr (by simp), lt_of_get ho⟩
      · unfold appendA
        simp only [hl1, hf1, ha1, cellsAt, ho, ↓reduceIte, Nat.zero_add, hlen, Nat.le_refl]
        rw [if_neg (by omega), if_pos hbig, List.drop_zero, flatW_app]
        simp [flatW]
      · rw [List.getElem?_set_self (lt_of_get ho), List.append_nil]
    · refine ⟨o0, ⟨x0.ver + 1, .arr (flatW (l ++ [x]))⟩, .view o0 (x0.ver + 1) 0 (l.length + 1) 101 none, ?_, ⟨hall', .inr ⟨o0, x0.ver + 1, none, [], rfl, by simp, ?_, .inl ⟨rfl, rfl⟩⟩⟩, .inl rfl, lt_of_get h0⟩
      · unfold appendA
        simp only [hl1, hf1, ha1, cellsAt, ho, ↓reduceIte, Nat.zero_add, List.length_append, hlen]
        rw [if_neg (by omega), if_pos (by omega), if_neg (by omega), if_pos hbig, List.drop_zero, List.take_append, ← hlen, Nat.sub_self, List.take_zero, List.append_nil, List.take_of_length_le (by omega), flatW_app]
        simp [mkA, h0, flatW]
      · rw [List.getElem?_set_self (lt_of_get h0), List.append_nil]
def pcs (p : Int × Int) : List V := [.int .i64 p.1, .int .i64 p.2]
def flatP (l : List (Int × Int)) : List V := l.flatMap pcs
theorem flatP_obj (l : List (Int × Int)) : ∀ v ∈ flatP l, v.objs = [] := by
  intro v hv
  obtain ⟨x, hx, hvx⟩ := List.mem_flatMap.1 hv
  simp only [pcs, List.mem_cons, List.not_mem_nil, or_false] at hvx
  rcases hvx with rfl | rfl <;> rfl
theorem flatP_len : ∀ (l : List (Int × Int)), (flatP l).length = l.length * 2
  | [] => rfl
  | x :: l => by
    have := flatP_len l
    unfold flatP at this ⊢
    rw [List.flatMap_cons, List.length_append, this]
    simp only [pcs, List.length_cons, List.length_nil]
    omega
def ORow (H : Heap) (W : V) (l : List (Int × Int)) (R : List Nat) : Prop :=
  (l = [] ∧ W = .nils ∧ R = []) ∨ ∃ o ver pre, (∀ v ∈ pre, V.objs v = []) ∧ R = [o] ∧ W = .view o ver pre.length l.length 2 none ∧ H[o]? = some ⟨ver, .arr (pre ++ flatP l)⟩
theorem ORow.keep {H H' : Heap} {W : V} {l : List (Int × Int)} {R : List Nat} (h : ORow H W l R) (hk : ∀ o ∈ R, H'[o]? = H[o]?) : ORow H' W l R := by
  rcases h with h | ⟨o, ver, x, hpre, rfl, hw, ho⟩
  · exact .inl h
  · exact .inr ⟨o, ver, x, hpre, rfl, hw, by rw [hk o (by simp)]; exact ho⟩
theorem ORow.lt {H : Heap} {W : V} {l : List (Int × Int)} {R : List Nat} (h : ORow H W l R) : ∀ o ∈ R, o < H.length := by
  rcases h with ⟨-, -, rfl⟩ | ⟨o, ver, x, hpre, rfl, hw, ho⟩
  · intro o ho; cases ho
  · intro o' h'
    obtain rfl : o' = o := by simpa using h'
    exact lt_of_get ho
theorem ORow.len {H : Heap} {W : V} {l : List (Int × Int)} {R : List Nat} (h : ORow H W l R) : lenA W = some l.length := by
  rcases h with ⟨rfl, rfl, -⟩ | ⟨o, ver, x, hpre, rfl, rfl, ho⟩ <;> rfl
theorem ORow.shape {H : Heap} {W : V} {l : List (Int × Int)} {R : List Nat} (h : ORow H W l R) : W.cells = [W] ∧ W.oneCell = true ∧ (∀ s, W ≠ .str s) ∧ (∀ s, W ≠ .agg s) ∧ (∀ s, W ≠ .tup s) ∧ W ≠ .junk := by
  rcases h with ⟨rfl, rfl, -⟩ | ⟨o, ver, x, hpre, rfl, rfl, ho⟩ <;> exact ⟨rfl, rfl, fun _ => V.noConfusion, fun _ => V.noConfusion, fun _ => V.noConfusion, V.noConfusion⟩
theorem ORow.objs {H : Heap} {W : V} {l : List (Int × Int)} {R : List Nat} (h : ORow H W l R) : W.objs = R := by
  rcases h with ⟨rfl, rfl, rfl⟩ | ⟨o, ver, x, hpre, rfl, rfl, ho⟩ <;> rfl
theorem ORow.append {H : Heap} {W : V} {l : List (Int × Int)} {R : List Nat} {o0 : Nat} {x0 : Ob} {p : Int × Int} (h : ORow H W l R) (h0 : H[o0]? = some x0) (hL : l.length ≤ 100000) :
    ∃ o1 y W', appendA (fun o => H[o]?) o0 2 16 W (.sl [.agg (pcs p)] 2 (some 1)) = some (.set o1 y W') ∧ ORow (H.set o1 y) W' (l ++ [p]) [o1] ∧ (o1 = o0 ∨ o1 ∈ R) ∧ o1 < H.length := by
  have hl1 : lenA (.sl [.agg (pcs p)] 2 (some 1)) = some 1 := rfl
  have hf1 : firstA (fun o => H[o]?) 2 1 (.sl [.agg (pcs p)] 2 (some 1)) = some (pcs p) := firstA_sl1
  have ha1 : (pcs p).all V.oneCell = true := rfl
  rcases h with ⟨rfl, rfl, rfl⟩ | ⟨o, ver, pre, hpre, rfl, rfl, ho⟩
  · refine ⟨o0, ⟨x0.ver + 1, .arr (pcs p)⟩, .view o0 (x0.ver + 1) 0 1 2 none, ?_, .inr ⟨o0, x0.ver + 1, [], fun _ h => by (cases h), rfl, rfl, ?_⟩, .inl rfl, lt_of_get h0⟩
    · unfold appendA
      simp [hl1, hf1, ha1, mkA, h0, maxBytes]
    · rw [List.getElem?_set_self (lt_of_get h0)]; rfl
  · have hlen := flatP_len l
    refine ⟨o, ⟨ver + 1, .arr (flatP (l ++ [p]))⟩, .view o (ver + 1) 0 (l.length + 1) 2 none, ?_, .inr ⟨o, ver + 1, [], fun _ h => by (cases h), rfl, by simp, ?_⟩, .inr (by simp), lt_of_get ho⟩
    · have hbig : (l.length + 1) * 16 ≤ maxBytes := by unfold maxBytes; omega
      unfold appendA
      simp only [hl1, hf1, ha1, cellsAt, ho, ↓reduceIte, List.length_append, hlen, Nat.le_refl]
      rw [if_neg (by omega), if_pos hbig, List.drop_left]
      simp [flatP]
    · rw [List.getElem?_set_self (lt_of_get ho)]; rfl
abbrev k2 : List CK := [.i .i64, .i .i64]
def kw (w : Int × Int) : V := .agg (pcs w)
theorem hit_w (w u : Int × Int) (v : V) : mhit true k2 (pcs w) (kw u, v) = some (w == u) := by
  obtain ⟨a, b⟩ := w
  obtain ⟨c, d⟩ := u
  simp only [mhit, keyC, kw, pcs, eqCells, eqCell, Bool.and_true, ↓reduceIte]
  rfl
theorem hitB_w (w u : Int × Int) (v : V) : mhitB true k2 (pcs w) (kw u, v) = (w == u) := by
  unfold mhitB
  rw [hit_w]
end Go.Am.T


set_option linter.unusedVariables false
set_option linter.unusedSimpArgs false
set_option linter.unusedSectionVars false
set_option maxRecDepth 10000
namespace Go.Am.T
attribute [local congr] selV_congr impB_congr
structure Pg where
  l : List Wr
  W : V
  R : List Nat
structure Od where
  w : Int × Int
  l : List (Int × Int)
  W : V
  R : List Nat
def Od.e (o : Od) : V × V := (kw o.w, o.W)
def Dj (a b : List Nat) : Prop := ∀ x ∈ a, x ∉ b
structure MdAt (H : Heap) (a m : Nat) (n : Int) (Q : List Pg) (O : List Od) : Prop where
  ob : H[a]? = some ⟨1, .var (Q.map Pg.W ++ [.int .i64 n, .map m 1])⟩
  mp : H[m]? = some ⟨1, .map (O.map Od.e)⟩
  q16 : Q.length = 16
  pg : ∀ q ∈ Q, PRow H q.W q.l q.R
  od : ∀ o ∈ O, ORow H o.W o.l o.R
  dq : ∀ (i j : Nat) q r, Q[i]? = some q → Q[j]? = some r → i ≠ j → Dj q.R r.R
  dd : ∀ (i j : Nat) q r, O[i]? = some q → O[j]? = some r → i ≠ j → Dj q.R r.R
  dqo : ∀ q ∈ Q, ∀ o ∈ O, Dj q.R o.R
  dqa : ∀ q ∈ Q, Dj q.R [a, m]
  doa : ∀ o ∈ O, Dj o.R [a, m]
  ne : a ≠ m
  ks : (O.map Od.w).Nodup
def Own (a m : Nat) (Q : List Pg) (O : List Od) (x : Nat) : Prop := x = a ∨ x = m ∨ (∃ q ∈ Q, x ∈ q.R) ∨ ∃ o ∈ O, x ∈ o.R
theorem MdAt.lt {H : Heap} {a m : Nat} {n : Int} {Q : List Pg} {O : List Od} (h : MdAt H a m n Q O) : ∀ x, Own a m Q O x → x < H.length := by
  rintro x (rfl | rfl | ⟨q, hq, hx⟩ | ⟨o, ho, hx⟩)
  · exact lt_of_get h.ob
  · exact lt_of_get h.mp
  · exact (h.pg q hq).lt x hx
  · exact (h.od o ho).lt x hx
theorem MdAt.keep {H H' : Heap} {a m : Nat} {n : Int} {Q : List Pg} {O : List Od} (h : MdAt H a m n Q O) (hk : ∀ x, Own a m Q O x → H'[x]? = H[x]?) : MdAt H' a m n Q O :=
  ⟨by rw [hk a (.inl rfl)]; exact h.ob, by rw [hk m (.inr (.inl rfl))]; exact h.mp, h.q16, fun q hq => (h.pg q hq).keep fun o ho => hk o (.inr (.inr (.inl ⟨q, hq, ho⟩))), fun q hq => (h.od q hq).keep fun o ho => hk o (.inr (.inr (.inr ⟨q, hq, ho⟩))),
    h.dq, h.dd, h.dqo, h.dqa, h.doa, h.ne, h.ks⟩
theorem MdAt.app {H : Heap} {a m : Nat} {n : Int} {Q : List Pg} {O : List Od} (h : MdAt H a m n Q O) (l : Heap) : MdAt (H ++ l) a m n Q O := h.keep fun x hx => List.getElem?_append_left (h.lt x hx)
theorem MdAt.set {H : Heap} {a m : Nat} {n : Int} {Q : List Pg} {O : List Od} (h : MdAt H a m n Q O) {o : Nat} (y : Ob) (ho : ¬ Own a m Q O o) : MdAt (H.set o y) a m n Q O := h.keep fun x hx => List.getElem?_set_ne (fun e : o = x => ho (by rw [e]; exact hx))
theorem MdAt.lta {H : Heap} {a m : Nat} {n : Int} {Q : List Pg} {O : List Od} (h : MdAt H a m n Q O) : a < H.length := lt_of_get h.ob
theorem MdAt.ltm {H : Heap} {a m : Nat} {n : Int} {Q : List Pg} {O : List Od} (h : MdAt H a m n Q O) : m < H.length := lt_of_get h.mp
def mcs (Q : List Pg) (n : Int) (m : Nat) : List V := Q.map Pg.W ++ [.int .i64 n, .map m 1]
theorem mcs_len {Q : List Pg} {n : Int} {m : Nat} (h : Q.length = 16) : (mcs Q n m).length = 18 := by simp [mcs, h]
theorem mcs_n {Q : List Pg} {n : Int} {m : Nat} (h : Q.length = 16) : ((mcs Q n m).drop 16).take 1 = [.int .i64 n] := by
  unfold mcs
  rw [List.drop_append, List.drop_of_length_le (by simp [h]), List.length_map, h]
  rfl
theorem mcs_m {Q : List Pg} {n : Int} {m : Nat} (h : Q.length = 16) : ((mcs Q n m).drop 17).take 1 = [.map m 1] := by
  unfold mcs
  rw [List.drop_append, List.drop_of_length_le (by simp [h]), List.length_map, h]
  rfl
theorem mcs_p {Q : List Pg} {n : Int} {m : Nat} {p : Nat} {q : Pg} (hq : Q[p]? = some q) : ((mcs Q n m).drop p).take 1 = [q.W] := by
  have hp := (List.getElem?_eq_some_iff.1 hq).1
  unfold mcs
  rw [List.drop_append, List.length_map, show p - Q.length = 0 by omega, List.drop_zero, ← List.map_drop, List.drop_eq_getElem_cons hp]
  have : Q[p] = q := by rw [List.getElem?_eq_getElem hp] at hq; simpa using hq
  rw [this]
  rfl
theorem mcs_set {Q : List Pg} {n : Int} {m : Nat} {p : Nat} {q q' : Pg} (hq : Q[p]? = some q) : setRange (mcs Q n m) p [q'.W] = mcs (Q.set p q') n m := by
  have hp := (List.getElem?_eq_some_iff.1 hq).1
  unfold mcs setRange
  rw [List.take_append, List.length_map, show p - Q.length = 0 by omega, List.take_zero, List.append_nil, List.drop_append, List.length_map, List.length_singleton, show p + 1 - Q.length = 0 by omega, List.drop_zero, List.map_set, List.set_eq_take_append_cons_drop]
  simp [hp]
theorem MdAt.ob' {H : Heap} {a m : Nat} {n : Int} {Q : List Pg} {O : List Od} (h : MdAt H a m n Q O) : H[a]? = some ⟨1, .var (mcs Q n m)⟩ := h.ob
theorem MdAt.page {H H' : Heap} {a m : Nat} {n : Int} {Q : List Pg} {O : List Od} (h : MdAt H a m n Q O) {p : Nat} {q q' : Pg} (hq : Q[p]? = some q) (ha : H'[a]? = some ⟨1, .var (mcs (Q.set p q') n m)⟩) (hm : H'[m]? = H[m]?)
    (hQ : ∀ i r, i ≠ p → Q[i]? = some r → ∀ o ∈ r.R, H'[o]? = H[o]?) (hO : ∀ r ∈ O, ∀ o ∈ r.R, H'[o]? = H[o]?) (hp : PRow H' q'.W q'.l q'.R) (hnew : ∀ o ∈ q'.R, o ∈ q.R ∨ ¬ Own a m Q O o) : MdAt H' a m n (Q.set p q') O := by
  have hpl := (List.getElem?_eq_some_iff.1 hq).1
  have hqm : q ∈ Q := List.mem_of_getElem? hq
  have get : ∀ i r, (Q.set p q')[i]? = some r → (i = p ∧ r = q') ∨ (i ≠ p ∧ Q[i]? = some r) := by
    intro i r hi
    by_cases e : p = i
    · subst e
      rw [List.getElem?_set_self hpl] at hi
      cases hi
      exact .inl ⟨rfl, rfl⟩
    · rw [List.getElem?_set_ne e] at hi
      exact .inr ⟨fun e' => e e'.symm, hi⟩
  have mem : ∀ r ∈ Q.set p q', r = q' ∨ ∃ i, i ≠ p ∧ Q[i]? = some r := by
    intro r hr
    obtain ⟨i, hi⟩ := List.getElem?_of_mem hr
    rcases get i r hi with ⟨-, h⟩ | ⟨h1, h2⟩
    · exact .inl h
    · exact .inr ⟨i, h1, h2⟩
  have dj : ∀ i r, i ≠ p → Q[i]? = some r → Dj q'.R r.R := fun i r hi hr x hx hx2 => by
    rcases hnew x hx with h1 | h1
    · exact h.dq p i q r hq hr (Ne.symm hi) x h1 hx2
    · exact h1 (.inr (.inr (.inl ⟨r, List.mem_of_getElem? hr, hx2⟩)))
  refine ⟨ha, by rw [hm]; exact h.mp, by simp [h.q16], fun r hr => ?_, fun r hr => (h.od r hr).keep (hO r hr), fun i j r s hi hj hij => ?_, h.dd, fun r hr o ho x hx hx2 => ?_, fun r hr x hx hx2 => ?_, h.doa, h.ne, h.ks⟩
  · rcases mem r hr with rfl | ⟨i, hi, hr⟩
    · exact hp
    · exact (h.pg r (List.mem_of_getElem? hr)).keep (hQ i r hi hr)
  · rcases get i r hi with ⟨e1, rfl⟩ | ⟨h1, h2⟩
    · rcases get j s hj with ⟨e2, rfl⟩ | ⟨h3, h4⟩
      · omega
      · exact dj j s h3 h4
    · rcases get j s hj with ⟨e2, rfl⟩ | ⟨h3, h4⟩
      · exact fun x hx hx2 => dj i r h1 h2 x hx2 hx
      · exact h.dq i j r s h2 h4 hij
  · rcases mem r hr with rfl | ⟨i, hi, hr⟩
    · rcases hnew x hx with h1 | h1
      · exact h.dqo q hqm o ho x h1 hx2
      · exact h1 (.inr (.inr (.inr ⟨o, ho, hx2⟩)))
    · exact h.dqo r (List.mem_of_getElem? hr) o ho x hx hx2
  · rcases mem r hr with rfl | ⟨i, hi, hr⟩
    · rcases hnew x hx with h1 | h1
      · exact h.dqa q hqm x h1 hx2
      · simp only [List.mem_cons, List.not_mem_nil, or_false] at hx2
        rcases hx2 with rfl | rfl
        · exact h1 (.inl rfl)
        · exact h1 (.inr (.inl rfl))
    · exact h.dqa r (List.mem_of_getElem? hr) x hx hx2
theorem mapOk_w (w : Int × Int) (O : List Od) : mapOk true k2 (pcs w) (O.map Od.e) = true := by
  unfold mapOk
  rw [Bool.and_eq_true]
  refine ⟨by simp [pcs, eqCells, eqCell], ?_⟩
  rw [List.all_eq_true]
  intro e he
  obtain ⟨x, -, rfl⟩ := List.mem_map.1 he
  unfold Od.e
  rw [hit_w]
  rfl
theorem find_w (w : Int × Int) : ∀ O : List Od, (O.map Od.e).find? (mhitB true k2 (pcs w)) = (O.find? (fun x => w == x.w)).map Od.e
  | [] => rfl
  | x :: O => by
    rw [List.map_cons, List.find?_cons, List.find?_cons, show mhitB true k2 (pcs w) x.e = (w == x.w) from hitB_w w x.w x.W]
    cases w == x.w with
    | true => rfl
    | false => exact find_w w O
theorem any_w (w : Int × Int) : ∀ O : List Od, (O.map Od.e).any (mhitB true k2 (pcs w)) = O.any (fun x => w == x.w)
  | [] => rfl
  | x :: O => by rw [List.map_cons, List.any_cons, List.any_cons, show mhitB true k2 (pcs w) x.e = (w == x.w) from hitB_w w x.w x.W, any_w w O]
theorem filter_w (w : Int × Int) : ∀ O : List Od, (O.map Od.e).filter (fun e => !mhitB true k2 (pcs w) e) = (O.filter (fun x => !(w == x.w))).map Od.e
  | [] => rfl
  | x :: O => by
    rw [List.map_cons, List.filter_cons, List.filter_cons, show mhitB true k2 (pcs w) x.e = (w == x.w) from hitB_w w x.w x.W]
    cases w == x.w with
    | true => exact filter_w w O
    | false => simp only [Bool.not_false, ↓reduceIte, List.map_cons, filter_w w O]
def putO (o : Od) (O : List Od) : List Od := match O.any (fun x => o.w == x.w) with | true => O.map (fun x => match o.w == x.w with | true => o | false => x) | false => O ++ [o]
theorem put_w (o : Od) (O : List Od) : mputL true k2 (pcs o.w) (kw o.w) o.W (O.map Od.e) = (putO o O).map Od.e := by
  unfold mputL putO
  rw [any_w]
  cases O.any (fun x => o.w == x.w) with
  | true =>
    simp only [List.map_map]
    apply List.map_congr_left
    intro x hx
    simp only [Function.comp]
    rw [show mhitB true k2 (pcs o.w) x.e = (o.w == x.w) from hitB_w o.w x.w x.W]
    cases o.w == x.w <;> rfl
  | false => rw [List.map_append]; rfl
theorem mput_w {get : Nat → Option Ob} {m : Nat} {O : List Od} (hm : get m = some ⟨1, .map (O.map Od.e)⟩) (o : Od) :
    mputA get true k2 (.map m 1) (.agg (pcs o.w)) o.W = some (.set m ⟨1, .map ((putO o O).map Od.e)⟩ (.tup [])) := by
  have := put_w o O
  unfold kw at this
  unfold mputA
  simp only [keyC, mapAt, hm, ↓reduceIte, mapOk_w, this]
theorem mdel_w {get : Nat → Option Ob} {m : Nat} {O : List Od} (hm : get m = some ⟨1, .map (O.map Od.e)⟩) (w : Int × Int) :
    mdelA get true k2 (.map m 1) (.agg (pcs w)) = some (.set m ⟨1, .map ((O.filter (fun x => !(w == x.w))).map Od.e)⟩ (.tup [])) := by
  unfold mdelA
  simp only [keyC, mapAt, hm, ↓reduceIte, mapOk_w, filter_w]
def ordOf (O : List Od) (w : Int × Int) : List (Int × Int) := match O.find? (fun x => w == x.w) with | some o => o.l | none => []
def ordV (O : List Od) (w : Int × Int) : V := match O.find? (fun x => w == x.w) with | some o => o.W | none => .nils
def ordR (O : List Od) (w : Int × Int) : List Nat := match O.find? (fun x => w == x.w) with | some o => o.R | none => []
theorem mget_w {get : Nat → Option Ob} {m : Nat} {O : List Od} (hm : get m = some ⟨1, .map (O.map Od.e)⟩) (w : Int × Int) : mgetA get true k2 .nils false (.map m 1) (.agg (pcs w)) = some (ordV O w) := by
  unfold mgetA ordV
  simp only [keyC, mapAt, hm, ↓reduceIte, mapOk_w, find_w]
  cases O.find? (fun x => w == x.w) <;> rfl
theorem ord_row {H : Heap} {a m : Nat} {n : Int} {Q : List Pg} {O : List Od} (h : MdAt H a m n Q O) (w : Int × Int) : ORow H (ordV O w) (ordOf O w) (ordR O w) := by
  unfold ordV ordOf ordR
  cases hf : O.find? (fun x => w == x.w) with
  | none => exact .inl ⟨rfl, rfl, rfl⟩
  | some o => exact h.od o (List.mem_of_find?_eq_some hf)
theorem ord_own {a m : Nat} {Q : List Pg} {O : List Od} (w : Int × Int) : ∀ x ∈ ordR O w, ∃ o ∈ O, o.w = w ∧ x ∈ o.R := by
  unfold ordR
  cases hf : O.find? (fun x => w == x.w) with
  | none => intro x hx; cases hx
  | some o =>
    intro x hx
    refine ⟨o, List.mem_of_find?_eq_some hf, ?_, hx⟩
    have := List.find?_some hf
    simpa using (beq_iff_eq.1 this).symm
theorem same_od {O : List Od} (hk : (O.map Od.w).Nodup) {i j : Nat} {o p : Od} (hi : O[i]? = some o) (hj : O[j]? = some p) (e : o.w = p.w) : i = j := by
  have h1 : (O.map Od.w)[i]? = some o.w := by rw [List.getElem?_map, hi]; rfl
  have h2 : (O.map Od.w)[j]? = some o.w := by rw [List.getElem?_map, hj, e]; rfl
  exact (List.getElem?_inj (List.getElem?_eq_some_iff.1 h1).1 hk).1 (h1.trans h2.symm)
end Go.Am.T


set_option linter.unusedVariables false
set_option linter.unusedSimpArgs false
set_option linter.unusedSectionVars false
set_option maxRecDepth 10000
namespace Go.Am.T
attribute [local congr] selV_congr impB_congr
theorem there_spec {N n : Nat} (hn : 1 ≤ n) {H : Heap} {a m : Nat} {nn : Int} {Q : List Pg} (hq : Q.length = 16) (hp : 1 ≤ nn) (ho : H[a]? = some ⟨1, .var (mcs Q nn m)⟩) : callA am N n 26 [.ptr a 1 0] H = some (.bool true, H) := by
  obtain ⟨n, rfl⟩ : ∃ m, n = m + 1 := ⟨n - 1, by omega⟩
  have q1 := @mcs_n Q nn m hq
  have ql := @mcs_len Q nn m hq
  have g1 : decide (nn > 0) = true := decide_eq_true (by omega)
  refine call_keep_eq at26 rfl rfl (by decide) (sx_wp ?_)
  generalize mcs Q nn m = cs at *
  simp +contextual -implicitDefEqProofs (maxSteps := 10000000) only [sxb, plainD, stays, ↓selV_wt, ↓selV_wf, ↓impB_wt, ↓impB_wf, ↓selV_nor, ↓impB_nor, ↓selV_nt, ↓selV_nf, ↓impB_nt, ↓impB_nf, ↓selV_true, ↓selV_false, ↓selV_and, ↓impB_true, ↓impB_false, ↓impB_and, ↓prim_pick, ↓selV_nn, ↓impB_nn, doOp, get, ins, del, dels, Nat.reduceLT, Nat.reduceEqDiff, ↓reduceIte, reduceCtorEq, ne_eq, implies_true, prim, YLD, mkA, V.cells, Nat.reduceAdd, Nat.reduceSub, Nat.reduceMul, Nat.reduceLeDiff, loadA, cellsAt, nAg, packA, List.drop, List.take, List.head?, binA, unA, eqCells, eqCell, negB, fillA, storeA, Ob.with, indexedI, V.oneCell, intOf?, resA, resA1, packR, sealDepth, Int.reduceLT, Int.reduceLE, Int.reduceToNat, Int.reduceNeg, Int.reduceAdd, Int.reduceSub, Int.reduceMul, cond_true, cond_false, Int.reduceBNe, Int.reduceBEq, eq_self, deads, List.replicate, argsF, am26, isNil, List.append_nil, ho, q1, ql, g1]
def badA (nn : Int) (w : Int × Int) (p k : Int) : Bool :=
  decide (w.1 < 0) || (decide (w.1 ≥ 8) || (decide (w.2 < 1) || (decide (w.2 > 2147483647) || (decide (p < 0) || (decide (p ≥ nn) || decide (k < 0))))))
def askE (nn : Int) (w : Int × Int) (p k : Int) : Int := if badA nn w p k = true then 2 else 0
theorem am29_wp {N n : Nat} {args : List V} {h h' : Heap} {v : V} (ha : args.length = 4) (H : sx ⟨pureOf am, callA am N n, N, h.length⟩ am29.body (fr am29.nt (argsF 0 args)) (h ++ deads am29.sites) (retQ am29.res fun x k => x = v ∧ k = h')) : callA am N (n + 1) 29 args h = some (v, h') :=
  call_keep_eq at29 rfl ha (by decide) (sx_wp H)
theorem ask_spec {N n : Nat} (hn : 2 ≤ n) {H : Heap} {a m : Nat} {nn : Int} {Q : List Pg} (hq : Q.length = 16) (hp : 1 ≤ nn) (ho : H[a]? = some ⟨1, .var (mcs Q nn m)⟩) (w : Int × Int) (p k : Int) :
    callA am N n 29 [.ptr a 1 0, .agg (pcs w), .int .i64 p, .int .i64 k] H = some (.int .i64 (askE nn w p k), H ++ [⟨1, .var (pcs w)⟩]) := by
  obtain ⟨n, rfl⟩ : ∃ m, n = m + 1 := ⟨n - 1, by omega⟩
  obtain ⟨nd, ep⟩ := w
  have al := lt_of_get ho
  obtain ⟨h0, e0⟩ : ∃ h0, h0 = H ++ [(⟨1, .var (pcs (nd, ep))⟩ : Ob)] := ⟨_, rfl⟩
  have oa : h0[a]? = some ⟨1, .var (mcs Q nn m)⟩ := by rw [e0, List.getElem?_append_left al]; exact ho
  have x0 : h0[H.length]? = some ⟨1, .var [.int .i64 nd, .int .i64 ep]⟩ := by rw [e0, app_get0]; rfl
  have e0' := e0.symm
  have c26 := @there_spec N n (by omega) _ _ _ _ _ hq hp oa
  have q1 := @mcs_n Q nn m hq
  have ql := @mcs_len Q nn m hq
  unfold askE badA
  unfold pcs at e0' ⊢
  simp only at e0' ⊢
  generalize hX : (decide (nd < 0) || (decide (nd ≥ 8) || (decide (ep < 1) || (decide (ep > 2147483647) || (decide (p < 0) || (decide (p ≥ nn) || decide (k < 0))))))) = X
  refine am29_wp rfl ?_
  generalize mcs Q nn m = cs at *
  cases X with
  | true =>
    simp +contextual -implicitDefEqProofs (maxSteps := 10000000) only [sxb, plainD, stays, ↓selV_wt, ↓selV_wf, ↓impB_wt, ↓impB_wf, ↓selV_nor, ↓impB_nor, ↓selV_nt, ↓selV_nf, ↓impB_nt, ↓impB_nf, ↓selV_true, ↓selV_false, ↓selV_and, ↓impB_true, ↓impB_false, ↓impB_and, ↓prim_pick, ↓selV_nn, ↓impB_nn, doOp, get, ins, del, dels, Nat.reduceLT, Nat.reduceEqDiff, ↓reduceIte, reduceCtorEq, ne_eq, implies_true, prim, YLD, mkA, V.cells, Nat.reduceAdd, Nat.reduceSub, Nat.reduceMul, Nat.reduceLeDiff, loadA, cellsAt, nAg, packA, List.drop, List.take, List.head?, binA, unA, eqCells, eqCell, negB, fillA, storeA, Ob.with, indexedI, V.oneCell, intOf?, resA, resA1, packR, sealDepth, Int.reduceLT, Int.reduceLE, Int.reduceToNat, Int.reduceNeg, Int.reduceAdd, Int.reduceSub, Int.reduceMul, cond_true, cond_false, Int.reduceBNe, Int.reduceBEq, eq_self, deads, List.replicate, argsF, am29, isNil, app_get0, app_set0, e0', c26, oa, x0, q1, ql, hX]
  | false =>
    simp +contextual -implicitDefEqProofs (maxSteps := 10000000) only [sxb, plainD, stays, ↓selV_wt, ↓selV_wf, ↓impB_wt, ↓impB_wf, ↓selV_nor, ↓impB_nor, ↓selV_nt, ↓selV_nf, ↓impB_nt, ↓impB_nf, ↓selV_true, ↓selV_false, ↓selV_and, ↓impB_true, ↓impB_false, ↓impB_and, ↓prim_pick, ↓selV_nn, ↓impB_nn, doOp, get, ins, del, dels, Nat.reduceLT, Nat.reduceEqDiff, ↓reduceIte, reduceCtorEq, ne_eq, implies_true, prim, YLD, mkA, V.cells, Nat.reduceAdd, Nat.reduceSub, Nat.reduceMul, Nat.reduceLeDiff, loadA, cellsAt, nAg, packA, List.drop, List.take, List.head?, binA, unA, eqCells, eqCell, negB, fillA, storeA, Ob.with, indexedI, V.oneCell, intOf?, resA, resA1, packR, sealDepth, Int.reduceLT, Int.reduceLE, Int.reduceToNat, Int.reduceNeg, Int.reduceAdd, Int.reduceSub, Int.reduceMul, cond_true, cond_false, Int.reduceBNe, Int.reduceBEq, eq_self, deads, List.replicate, argsF, am29, isNil, app_get0, app_set0, e0', c26, oa, x0, q1, ql, hX]
theorem writes_spec {N n : Nat} (hn : 1 ≤ n) (a : Nat) (p : Int) (H : Heap) : callA am N n 30 [.ptr a 1 0, .int .i64 p] H = some (.func 49 [] [.ptr H.length 1 0, .ptr (H.length + 1) 1 0], H ++ [⟨1, .var [.ptr a 1 0]⟩, ⟨1, .var [.int .i64 p]⟩]) := by
  obtain ⟨n, rfl⟩ : ∃ m, n = m + 1 := ⟨n - 1, by omega⟩
  refine call_keep_eq at30 rfl rfl (by decide) (sx_wp ?_)
  simp +contextual -implicitDefEqProofs (maxSteps := 10000000) only [sxb, plainD, stays, ↓selV_wt, ↓selV_wf, ↓impB_wt, ↓impB_wf, ↓selV_nor, ↓impB_nor, ↓selV_nt, ↓selV_nf, ↓impB_nt, ↓impB_nf, ↓selV_true, ↓selV_false, ↓selV_and, ↓impB_true, ↓impB_false, ↓impB_and, ↓prim_pick, ↓selV_nn, ↓impB_nn, doOp, get, ins, del, dels, Nat.reduceLT, Nat.reduceEqDiff, ↓reduceIte, reduceCtorEq, ne_eq, implies_true, prim, YLD, mkA, V.cells, Nat.reduceAdd, Nat.reduceSub, Nat.reduceMul, Nat.reduceLeDiff, loadA, cellsAt, nAg, packA, List.drop, List.take, List.head?, binA, unA, eqCells, eqCell, negB, fillA, storeA, Ob.with, indexedI, V.oneCell, intOf?, resA, resA1, packR, sealDepth, Int.reduceLT, Int.reduceLE, Int.reduceToNat, Int.reduceNeg, Int.reduceAdd, Int.reduceSub, Int.reduceMul, cond_true, cond_false, Int.reduceBNe, Int.reduceBEq, eq_self, deads, List.replicate, argsF, am30, app_get0, app_get, app_set0, app_set]
structure WTaker (l : List Wr) (W : V) (R : List Nat) (N n o ver F : Nat) (stop : Nat → Bool) (Inv : Bool → Nat → Heap → Prop) : Prop where
  len : ∀ b k h, Inv b k h → F < h.length
  row : ∀ b k h, Inv b k h → PRow h W l R
  own : ∀ b k h x, Inv b k h → Inv b k (h.set F x)
  round : ∀ k h x, l[k]? = some x → Inv true k h → ∃ h', callA am N n YLD [.yld o ver, .agg x.cs] h = some (.bool (!stop k), h') ∧ Inv (!stop k) (k + 1) h'
structure WTaken (l : List Wr) (stop : Nat → Bool) (Inv : Bool → Nat → Heap → Prop) (b : Bool) (K : Nat) (h : Heap) : Prop where
  inv : Inv b K h
  all : b = true → K = l.length ∧ ∀ k, k < K → stop k = false
  left : b = false → ∃ k, K = k + 1 ∧ k < l.length ∧ stop k = true ∧ ∀ j, j < k → stop j = false
end Go.Am.T


set_option linter.unusedVariables false
set_option linter.unusedSimpArgs false
set_option linter.unusedSectionVars false
set_option maxRecDepth 10000
namespace Go.Am.T
attribute [local congr] selV_congr impB_congr
theorem am49_wp {N n : Nat} {args : List V} {h : Heap} {C : V → Heap → Prop} (ha : args.length = 3) (H : sx ⟨pureOf am, callA am N n, N, h.length⟩ am49.body (fr am49.nt (argsF 0 args)) (h ++ deads am49.sites) (retQ am49.res C)) : ∃ v h', callA am N (n + 1) 49 args h = some (v, h') ∧ C v h' :=
  call_keep at49 rfl ha (by decide) (sx_wp H)
theorem flatW_at {l : List Wr} {i : Nat} {x : Wr} (h : ∀ x ∈ l, x.Ok) (hx : l[i]? = some x) (rest : List V) : ((flatW l ++ rest).drop (i * 101)).take 101 = x.cs := by
  have hl := flatW_len h
  have hi := (List.getElem?_eq_some_iff.1 hx).1
  rw [List.drop_append, List.take_append]
  have e1 : i * 101 - (flatW l).length = 0 := by omega
  have e2 : 101 - ((flatW l).drop (i * 101)).length = 0 := by rw [List.length_drop]; omega
  rw [e1, e2, List.take_zero, List.append_nil]
  exact flat_at Wr.cs 101 (fun y hy => Wr.len (h y hy)) hx
set_option maxHeartbeats 1000000 in
theorem iter_spec {N n : Nat} (hN : 5000 ≤ N) (hn : 3 ≤ n) {H : Heap} {a m b1 b2 : Nat} {nn : Int} {Q : List Pg} (hq16 : Q.length = 16) (hp : 1 ≤ nn) (hob : H[a]? = some ⟨1, .var (mcs Q nn m)⟩) (h1 : H[b1]? = some ⟨1, .var [.ptr a 1 0]⟩) {p : Nat} (h2 : H[b2]? = some ⟨1, .var [.int .i64 p]⟩) (hb : badA nn (0, 1) p 0 = false)
    {q : Pg} (hq : Q[p]? = some q) (hl : q.l.length ≤ 4096) {o ver : Nat} {stop : Nat → Bool} {Inv : Bool → Nat → Heap → Prop} (T : WTaker q.l q.W q.R N n o ver H.length stop Inv) (hI : Inv true 0 (H ++ [⟨0, .dead⟩, ⟨1, .var (pcs (0, 1))⟩])) :
    ∃ v' h', callA am N (n + 1) 49 [.yld o ver, .ptr b1 1 0, .ptr b2 1 0] H = some (v', h') ∧ v' = .tup [] ∧ ∃ b K, WTaken q.l stop Inv b K h' := by
  have al := lt_of_get hob
  have bl := lt_of_get h1
  have cl := lt_of_get h2
  have c29 := @ask_spec N n (by omega) (H ++ [⟨0, .dead⟩]) a m nn Q hq16 hp (by rw [List.getElem?_append_left al]; exact hob) (0, 1) p 0
  have eA : askE nn (0, 1) p 0 = 0 := by unfold askE; rw [hb]; rfl
  rw [eA, List.append_assoc] at c29
  obtain ⟨h0, e0⟩ : ∃ h0, h0 = H ++ ([(⟨0, .dead⟩ : Ob)] ++ [⟨1, .var (pcs (0, 1))⟩]) := ⟨_, rfl⟩
  have g1 : (H ++ [(⟨0, .dead⟩ : Ob)])[b1]? = some ⟨1, .var [.ptr a 1 0]⟩ := by rw [List.getElem?_append_left bl]; exact h1
  have g2 : (H ++ [(⟨0, .dead⟩ : Ob)])[b2]? = some ⟨1, .var [.int .i64 p]⟩ := by rw [List.getElem?_append_left cl]; exact h2
  have k1 : h0[b1]? = some ⟨1, .var [.ptr a 1 0]⟩ := by rw [e0, List.getElem?_append_left bl]; exact h1
  have k2 : h0[b2]? = some ⟨1, .var [.int .i64 p]⟩ := by rw [e0, List.getElem?_append_left cl]; exact h2
  have oa : h0[a]? = some ⟨1, .var (mcs Q nn m)⟩ := by rw [e0, List.getElem?_append_left al]; exact hob
  rw [← e0] at c29
  have hI : Inv true 0 h0 := by rw [e0]; exact hI
  have hrow := T.row _ _ _ hI
  have hlen := hrow.len
  obtain ⟨w1, w2, w3, w4, w5, w6⟩ := hrow.shape
  have hp16 : p < 16 := by rw [← hq16]; exact (List.getElem?_eq_some_iff.1 hq).1
  have gp : decide ((p : Int) < (16 : Nat)) = true := decide_eq_true (by omega)
  have qp := @mcs_p Q nn m p q hq
  have ql := @mcs_len Q nn m hq16
  have hpl : p + 1 ≤ 18 := by omega
  have hp16' : ((p : Int) < 16) := by omega
  unfold pcs at c29
  clear e0
  refine am49_wp rfl ?_
  generalize mcs Q nn m = cs at *
  simp +contextual -implicitDefEqProofs (maxSteps := 10000000) only [sxb, plainD, stays, ↓selV_wt, ↓selV_wf, ↓impB_wt, ↓impB_wf, ↓selV_nor, ↓impB_nor, ↓selV_nt, ↓selV_nf, ↓impB_nt, ↓impB_nf, ↓selV_true, ↓selV_false, ↓selV_and, ↓impB_true, ↓impB_false, ↓impB_and, ↓prim_pick, ↓selV_nn, ↓impB_nn, doOp, get, ins, del, dels, Nat.reduceLT, Nat.reduceEqDiff, ↓reduceIte, reduceCtorEq, ne_eq, implies_true, prim, YLD, mkA, V.cells, Nat.reduceAdd, Nat.reduceSub, Nat.reduceMul, Nat.reduceLeDiff, loadA, cellsAt, nAg, packA, List.drop, List.take, List.head?, binA, unA, eqCells, eqCell, negB, fillA, storeA, Ob.with, indexedI, V.oneCell, intOf?, resA, resA1, packR, sealDepth, Int.reduceLT, Int.reduceLE, Int.reduceToNat, Int.reduceNeg, Int.reduceAdd, Int.reduceSub, Int.reduceMul, cond_true, cond_false, Int.reduceBNe, Int.reduceBEq, eq_self, deads, List.replicate, argsF, am49, g1, g2, k1, k2, c29, oa, ql, qp, hlen, hpl, hp16', List.append_assoc, w1]
  refine sx_loop (fun i t h => t = fr 27 [(0, .yld o ver), (16, q.W), (17, .int .i64 (q.l.length : Nat)), (18, .int .i64 i)] ∧ i ≤ q.l.length ∧ Inv true i h ∧ ∀ j, j < i → stop j = false) q.l.length (by show q.l.length < N; omega) ⟨rfl, Nat.zero_le _, hI, fun j hj => by omega⟩ ?_
  rintro i t h hi ⟨rfl, hi8, hI1, hf⟩
  by_cases hlt : i < q.l.length
  · have g1 : decide ((i : Int) < (q.l.length : Int)) = true := decide_eq_true (by omega)
    have w4 : IntKind.i64.wrap ((i : Int) + 1) = ((i + 1 : Nat) : Int) := (wrap64 (by omega) (by omega)).trans (by omega)
    have hi1 : i + 1 ≤ q.l.length := by omega
    have hk : q.l[i]? = some q.l[i] := List.getElem?_eq_getElem hlt
    generalize q.l[i] = x at hk
    have hF := T.len _ _ _ hI1
    have hFx : h[H.length]? = some h[H.length] := List.getElem?_eq_getElem hF
    generalize h[H.length] = xF at hFx
    obtain ⟨hall, ⟨hnil, -⟩ | ⟨o', ver', cap, rest, hR, hW, ho', hc⟩⟩ := T.row _ _ _ hI1
    · rw [hnil] at hlt; simp at hlt
    have hx := hall x (List.mem_of_getElem? hk)
    have hxl := Wr.len hx
    have hone := x.one
    have tk : List.take 101 x.cs = x.cs := List.take_of_length_le (by omega)
    have hat := flatW_at hall hk rest
    have hfl := flatW_len hall
    have hle : i * 101 + 101 ≤ (flatW q.l ++ rest).length := by rw [List.length_append, hfl]; omega
    have hT := T.own _ _ _ ⟨xF.ver + 1, .var x.cs⟩ hI1
    -- what is read behind the own object's set
    have hrd : (h.set H.length ⟨xF.ver + 1, .var x.cs⟩)[H.length]? = some ⟨xF.ver + 1, .var x.cs⟩ := List.getElem?_set_self hF
    have gi : decide ((0 : Int) ≤ (i : Int)) = true := decide_eq_true (by omega)
    have hlti : (i : Int) < (q.l.length : Int) := by omega
    rw [hW]
    generalize flatW q.l ++ rest = A at ho' hat hle
    obtain ⟨h2, hr, hI2⟩ := T.round i _ x hk hT
    cases hs : stop i with
    | true =>
      rw [hs] at hr hI2
      simp +contextual -implicitDefEqProofs (maxSteps := 10000000) only [sxb, plainD, stays, ↓selV_wt, ↓selV_wf, ↓impB_wt, ↓impB_wf, ↓selV_nor, ↓impB_nor, ↓selV_nt, ↓selV_nf, ↓impB_nt, ↓impB_nf, ↓selV_true, ↓selV_false, ↓selV_and, ↓impB_true, ↓impB_false, ↓impB_and, ↓prim_pick, ↓selV_nn, ↓impB_nn, doOp, get, ins, del, dels, Nat.reduceLT, Nat.reduceEqDiff, ↓reduceIte, reduceCtorEq, ne_eq, implies_true, prim, YLD, mkA, V.cells, Nat.reduceAdd, Nat.reduceSub, Nat.reduceMul, Nat.reduceLeDiff, loadA, cellsAt, nAg, packA, List.drop, List.take, List.head?, binA, unA, eqCells, eqCell, negB, fillA, storeA, Ob.with, indexedI, V.oneCell, intOf?, resA, resA1, packR, sealDepth, Int.reduceLT, Int.reduceLE, Int.reduceToNat, Int.reduceNeg, Int.reduceAdd, Int.reduceSub, Int.reduceMul, cond_true, cond_false, Int.reduceBNe, Int.reduceBEq, eq_self, deads, List.replicate, argsF, g1, iaddrSA, hlti, ho', hle, hat, hxl, hone, tk, hFx, hF, List.getElem?_set_self, List.length_set, List.set_set, hrd, cvP_yld, hr, -List.drop, -List.take]
      exact ⟨false, _, hI2, fun h => by (cases h), fun _ => ⟨_, rfl, hlt, hs, hf⟩⟩
    | false =>
      rw [hs] at hr hI2
      simp +contextual -implicitDefEqProofs (maxSteps := 10000000) only [sxb, plainD, stays, ↓selV_wt, ↓selV_wf, ↓impB_wt, ↓impB_wf, ↓selV_nor, ↓impB_nor, ↓selV_nt, ↓selV_nf, ↓impB_nt, ↓impB_nf, ↓selV_true, ↓selV_false, ↓selV_and, ↓impB_true, ↓impB_false, ↓impB_and, ↓prim_pick, ↓selV_nn, ↓impB_nn, doOp, get, ins, del, dels, Nat.reduceLT, Nat.reduceEqDiff, ↓reduceIte, reduceCtorEq, ne_eq, implies_true, prim, YLD, mkA, V.cells, Nat.reduceAdd, Nat.reduceSub, Nat.reduceMul, Nat.reduceLeDiff, loadA, cellsAt, nAg, packA, List.drop, List.take, List.head?, binA, unA, eqCells, eqCell, negB, fillA, storeA, Ob.with, indexedI, V.oneCell, intOf?, resA, resA1, packR, sealDepth, Int.reduceLT, Int.reduceLE, Int.reduceToNat, Int.reduceNeg, Int.reduceAdd, Int.reduceSub, Int.reduceMul, cond_true, cond_false, Int.reduceBNe, Int.reduceBEq, eq_self, deads, List.replicate, argsF, g1, iaddrSA, hlti, ho', hle, hat, hxl, hone, tk, hFx, hF, List.getElem?_set_self, List.length_set, List.set_set, hrd, cvP_yld, hr, w4, hi1, hlt, -List.drop, -List.take]
      refine ⟨hI2, fun j hj => ?_⟩
      by_cases ej : j = i
      · rw [ej]; exact hs
      · exact hf j (by omega)
  · have e8 : i = q.l.length := by omega
    subst e8
    have g1 : decide ((q.l.length : Int) < (q.l.length : Int)) = false := decide_eq_false (by omega)
    simp +contextual -implicitDefEqProofs (maxSteps := 10000000) only [sxb, plainD, stays, ↓selV_wt, ↓selV_wf, ↓impB_wt, ↓impB_wf, ↓selV_nor, ↓impB_nor, ↓selV_nt, ↓selV_nf, ↓impB_nt, ↓impB_nf, ↓selV_true, ↓selV_false, ↓selV_and, ↓impB_true, ↓impB_false, ↓impB_and, ↓prim_pick, ↓selV_nn, ↓impB_nn, doOp, get, ins, del, dels, Nat.reduceLT, Nat.reduceEqDiff, ↓reduceIte, reduceCtorEq, ne_eq, implies_true, prim, YLD, mkA, V.cells, Nat.reduceAdd, Nat.reduceSub, Nat.reduceMul, Nat.reduceLeDiff, loadA, cellsAt, nAg, packA, List.drop, List.take, List.head?, binA, unA, eqCells, eqCell, negB, fillA, storeA, Ob.with, indexedI, V.oneCell, intOf?, resA, resA1, packR, sealDepth, Int.reduceLT, Int.reduceLE, Int.reduceToNat, Int.reduceNeg, Int.reduceAdd, Int.reduceSub, Int.reduceMul, cond_true, cond_false, Int.reduceBNe, Int.reduceBEq, eq_self, deads, List.replicate, argsF, g1]
    exact ⟨true, _, hI1, fun _ => ⟨rfl, hf⟩, fun h => by cases h⟩
end Go.Am.T


set_option linter.unusedVariables false
set_option linter.unusedSimpArgs false
set_option linter.unusedSectionVars false
set_option maxRecDepth 10000
namespace Go.Am.T
attribute [local congr] selV_congr impB_congr
def wz : Wr := ⟨0, 0, 0, 0, List.replicate 96 0, false⟩
theorem wz_ok : wz.Ok := by unfold Wr.Ok wz; simp
def lastK (l : List Wr) (k : Nat) : Wr := (l.take k).getLastD wz
theorem lastK_zero (l : List Wr) : lastK l 0 = wz := by simp [lastK]
theorem lastK_succ {l : List Wr} {k : Nat} {x : Wr} (h : l[k]? = some x) : lastK l (k + 1) = x := by
  unfold lastK
  rw [List.take_add_one, h]
  simp
theorem lastK_ok {l : List Wr} (h : ∀ x ∈ l, x.Ok) (k : Nat) : (lastK l k).Ok := by
  unfold lastK
  rw [List.getLastD_eq_getLast?]
  cases hl : (l.take k).getLast? with
  | none => exact wz_ok
  | some x => exact h x (List.mem_of_mem_take (List.mem_of_getLast? hl))
def whT (n0 : Nat) : List V := fr 24 [(4, .ptr n0 1 0), (5, .bool false), (6, .ptr (n0 + 1) 1 0), (10, .func 49 [] [.ptr (n0 + 4) 1 0, .ptr (n0 + 5) 1 0])]
def whH (H : Heap) (a : Nat) (p : Int) (L : List V) (x2 y : Ob) : Heap :=
  H ++ [⟨1, .var [.int .i64 0, .int .i64 0]⟩, ⟨1, .var L⟩, x2, ⟨1, .loop 0 none (whT H.length) H.length 24 0⟩, ⟨1, .var [.ptr a 1 0]⟩, ⟨1, .var [.int .i64 p]⟩, y, ⟨1, .var (pcs (0, 1))⟩]
def whI (H : Heap) (a : Nat) (p : Int) (l : List Wr) (b : Bool) (k : Nat) (h : Heap) : Prop := b = true ∧ ∃ x2 y, h = whH H a p (lastK l k).cs x2 y
theorem whose_taker {N n : Nat} {H : Heap} {a : Nat} {p : Int} {l : List Wr} {W : V} {R : List Nat} (hr : PRow H W l R) : WTaker l W R N (n + 1) (H.length + 3) 1 (H.length + 6) (fun _ => false) (whI H a p l) := by
  refine ⟨?_, ?_, ?_, ?_⟩
  · rintro b k h ⟨-, x2, y, rfl⟩
    simp [whH]
  · rintro b k h ⟨-, x2, y, rfl⟩
    exact hr.keep fun o ho => List.getElem?_append_left (hr.lt o ho)
  · rintro b k h x ⟨rfl, x2, y, rfl⟩
    refine ⟨rfl, x2, x, ?_⟩
    unfold whH
    rw [app_set]
    rfl
  · rintro k h x hk ⟨-, x2, y, rfl⟩
    have hx := hr.1 x (List.mem_of_getElem? hk)
    have hxl := Wr.len hx
    have hone := x.one
    have tk : List.take 101 x.cs = x.cs := List.take_of_length_le (by omega)
    have hLl := Wr.len (lastK_ok hr.1 k)
    refine ⟨whH H a p x.cs ⟨x2.ver + 1, .var x.cs⟩ y, ?_, ⟨rfl, _, _, by rw [lastK_succ hk]⟩⟩
    generalize (lastK l k).cs = L at hLl ⊢
    unfold whH
    refine call_yld (ho := by rw [app_get]; rfl) (hp := at24) (hr := rfl) (hl := rfl) ?_
    unfold whT
    generalize x.cs = X at *
    simp +contextual -implicitDefEqProofs (maxSteps := 10000000) only [sxb, plainD, stays, ↓selV_wt, ↓selV_wf, ↓impB_wt, ↓impB_wf, ↓selV_nor, ↓impB_nor, ↓selV_nt, ↓selV_nf, ↓impB_nt, ↓impB_nf, ↓selV_true, ↓selV_false, ↓selV_and, ↓impB_true, ↓impB_false, ↓impB_and, ↓prim_pick, ↓selV_nn, ↓impB_nn, doOp, get, ins, del, dels, Nat.reduceLT, Nat.reduceEqDiff, ↓reduceIte, reduceCtorEq, ne_eq, implies_true, prim, YLD, mkA, V.cells, Nat.reduceAdd, Nat.reduceSub, Nat.reduceMul, Nat.reduceLeDiff, loadA, cellsAt, nAg, packA, List.drop, List.take, List.head?, binA, unA, eqCells, eqCell, negB, fillA, storeA, Ob.with, indexedI, V.oneCell, intOf?, resA, resA1, packR, sealDepth, Int.reduceLT, Int.reduceLE, Int.reduceToNat, Int.reduceNeg, Int.reduceAdd, Int.reduceSub, Int.reduceMul, cond_true, cond_false, Int.reduceBNe, Int.reduceBEq, eq_self, deads, List.replicate, argsF, setPs_cons, setPs_nil, app_get0, app_get, app_set0, app_set, hxl, hone, tk, hLl]
    exact ⟨_, _, _, _, _, rfl, _, _, _, _, _, _, rfl, rfl, rfl⟩
def whoseW (l : List Wr) : (Int × Int) × Bool := if (lastK l l.length).ps = 0 ∨ (lastK l l.length).du = true then ((0, 0), false) else (((lastK l l.length).nd, (lastK l l.length).ep), true)
theorem am24_wp {N n : Nat} {args : List V} {h : Heap} {C : V → Heap → Prop} (ha : args.length = 2) (H : sx ⟨pureOf am, callA am N n, N, h.length⟩ am24.body (fr am24.nt (argsF 0 args)) (h ++ deads am24.sites) (retQ am24.res C)) : ∃ v h', callA am N (n + 1) 24 args h = some (v, h') ∧ C v h' :=
  call_keep at24 rfl ha (by decide) (sx_wp H)
set_option maxHeartbeats 1000000 in
theorem whose_spec {N n : Nat} (hN : 5000 ≤ N) (hn : 6 ≤ n) {H : Heap} {a m : Nat} {nn : Int} {Q : List Pg} {O : List Od} (h : MdAt H a m nn Q O) (hp1 : 1 ≤ nn) {p : Nat} (hb : badA nn (0, 1) p 0 = false) {q : Pg} (hq : Q[p]? = some q) (hl : q.l.length ≤ 4096) :
    ∃ v' H', callA am N n 24 [.ptr a 1 0, .int .i64 p] H = some (v', H') ∧ v' = .tup [.agg (pcs (whoseW q.l).1), .bool (whoseW q.l).2] ∧ ∃ tl, H' = H ++ tl := by
  obtain ⟨n, rfl⟩ : ∃ m, n = m + 3 := ⟨n - 3, by omega⟩
  have al := h.lta
  have c30 := fun H => @writes_spec N (n + 2) (by omega) a p H
  obtain ⟨hs, ehs⟩ : ∃ hs, hs = H ++ [(⟨1, .var [.int .i64 0, .int .i64 0]⟩ : Ob), ⟨1, .var wz.cs⟩, ⟨0, .dead⟩, ⟨1, .loop 0 none (whT H.length) H.length 24 0⟩, ⟨1, .var [.ptr a 1 0]⟩, ⟨1, .var [.int .i64 p]⟩] := ⟨_, rfl⟩
  have hsl : hs.length = H.length + 6 := by rw [ehs]; simp
  have hm := h.app [(⟨1, .var [.int .i64 0, .int .i64 0]⟩ : Ob), ⟨1, .var wz.cs⟩, ⟨0, .dead⟩, ⟨1, .loop 0 none (whT H.length) H.length 24 0⟩, ⟨1, .var [.ptr a 1 0]⟩, ⟨1, .var [.int .i64 p]⟩]
  rw [← ehs] at hm
  have b1 : hs[H.length + 4]? = some ⟨1, .var [.ptr a 1 0]⟩ := by rw [ehs, app_get]; rfl
  have b2 : hs[H.length + 5]? = some ⟨1, .var [.int .i64 p]⟩ := by rw [ehs, app_get]; rfl
  have T := @whose_taker N n H a p q.l q.W q.R (h.pg q (List.mem_of_getElem? hq))
  rw [← hsl] at T
  obtain ⟨v0, h', c49, rfl, b, K, hI, hall, hleft⟩ := @iter_spec N (n + 1) (by omega) (by omega) hs a m _ _ nn Q h.q16 hp1 hm.ob' b1 p b2 hb q hq hl _ _ _ _ T ⟨rfl, ⟨0, .dead⟩, ⟨0, .dead⟩, by rw [ehs, lastK_zero, List.append_assoc]; rfl⟩
  obtain ⟨rfl, x2, y, rfl⟩ := hI
  obtain ⟨rfl, -⟩ := hall rfl
  have hL := Wr.len (lastK_ok (h.pg q (List.mem_of_getElem? hq)).1 q.l.length)
  have hwz := Wr.len wz_ok
  have ez : wz.cs = [V.int .i64 0, .int .i64 0, .int .i64 0, .int .i64 0] ++ (List.replicate 96 (V.int .u8 0) ++ [.bool false]) := by simp [Wr.cs, Wr.hd, wz]
  unfold whoseW
  generalize lastK q.l q.l.length = x at *
  have x1 : List.take 1 (List.drop 3 x.cs) = [.int .i64 x.ps] := rfl
  have x2' : List.take 1 (List.drop 100 x.cs) = [.bool x.du] := by
    have hb96 : x.b.length = 96 := by
      simp only [Wr.cs, Wr.hd, List.length_append, List.length_map, List.length_cons, List.length_nil] at hL
      omega
    unfold Wr.cs Wr.hd
    rw [List.drop_append, List.drop_of_length_le (by simp), List.nil_append, List.drop_append, List.drop_of_length_le (by simp; omega), List.length_map, hb96]
    rfl
  have x3 : List.take 2 x.cs = [.int .i64 x.nd, .int .i64 x.ep] := rfl
  refine am24_wp rfl ?_
  simp +contextual -implicitDefEqProofs (maxSteps := 10000000) only [sxb, plainD, stays, ↓selV_wt, ↓selV_wf, ↓impB_wt, ↓impB_wf, ↓selV_nor, ↓impB_nor, ↓selV_nt, ↓selV_nf, ↓impB_nt, ↓impB_nf, ↓selV_true, ↓selV_false, ↓selV_and, ↓impB_true, ↓impB_false, ↓impB_and, ↓prim_pick, ↓selV_nn, ↓impB_nn, doOp, get, ins, del, dels, Nat.reduceLT, Nat.reduceEqDiff, ↓reduceIte, reduceCtorEq, ne_eq, implies_true, prim, YLD, mkA, V.cells, Nat.reduceAdd, Nat.reduceSub, Nat.reduceMul, Nat.reduceLeDiff, loadA, cellsAt, nAg, packA, List.drop, List.take, List.head?, binA, unA, eqCells, eqCell, negB, fillA, storeA, Ob.with, indexedI, V.oneCell, intOf?, resA, resA1, packR, sealDepth, Int.reduceLT, Int.reduceLE, Int.reduceToNat, Int.reduceNeg, Int.reduceAdd, Int.reduceSub, Int.reduceMul, cond_true, cond_false, Int.reduceBNe, Int.reduceBEq, eq_self, deads, List.replicate, argsF, am24, app_get0, app_get, app_set0, app_set, c30, List.length_append, List.append_assoc]
  refine sx_rangeF (x := ⟨0, .dead⟩) (g := 49) (xs := []) (ys := [.ptr (H.length + 4) 1 0, .ptr (H.length + 5) 1 0]) (by rw [app_get]; rfl) rfl (by rw [app_set]; subst ehs; exact c49) (by show (whH _ _ _ _ _ _)[_]? = _; unfold whH; rw [app_get]; rfl) (by decide) ?_
  unfold whH
  generalize x.cs = X at *
  by_cases hc : x.ps = 0 ∨ x.du = true
  · rw [if_pos hc]
    have hg : ((x.ps == 0) || x.du) = true := by simpa using hc
    simp +contextual -implicitDefEqProofs (maxSteps := 10000000) only [sxb, plainD, stays, ↓selV_wt, ↓selV_wf, ↓impB_wt, ↓impB_wf, ↓selV_nor, ↓impB_nor, ↓selV_nt, ↓selV_nf, ↓impB_nt, ↓impB_nf, ↓selV_true, ↓selV_false, ↓selV_and, ↓impB_true, ↓impB_false, ↓impB_and, ↓prim_pick, ↓selV_nn, ↓impB_nn, doOp, get, ins, del, dels, Nat.reduceLT, Nat.reduceEqDiff, ↓reduceIte, reduceCtorEq, ne_eq, implies_true, prim, YLD, mkA, V.cells, Nat.reduceAdd, Nat.reduceSub, Nat.reduceMul, Nat.reduceLeDiff, loadA, cellsAt, nAg, packA, List.drop, List.take, List.head?, binA, unA, eqCells, eqCell, negB, fillA, storeA, Ob.with, indexedI, V.oneCell, intOf?, resA, resA1, packR, sealDepth, Int.reduceLT, Int.reduceLE, Int.reduceToNat, Int.reduceNeg, Int.reduceAdd, Int.reduceSub, Int.reduceMul, cond_true, cond_false, Int.reduceBNe, Int.reduceBEq, eq_self, deads, List.replicate, argsF, app_get0, app_get, app_set0, app_set, jumpE, hL, x1, x2', x3, hg, -List.drop, -List.take]
    exact ⟨rfl, _, rfl⟩
  · rw [if_neg hc]
    have hg : ((x.ps == 0) || x.du) = false := by
      have : ¬ (x.ps == 0 || x.du) = true := by simpa using hc
      simpa using this
    simp +contextual -implicitDefEqProofs (maxSteps := 10000000) only [sxb, plainD, stays, ↓selV_wt, ↓selV_wf, ↓impB_wt, ↓impB_wf, ↓selV_nor, ↓impB_nor, ↓selV_nt, ↓selV_nf, ↓impB_nt, ↓impB_nf, ↓selV_true, ↓selV_false, ↓selV_and, ↓impB_true, ↓impB_false, ↓impB_and, ↓prim_pick, ↓selV_nn, ↓impB_nn, doOp, get, ins, del, dels, Nat.reduceLT, Nat.reduceEqDiff, ↓reduceIte, reduceCtorEq, ne_eq, implies_true, prim, YLD, mkA, V.cells, Nat.reduceAdd, Nat.reduceSub, Nat.reduceMul, Nat.reduceLeDiff, loadA, cellsAt, nAg, packA, List.drop, List.take, List.head?, binA, unA, eqCells, eqCell, negB, fillA, storeA, Ob.with, indexedI, V.oneCell, intOf?, resA, resA1, packR, sealDepth, Int.reduceLT, Int.reduceLE, Int.reduceToNat, Int.reduceNeg, Int.reduceAdd, Int.reduceSub, Int.reduceMul, cond_true, cond_false, Int.reduceBNe, Int.reduceBEq, eq_self, deads, List.replicate, argsF, app_get0, app_get, app_set0, app_set, jumpE, hL, x1, x2', x3, hg, -List.drop, -List.take]
    exact ⟨rfl, _, rfl⟩
end Go.Am.T


set_option linter.unusedVariables false
set_option linter.unusedSimpArgs false
set_option linter.unusedSectionVars false
set_option maxRecDepth 10000
namespace Go.Am.T
attribute [local congr] selV_congr impB_congr
theorem putO_get {o : Od} {O : List Od} {i : Nat} {r : Od} (h : (putO o O)[i]? = some r) : (r = o ∧ ∀ s, O[i]? = some s → s.w = o.w) ∨ (r.w ≠ o.w ∧ O[i]? = some r) := by
  unfold putO at h
  cases ha : O.any (fun x => o.w == x.w) with
  | true =>
    rw [ha] at h
    simp only [List.getElem?_map, Option.map_eq_some_iff] at h
    obtain ⟨s, hs, rfl⟩ := h
    by_cases e : o.w = s.w
    · have : (o.w == s.w) = true := beq_iff_eq.2 e
      rw [this]
      exact .inl ⟨rfl, fun s' hs' => by rw [hs] at hs'; cases hs'; exact e.symm⟩
    · have : (o.w == s.w) = false := beq_eq_false_iff_ne.2 e
      rw [this]
      exact .inr ⟨fun e' => e e'.symm, hs⟩
  | false =>
    rw [ha] at h
    simp only at h
    rcases Nat.lt_or_ge i O.length with hi | hi
    · rw [List.getElem?_append_left hi] at h
      refine .inr ⟨fun e => ?_, h⟩
      have := List.any_eq_false.1 ha r (List.mem_of_getElem? h)
      exact this (by simpa using e.symm)
    · rw [List.getElem?_append_right hi] at h
      obtain rfl := List.mem_singleton.1 (List.mem_of_getElem? h)
      exact .inl ⟨rfl, fun s hs => by rw [List.getElem?_eq_none hi] at hs; cases hs⟩
theorem putO_one {o : Od} {O : List Od} (hk : (O.map Od.w).Nodup) {i j : Nat} {r s : Od} (hi : (putO o O)[i]? = some r) (hj : (putO o O)[j]? = some s) (h1 : r.w = o.w) (h2 : s.w = o.w) : i = j := by
  unfold putO at hi hj
  cases ha : O.any (fun x => o.w == x.w) with
  | true =>
    rw [ha] at hi hj
    simp only [List.getElem?_map, Option.map_eq_some_iff] at hi hj
    obtain ⟨r', hr', rfl⟩ := hi
    obtain ⟨s', hs', rfl⟩ := hj
    have key : ∀ x : Od, (match o.w == x.w with | true => o | false => x).w = o.w → x.w = o.w := fun x hx => by
      cases e : o.w == x.w with
      | true => exact (beq_iff_eq.1 e).symm
      | false => rw [e] at hx; exact hx
    exact same_od hk hr' hs' ((key _ h1).trans (key _ h2).symm)
  | false =>
    rw [ha] at hi hj
    simp only at hi hj
    have key : ∀ (i : Nat) (r : Od), (O ++ [o])[i]? = some r → r.w = o.w → i = O.length := fun i r hi h1 => by
      rcases Nat.lt_or_ge i O.length with hl | hl
      · rw [List.getElem?_append_left hl] at hi
        have := List.any_eq_false.1 ha r (List.mem_of_getElem? hi)
        exact absurd (by simpa using h1.symm) this
      · have := (List.getElem?_eq_some_iff.1 hi).1
        simp at this
        omega
    rw [key i r hi h1, key j s hj h2]
theorem putO_ks {o : Od} {O : List Od} (hk : (O.map Od.w).Nodup) : ((putO o O).map Od.w).Nodup := by
  unfold putO
  cases ha : O.any (fun x => o.w == x.w) with
  | true =>
    simp only [List.map_map]
    have : O.map (Od.w ∘ fun x => match o.w == x.w with | true => o | false => x) = O.map Od.w := by
      apply List.map_congr_left
      intro x hx
      simp only [Function.comp]
      cases e : o.w == x.w with
      | true => exact beq_iff_eq.1 e
      | false => rfl
    exact (congrArg List.Nodup this).mpr hk
  | false =>
    simp only [List.map_append, List.map_cons, List.map_nil]
    rw [List.nodup_append]
    refine ⟨hk, by simp, fun x hx y hy e => ?_⟩
    simp at hy
    subst hy
    subst e
    obtain ⟨z, hz, hzw⟩ := List.mem_map.1 hx
    exact List.any_eq_false.1 ha z hz (by simpa using hzw.symm)
theorem putO_mem {o : Od} {O : List Od} {r : Od} (h : r ∈ putO o O) : r = o ∨ (r.w ≠ o.w ∧ r ∈ O) := by
  obtain ⟨i, hi⟩ := List.getElem?_of_mem h
  rcases putO_get hi with ⟨h1, -⟩ | ⟨h1, h2⟩
  · exact .inl h1
  · exact .inr ⟨h1, List.mem_of_getElem? h2⟩
theorem ord_only {H : Heap} {a m : Nat} {n : Int} {Q : List Pg} {O : List Od} (h : MdAt H a m n Q O) {w : Int × Int} {r : Od} (hr : r ∈ O) (hw : r.w ≠ w) : Dj (ordR O w) r.R := by
  intro x hx hx2
  obtain ⟨o, ho, how, hxo⟩ := ord_own (a := a) (m := m) (Q := Q) w x hx
  obtain ⟨i, hi⟩ := List.getElem?_of_mem ho
  obtain ⟨j, hj⟩ := List.getElem?_of_mem hr
  exact h.dd i j o r hi hj (fun e => by subst e; rw [hi] at hj; cases hj; exact hw how) x hxo hx2
theorem MdAt.ord {H H' : Heap} {a m : Nat} {n : Int} {Q : List Pg} {O : List Od} (h : MdAt H a m n Q O) {o : Od} (ha : H'[a]? = H[a]?) (hm : H'[m]? = some ⟨1, .map ((putO o O).map Od.e)⟩)
    (hk : ∀ x, x ≠ m → x ∉ ordR O o.w → Own a m Q O x → H'[x]? = H[x]?) (hp : ORow H' o.W o.l o.R) (hnew : ∀ x ∈ o.R, x ∈ ordR O o.w ∨ ¬ Own a m Q O x) : MdAt H' a m n Q (putO o O) := by
  have hq : ∀ q ∈ Q, ∀ x ∈ q.R, H'[x]? = H[x]? := fun q hq x hx => hk x (fun e => h.dqa q hq x hx (by simp [e])) (fun hx2 => by
    obtain ⟨r, hr, -, hxr⟩ := ord_own (a := a) (m := m) (Q := Q) o.w x hx2
    exact h.dqo q hq r hr x hx hxr) (.inr (.inr (.inl ⟨q, hq, hx⟩)))
  have ho : ∀ r ∈ O, r.w ≠ o.w → ∀ x ∈ r.R, H'[x]? = H[x]? := fun r hr hw x hx => hk x (fun e => h.doa r hr x hx (by simp [e])) (fun hx2 => ord_only h hr hw x hx2 hx) (.inr (.inr (.inr ⟨r, hr, hx⟩)))
  have djo : ∀ r ∈ O, r.w ≠ o.w → Dj o.R r.R := fun r hr hw x hx hx2 => by
    rcases hnew x hx with h1 | h1
    · exact ord_only h hr hw x h1 hx2
    · exact h1 (.inr (.inr (.inr ⟨r, hr, hx2⟩)))
  refine ⟨by rw [ha]; exact h.ob, hm, h.q16, fun q hq' => (h.pg q hq').keep (hq q hq'), fun r hr => ?_, h.dq, fun i j r s hi hj hij => ?_, fun q hq' r hr x hx hx2 => ?_, h.dqa, fun r hr x hx hx2 => ?_, h.ne, putO_ks h.ks⟩
  · rcases putO_mem hr with rfl | ⟨h1, h2⟩
    · exact hp
    · exact (h.od r h2).keep (ho r h2 h1)
  · rcases putO_get hi with ⟨rfl, -⟩ | ⟨h1, h2⟩
    · rcases putO_get hj with ⟨rfl, -⟩ | ⟨h3, h4⟩
      · exact absurd (putO_one h.ks hi hj rfl rfl) hij
      · exact djo s (List.mem_of_getElem? h4) h3
    · rcases putO_get hj with ⟨rfl, -⟩ | ⟨h3, h4⟩
      · exact fun x hx hx2 => djo r (List.mem_of_getElem? h2) h1 x hx2 hx
      · exact h.dd i j r s h2 h4 hij
  · rcases putO_mem hr with rfl | ⟨h1, h2⟩
    · rcases hnew x hx2 with h1 | h1
      · obtain ⟨r', hr', -, hxr⟩ := ord_own (a := a) (m := m) (Q := Q) _ x h1
        exact h.dqo q hq' r' hr' x hx hxr
      · exact h1 (.inr (.inr (.inl ⟨q, hq', hx⟩)))
    · exact h.dqo q hq' r h2 x hx hx2
  · rcases putO_mem hr with rfl | ⟨h1, h2⟩
    · rcases hnew x hx with h1 | h1
      · obtain ⟨r', hr', -, hxr⟩ := ord_own (a := a) (m := m) (Q := Q) _ x h1
        exact h.doa r' hr' x hxr hx2
      · simp only [List.mem_cons, List.not_mem_nil, or_false] at hx2
        rcases hx2 with rfl | rfl
        · exact h1 (.inl rfl)
        · exact h1 (.inr (.inl rfl))
    · exact h.doa r h2 x hx hx2
theorem MdAt.del {H H' : Heap} {a m : Nat} {n : Int} {Q : List Pg} {O : List Od} (h : MdAt H a m n Q O) {w : Int × Int} (hm : H'[m]? = some ⟨1, .map ((O.filter (fun x => !(w == x.w))).map Od.e)⟩)
    (hk : ∀ x, x ≠ m → Own a m Q O x → H'[x]? = H[x]?) : MdAt H' a m n Q (O.filter (fun x => !(w == x.w))) := by
  have hne := h.ne
  have mem : ∀ r ∈ O.filter (fun x => !(w == x.w)), r ∈ O := fun r hr => (List.mem_filter.1 hr).1
  refine ⟨by rw [hk a hne (.inl rfl)]; exact h.ob, hm, h.q16, fun q hq => (h.pg q hq).keep fun x hx => hk x (fun e => h.dqa q hq x hx (by simp [e])) (.inr (.inr (.inl ⟨q, hq, hx⟩))),
    fun r hr => (h.od r (mem r hr)).keep fun x hx => hk x (fun e => h.doa r (mem r hr) x hx (by simp [e])) (.inr (.inr (.inr ⟨r, mem r hr, hx⟩))), h.dq, fun i j r s hi hj hij => ?_, fun q hq r hr => h.dqo q hq r (mem r hr), h.dqa, fun r hr => h.doa r (mem r hr), h.ne, ?_⟩
  · have hr := List.mem_of_getElem? hi
    have hs := List.mem_of_getElem? hj
    obtain ⟨i', hi'⟩ := List.getElem?_of_mem (mem r hr)
    obtain ⟨j', hj'⟩ := List.getElem?_of_mem (mem s hs)
    refine h.dd i' j' r s hi' hj' fun e => ?_
    subst e
    rw [hi'] at hj'
    cases hj'
    have hn : ((O.filter (fun x => !(w == x.w))).map Od.w).Nodup := (List.Sublist.map _ List.filter_sublist).nodup h.ks
    exact hij (same_od hn hi hj rfl)
  · exact (List.Sublist.map _ List.filter_sublist).nodup h.ks
end Go.Am.T


set_option linter.unusedVariables false
set_option linter.unusedSimpArgs false
set_option linter.unusedSectionVars false
set_option maxRecDepth 10000
namespace Go.Am.T
attribute [local congr] selV_congr impB_congr
structure Bey (H H' : Heap) (a m : Nat) (Q Q' : List Pg) (O O' : List Od) : Prop where
  len : H.length ≤ H'.length
  oth : ∀ x, x < H.length → ¬ Own a m Q O x → H'[x]? = H[x]?
  new : ∀ x, Own a m Q' O' x → Own a m Q O x ∨ H.length ≤ x
theorem Bey.app {H : Heap} {a m : Nat} {Q : List Pg} {O : List Od} (l : Heap) : Bey H (H ++ l) a m Q Q O O :=
  ⟨by simp, fun x hx _ => List.getElem?_append_left hx, fun x hx => .inl hx⟩
theorem am11_wp {N n : Nat} {args : List V} {h : Heap} {C : V → Heap → Prop} (ha : args.length = 4) (H : sx ⟨pureOf am, callA am N n, N, h.length⟩ am11.body (fr am11.nt (argsF 0 args)) (h ++ deads am11.sites) (retQ am11.res C)) : ∃ v h', callA am N (n + 1) 11 args h = some (v, h') ∧ C v h' :=
  call_keep at11 rfl ha (by decide) (sx_wp H)
theorem am11_eq {N n : Nat} {args : List V} {h h' : Heap} {v : V} (ha : args.length = 4) (H : sx ⟨pureOf am, callA am N n, N, h.length⟩ am11.body (fr am11.nt (argsF 0 args)) (h ++ deads am11.sites) (retQ am11.res fun x k => x = v ∧ k = h')) : callA am N (n + 1) 11 args h = some (v, h') :=
  call_keep_eq at11 rfl ha (by decide) (sx_wp H)
theorem write_bad {N n : Nat} (hn : 6 ≤ n) {H : Heap} {a m : Nat} {nn : Int} {Q : List Pg} {O : List Od} (h : MdAt H a m nn Q O) (hp1 : 1 ≤ nn) (w : Int × Int) (p : Int) (hb : badA nn w p 0 = true) (B : List V) :
    ∃ v' H', callA am N n 11 [.ptr a 1 0, .agg (pcs w), .int .i64 p, .agg B] H = some (v', H') ∧ v' = .tup [.int .i64 0, .int .i64 2] ∧ ∃ tl, H' = H ++ tl := by
  obtain ⟨n, rfl⟩ : ∃ m, n = m + 1 := ⟨n - 1, by omega⟩
  have hm := h.app [(⟨1, .var (pcs w)⟩ : Ob), ⟨1, .var B⟩, ⟨0, .dead⟩, ⟨0, .dead⟩, ⟨0, .dead⟩]
  have c29 := @ask_spec N n (by omega) _ a m nn Q h.q16 hp1 hm.ob' w p 0
  have eA : askE nn w p 0 = 2 := by unfold askE; rw [hb]; rfl
  rw [eA] at c29
  unfold pcs at c29 ⊢
  refine am11_wp rfl ?_
  simp +contextual -implicitDefEqProofs (maxSteps := 10000000) only [sxb, plainD, stays, ↓selV_wt, ↓selV_wf, ↓impB_wt, ↓impB_wf, ↓selV_nor, ↓impB_nor, ↓selV_nt, ↓selV_nf, ↓impB_nt, ↓impB_nf, ↓selV_true, ↓selV_false, ↓selV_and, ↓impB_true, ↓impB_false, ↓impB_and, ↓prim_pick, ↓selV_nn, ↓impB_nn, doOp, get, ins, del, dels, Nat.reduceLT, Nat.reduceEqDiff, ↓reduceIte, reduceCtorEq, ne_eq, implies_true, prim, YLD, mkA, V.cells, Nat.reduceAdd, Nat.reduceSub, Nat.reduceMul, Nat.reduceLeDiff, loadA, cellsAt, nAg, packA, List.drop, List.take, List.head?, binA, unA, eqCells, eqCell, negB, fillA, storeA, Ob.with, indexedI, V.oneCell, intOf?, resA, resA1, packR, sealDepth, Int.reduceLT, Int.reduceLE, Int.reduceToNat, Int.reduceNeg, Int.reduceAdd, Int.reduceSub, Int.reduceMul, cond_true, cond_false, Int.reduceBNe, Int.reduceBEq, eq_self, deads, List.replicate, argsF, am11, app_get0, app_get, app_set0, app_set, c29, List.append_assoc]
  exact ⟨_, rfl⟩
theorem badA_page {nn : Int} {w : Int × Int} {p k : Int} (h : badA nn w p k = false) : 0 ≤ p ∧ p < nn ∧ badA nn (0, 1) p 0 = false := by
  unfold badA at h ⊢
  simp only [Bool.or_eq_false_iff, decide_eq_false_iff_not] at h ⊢
  obtain ⟨h1, h2, h3, h4, h5, h6, h7⟩ := h
  refine ⟨by omega, by omega, by omega, by omega, by omega, by omega, by omega, by omega, by omega⟩
set_option maxHeartbeats 2000000 in
theorem write_spec {N n : Nat} (hN : 5000 ≤ N) (hn : 8 ≤ n) {H : Heap} {a m : Nat} {nn : Int} {Q : List Pg} {O : List Od} (h : MdAt H a m nn Q O) (hp1 : 1 ≤ nn) {w : Int × Int} {p : Nat} (hb : badA nn w p 0 = false) {q : Pg} (hq : Q[p]? = some q) (hl : q.l.length ≤ 4096) {B : List Int} (hB : B.length = 96)
    (hO : (ordOf O w).length ≤ 100000) :
    ∃ v' H', callA am N n 11 [.ptr a 1 0, .agg (pcs w), .int .i64 p, .agg (B.map (V.int .u8))] H = some (v', H') ∧
      (((whoseW q.l).2 = true ∧ (whoseW q.l).1 ≠ w ∧ v' = .tup [.int .i64 0, .int .i64 11] ∧ MdAt H' a m nn Q O ∧ Bey H H' a m Q Q O O) ∨
       (¬ ((whoseW q.l).2 = true ∧ (whoseW q.l).1 ≠ w) ∧ q.l.length = 4096 ∧ v' = .tup [.int .i64 0, .int .i64 5] ∧ MdAt H' a m nn Q O ∧ Bey H H' a m Q Q O O) ∨
       (¬ ((whoseW q.l).2 = true ∧ (whoseW q.l).1 ≠ w) ∧ q.l.length < 4096 ∧ v' = .tup [.int .i64 (q.l.length + 1 : Nat), .int .i64 0] ∧ ∃ W' R' W2 R2, MdAt H' a m nn (Q.set p ⟨q.l ++ [⟨w.1, w.2, p, (q.l.length + 1 : Nat), B, false⟩], W', R'⟩) (putO ⟨w, ordOf O w ++ [((p : Int), (q.l.length : Int))], W2, R2⟩ O) ∧
         Bey H H' a m Q (Q.set p ⟨q.l ++ [⟨w.1, w.2, p, (q.l.length + 1 : Nat), B, false⟩], W', R'⟩) O (putO ⟨w, ordOf O w ++ [((p : Int), (q.l.length : Int))], W2, R2⟩ O))) := by
  obtain ⟨n, rfl⟩ : ∃ m, n = m + 1 := ⟨n - 1, by omega⟩
  obtain ⟨hp0, hpn, hb1⟩ := badA_page hb
  obtain ⟨hs, ehs⟩ : ∃ hs, hs = H ++ [(⟨1, .var (pcs w)⟩ : Ob), ⟨1, .var (B.map (V.int .u8))⟩, ⟨0, .dead⟩, ⟨0, .dead⟩, ⟨0, .dead⟩] := ⟨_, rfl⟩
  have hm := h.app [(⟨1, .var (pcs w)⟩ : Ob), ⟨1, .var (B.map (V.int .u8))⟩, ⟨0, .dead⟩, ⟨0, .dead⟩, ⟨0, .dead⟩]
  rw [← ehs] at hm
  have c29 := @ask_spec N n (by omega) _ a m nn Q h.q16 hp1 hm.ob' w p 0
  have eA : askE nn w p 0 = 0 := by unfold askE; rw [hb]; rfl
  rw [eA] at c29
  have hm2 := hm.app [(⟨1, .var (pcs w)⟩ : Ob)]
  obtain ⟨vw, h3, c24, rfl, tl, e3⟩ := @whose_spec N n hN (by omega) _ a m nn Q O hm2 hp1 p hb1 q hq hl
  have hm3 := hm2.app tl
  rw [← e3] at hm3
  have e3' : h3 = H ++ ([(⟨1, .var (pcs w)⟩ : Ob), ⟨1, .var (B.map (V.int .u8))⟩, ⟨0, .dead⟩, ⟨0, .dead⟩, ⟨0, .dead⟩] ++ ([(⟨1, .var (pcs w)⟩ : Ob)] ++ tl)) := by rw [e3, ehs]; simp only [List.append_assoc]
  have hl3 : H.length + 5 ≤ h3.length := by rw [e3']; simp
  have g0 : h3[H.length]? = some ⟨1, .var (pcs w)⟩ := by rw [e3', List.cons_append, app_get0]; rfl
  have g1 : h3[H.length + 1]? = some ⟨1, .var (B.map (V.int .u8))⟩ := by rw [e3', app_get]; rfl
  have g2 : h3[H.length + 2]? = some ⟨0, .dead⟩ := by rw [e3', app_get]; rfl
  have g3 : h3[H.length + 3]? = some ⟨0, .dead⟩ := by rw [e3', app_get]; rfl
  have g4 : h3[H.length + 4]? = some ⟨0, .dead⟩ := by rw [e3', app_get]; rfl
  have gl : ∀ x, x < H.length → h3[x]? = H[x]? := fun x hx => by rw [e3', List.getElem?_append_left hx]
  generalize hwh : whoseW q.l = wh at *
  obtain ⟨⟨t1, t2⟩, tb⟩ := wh
  obtain ⟨h2, e2⟩ : ∃ h2, h2 = hs ++ [(⟨1, .var (pcs w)⟩ : Ob)] := ⟨_, rfl⟩
  rw [← e2] at c29 c24
  have own : ∀ k, ¬ Own a m Q O (H.length + k) := fun k hk => by have := h.lt _ hk; omega
  have hm4 := hm3.set ⟨1, .var (pcs (t1, t2))⟩ (own 2)
  obtain ⟨h4, e4⟩ : ∃ h4, h4 = h3.set (H.length + 2) ⟨1, .var (pcs (t1, t2))⟩ := ⟨_, rfl⟩
  rw [← e4] at hm4
  have al := h.lta
  have l4 : h4.length = h3.length := by rw [e4]; simp
  have al3 : a < h3.length := by omega
  have k0 : h4[H.length]? = some ⟨1, .var (pcs w)⟩ := by rw [e4, List.getElem?_set_ne (by omega)]; exact g0
  have k1 : h4[H.length + 1]? = some ⟨1, .var (B.map (V.int .u8))⟩ := by rw [e4, List.getElem?_set_ne (by omega)]; exact g1
  have k2 : h4[H.length + 2]? = some ⟨1, .var (pcs (t1, t2))⟩ := by rw [e4, List.getElem?_set_self (by omega)]
  have k3 : h4[H.length + 3]? = some ⟨0, .dead⟩ := by rw [e4, List.getElem?_set_ne (by omega)]; exact g3
  have k4 : h4[H.length + 4]? = some ⟨0, .dead⟩ := by rw [e4, List.getElem?_set_ne (by omega)]; exact g4
  have kl : ∀ x, x < H.length → h4[x]? = H[x]? := fun x hx => by rw [e4, List.getElem?_set_ne (by omega)]; exact gl x hx
  have B4 : Bey H h4 a m Q Q O O := ⟨by omega, fun x hx _ => kl x hx, fun x hx => .inl hx⟩
  have e4' := e4.symm
  have oa := hm4.ob'
  have hrow := hm4.pg q (List.mem_of_getElem? hq)
  have hlen := hrow.len
  obtain ⟨w1, w2, w3, w4, w5, w6⟩ := hrow.shape
  have hp16 : p < 16 := by rw [← h.q16]; exact (List.getElem?_eq_some_iff.1 hq).1
  have hp16' : ((p : Int) < 16) := by omega
  have hpl : p + 1 ≤ 18 := by omega
  have qp := @mcs_p Q nn m p q hq
  have ql := @mcs_len Q nn m h.q16
  have l2 : H.length + 2 < h3.length := by omega
  obtain ⟨nd, ep⟩ := w
  unfold pcs at *
  simp only at *
  have bl : (B.map (V.int .u8)).length = 96 := by simp [hB]
  subst ehs
  clear e3 e3' e2
  by_cases hA : tb = true ∧ (t1, t2) ≠ (nd, ep)
  · obtain ⟨rfl, hne⟩ := hA
    have hq1 : ((t1 == nd) && (t2 == ep)) = false := by
      rw [Bool.and_eq_false_iff, beq_eq_false_iff_ne, beq_eq_false_iff_ne]
      by_cases e : t1 = nd
      · refine .inr fun e2 => hne (by rw [e, e2])
      · exact .inl e
    have call : callA am N (n + 1) 11 [.ptr a 1 0, .agg [.int .i64 nd, .int .i64 ep], .int .i64 p, .agg (B.map (V.int .u8))] H = some (.tup [.int .i64 0, .int .i64 11], h4) := by
      refine am11_eq rfl ?_
      generalize B.map (V.int .u8) = BV at *
      generalize mcs Q nn m = cs at *
      simp +contextual -implicitDefEqProofs (maxSteps := 10000000) only [sxb, plainD, stays, ↓selV_wt, ↓selV_wf, ↓impB_wt, ↓impB_wf, ↓selV_nor, ↓impB_nor, ↓selV_nt, ↓selV_nf, ↓impB_nt, ↓impB_nf, ↓selV_true, ↓selV_false, ↓selV_and, ↓impB_true, ↓impB_false, ↓impB_and, ↓prim_pick, ↓selV_nn, ↓impB_nn, doOp, get, ins, del, dels, Nat.reduceLT, Nat.reduceEqDiff, ↓reduceIte, reduceCtorEq, ne_eq, implies_true, prim, YLD, mkA, V.cells, Nat.reduceAdd, Nat.reduceSub, Nat.reduceMul, Nat.reduceLeDiff, loadA, cellsAt, nAg, packA, List.drop, List.take, List.head?, binA, unA, eqCells, eqCell, negB, fillA, storeA, Ob.with, indexedI, V.oneCell, intOf?, resA, resA1, packR, sealDepth, Int.reduceLT, Int.reduceLE, Int.reduceToNat, Int.reduceNeg, Int.reduceAdd, Int.reduceSub, Int.reduceMul, cond_true, cond_false, Int.reduceBNe, Int.reduceBEq, eq_self, deads, List.replicate, argsF, am11, app_get0, app_get, app_set0, app_set, c29, c24, g2, l2, e4', List.getElem?_set_self, List.length_set, List.set_set, k0, k2, hq1]
    exact ⟨_, _, call, .inl ⟨rfl, hne, rfl, hm4, B4⟩⟩
  · have hgo : (tb && !((t1 == nd) && (t2 == ep))) = false := by
      cases tb with
      | false => rfl
      | true =>
        have : (t1, t2) = (nd, ep) := Classical.byContradiction fun e => hA ⟨rfl, e⟩
        cases this
        simp
    by_cases hfull : q.l.length = 4096
    · have g5 : decide ((q.l.length : Int) ≥ 4096) = true := decide_eq_true (by omega)
      have call : callA am N (n + 1) 11 [.ptr a 1 0, .agg [.int .i64 nd, .int .i64 ep], .int .i64 p, .agg (B.map (V.int .u8))] H = some (.tup [.int .i64 0, .int .i64 5], h4) := by
        refine am11_eq rfl ?_
        generalize B.map (V.int .u8) = BV at *
        generalize mcs Q nn m = cs at *
        simp +contextual -implicitDefEqProofs (maxSteps := 10000000) only [sxb, plainD, stays, ↓selV_wt, ↓selV_wf, ↓impB_wt, ↓impB_wf, ↓selV_nor, ↓impB_nor, ↓selV_nt, ↓selV_nf, ↓impB_nt, ↓impB_nf, ↓selV_true, ↓selV_false, ↓selV_and, ↓impB_true, ↓impB_false, ↓impB_and, ↓prim_pick, ↓selV_nn, ↓impB_nn, doOp, get, ins, del, dels, Nat.reduceLT, Nat.reduceEqDiff, ↓reduceIte, reduceCtorEq, ne_eq, implies_true, prim, YLD, mkA, V.cells, Nat.reduceAdd, Nat.reduceSub, Nat.reduceMul, Nat.reduceLeDiff, loadA, cellsAt, nAg, packA, List.drop, List.take, List.head?, binA, unA, eqCells, eqCell, negB, fillA, storeA, Ob.with, indexedI, V.oneCell, intOf?, resA, resA1, packR, sealDepth, Int.reduceLT, Int.reduceLE, Int.reduceToNat, Int.reduceNeg, Int.reduceAdd, Int.reduceSub, Int.reduceMul, cond_true, cond_false, Int.reduceBNe, Int.reduceBEq, eq_self, deads, List.replicate, argsF, am11, app_get0, app_get, app_set0, app_set, c29, c24, g2, l2, e4', List.getElem?_set_self, List.length_set, List.set_set, k0, k2, hgo, oa, ql, qp, hpl, hp16', hlen, w1, g5]
      exact ⟨_, _, call, .inr (.inl ⟨hA, hfull, rfl, hm4, B4⟩)⟩
    · have hl' : q.l.length < 4096 := by omega
      have g5 : decide ((q.l.length : Int) ≥ 4096) = false := decide_eq_false (by omega)
      have hw : IntKind.i64.wrap ((q.l.length : Int) + 1) = ((q.l.length + 1 : Nat) : Int) := (wrap64 (by omega) (by omega)).trans (by omega)
      have xok : (⟨nd, ep, p, (q.l.length + 1 : Nat), B, false⟩ : Wr).Ok := hB
      obtain ⟨o1, y1, W', hA1, hrow1, ho1, hol1⟩ := hrow.append xok k3 (by omega)
      have ow1 : o1 = H.length + 3 ∨ o1 ∈ q.R := ho1
      have hqm : q ∈ Q := List.mem_of_getElem? hq
      have mlt := h.ltm
      have noa : o1 ≠ a := by
        rcases ow1 with e | e
        · omega
        · exact fun e' => h.dqa q hqm o1 e (by simp [e'])
      have nom : o1 ≠ m := by
        rcases ow1 with e | e
        · omega
        · exact fun e' => h.dqa q hqm o1 e (by simp [e'])
      have nam := h.ne
      have o1l : ∀ k, k ≠ 3 → H.length + k ≠ o1 := fun k hk => by
        rcases ow1 with e | e
        · omega
        · intro e'; exact own k (by rw [e']; exact .inr (.inr (.inl ⟨q, hqm, e⟩)))
      obtain ⟨q', eq'⟩ : ∃ q' : Pg, q' = ⟨q.l ++ [⟨nd, ep, p, (q.l.length + 1 : Nat), B, false⟩], W', [o1]⟩ := ⟨_, rfl⟩
      have a5 : a < (h4.set o1 y1).length := by simp; omega
      have oa5 : (h4.set o1 y1)[a]? = some ⟨1, .var (mcs Q nn m)⟩ := by rw [List.getElem?_set_ne noa]; exact oa
      obtain ⟨h6, e6⟩ : ∃ h6, h6 = (h4.set o1 y1).set a ⟨1, .var (mcs (Q.set p q') nn m)⟩ := ⟨_, rfl⟩
      have k6 : ∀ x, x ≠ a → x ≠ o1 → h6[x]? = h4[x]? := fun x h1 h2 => by rw [e6, List.getElem?_set_ne (Ne.symm h1), List.getElem?_set_ne (Ne.symm h2)]
      have ga6 : h6[a]? = some ⟨1, .var (mcs (Q.set p q') nn m)⟩ := by rw [e6, List.getElem?_set_self a5]
      have l6 : h6.length = h3.length := by rw [e6]; simp [l4]
      have M6 : MdAt h6 a m nn (Q.set p q') O := by
        refine hm4.page hq ga6 (k6 m (Ne.symm nam) (Ne.symm nom)) (fun i r hi hr o ho => k6 o (fun e => h.dqa r (List.mem_of_getElem? hr) o ho (by simp [e])) (fun e => ?_)) (fun r hr o ho => k6 o (fun e => h.doa r hr o ho (by simp [e])) (fun e => ?_)) ?_ (fun o ho => ?_)
        · subst e
          rcases ow1 with e | e
          · exact own 3 (by rw [← e]; exact .inr (.inr (.inl ⟨r, List.mem_of_getElem? hr, ho⟩)))
          · exact h.dq i p r q hr hq hi o ho e
        · subst e
          rcases ow1 with e | e
          · exact own 3 (by rw [← e]; exact .inr (.inr (.inr ⟨r, hr, ho⟩)))
          · exact h.dqo q hqm r hr o e ho
        · rw [eq']
          refine hrow1.keep fun o ho => ?_
          obtain rfl : o = o1 := by simpa using ho
          rw [e6, List.getElem?_set_ne (Ne.symm noa)]
        · rw [eq'] at ho
          obtain rfl : o = o1 := by simpa using ho
          rcases ow1 with e | e
          · exact .inr (by rw [e]; exact own 3)
          · exact .inl e
      have hro := ord_row M6 (nd, ep)
      have g64 : h6[H.length + 4]? = some ⟨0, .dead⟩ := by rw [k6 _ (by omega) (o1l 4 (by omega))]; exact k4
      have g60 : h6[H.length]? = some ⟨1, .var [.int .i64 nd, .int .i64 ep]⟩ := by rw [k6 _ (by omega) (by have := o1l 0 (by omega); omega)]; exact k0
      obtain ⟨o2, y2, W2, hA2, hrow2, ho2, hol2⟩ := hro.append (p := ((p : Int), (q.l.length : Int))) g64 hO
      have no2a : o2 ≠ a := by
        rcases ho2 with e | e
        · omega
        · obtain ⟨r, hr, -, hxr⟩ := ord_own (a := a) (m := m) (Q := Q) (nd, ep) o2 e
          exact fun e' => h.doa r hr o2 hxr (by simp [e'])
      have no2m : o2 ≠ m := by
        rcases ho2 with e | e
        · omega
        · obtain ⟨r, hr, -, hxr⟩ := ord_own (a := a) (m := m) (Q := Q) (nd, ep) o2 e
          exact fun e' => h.doa r hr o2 hxr (by simp [e'])
      obtain ⟨od, eod⟩ : ∃ od : Od, od = ⟨(nd, ep), ordOf O (nd, ep) ++ [((p : Int), (q.l.length : Int))], W2, [o2]⟩ := ⟨_, rfl⟩
      have m7 : (h6.set o2 y2)[m]? = some ⟨1, .map (O.map Od.e)⟩ := by rw [List.getElem?_set_ne no2m]; exact M6.mp
      have mp7 := mput_w (get := fun o => (h6.set o2 y2)[o]?) m7 od
      have mg6 := mget_w (get := fun o => h6[o]?) M6.mp (nd, ep)
      obtain ⟨h8, e8⟩ : ∃ h8, h8 = (h6.set o2 y2).set m ⟨1, .map ((putO od O).map Od.e)⟩ := ⟨_, rfl⟩
      have l8 : h8.length = h3.length := by rw [e8]; simp [l6]
      have M8 : MdAt h8 a m nn (Q.set p q') (putO od O) := by
        refine M6.ord (by rw [e8, List.getElem?_set_ne (Ne.symm nam), List.getElem?_set_ne no2a]) (by rw [e8, List.getElem?_set_self (by simp; omega)]) (fun x h1 h2 h3 => ?_) ?_ (fun x hx => ?_)
        · rw [e8, List.getElem?_set_ne (Ne.symm h1), List.getElem?_set_ne]
          rintro rfl
          rw [eod] at h2
          rcases ho2 with e | e
          · have := M6.lt o2 h3
            have hnot : ¬ Own a m (Q.set p q') O (H.length + 4) := by
              rintro (h1 | h1 | ⟨r, hr, hx⟩ | ⟨r, hr, hx⟩)
              · omega
              · omega
              · rcases List.mem_or_eq_of_mem_set hr with hr | rfl
                · exact own 4 (.inr (.inr (.inl ⟨r, hr, hx⟩)))
                · rw [eq'] at hx
                  simp at hx
                  exact o1l 4 (by omega) hx
              · exact own 4 (.inr (.inr (.inr ⟨r, hr, hx⟩)))
            exact hnot (by rw [← e]; exact h3)
          · exact h2 e
        · rw [eod]
          refine hrow2.keep fun o ho => ?_
          obtain rfl : o = o2 := by simpa using ho
          rw [e8, List.getElem?_set_ne (Ne.symm no2m)]
        · rw [eod] at hx ⊢
          obtain rfl : x = o2 := by simpa using hx
          rcases ho2 with e | e
          · refine .inr ?_
            rw [e]
            rintro (h1 | h1 | ⟨r, hr, hx⟩ | ⟨r, hr, hx⟩)
            · omega
            · omega
            · rcases List.mem_or_eq_of_mem_set hr with hr | rfl
              · exact own 4 (.inr (.inr (.inl ⟨r, hr, hx⟩)))
              · rw [eq'] at hx
                simp at hx
                exact o1l 4 (by omega) hx
            · exact own 4 (.inr (.inr (.inr ⟨r, hr, hx⟩)))
          · exact .inl e
      have B8 : Bey H h8 a m Q (Q.set p q') O (putO od O) := by
        refine ⟨by omega, fun x hx hn => ?_, fun x hx => ?_⟩
        · have x1 : x ≠ a := fun e => hn (.inl e)
          have x2 : x ≠ m := fun e => hn (.inr (.inl e))
          have x3 : x ≠ o1 := fun e => by
            rcases ow1 with e' | e'
            · omega
            · exact hn (.inr (.inr (.inl ⟨q, hqm, by rw [e]; exact e'⟩)))
          have x4 : x ≠ o2 := fun e => by
            rcases ho2 with e' | e'
            · omega
            · obtain ⟨r, hr, -, hxr⟩ := ord_own (a := a) (m := m) (Q := Q) (nd, ep) o2 e'
              exact hn (.inr (.inr (.inr ⟨r, hr, by rw [e]; exact hxr⟩)))
          rw [e8, List.getElem?_set_ne (Ne.symm x2), List.getElem?_set_ne (Ne.symm x4), k6 x x1 x3]
          exact kl x hx
        · rcases hx with h1 | h1 | ⟨r, hr, hx⟩ | ⟨r, hr, hx⟩
          · exact .inl (.inl h1)
          · exact .inl (.inr (.inl h1))
          · rcases List.mem_or_eq_of_mem_set hr with hr | rfl
            · exact .inl (.inr (.inr (.inl ⟨r, hr, hx⟩)))
            · rw [eq'] at hx
              obtain rfl : x = o1 := by simpa using hx
              rcases ow1 with e | e
              · exact .inr (by omega)
              · exact .inl (.inr (.inr (.inl ⟨q, hqm, e⟩)))
          · rcases putO_mem hr with rfl | ⟨-, hr⟩
            · rw [eod] at hx
              obtain rfl : x = o2 := by simpa using hx
              rcases ho2 with e | e
              · exact .inr (by omega)
              · obtain ⟨r, hr, -, hxr⟩ := ord_own (a := a) (m := m) (Q := Q) (nd, ep) x e
                exact .inl (.inr (.inr (.inr ⟨r, hr, hxr⟩)))
            · exact .inl (.inr (.inr (.inr ⟨r, hr, hx⟩)))
      have call : callA am N (n + 1) 11 [.ptr a 1 0, .agg [.int .i64 nd, .int .i64 ep], .int .i64 p, .agg (B.map (V.int .u8))] H = some (.tup [.int .i64 (q.l.length + 1 : Nat), .int .i64 0], h8) := by
        have qs : setRange (mcs Q nn m) p [W'] = mcs (Q.set p q') nn m := by
          have := @mcs_set Q nn m p q q' hq
          rwa [eq'] at this ⊢
        have qm := @mcs_m (Q.set p q') nn m (by simp [h.q16])
        have ql' := @mcs_len (Q.set p q') nn m (by simp [h.q16])
        have hxc : (⟨nd, ep, p, (q.l.length + 1 : Nat), B, false⟩ : Wr).cs = .int .i64 nd :: .int .i64 ep :: .int .i64 p :: .int .i64 (q.l.length + 1 : Nat) :: (B.map (V.int .u8) ++ [.bool false]) := rfl
        rw [hxc] at hA1
        have eodw : od.w = (nd, ep) := by rw [eod]
        have eodW : od.W = W2 := by rw [eod]
        rw [eodw, eodW] at mp7
        obtain ⟨v1, v2, v3, v4, v5, v6⟩ := hrow1.shape
        obtain ⟨z1, z2, z3, z4, z5, z6⟩ := hro.shape
        have e6' := e6.symm
        have e8' := e8.symm
        have bone : (B.map (V.int .u8)).all V.oneCell = true := allOne_ints _ _
        have hsr : setRange (List.replicate 96 (V.int .u8 0) ++ [.bool false]) 0 (B.map (V.int .u8)) = B.map (V.int .u8) ++ [.bool false] := by
          unfold setRange
          rw [bl]
          rfl
        simp only [List.replicate, List.cons_append, List.nil_append] at hsr
        have r1 : List.range 1 = [0] := rfl
        have b97 : (B.map (V.int .u8) ++ [V.bool false]).length = 97 := by simp [hB]
        have wr2 : ∀ (a b : V) (l : List V), wrapV (a :: b :: l) = .agg (a :: b :: l) := fun _ _ _ => rfl
        have tk2 : ∀ a b : V, List.take 2 [a, b] = [a, b] := fun _ _ => rfl
        have t101 : List.take 101 (.int .i64 nd :: .int .i64 ep :: .int .i64 p :: .int .i64 (q.l.length + 1 : Nat) :: (B.map (V.int .u8) ++ [.bool false])) = .int .i64 nd :: .int .i64 ep :: .int .i64 p :: .int .i64 (q.l.length + 1 : Nat) :: (B.map (V.int .u8) ++ [.bool false]) :=
          List.take_of_length_le (by simp [hB])
        have btk : List.take 96 (B.map (V.int .u8)) = B.map (V.int .u8) := List.take_of_length_le (by omega)
        unfold pcs at mp7 mg6 hA2
        simp only at mp7 mg6 hA2
        refine am11_eq rfl ?_
        generalize B.map (V.int .u8) = BV at *
        generalize hcs' : mcs (Q.set p q') nn m = cs' at *
        generalize mcs Q nn m = cs at *
        generalize (putO od O).map Od.e = es8 at *
        simp +contextual -implicitDefEqProofs (maxSteps := 10000000) only [sxb, plainD, stays, ↓selV_wt, ↓selV_wf, ↓impB_wt, ↓impB_wf, ↓selV_nor, ↓impB_nor, ↓selV_nt, ↓selV_nf, ↓impB_nt, ↓impB_nf, ↓selV_true, ↓selV_false, ↓selV_and, ↓impB_true, ↓impB_false, ↓impB_and, ↓prim_pick, ↓selV_nn, ↓impB_nn, doOp, get, ins, del, dels, Nat.reduceLT, Nat.reduceEqDiff, ↓reduceIte, reduceCtorEq, ne_eq, implies_true, prim, YLD, mkA, V.cells, Nat.reduceAdd, Nat.reduceSub, Nat.reduceMul, Nat.reduceLeDiff, loadA, cellsAt, nAg, packA, List.drop, List.take, List.head?, binA, unA, eqCells, eqCell, negB, fillA, storeA, Ob.with, indexedI, V.oneCell, intOf?, resA, resA1, packR, sealDepth, Int.reduceLT, Int.reduceLE, Int.reduceToNat, Int.reduceNeg, Int.reduceAdd, Int.reduceSub, Int.reduceMul, cond_true, cond_false, Int.reduceBNe, Int.reduceBEq, eq_self, deads, List.replicate, argsF, am11, app_get0, app_get, app_set0, app_set, c29, c24, g2, l2, e4', List.getElem?_set_self, List.length_set, List.set_set, k0, k1, k2, hgo, oa, ql, qp, hpl, hp16', hlen, w1, g5, hw, bl, btk, hA1, oa5, a5, qs, e6', ga6, ql', qm, g60, mg6, hA2, mp7, e8', v1, v2, z1, bone, hsr, r1, wr2, List.drop_zero, t101, tk2, b97, List.all_append, -List.drop, -List.take]
      rw [eq'] at M8 B8
      rw [eod] at M8 B8
      exact ⟨_, _, call, .inr (.inr ⟨hA, hl', rfl, W', [o1], W2, [o2], M8, B8⟩)⟩
end Go.Am.T


set_option linter.unusedVariables false
set_option linter.unusedSimpArgs false
set_option linter.unusedSectionVars false
set_option maxRecDepth 10000
namespace Go.Am.T
attribute [local congr] selV_congr impB_congr
def Wr.mark (x : Wr) : Wr := { x with du := true }
def markL (l : List Wr) (i : Nat) : List Wr := match l[i]? with | some x => l.set i x.mark | none => l
def markQ (Q : List Pg) (p i : Nat) : List Pg := match Q[p]? with | some q => Q.set p { q with l := markL q.l i } | none => Q
def marks (Q : List Pg) (l : List (Int × Int)) : List Pg := l.foldl (fun Q p => markQ Q p.1.toNat p.2.toNat) Q
theorem Wr.mark_cs {x : Wr} (h : x.Ok) : x.mark.cs = setRange x.cs 100 [.bool true] := by
  unfold Wr.Ok at h
  have hl : (x.hd ++ x.b.map (V.int .u8)).length = 100 := by simp [Wr.hd, h]
  have e : ∀ d : Bool, (⟨x.nd, x.ep, x.pg, x.ps, x.b, d⟩ : Wr).cs = (x.hd ++ x.b.map (V.int .u8)) ++ [.bool d] := fun d => by simp [Wr.cs, Wr.hd]
  have e1 := e true
  have e2 := e x.du
  have e1 : x.mark.cs = _ := e1
  have e2 : x.cs = _ := e2
  rw [e1, e2]
  unfold setRange
  rw [List.take_append, hl, List.take_of_length_le (by omega), Nat.sub_self, List.take_zero, List.append_nil, List.drop_of_length_le (by rw [List.length_append, hl]; simp), List.append_nil]
theorem markL_len (l : List Wr) (i : Nat) : (markL l i).length = l.length := by
  unfold markL
  cases l[i]? <;> simp
theorem mark_ok {x : Wr} (h : x.Ok) : x.mark.Ok := h
theorem markL_ok {l : List Wr} (h : ∀ x ∈ l, x.Ok) (i : Nat) : ∀ x ∈ markL l i, x.Ok := by
  unfold markL
  cases hi : l[i]? with
  | none => exact h
  | some y =>
    intro x hx
    rcases List.mem_or_eq_of_mem_set hx with hx | rfl
    · exact h x hx
    · exact mark_ok (h y (List.mem_of_getElem? hi))
theorem PRow.mark {H : Heap} {W : V} {l : List Wr} {R : List Nat} (h : PRow H W l R) {i : Nat} (hi : i < l.length) :
    ∃ o ver cap A, R = [o] ∧ W = .view o ver 0 l.length 101 cap ∧ H[o]? = some ⟨ver, .arr A⟩ ∧ i * 101 + 101 ≤ A.length ∧ PRow (H.set o ⟨ver, .arr (setRange A (i * 101 + 100) [.bool true])⟩) W (markL l i) R := by
  obtain ⟨hall, ⟨rfl, -⟩ | ⟨o, ver, cap, rest, rfl, rfl, ho, hc⟩⟩ := h
  · simp at hi
  · have hx : l[i]? = some l[i] := List.getElem?_eq_getElem hi
    generalize l[i] = x at hx
    have hxo := hall x (List.mem_of_getElem? hx)
    have hfl := flatW_len hall
    refine ⟨o, ver, cap, flatW l ++ rest, rfl, rfl, ho, by rw [List.length_append, hfl]; omega, markL_ok hall i, .inr ⟨o, ver, cap, rest, rfl, by rw [markL_len], ?_, by rw [markL_len]; exact hc⟩⟩
    rw [List.getElem?_set_self (lt_of_get ho)]
    have : markL l i = l.set i x.mark := by unfold markL; rw [hx]
    rw [this]
    exact congrArg (fun c => some (⟨ver, .arr c⟩ : Ob)) (flat_set Wr.cs 101 (fun y hy => Wr.len (hall y hy)) hx (Wr.mark_cs hxo) (by simp))
theorem markQ_get {Q : List Pg} {p i j : Nat} {q : Pg} (h : (markQ Q p i)[j]? = some q) : ∃ r, Q[j]? = some r ∧ q.W = r.W ∧ q.R = r.R ∧ q.l = (if j = p then markL r.l i else r.l) := by
  unfold markQ at h
  cases hp : Q[p]? with
  | none =>
    rw [hp] at h
    refine ⟨q, h, rfl, rfl, ?_⟩
    by_cases e : j = p
    · subst e; rw [hp] at h; cases h
    · rw [if_neg e]
  | some r =>
    rw [hp] at h
    simp only at h
    by_cases e : p = j
    · subst e
      rw [List.getElem?_set_self (List.getElem?_eq_some_iff.1 hp).1] at h
      cases h
      exact ⟨r, hp, rfl, rfl, by simp⟩
    · rw [List.getElem?_set_ne e] at h
      exact ⟨q, h, rfl, rfl, by rw [if_neg (Ne.symm e)]⟩
theorem markQ_W (Q : List Pg) (p i : Nat) : (markQ Q p i).map Pg.W = Q.map Pg.W := by
  unfold markQ
  cases hp : Q[p]? with
  | none => rfl
  | some q =>
    simp only
    rw [List.map_set]
    apply List.ext_getElem?
    intro j
    by_cases e : p = j
    · subst e
      rw [List.getElem?_set_self (by rw [List.length_map]; exact (List.getElem?_eq_some_iff.1 hp).1), List.getElem?_map, hp]
      rfl
    · rw [List.getElem?_set_ne e]
theorem mcs_mark (Q : List Pg) (p i : Nat) (n : Int) (m : Nat) : mcs (markQ Q p i) n m = mcs Q n m := by
  unfold mcs
  rw [markQ_W]
theorem own_mark {a m : Nat} {Q : List Pg} {O : List Od} {p i : Nat} (x : Nat) : Own a m (markQ Q p i) O x ↔ Own a m Q O x := by
  have key : (∃ q ∈ markQ Q p i, x ∈ q.R) ↔ ∃ q ∈ Q, x ∈ q.R := by
    constructor
    · rintro ⟨q, hq, hx⟩
      obtain ⟨j, hj⟩ := List.getElem?_of_mem hq
      obtain ⟨r, hr, -, h2, -⟩ := markQ_get hj
      exact ⟨r, List.mem_of_getElem? hr, h2 ▸ hx⟩
    · rintro ⟨q, hq, hx⟩
      obtain ⟨j, hj⟩ := List.getElem?_of_mem hq
      unfold markQ
      cases hp : Q[p]? with
      | none => exact ⟨q, hq, hx⟩
      | some r =>
        simp only
        by_cases e : p = j
        · subst e
          rw [hp] at hj
          cases hj
          exact ⟨_, List.mem_iff_getElem?.2 ⟨p, List.getElem?_set_self (List.getElem?_eq_some_iff.1 hp).1⟩, hx⟩
        · exact ⟨q, List.mem_iff_getElem?.2 ⟨j, by rw [List.getElem?_set_ne e]; exact hj⟩, hx⟩
  unfold Own
  rw [key]
theorem MdAt.mark {H : Heap} {a m : Nat} {n : Int} {Q : List Pg} {O : List Od} (h : MdAt H a m n Q O) {p i : Nat} {q : Pg} (hq : Q[p]? = some q) (hi : i < q.l.length) :
    ∃ o ver cap A, q.R = [o] ∧ q.W = .view o ver 0 q.l.length 101 cap ∧ H[o]? = some ⟨ver, .arr A⟩ ∧ i * 101 + 101 ≤ A.length ∧ MdAt (H.set o ⟨ver, .arr (setRange A (i * 101 + 100) [.bool true])⟩) a m n (markQ Q p i) O := by
  have hqm := List.mem_of_getElem? hq
  obtain ⟨o, ver, cap, A, h1, h2, h3, h4, h5⟩ := (h.pg q hqm).mark hi
  refine ⟨o, ver, cap, A, h1, h2, h3, h4, ?_⟩
  have hoq : o ∈ q.R := by rw [h1]; simp
  have noa : o ≠ a := fun e => h.dqa q hqm o hoq (by simp [e])
  have nom : o ≠ m := fun e => h.dqa q hqm o hoq (by simp [e])
  have eq : markQ Q p i = Q.set p { q with l := markL q.l i } := by unfold markQ; rw [hq]
  have em := mcs_mark Q p i n m
  rw [eq] at em ⊢
  refine h.page hq (by rw [em, List.getElem?_set_ne noa]; exact h.ob') (List.getElem?_set_ne nom) (fun j r hj hr x hx => List.getElem?_set_ne fun e : o = x => h.dq p j q r hq hr (Ne.symm hj) o hoq (by rw [e]; exact hx)) (fun r hr x hx => List.getElem?_set_ne fun e : o = x => h.dqo q hqm r hr o hoq (by rw [e]; exact hx)) h5 (fun x hx => .inl hx)
theorem marks_snoc (Q : List Pg) (l : List (Int × Int)) (x : Int × Int) : marks Q (l ++ [x]) = markQ (marks Q l) x.1.toNat x.2.toNat := by simp [marks]
theorem marks_cons (Q : List Pg) (l : List (Int × Int)) (x : Int × Int) : marks Q (x :: l) = marks (markQ Q x.1.toNat x.2.toNat) l := rfl
theorem marks_q16 : ∀ (l : List (Int × Int)) (Q : List Pg), (marks Q l).length = Q.length ∧ (marks Q l).map Pg.W = Q.map Pg.W ∧ (∀ (j : Nat) (q : Pg), (marks Q l)[j]? = some q → ∃ r : Pg, Q[j]? = some r ∧ q.W = r.W ∧ q.R = r.R ∧ q.l.length = r.l.length)
  | [], Q => ⟨rfl, rfl, fun j q h => ⟨q, h, rfl, rfl, rfl⟩⟩
  | x :: l, Q => by
    obtain ⟨h1, h2, h3⟩ := marks_q16 l (markQ Q x.1.toNat x.2.toNat)
    rw [marks_cons]
    refine ⟨?_, by rw [h2, markQ_W], fun j q hj => ?_⟩
    · have := congrArg List.length (markQ_W Q x.1.toNat x.2.toNat)
      simp only [List.length_map] at this
      omega
    · obtain ⟨s, hs, s1, s2, s3⟩ := h3 j q hj
      obtain ⟨r, hr, r1, r2, r3⟩ := markQ_get hs
      refine ⟨r, hr, s1.trans r1, s2.trans r2, ?_⟩
      rw [s3, r3]
      by_cases e : j = x.1.toNat
      · rw [if_pos e, markL_len]
      · rw [if_neg e]
theorem own_marks {a m : Nat} {O : List Od} (x : Nat) : ∀ (l : List (Int × Int)) (Q : List Pg), Own a m (marks Q l) O x ↔ Own a m Q O x
  | [], Q => Iff.rfl
  | y :: l, Q => by rw [marks_cons, own_marks x l, own_mark]
end Go.Am.T


set_option linter.unusedVariables false
set_option linter.unusedSimpArgs false
set_option linter.unusedSectionVars false
set_option maxRecDepth 10000
namespace Go.Am.T
attribute [local congr] selV_congr impB_congr
theorem mm0 (x y : Nat) : mmA false (.int .i64 (x : Int)) (.int .i64 (y : Int)) = some (.int .i64 ((min x y : Nat) : Int)) := by
  simp only [mmA]
  split <;> congr 2 <;> omega
theorem flatP_at {l : List (Int × Int)} {k : Nat} {x : Int × Int} (hx : l[k]? = some x) (pre : List V) : ((pre ++ flatP l).drop (pre.length + k * 2)).take 2 = pcs x := by
  rw [List.drop_append, List.drop_of_length_le (by omega), List.nil_append, Nat.add_sub_cancel_left]
  exact flat_at pcs 2 (fun _ _ => rfl) hx
theorem flatP_split (l : List (Int × Int)) (n : Nat) : flatP l = flatP (l.take n) ++ flatP (l.drop n) := by
  unfold flatP
  rw [← List.flatMap_append, List.take_append_drop]
theorem ORow.head {H : Heap} {W : V} {l : List (Int × Int)} {R : List Nat} (h : ORow H W l R) {n : Nat} (hn : n ≤ l.length) :
    ∃ S, sliceA (fun o => H[o]?) 2 W none (some (.int .i64 n)) none = some S ∧ lenA S = some n ∧ (∀ b, S ≠ .str b) ∧
      ∀ H', ORow H' W l R → ∀ k x, k < n → l[k]? = some x → ∃ o ver off c, S = .view o ver off n 2 none ∧ H'[o]? = some ⟨ver, .arr c⟩ ∧ off + k * 2 + 2 ≤ c.length ∧ (c.drop (off + k * 2)).take 2 = pcs x := by
  rcases h with ⟨rfl, rfl, rfl⟩ | ⟨o, ver, pre, hpre, rfl, rfl, ho⟩
  · have : n = 0 := by simpa using hn
    subst this
    exact ⟨.nils, rfl, rfl, fun _ => V.noConfusion, fun H' _ k x hk => by omega⟩
  · have hlen := flatP_len l
    have hcap : ((pre ++ flatP l).length - pre.length) / 2 = l.length := by rw [List.length_append, hlen]; omega
    refine ⟨.view o ver pre.length n 2 none, ?_, rfl, fun _ => V.noConfusion, fun H' h' k x hk hx => ?_⟩
    · simp only [sliceA, ↓reduceIte, cellsAt, ho, hcap]
      simp [boundsA, intOf?, hn]
    · rcases h' with ⟨-, e, -⟩ | ⟨o', ver', pre', -, -, e, ho'⟩
      · cases e
      · simp only [V.view.injEq] at e
        obtain ⟨rfl, rfl, e3, -⟩ := e
        refine ⟨o, ver, pre.length, _, rfl, ho', ?_, ?_⟩
        · rw [List.length_append, hlen, e3]; omega
        · rw [e3]; exact flatP_at hx pre'
theorem ORow.rest {H : Heap} {W : V} {l : List (Int × Int)} {R : List Nat} (h : ORow H W l R) {n : Nat} (hn : n ≤ l.length) :
    ∃ W', sliceA (fun o => H[o]?) 2 W (some (.int .i64 n)) none none = some W' ∧ (n < l.length → ∀ H', (∀ o ∈ R, H'[o]? = H[o]?) → ORow H' W' (l.drop n) R) := by
  rcases h with ⟨rfl, rfl, rfl⟩ | ⟨o, ver, pre, hpre, rfl, rfl, ho⟩
  · have : n = 0 := by simpa using hn
    subst this
    exact ⟨.nils, rfl, fun h => by simp at h⟩
  · have hlen := flatP_len l
    have hcap : ((pre ++ flatP l).length - pre.length) / 2 = l.length := by rw [List.length_append, hlen]; omega
    by_cases h0 : n = 0
    · subst h0
      refine ⟨.view o ver pre.length l.length 2 none, ?_, fun _ H' hk => .inr ⟨o, ver, pre, hpre, rfl, rfl, by rw [hk o (by simp)]; exact ho⟩⟩
      simp only [sliceA, ↓reduceIte, cellsAt, ho, hcap]
      simp [boundsA, intOf?]
    · by_cases h1 : n < l.length
      · refine ⟨.view o ver (pre.length + n * 2) (l.length - n) 2 none, ?_, fun _ H' hk => .inr ⟨o, ver, pre ++ flatP (l.take n), fun v hv => (by rcases List.mem_append.1 hv with h | h; exact hpre v h; exact flatP_obj _ v h), rfl, ?_, ?_⟩⟩
        · simp only [sliceA, ↓reduceIte, cellsAt, ho, hcap]
          simp [boundsA, intOf?, hn, h0, h1]
        · rw [List.length_append, flatP_len, List.length_take, List.length_drop, Nat.min_eq_left hn]
        · rw [hk o (by simp), ho, List.append_assoc, ← flatP_split]
      · refine ⟨.vend o ver 2, ?_, fun h => absurd h h1⟩
        simp only [sliceA, ↓reduceIte, cellsAt, ho, hcap]
        simp [boundsA, intOf?, hn, h0, h1]
def Valid (Q : List Pg) (l : List (Int × Int)) : Prop := ∀ x ∈ l, 0 ≤ x.1 ∧ 0 ≤ x.2 ∧ ∃ q, Q[x.1.toNat]? = some q ∧ x.2.toNat < q.l.length
theorem Valid.marks {Q : List Pg} {l l' : List (Int × Int)} (h : Valid Q l) : Valid (marks Q l') l := by
  intro x hx
  obtain ⟨h1, h2, q, hq, hl⟩ := h x hx
  obtain ⟨e1, e2, e3⟩ := marks_q16 l' Q
  have hlt : x.1.toNat < (T.marks Q l').length := by rw [e1]; exact (List.getElem?_eq_some_iff.1 hq).1
  have hg := List.getElem?_eq_getElem hlt
  obtain ⟨r, hr, -, -, r3⟩ := e3 _ _ hg
  rw [hq] at hr
  cases hr
  exact ⟨h1, h2, _, hg, by rw [r3]; exact hl⟩
theorem mcs_marks (Q : List Pg) (l : List (Int × Int)) (n : Int) (m : Nat) : mcs (T.marks Q l) n m = mcs Q n m := by
  unfold mcs
  rw [(marks_q16 l Q).2.1]
theorem am12_wp {N n : Nat} {args : List V} {h : Heap} {C : V → Heap → Prop} (ha : args.length = 3) (H : sx ⟨pureOf am, callA am N n, N, h.length⟩ am12.body (fr am12.nt (argsF 0 args)) (h ++ deads am12.sites) (retQ am12.res C)) : ∃ v h', callA am N (n + 1) 12 args h = some (v, h') ∧ C v h' :=
  call_keep at12 rfl ha (by decide) (sx_wp H)
theorem durable_bad {N n : Nat} (hn : 6 ≤ n) {H : Heap} {a m : Nat} {nn : Int} {Q : List Pg} {O : List Od} (h : MdAt H a m nn Q O) (hp1 : 1 ≤ nn) (w : Int × Int) (k : Int) (hb : badA nn w 0 k = true) :
    ∃ v' H', callA am N n 12 [.ptr a 1 0, .agg (pcs w), .int .i64 k] H = some (v', H') ∧ v' = .tup [.int .i64 0, .int .i64 2] ∧ ∃ tl, H' = H ++ tl := by
  obtain ⟨n, rfl⟩ : ∃ m, n = m + 1 := ⟨n - 1, by omega⟩
  have hm := h.app [(⟨1, .var (pcs w)⟩ : Ob), ⟨0, .dead⟩]
  have c29 := @ask_spec N n (by omega) _ a m nn Q h.q16 hp1 hm.ob' w 0 k
  have eA : askE nn w 0 k = 2 := by unfold askE; rw [hb]; rfl
  rw [eA] at c29
  unfold pcs at c29 ⊢
  refine am12_wp rfl ?_
  simp +contextual -implicitDefEqProofs (maxSteps := 10000000) only [sxb, plainD, stays, ↓selV_wt, ↓selV_wf, ↓impB_wt, ↓impB_wf, ↓selV_nor, ↓impB_nor, ↓selV_nt, ↓selV_nf, ↓impB_nt, ↓impB_nf, ↓selV_true, ↓selV_false, ↓selV_and, ↓impB_true, ↓impB_false, ↓impB_and, ↓prim_pick, ↓selV_nn, ↓impB_nn, doOp, get, ins, del, dels, Nat.reduceLT, Nat.reduceEqDiff, ↓reduceIte, reduceCtorEq, ne_eq, implies_true, prim, YLD, mkA, V.cells, Nat.reduceAdd, Nat.reduceSub, Nat.reduceMul, Nat.reduceLeDiff, loadA, cellsAt, nAg, packA, List.drop, List.take, List.head?, binA, unA, eqCells, eqCell, negB, fillA, storeA, Ob.with, indexedI, V.oneCell, intOf?, resA, resA1, packR, sealDepth, Int.reduceLT, Int.reduceLE, Int.reduceToNat, Int.reduceNeg, Int.reduceAdd, Int.reduceSub, Int.reduceMul, cond_true, cond_false, Int.reduceBNe, Int.reduceBEq, eq_self, deads, List.replicate, argsF, am12, app_get0, app_get, app_set0, app_set, c29, List.append_assoc]
  exact ⟨_, rfl⟩
def restO (O : List Od) (w : Int × Int) (n : Nat) (W' : V) : List Od :=
  if n = (ordOf O w).length then O.filter (fun x => !(w == x.w)) else putO ⟨w, (ordOf O w).drop n, W', ordR O w⟩ O
theorem filter_putO (o : Od) (O : List Od) : (putO o O).filter (fun x => !(o.w == x.w)) = O.filter (fun x => !(o.w == x.w)) := by
  unfold putO
  cases ha : O.any (fun x => o.w == x.w) with
  | true =>
    clear ha
    induction O with
    | nil => rfl
    | cons x O ih =>
      simp only [List.map_cons, List.filter_cons]
      cases e : o.w == x.w with
      | true => simpa using ih
      | false => simp only [e, Bool.not_false, ↓reduceIte]; rw [ih]
  | false => simp [List.filter_append]
end Go.Am.T

