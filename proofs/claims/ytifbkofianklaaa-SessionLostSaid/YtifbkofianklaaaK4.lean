import Derived.Test.YtifbkofianklaaaK3
set_option linter.unusedVariables false
set_option linter.unusedSimpArgs false
set_option maxRecDepth 10000
namespace Go.Am.T
attribute [local congr] selV_congr impB_congr

/-! ### The parts of a round -/

def l4p : ACode := (ACode.seq (ACode.seq (ACode.region [{ dst := (some 59), op := (AOp.move (Opd.tmp 10)), guard := none }, { dst := (some 60), op := (AOp.move (Opd.tmp 1)), guard := none }, { dst := (some 61), op := (AOp.lenS (Opd.tmp 60)), guard := none }, { dst := (some 62), op := (AOp.bin BinOp.lss (Opd.tmp 59) (Opd.tmp 61)), guard := none }]) (ACode.clr [61, 60, 59])) (ACode.cond (Opd.tmp 62) (ACode.seq (ACode.clr [62]) ACode.skip) (ACode.seq (ACode.clr [62, 10, 1]) (ACode.exit 0))))

def l4q : ACode := (ACode.seq (ACode.region [{ dst := (some 63), op := (AOp.move (Opd.tmp 10)), guard := none }, { dst := (some 64), op := (AOp.bin BinOp.add (Opd.tmp 63) (Opd.cst (V.int IntKind.i64 1))), guard := none }, { dst := (some 10), op := (AOp.move (Opd.tmp 64)), guard := none }]) (ACode.clr [64, 63]))

def l4K : ACode := (ACode.seq (ACode.seq (ACode.region [{ dst := (some 65), op := (AOp.move (Opd.tmp 1)), guard := none }, { dst := (some 66), op := (AOp.move (Opd.tmp 10)), guard := none }, { dst := (some 67), op := (AOp.iaddrS 4 (Opd.tmp 65) (Opd.tmp 66)), guard := none }, { dst := (some 68), op := (AOp.load (some 4) (Opd.tmp 67)), guard := none }, { dst := (some 11), op := (AOp.allocz 1 [(V.int IntKind.i64 0), (V.int IntKind.i64 0), (V.int IntKind.i64 0), V.nils]), guard := none }, { dst := none, op := (AOp.store 4 (Opd.tmp 11) (Opd.tmp 68)), guard := none }]) (ACode.clr [68, 67, 66, 65])) (ACode.seq (ACode.seq (ACode.region [{ dst := (some 69), op := (AOp.faddr 1 (Opd.tmp 11)), guard := none }, { dst := (some 70), op := (AOp.load none (Opd.tmp 69)), guard := none }, { dst := (some 71), op := (AOp.bin BinOp.and (Opd.tmp 70) (Opd.cst (V.int IntKind.i64 1))), guard := none }, { dst := (some 12), op := (AOp.move (Opd.tmp 71)), guard := none }]) (ACode.clr [71, 70, 69])) (ACode.seq (ACode.seq (ACode.seq (ACode.region [{ dst := (some 72), op := (AOp.faddr 0 (Opd.tmp 11)), guard := none }, { dst := (some 73), op := (AOp.load none (Opd.tmp 72)), guard := none }, { dst := (some 74), op := (AOp.bin BinOp.eql (Opd.tmp 73) (Opd.cst (V.int IntKind.i64 1))), guard := none }, { dst := (some 75), op := (AOp.move (Opd.tmp 74)), guard := none }, { dst := (some 76), op := (AOp.move (Opd.tmp 9)), guard := (some (75, true)) }, { dst := (some 77), op := (AOp.move (Opd.tmp 12)), guard := (some (75, true)) }, { dst := (some 78), op := (AOp.nilck (Opd.tmp 76)), guard := (some (75, true)) }, { dst := (some 79), op := (AOp.faddr 0 (Opd.tmp 78)), guard := (some (75, true)) }, { dst := (some 80), op := (AOp.iaddrA 2 1 (Opd.tmp 79) (Opd.tmp 77)), guard := (some (75, true)) }, { dst := (some 81), op := (AOp.load none (Opd.tmp 80)), guard := (some (75, true)) }, { dst := (some 82), op := (AOp.faddr 3 (Opd.tmp 11)), guard := (some (75, true)) }, { dst := (some 83), op := (AOp.load none (Opd.tmp 82)), guard := (some (75, true)) }, { dst := (some 84), op := (AOp.call 10 [(Opd.tmp 81), (Opd.tmp 83)]), guard := (some (75, true)) }, { dst := (some 85), op := (AOp.bin BinOp.eql (Opd.tmp 84) (Opd.cst (V.int IntKind.i64 0))), guard := (some (75, true)) }, { dst := (some 86), op := (AOp.pick (Opd.tmp 75) (Opd.tmp 85) (Opd.cst (V.bool false))), guard := none }]) (ACode.clr [85, 84, 83, 82, 81, 80, 79, 78, 77, 76, 75, 74, 73, 72])) (ACode.cond (Opd.tmp 86) (ACode.seq (ACode.clr [86]) (ACode.seq (ACode.draw [({ dst := (some 87), op := (AOp.move (Opd.tmp 9)), guard := none }, []), ({ dst := (some 88), op := (AOp.move (Opd.tmp 12)), guard := none }, []), ({ dst := (some 89), op := (AOp.move (Opd.tmp 9)), guard := none }, []), ({ dst := (some 90), op := (AOp.move (Opd.tmp 12)), guard := none }, []), ({ dst := (some 91), op := (AOp.nilck (Opd.tmp 89)), guard := none }, []), ({ dst := (some 92), op := (AOp.faddr 3 (Opd.tmp 91)), guard := none }, []), ({ dst := (some 93), op := (AOp.iaddrA 2 1 (Opd.tmp 92) (Opd.tmp 90)), guard := none }, []), ({ dst := (some 94), op := (AOp.load none (Opd.tmp 93)), guard := none }, []), ({ dst := (some 95), op := (AOp.faddr 3 (Opd.tmp 11)), guard := none }, []), ({ dst := (some 96), op := (AOp.load none (Opd.tmp 95)), guard := none }, []), ({ dst := (some 97), op := (AOp.append 2 1 1 (Opd.cst V.nils) (Opd.tmp 96)), guard := none }, [7]), ({ dst := (some 98), op := (AOp.bslice [V.nils] 1 1 [(0, 1, (Opd.tmp 97))]), guard := none }, []), ({ dst := (some 99), op := (AOp.append 3 1 24 (Opd.tmp 94) (Opd.tmp 98)), guard := none }, []), ({ dst := (some 100), op := (AOp.nilck (Opd.tmp 87)), guard := none }, []), ({ dst := (some 101), op := (AOp.faddr 3 (Opd.tmp 100)), guard := none }, []), ({ dst := (some 102), op := (AOp.iaddrA 2 1 (Opd.tmp 101) (Opd.tmp 88)), guard := none }, []), ({ dst := none, op := (AOp.store 1 (Opd.tmp 102) (Opd.tmp 99)), guard := none }, [])]) (ACode.clr [102, 101, 100, 99, 98, 97, 96, 95, 94, 93, 92, 91, 90, 89, 88, 87]))) (ACode.seq (ACode.clr [86]) ACode.skip))) (ACode.seq (ACode.seq (ACode.seq (ACode.region [{ dst := (some 103), op := (AOp.faddr 0 (Opd.tmp 11)), guard := none }, { dst := (some 104), op := (AOp.load none (Opd.tmp 103)), guard := none }, { dst := (some 105), op := (AOp.bin BinOp.eql (Opd.tmp 104) (Opd.cst (V.int IntKind.i64 2))), guard := none }, { dst := (some 106), op := (AOp.move (Opd.tmp 105)), guard := none }, { dst := (some 107), op := (AOp.faddr 0 (Opd.tmp 11)), guard := (some (106, false)) }, { dst := (some 108), op := (AOp.load none (Opd.tmp 107)), guard := (some (106, false)) }, { dst := (some 109), op := (AOp.bin BinOp.eql (Opd.tmp 108) (Opd.cst (V.int IntKind.i64 3))), guard := (some (106, false)) }, { dst := (some 110), op := (AOp.pick (Opd.tmp 106) (Opd.cst (V.bool true)) (Opd.tmp 109)), guard := none }]) (ACode.clr [109, 108, 107, 106, 105, 104, 103])) (ACode.cond (Opd.tmp 110) (ACode.seq (ACode.clr [110]) (ACode.seq (ACode.seq (ACode.region [{ dst := (some 111), op := (AOp.move (Opd.tmp 9)), guard := none }, { dst := (some 112), op := (AOp.move (Opd.tmp 12)), guard := none }, { dst := (some 113), op := (AOp.nilck (Opd.tmp 111)), guard := none }, { dst := (some 114), op := (AOp.faddr 0 (Opd.tmp 113)), guard := none }, { dst := (some 115), op := (AOp.iaddrA 2 1 (Opd.tmp 114) (Opd.tmp 112)), guard := none }, { dst := (some 116), op := (AOp.load none (Opd.tmp 115)), guard := none }, { dst := (some 117), op := (AOp.call 11 [(Opd.tmp 116)]), guard := none }, { dst := (some 13), op := (AOp.move (Opd.tmp 117)), guard := none }]) (ACode.clr [117, 116, 115, 114, 113, 112, 111])) (ACode.seq (ACode.region [{ dst := (some 14), op := (AOp.move (Opd.cst (V.int IntKind.i64 0))), guard := none }]) (ACode.block 2 (ACode.loop [] [] (ACode.seq (ACode.seq (ACode.seq (ACode.region [{ dst := (some 118), op := (AOp.move (Opd.tmp 14)), guard := none }, { dst := (some 119), op := (AOp.move (Opd.tmp 13)), guard := none }, { dst := (some 120), op := (AOp.lenS (Opd.tmp 119)), guard := none }, { dst := (some 121), op := (AOp.bin BinOp.lss (Opd.tmp 118) (Opd.tmp 120)), guard := none }]) (ACode.clr [120, 119, 118])) (ACode.cond (Opd.tmp 121) (ACode.seq (ACode.clr [121]) ACode.skip) (ACode.seq (ACode.clr [121, 14, 13, 11]) (ACode.exit 2)))) (ACode.seq (ACode.block 3 (ACode.seq (ACode.seq (ACode.region [{ dst := (some 124), op := (AOp.faddr 2 (Opd.tmp 11)), guard := none }, { dst := (some 125), op := (AOp.load none (Opd.tmp 124)), guard := none }, { dst := (some 126), op := (AOp.bin BinOp.lss (Opd.tmp 125) (Opd.cst (V.int IntKind.i64 0))), guard := none }, { dst := (some 127), op := (AOp.move (Opd.tmp 126)), guard := none }, { dst := (some 128), op := (AOp.move (Opd.tmp 14)), guard := (some (127, false)) }, { dst := (some 129), op := (AOp.bin BinOp.rem (Opd.tmp 128) (Opd.cst (V.int IntKind.i64 3))), guard := (some (127, false)) }, { dst := (some 130), op := (AOp.faddr 2 (Opd.tmp 11)), guard := (some (127, false)) }, { dst := (some 131), op := (AOp.load none (Opd.tmp 130)), guard := (some (127, false)) }, { dst := (some 132), op := (AOp.bin BinOp.rem (Opd.tmp 131) (Opd.cst (V.int IntKind.i64 3))), guard := (some (127, false)) }, { dst := (some 133), op := (AOp.bin BinOp.neq (Opd.tmp 129) (Opd.tmp 132)), guard := (some (127, false)) }, { dst := (some 134), op := (AOp.pick (Opd.tmp 127) (Opd.cst (V.bool true)) (Opd.tmp 133)), guard := none }]) (ACode.clr [133, 132, 131, 130, 129, 128, 127, 126, 125, 124])) (ACode.cond (Opd.tmp 134) (ACode.seq (ACode.clr [134]) (ACode.seq (ACode.region [{ dst := (some 135), op := (AOp.move (Opd.tmp 9)), guard := none }, { dst := (some 136), op := (AOp.move (Opd.tmp 13)), guard := none }, { dst := (some 137), op := (AOp.move (Opd.tmp 14)), guard := none }, { dst := (some 138), op := (AOp.iaddrS 6 (Opd.tmp 136) (Opd.tmp 137)), guard := none }, { dst := (some 139), op := (AOp.load (some 6) (Opd.tmp 138)), guard := none }, { dst := (some 140), op := (AOp.call 13 [(Opd.tmp 135), (Opd.tmp 139)]), guard := none }]) (ACode.clr [140, 139, 138, 137, 136, 135]))) (ACode.seq (ACode.clr [134]) ACode.skip)))) (ACode.seq (ACode.region [{ dst := (some 122), op := (AOp.move (Opd.tmp 14)), guard := none }, { dst := (some 123), op := (AOp.bin BinOp.add (Opd.tmp 122) (Opd.cst (V.int IntKind.i64 1))), guard := none }, { dst := (some 14), op := (AOp.move (Opd.tmp 123)), guard := none }]) (ACode.clr [123, 122]))))))))) (ACode.seq (ACode.clr [110, 11]) ACode.skip))) (ACode.seq (ACode.seq (ACode.region [{ dst := (some 141), op := (AOp.move (Opd.tmp 9)), guard := none }, { dst := (some 142), op := (AOp.move (Opd.tmp 12)), guard := none }, { dst := (some 143), op := (AOp.nilck (Opd.tmp 141)), guard := none }, { dst := (some 144), op := (AOp.faddr 0 (Opd.tmp 143)), guard := none }, { dst := (some 145), op := (AOp.iaddrA 2 1 (Opd.tmp 144) (Opd.tmp 142)), guard := none }, { dst := (some 146), op := (AOp.load none (Opd.tmp 145)), guard := none }, { dst := (some 147), op := (AOp.call 15 [(Opd.tmp 146)]), guard := none }, { dst := (some 15), op := (AOp.move (Opd.tmp 147)), guard := none }]) (ACode.clr [147, 146, 145, 144, 143, 142, 141])) (ACode.seq (ACode.seq (ACode.region [{ dst := (some 148), op := (AOp.move (Opd.tmp 9)), guard := none }, { dst := (some 149), op := (AOp.move (Opd.tmp 12)), guard := none }, { dst := (some 150), op := (AOp.nilck (Opd.tmp 148)), guard := none }, { dst := (some 151), op := (AOp.faddr 3 (Opd.tmp 150)), guard := none }, { dst := (some 152), op := (AOp.iaddrA 2 1 (Opd.tmp 151) (Opd.tmp 149)), guard := none }, { dst := (some 153), op := (AOp.load none (Opd.tmp 152)), guard := none }, { dst := (some 154), op := (AOp.lenS (Opd.tmp 153)), guard := none }, { dst := (some 155), op := (AOp.move (Opd.tmp 15)), guard := none }, { dst := (some 156), op := (AOp.bin BinOp.sub (Opd.tmp 154) (Opd.tmp 155)), guard := none }, { dst := (some 16), op := (AOp.move (Opd.tmp 156)), guard := none }]) (ACode.clr [156, 155, 154, 153, 152, 151, 150, 149, 148])) (ACode.seq (ACode.seq (ACode.region [{ dst := (some 157), op := (AOp.move (Opd.tmp 9)), guard := none }, { dst := (some 158), op := (AOp.move (Opd.tmp 12)), guard := none }, { dst := (some 159), op := (AOp.nilck (Opd.tmp 157)), guard := none }, { dst := (some 160), op := (AOp.faddr 0 (Opd.tmp 159)), guard := none }, { dst := (some 161), op := (AOp.iaddrA 2 1 (Opd.tmp 160) (Opd.tmp 158)), guard := none }, { dst := (some 162), op := (AOp.load none (Opd.tmp 161)), guard := none }, { dst := (some 163), op := (AOp.call 16 [(Opd.tmp 162)]), guard := none }, { dst := (some 17), op := (AOp.move (Opd.tmp 163)), guard := none }]) (ACode.clr [163, 162, 161, 160, 159, 158, 157])) (ACode.seq (ACode.seq (ACode.region [{ dst := (some 164), op := (AOp.move (Opd.tmp 17)), guard := none }, { dst := (some 165), op := (AOp.call 12 [(Opd.tmp 164)]), guard := none }, { dst := (some 18), op := (AOp.move (Opd.tmp 165)), guard := none }]) (ACode.clr [165, 164, 17])) (ACode.seq (ACode.seq (ACode.seq (ACode.region [{ dst := (some 166), op := (AOp.move (Opd.tmp 15)), guard := none }, { dst := (some 167), op := (AOp.bin BinOp.gtr (Opd.tmp 166) (Opd.cst (V.int IntKind.i64 0))), guard := none }, { dst := (some 168), op := (AOp.move (Opd.tmp 167)), guard := none }, { dst := (some 169), op := (AOp.move (Opd.tmp 18)), guard := (some (168, true)) }, { dst := (some 170), op := (AOp.lenS (Opd.tmp 169)), guard := (some (168, true)) }, { dst := (some 171), op := (AOp.move (Opd.tmp 15)), guard := (some (168, true)) }, { dst := (some 172), op := (AOp.bin BinOp.neq (Opd.tmp 170) (Opd.tmp 171)), guard := (some (168, true)) }, { dst := (some 173), op := (AOp.pick (Opd.tmp 168) (Opd.tmp 172) (Opd.cst (V.bool false))), guard := none }, { dst := (some 174), op := (AOp.move (Opd.tmp 173)), guard := none }, { dst := (some 175), op := (AOp.move (Opd.tmp 15)), guard := (some (174, false)) }, { dst := (some 176), op := (AOp.bin BinOp.eql (Opd.tmp 175) (Opd.cst (V.int IntKind.i64 0))), guard := (some (174, false)) }, { dst := (some 177), op := (AOp.move (Opd.tmp 176)), guard := (some (174, false)) }, { dst := (some 178), op := (AOp.move (Opd.tmp 18)), guard := (some (177, true)) }, { dst := (some 179), op := (AOp.lenS (Opd.tmp 178)), guard := (some (177, true)) }, { dst := (some 180), op := (AOp.bin BinOp.gtr (Opd.tmp 179) (Opd.cst (V.int IntKind.i64 1))), guard := (some (177, true)) }, { dst := (some 181), op := (AOp.pick (Opd.tmp 177) (Opd.tmp 180) (Opd.cst (V.bool false))), guard := (some (174, false)) }, { dst := (some 182), op := (AOp.pick (Opd.tmp 174) (Opd.cst (V.bool true)) (Opd.tmp 181)), guard := none }, { dst := (some 183), op := (AOp.move (Opd.tmp 182)), guard := none }, { dst := (some 184), op := (AOp.move (Opd.tmp 16)), guard := (some (183, false)) }, { dst := (some 185), op := (AOp.bin BinOp.lss (Opd.tmp 184) (Opd.cst (V.int IntKind.i64 0))), guard := (some (183, false)) }, { dst := (some 186), op := (AOp.pick (Opd.tmp 183) (Opd.cst (V.bool true)) (Opd.tmp 185)), guard := none }, { dst := (some 187), op := (AOp.move (Opd.tmp 186)), guard := none }, { dst := (some 188), op := (AOp.move (Opd.tmp 16)), guard := (some (187, false)) }, { dst := (some 189), op := (AOp.move (Opd.tmp 9)), guard := (some (187, false)) }, { dst := (some 190), op := (AOp.move (Opd.tmp 12)), guard := (some (187, false)) }, { dst := (some 191), op := (AOp.bin BinOp.sub (Opd.cst (V.int IntKind.i64 1)) (Opd.tmp 190)), guard := (some (187, false)) }, { dst := (some 192), op := (AOp.nilck (Opd.tmp 189)), guard := (some (187, false)) }, { dst := (some 193), op := (AOp.faddr 0 (Opd.tmp 192)), guard := (some (187, false)) }, { dst := (some 194), op := (AOp.iaddrA 2 1 (Opd.tmp 193) (Opd.tmp 191)), guard := (some (187, false)) }, { dst := (some 195), op := (AOp.load none (Opd.tmp 194)), guard := (some (187, false)) }, { dst := (some 196), op := (AOp.call 17 [(Opd.tmp 195)]), guard := (some (187, false)) }, { dst := (some 197), op := (AOp.bin BinOp.gtr (Opd.tmp 188) (Opd.tmp 196)), guard := (some (187, false)) }, { dst := (some 198), op := (AOp.pick (Opd.tmp 187) (Opd.cst (V.bool true)) (Opd.tmp 197)), guard := none }]) (ACode.clr [197, 196, 195, 194, 193, 192, 191, 190, 189, 188, 187, 186, 185, 184, 183, 182, 181, 180, 179, 178, 177, 176, 175, 174, 173, 172, 171, 170, 169, 168, 167, 166])) (ACode.cond (Opd.tmp 198) (ACode.seq (ACode.clr [198, 18, 16, 15, 12, 10, 9, 1]) (ACode.seq (ACode.region [{ dst := (some 4), op := (AOp.move (Opd.cst (V.bool false))), guard := none }]) ACode.ret)) (ACode.seq (ACode.clr [198]) ACode.skip))) (ACode.seq (ACode.region [{ dst := (some 19), op := (AOp.move (Opd.cst (V.int IntKind.i64 0))), guard := none }]) (ACode.block 4 (ACode.loop [] [] (ACode.seq (ACode.seq (ACode.seq (ACode.region [{ dst := (some 199), op := (AOp.move (Opd.tmp 19)), guard := none }, { dst := (some 200), op := (AOp.move (Opd.tmp 15)), guard := none }, { dst := (some 201), op := (AOp.bin BinOp.lss (Opd.tmp 199) (Opd.tmp 200)), guard := none }]) (ACode.clr [200, 199])) (ACode.cond (Opd.tmp 201) (ACode.seq (ACode.clr [201]) ACode.skip) (ACode.seq (ACode.clr [201, 19, 18, 16, 15, 12]) (ACode.exit 4)))) (ACode.seq (ACode.block 5 (ACode.seq (ACode.seq (ACode.region [{ dst := (some 204), op := (AOp.move (Opd.tmp 18)), guard := none }, { dst := (some 205), op := (AOp.move (Opd.tmp 19)), guard := none }, { dst := (some 206), op := (AOp.iaddrS 6 (Opd.tmp 204) (Opd.tmp 205)), guard := none }, { dst := (some 207), op := (AOp.faddr 3 (Opd.tmp 206)), guard := none }, { dst := (some 208), op := (AOp.load none (Opd.tmp 207)), guard := none }, { dst := (some 209), op := (AOp.move (Opd.tmp 16)), guard := none }, { dst := (some 210), op := (AOp.move (Opd.tmp 19)), guard := none }, { dst := (some 211), op := (AOp.bin BinOp.add (Opd.tmp 209) (Opd.tmp 210)), guard := none }, { dst := (some 212), op := (AOp.bin BinOp.add (Opd.tmp 211) (Opd.cst (V.int IntKind.i64 1))), guard := none }, { dst := (some 213), op := (AOp.bin BinOp.neq (Opd.tmp 208) (Opd.tmp 212)), guard := none }, { dst := (some 214), op := (AOp.move (Opd.tmp 213)), guard := none }, { dst := (some 215), op := (AOp.move (Opd.tmp 18)), guard := (some (214, false)) }, { dst := (some 216), op := (AOp.move (Opd.tmp 19)), guard := (some (214, false)) }, { dst := (some 217), op := (AOp.iaddrS 6 (Opd.tmp 215) (Opd.tmp 216)), guard := (some (214, false)) }, { dst := (some 218), op := (AOp.faddr 5 (Opd.tmp 217)), guard := (some (214, false)) }, { dst := (some 219), op := (AOp.load none (Opd.tmp 218)), guard := (some (214, false)) }, { dst := (some 220), op := (AOp.b2s (Opd.tmp 219)), guard := (some (214, false)) }, { dst := (some 221), op := (AOp.move (Opd.tmp 9)), guard := (some (214, false)) }, { dst := (some 222), op := (AOp.move (Opd.tmp 12)), guard := (some (214, false)) }, { dst := (some 223), op := (AOp.nilck (Opd.tmp 221)), guard := (some (214, false)) }, { dst := (some 224), op := (AOp.faddr 3 (Opd.tmp 223)), guard := (some (214, false)) }, { dst := (some 225), op := (AOp.iaddrA 2 1 (Opd.tmp 224) (Opd.tmp 222)), guard := (some (214, false)) }, { dst := (some 226), op := (AOp.load none (Opd.tmp 225)), guard := (some (214, false)) }, { dst := (some 227), op := (AOp.move (Opd.tmp 16)), guard := (some (214, false)) }, { dst := (some 228), op := (AOp.move (Opd.tmp 19)), guard := (some (214, false)) }, { dst := (some 229), op := (AOp.bin BinOp.add (Opd.tmp 227) (Opd.tmp 228)), guard := (some (214, false)) }, { dst := (some 230), op := (AOp.iaddrS 1 (Opd.tmp 226) (Opd.tmp 229)), guard := (some (214, false)) }, { dst := (some 231), op := (AOp.load none (Opd.tmp 230)), guard := (some (214, false)) }, { dst := (some 232), op := (AOp.b2s (Opd.tmp 231)), guard := (some (214, false)) }, { dst := (some 233), op := (AOp.bin BinOp.neq (Opd.tmp 220) (Opd.tmp 232)), guard := (some (214, false)) }, { dst := (some 234), op := (AOp.pick (Opd.tmp 214) (Opd.cst (V.bool true)) (Opd.tmp 233)), guard := none }, { dst := (some 235), op := (AOp.move (Opd.tmp 234)), guard := none }, { dst := (some 236), op := (AOp.move (Opd.tmp 18)), guard := (some (235, false)) }, { dst := (some 237), op := (AOp.move (Opd.tmp 19)), guard := (some (235, false)) }, { dst := (some 238), op := (AOp.iaddrS 6 (Opd.tmp 236) (Opd.tmp 237)), guard := (some (235, false)) }, { dst := (some 239), op := (AOp.faddr 4 (Opd.tmp 238)), guard := (some (235, false)) }, { dst := (some 240), op := (AOp.load none (Opd.tmp 239)), guard := (some (235, false)) }, { dst := (some 241), op := (AOp.move (Opd.tmp 9)), guard := (some (235, false)) }, { dst := (some 242), op := (AOp.move (Opd.tmp 12)), guard := (some (235, false)) }, { dst := (some 243), op := (AOp.nilck (Opd.tmp 241)), guard := (some (235, false)) }, { dst := (some 244), op := (AOp.faddr 0 (Opd.tmp 243)), guard := (some (235, false)) }, { dst := (some 245), op := (AOp.iaddrA 2 1 (Opd.tmp 244) (Opd.tmp 242)), guard := (some (235, false)) }, { dst := (some 246), op := (AOp.load none (Opd.tmp 245)), guard := (some (235, false)) }, { dst := (some 247), op := (AOp.call 17 [(Opd.tmp 246)]), guard := (some (235, false)) }, { dst := (some 248), op := (AOp.bin BinOp.neq (Opd.tmp 240) (Opd.tmp 247)), guard := (some (235, false)) }, { dst := (some 249), op := (AOp.pick (Opd.tmp 235) (Opd.cst (V.bool true)) (Opd.tmp 248)), guard := none }]) (ACode.clr [248, 247, 246, 245, 244, 243, 242, 241, 240, 239, 238, 237, 236, 235, 234, 233, 232, 231, 230, 229, 228, 227, 226, 225, 224, 223, 222, 221, 220, 219, 218, 217, 216, 215, 214, 213, 212, 211, 210, 209, 208, 207, 206, 205, 204])) (ACode.cond (Opd.tmp 249) (ACode.seq (ACode.clr [249, 19, 18, 16, 15, 12, 10, 9, 1]) (ACode.seq (ACode.region [{ dst := (some 4), op := (AOp.move (Opd.cst (V.bool false))), guard := none }]) ACode.ret)) (ACode.seq (ACode.clr [249]) ACode.skip)))) (ACode.seq (ACode.region [{ dst := (some 202), op := (AOp.move (Opd.tmp 19)), guard := none }, { dst := (some 203), op := (AOp.bin BinOp.add (Opd.tmp 202) (Opd.cst (V.int IntKind.i64 1))), guard := none }, { dst := (some 19), op := (AOp.move (Opd.tmp 203)), guard := none }]) (ACode.clr [203, 202]))))))))))))))))

def l4A : ACode := (ACode.seq (ACode.region [{ dst := (some 65), op := (AOp.move (Opd.tmp 1)), guard := none }, { dst := (some 66), op := (AOp.move (Opd.tmp 10)), guard := none }, { dst := (some 67), op := (AOp.iaddrS 4 (Opd.tmp 65) (Opd.tmp 66)), guard := none }, { dst := (some 68), op := (AOp.load (some 4) (Opd.tmp 67)), guard := none }, { dst := (some 11), op := (AOp.allocz 1 [(V.int IntKind.i64 0), (V.int IntKind.i64 0), (V.int IntKind.i64 0), V.nils]), guard := none }, { dst := none, op := (AOp.store 4 (Opd.tmp 11) (Opd.tmp 68)), guard := none }]) (ACode.clr [68, 67, 66, 65]))

def l4B : ACode := (ACode.seq (ACode.region [{ dst := (some 69), op := (AOp.faddr 1 (Opd.tmp 11)), guard := none }, { dst := (some 70), op := (AOp.load none (Opd.tmp 69)), guard := none }, { dst := (some 71), op := (AOp.bin BinOp.and (Opd.tmp 70) (Opd.cst (V.int IntKind.i64 1))), guard := none }, { dst := (some 12), op := (AOp.move (Opd.tmp 71)), guard := none }]) (ACode.clr [71, 70, 69]))

def l4C : ACode := (ACode.seq (ACode.seq (ACode.region [{ dst := (some 72), op := (AOp.faddr 0 (Opd.tmp 11)), guard := none }, { dst := (some 73), op := (AOp.load none (Opd.tmp 72)), guard := none }, { dst := (some 74), op := (AOp.bin BinOp.eql (Opd.tmp 73) (Opd.cst (V.int IntKind.i64 1))), guard := none }, { dst := (some 75), op := (AOp.move (Opd.tmp 74)), guard := none }, { dst := (some 76), op := (AOp.move (Opd.tmp 9)), guard := (some (75, true)) }, { dst := (some 77), op := (AOp.move (Opd.tmp 12)), guard := (some (75, true)) }, { dst := (some 78), op := (AOp.nilck (Opd.tmp 76)), guard := (some (75, true)) }, { dst := (some 79), op := (AOp.faddr 0 (Opd.tmp 78)), guard := (some (75, true)) }, { dst := (some 80), op := (AOp.iaddrA 2 1 (Opd.tmp 79) (Opd.tmp 77)), guard := (some (75, true)) }, { dst := (some 81), op := (AOp.load none (Opd.tmp 80)), guard := (some (75, true)) }, { dst := (some 82), op := (AOp.faddr 3 (Opd.tmp 11)), guard := (some (75, true)) }, { dst := (some 83), op := (AOp.load none (Opd.tmp 82)), guard := (some (75, true)) }, { dst := (some 84), op := (AOp.call 10 [(Opd.tmp 81), (Opd.tmp 83)]), guard := (some (75, true)) }, { dst := (some 85), op := (AOp.bin BinOp.eql (Opd.tmp 84) (Opd.cst (V.int IntKind.i64 0))), guard := (some (75, true)) }, { dst := (some 86), op := (AOp.pick (Opd.tmp 75) (Opd.tmp 85) (Opd.cst (V.bool false))), guard := none }]) (ACode.clr [85, 84, 83, 82, 81, 80, 79, 78, 77, 76, 75, 74, 73, 72])) (ACode.cond (Opd.tmp 86) (ACode.seq (ACode.clr [86]) (ACode.seq (ACode.draw [({ dst := (some 87), op := (AOp.move (Opd.tmp 9)), guard := none }, []), ({ dst := (some 88), op := (AOp.move (Opd.tmp 12)), guard := none }, []), ({ dst := (some 89), op := (AOp.move (Opd.tmp 9)), guard := none }, []), ({ dst := (some 90), op := (AOp.move (Opd.tmp 12)), guard := none }, []), ({ dst := (some 91), op := (AOp.nilck (Opd.tmp 89)), guard := none }, []), ({ dst := (some 92), op := (AOp.faddr 3 (Opd.tmp 91)), guard := none }, []), ({ dst := (some 93), op := (AOp.iaddrA 2 1 (Opd.tmp 92) (Opd.tmp 90)), guard := none }, []), ({ dst := (some 94), op := (AOp.load none (Opd.tmp 93)), guard := none }, []), ({ dst := (some 95), op := (AOp.faddr 3 (Opd.tmp 11)), guard := none }, []), ({ dst := (some 96), op := (AOp.load none (Opd.tmp 95)), guard := none }, []), ({ dst := (some 97), op := (AOp.append 2 1 1 (Opd.cst V.nils) (Opd.tmp 96)), guard := none }, [7]), ({ dst := (some 98), op := (AOp.bslice [V.nils] 1 1 [(0, 1, (Opd.tmp 97))]), guard := none }, []), ({ dst := (some 99), op := (AOp.append 3 1 24 (Opd.tmp 94) (Opd.tmp 98)), guard := none }, []), ({ dst := (some 100), op := (AOp.nilck (Opd.tmp 87)), guard := none }, []), ({ dst := (some 101), op := (AOp.faddr 3 (Opd.tmp 100)), guard := none }, []), ({ dst := (some 102), op := (AOp.iaddrA 2 1 (Opd.tmp 101) (Opd.tmp 88)), guard := none }, []), ({ dst := none, op := (AOp.store 1 (Opd.tmp 102) (Opd.tmp 99)), guard := none }, [])]) (ACode.clr [102, 101, 100, 99, 98, 97, 96, 95, 94, 93, 92, 91, 90, 89, 88, 87]))) (ACode.seq (ACode.clr [86]) ACode.skip)))

def l4D : ACode := (ACode.seq (ACode.seq (ACode.region [{ dst := (some 103), op := (AOp.faddr 0 (Opd.tmp 11)), guard := none }, { dst := (some 104), op := (AOp.load none (Opd.tmp 103)), guard := none }, { dst := (some 105), op := (AOp.bin BinOp.eql (Opd.tmp 104) (Opd.cst (V.int IntKind.i64 2))), guard := none }, { dst := (some 106), op := (AOp.move (Opd.tmp 105)), guard := none }, { dst := (some 107), op := (AOp.faddr 0 (Opd.tmp 11)), guard := (some (106, false)) }, { dst := (some 108), op := (AOp.load none (Opd.tmp 107)), guard := (some (106, false)) }, { dst := (some 109), op := (AOp.bin BinOp.eql (Opd.tmp 108) (Opd.cst (V.int IntKind.i64 3))), guard := (some (106, false)) }, { dst := (some 110), op := (AOp.pick (Opd.tmp 106) (Opd.cst (V.bool true)) (Opd.tmp 109)), guard := none }]) (ACode.clr [109, 108, 107, 106, 105, 104, 103])) (ACode.cond (Opd.tmp 110) (ACode.seq (ACode.clr [110]) (ACode.seq (ACode.seq (ACode.region [{ dst := (some 111), op := (AOp.move (Opd.tmp 9)), guard := none }, { dst := (some 112), op := (AOp.move (Opd.tmp 12)), guard := none }, { dst := (some 113), op := (AOp.nilck (Opd.tmp 111)), guard := none }, { dst := (some 114), op := (AOp.faddr 0 (Opd.tmp 113)), guard := none }, { dst := (some 115), op := (AOp.iaddrA 2 1 (Opd.tmp 114) (Opd.tmp 112)), guard := none }, { dst := (some 116), op := (AOp.load none (Opd.tmp 115)), guard := none }, { dst := (some 117), op := (AOp.call 11 [(Opd.tmp 116)]), guard := none }, { dst := (some 13), op := (AOp.move (Opd.tmp 117)), guard := none }]) (ACode.clr [117, 116, 115, 114, 113, 112, 111])) (ACode.seq (ACode.region [{ dst := (some 14), op := (AOp.move (Opd.cst (V.int IntKind.i64 0))), guard := none }]) (ACode.block 2 (ACode.loop [] [] (ACode.seq (ACode.seq (ACode.seq (ACode.region [{ dst := (some 118), op := (AOp.move (Opd.tmp 14)), guard := none }, { dst := (some 119), op := (AOp.move (Opd.tmp 13)), guard := none }, { dst := (some 120), op := (AOp.lenS (Opd.tmp 119)), guard := none }, { dst := (some 121), op := (AOp.bin BinOp.lss (Opd.tmp 118) (Opd.tmp 120)), guard := none }]) (ACode.clr [120, 119, 118])) (ACode.cond (Opd.tmp 121) (ACode.seq (ACode.clr [121]) ACode.skip) (ACode.seq (ACode.clr [121, 14, 13, 11]) (ACode.exit 2)))) (ACode.seq (ACode.block 3 (ACode.seq (ACode.seq (ACode.region [{ dst := (some 124), op := (AOp.faddr 2 (Opd.tmp 11)), guard := none }, { dst := (some 125), op := (AOp.load none (Opd.tmp 124)), guard := none }, { dst := (some 126), op := (AOp.bin BinOp.lss (Opd.tmp 125) (Opd.cst (V.int IntKind.i64 0))), guard := none }, { dst := (some 127), op := (AOp.move (Opd.tmp 126)), guard := none }, { dst := (some 128), op := (AOp.move (Opd.tmp 14)), guard := (some (127, false)) }, { dst := (some 129), op := (AOp.bin BinOp.rem (Opd.tmp 128) (Opd.cst (V.int IntKind.i64 3))), guard := (some (127, false)) }, { dst := (some 130), op := (AOp.faddr 2 (Opd.tmp 11)), guard := (some (127, false)) }, { dst := (some 131), op := (AOp.load none (Opd.tmp 130)), guard := (some (127, false)) }, { dst := (some 132), op := (AOp.bin BinOp.rem (Opd.tmp 131) (Opd.cst (V.int IntKind.i64 3))), guard := (some (127, false)) }, { dst := (some 133), op := (AOp.bin BinOp.neq (Opd.tmp 129) (Opd.tmp 132)), guard := (some (127, false)) }, { dst := (some 134), op := (AOp.pick (Opd.tmp 127) (Opd.cst (V.bool true)) (Opd.tmp 133)), guard := none }]) (ACode.clr [133, 132, 131, 130, 129, 128, 127, 126, 125, 124])) (ACode.cond (Opd.tmp 134) (ACode.seq (ACode.clr [134]) (ACode.seq (ACode.region [{ dst := (some 135), op := (AOp.move (Opd.tmp 9)), guard := none }, { dst := (some 136), op := (AOp.move (Opd.tmp 13)), guard := none }, { dst := (some 137), op := (AOp.move (Opd.tmp 14)), guard := none }, { dst := (some 138), op := (AOp.iaddrS 6 (Opd.tmp 136) (Opd.tmp 137)), guard := none }, { dst := (some 139), op := (AOp.load (some 6) (Opd.tmp 138)), guard := none }, { dst := (some 140), op := (AOp.call 13 [(Opd.tmp 135), (Opd.tmp 139)]), guard := none }]) (ACode.clr [140, 139, 138, 137, 136, 135]))) (ACode.seq (ACode.clr [134]) ACode.skip)))) (ACode.seq (ACode.region [{ dst := (some 122), op := (AOp.move (Opd.tmp 14)), guard := none }, { dst := (some 123), op := (AOp.bin BinOp.add (Opd.tmp 122) (Opd.cst (V.int IntKind.i64 1))), guard := none }, { dst := (some 14), op := (AOp.move (Opd.tmp 123)), guard := none }]) (ACode.clr [123, 122]))))))))) (ACode.seq (ACode.clr [110, 11]) ACode.skip)))

def l4E : ACode := (ACode.seq (ACode.seq (ACode.region [{ dst := (some 141), op := (AOp.move (Opd.tmp 9)), guard := none }, { dst := (some 142), op := (AOp.move (Opd.tmp 12)), guard := none }, { dst := (some 143), op := (AOp.nilck (Opd.tmp 141)), guard := none }, { dst := (some 144), op := (AOp.faddr 0 (Opd.tmp 143)), guard := none }, { dst := (some 145), op := (AOp.iaddrA 2 1 (Opd.tmp 144) (Opd.tmp 142)), guard := none }, { dst := (some 146), op := (AOp.load none (Opd.tmp 145)), guard := none }, { dst := (some 147), op := (AOp.call 15 [(Opd.tmp 146)]), guard := none }, { dst := (some 15), op := (AOp.move (Opd.tmp 147)), guard := none }]) (ACode.clr [147, 146, 145, 144, 143, 142, 141])) (ACode.seq (ACode.seq (ACode.region [{ dst := (some 148), op := (AOp.move (Opd.tmp 9)), guard := none }, { dst := (some 149), op := (AOp.move (Opd.tmp 12)), guard := none }, { dst := (some 150), op := (AOp.nilck (Opd.tmp 148)), guard := none }, { dst := (some 151), op := (AOp.faddr 3 (Opd.tmp 150)), guard := none }, { dst := (some 152), op := (AOp.iaddrA 2 1 (Opd.tmp 151) (Opd.tmp 149)), guard := none }, { dst := (some 153), op := (AOp.load none (Opd.tmp 152)), guard := none }, { dst := (some 154), op := (AOp.lenS (Opd.tmp 153)), guard := none }, { dst := (some 155), op := (AOp.move (Opd.tmp 15)), guard := none }, { dst := (some 156), op := (AOp.bin BinOp.sub (Opd.tmp 154) (Opd.tmp 155)), guard := none }, { dst := (some 16), op := (AOp.move (Opd.tmp 156)), guard := none }]) (ACode.clr [156, 155, 154, 153, 152, 151, 150, 149, 148])) (ACode.seq (ACode.seq (ACode.region [{ dst := (some 157), op := (AOp.move (Opd.tmp 9)), guard := none }, { dst := (some 158), op := (AOp.move (Opd.tmp 12)), guard := none }, { dst := (some 159), op := (AOp.nilck (Opd.tmp 157)), guard := none }, { dst := (some 160), op := (AOp.faddr 0 (Opd.tmp 159)), guard := none }, { dst := (some 161), op := (AOp.iaddrA 2 1 (Opd.tmp 160) (Opd.tmp 158)), guard := none }, { dst := (some 162), op := (AOp.load none (Opd.tmp 161)), guard := none }, { dst := (some 163), op := (AOp.call 16 [(Opd.tmp 162)]), guard := none }, { dst := (some 17), op := (AOp.move (Opd.tmp 163)), guard := none }]) (ACode.clr [163, 162, 161, 160, 159, 158, 157])) (ACode.seq (ACode.seq (ACode.region [{ dst := (some 164), op := (AOp.move (Opd.tmp 17)), guard := none }, { dst := (some 165), op := (AOp.call 12 [(Opd.tmp 164)]), guard := none }, { dst := (some 18), op := (AOp.move (Opd.tmp 165)), guard := none }]) (ACode.clr [165, 164, 17])) (ACode.seq (ACode.seq (ACode.seq (ACode.region [{ dst := (some 166), op := (AOp.move (Opd.tmp 15)), guard := none }, { dst := (some 167), op := (AOp.bin BinOp.gtr (Opd.tmp 166) (Opd.cst (V.int IntKind.i64 0))), guard := none }, { dst := (some 168), op := (AOp.move (Opd.tmp 167)), guard := none }, { dst := (some 169), op := (AOp.move (Opd.tmp 18)), guard := (some (168, true)) }, { dst := (some 170), op := (AOp.lenS (Opd.tmp 169)), guard := (some (168, true)) }, { dst := (some 171), op := (AOp.move (Opd.tmp 15)), guard := (some (168, true)) }, { dst := (some 172), op := (AOp.bin BinOp.neq (Opd.tmp 170) (Opd.tmp 171)), guard := (some (168, true)) }, { dst := (some 173), op := (AOp.pick (Opd.tmp 168) (Opd.tmp 172) (Opd.cst (V.bool false))), guard := none }, { dst := (some 174), op := (AOp.move (Opd.tmp 173)), guard := none }, { dst := (some 175), op := (AOp.move (Opd.tmp 15)), guard := (some (174, false)) }, { dst := (some 176), op := (AOp.bin BinOp.eql (Opd.tmp 175) (Opd.cst (V.int IntKind.i64 0))), guard := (some (174, false)) }, { dst := (some 177), op := (AOp.move (Opd.tmp 176)), guard := (some (174, false)) }, { dst := (some 178), op := (AOp.move (Opd.tmp 18)), guard := (some (177, true)) }, { dst := (some 179), op := (AOp.lenS (Opd.tmp 178)), guard := (some (177, true)) }, { dst := (some 180), op := (AOp.bin BinOp.gtr (Opd.tmp 179) (Opd.cst (V.int IntKind.i64 1))), guard := (some (177, true)) }, { dst := (some 181), op := (AOp.pick (Opd.tmp 177) (Opd.tmp 180) (Opd.cst (V.bool false))), guard := (some (174, false)) }, { dst := (some 182), op := (AOp.pick (Opd.tmp 174) (Opd.cst (V.bool true)) (Opd.tmp 181)), guard := none }, { dst := (some 183), op := (AOp.move (Opd.tmp 182)), guard := none }, { dst := (some 184), op := (AOp.move (Opd.tmp 16)), guard := (some (183, false)) }, { dst := (some 185), op := (AOp.bin BinOp.lss (Opd.tmp 184) (Opd.cst (V.int IntKind.i64 0))), guard := (some (183, false)) }, { dst := (some 186), op := (AOp.pick (Opd.tmp 183) (Opd.cst (V.bool true)) (Opd.tmp 185)), guard := none }, { dst := (some 187), op := (AOp.move (Opd.tmp 186)), guard := none }, { dst := (some 188), op := (AOp.move (Opd.tmp 16)), guard := (some (187, false)) }, { dst := (some 189), op := (AOp.move (Opd.tmp 9)), guard := (some (187, false)) }, { dst := (some 190), op := (AOp.move (Opd.tmp 12)), guard := (some (187, false)) }, { dst := (some 191), op := (AOp.bin BinOp.sub (Opd.cst (V.int IntKind.i64 1)) (Opd.tmp 190)), guard := (some (187, false)) }, { dst := (some 192), op := (AOp.nilck (Opd.tmp 189)), guard := (some (187, false)) }, { dst := (some 193), op := (AOp.faddr 0 (Opd.tmp 192)), guard := (some (187, false)) }, { dst := (some 194), op := (AOp.iaddrA 2 1 (Opd.tmp 193) (Opd.tmp 191)), guard := (some (187, false)) }, { dst := (some 195), op := (AOp.load none (Opd.tmp 194)), guard := (some (187, false)) }, { dst := (some 196), op := (AOp.call 17 [(Opd.tmp 195)]), guard := (some (187, false)) }, { dst := (some 197), op := (AOp.bin BinOp.gtr (Opd.tmp 188) (Opd.tmp 196)), guard := (some (187, false)) }, { dst := (some 198), op := (AOp.pick (Opd.tmp 187) (Opd.cst (V.bool true)) (Opd.tmp 197)), guard := none }]) (ACode.clr [197, 196, 195, 194, 193, 192, 191, 190, 189, 188, 187, 186, 185, 184, 183, 182, 181, 180, 179, 178, 177, 176, 175, 174, 173, 172, 171, 170, 169, 168, 167, 166])) (ACode.cond (Opd.tmp 198) (ACode.seq (ACode.clr [198, 18, 16, 15, 12, 10, 9, 1]) (ACode.seq (ACode.region [{ dst := (some 4), op := (AOp.move (Opd.cst (V.bool false))), guard := none }]) ACode.ret)) (ACode.seq (ACode.clr [198]) ACode.skip))) (ACode.seq (ACode.region [{ dst := (some 19), op := (AOp.move (Opd.cst (V.int IntKind.i64 0))), guard := none }]) (ACode.block 4 (ACode.loop [] [] (ACode.seq (ACode.seq (ACode.seq (ACode.region [{ dst := (some 199), op := (AOp.move (Opd.tmp 19)), guard := none }, { dst := (some 200), op := (AOp.move (Opd.tmp 15)), guard := none }, { dst := (some 201), op := (AOp.bin BinOp.lss (Opd.tmp 199) (Opd.tmp 200)), guard := none }]) (ACode.clr [200, 199])) (ACode.cond (Opd.tmp 201) (ACode.seq (ACode.clr [201]) ACode.skip) (ACode.seq (ACode.clr [201, 19, 18, 16, 15, 12]) (ACode.exit 4)))) (ACode.seq (ACode.block 5 (ACode.seq (ACode.seq (ACode.region [{ dst := (some 204), op := (AOp.move (Opd.tmp 18)), guard := none }, { dst := (some 205), op := (AOp.move (Opd.tmp 19)), guard := none }, { dst := (some 206), op := (AOp.iaddrS 6 (Opd.tmp 204) (Opd.tmp 205)), guard := none }, { dst := (some 207), op := (AOp.faddr 3 (Opd.tmp 206)), guard := none }, { dst := (some 208), op := (AOp.load none (Opd.tmp 207)), guard := none }, { dst := (some 209), op := (AOp.move (Opd.tmp 16)), guard := none }, { dst := (some 210), op := (AOp.move (Opd.tmp 19)), guard := none }, { dst := (some 211), op := (AOp.bin BinOp.add (Opd.tmp 209) (Opd.tmp 210)), guard := none }, { dst := (some 212), op := (AOp.bin BinOp.add (Opd.tmp 211) (Opd.cst (V.int IntKind.i64 1))), guard := none }, { dst := (some 213), op := (AOp.bin BinOp.neq (Opd.tmp 208) (Opd.tmp 212)), guard := none }, { dst := (some 214), op := (AOp.move (Opd.tmp 213)), guard := none }, { dst := (some 215), op := (AOp.move (Opd.tmp 18)), guard := (some (214, false)) }, { dst := (some 216), op := (AOp.move (Opd.tmp 19)), guard := (some (214, false)) }, { dst := (some 217), op := (AOp.iaddrS 6 (Opd.tmp 215) (Opd.tmp 216)), guard := (some (214, false)) }, { dst := (some 218), op := (AOp.faddr 5 (Opd.tmp 217)), guard := (some (214, false)) }, { dst := (some 219), op := (AOp.load none (Opd.tmp 218)), guard := (some (214, false)) }, { dst := (some 220), op := (AOp.b2s (Opd.tmp 219)), guard := (some (214, false)) }, { dst := (some 221), op := (AOp.move (Opd.tmp 9)), guard := (some (214, false)) }, { dst := (some 222), op := (AOp.move (Opd.tmp 12)), guard := (some (214, false)) }, { dst := (some 223), op := (AOp.nilck (Opd.tmp 221)), guard := (some (214, false)) }, { dst := (some 224), op := (AOp.faddr 3 (Opd.tmp 223)), guard := (some (214, false)) }, { dst := (some 225), op := (AOp.iaddrA 2 1 (Opd.tmp 224) (Opd.tmp 222)), guard := (some (214, false)) }, { dst := (some 226), op := (AOp.load none (Opd.tmp 225)), guard := (some (214, false)) }, { dst := (some 227), op := (AOp.move (Opd.tmp 16)), guard := (some (214, false)) }, { dst := (some 228), op := (AOp.move (Opd.tmp 19)), guard := (some (214, false)) }, { dst := (some 229), op := (AOp.bin BinOp.add (Opd.tmp 227) (Opd.tmp 228)), guard := (some (214, false)) }, { dst := (some 230), op := (AOp.iaddrS 1 (Opd.tmp 226) (Opd.tmp 229)), guard := (some (214, false)) }, { dst := (some 231), op := (AOp.load none (Opd.tmp 230)), guard := (some (214, false)) }, { dst := (some 232), op := (AOp.b2s (Opd.tmp 231)), guard := (some (214, false)) }, { dst := (some 233), op := (AOp.bin BinOp.neq (Opd.tmp 220) (Opd.tmp 232)), guard := (some (214, false)) }, { dst := (some 234), op := (AOp.pick (Opd.tmp 214) (Opd.cst (V.bool true)) (Opd.tmp 233)), guard := none }, { dst := (some 235), op := (AOp.move (Opd.tmp 234)), guard := none }, { dst := (some 236), op := (AOp.move (Opd.tmp 18)), guard := (some (235, false)) }, { dst := (some 237), op := (AOp.move (Opd.tmp 19)), guard := (some (235, false)) }, { dst := (some 238), op := (AOp.iaddrS 6 (Opd.tmp 236) (Opd.tmp 237)), guard := (some (235, false)) }, { dst := (some 239), op := (AOp.faddr 4 (Opd.tmp 238)), guard := (some (235, false)) }, { dst := (some 240), op := (AOp.load none (Opd.tmp 239)), guard := (some (235, false)) }, { dst := (some 241), op := (AOp.move (Opd.tmp 9)), guard := (some (235, false)) }, { dst := (some 242), op := (AOp.move (Opd.tmp 12)), guard := (some (235, false)) }, { dst := (some 243), op := (AOp.nilck (Opd.tmp 241)), guard := (some (235, false)) }, { dst := (some 244), op := (AOp.faddr 0 (Opd.tmp 243)), guard := (some (235, false)) }, { dst := (some 245), op := (AOp.iaddrA 2 1 (Opd.tmp 244) (Opd.tmp 242)), guard := (some (235, false)) }, { dst := (some 246), op := (AOp.load none (Opd.tmp 245)), guard := (some (235, false)) }, { dst := (some 247), op := (AOp.call 17 [(Opd.tmp 246)]), guard := (some (235, false)) }, { dst := (some 248), op := (AOp.bin BinOp.neq (Opd.tmp 240) (Opd.tmp 247)), guard := (some (235, false)) }, { dst := (some 249), op := (AOp.pick (Opd.tmp 235) (Opd.cst (V.bool true)) (Opd.tmp 248)), guard := none }]) (ACode.clr [248, 247, 246, 245, 244, 243, 242, 241, 240, 239, 238, 237, 236, 235, 234, 233, 232, 231, 230, 229, 228, 227, 226, 225, 224, 223, 222, 221, 220, 219, 218, 217, 216, 215, 214, 213, 212, 211, 210, 209, 208, 207, 206, 205, 204])) (ACode.cond (Opd.tmp 249) (ACode.seq (ACode.clr [249, 19, 18, 16, 15, 12, 10, 9, 1]) (ACode.seq (ACode.region [{ dst := (some 4), op := (AOp.move (Opd.cst (V.bool false))), guard := none }]) ACode.ret)) (ACode.seq (ACode.clr [249]) ACode.skip)))) (ACode.seq (ACode.region [{ dst := (some 202), op := (AOp.move (Opd.tmp 19)), guard := none }, { dst := (some 203), op := (AOp.bin BinOp.add (Opd.tmp 202) (Opd.cst (V.int IntKind.i64 1))), guard := none }, { dst := (some 19), op := (AOp.move (Opd.tmp 203)), guard := none }]) (ACode.clr [203, 202]))))))))))))


theorem l4K_is : l4K = .seq l4A (.seq l4B (.seq l4C (.seq l4D l4E))) := rfl

/-- What a round's slots hold, in the main. -/
def slots (L0 : V) (w : Nat) (i : Int) (mo k : Nat) : List V := fr 255 [(1, L0), (9, .ptr w 1 0), (10, .int .i64 i), (11, .ptr mo 1 0), (12, .int .i64 k)]

def mvC (kind who nn : Int) (b : V) : List V := [.int .i64 kind, .int .i64 who, .int .i64 nn, b]

theorem nodup_send {a fb o1 m : Nat} {R R' RS E RO E2 : List Nat} (h : (a :: (R ++ (RS ++ (E ++ RO)))).Nodup) (hlt : ∀ o ∈ a :: (R ++ (RS ++ (E ++ RO))), o < fb) (hR' : ∀ o ∈ R', o ∈ R ∨ m ≤ o) (hm : fb + 3 < m) (nR' : R'.Nodup) (ha : a ∉ R')
    (ho1 : o1 = fb + 3 ∨ o1 ∈ RS) (hE2 : ∀ o ∈ E2, o = fb + 2) (nE2 : E2.Nodup) : (a :: (R' ++ ([o1] ++ ((E ++ E2) ++ RO)))).Nodup := by
  simp only [List.nodup_cons, List.nodup_append, List.mem_append, List.mem_cons, List.not_mem_nil, or_false] at *
  grind

set_option maxHeartbeats 4000000 in
theorem l4C_wp {N n : Nat} (hN : 1500 ≤ N) (hn : 5 ≤ n) {H : Heap} {w k : Nat} {on : V} {a c : Nat} {sa sc : Ses} {sent sent' out out' : List (List Int)} {S T O U : V} {R R' : List Nat} (D : Duo H w k on a c sa sc sent sent' out out' S T O U R R') (hk : k < 2)
    (kind who nn : Int) {l : List Int} {b : V} (hb : By l b) {fb : Nat} (hm : H[fb + 1]? = some ⟨1, .var (mvC kind who nn b)⟩) (x2 : H[fb + 2]? = some ⟨0, .dead⟩) (x3 : H[fb + 3]? = some ⟨0, .dead⟩) (hfb : ∀ o, o = w ∨ o ∈ R ∨ o ∈ R' → o < fb)
    (hs : sent.length < 80) (L0 : V) (i : Int) :
    wp ⟨pureOf am, callA am N n, N, fb⟩ l4C (slots L0 w i (fb + 1) k) H fun e t' H' => e = .norm ∧ t' = slots L0 w i (fb + 1) k ∧ H'[fb + 1]? = some ⟨1, .var (mvC kind who nn b)⟩ ∧ H.length ≤ H'.length ∧
      ∃ sent1 S' R1, Duo H' w k on a c sa sc sent1 sent' out out' S' T O U R1 R' ∧ sent1.length ≤ sent.length + 1 ∧ fb + 1 ∉ R1 := by
  have hk2 : (k : Int) < 2 := by omega
  have hle : k + 1 ≤ 7 := by omega
  have hle3 : 3 + k + 1 ≤ 7 := by omega
  have q7 := fun S => @tw_len k on a c S T O U
  have qn := fun S => @tw_near k on a c S T O U hk
  have qs := fun S => @tw_sent k on a c S T O U hk
  have qS := fun S S' => @tw_setS k on a c S T O U S' hk
  have hw := D.ob
  have hwf := hfb w (.inl rfl)
  have hml := lt_of_get hm
  have hx3l := lt_of_get x3
  unfold slots mvC at *
  refine sx_wp ?_
  cases g : (kind == 1) with
  | false =>
    simp +contextual -implicitDefEqProofs (maxSteps := 10000000) only [sx_seq, sxL_succ, lpQ_norm, lpQ_exit, lpQ_ret, loopQ_norm, loopQ_exit, loopQ_ret, sqQ_norm, sqQ_ret, sqQ_exit, sx_block, blkQ_norm, blkQ_exit, blkQ_ret, sx_cond, cdP_true, cdP_false, cdP_bool, sx_region, sx_draw, plainD, List.all_cons, List.all_nil, List.isEmpty_nil, List.isEmpty_cons, sxo_nil, sxo_cons, sxo_guard, gdS_bool, gdS_eff, gdS_tup, gdS_sel, gdS_seleff, sxK_def, wcall_some, effP_ret, effP_set, effP_none, effP_ite, wop_call, wop_cv, cvP_func, sx_ret, sx_exit, sx_skip, sx_clr, sx_fresh, stays, ↓selV_wt, ↓selV_wf, ↓impB_wt, ↓impB_wf, ↓selV_nor, ↓impB_nor, ↓selV_nt, ↓selV_nf, ↓impB_nt, ↓impB_nf, wantB_true, wantB_false, ↓selV_true, ↓selV_false, ↓selV_and, ↓impB_true, ↓impB_false, ↓impB_and, impB_triv, valOf_some, retH_some, ↓prim_pick, pickO_true, pickO_false, pickO_and, pickO_or, pickO_andr, pickO_orr, pickO_orrn, pickO_orn, pickO_bb, pickAnd_bool, pickOr_bool, ↓selV_nn, ↓impB_nn, Bool.and_assoc, Bool.or_assoc, doOp, ev_fr, ev_cst, put_none, put_fr, get, ins, del, dels, Nat.reduceLT, Nat.reduceEqDiff, ↓reduceIte, reduceCtorEq, ne_eq, not_false_eq_true, implies_true, framed_pureF, framed_fb, framed_N, framed_pure, wop_prim, prim, YLD, mkA, V.cells, List.getElem?_cons_zero, List.getElem?_cons_succ, List.set_cons_zero, List.set_cons_succ, Nat.zero_add, Nat.add_zero, Nat.reduceAdd, Nat.reduceSub, Nat.reduceMul, Nat.reduceLeDiff, Nat.not_lt_zero, List.map_cons, List.map_nil, List.cons_append, List.nil_append, loadA, cellsAt, nAg, packA, opt_bind_some, opt_map_some, opt_bind_none, opt_map_none, List.drop, List.take, List.head?, List.length_cons, List.length_nil, binA, unA, eqCells, eqCell, negB, fillA, sr_nil, sr_cons, sr_succ, sr_all, sr_len, storeA, Ob.with, indexedI, V.oneCell, intOf?, retQ_ret, retQ_norm, resA, resA1, fr_getD, packR, sealDepth, shut_bool, shut_int, Option.some.injEq, V.bool.injEq, V.int.injEq, Bool.not_true, Bool.not_false, true_and, and_true, and_self, Bool.and_true, Bool.and_false, Bool.true_and, Bool.false_and, Bool.or_true, Bool.or_false, Bool.true_or, Bool.false_or, Bool.false_eq_true, Int.reduceLT, Int.reduceLE, Int.reduceToNat, Int.reduceNeg, shut_plain, freeL_cons, freeL_nil, free_int, free_bool, free_agg, free_str, free_nils, free_tup, free_sl, true_implies, false_implies, Nat.sub_zero, Int.natCast_nonneg, Int.toNat_natCast, Nat.le_refl, not_true_eq_false, Int.reduceAdd, Int.reduceSub, Int.reduceMul, wrap64, false_and, and_false, cond_true, cond_false, Bool.cond_true_left, Bool.cond_false_right, Int.reduceBNe, Int.reduceBEq, decide_true, decide_false, Int.cast_ofNat_Int, Nat.mul_one, eq_self, Bool.true_eq_false, Bool.not_eq_true, Bool.not_eq_false, deads, List.replicate, argsF, l4C, hm, g, pm10]
    exact ⟨sent, S, R, D, by omega, fun hh => by have := hfb _ (.inr (.inl hh)); omega⟩
  | true =>
    obtain ⟨L, W, Rw, LS, RS, LO, RO, hS, hB, hSr, hEl, hO, hBo, hE, hRs, hnd⟩ := D.near.all
    have hLl : L.length ≤ 1000 := by have := hE.sum; have := hE.f0; omega
    have haR : a ∈ R := by rw [hRs]; simp
    by_cases hlong : 256 < l.length
    · have c10 := @send_long N n (by omega) _ _ _ _ _ _ hS _ _ hb hlong
      simp +contextual -implicitDefEqProofs (maxSteps := 10000000) only [sx_seq, sxL_succ, lpQ_norm, lpQ_exit, lpQ_ret, loopQ_norm, loopQ_exit, loopQ_ret, sqQ_norm, sqQ_ret, sqQ_exit, sx_block, blkQ_norm, blkQ_exit, blkQ_ret, sx_cond, cdP_true, cdP_false, cdP_bool, sx_region, sx_draw, plainD, List.all_cons, List.all_nil, List.isEmpty_nil, List.isEmpty_cons, sxo_nil, sxo_cons, sxo_guard, gdS_bool, gdS_eff, gdS_tup, gdS_sel, gdS_seleff, sxK_def, wcall_some, effP_ret, effP_set, effP_none, effP_ite, wop_call, wop_cv, cvP_func, sx_ret, sx_exit, sx_skip, sx_clr, sx_fresh, stays, ↓selV_wt, ↓selV_wf, ↓impB_wt, ↓impB_wf, ↓selV_nor, ↓impB_nor, ↓selV_nt, ↓selV_nf, ↓impB_nt, ↓impB_nf, wantB_true, wantB_false, ↓selV_true, ↓selV_false, ↓selV_and, ↓impB_true, ↓impB_false, ↓impB_and, impB_triv, valOf_some, retH_some, ↓prim_pick, pickO_true, pickO_false, pickO_and, pickO_or, pickO_andr, pickO_orr, pickO_orrn, pickO_orn, pickO_bb, pickAnd_bool, pickOr_bool, ↓selV_nn, ↓impB_nn, Bool.and_assoc, Bool.or_assoc, doOp, ev_fr, ev_cst, put_none, put_fr, get, ins, del, dels, Nat.reduceLT, Nat.reduceEqDiff, ↓reduceIte, reduceCtorEq, ne_eq, not_false_eq_true, implies_true, framed_pureF, framed_fb, framed_N, framed_pure, wop_prim, prim, YLD, mkA, V.cells, List.getElem?_cons_zero, List.getElem?_cons_succ, List.set_cons_zero, List.set_cons_succ, Nat.zero_add, Nat.add_zero, Nat.reduceAdd, Nat.reduceSub, Nat.reduceMul, Nat.reduceLeDiff, Nat.not_lt_zero, List.map_cons, List.map_nil, List.cons_append, List.nil_append, loadA, cellsAt, nAg, packA, opt_bind_some, opt_map_some, opt_bind_none, opt_map_none, List.drop, List.take, List.head?, List.length_cons, List.length_nil, binA, unA, eqCells, eqCell, negB, fillA, sr_nil, sr_cons, sr_succ, sr_all, sr_len, storeA, Ob.with, indexedI, V.oneCell, intOf?, retQ_ret, retQ_norm, resA, resA1, fr_getD, packR, sealDepth, shut_bool, shut_int, Option.some.injEq, V.bool.injEq, V.int.injEq, Bool.not_true, Bool.not_false, true_and, and_true, and_self, Bool.and_true, Bool.and_false, Bool.true_and, Bool.false_and, Bool.or_true, Bool.or_false, Bool.true_or, Bool.false_or, Bool.false_eq_true, Int.reduceLT, Int.reduceLE, Int.reduceToNat, Int.reduceNeg, shut_plain, freeL_cons, freeL_nil, free_int, free_bool, free_agg, free_str, free_nils, free_tup, free_sl, true_implies, false_implies, Nat.sub_zero, Int.natCast_nonneg, Int.toNat_natCast, Nat.le_refl, not_true_eq_false, Int.reduceAdd, Int.reduceSub, Int.reduceMul, wrap64, false_and, and_false, cond_true, cond_false, Bool.cond_true_left, Bool.cond_false_right, Int.reduceBNe, Int.reduceBEq, decide_true, decide_false, Int.cast_ofNat_Int, Nat.mul_one, eq_self, Bool.true_eq_false, Bool.not_eq_true, Bool.not_eq_false, deads, List.replicate, argsF, l4C, hm, g, pm10, hw, q7, qn, hk2, hle, isNil, c10]
      refine ⟨by rw [List.getElem?_append_left hml]; exact hm, by simp, sent, S, R, D.keep (fun o ho => List.getElem?_append_left (D.lt o ho)), by omega, fun hh => by have := hfb _ (.inr (.inl hh)); omega⟩
    · obtain ⟨v', H1, c10, rfl, b', W', R1w, hb', hS', hbe⟩ := @send_spec N n (by omega) _ _ _ _ _ _ hS _ _ hb (by omega) hLl
      have oth := hbe.oth
      have hRlt := D.near.lt
      have hRlt' := D.far.lt
      rw [hRs] at hRlt
      have hwl := lt_of_get hw
      have hal := lt_of_get hS.ob
      have wne : w ≠ a := fun e => D.wR (e ▸ haR)
      have wnR : w ∉ Rw := fun h => D.wR (by rw [hRs]; simp [h])
      have fbR : ∀ o ∈ R, o < fb := fun o ho => hfb o (.inr (.inl ho))
      rw [hRs] at fbR
      have hw1 : H1[w]? = some ⟨1, .var (tw k on a c S T O U)⟩ := by rw [oth w hwl wne wnR]; exact hw
      have hm1 : H1[fb + 1]? = some ⟨1, .var [.int .i64 kind, .int .i64 who, .int .i64 nn, b]⟩ := by rw [oth _ hml (by have := fbR a (by simp); omega) (fun h => by have := fbR (fb + 1) (by simp [h]); omega)]; exact hm
      have x21 : H1[fb + 2]? = some ⟨0, .dead⟩ := by rw [oth _ (by omega) (by have := fbR a (by simp); omega) (fun h => by have := fbR (fb + 2) (by simp [h]); omega)]; exact x2
      have x31 : H1[fb + 3]? = some ⟨0, .dead⟩ := by rw [oth _ (by omega) (by have := fbR a (by simp); omega) (fun h => by have := fbR (fb + 3) (by simp [h]); omega)]; exact x3
      have keep1 : ∀ o ∈ RS ++ (V.objsL LS ++ RO), H1[o]? = H[o]? := fun o ho => by
        refine oth o (hRlt o (by simp at ho ⊢; grind)) ?_ ?_ <;> (simp only [List.nodup_cons, List.nodup_append, List.mem_append, hRs] at hnd ho ⊢; grind)
      have hSr1 := hSr.keep (fun o ho => keep1 o (by simp [ho]))
      have hEl1 := hEl.keep (fun o ho => keep1 o (by simp [ho]))
      have hO1 := hO.keep (fun o ho => keep1 o (by simp [ho]))
      have hlS : LS.length ≤ 1000 := by have := hEl.1; omega
      -- what is left to say
      have fin : ∀ (H2 : Heap) (e : V) (E2 : List Nat), H2.length = H1.length → (∀ o, o ≠ fb + 2 → H2[o]? = H1[o]?) → El H2 l e → e.objs = E2 → (∀ o ∈ E2, o = fb + 2) → E2.Nodup → ∀ (y : Ob) (S' : V) (o1 : Nat), WRow (H2.set o1 y) S' (LS ++ [e]) [o1] → (o1 = fb + 3 ∨ o1 ∈ RS) →
          ((H2.set o1 y).set w ⟨1, .var (tw k on a c S' T O U)⟩)[fb + 1]? = some ⟨1, .var [.int .i64 kind, .int .i64 who, .int .i64 nn, b]⟩ ∧ H.length ≤ ((H2.set o1 y).set w ⟨1, .var (tw k on a c S' T O U)⟩).length ∧
          ∃ sent1 S'' R1, Duo ((H2.set o1 y).set w ⟨1, .var (tw k on a c S' T O U)⟩) w k on a c sa sc sent1 sent' out out' S'' T O U R1 R' ∧ sent1.length ≤ sent.length + 1 ∧ fb + 1 ∉ R1 := by
        intro H2 e E2 hl2 hk2 hel hE2 hE2m hE2n y S' o1 hrow ho1
        have hne1 : o1 ≠ w := by
          rcases ho1 with rfl | ho1
          · omega
          · intro e; exact D.wR (by rw [hRs, ← e]; simp [ho1])
        have o1fb : o1 ≤ fb + 3 ∧ o1 ≠ fb + 1 ∧ o1 ≠ fb + 2 := by
          rcases ho1 with rfl | ho1
          · omega
          · have := fbR o1 (by simp [ho1]); omega
        have hnew := hbe.new
        have fin_get : ∀ o, o ≠ w → o ≠ o1 → o ≠ fb + 2 → ((H2.set o1 y).set w ⟨1, .var (tw k on a c S' T O U)⟩)[o]? = H1[o]? := fun o h1 h2 h3 => by
          rw [List.getElem?_set_ne (Ne.symm h1), List.getElem?_set_ne (Ne.symm h2), hk2 o h3]
        have hfl := hbe.len
        refine ⟨by rw [fin_get _ (by omega) (by omega) (by omega)]; exact hm1, by simp [hl2]; omega, sent ++ [l], S', a :: (R1w ++ ([o1] ++ (V.objsL (LS ++ [e]) ++ RO))), ?_, by simp, ?_⟩
        · have hEn : End sa (L ++ [b']).length (sent ++ [l]) out out'.length := by
            have := hE.send l hs
            simpa using this
          have hlim := hE.ack
          have hgl := hE.lim
          have hnd' : (a :: (R1w ++ ([o1] ++ (V.objsL (LS ++ [e]) ++ RO)))).Nodup := by
            have ap := hS'.apart
            have rl := hS'.row.lt
            have nR : R1w.Nodup := by
              rcases hS'.row with ⟨-, -, rfl⟩ | ⟨o, ver, x, rfl, -⟩ <;> simp
            rw [objsL_app, show V.objsL [e] = E2 from by rw [← hE2]; simp [V.objsL]]
            exact nodup_send (by rw [← hRs]; exact hnd) fbR hnew hx3l nR ap ho1 hE2m hE2n
          refine ⟨?_, ⟨L ++ [b'], W', R1w, LS ++ [e], [o1], LO, RO, ⟨?_, ?_, hS'.bods, hS'.apart⟩, ?_, ?_, ?_, ?_, hBo, hEn, rfl, hnd'⟩, D.far.keep ?_, ?_, D.wR', ?_, D.me, D.other, D.me', D.other', D.view, D.pre, ?_, D.told, D.told'⟩
          · rw [List.getElem?_set_self (by simp [hl2]; omega)]
          · rw [fin_get a (Ne.symm wne) (by
              rcases ho1 with rfl | ho1
              · have := fbR a (by simp); omega
              · intro e; rw [hRs] at hnd; simp only [List.nodup_cons, List.nodup_append, List.mem_append] at hnd; grind) (by have := fbR a (by simp); omega)]
            exact hS'.ob
          · refine hS'.row.keep fun o ho => fin_get o ?_ ?_ ?_
            · rcases hnew o ho with h | h
              · intro e; exact wnR (e ▸ h)
              · omega
            · rcases hnew o ho with h | h
              · rcases ho1 with rfl | ho1
                · have := fbR o (by simp [h]); omega
                · intro e; rw [hRs] at hnd; simp only [List.nodup_cons, List.nodup_append, List.mem_append] at hnd; grind
              · rcases ho1 with rfl | ho1
                · omega
                · have := fbR o1 (by simp [ho1]); omega
            · rcases hnew o ho with h | h
              · have := fbR o (by simp [h]); omega
              · omega
          · exact wait_send (n := 0) hB (by omega) hb' (by omega)
          · refine hrow.keep fun o ho => ?_
            obtain rfl := List.mem_singleton.1 ho
            rw [List.getElem?_set_ne (Ne.symm hne1)]
          · have : Els ((H2.set o1 y).set w ⟨1, .var (tw k on a c S' T O U)⟩) sent LS := hEl1.keep fun o ho => fin_get o (fun e => D.wR (by rw [hRs, ← e]; simp [ho])) (by
              rcases ho1 with rfl | ho1
              · have := fbR o (by simp [ho]); omega
              · intro e; rw [hRs] at hnd; simp only [List.nodup_cons, List.nodup_append, List.mem_append] at hnd; grind) (by have := fbR o (by simp [ho]); omega)
            refine this.snoc ?_
            rcases hel with h | ⟨o, ver, h1, h2, h3⟩
            · exact .inl h
            · refine .inr ⟨o, ver, h1, h2, ?_⟩
              have : o = fb + 2 := hE2m o (by rw [← hE2, h2]; simp [V.objs])
              subst this
              rw [List.getElem?_set_ne (by omega), List.getElem?_set_ne (by omega)]
              exact h3
          · refine hO1.keep fun o ho => fin_get o (fun e => D.wR (by rw [hRs, ← e]; simp [ho])) (by
              rcases ho1 with rfl | ho1
              · have := fbR o (by simp [ho]); omega
              · intro e; rw [hRs] at hnd; simp only [List.nodup_cons, List.nodup_append, List.mem_append] at hnd; grind) (by have := fbR o (by simp [ho]); omega)
          · intro o ho
            have h1 := hfb o (.inr (.inr ho))
            have h2 : o ∉ R := fun h => D.apart o h ho
            rw [fin_get o (fun e => D.wR' (e ▸ ho)) (by
              rcases ho1 with rfl | ho1
              · omega
              · intro e; exact h2 (by rw [hRs, e]; simp [ho1])) (by omega)]
            exact oth o (hRlt' o ho) (fun e => h2 (e ▸ haR)) (fun h => h2 (by rw [hRs]; simp [h]))
          · intro h
            have dw := D.wR
            rw [hRs] at dw
            rw [objsL_app, show V.objsL [e] = E2 from by rw [← hE2]; simp [V.objsL]] at h
            simp only [List.mem_append, List.mem_cons, List.not_mem_nil, or_false] at h dw
            grind
          · intro o ho h'
            have h1 := hfb o (.inr (.inr h'))
            have h2 : o ∉ R := fun h => D.apart o h h'
            have h3 := D.far.lt o h'
            rw [hRs] at h2
            rw [objsL_app, show V.objsL [e] = E2 from by rw [← hE2]; simp [V.objsL]] at ho
            simp only [List.mem_append, List.mem_cons, List.not_mem_nil, or_false] at ho h2
            grind
          · obtain ⟨r, hr⟩ := D.pre'
            exact ⟨r ++ [l], by rw [hr]; simp⟩
        · intro h
          rw [objsL_app, show V.objsL [e] = E2 from by rw [← hE2]; simp [V.objsL]] at h
          simp only [List.mem_append, List.mem_cons, List.not_mem_nil, or_false] at h fbR
          grind
      have hfpb : fpV b = [] := by rcases hb with ⟨rfl, -⟩ | ⟨c, rfl⟩ <;> rfl
      have hwne : (fb + 2 == w) = false := by simp; omega
      have hwne' : (w == fb + 2) = false := by simp; omega
      have r1 : List.range 1 = [0] := rfl
      obtain ⟨u1, u2, u3, u4, u5, u6⟩ := hSr.shape
      rcases copy_bytes hb x21 (by omega) with ⟨hl0, hA2⟩ | ⟨hl0, hA2⟩
      · obtain ⟨o1, y, S', hA, hrow, ho1, hol⟩ := hSr1.append (b := .nils) x31 rfl rfl hlS
        have hwl1 : w < H1.length := lt_of_get hw1
        have hne1 : o1 ≠ w := by
          rcases ho1 with rfl | ho1
          · omega
          · intro e; exact D.wR (by rw [hRs, ← e]; simp [ho1])
        have hw2 : (H1.set o1 y)[w]? = some ⟨1, .var (tw k on a c S T O U)⟩ := by rw [List.getElem?_set_ne hne1]; exact hw1
        obtain ⟨w1, w2, w3, w4, w5, w6⟩ := hrow.shape
        have wr : wrapV [V.nils] = V.nils := rfl
        have F := fin H1 .nils [] rfl (fun o _ => rfl) (.inl (.inl ⟨rfl, hl0⟩)) rfl (fun o ho => by cases ho) .nil y S' o1 hrow ho1
        simp +contextual -implicitDefEqProofs (maxSteps := 10000000) only [sx_seq, sxL_succ, lpQ_norm, lpQ_exit, lpQ_ret, loopQ_norm, loopQ_exit, loopQ_ret, sqQ_norm, sqQ_ret, sqQ_exit, sx_block, blkQ_norm, blkQ_exit, blkQ_ret, sx_cond, cdP_true, cdP_false, cdP_bool, sx_region, sx_draw, plainD, List.all_cons, List.all_nil, List.isEmpty_nil, List.isEmpty_cons, sxo_nil, sxo_cons, sxo_guard, gdS_bool, gdS_eff, gdS_tup, gdS_sel, gdS_seleff, sxK_def, wcall_some, effP_ret, effP_set, effP_none, effP_ite, wop_call, wop_cv, cvP_func, sx_ret, sx_exit, sx_skip, sx_clr, sx_fresh, stays, ↓selV_wt, ↓selV_wf, ↓impB_wt, ↓impB_wf, ↓selV_nor, ↓impB_nor, ↓selV_nt, ↓selV_nf, ↓impB_nt, ↓impB_nf, wantB_true, wantB_false, ↓selV_true, ↓selV_false, ↓selV_and, ↓impB_true, ↓impB_false, ↓impB_and, impB_triv, valOf_some, retH_some, ↓prim_pick, pickO_true, pickO_false, pickO_and, pickO_or, pickO_andr, pickO_orr, pickO_orrn, pickO_orn, pickO_bb, pickAnd_bool, pickOr_bool, ↓selV_nn, ↓impB_nn, Bool.and_assoc, Bool.or_assoc, doOp, ev_fr, ev_cst, put_none, put_fr, get, ins, del, dels, Nat.reduceLT, Nat.reduceEqDiff, ↓reduceIte, reduceCtorEq, ne_eq, not_false_eq_true, implies_true, framed_pureF, framed_fb, framed_N, framed_pure, wop_prim, prim, YLD, mkA, V.cells, List.getElem?_cons_zero, List.getElem?_cons_succ, List.set_cons_zero, List.set_cons_succ, Nat.zero_add, Nat.add_zero, Nat.reduceAdd, Nat.reduceSub, Nat.reduceMul, Nat.reduceLeDiff, Nat.not_lt_zero, List.map_cons, List.map_nil, List.cons_append, List.nil_append, loadA, cellsAt, nAg, packA, opt_bind_some, opt_map_some, opt_bind_none, opt_map_none, List.drop, List.take, List.head?, List.length_cons, List.length_nil, binA, unA, eqCells, eqCell, negB, fillA, sr_nil, sr_cons, sr_succ, sr_all, sr_len, storeA, Ob.with, indexedI, V.oneCell, intOf?, retQ_ret, retQ_norm, resA, resA1, fr_getD, packR, sealDepth, shut_bool, shut_int, Option.some.injEq, V.bool.injEq, V.int.injEq, Bool.not_true, Bool.not_false, true_and, and_true, and_self, Bool.and_true, Bool.and_false, Bool.true_and, Bool.false_and, Bool.or_true, Bool.or_false, Bool.true_or, Bool.false_or, Bool.false_eq_true, Int.reduceLT, Int.reduceLE, Int.reduceToNat, Int.reduceNeg, shut_plain, freeL_cons, freeL_nil, free_int, free_bool, free_agg, free_str, free_nils, free_tup, free_sl, true_implies, false_implies, Nat.sub_zero, Int.natCast_nonneg, Int.toNat_natCast, Nat.le_refl, not_true_eq_false, Int.reduceAdd, Int.reduceSub, Int.reduceMul, wrap64, false_and, and_false, cond_true, cond_false, Bool.cond_true_left, Bool.cond_false_right, Int.reduceBNe, Int.reduceBEq, decide_true, decide_false, Int.cast_ofNat_Int, Nat.mul_one, eq_self, Bool.true_eq_false, Bool.not_eq_true, Bool.not_eq_false, deads, List.replicate, argsF, l4C, sx_drawd, reachC_nil, wpd_nil, wpd_cons, wdK_def, fpOf, fpV, fpCall, Fp.ok, disj, List.contains_cons, List.contains_nil, Nat.reduceBEq, List.all_append, V.objsL, V.objs,  List.getD_cons_zero, List.getD_cons_succ, List.append_nil, hm, g, pm10, hw, q7, qn, qs, qS, hk2, hle, hle3, isNil, c10, hw1, hm1, hA2, hA, r1, wr, hw2, w1, w2, u1, u2, hfpb, hwne, hwne', -List.drop, -List.take]
        exact F
      · have hx2l : fb + 2 < H1.length := lt_of_get x21
        obtain ⟨H2, hH2⟩ : ∃ H2, H2 = H1.set (fb + 2) (⟨1, .arr (l.map (V.int .u8))⟩ : Ob) := ⟨_, rfl⟩
        have hH2' := hH2.symm
        have g2 : ∀ o, o ≠ fb + 2 → H2[o]? = H1[o]? := fun o ho => by rw [hH2, List.getElem?_set_ne (Ne.symm ho)]
        have x32 : H2[fb + 3]? = some ⟨0, .dead⟩ := by rw [g2 _ (by omega)]; exact x31
        have hSr2 : WRow H2 S LS RS := hSr1.keep fun o ho => g2 o (by have := fbR o (by simp [ho]); omega)
        obtain ⟨o1, y, S', hA, hrow, ho1, hol⟩ := hSr2.append (b := .view (fb + 2) 1 0 l.length 1 none) x32 rfl rfl hlS
        have hne1 : o1 ≠ w := by
          rcases ho1 with rfl | ho1
          · omega
          · intro e; exact D.wR (by rw [hRs, ← e]; simp [ho1])
        have hw2 : (H2.set o1 y)[w]? = some ⟨1, .var (tw k on a c S T O U)⟩ := by rw [List.getElem?_set_ne hne1, g2 w (by omega)]; exact hw1
        obtain ⟨w1, w2, w3, w4, w5, w6⟩ := hrow.shape
        have wr : ∀ v ver off len s cap, wrapV [V.view v ver off len s cap] = V.view v ver off len s cap := fun _ _ _ _ _ _ => rfl
        have F := fin H2 (.view (fb + 2) 1 0 l.length 1 none) [fb + 2] (by rw [hH2]; simp) g2 (.inr ⟨fb + 2, 1, hl0, rfl, by rw [hH2, List.getElem?_set_self hx2l]⟩) rfl (fun o ho => List.mem_singleton.1 ho) (by simp) y S' o1 hrow ho1
        simp +contextual -implicitDefEqProofs (maxSteps := 10000000) only [sx_seq, sxL_succ, lpQ_norm, lpQ_exit, lpQ_ret, loopQ_norm, loopQ_exit, loopQ_ret, sqQ_norm, sqQ_ret, sqQ_exit, sx_block, blkQ_norm, blkQ_exit, blkQ_ret, sx_cond, cdP_true, cdP_false, cdP_bool, sx_region, sx_draw, plainD, List.all_cons, List.all_nil, List.isEmpty_nil, List.isEmpty_cons, sxo_nil, sxo_cons, sxo_guard, gdS_bool, gdS_eff, gdS_tup, gdS_sel, gdS_seleff, sxK_def, wcall_some, effP_ret, effP_set, effP_none, effP_ite, wop_call, wop_cv, cvP_func, sx_ret, sx_exit, sx_skip, sx_clr, sx_fresh, stays, ↓selV_wt, ↓selV_wf, ↓impB_wt, ↓impB_wf, ↓selV_nor, ↓impB_nor, ↓selV_nt, ↓selV_nf, ↓impB_nt, ↓impB_nf, wantB_true, wantB_false, ↓selV_true, ↓selV_false, ↓selV_and, ↓impB_true, ↓impB_false, ↓impB_and, impB_triv, valOf_some, retH_some, ↓prim_pick, pickO_true, pickO_false, pickO_and, pickO_or, pickO_andr, pickO_orr, pickO_orrn, pickO_orn, pickO_bb, pickAnd_bool, pickOr_bool, ↓selV_nn, ↓impB_nn, Bool.and_assoc, Bool.or_assoc, doOp, ev_fr, ev_cst, put_none, put_fr, get, ins, del, dels, Nat.reduceLT, Nat.reduceEqDiff, ↓reduceIte, reduceCtorEq, ne_eq, not_false_eq_true, implies_true, framed_pureF, framed_fb, framed_N, framed_pure, wop_prim, prim, YLD, mkA, V.cells, List.getElem?_cons_zero, List.getElem?_cons_succ, List.set_cons_zero, List.set_cons_succ, Nat.zero_add, Nat.add_zero, Nat.reduceAdd, Nat.reduceSub, Nat.reduceMul, Nat.reduceLeDiff, Nat.not_lt_zero, List.map_cons, List.map_nil, List.cons_append, List.nil_append, loadA, cellsAt, nAg, packA, opt_bind_some, opt_map_some, opt_bind_none, opt_map_none, List.drop, List.take, List.head?, List.length_cons, List.length_nil, binA, unA, eqCells, eqCell, negB, fillA, sr_nil, sr_cons, sr_succ, sr_all, sr_len, storeA, Ob.with, indexedI, V.oneCell, intOf?, retQ_ret, retQ_norm, resA, resA1, fr_getD, packR, sealDepth, shut_bool, shut_int, Option.some.injEq, V.bool.injEq, V.int.injEq, Bool.not_true, Bool.not_false, true_and, and_true, and_self, Bool.and_true, Bool.and_false, Bool.true_and, Bool.false_and, Bool.or_true, Bool.or_false, Bool.true_or, Bool.false_or, Bool.false_eq_true, Int.reduceLT, Int.reduceLE, Int.reduceToNat, Int.reduceNeg, shut_plain, freeL_cons, freeL_nil, free_int, free_bool, free_agg, free_str, free_nils, free_tup, free_sl, true_implies, false_implies, Nat.sub_zero, Int.natCast_nonneg, Int.toNat_natCast, Nat.le_refl, not_true_eq_false, Int.reduceAdd, Int.reduceSub, Int.reduceMul, wrap64, false_and, and_false, cond_true, cond_false, Bool.cond_true_left, Bool.cond_false_right, Int.reduceBNe, Int.reduceBEq, decide_true, decide_false, Int.cast_ofNat_Int, Nat.mul_one, eq_self, Bool.true_eq_false, Bool.not_eq_true, Bool.not_eq_false, deads, List.replicate, argsF, l4C, sx_drawd, reachC_nil, wpd_nil, wpd_cons, wdK_def, fpOf, fpV, fpCall, Fp.ok, disj, List.contains_cons, List.contains_nil, Nat.reduceBEq, List.all_append, V.objsL, V.objs,  List.getD_cons_zero, List.getD_cons_succ, List.append_nil, hm, g, pm10, hw, q7, qn, qs, qS, hk2, hle, hle3, isNil, c10, hw1, hm1, hA2, hH2', hA, r1, wr, hw2, w1, w2, u1, u2, hfpb, hwne, hwne', -List.drop, -List.take]
        exact F

end Go.Am.T


set_option linter.unusedVariables false
set_option linter.unusedSimpArgs false
set_option maxRecDepth 10000
namespace Go.Am.T
attribute [local congr] selV_congr impB_congr

theorem DRow.at_ {p : Nat} {H : Heap} {sl : V} {C : List (List V)} (h : DRow p H sl C) (hC : Cells6 C) {i : Nat} {c : List V} (hi : C[i]? = some c) :
    ∃ o ver off cs, iaddrSA 6 sl (.int .i64 i) = some (.ret (.ptr o ver off)) ∧ H[o]? = some ⟨ver, .arr cs⟩ ∧ off + 6 ≤ cs.length ∧ List.take 6 (List.drop off cs) = c ∧ p ≤ o := by
  have hlt := (List.getElem?_eq_some_iff.1 hi).1
  rcases h with ⟨rfl, rfl⟩ | ⟨hL, o, ver, hp, rfl, ho⟩
  · simp at hi
  · refine ⟨o, ver, 0 + i * 6, C.flatten, ?_, ho, ?_, ?_, hp⟩
    · simp [iaddrSA, indexedI, hlt]
    · have := flat6 hC; omega
    · have := flat_at (s := 6) (rest := []) (fun c hc => (hC c hc).1) hi
      simpa using this

/-- A datagram of the near end comes to the far one. -/
theorem come_far {N n : Nat} (hn : 4 ≤ n) {H : Heap} {w k : Nat} (hk : k < 2) {on : V} {a c : Nat} {S T O U : V} (hw : H[w]? = some ⟨1, .var (tw k on a c S T O U)⟩) {s : Ses} {W : V} {L : List V} {R : List Nat} (hc : SAt H c s L W R) (hok : s.Ok L.length)
    {Lo : List V} {Ro : List Nat} (hO : WRow H U Lo Ro) (hLo : Lo.length ≤ 1000) (sep : Sep w c R Ro) (d : Dg) {lb : List Int} {b : V} (hb : By lb b) (hd : d.to = 1 - (k : Int)) :
    ∃ v' h', callA am N n 13 [.ptr w 1 0, .agg (d.cs b)] H = some (v', h') ∧ ∃ U' Lo' Ro', h'[w]? = some ⟨1, .var (tw k on a c S T O U')⟩ ∧ ComeTo H h' w c s L Lo Lo' R Ro Ro' U' d lb := by
  rcases two_cases hk with rfl | rfl
  · exact come1_spec hn (a := a) (S0 := S) (O0 := O) (on := on) (S1 := T) hw hc hok hO hLo sep d hb (by simpa using hd)
  · exact come0_spec hn (c := a) (S1 := S) (O1 := O) (on := on) (S0 := T) hw hc hok hO hLo sep d hb (by simpa using hd)

theorem nodup_come {c m : Nat} {R RS E RO RO' : List Nat} (h : (c :: (R ++ (RS ++ (E ++ RO)))).Nodup) (hlt : ∀ o ∈ c :: (R ++ (RS ++ (E ++ RO))), o < m) (hn : ∀ o ∈ RO', o ∈ RO ∨ m ≤ o) (nd : RO'.Nodup) : (c :: (R ++ (RS ++ (E ++ RO')))).Nodup := by
  simp only [List.nodup_cons, List.nodup_append, List.mem_append, List.mem_cons] at *
  grind

theorem sep_of {w c : Nat} {R RS E RO : List Nat} (dw : w ∉ c :: (R ++ (RS ++ (E ++ RO)))) (h : (c :: (R ++ (RS ++ (E ++ RO)))).Nodup) : Sep w c R RO := by
  simp only [List.nodup_cons, List.nodup_append, List.mem_append, List.mem_cons] at dw h
  refine ⟨?_, ?_, ?_, ?_, ?_⟩ <;> grind

theorem mem_new {c m : Nat} {R RS E RO RO' : List Nat} (hn : ∀ o ∈ RO', o ∈ RO ∨ m ≤ o) : ∀ o ∈ c :: (R ++ (RS ++ (E ++ RO'))), o ∈ c :: (R ++ (RS ++ (E ++ RO))) ∨ m ≤ o := by
  intro o ho
  simp only [List.mem_append, List.mem_cons] at ho ⊢
  grind

theorem mem_mid {c w m : Nat} {R RS E RO : List Nat} (dw : w ∉ c :: (R ++ (RS ++ (E ++ RO)))) (h : (c :: (R ++ (RS ++ (E ++ RO)))).Nodup) (hlt : ∀ o ∈ c :: (R ++ (RS ++ (E ++ RO))), o < m) : ∀ o, o ∈ RS ++ E → o < m ∧ o ≠ w ∧ o ≠ c ∧ o ∉ R ∧ o ∉ RO := by
  intro o ho
  have := hlt o
  simp only [List.nodup_cons, List.nodup_append, List.mem_append, List.mem_cons] at dw h ho this
  grind

theorem WRow.nodup {H : Heap} {W : V} {L : List V} {R : List Nat} (h : WRow H W L R) : R.Nodup := by
  rcases h with ⟨-, -, rfl⟩ | ⟨o, ver, x, rfl, -⟩ <;> simp

/-- One datagram of the near end comes to the far one: both ends behind it. -/
theorem duo_come {N n : Nat} (hn : 4 ≤ n) {H : Heap} {w k : Nat} (hk : k < 2) {on : V} {a c : Nat} {sa sc : Ses} {sent sent' out out' : List (List Int)} {S T O U : V} {R R' : List Nat} (D : Duo H w k on a c sa sc sent sent' out out' S T O U R R')
    {seq : Int} {l : List Int} {b : V} (hb : By l b) (hl : l.length ≤ 256) (hq : seq = 0 ∧ l = [] ∨ 1 ≤ seq ∧ seq ≤ sent.length ∧ sent[(seq - 1).toNat]? = some l) :
    ∃ v' h', callA am N n 13 [.ptr w 1 0, .agg ((⟨sa.me, sa.other, sa.view, seq, sa.got⟩ : Dg).cs b)] H = some (v', h') ∧ H.length ≤ h'.length ∧ (∀ o, o < H.length → o ≠ w → o ∉ R' → h'[o]? = H[o]?) ∧
      ∃ sc1 out1 U1 R1, Duo h' w k on a c sa sc1 sent sent' out out1 S T O U1 R R1 ∧ (∀ o ∈ R1, o ∈ R' ∨ H.length ≤ o) ∧ out'.length ≤ out1.length := by
  obtain ⟨L, W, Rc, LS, RS, LO, RO, hS, hB, hSr, hEl, hO, hBo, hE, hRs, hnd⟩ := D.far.all
  obtain ⟨L0, W0, Rc0, LS0, RS0, LO0, RO0, hS0, hB0, hSr0, hEl0, hO0, hBo0, hE0, hRs0, hnd0⟩ := D.near.all
  have hol : out'.length ≤ 80 := by
    obtain ⟨r, hr⟩ := D.pre'
    have := hE0.most
    rw [hr] at this
    simp at this
    omega
  have hok : sc.Ok L.length := hE.ok hol
  have hLol : LO.length ≤ 1000 := by have := hBo.1; omega
  have sep : Sep w c Rc RO := sep_of (by rw [← hRs]; exact D.wR') (by rw [← hRs]; exact hnd)
  obtain ⟨v', h', hcall, U', Lo', Ro', hw', hct⟩ := come_far hn hk D.ob hS hok hO hLol sep ⟨sa.me, sa.other, sa.view, seq, sa.got⟩ hb (by show sa.other = _; exact D.other)
  obtain ⟨out1, e1, e2, e3, e4, e5⟩ := hE0.come hE (D.view) (by rw [D.me, D.other']) (by rw [D.other, D.me']) hl hq D.pre'
  obtain ⟨W', hses⟩ := hct.ses
  obtain ⟨m1, m2, m3, m4⟩ := comeS_same sc L.length ⟨sa.me, sa.other, sa.view, seq, sa.got⟩ l.length
  have oth := hct.oth
  have rlt := D.far.lt
  have rlt0 := D.near.lt
  have rnd := hct.row.nodup
  have hnd' : (c :: (Rc ++ (RS ++ (V.objsL LS ++ Ro')))).Nodup := nodup_come (by rw [← hRs]; exact hnd) (by rw [← hRs]; exact rlt) hct.new rnd
  have hwl := lt_of_get D.ob
  have keepR : ∀ o, o < H.length → o ≠ w → o ∉ R' → h'[o]? = H[o]? := fun o h1 h2 h3 => by
    rw [hRs] at h3
    simp only [List.mem_append, List.mem_cons, not_or] at h3
    exact oth o h1 h2 h3.1 h3.2.1 h3.2.2.2.2
  have hnew : ∀ o ∈ c :: (Rc ++ (RS ++ (V.objsL LS ++ Ro'))), o ∈ R' ∨ H.length ≤ o := fun o ho => by
    rw [hRs]
    exact mem_new hct.new o ho
  refine ⟨v', h', hcall, hct.len, keepR, comeS sc L.length ⟨sa.me, sa.other, sa.view, seq, sa.got⟩ l.length, out1, U', c :: (Rc ++ (RS ++ (V.objsL LS ++ Ro'))), ?_, hnew, e3⟩
  have inR : ∀ o, o ∈ RS ++ V.objsL LS → o < H.length ∧ o ≠ w ∧ o ≠ c ∧ o ∉ Rc ∧ o ∉ RO := fun o ho => by
    exact mem_mid (by rw [← hRs]; exact D.wR') (by rw [← hRs]; exact hnd) (by rw [← hRs]; exact rlt) o ho
  have k2 : ∀ o ∈ RS ++ V.objsL LS, h'[o]? = H[o]? := fun o ho => by
    obtain ⟨a1, a2, a3, a4, a5⟩ := inR o ho
    exact oth o a1 a2 a3 a4 a5
  refine ⟨hw', ⟨L0, W0, Rc0, LS0, RS0, LO0, RO0, ?_, hB0, ?_, ?_, ?_, hBo0, hE0.grow e3 e4, hRs0, hnd0⟩, ⟨L.drop _, W', Rc, LS, RS, Lo', Ro', hses, wait_come hE.f0 hB, hSr.keep (fun o ho => k2 o (by simp [ho])), hEl.keep (fun o ho => k2 o (by simp [ho])), hct.row, ?_, by rw [List.length_drop]; exact e1, rfl, hnd'⟩, D.wR, ?_, ?_, D.me, D.other, m1.trans D.me', m2.trans D.other', D.view.trans m3.symm, D.pre, e2, D.told, by rw [m4]; exact D.told'⟩
  · have near : ∀ o ∈ R, h'[o]? = H[o]? := fun o ho => keepR o (rlt0 o ho) (fun e => D.wR (e ▸ ho)) (D.apart o ho)
    rw [hRs0] at near
    exact ⟨by rw [near a (by simp)]; exact hS0.ob, hS0.row.keep (fun o ho => near o (by simp [ho])), hS0.bods, hS0.apart⟩
  · exact hSr0.keep fun o ho => keepR o (rlt0 o (by rw [hRs0]; simp [ho])) (fun e => D.wR (by rw [hRs0, ← e]; simp [ho])) (D.apart o (by rw [hRs0]; simp [ho]))
  · exact hEl0.keep fun o ho => keepR o (rlt0 o (by rw [hRs0]; simp [ho])) (fun e => D.wR (by rw [hRs0, ← e]; simp [ho])) (D.apart o (by rw [hRs0]; simp [ho]))
  · exact hO0.keep fun o ho => keepR o (rlt0 o (by rw [hRs0]; simp [ho])) (fun e => D.wR (by rw [hRs0, ← e]; simp [ho])) (D.apart o (by rw [hRs0]; simp [ho]))
  · rw [e5]
    rcases hct.out with ⟨rfl, hf⟩ | ⟨b', hb', rfl, ht⟩
    · rw [hf]; exact hBo
    · rw [ht]; exact hBo.snoc hb' hl
  · intro h
    rcases hnew w h with h | h
    · exact D.wR' h
    · omega
  · intro o ho h
    rcases hnew o h with h | h
    · exact D.apart o ho h
    · have := rlt0 o ho; omega

end Go.Am.T

set_option linter.unusedVariables false
set_option linter.unusedSimpArgs false
set_option maxRecDepth 10000
namespace Go.Am.T
attribute [local congr] selV_congr impB_congr

/-- The near end tells: both ends behind it. -/
theorem duo_told {H h' : Heap} {w k : Nat} {on : V} {a c : Nat} {sa sc : Ses} {sent sent' out out' : List (List Int)} {S T O U : V} {R R' : List Nat} (D : Duo H w k on a c sa sc sent sent' out out' S T O U R R')
    {L : List V} {W : V} {Rc : List Nat} (hS0 : SAt H a sa L W Rc) (hS : SAt h' a (toldS sa L.length) L W Rc) (hbe : Beyond H h' a Rc Rc) (hin : ∃ LS RS LO RO, Bys (sent.drop (sa.first - 1).toNat) L ∧ WRow H S LS RS ∧ Els H sent LS ∧ WRow H O LO RO ∧ Bys out LO ∧ End sa L.length sent out out'.length ∧ R = a :: (Rc ++ (RS ++ (V.objsL LS ++ RO))) ∧ R.Nodup) :
    Duo h' w k on a c (toldS sa L.length) sc sent sent' out out' S T O U R R' := by
  obtain ⟨LS, RS, LO, RO, hB, hSr, hEl, hO, hBo, hE, hRs, hnd⟩ := hin
  have oth := hbe.oth
  have rlt := D.near.lt
  have rlt' := D.far.lt
  have sub : ∀ o, o = a ∨ o ∈ Rc → o ∈ R := fun o ho => by rw [hRs]; simp only [List.mem_cons, List.mem_append]; rcases ho with h | h <;> simp [h]
  have out_ : ∀ o, o < H.length → o ∉ R → h'[o]? = H[o]? := fun o h1 h2 => oth o h1 (fun e => h2 (sub o (.inl e))) (fun h => h2 (sub o (.inr h)))
  have mid : ∀ o, o ∈ RS ++ V.objsL LS → o < H.length ∧ o ≠ w ∧ o ≠ a ∧ o ∉ Rc ∧ o ∉ RO := mem_mid (by rw [← hRs]; exact D.wR) (by rw [← hRs]; exact hnd) (by rw [← hRs]; exact rlt)
  have hsep : Sep w a Rc RO := sep_of (by rw [← hRs]; exact D.wR) (by rw [← hRs]; exact hnd)
  have k2 : ∀ o ∈ RS ++ V.objsL LS, h'[o]? = H[o]? := fun o ho => by
    obtain ⟨a1, a2, a3, a4, a5⟩ := mid o ho
    exact oth o a1 a3 a4
  have hwl := lt_of_get D.ob
  have hfs : sa.first + (L.length : Int) - 1 = sent.length := by have := hE.sum; omega
  refine ⟨by rw [out_ w hwl D.wR]; exact D.ob, ⟨L, W, Rc, LS, RS, LO, RO, hS, hB, hSr.keep (fun o ho => k2 o (by simp [ho])), hEl.keep (fun o ho => k2 o (by simp [ho])), hO.keep (fun o ho => ?_), hBo, hE.told, hRs, hnd⟩, D.far.keep (fun o ho => out_ o (rlt' o ho) (fun h => D.apart o h ho)), D.wR, D.wR', D.apart, D.me, D.other, D.me', D.other', D.view, D.pre, D.pre', ?_, D.told'⟩
  · have : o < H.length := rlt o (by rw [hRs]; simp [ho])
    exact oth o this (fun e => hsep.aO (e ▸ ho)) (hsep.RO o ho)
  · have := hE.most
    show 0 ≤ sa.first + (L.length : Int) - 1 ∧ sa.first + (L.length : Int) - 1 ≤ 2000
    omega

set_option maxHeartbeats 4000000 in
theorem l4D_wp {N n : Nat} (hN : 1500 ≤ N) (hn : 5 ≤ n) {H : Heap} {w k : Nat} {on : V} {a c : Nat} {sa sc : Ses} {sent sent' out out' : List (List Int)} {S T O U : V} {R R' : List Nat} (D : Duo H w k on a c sa sc sent sent' out out' S T O U R R') (hk : k < 2)
    (kind who nn : Int) {b : V} {fb : Nat} (hm : H[fb + 1]? = some ⟨1, .var (mvC kind who nn b)⟩) (hmo : fb + 1 ≠ w ∧ fb + 1 ∉ R ∧ fb + 1 ∉ R') (L0 : V) (i : Int) :
    wp ⟨pureOf am, callA am N n, N, fb⟩ l4D (slots L0 w i (fb + 1) k) H fun e t' H' => e = .norm ∧ t' = fr 255 [(1, L0), (9, .ptr w 1 0), (10, .int .i64 i), (12, .int .i64 k)] ∧ H.length ≤ H'.length ∧
      ∃ sa1 sc1 out1 U1 R1, Duo H' w k on a c sa1 sc1 sent sent' out out1 S T O U1 R R1 := by
  have hk2 : (k : Int) < 2 := by omega
  have hle : k + 1 ≤ 7 := by omega
  have q7 := fun S => @tw_len k on a c S T O U
  have qn := fun S => @tw_near k on a c S T O U hk
  have hw := D.ob
  unfold slots mvC at *
  refine sx_wp ?_
  cases g : ((kind == 2) || (kind == 3)) with
  | false =>
    simp +contextual -implicitDefEqProofs (maxSteps := 10000000) only [sx_seq, sxL_succ, lpQ_norm, lpQ_exit, lpQ_ret, loopQ_norm, loopQ_exit, loopQ_ret, sqQ_norm, sqQ_ret, sqQ_exit, sx_block, blkQ_norm, blkQ_exit, blkQ_ret, sx_cond, cdP_true, cdP_false, cdP_bool, sx_region, sx_draw, plainD, List.all_cons, List.all_nil, List.isEmpty_nil, List.isEmpty_cons, sxo_nil, sxo_cons, sxo_guard, gdS_bool, gdS_eff, gdS_tup, gdS_sel, gdS_seleff, sxK_def, wcall_some, effP_ret, effP_set, effP_none, effP_ite, wop_call, wop_cv, cvP_func, sx_ret, sx_exit, sx_skip, sx_clr, sx_fresh, stays, ↓selV_wt, ↓selV_wf, ↓impB_wt, ↓impB_wf, ↓selV_nor, ↓impB_nor, ↓selV_nt, ↓selV_nf, ↓impB_nt, ↓impB_nf, wantB_true, wantB_false, ↓selV_true, ↓selV_false, ↓selV_and, ↓impB_true, ↓impB_false, ↓impB_and, impB_triv, valOf_some, retH_some, ↓prim_pick, pickO_true, pickO_false, pickO_and, pickO_or, pickO_andr, pickO_orr, pickO_orrn, pickO_orn, pickO_bb, pickAnd_bool, pickOr_bool, ↓selV_nn, ↓impB_nn, Bool.and_assoc, Bool.or_assoc, doOp, ev_fr, ev_cst, put_none, put_fr, get, ins, del, dels, Nat.reduceLT, Nat.reduceEqDiff, ↓reduceIte, reduceCtorEq, ne_eq, not_false_eq_true, implies_true, framed_pureF, framed_fb, framed_N, framed_pure, wop_prim, prim, YLD, mkA, V.cells, List.getElem?_cons_zero, List.getElem?_cons_succ, List.set_cons_zero, List.set_cons_succ, Nat.zero_add, Nat.add_zero, Nat.reduceAdd, Nat.reduceSub, Nat.reduceMul, Nat.reduceLeDiff, Nat.not_lt_zero, List.map_cons, List.map_nil, List.cons_append, List.nil_append, loadA, cellsAt, nAg, packA, opt_bind_some, opt_map_some, opt_bind_none, opt_map_none, List.drop, List.take, List.head?, List.length_cons, List.length_nil, binA, unA, eqCells, eqCell, negB, fillA, sr_nil, sr_cons, sr_succ, sr_all, sr_len, storeA, Ob.with, indexedI, V.oneCell, intOf?, retQ_ret, retQ_norm, resA, resA1, fr_getD, packR, sealDepth, shut_bool, shut_int, Option.some.injEq, V.bool.injEq, V.int.injEq, Bool.not_true, Bool.not_false, true_and, and_true, and_self, Bool.and_true, Bool.and_false, Bool.true_and, Bool.false_and, Bool.or_true, Bool.or_false, Bool.true_or, Bool.false_or, Bool.false_eq_true, Int.reduceLT, Int.reduceLE, Int.reduceToNat, Int.reduceNeg, shut_plain, freeL_cons, freeL_nil, free_int, free_bool, free_agg, free_str, free_nils, free_tup, free_sl, true_implies, false_implies, Nat.sub_zero, Int.natCast_nonneg, Int.toNat_natCast, Nat.le_refl, not_true_eq_false, Int.reduceAdd, Int.reduceSub, Int.reduceMul, wrap64, false_and, and_false, cond_true, cond_false, Bool.cond_true_left, Bool.cond_false_right, Int.reduceBNe, Int.reduceBEq, decide_true, decide_false, Int.cast_ofNat_Int, Nat.mul_one, eq_self, Bool.true_eq_false, Bool.not_eq_true, Bool.not_eq_false, deads, List.replicate, argsF, l4D, hm, g]
    exact ⟨sa, sc, out', U, R', D⟩
  | true =>
    obtain ⟨L, W, Rw, LS, RS, LO, RO, hS, hB, hSr, hEl, hO, hBo, hE, hRs, hnd⟩ := D.near.all
    have f0 := hE.f0
    have hsum := hE.sum
    have hmost := hE.most
    have hLl : L.length ≤ 1000 := by omega
    have told0 := D.told
    obtain ⟨v1, H1, c11, hS1, hbe, C, hC, hT⟩ := @fresh_spec N n hN (by omega) _ _ _ _ _ _ hS f0 (by omega) hLl told0.1 told0.2
    have D1 := duo_told D hS hS1 hbe ⟨LS, RS, LO, RO, hB, hSr, hEl, hO, hBo, hE, hRs, hnd⟩
    have hC6 := hT.six
    have hCl := hT.len
    obtain ⟨hlen, hns, hcells⟩ := hC.len
    have hml := lt_of_get hm
    have hle1 := hbe.len
    have hm1 : H1[fb + 1]? = some ⟨1, .var [.int .i64 kind, .int .i64 who, .int .i64 nn, b]⟩ := by
      rw [hbe.oth _ hml (fun e => hmo.2.1 (by rw [hRs, e]; simp)) (fun h => hmo.2.1 (by rw [hRs]; simp [h]))]; exact hm
    simp +contextual -implicitDefEqProofs (maxSteps := 10000000) only [sx_seq, sxL_succ, lpQ_norm, lpQ_exit, lpQ_ret, loopQ_norm, loopQ_exit, loopQ_ret, sqQ_norm, sqQ_ret, sqQ_exit, sx_block, blkQ_norm, blkQ_exit, blkQ_ret, sx_cond, cdP_true, cdP_false, cdP_bool, sx_region, sx_draw, plainD, List.all_cons, List.all_nil, List.isEmpty_nil, List.isEmpty_cons, sxo_nil, sxo_cons, sxo_guard, gdS_bool, gdS_eff, gdS_tup, gdS_sel, gdS_seleff, sxK_def, wcall_some, effP_ret, effP_set, effP_none, effP_ite, wop_call, wop_cv, cvP_func, sx_ret, sx_exit, sx_skip, sx_clr, sx_fresh, stays, ↓selV_wt, ↓selV_wf, ↓impB_wt, ↓impB_wf, ↓selV_nor, ↓impB_nor, ↓selV_nt, ↓selV_nf, ↓impB_nt, ↓impB_nf, wantB_true, wantB_false, ↓selV_true, ↓selV_false, ↓selV_and, ↓impB_true, ↓impB_false, ↓impB_and, impB_triv, valOf_some, retH_some, ↓prim_pick, pickO_true, pickO_false, pickO_and, pickO_or, pickO_andr, pickO_orr, pickO_orrn, pickO_orn, pickO_bb, pickAnd_bool, pickOr_bool, ↓selV_nn, ↓impB_nn, Bool.and_assoc, Bool.or_assoc, doOp, ev_fr, ev_cst, put_none, put_fr, get, ins, del, dels, Nat.reduceLT, Nat.reduceEqDiff, ↓reduceIte, reduceCtorEq, ne_eq, not_false_eq_true, implies_true, framed_pureF, framed_fb, framed_N, framed_pure, wop_prim, prim, YLD, mkA, V.cells, List.getElem?_cons_zero, List.getElem?_cons_succ, List.set_cons_zero, List.set_cons_succ, Nat.zero_add, Nat.add_zero, Nat.reduceAdd, Nat.reduceSub, Nat.reduceMul, Nat.reduceLeDiff, Nat.not_lt_zero, List.map_cons, List.map_nil, List.cons_append, List.nil_append, loadA, cellsAt, nAg, packA, opt_bind_some, opt_map_some, opt_bind_none, opt_map_none, List.drop, List.take, List.head?, List.length_cons, List.length_nil, binA, unA, eqCells, eqCell, negB, fillA, sr_nil, sr_cons, sr_succ, sr_all, sr_len, storeA, Ob.with, indexedI, V.oneCell, intOf?, retQ_ret, retQ_norm, resA, resA1, fr_getD, packR, sealDepth, shut_bool, shut_int, Option.some.injEq, V.bool.injEq, V.int.injEq, Bool.not_true, Bool.not_false, true_and, and_true, and_self, Bool.and_true, Bool.and_false, Bool.true_and, Bool.false_and, Bool.or_true, Bool.or_false, Bool.true_or, Bool.false_or, Bool.false_eq_true, Int.reduceLT, Int.reduceLE, Int.reduceToNat, Int.reduceNeg, shut_plain, freeL_cons, freeL_nil, free_int, free_bool, free_agg, free_str, free_nils, free_tup, free_sl, true_implies, false_implies, Nat.sub_zero, Int.natCast_nonneg, Int.toNat_natCast, Nat.le_refl, not_true_eq_false, Int.reduceAdd, Int.reduceSub, Int.reduceMul, wrap64, false_and, and_false, cond_true, cond_false, Bool.cond_true_left, Bool.cond_false_right, Int.reduceBNe, Int.reduceBEq, decide_true, decide_false, Int.cast_ofNat_Int, Nat.mul_one, eq_self, Bool.true_eq_false, Bool.not_eq_true, Bool.not_eq_false, deads, List.replicate, argsF, l4D, hm, g, hw, q7, qn, hk2, hle, isNil, c11]
    refine sx_loop (fun j t Hc => t = fr 255 [(1, L0), (9, .ptr w 1 0), (10, .int .i64 i), (11, .ptr (fb + 1) 1 0), (12, .int .i64 k), (13, v1), (14, .int .i64 j)] ∧ j ≤ C.length ∧ H1.length ≤ Hc.length ∧ Hc[fb + 1]? = some ⟨1, .var [.int .i64 kind, .int .i64 who, .int .i64 nn, b]⟩ ∧ DRow H.length Hc v1 C ∧
        ∃ sc1 out1 U1 R1, Duo Hc w k on a c (toldS sa L.length) sc1 sent sent' out out1 S T O U1 R R1 ∧ ∀ o ∈ R1, o ∈ R' ∨ H1.length ≤ o) C.length (by show C.length < N; omega)
      ⟨rfl, Nat.zero_le _, Nat.le_refl _, hm1, hC, sc, out', U, R', D1, fun o ho => .inl ho⟩ ?_
    rintro j t Hc hj ⟨rfl, hjC, hHc, hmc, hCc, sc1, out1, U1, R1, Dc, hR1⟩
    by_cases hlt : j < C.length
    · have g1 : decide ((j : Int) < (C.length : Int)) = true := decide_eq_true (by omega)
      have w4 : IntKind.i64.wrap ((j : Int) + 1) = ((j + 1 : Nat) : Int) := (wrap64 (by omega) (by omega)).trans (by omega)
      have hj1 : j + 1 ≤ C.length := by omega
      have n30 : ((3 : Int) = 0) = False := by decide
      obtain ⟨cc, hcc⟩ : ∃ cc, C[j]? = some cc := ⟨_, List.getElem?_eq_getElem hlt⟩
      obtain ⟨seq, b1, l, rfl, hb1, hl, hq⟩ := told_each hT hB f0 hsum hcc
      cases gg : (decide (nn < 0) || ((j : Int).tmod 3 != nn.tmod 3)) with
      | false =>
        simp +contextual -implicitDefEqProofs (maxSteps := 10000000) only [sx_seq, sxL_succ, lpQ_norm, lpQ_exit, lpQ_ret, loopQ_norm, loopQ_exit, loopQ_ret, sqQ_norm, sqQ_ret, sqQ_exit, sx_block, blkQ_norm, blkQ_exit, blkQ_ret, sx_cond, cdP_true, cdP_false, cdP_bool, sx_region, sx_draw, plainD, List.all_cons, List.all_nil, List.isEmpty_nil, List.isEmpty_cons, sxo_nil, sxo_cons, sxo_guard, gdS_bool, gdS_eff, gdS_tup, gdS_sel, gdS_seleff, sxK_def, wcall_some, effP_ret, effP_set, effP_none, effP_ite, wop_call, wop_cv, cvP_func, sx_ret, sx_exit, sx_skip, sx_clr, sx_fresh, stays, ↓selV_wt, ↓selV_wf, ↓impB_wt, ↓impB_wf, ↓selV_nor, ↓impB_nor, ↓selV_nt, ↓selV_nf, ↓impB_nt, ↓impB_nf, wantB_true, wantB_false, ↓selV_true, ↓selV_false, ↓selV_and, ↓impB_true, ↓impB_false, ↓impB_and, impB_triv, valOf_some, retH_some, ↓prim_pick, pickO_true, pickO_false, pickO_and, pickO_or, pickO_andr, pickO_orr, pickO_orrn, pickO_orn, pickO_bb, pickAnd_bool, pickOr_bool, ↓selV_nn, ↓impB_nn, Bool.and_assoc, Bool.or_assoc, doOp, ev_fr, ev_cst, put_none, put_fr, get, ins, del, dels, Nat.reduceLT, Nat.reduceEqDiff, ↓reduceIte, reduceCtorEq, ne_eq, not_false_eq_true, implies_true, framed_pureF, framed_fb, framed_N, framed_pure, wop_prim, prim, YLD, mkA, V.cells, List.getElem?_cons_zero, List.getElem?_cons_succ, List.set_cons_zero, List.set_cons_succ, Nat.zero_add, Nat.add_zero, Nat.reduceAdd, Nat.reduceSub, Nat.reduceMul, Nat.reduceLeDiff, Nat.not_lt_zero, List.map_cons, List.map_nil, List.cons_append, List.nil_append, loadA, cellsAt, nAg, packA, opt_bind_some, opt_map_some, opt_bind_none, opt_map_none, List.drop, List.take, List.head?, List.length_cons, List.length_nil, binA, unA, eqCells, eqCell, negB, fillA, sr_nil, sr_cons, sr_succ, sr_all, sr_len, storeA, Ob.with, indexedI, V.oneCell, intOf?, retQ_ret, retQ_norm, resA, resA1, fr_getD, packR, sealDepth, shut_bool, shut_int, Option.some.injEq, V.bool.injEq, V.int.injEq, Bool.not_true, Bool.not_false, true_and, and_true, and_self, Bool.and_true, Bool.and_false, Bool.true_and, Bool.false_and, Bool.or_true, Bool.or_false, Bool.true_or, Bool.false_or, Bool.false_eq_true, Int.reduceLT, Int.reduceLE, Int.reduceToNat, Int.reduceNeg, shut_plain, freeL_cons, freeL_nil, free_int, free_bool, free_agg, free_str, free_nils, free_tup, free_sl, true_implies, false_implies, Nat.sub_zero, Int.natCast_nonneg, Int.toNat_natCast, Nat.le_refl, not_true_eq_false, Int.reduceAdd, Int.reduceSub, Int.reduceMul, wrap64, false_and, and_false, cond_true, cond_false, Bool.cond_true_left, Bool.cond_false_right, Int.reduceBNe, Int.reduceBEq, decide_true, decide_false, Int.cast_ofNat_Int, Nat.mul_one, eq_self, Bool.true_eq_false, Bool.not_eq_true, Bool.not_eq_false, deads, List.replicate, argsF, hlen, g1, hmc, n30, gg, w4, hj1, hlt, hHc]
        exact ⟨hCc, sc1, out1, U1, R1, Dc, hR1⟩
      | true =>
        obtain ⟨o, ver, off, cs, hia, hoc, hle6, hld, hpo⟩ := hCc.at_ hC6 hcc
        obtain ⟨v2, H2, c13, hle2, oth, sc2, out2, U2, R2, D2, hR2, -⟩ := @duo_come N n (by omega) _ _ _ hk _ _ _ _ _ _ _ _ _ _ _ _ _ _ _ Dc _ _ _ hb1 hl hq
        have c13 : callA am N n 13 [.ptr w 1 0, .agg (dgS sa seq b1)] Hc = some (v2, H2) := c13
        have hmcl := lt_of_get hmc
        have hm2 : H2[fb + 1]? = some ⟨1, .var [.int .i64 kind, .int .i64 who, .int .i64 nn, b]⟩ := by
          rw [oth _ hmcl hmo.1 (fun h => by rcases hR1 _ h with h | h; exact hmo.2.2 h; omega)]; exact hmc
        have hC2 : DRow H.length H2 v1 C := by
          rcases hC with ⟨e1, e2⟩ | ⟨e1, o', ver', p1, p2, p3⟩
          · exact .inl ⟨e1, e2⟩
          · rcases hCc with ⟨e3, -⟩ | ⟨-, o2, ver2, p4, p5, p6⟩
            · exact absurd e3 e1
            · rw [p2] at p5
              simp only [V.view.injEq] at p5
              obtain ⟨rfl, rfl, -⟩ := p5
              refine .inr ⟨e1, o', ver', p1, p2, ?_⟩
              rw [oth o' (lt_of_get p6) (fun e => by have := lt_of_get hw; omega) (fun h => by
                rcases hR1 _ h with h | h
                · have := D.far.lt o' h; omega
                · have := lt_of_get p3; omega)]
              exact p6
        have q6 : (dgS sa seq b1).length = 6 := rfl
        simp +contextual -implicitDefEqProofs (maxSteps := 10000000) only [sx_seq, sxL_succ, lpQ_norm, lpQ_exit, lpQ_ret, loopQ_norm, loopQ_exit, loopQ_ret, sqQ_norm, sqQ_ret, sqQ_exit, sx_block, blkQ_norm, blkQ_exit, blkQ_ret, sx_cond, cdP_true, cdP_false, cdP_bool, sx_region, sx_draw, plainD, List.all_cons, List.all_nil, List.isEmpty_nil, List.isEmpty_cons, sxo_nil, sxo_cons, sxo_guard, gdS_bool, gdS_eff, gdS_tup, gdS_sel, gdS_seleff, sxK_def, wcall_some, effP_ret, effP_set, effP_none, effP_ite, wop_call, wop_cv, cvP_func, sx_ret, sx_exit, sx_skip, sx_clr, sx_fresh, stays, ↓selV_wt, ↓selV_wf, ↓impB_wt, ↓impB_wf, ↓selV_nor, ↓impB_nor, ↓selV_nt, ↓selV_nf, ↓impB_nt, ↓impB_nf, wantB_true, wantB_false, ↓selV_true, ↓selV_false, ↓selV_and, ↓impB_true, ↓impB_false, ↓impB_and, impB_triv, valOf_some, retH_some, ↓prim_pick, pickO_true, pickO_false, pickO_and, pickO_or, pickO_andr, pickO_orr, pickO_orrn, pickO_orn, pickO_bb, pickAnd_bool, pickOr_bool, ↓selV_nn, ↓impB_nn, Bool.and_assoc, Bool.or_assoc, doOp, ev_fr, ev_cst, put_none, put_fr, get, ins, del, dels, Nat.reduceLT, Nat.reduceEqDiff, ↓reduceIte, reduceCtorEq, ne_eq, not_false_eq_true, implies_true, framed_pureF, framed_fb, framed_N, framed_pure, wop_prim, prim, YLD, mkA, V.cells, List.getElem?_cons_zero, List.getElem?_cons_succ, List.set_cons_zero, List.set_cons_succ, Nat.zero_add, Nat.add_zero, Nat.reduceAdd, Nat.reduceSub, Nat.reduceMul, Nat.reduceLeDiff, Nat.not_lt_zero, List.map_cons, List.map_nil, List.cons_append, List.nil_append, loadA, cellsAt, nAg, packA, opt_bind_some, opt_map_some, opt_bind_none, opt_map_none, List.drop, List.take, List.head?, List.length_cons, List.length_nil, binA, unA, eqCells, eqCell, negB, fillA, sr_nil, sr_cons, sr_succ, sr_all, sr_len, storeA, Ob.with, indexedI, V.oneCell, intOf?, retQ_ret, retQ_norm, resA, resA1, fr_getD, packR, sealDepth, shut_bool, shut_int, Option.some.injEq, V.bool.injEq, V.int.injEq, Bool.not_true, Bool.not_false, true_and, and_true, and_self, Bool.and_true, Bool.and_false, Bool.true_and, Bool.false_and, Bool.or_true, Bool.or_false, Bool.true_or, Bool.false_or, Bool.false_eq_true, Int.reduceLT, Int.reduceLE, Int.reduceToNat, Int.reduceNeg, shut_plain, freeL_cons, freeL_nil, free_int, free_bool, free_agg, free_str, free_nils, free_tup, free_sl, true_implies, false_implies, Nat.sub_zero, Int.natCast_nonneg, Int.toNat_natCast, Nat.le_refl, not_true_eq_false, Int.reduceAdd, Int.reduceSub, Int.reduceMul, wrap64, false_and, and_false, cond_true, cond_false, Bool.cond_true_left, Bool.cond_false_right, Int.reduceBNe, Int.reduceBEq, decide_true, decide_false, Int.cast_ofNat_Int, Nat.mul_one, eq_self, Bool.true_eq_false, Bool.not_eq_true, Bool.not_eq_false, deads, List.replicate, argsF, hlen, g1, hmc, n30, gg, hia, hoc, hle6, hld, q6, c13, w4, hj1, hlt, -List.drop, -List.take]
        refine ⟨by omega, hm2, hC2, sc2, out2, U2, R2, D2, fun o ho => ?_⟩
        rcases hR2 o ho with h | h
        · exact hR1 o h
        · exact .inr (by omega)
    · have e : j = C.length := by omega
      subst e
      have g1 : decide ((C.length : Int) < (C.length : Int)) = false := decide_eq_false (by omega)
      simp +contextual -implicitDefEqProofs (maxSteps := 10000000) only [sx_seq, sxL_succ, lpQ_norm, lpQ_exit, lpQ_ret, loopQ_norm, loopQ_exit, loopQ_ret, sqQ_norm, sqQ_ret, sqQ_exit, sx_block, blkQ_norm, blkQ_exit, blkQ_ret, sx_cond, cdP_true, cdP_false, cdP_bool, sx_region, sx_draw, plainD, List.all_cons, List.all_nil, List.isEmpty_nil, List.isEmpty_cons, sxo_nil, sxo_cons, sxo_guard, gdS_bool, gdS_eff, gdS_tup, gdS_sel, gdS_seleff, sxK_def, wcall_some, effP_ret, effP_set, effP_none, effP_ite, wop_call, wop_cv, cvP_func, sx_ret, sx_exit, sx_skip, sx_clr, sx_fresh, stays, ↓selV_wt, ↓selV_wf, ↓impB_wt, ↓impB_wf, ↓selV_nor, ↓impB_nor, ↓selV_nt, ↓selV_nf, ↓impB_nt, ↓impB_nf, wantB_true, wantB_false, ↓selV_true, ↓selV_false, ↓selV_and, ↓impB_true, ↓impB_false, ↓impB_and, impB_triv, valOf_some, retH_some, ↓prim_pick, pickO_true, pickO_false, pickO_and, pickO_or, pickO_andr, pickO_orr, pickO_orrn, pickO_orn, pickO_bb, pickAnd_bool, pickOr_bool, ↓selV_nn, ↓impB_nn, Bool.and_assoc, Bool.or_assoc, doOp, ev_fr, ev_cst, put_none, put_fr, get, ins, del, dels, Nat.reduceLT, Nat.reduceEqDiff, ↓reduceIte, reduceCtorEq, ne_eq, not_false_eq_true, implies_true, framed_pureF, framed_fb, framed_N, framed_pure, wop_prim, prim, YLD, mkA, V.cells, List.getElem?_cons_zero, List.getElem?_cons_succ, List.set_cons_zero, List.set_cons_succ, Nat.zero_add, Nat.add_zero, Nat.reduceAdd, Nat.reduceSub, Nat.reduceMul, Nat.reduceLeDiff, Nat.not_lt_zero, List.map_cons, List.map_nil, List.cons_append, List.nil_append, loadA, cellsAt, nAg, packA, opt_bind_some, opt_map_some, opt_bind_none, opt_map_none, List.drop, List.take, List.head?, List.length_cons, List.length_nil, binA, unA, eqCells, eqCell, negB, fillA, sr_nil, sr_cons, sr_succ, sr_all, sr_len, storeA, Ob.with, indexedI, V.oneCell, intOf?, retQ_ret, retQ_norm, resA, resA1, fr_getD, packR, sealDepth, shut_bool, shut_int, Option.some.injEq, V.bool.injEq, V.int.injEq, Bool.not_true, Bool.not_false, true_and, and_true, and_self, Bool.and_true, Bool.and_false, Bool.true_and, Bool.false_and, Bool.or_true, Bool.or_false, Bool.true_or, Bool.false_or, Bool.false_eq_true, Int.reduceLT, Int.reduceLE, Int.reduceToNat, Int.reduceNeg, shut_plain, freeL_cons, freeL_nil, free_int, free_bool, free_agg, free_str, free_nils, free_tup, free_sl, true_implies, false_implies, Nat.sub_zero, Int.natCast_nonneg, Int.toNat_natCast, Nat.le_refl, not_true_eq_false, Int.reduceAdd, Int.reduceSub, Int.reduceMul, wrap64, false_and, and_false, cond_true, cond_false, Bool.cond_true_left, Bool.cond_false_right, Int.reduceBNe, Int.reduceBEq, decide_true, decide_false, Int.cast_ofNat_Int, Nat.mul_one, eq_self, Bool.true_eq_false, Bool.not_eq_true, Bool.not_eq_false, deads, List.replicate, argsF, hlen, g1]
      exact ⟨by omega, _, sc1, out1, U1, R1, Dc⟩

end Go.Am.T

set_option linter.unusedVariables false
set_option linter.unusedSimpArgs false
set_option maxRecDepth 10000
namespace Go.Am.T
attribute [local congr] selV_congr impB_congr

theorem El.str {H : Heap} {l : List Int} {e : V} (h : El H l e) (fb : Nat) (ρ : Opd → V) (x : Opd) (hx : ρ x = e) : prim fb ρ (fun o => H[o]?) (.b2s x) = some (.ret (.str (strB l))) := by
  rcases h with h | ⟨o, ver, hl, rfl, ho⟩
  · exact prim_b2s h fb ρ _ x hx
  · have hl1 : lenA (.view o ver 0 l.length 1 none) = some l.length := rfl
    have hf : firstA (fun o => H[o]?) 1 l.length (.view o ver 0 l.length 1 none) = some (l.map (V.int .u8)) := by
      simp only [firstA, ↓reduceIte, Nat.le_refl, loadA, cellsAt, ho, Nat.mul_one, Nat.zero_add, List.length_map, List.drop_zero]
      rw [List.take_of_length_le (by simp)]
    have key : ∀ m : List Int, (m.map (V.int .u8)).mapM (fun c => match c with | .int .u8 n => some (UInt8.ofNat n.toNat) | _ => none) = some (strB m) := by
      intro m
      induction m with
      | nil => rfl
      | cons y m ih => rw [List.map_cons, List.mapM_cons, ih]; rfl
    unfold prim
    simp only [hx]
    rw [hl1]
    simp only [Option.bind_some]
    rw [hf]
    simp only [Option.bind_some]
    exact (congrArg (Option.map fun l => Eff.ret (V.str l)) (key l)).trans rfl

theorem strB_ne {l : List Int} : (strB l == strB l) = true := by simp

set_option maxHeartbeats 4000000 in
theorem l4E_wp {N n : Nat} (hN : 1500 ≤ N) (hn : 5 ≤ n) {H : Heap} {w k : Nat} {on : V} {a c : Nat} {sa sc : Ses} {sent sent' out out' : List (List Int)} {S T O U : V} {R R' : List Nat} (D : Duo H w k on a c sa sc sent sent' out out' S T O U R R') (hk : k < 2) {fb : Nat} (L0 : V) (i : Int) :
    wp ⟨pureOf am, callA am N n, N, fb⟩ l4E (fr 255 [(1, L0), (9, .ptr w 1 0), (10, .int .i64 i), (12, .int .i64 k)]) H fun e t' H' => e = .norm ∧ t' = fr 255 [(1, L0), (9, .ptr w 1 0), (10, .int .i64 i)] ∧ H.length ≤ H'.length ∧
      Duo H' w k on a c sa sc sent sent' out out' S T O U R R' := by
  have hk2 : (k : Int) < 2 := by omega
  have hle : k + 1 ≤ 7 := by omega
  have hlf : 1 - k + 1 ≤ 7 := by omega
  have hle3 : 3 + k + 1 ≤ 7 := by omega
  have q7 := fun S => @tw_len k on a c S T O U
  have qn := fun S => @tw_near k on a c S T O U hk
  have qf := fun S => @tw_far k on a c S T O U hk
  have qs := fun S => @tw_sent k on a c S T O U hk
  have hw := D.ob
  obtain ⟨L, W, Rw, LS, RS, LO, RO, hS, hB, hSr, hEl, hO, hBo, hE, hRs, hnd⟩ := D.near.all
  obtain ⟨L', W', Rw', LS', RS', LO', RO', hS', hB', hSr', hEl', hO', hBo', hE', hRs', hnd'⟩ := D.far.all
  have f0 := hE.f0
  have hsum := hE.sum
  have hmost := hE.most
  have hack := hE.ack
  have hgot' := hE'.got
  have hLl : L.length ≤ 1000 := by omega
  have hLS : LS.length = sent.length := hEl.1
  have c15 := @waits_spec N n (by omega) _ _ _ _ _ _ hS
  have hlenS : lenA S = some sent.length := by rw [hSr.len, hLS]
  have w1 : IntKind.i64.wrap ((sent.length : Int) - L.length) = sa.first - 1 := (wrap64 (by omega) (by omega)).trans (by omega)
  obtain ⟨vc, H1, c16, rfl, ho1, hl1, L2, W2, R2, hB2, SC, hR2⟩ := @copy_spec N n hN (by omega) _ _ _ _ _ _ hS _ hB hLl
  have hL2 : L2.length = L.length := by rw [hB2.1, hB.1]
  have keep1 : ∀ o, o = w ∨ o ∈ R ∨ o ∈ R' → H1[o]? = H[o]? := fun o ho => ho1 o (D.lt o ho)
  have hw1 : H1[w]? = some ⟨1, .var (tw k on a c S T O U)⟩ := by rw [keep1 w (.inl rfl)]; exact hw
  obtain ⟨v2, H2, c12, S2, be2, C, hC, hT⟩ := @again_spec N n hN (by omega) _ _ _ _ _ _ SC f0 (by omega) (by omega)
  have keep2 : ∀ o, o = w ∨ o ∈ R ∨ o ∈ R' → H2[o]? = H[o]? := fun o ho => by
    have hlt := D.lt o ho
    rw [be2.oth o (by omega) (by omega) (fun h => by have := hR2 o h; omega)]
    exact keep1 o ho
  have D2 := D.keep keep2
  have hw2 := D2.ob
  have hS2 : SAt H2 a sa L W Rw := ⟨by rw [keep2 a (.inr (.inl (by rw [hRs]; simp)))]; exact hS.ob, hS.row.keep (fun o ho => keep2 o (.inr (.inl (by rw [hRs]; simp [ho])))), hS.bods, hS.apart⟩
  have hS2' : SAt H2 c sc L' W' Rw' := ⟨by rw [keep2 c (.inr (.inr (by rw [hRs']; simp)))]; exact hS'.ob, hS'.row.keep (fun o ho => keep2 o (.inr (.inr (by rw [hRs']; simp [ho])))), hS'.bods, hS'.apart⟩
  have hSr2 : WRow H2 S LS RS := hSr.keep (fun o ho => keep2 o (.inr (.inl (by rw [hRs]; simp [ho]))))
  have hEl2 : Els H2 sent LS := hEl.keep (fun o ho => keep2 o (.inr (.inl (by rw [hRs]; simp [ho]))))
  have c17 := @got_spec N n (by omega) _ _ _ _ _ _ hS2
  have c17' := @got_spec N n (by omega) _ _ _ _ _ _ hS2'
  have hC6 := hT.six
  obtain ⟨hlen, hns, hcells⟩ := hC.len
  have hf1 : decide (sa.first - 1 < 0) = false := decide_eq_false (by omega)
  have hf2 : decide (sa.first - 1 > sc.got) = false := decide_eq_false (by omega)
  have hfk : IntKind.i64.wrap (1 - (k : Int)) = ((1 - k : Nat) : Int) := (wrap64 (by omega) (by omega)).trans (by omega)
  have hfk2 : ((1 - k : Nat) : Int) < 2 := by omega
  have hgone : (decide ((L.length : Int) > 0) && ((C.length : Int) != L.length)) = false ∧ (((L.length : Int) == 0) && decide ((C.length : Int) > 1)) = false := by
    by_cases hL0 : L2 = []
    · have e0 : L.length = 0 := by rw [← hL2, hL0]; rfl
      subst hL0
      have := again_none hT
      rw [e0]
      refine ⟨by simp, ?_⟩
      simp only [Bool.and_eq_false_iff, decide_eq_false_iff_not]
      exact .inr (by omega)
    · have := (again_all hT hL0).1
      have hp : 0 < L.length := by rw [← hL2]; exact List.length_pos_iff.2 hL0
      refine ⟨by rw [this, hL2]; simp, ?_⟩
      have : ((L.length : Int) == 0) = false := by rw [beq_eq_false_iff_ne]; omega
      rw [this]; rfl
  obtain ⟨h1, h2⟩ := hgone
  obtain ⟨-, -, nS, -⟩ := hSr.shape
  refine sx_wp ?_
  simp +contextual -implicitDefEqProofs (maxSteps := 10000000) only [sx_seq, sxL_succ, lpQ_norm, lpQ_exit, lpQ_ret, loopQ_norm, loopQ_exit, loopQ_ret, sqQ_norm, sqQ_ret, sqQ_exit, sx_block, blkQ_norm, blkQ_exit, blkQ_ret, sx_cond, cdP_true, cdP_false, cdP_bool, sx_region, sx_draw, plainD, List.all_cons, List.all_nil, List.isEmpty_nil, List.isEmpty_cons, sxo_nil, sxo_cons, sxo_guard, gdS_bool, gdS_eff, gdS_tup, gdS_sel, gdS_seleff, sxK_def, wcall_some, effP_ret, effP_set, effP_none, effP_ite, wop_call, wop_cv, cvP_func, sx_ret, sx_exit, sx_skip, sx_clr, sx_fresh, stays, ↓selV_wt, ↓selV_wf, ↓impB_wt, ↓impB_wf, ↓selV_nor, ↓impB_nor, ↓selV_nt, ↓selV_nf, ↓impB_nt, ↓impB_nf, wantB_true, wantB_false, ↓selV_true, ↓selV_false, ↓selV_and, ↓impB_true, ↓impB_false, ↓impB_and, impB_triv, valOf_some, retH_some, ↓prim_pick, pickO_true, pickO_false, pickO_and, pickO_or, pickO_andr, pickO_orr, pickO_orrn, pickO_orn, pickO_bb, pickAnd_bool, pickOr_bool, ↓selV_nn, ↓impB_nn, Bool.and_assoc, Bool.or_assoc, doOp, ev_fr, ev_cst, put_none, put_fr, get, ins, del, dels, Nat.reduceLT, Nat.reduceEqDiff, ↓reduceIte, reduceCtorEq, ne_eq, not_false_eq_true, implies_true, framed_pureF, framed_fb, framed_N, framed_pure, wop_prim, prim, YLD, mkA, V.cells, List.getElem?_cons_zero, List.getElem?_cons_succ, List.set_cons_zero, List.set_cons_succ, Nat.zero_add, Nat.add_zero, Nat.reduceAdd, Nat.reduceSub, Nat.reduceMul, Nat.reduceLeDiff, Nat.not_lt_zero, List.map_cons, List.map_nil, List.cons_append, List.nil_append, loadA, cellsAt, nAg, packA, opt_bind_some, opt_map_some, opt_bind_none, opt_map_none, List.drop, List.take, List.head?, List.length_cons, List.length_nil, binA, unA, eqCells, eqCell, negB, fillA, sr_nil, sr_cons, sr_succ, sr_all, sr_len, storeA, Ob.with, indexedI, V.oneCell, intOf?, retQ_ret, retQ_norm, resA, resA1, fr_getD, packR, sealDepth, shut_bool, shut_int, Option.some.injEq, V.bool.injEq, V.int.injEq, Bool.not_true, Bool.not_false, true_and, and_true, and_self, Bool.and_true, Bool.and_false, Bool.true_and, Bool.false_and, Bool.or_true, Bool.or_false, Bool.true_or, Bool.false_or, Bool.false_eq_true, Int.reduceLT, Int.reduceLE, Int.reduceToNat, Int.reduceNeg, shut_plain, freeL_cons, freeL_nil, free_int, free_bool, free_agg, free_str, free_nils, free_tup, free_sl, true_implies, false_implies, Nat.sub_zero, Int.natCast_nonneg, Int.toNat_natCast, Nat.le_refl, not_true_eq_false, Int.reduceAdd, Int.reduceSub, Int.reduceMul, wrap64, false_and, and_false, cond_true, cond_false, Bool.cond_true_left, Bool.cond_false_right, Int.reduceBNe, Int.reduceBEq, decide_true, decide_false, Int.cast_ofNat_Int, Nat.mul_one, eq_self, Bool.true_eq_false, Bool.not_eq_true, Bool.not_eq_false, deads, List.replicate, argsF, l4E, hw, q7, qn, qs, hk2, hle, hle3, isNil, c15, hlenS, w1, c16, hw1, c12, hlen, h1, h2, hf1, hf2, hw2, hlf, qf, hfk, hfk2, c17', pm17]
  refine sx_loop (fun j t Hc => t = fr 255 [(1, L0), (9, .ptr w 1 0), (10, .int .i64 i), (12, .int .i64 k), (15, .int .i64 L.length), (16, .int .i64 (sa.first - 1)), (18, v2), (19, .int .i64 j)] ∧ j ≤ L.length ∧ Hc = H2) L.length (by show L.length < N; omega) ⟨rfl, Nat.zero_le _, rfl⟩ ?_
  rintro j t Hc hj ⟨rfl, hjL, rfl⟩
  by_cases hlt : j < L.length
  · have g1 : decide ((j : Int) < (L.length : Int)) = true := decide_eq_true (by omega)
    have w4 : IntKind.i64.wrap ((j : Int) + 1) = ((j + 1 : Nat) : Int) := (wrap64 (by omega) (by omega)).trans (by omega)
    have hj1 : j + 1 ≤ L.length := by omega
    have hL0 : L2 ≠ [] := fun e => by rw [e] at hL2; simp at hL2; omega
    obtain ⟨hCl, hat⟩ := again_all hT hL0
    obtain ⟨b1, c1, l1, hcj, hLj, hc1, hb1⟩ := hat (j := j) (by omega)
    obtain ⟨hl1s, hl1l⟩ := wait_at hB2 f0 hLj hc1
    have hidx : (sa.first + (j : Int) - 1).toNat < sent.length := (List.getElem?_eq_some_iff.1 hl1s).1
    obtain ⟨e, he⟩ : ∃ e, LS[(sa.first + (j : Int) - 1).toNat]? = some e := ⟨_, List.getElem?_eq_getElem (by omega)⟩
    have hel := hEl2.2 _ e l1 he hl1s
    obtain ⟨o, ver, off, cs, hia, hoc, hle6, hld, -⟩ := hC.at_ hC6 hcj
    obtain ⟨o3, ver3, off3, cs3, hia3, hoc3, hle1, hld3, -⟩ := hSr2.cell he
    have w5 : IntKind.i64.wrap (sa.first - 1 + (j : Int)) = (((sa.first + (j : Int) - 1).toNat : Nat) : Int) := (wrap64 (by omega) (by omega)).trans (by omega)
    have w6 : IntKind.i64.wrap ((((sa.first + (j : Int) - 1).toNat : Nat) : Int) + 1) = sa.first + (j : Int) := (wrap64 (by omega) (by omega)).trans (by omega)
    have s1 := fun (fb : Nat) (ρ : Opd → V) (x : Opd) (hx : ρ x = b1) => prim_b2s hb1 fb ρ (fun o => Hc[o]?) x hx
    have s2 := fun (fb : Nat) (ρ : Opd → V) (x : Opd) (hx : ρ x = e) => hel.str fb ρ x hx
    have part : ∀ (q : Nat) (x : V), (dgS sa (sa.first + (j : Int)) b1)[q]? = some x → List.take 1 (List.drop (off + q) cs) = [x] := by
      intro q x hq
      rw [← hld] at hq
      rw [List.getElem?_take] at hq
      split at hq
      · rename_i hq6
        rw [List.getElem?_drop] at hq
        have hlt' := (List.getElem?_eq_some_iff.1 hq).1
        rw [List.drop_eq_getElem_cons hlt', List.take_succ_cons, List.take_zero]
        have := (List.getElem?_eq_some_iff.1 hq).2
        rw [this]
      · cases hq
    have p3 : List.take 1 (List.drop (off + 3) cs) = [.int .i64 (sa.first + (j : Int))] := part 3 _ rfl
    have p4 : List.take 1 (List.drop (off + 4) cs) = [.int .i64 sa.got] := part 4 _ rfl
    have p5 : List.take 1 (List.drop (off + 5) cs) = [b1] := part 5 _ rfl
    have l3 : off + 3 + 1 ≤ cs.length := by omega
    have l4 : off + 4 + 1 ≤ cs.length := by omega
    have l5 : off + 5 + 1 ≤ cs.length := by omega
    have sb := @strB_ne l1
    have nb1 := hb1.cells
    have nn1 := hb1.nagg
    have bself : (sa.first + (j : Int) != sa.first + (j : Int)) = false := by simp
    have bself2 : (sa.got != sa.got) = false := by simp
    simp +contextual -implicitDefEqProofs (maxSteps := 10000000) only [sx_seq, sxL_succ, lpQ_norm, lpQ_exit, lpQ_ret, loopQ_norm, loopQ_exit, loopQ_ret, sqQ_norm, sqQ_ret, sqQ_exit, sx_block, blkQ_norm, blkQ_exit, blkQ_ret, sx_cond, cdP_true, cdP_false, cdP_bool, sx_region, sx_draw, plainD, List.all_cons, List.all_nil, List.isEmpty_nil, List.isEmpty_cons, sxo_nil, sxo_cons, sxo_guard, gdS_bool, gdS_eff, gdS_tup, gdS_sel, gdS_seleff, sxK_def, wcall_some, effP_ret, effP_set, effP_none, effP_ite, wop_call, wop_cv, cvP_func, sx_ret, sx_exit, sx_skip, sx_clr, sx_fresh, stays, ↓selV_wt, ↓selV_wf, ↓impB_wt, ↓impB_wf, ↓selV_nor, ↓impB_nor, ↓selV_nt, ↓selV_nf, ↓impB_nt, ↓impB_nf, wantB_true, wantB_false, ↓selV_true, ↓selV_false, ↓selV_and, ↓impB_true, ↓impB_false, ↓impB_and, impB_triv, valOf_some, retH_some, ↓prim_pick, pickO_true, pickO_false, pickO_and, pickO_or, pickO_andr, pickO_orr, pickO_orrn, pickO_orn, pickO_bb, pickAnd_bool, pickOr_bool, ↓selV_nn, ↓impB_nn, Bool.and_assoc, Bool.or_assoc, doOp, ev_fr, ev_cst, put_none, put_fr, get, ins, del, dels, Nat.reduceLT, Nat.reduceEqDiff, ↓reduceIte, reduceCtorEq, ne_eq, not_false_eq_true, implies_true, framed_pureF, framed_fb, framed_N, framed_pure, wop_prim, prim, YLD, mkA, V.cells, List.getElem?_cons_zero, List.getElem?_cons_succ, List.set_cons_zero, List.set_cons_succ, Nat.zero_add, Nat.add_zero, Nat.reduceAdd, Nat.reduceSub, Nat.reduceMul, Nat.reduceLeDiff, Nat.not_lt_zero, List.map_cons, List.map_nil, List.cons_append, List.nil_append, loadA, cellsAt, nAg, packA, opt_bind_some, opt_map_some, opt_bind_none, opt_map_none, List.drop, List.take, List.head?, List.length_cons, List.length_nil, binA, unA, eqCells, eqCell, negB, fillA, sr_nil, sr_cons, sr_succ, sr_all, sr_len, storeA, Ob.with, indexedI, V.oneCell, intOf?, retQ_ret, retQ_norm, resA, resA1, fr_getD, packR, sealDepth, shut_bool, shut_int, Option.some.injEq, V.bool.injEq, V.int.injEq, Bool.not_true, Bool.not_false, true_and, and_true, and_self, Bool.and_true, Bool.and_false, Bool.true_and, Bool.false_and, Bool.or_true, Bool.or_false, Bool.true_or, Bool.false_or, Bool.false_eq_true, Int.reduceLT, Int.reduceLE, Int.reduceToNat, Int.reduceNeg, shut_plain, freeL_cons, freeL_nil, free_int, free_bool, free_agg, free_str, free_nils, free_tup, free_sl, true_implies, false_implies, Nat.sub_zero, Int.natCast_nonneg, Int.toNat_natCast, Nat.le_refl, not_true_eq_false, Int.reduceAdd, Int.reduceSub, Int.reduceMul, wrap64, false_and, and_false, cond_true, cond_false, Bool.cond_true_left, Bool.cond_false_right, Int.reduceBNe, Int.reduceBEq, decide_true, decide_false, Int.cast_ofNat_Int, Nat.mul_one, eq_self, Bool.true_eq_false, Bool.not_eq_true, Bool.not_eq_false, deads, List.replicate, argsF, g1, hia, hoc, p3, p4, p5, l3, l4, l5, w5, w6, bself, bself2, ↓s1, ↓s2, hw2, q7, qn, qs, hk2, hle, hle3, isNil, hia3, hoc3, hle1, hld3, sb, c17, pm17, w4, hj1, hlt, -List.drop, -List.take]
  · have e : j = L.length := by omega
    subst e
    have g1 : decide ((L.length : Int) < (L.length : Int)) = false := decide_eq_false (by omega)
    simp +contextual -implicitDefEqProofs (maxSteps := 10000000) only [sx_seq, sxL_succ, lpQ_norm, lpQ_exit, lpQ_ret, loopQ_norm, loopQ_exit, loopQ_ret, sqQ_norm, sqQ_ret, sqQ_exit, sx_block, blkQ_norm, blkQ_exit, blkQ_ret, sx_cond, cdP_true, cdP_false, cdP_bool, sx_region, sx_draw, plainD, List.all_cons, List.all_nil, List.isEmpty_nil, List.isEmpty_cons, sxo_nil, sxo_cons, sxo_guard, gdS_bool, gdS_eff, gdS_tup, gdS_sel, gdS_seleff, sxK_def, wcall_some, effP_ret, effP_set, effP_none, effP_ite, wop_call, wop_cv, cvP_func, sx_ret, sx_exit, sx_skip, sx_clr, sx_fresh, stays, ↓selV_wt, ↓selV_wf, ↓impB_wt, ↓impB_wf, ↓selV_nor, ↓impB_nor, ↓selV_nt, ↓selV_nf, ↓impB_nt, ↓impB_nf, wantB_true, wantB_false, ↓selV_true, ↓selV_false, ↓selV_and, ↓impB_true, ↓impB_false, ↓impB_and, impB_triv, valOf_some, retH_some, ↓prim_pick, pickO_true, pickO_false, pickO_and, pickO_or, pickO_andr, pickO_orr, pickO_orrn, pickO_orn, pickO_bb, pickAnd_bool, pickOr_bool, ↓selV_nn, ↓impB_nn, Bool.and_assoc, Bool.or_assoc, doOp, ev_fr, ev_cst, put_none, put_fr, get, ins, del, dels, Nat.reduceLT, Nat.reduceEqDiff, ↓reduceIte, reduceCtorEq, ne_eq, not_false_eq_true, implies_true, framed_pureF, framed_fb, framed_N, framed_pure, wop_prim, prim, YLD, mkA, V.cells, List.getElem?_cons_zero, List.getElem?_cons_succ, List.set_cons_zero, List.set_cons_succ, Nat.zero_add, Nat.add_zero, Nat.reduceAdd, Nat.reduceSub, Nat.reduceMul, Nat.reduceLeDiff, Nat.not_lt_zero, List.map_cons, List.map_nil, List.cons_append, List.nil_append, loadA, cellsAt, nAg, packA, opt_bind_some, opt_map_some, opt_bind_none, opt_map_none, List.drop, List.take, List.head?, List.length_cons, List.length_nil, binA, unA, eqCells, eqCell, negB, fillA, sr_nil, sr_cons, sr_succ, sr_all, sr_len, storeA, Ob.with, indexedI, V.oneCell, intOf?, retQ_ret, retQ_norm, resA, resA1, fr_getD, packR, sealDepth, shut_bool, shut_int, Option.some.injEq, V.bool.injEq, V.int.injEq, Bool.not_true, Bool.not_false, true_and, and_true, and_self, Bool.and_true, Bool.and_false, Bool.true_and, Bool.false_and, Bool.or_true, Bool.or_false, Bool.true_or, Bool.false_or, Bool.false_eq_true, Int.reduceLT, Int.reduceLE, Int.reduceToNat, Int.reduceNeg, shut_plain, freeL_cons, freeL_nil, free_int, free_bool, free_agg, free_str, free_nils, free_tup, free_sl, true_implies, false_implies, Nat.sub_zero, Int.natCast_nonneg, Int.toNat_natCast, Nat.le_refl, not_true_eq_false, Int.reduceAdd, Int.reduceSub, Int.reduceMul, wrap64, false_and, and_false, cond_true, cond_false, Bool.cond_true_left, Bool.cond_false_right, Int.reduceBNe, Int.reduceBEq, decide_true, decide_false, Int.cast_ofNat_Int, Nat.mul_one, eq_self, Bool.true_eq_false, Bool.not_eq_true, Bool.not_eq_false, deads, List.replicate, argsF, g1]
    refine ⟨?_, D2⟩
    have := be2.len
    omega

end Go.Am.T

set_option linter.unusedVariables false
set_option linter.unusedSimpArgs false
set_option maxRecDepth 10000
namespace Go.Am.T
attribute [local congr] selV_congr impB_congr

theorem rej_same {s s' : Ses} {n n' : Nat} {d : Dg} {k : Nat} (h1 : s'.other = s.other) (h2 : s'.me = s.me) (h3 : s'.view = s.view) (h4 : s'.first + (n' : Int) = s.first + (n : Int)) : rejD s' n' d k = rejD s n d k := by
  unfold rejD
  rw [h1, h2, h3, h4]

structure Again (s s1 : Ses) (n n1 : Nat) (d : Dg) (k : Nat) : Prop where
  other : s1.other = s.other
  me : s1.me = s.me
  view : s1.view = s.view
  told : s1.told = s.told
  sum : s1.first + (n1 : Int) = s.first + (n : Int)
  past : rejD s n d k = false → decide (d.ack ≥ s1.first) = false
  next : rejD s n d k = false → (d.seq == 0) = false → (d.seq != s1.got + 1) = true
  ok : s1.Ok n1
  le : comeK s n d k ≤ n

theorem come_again {s : Ses} {n : Nat} (hok : s.Ok n) (d : Dg) (k : Nat) : Again s (comeS s n d k) n (n - comeK s n d k) d k := by
  obtain ⟨f0, f1, g0, g1, n1⟩ := hok
  cases hr : rejD s n d k with
  | true =>
    have e1 : comeS s n d k = s := by simp only [comeS, hr, cond_true]
    have e2 : comeK s n d k = 0 := by simp only [comeK, hr, cond_true]
    rw [e1, e2, Nat.sub_zero]
    exact ⟨rfl, rfl, rfl, rfl, rfl, fun h => (by rw [hr] at h; cases h), fun h => (by rw [hr] at h; cases h), ⟨f0, f1, g0, g1, n1⟩, by omega⟩
  | false =>
    have hrr := hr
    simp only [rejD, Bool.or_eq_false_iff, decide_eq_false_iff_not] at hrr
    obtain ⟨-, -, -, r4, r5, r6, r7, -, -⟩ := hrr
    have e1 : comeS s n d k = seqS (ackS s d) d := by simp only [comeS, hr, cond_false]
    have e2 : comeK s n d k = bif decide (d.ack ≥ s.first) then (d.ack - s.first + 1).toNat else 0 := by simp only [comeK, hr, cond_false]
    have A : ∃ F n1, ackS s d = { s with first := F } ∧ comeK s n d k ≤ n ∧ n - comeK s n d k = n1 ∧ F + (n1 : Int) = s.first + (n : Int) ∧ ¬ d.ack ≥ F ∧ 1 ≤ F ∧ n1 ≤ n := by
      cases y : decide (d.ack ≥ s.first) with
      | true =>
        have hy := of_decide_eq_true y
        rw [e2]
        simp only [y, cond_true, ackS]
        exact ⟨d.ack + 1, _, rfl, by omega, rfl, by omega, by omega, by omega, by omega⟩
      | false =>
        have hy := of_decide_eq_false y
        rw [e2]
        simp only [y, cond_false, ackS]
        exact ⟨s.first, _, rfl, by omega, rfl, by omega, hy, f0, by omega⟩
    obtain ⟨F, n1', a1, a2, a3, a4, a5, a6, a7⟩ := A
    rw [e1, a3, a1]
    have hF : F + (n1' : Int) ≤ 2000 := by omega
    unfold seqS
    cases z1 : (d.seq == 0) with
    | true =>
      simp only [cond_true]
      exact ⟨rfl, rfl, rfl, rfl, a4, fun _ => decide_eq_false a5, fun _ h => (by rw [z1] at h; cases h), ⟨a6, hF, g0, g1, by omega⟩, a2⟩
    | false =>
      cases z2 : (d.seq != s.got + 1) with
      | true =>
        simp only [cond_true, cond_false, z2]
        exact ⟨rfl, rfl, rfl, rfl, a4, fun _ => decide_eq_false a5, fun _ _ => z2, ⟨a6, hF, g0, g1, by omega⟩, a2⟩
      | false =>
        have hz : d.seq = s.got + 1 := by simpa using z2
        simp only [cond_false, z2]
        refine ⟨rfl, rfl, rfl, rfl, a4, fun _ => decide_eq_false a5, fun _ _ => ?_, ⟨a6, hF, ?_, ?_, by omega⟩, a2⟩
        · simp only [bne_iff_ne, ne_eq]
          omega
        · show 0 ≤ s.got + 1
          omega
        · show s.got + 1 ≤ _
          omega

theorem come_twice {s s1 : Ses} {n n1 : Nat} {d : Dg} {k : Nat} (A : Again s s1 n n1 d k) (h1 : rejD s n d k = true → s1 = s) :
    comeB (toldS s1 n1) n1 d k = false ∧ comeK (toldS s1 n1) n1 d k = 0 ∧ (comeS (toldS s1 n1) n1 d k = toldS s1 n1 ∨ comeS (toldS s1 n1) n1 d k = { toldS s1 n1 with owes := true }) := by
  have hr2 : rejD (toldS s1 n1) n1 d k = rejD s n d k := rej_same A.other A.me A.view A.sum
  cases hr : rejD s n d k with
  | true =>
    rw [hr] at hr2
    simp only [comeB, comeK, comeS, hr2, cond_true, Bool.not_true, Bool.false_and, true_or, and_self]
  | false =>
    rw [hr] at hr2
    have p := A.past hr
    have q := A.next hr
    have p' : decide (d.ack ≥ (toldS s1 n1).first) = false := p
    have q' : (d.seq == 0) = false → (d.seq != (toldS s1 n1).got + 1) = true := q
    have ea : ackS (toldS s1 n1) d = toldS s1 n1 := by simp only [ackS, p', cond_false]
    cases z : (d.seq == 0) with
    | true =>
      simp only [comeB, comeK, comeS, hr2, cond_false, p', ea, seqS, z, cond_true, Bool.not_true, Bool.false_and, Bool.and_false, true_or, and_self]
    | false =>
      have z2 := q' z
      simp only [comeB, comeK, comeS, hr2, cond_false, p', ea, seqS, z, z2, cond_true, Bool.not_true, Bool.and_false, or_true, and_self]

theorem SAt.beyond {H H' : Heap} {a c : Nat} {s : Ses} {L : List V} {W : V} {R R' Rn : List Nat} (h : SAt H c s L W R') (hb : Beyond H H' a R Rn) (h1 : c ≠ a) (h2 : c ∉ R) (h3 : ∀ o ∈ R', o ≠ a ∧ o ∉ R) : SAt H' c s L W R' :=
  ⟨by rw [hb.oth c (lt_of_get h.ob) h1 h2]; exact h.ob, h.row.keep (fun o ho => hb.oth o (h.row.lt o ho) (h3 o ho).1 (h3 o ho).2), h.bods, h.apart⟩

theorem known_spec {N n : Nat} (hN : 1000 ≤ N) (hn : 20 ≤ n) (h : Heap) : callA am N n 9 [] h = some (.bool true, h) :=
  closed_quick pm9 (show callB am 1000 20 9 [] [] = some (.bool true, []) by kernel_rfl) hN hn h

theorem am5_wp {N n : Nat} {args : List V} {h : Heap} {v : V} (ha : args.length = 2) (hfree : V.freeL args = true)
    (H : sx ⟨pureOf am, callA am N n, N, 0⟩ am5.body (fr am5.nt (argsF 0 args)) (deads am5.sites) (retQ am5.res fun x h' => V.shut (fun o => h'[o]?) sealDepth x = some v)) : callA am N (n + 1) 5 args h = some (v, h) :=
  call_auto at5 rfl ha (by decide) hfree (sx_wp H)

set_option maxHeartbeats 4000000 in
theorem twice_spec {N n : Nat} (hN : 1500 ≤ N) (hn : 25 ≤ n) (l : V) (L0 : List V) (hl : IsL l 1 (L0.map fun b => [b])) (hB0 : ∀ b ∈ L0, ∃ m, By m b) (d : Dg) {lb : List Int} {b : V} (hb : By lb b) (h : Heap) :
    callA am N n 5 [l, .agg (d.cs b)] h = some (.bool true, h) := by
  obtain ⟨n, rfl⟩ : ∃ m, n = m + 1 := ⟨n - 1, by omega⟩
  have c9 := @known_spec N n (by omega) (by omega)
  have la := hl.len
  rw [List.length_map] at la
  have ln := hl.nstr
  have hfree : V.freeL [l, .agg (d.cs b)] = true := by
    simp only [freeL_cons, freeL_nil, hl.free, free_agg, Dg.cs, free_int, hb.free, Bool.and_self]
  have q2 : (d.cs b).length = 6 := rfl
  have q6 : List.take 6 (d.cs b) = d.cs b := rfl
  refine am5_wp rfl hfree ?_
  by_cases h40 : L0.length ≤ 40
  · have g1 : decide ((L0.length : Int) > 40) = false := decide_eq_false (by omega)
    have c7 := @new_ok N n (by omega) 2 3 7 (by decide)
    simp +contextual -implicitDefEqProofs (maxSteps := 10000000) only [sx_seq, sxL_succ, lpQ_norm, lpQ_exit, lpQ_ret, loopQ_norm, loopQ_exit, loopQ_ret, sqQ_norm, sqQ_ret, sqQ_exit, sx_block, blkQ_norm, blkQ_exit, blkQ_ret, sx_cond, cdP_true, cdP_false, cdP_bool, sx_region, sx_draw, plainD, List.all_cons, List.all_nil, List.isEmpty_nil, List.isEmpty_cons, sxo_nil, sxo_cons, sxo_guard, gdS_bool, gdS_eff, gdS_tup, gdS_sel, gdS_seleff, sxK_def, wcall_some, effP_ret, effP_set, effP_none, effP_ite, wop_call, wop_cv, cvP_func, sx_ret, sx_exit, sx_skip, sx_clr, sx_fresh, stays, ↓selV_wt, ↓selV_wf, ↓impB_wt, ↓impB_wf, ↓selV_nor, ↓impB_nor, ↓selV_nt, ↓selV_nf, ↓impB_nt, ↓impB_nf, wantB_true, wantB_false, ↓selV_true, ↓selV_false, ↓selV_and, ↓impB_true, ↓impB_false, ↓impB_and, impB_triv, valOf_some, retH_some, ↓prim_pick, pickO_true, pickO_false, pickO_and, pickO_or, pickO_andr, pickO_orr, pickO_orrn, pickO_orn, pickO_bb, pickAnd_bool, pickOr_bool, ↓selV_nn, ↓impB_nn, Bool.and_assoc, Bool.or_assoc, doOp, ev_fr, ev_cst, put_none, put_fr, get, ins, del, dels, Nat.reduceLT, Nat.reduceEqDiff, ↓reduceIte, reduceCtorEq, ne_eq, not_false_eq_true, implies_true, framed_pureF, framed_fb, framed_N, framed_pure, wop_prim, prim, YLD, mkA, V.cells, List.getElem?_cons_zero, List.getElem?_cons_succ, List.set_cons_zero, List.set_cons_succ, Nat.zero_add, Nat.add_zero, Nat.reduceAdd, Nat.reduceSub, Nat.reduceMul, Nat.reduceLeDiff, Nat.not_lt_zero, List.map_cons, List.map_nil, List.cons_append, List.nil_append, loadA, cellsAt, nAg, packA, opt_bind_some, opt_map_some, opt_bind_none, opt_map_none, List.drop, List.take, List.head?, List.length_cons, List.length_nil, binA, unA, eqCells, eqCell, negB, fillA, sr_nil, sr_cons, sr_succ, sr_all, sr_len, storeA, Ob.with, indexedI, V.oneCell, intOf?, retQ_ret, retQ_norm, resA, resA1, fr_getD, packR, sealDepth, shut_bool, shut_int, Option.some.injEq, V.bool.injEq, V.int.injEq, Bool.not_true, Bool.not_false, true_and, and_true, and_self, Bool.and_true, Bool.and_false, Bool.true_and, Bool.false_and, Bool.or_true, Bool.or_false, Bool.true_or, Bool.false_or, Bool.false_eq_true, Int.reduceLT, Int.reduceLE, Int.reduceToNat, Int.reduceNeg, shut_plain, freeL_cons, freeL_nil, free_int, free_bool, free_agg, free_str, free_nils, free_tup, free_sl, true_implies, false_implies, Nat.sub_zero, Int.natCast_nonneg, Int.toNat_natCast, Nat.le_refl, not_true_eq_false, Int.reduceAdd, Int.reduceSub, Int.reduceMul, wrap64, false_and, and_false, cond_true, cond_false, Bool.cond_true_left, Bool.cond_false_right, Int.reduceBNe, Int.reduceBEq, decide_true, decide_false, Int.cast_ofNat_Int, Nat.mul_one, eq_self, Bool.true_eq_false, Bool.not_eq_true, Bool.not_eq_false, deads, List.replicate, argsF, am5, la, g1, c7]
    obtain ⟨S0, hS0⟩ : ∃ S0, S0 = newS 2 3 7 := ⟨_, rfl⟩
    rw [← hS0]
    refine sx_loop (fun i t H => ∃ L W R, t = fr 61 [(0, l), (3, .ptr 0 1 0), (5, .ptr 1 1 0), (7, .int .i64 i)] ∧ i ≤ L0.length ∧ SAt H 1 S0 L W R ∧ L.length ≤ i ∧ H[0]? = some ⟨1, .var (d.cs b)⟩ ∧ 0 ∉ R) L0.length (by show L0.length < N; omega)
      ⟨[], .nils, [], rfl, Nat.zero_le _, ⟨rfl, .inl ⟨rfl, rfl, rfl⟩, fun c hc => (by cases hc), by simp⟩, Nat.le_refl _, rfl, by simp⟩ ?_
    rintro i t H hi ⟨L, W, R, rfl, hiL, hS, hLi, hd0, h0R⟩
    by_cases hlt : i < L0.length
    · have g2 : decide ((i : Int) < (L0.length : Int)) = true := decide_eq_true (by omega)
      have w4 : IntKind.i64.wrap ((i : Int) + 1) = ((i + 1 : Nat) : Int) := (wrap64 (by omega) (by omega)).trans (by omega)
      have hi1 : i + 1 ≤ L0.length := by omega
      obtain ⟨x, hx⟩ : ∃ x, L0[i]? = some x := ⟨_, List.getElem?_eq_getElem hlt⟩
      obtain ⟨m, hm⟩ := hB0 x (List.mem_of_getElem? hx)
      have hat := hl.at_ i
      rw [List.getElem?_map, hx] at hat
      simp only [Option.map_some] at hat
      by_cases hlong : m.length ≤ 256
      · obtain ⟨v', H', c10, -, b', W', R', hb', hS', hbe⟩ := @send_spec N n (by omega) _ _ _ _ _ _ hS _ _ hm hlong (by omega)
        simp +contextual -implicitDefEqProofs (maxSteps := 10000000) only [sx_seq, sxL_succ, lpQ_norm, lpQ_exit, lpQ_ret, loopQ_norm, loopQ_exit, loopQ_ret, sqQ_norm, sqQ_ret, sqQ_exit, sx_block, blkQ_norm, blkQ_exit, blkQ_ret, sx_cond, cdP_true, cdP_false, cdP_bool, sx_region, sx_draw, plainD, List.all_cons, List.all_nil, List.isEmpty_nil, List.isEmpty_cons, sxo_nil, sxo_cons, sxo_guard, gdS_bool, gdS_eff, gdS_tup, gdS_sel, gdS_seleff, sxK_def, wcall_some, effP_ret, effP_set, effP_none, effP_ite, wop_call, wop_cv, cvP_func, sx_ret, sx_exit, sx_skip, sx_clr, sx_fresh, stays, ↓selV_wt, ↓selV_wf, ↓impB_wt, ↓impB_wf, ↓selV_nor, ↓impB_nor, ↓selV_nt, ↓selV_nf, ↓impB_nt, ↓impB_nf, wantB_true, wantB_false, ↓selV_true, ↓selV_false, ↓selV_and, ↓impB_true, ↓impB_false, ↓impB_and, impB_triv, valOf_some, retH_some, ↓prim_pick, pickO_true, pickO_false, pickO_and, pickO_or, pickO_andr, pickO_orr, pickO_orrn, pickO_orn, pickO_bb, pickAnd_bool, pickOr_bool, ↓selV_nn, ↓impB_nn, Bool.and_assoc, Bool.or_assoc, doOp, ev_fr, ev_cst, put_none, put_fr, get, ins, del, dels, Nat.reduceLT, Nat.reduceEqDiff, ↓reduceIte, reduceCtorEq, ne_eq, not_false_eq_true, implies_true, framed_pureF, framed_fb, framed_N, framed_pure, wop_prim, prim, YLD, mkA, V.cells, List.getElem?_cons_zero, List.getElem?_cons_succ, List.set_cons_zero, List.set_cons_succ, Nat.zero_add, Nat.add_zero, Nat.reduceAdd, Nat.reduceSub, Nat.reduceMul, Nat.reduceLeDiff, Nat.not_lt_zero, List.map_cons, List.map_nil, List.cons_append, List.nil_append, loadA, cellsAt, nAg, packA, opt_bind_some, opt_map_some, opt_bind_none, opt_map_none, List.drop, List.take, List.head?, List.length_cons, List.length_nil, binA, unA, eqCells, eqCell, negB, fillA, sr_nil, sr_cons, sr_succ, sr_all, sr_len, storeA, Ob.with, indexedI, V.oneCell, intOf?, retQ_ret, retQ_norm, resA, resA1, fr_getD, packR, sealDepth, shut_bool, shut_int, Option.some.injEq, V.bool.injEq, V.int.injEq, Bool.not_true, Bool.not_false, true_and, and_true, and_self, Bool.and_true, Bool.and_false, Bool.true_and, Bool.false_and, Bool.or_true, Bool.or_false, Bool.true_or, Bool.false_or, Bool.false_eq_true, Int.reduceLT, Int.reduceLE, Int.reduceToNat, Int.reduceNeg, shut_plain, freeL_cons, freeL_nil, free_int, free_bool, free_agg, free_str, free_nils, free_tup, free_sl, true_implies, false_implies, Nat.sub_zero, Int.natCast_nonneg, Int.toNat_natCast, Nat.le_refl, not_true_eq_false, Int.reduceAdd, Int.reduceSub, Int.reduceMul, wrap64, false_and, and_false, cond_true, cond_false, Bool.cond_true_left, Bool.cond_false_right, Int.reduceBNe, Int.reduceBEq, decide_true, decide_false, Int.cast_ofNat_Int, Nat.mul_one, eq_self, Bool.true_eq_false, Bool.not_eq_true, Bool.not_eq_false, deads, List.replicate, argsF, la, g2, hat, c10, w4, hi1, hlt]
        refine ⟨L ++ [b'], W', R', hS', by simp; omega, ?_, ?_⟩
        · rw [hbe.oth 0 (by have := lt_of_get hd0; omega) (by decide) h0R]; exact hd0
        · intro hmem
          rcases hbe.new 0 hmem with h1 | h1
          · exact h0R h1
          · have := lt_of_get hd0; omega
      · have c10 := @send_long N n (by omega) _ _ _ _ _ _ hS _ _ hm (by omega)
        simp +contextual -implicitDefEqProofs (maxSteps := 10000000) only [sx_seq, sxL_succ, lpQ_norm, lpQ_exit, lpQ_ret, loopQ_norm, loopQ_exit, loopQ_ret, sqQ_norm, sqQ_ret, sqQ_exit, sx_block, blkQ_norm, blkQ_exit, blkQ_ret, sx_cond, cdP_true, cdP_false, cdP_bool, sx_region, sx_draw, plainD, List.all_cons, List.all_nil, List.isEmpty_nil, List.isEmpty_cons, sxo_nil, sxo_cons, sxo_guard, gdS_bool, gdS_eff, gdS_tup, gdS_sel, gdS_seleff, sxK_def, wcall_some, effP_ret, effP_set, effP_none, effP_ite, wop_call, wop_cv, cvP_func, sx_ret, sx_exit, sx_skip, sx_clr, sx_fresh, stays, ↓selV_wt, ↓selV_wf, ↓impB_wt, ↓impB_wf, ↓selV_nor, ↓impB_nor, ↓selV_nt, ↓selV_nf, ↓impB_nt, ↓impB_nf, wantB_true, wantB_false, ↓selV_true, ↓selV_false, ↓selV_and, ↓impB_true, ↓impB_false, ↓impB_and, impB_triv, valOf_some, retH_some, ↓prim_pick, pickO_true, pickO_false, pickO_and, pickO_or, pickO_andr, pickO_orr, pickO_orrn, pickO_orn, pickO_bb, pickAnd_bool, pickOr_bool, ↓selV_nn, ↓impB_nn, Bool.and_assoc, Bool.or_assoc, doOp, ev_fr, ev_cst, put_none, put_fr, get, ins, del, dels, Nat.reduceLT, Nat.reduceEqDiff, ↓reduceIte, reduceCtorEq, ne_eq, not_false_eq_true, implies_true, framed_pureF, framed_fb, framed_N, framed_pure, wop_prim, prim, YLD, mkA, V.cells, List.getElem?_cons_zero, List.getElem?_cons_succ, List.set_cons_zero, List.set_cons_succ, Nat.zero_add, Nat.add_zero, Nat.reduceAdd, Nat.reduceSub, Nat.reduceMul, Nat.reduceLeDiff, Nat.not_lt_zero, List.map_cons, List.map_nil, List.cons_append, List.nil_append, loadA, cellsAt, nAg, packA, opt_bind_some, opt_map_some, opt_bind_none, opt_map_none, List.drop, List.take, List.head?, List.length_cons, List.length_nil, binA, unA, eqCells, eqCell, negB, fillA, sr_nil, sr_cons, sr_succ, sr_all, sr_len, storeA, Ob.with, indexedI, V.oneCell, intOf?, retQ_ret, retQ_norm, resA, resA1, fr_getD, packR, sealDepth, shut_bool, shut_int, Option.some.injEq, V.bool.injEq, V.int.injEq, Bool.not_true, Bool.not_false, true_and, and_true, and_self, Bool.and_true, Bool.and_false, Bool.true_and, Bool.false_and, Bool.or_true, Bool.or_false, Bool.true_or, Bool.false_or, Bool.false_eq_true, Int.reduceLT, Int.reduceLE, Int.reduceToNat, Int.reduceNeg, shut_plain, freeL_cons, freeL_nil, free_int, free_bool, free_agg, free_str, free_nils, free_tup, free_sl, true_implies, false_implies, Nat.sub_zero, Int.natCast_nonneg, Int.toNat_natCast, Nat.le_refl, not_true_eq_false, Int.reduceAdd, Int.reduceSub, Int.reduceMul, wrap64, false_and, and_false, cond_true, cond_false, Bool.cond_true_left, Bool.cond_false_right, Int.reduceBNe, Int.reduceBEq, decide_true, decide_false, Int.cast_ofNat_Int, Nat.mul_one, eq_self, Bool.true_eq_false, Bool.not_eq_true, Bool.not_eq_false, deads, List.replicate, argsF, la, g2, hat, c10, w4, hi1, hlt]
        exact ⟨L, W, R, hS.app _, by omega, by rw [List.getElem?_append_left (lt_of_get hd0)]; exact hd0, h0R⟩
    · have e : i = L0.length := by omega
      subst e
      have g2 : decide ((L0.length : Int) < (L0.length : Int)) = false := decide_eq_false (by omega)
      have ok0 : S0.Ok L.length := by rw [hS0]; exact ⟨by decide, by show (1 : Int) + _ ≤ _; omega, by decide, by decide, by omega⟩
      have hlt0 := lt_of_get hd0
      -- the datagram comes
      obtain ⟨v1, H1, c18, -, W1, S1, be1⟩ := @come_spec N n (by omega) _ _ _ _ _ _ hS ok0 d _ _ hb
      have A := come_again ok0 d lb.length
      have hrej : rejD S0 L.length d lb.length = true → comeS S0 L.length d lb.length = S0 := fun hr => by simp only [comeS, hr, cond_true]
      generalize comeS S0 L.length d lb.length = s1 at S1 A hrej
      generalize hk : comeK S0 L.length d lb.length = k at S1 A
      have hd1 : H1[0]? = some ⟨1, .var (d.cs b)⟩ := by rw [be1.oth 0 hlt0 (by decide) h0R]; exact hd0
      obtain ⟨n1, hn1⟩ : ∃ n1, n1 = (L.drop k).length := ⟨_, rfl⟩
      have hn1' : L.length - k = n1 := by rw [hn1, List.length_drop]
      rw [hn1'] at A
      obtain ⟨f0, f1, -, -, n1k⟩ := A.ok
      have told0 : s1.told = 0 := A.told.trans (by rw [hS0]; rfl)
      -- what is fresh
      obtain ⟨v2, H2, c11, S2, be2, -⟩ := @fresh_spec N n (by omega) (by omega) _ _ _ _ _ _ S1 f0 (by rw [← hn1]; exact f1) (by rw [← hn1]; exact n1k) (by omega) (by omega)
      rw [← hn1] at S2
      have hd2 : H2[0]? = some ⟨1, .var (d.cs b)⟩ := by rw [be2.oth 0 (lt_of_get hd1) (by decide) h0R]; exact hd1
      -- a copy
      obtain ⟨B, hB⟩ := S2.bods.bys
      obtain ⟨v3, H3, c16, rfl, ho3, hl3, L', W', R', hB', SC, hR'⟩ := @copy_spec N n (by omega) (by omega) _ _ _ _ _ _ S2 B hB (by rw [← hn1]; exact n1k)
      have S3 : SAt H3 1 (toldS s1 n1) (L.drop k) W1 R := ⟨by rw [ho3 1 (lt_of_get S2.ob)]; exact S2.ob, S2.row.keep (fun o ho => ho3 o (S2.row.lt o ho)), S2.bods, S2.apart⟩
      have hd3 : H3[0]? = some ⟨1, .var (d.cs b)⟩ := by rw [ho3 0 (lt_of_get hd2)]; exact hd2
      -- it comes once more
      have ok2 : (toldS s1 n1).Ok (L.drop k).length := by rw [← hn1]; exact ⟨A.ok.f0, A.ok.f1, A.ok.g0, A.ok.g1, A.ok.n1⟩
      obtain ⟨v4, H4, c18', hv4, W4, S4, be4⟩ := @come_spec N n (by omega) _ _ _ _ _ _ S3 ok2 d _ _ hb
      obtain ⟨e1, e2, e3⟩ := come_twice A hrej
      rw [← hn1] at hv4 S4
      rw [e1] at hv4
      have hv4 : v4 = .tup [.nils, .bool false] := hv4
      subst hv4
      rw [e2, List.drop_zero] at S4
      have hc2 : H2.length ≠ 1 := by have := lt_of_get S2.ob; omega
      have hcR : H2.length ∉ R := fun hm => by have := S2.row.lt _ hm; omega
      have SC4 : SAt H4 H2.length (toldS s1 n1) L' W' R' := SC.beyond be4 hc2 hcR (fun o ho => ⟨by have := hR' o ho; have := lt_of_get S2.ob; omega, fun hm => by have := S2.row.lt _ hm; have := hR' o ho; omega⟩)
      have c19 := @owes_spec N n (by omega) _ _ _ _ _ _ S4
      have hL1 : (L.drop k).length ≤ 1000 := by rw [← hn1]; exact n1k
      rcases e3 with e3 | e3
      · rw [e3] at S4 c19
        have c20 := @same_spec N n (by omega) (by omega) _ _ _ _ _ _ _ _ _ _ _ S4 SC4 hB hB' hL1
        have c19 : callA am N n 19 [.ptr 1 1 0] H4 = some (.bool false, H4) := c19
        simp +contextual -implicitDefEqProofs (maxSteps := 10000000) only [sx_seq, sxL_succ, lpQ_norm, lpQ_exit, lpQ_ret, loopQ_norm, loopQ_exit, loopQ_ret, sqQ_norm, sqQ_ret, sqQ_exit, sx_block, blkQ_norm, blkQ_exit, blkQ_ret, sx_cond, cdP_true, cdP_false, cdP_bool, sx_region, sx_draw, plainD, List.all_cons, List.all_nil, List.isEmpty_nil, List.isEmpty_cons, sxo_nil, sxo_cons, sxo_guard, gdS_bool, gdS_eff, gdS_tup, gdS_sel, gdS_seleff, sxK_def, wcall_some, effP_ret, effP_set, effP_none, effP_ite, wop_call, wop_cv, cvP_func, sx_ret, sx_exit, sx_skip, sx_clr, sx_fresh, stays, ↓selV_wt, ↓selV_wf, ↓impB_wt, ↓impB_wf, ↓selV_nor, ↓impB_nor, ↓selV_nt, ↓selV_nf, ↓impB_nt, ↓impB_nf, wantB_true, wantB_false, ↓selV_true, ↓selV_false, ↓selV_and, ↓impB_true, ↓impB_false, ↓impB_and, impB_triv, valOf_some, retH_some, ↓prim_pick, pickO_true, pickO_false, pickO_and, pickO_or, pickO_andr, pickO_orr, pickO_orrn, pickO_orn, pickO_bb, pickAnd_bool, pickOr_bool, ↓selV_nn, ↓impB_nn, Bool.and_assoc, Bool.or_assoc, doOp, ev_fr, ev_cst, put_none, put_fr, get, ins, del, dels, Nat.reduceLT, Nat.reduceEqDiff, ↓reduceIte, reduceCtorEq, ne_eq, not_false_eq_true, implies_true, framed_pureF, framed_fb, framed_N, framed_pure, wop_prim, prim, YLD, mkA, V.cells, List.getElem?_cons_zero, List.getElem?_cons_succ, List.set_cons_zero, List.set_cons_succ, Nat.zero_add, Nat.add_zero, Nat.reduceAdd, Nat.reduceSub, Nat.reduceMul, Nat.reduceLeDiff, Nat.not_lt_zero, List.map_cons, List.map_nil, List.cons_append, List.nil_append, loadA, cellsAt, nAg, packA, opt_bind_some, opt_map_some, opt_bind_none, opt_map_none, List.drop, List.take, List.head?, List.length_cons, List.length_nil, binA, unA, eqCells, eqCell, negB, fillA, sr_nil, sr_cons, sr_succ, sr_all, sr_len, storeA, Ob.with, indexedI, V.oneCell, intOf?, retQ_ret, retQ_norm, resA, resA1, fr_getD, packR, sealDepth, shut_bool, shut_int, Option.some.injEq, V.bool.injEq, V.int.injEq, Bool.not_true, Bool.not_false, true_and, and_true, and_self, Bool.and_true, Bool.and_false, Bool.true_and, Bool.false_and, Bool.or_true, Bool.or_false, Bool.true_or, Bool.false_or, Bool.false_eq_true, Int.reduceLT, Int.reduceLE, Int.reduceToNat, Int.reduceNeg, shut_plain, freeL_cons, freeL_nil, free_int, free_bool, free_agg, free_str, free_nils, free_tup, free_sl, true_implies, false_implies, Nat.sub_zero, Int.natCast_nonneg, Int.toNat_natCast, Nat.le_refl, not_true_eq_false, Int.reduceAdd, Int.reduceSub, Int.reduceMul, wrap64, false_and, and_false, cond_true, cond_false, Bool.cond_true_left, Bool.cond_false_right, Int.reduceBNe, Int.reduceBEq, decide_true, decide_false, Int.cast_ofNat_Int, Nat.mul_one, eq_self, Bool.true_eq_false, Bool.not_eq_true, Bool.not_eq_false, deads, List.replicate, argsF, la, g2, hd0, q2, q6, c18, c11, c16, hd3, c18', isNil, c19, c20, c9, pm9]
      · rw [e3] at S4 c19
        have c19 : callA am N n 19 [.ptr 1 1 0] H4 = some (.bool true, H4) := c19
        obtain ⟨v5, H5, c11', S5, be5, -⟩ := @fresh_spec N n (by omega) (by omega) _ _ _ _ _ _ S4 A.ok.f0 (by rw [← hn1]; exact A.ok.f1) hL1 (by show 0 ≤ s1.first + (n1 : Int) - 1; omega) (by show s1.first + (n1 : Int) - 1 ≤ 2000; omega)
        rw [← hn1] at S5
        have S5 : SAt H5 1 (toldS s1 n1) (L.drop k) W4 R := S5
        have SC5 : SAt H5 H2.length (toldS s1 n1) L' W' R' := SC4.beyond be5 hc2 hcR (fun o ho => ⟨by have := hR' o ho; have := lt_of_get S2.ob; omega, fun hm => by have := S2.row.lt _ hm; have := hR' o ho; omega⟩)
        have c20 := @same_spec N n (by omega) (by omega) _ _ _ _ _ _ _ _ _ _ _ S5 SC5 hB hB' hL1
        simp +contextual -implicitDefEqProofs (maxSteps := 10000000) only [sx_seq, sxL_succ, lpQ_norm, lpQ_exit, lpQ_ret, loopQ_norm, loopQ_exit, loopQ_ret, sqQ_norm, sqQ_ret, sqQ_exit, sx_block, blkQ_norm, blkQ_exit, blkQ_ret, sx_cond, cdP_true, cdP_false, cdP_bool, sx_region, sx_draw, plainD, List.all_cons, List.all_nil, List.isEmpty_nil, List.isEmpty_cons, sxo_nil, sxo_cons, sxo_guard, gdS_bool, gdS_eff, gdS_tup, gdS_sel, gdS_seleff, sxK_def, wcall_some, effP_ret, effP_set, effP_none, effP_ite, wop_call, wop_cv, cvP_func, sx_ret, sx_exit, sx_skip, sx_clr, sx_fresh, stays, ↓selV_wt, ↓selV_wf, ↓impB_wt, ↓impB_wf, ↓selV_nor, ↓impB_nor, ↓selV_nt, ↓selV_nf, ↓impB_nt, ↓impB_nf, wantB_true, wantB_false, ↓selV_true, ↓selV_false, ↓selV_and, ↓impB_true, ↓impB_false, ↓impB_and, impB_triv, valOf_some, retH_some, ↓prim_pick, pickO_true, pickO_false, pickO_and, pickO_or, pickO_andr, pickO_orr, pickO_orrn, pickO_orn, pickO_bb, pickAnd_bool, pickOr_bool, ↓selV_nn, ↓impB_nn, Bool.and_assoc, Bool.or_assoc, doOp, ev_fr, ev_cst, put_none, put_fr, get, ins, del, dels, Nat.reduceLT, Nat.reduceEqDiff, ↓reduceIte, reduceCtorEq, ne_eq, not_false_eq_true, implies_true, framed_pureF, framed_fb, framed_N, framed_pure, wop_prim, prim, YLD, mkA, V.cells, List.getElem?_cons_zero, List.getElem?_cons_succ, List.set_cons_zero, List.set_cons_succ, Nat.zero_add, Nat.add_zero, Nat.reduceAdd, Nat.reduceSub, Nat.reduceMul, Nat.reduceLeDiff, Nat.not_lt_zero, List.map_cons, List.map_nil, List.cons_append, List.nil_append, loadA, cellsAt, nAg, packA, opt_bind_some, opt_map_some, opt_bind_none, opt_map_none, List.drop, List.take, List.head?, List.length_cons, List.length_nil, binA, unA, eqCells, eqCell, negB, fillA, sr_nil, sr_cons, sr_succ, sr_all, sr_len, storeA, Ob.with, indexedI, V.oneCell, intOf?, retQ_ret, retQ_norm, resA, resA1, fr_getD, packR, sealDepth, shut_bool, shut_int, Option.some.injEq, V.bool.injEq, V.int.injEq, Bool.not_true, Bool.not_false, true_and, and_true, and_self, Bool.and_true, Bool.and_false, Bool.true_and, Bool.false_and, Bool.or_true, Bool.or_false, Bool.true_or, Bool.false_or, Bool.false_eq_true, Int.reduceLT, Int.reduceLE, Int.reduceToNat, Int.reduceNeg, shut_plain, freeL_cons, freeL_nil, free_int, free_bool, free_agg, free_str, free_nils, free_tup, free_sl, true_implies, false_implies, Nat.sub_zero, Int.natCast_nonneg, Int.toNat_natCast, Nat.le_refl, not_true_eq_false, Int.reduceAdd, Int.reduceSub, Int.reduceMul, wrap64, false_and, and_false, cond_true, cond_false, Bool.cond_true_left, Bool.cond_false_right, Int.reduceBNe, Int.reduceBEq, decide_true, decide_false, Int.cast_ofNat_Int, Nat.mul_one, eq_self, Bool.true_eq_false, Bool.not_eq_true, Bool.not_eq_false, deads, List.replicate, argsF, la, g2, hd0, q2, q6, c18, c11, c16, hd3, c18', isNil, c19, c11', c20, c9, pm9]
  · have g1 : decide ((L0.length : Int) > 40) = true := decide_eq_true (by omega)
    simp +contextual -implicitDefEqProofs (maxSteps := 10000000) only [sx_seq, sxL_succ, lpQ_norm, lpQ_exit, lpQ_ret, loopQ_norm, loopQ_exit, loopQ_ret, sqQ_norm, sqQ_ret, sqQ_exit, sx_block, blkQ_norm, blkQ_exit, blkQ_ret, sx_cond, cdP_true, cdP_false, cdP_bool, sx_region, sx_draw, plainD, List.all_cons, List.all_nil, List.isEmpty_nil, List.isEmpty_cons, sxo_nil, sxo_cons, sxo_guard, gdS_bool, gdS_eff, gdS_tup, gdS_sel, gdS_seleff, sxK_def, wcall_some, effP_ret, effP_set, effP_none, effP_ite, wop_call, wop_cv, cvP_func, sx_ret, sx_exit, sx_skip, sx_clr, sx_fresh, stays, ↓selV_wt, ↓selV_wf, ↓impB_wt, ↓impB_wf, ↓selV_nor, ↓impB_nor, ↓selV_nt, ↓selV_nf, ↓impB_nt, ↓impB_nf, wantB_true, wantB_false, ↓selV_true, ↓selV_false, ↓selV_and, ↓impB_true, ↓impB_false, ↓impB_and, impB_triv, valOf_some, retH_some, ↓prim_pick, pickO_true, pickO_false, pickO_and, pickO_or, pickO_andr, pickO_orr, pickO_orrn, pickO_orn, pickO_bb, pickAnd_bool, pickOr_bool, ↓selV_nn, ↓impB_nn, Bool.and_assoc, Bool.or_assoc, doOp, ev_fr, ev_cst, put_none, put_fr, get, ins, del, dels, Nat.reduceLT, Nat.reduceEqDiff, ↓reduceIte, reduceCtorEq, ne_eq, not_false_eq_true, implies_true, framed_pureF, framed_fb, framed_N, framed_pure, wop_prim, prim, YLD, mkA, V.cells, List.getElem?_cons_zero, List.getElem?_cons_succ, List.set_cons_zero, List.set_cons_succ, Nat.zero_add, Nat.add_zero, Nat.reduceAdd, Nat.reduceSub, Nat.reduceMul, Nat.reduceLeDiff, Nat.not_lt_zero, List.map_cons, List.map_nil, List.cons_append, List.nil_append, loadA, cellsAt, nAg, packA, opt_bind_some, opt_map_some, opt_bind_none, opt_map_none, List.drop, List.take, List.head?, List.length_cons, List.length_nil, binA, unA, eqCells, eqCell, negB, fillA, sr_nil, sr_cons, sr_succ, sr_all, sr_len, storeA, Ob.with, indexedI, V.oneCell, intOf?, retQ_ret, retQ_norm, resA, resA1, fr_getD, packR, sealDepth, shut_bool, shut_int, Option.some.injEq, V.bool.injEq, V.int.injEq, Bool.not_true, Bool.not_false, true_and, and_true, and_self, Bool.and_true, Bool.and_false, Bool.true_and, Bool.false_and, Bool.or_true, Bool.or_false, Bool.true_or, Bool.false_or, Bool.false_eq_true, Int.reduceLT, Int.reduceLE, Int.reduceToNat, Int.reduceNeg, shut_plain, freeL_cons, freeL_nil, free_int, free_bool, free_agg, free_str, free_nils, free_tup, free_sl, true_implies, false_implies, Nat.sub_zero, Int.natCast_nonneg, Int.toNat_natCast, Nat.le_refl, not_true_eq_false, Int.reduceAdd, Int.reduceSub, Int.reduceMul, wrap64, false_and, and_false, cond_true, cond_false, Bool.cond_true_left, Bool.cond_false_right, Int.reduceBNe, Int.reduceBEq, decide_true, decide_false, Int.cast_ofNat_Int, Nat.mul_one, eq_self, Bool.true_eq_false, Bool.not_eq_true, Bool.not_eq_false, deads, List.replicate, argsF, am5, la, g1, c9]

/-! ### What came in -/

def bySh : Sh := .sl false 1 (.int .u8)
def bysSh : Sh := .sl false 1 bySh
def dgSh : Sh := .pair (.int .i64) (.pair (.int .i64) (.pair (.int .i64) (.pair (.int .i64) (.pair (.int .i64) (.pair bySh .unit)))))

theorem by_in {u : List V} (h : InSh bySh u) : ∃ b m, u = [b] ∧ By m b := by
  rcases h with rfl | ⟨us, c, rfl, -, -, hu⟩
  · exact ⟨.nils, [], rfl, .inl ⟨rfl, rfl⟩⟩
  · have : ∀ us : List (List V), (∀ u ∈ us, u.length = 1 ∧ InSh (.int .u8) u) → ∃ m : List Int, us.map (elemV false) = m.map (V.int .u8) := by
      intro us
      induction us with
      | nil => exact fun _ => ⟨[], rfl⟩
      | cons u us ih =>
        intro hu
        obtain ⟨m, hm⟩ := ih (fun v hv => hu v (by simp [hv]))
        obtain ⟨x, rfl, -⟩ := in_u8 (hu u (by simp)).2
        exact ⟨x :: m, by rw [List.map_cons, hm]; rfl⟩
    obtain ⟨m, hm⟩ := this us hu
    rw [hm]
    exact ⟨_, m, rfl, .inr ⟨some c, rfl⟩⟩

theorem bys_in {u : V} (h : InP false bysSh u) : ∃ L0 : List V, IsL u 1 (L0.map fun b => [b]) ∧ ∀ b ∈ L0, ∃ m, By m b := by
  rcases h with h | ⟨us, c, h, -, -, hu⟩
  · cases h
    exact ⟨[], isL_nils 1, fun b hb => by cases hb⟩
  · cases h
    have key : ∀ us : List (List V), (∀ u ∈ us, u.length = 1 ∧ InSh bySh u) → ∀ b ∈ us.map (elemV false), ∃ m, By m b := by
      intro us hu b hb
      obtain ⟨u, hu', rfl⟩ := List.mem_map.1 hb
      obtain ⟨b, m, rfl, hm⟩ := by_in (hu u hu').2
      exact ⟨m, hm⟩
    have hk := key us hu
    refine ⟨us.map (elemV false), isL_sl (freeL_of_mem fun b hb => ?_) (List.map_congr_left fun b hb => ?_), hk⟩
    · obtain ⟨m, hm⟩ := hk b hb
      exact hm.free
    · obtain ⟨m, hm⟩ := hk b hb
      exact hm.cells

theorem dg_in {u : List V} (h : InSh dgSh u) : ∃ (d : Dg) (b : V) (m : List Int), u = d.cs b ∧ By m b := by
  obtain ⟨u1, v1, rfl, h1, u2, v2, rfl, h2, u3, v3, rfl, h3, u4, v4, rfl, h4, u5, v5, rfl, h5, u6, v6, rfl, h6, rfl⟩ := h
  obtain ⟨a1, rfl, -⟩ := in_i64 h1
  obtain ⟨a2, rfl, -⟩ := in_i64 h2
  obtain ⟨a3, rfl, -⟩ := in_i64 h3
  obtain ⟨a4, rfl, -⟩ := in_i64 h4
  obtain ⟨a5, rfl, -⟩ := in_i64 h5
  obtain ⟨b, m, rfl, hm⟩ := by_in h6
  exact ⟨⟨a1, a2, a3, a4, a5⟩, b, m, rfl, hm⟩

theorem runsSessionTwice {u1 u2 : V} (h1 : InP false bysSh u1) (h2 : InP true dgSh u2) : ∃ N n, callA am N n 5 [u1, u2] [] = some (.bool true, []) := by
  obtain ⟨L0, hl, hB⟩ := bys_in h1
  obtain ⟨cs, rfl, h⟩ := h2
  obtain ⟨d, b, m, rfl, hm⟩ := dg_in h
  exact ⟨1500, 30, twice_spec (by omega) (by omega) u1 L0 hl hB d hm []⟩

end Go.Am.T

set_option linter.unusedVariables false
set_option linter.unusedSimpArgs false
set_option maxRecDepth 10000
namespace Go.Am.T
attribute [local congr] selV_congr impB_congr

theorem am8_wp {N n : Nat} {args : List V} {h : Heap} {v : V} (ha : args.length = 3) (hfree : V.freeL args = true)
    (H : sx ⟨pureOf am, callA am N n, N, 0⟩ am8.body (fr am8.nt (argsF 0 args)) (deads am8.sites) (retQ am8.res fun x h' => V.shut (fun o => h'[o]?) sealDepth x = some v)) : callA am N (n + 1) 8 args h = some (v, h) :=
  call_pure at8 rfl ha (by decide) hfree (sx_wp H)

theorem may_spec {N n : Nat} (hn : 1 ≤ n) (view : Int) (h : Heap) : callA am N n 8 [.int .i64 0, .int .i64 1, .int .i64 view] h = some (.bool (mayS 0 1 view), h) := by
  obtain ⟨n, rfl⟩ : ∃ m, n = m + 1 := ⟨n - 1, by omega⟩
  have e : mayS 0 1 view = (decide (view ≥ 0) && decide (view ≤ 4611686018427387904)) := by
    unfold mayS nodeB
    simp
  refine am8_wp rfl rfl ?_
  simp +contextual -implicitDefEqProofs (maxSteps := 10000000) only [sx_seq, sxL_succ, lpQ_norm, lpQ_exit, lpQ_ret, loopQ_norm, loopQ_exit, loopQ_ret, sqQ_norm, sqQ_ret, sqQ_exit, sx_block, blkQ_norm, blkQ_exit, blkQ_ret, sx_cond, cdP_true, cdP_false, cdP_bool, sx_region, sx_draw, plainD, List.all_cons, List.all_nil, List.isEmpty_nil, List.isEmpty_cons, sxo_nil, sxo_cons, sxo_guard, gdS_bool, gdS_eff, gdS_tup, gdS_sel, gdS_seleff, sxK_def, wcall_some, effP_ret, effP_set, effP_none, effP_ite, wop_call, wop_cv, cvP_func, sx_ret, sx_exit, sx_skip, sx_clr, sx_fresh, stays, ↓selV_wt, ↓selV_wf, ↓impB_wt, ↓impB_wf, ↓selV_nor, ↓impB_nor, ↓selV_nt, ↓selV_nf, ↓impB_nt, ↓impB_nf, wantB_true, wantB_false, ↓selV_true, ↓selV_false, ↓selV_and, ↓impB_true, ↓impB_false, ↓impB_and, impB_triv, valOf_some, retH_some, ↓prim_pick, pickO_true, pickO_false, pickO_and, pickO_or, pickO_andr, pickO_orr, pickO_orrn, pickO_orn, pickO_bb, pickAnd_bool, pickOr_bool, ↓selV_nn, ↓impB_nn, Bool.and_assoc, Bool.or_assoc, doOp, ev_fr, ev_cst, put_none, put_fr, get, ins, del, dels, Nat.reduceLT, Nat.reduceEqDiff, ↓reduceIte, reduceCtorEq, ne_eq, not_false_eq_true, implies_true, framed_pureF, framed_fb, framed_N, framed_pure, wop_prim, prim, YLD, mkA, V.cells, List.getElem?_cons_zero, List.getElem?_cons_succ, List.set_cons_zero, List.set_cons_succ, Nat.zero_add, Nat.add_zero, Nat.reduceAdd, Nat.reduceSub, Nat.reduceMul, Nat.reduceLeDiff, Nat.not_lt_zero, List.map_cons, List.map_nil, List.cons_append, List.nil_append, loadA, cellsAt, nAg, packA, opt_bind_some, opt_map_some, opt_bind_none, opt_map_none, List.drop, List.take, List.head?, List.length_cons, List.length_nil, binA, unA, eqCells, eqCell, negB, fillA, sr_nil, sr_cons, sr_succ, sr_all, sr_len, storeA, Ob.with, indexedI, V.oneCell, intOf?, retQ_ret, retQ_norm, resA, resA1, fr_getD, packR, sealDepth, shut_bool, shut_int, Option.some.injEq, V.bool.injEq, V.int.injEq, Bool.not_true, Bool.not_false, true_and, and_true, and_self, Bool.and_true, Bool.and_false, Bool.true_and, Bool.false_and, Bool.or_true, Bool.or_false, Bool.true_or, Bool.false_or, Bool.false_eq_true, Int.reduceLT, Int.reduceLE, Int.reduceToNat, Int.reduceNeg, shut_plain, freeL_cons, freeL_nil, free_int, free_bool, free_agg, free_str, free_nils, free_tup, free_sl, true_implies, false_implies, Nat.sub_zero, Int.natCast_nonneg, Int.toNat_natCast, Nat.le_refl, not_true_eq_false, Int.reduceAdd, Int.reduceSub, Int.reduceMul, wrap64, false_and, and_false, cond_true, cond_false, Bool.cond_true_left, Bool.cond_false_right, Int.reduceBNe, Int.reduceBEq, decide_true, decide_false, Int.cast_ofNat_Int, Nat.mul_one, eq_self, Bool.true_eq_false, Bool.not_eq_true, Bool.not_eq_false, deads, List.replicate, argsF, am8, e]
  simp

theorem mayS_swap (view : Int) : mayS 1 0 view = mayS 0 1 view := by
  unfold mayS nodeB
  simp

/-- A move: kind, who, number, bytes. -/
structure Mv where
  kind : Int
  who : Int
  nn : Int
  bytes : List Int
  b : V
  ok : By bytes b

def Mv.cs (m : Mv) : List V := mvC m.kind m.who m.nn m.b

/-- The state at the head of a round. -/
def LostI (M : List Mv) (l : V) (i : Nat) (t : List V) (H : Heap) : Prop :=
  t = fr 255 [(1, l), (9, .ptr 0 1 0), (10, .int .i64 i)] ∧ i ≤ M.length ∧ ∃ a c sa sc sent sent' out out' S T O U R R', Duo H 0 0 .nils a c sa sc sent sent' out out' S T O U R R' ∧ sent.length ≤ i ∧ sent'.length ≤ i

theorem l4A_wp {N n : Nat} {fb : Nat} {H : Heap} {l : V} {M : List Mv} (hl : IsL l 4 (M.map Mv.cs)) {i : Nat} {m : Mv} (hi : M[i]? = some m) {w : Nat} {x : Ob} (hx : H[fb + 1]? = some x) (hv : x.ver = 0) :
    wp ⟨pureOf am, callA am N n, N, fb⟩ l4A (fr 255 [(1, l), (9, .ptr w 1 0), (10, .int .i64 i)]) H fun e t' H' => e = .norm ∧ t' = fr 255 [(1, l), (9, .ptr w 1 0), (10, .int .i64 i), (11, .ptr (fb + 1) 1 0)] ∧ H' = H.set (fb + 1) ⟨1, .var m.cs⟩ := by
  have hat := hl.at_ i
  rw [List.getElem?_map, hi] at hat
  simp only [Option.map_some] at hat
  have hlt := lt_of_get hx
  have q4 : m.cs.length = 4 := rfl
  have t4 : List.take 4 m.cs = m.cs := rfl
  have gs : ∀ y : Ob, (H.set (fb + 1) y)[fb + 1]? = some y := fun y => List.getElem?_set_self hlt
  have ss : ∀ y z : Ob, (H.set (fb + 1) y).set (fb + 1) z = H.set (fb + 1) z := fun y z => List.set_set ..
  have s4 : setRange [V.int .i64 0, .int .i64 0, .int .i64 0, .nils] 0 m.cs = m.cs := sr_all rfl
  have o4 : m.cs.all V.oneCell = true := by
    show (true && (true && (true && (m.b.oneCell && true)))) = true
    rw [m.ok.one]; rfl
  refine sx_wp ?_
  obtain ⟨v, bd⟩ := x
  simp only at hv
  subst hv
  generalize m.cs = cs at *
  simp +contextual -implicitDefEqProofs (maxSteps := 10000000) only [sx_seq, sxL_succ, lpQ_norm, lpQ_exit, lpQ_ret, loopQ_norm, loopQ_exit, loopQ_ret, sqQ_norm, sqQ_ret, sqQ_exit, sx_block, blkQ_norm, blkQ_exit, blkQ_ret, sx_cond, cdP_true, cdP_false, cdP_bool, sx_region, sx_draw, plainD, List.all_cons, List.all_nil, List.isEmpty_nil, List.isEmpty_cons, sxo_nil, sxo_cons, sxo_guard, gdS_bool, gdS_eff, gdS_tup, gdS_sel, gdS_seleff, sxK_def, wcall_some, effP_ret, effP_set, effP_none, effP_ite, wop_call, wop_cv, cvP_func, sx_ret, sx_exit, sx_skip, sx_clr, sx_fresh, stays, ↓selV_wt, ↓selV_wf, ↓impB_wt, ↓impB_wf, ↓selV_nor, ↓impB_nor, ↓selV_nt, ↓selV_nf, ↓impB_nt, ↓impB_nf, wantB_true, wantB_false, ↓selV_true, ↓selV_false, ↓selV_and, ↓impB_true, ↓impB_false, ↓impB_and, impB_triv, valOf_some, retH_some, ↓prim_pick, pickO_true, pickO_false, pickO_and, pickO_or, pickO_andr, pickO_orr, pickO_orrn, pickO_orn, pickO_bb, pickAnd_bool, pickOr_bool, ↓selV_nn, ↓impB_nn, Bool.and_assoc, Bool.or_assoc, doOp, ev_fr, ev_cst, put_none, put_fr, get, ins, del, dels, Nat.reduceLT, Nat.reduceEqDiff, ↓reduceIte, reduceCtorEq, ne_eq, not_false_eq_true, implies_true, framed_pureF, framed_fb, framed_N, framed_pure, wop_prim, prim, YLD, mkA, V.cells, List.getElem?_cons_zero, List.getElem?_cons_succ, List.set_cons_zero, List.set_cons_succ, Nat.zero_add, Nat.add_zero, Nat.reduceAdd, Nat.reduceSub, Nat.reduceMul, Nat.reduceLeDiff, Nat.not_lt_zero, List.map_cons, List.map_nil, List.cons_append, List.nil_append, loadA, cellsAt, nAg, packA, opt_bind_some, opt_map_some, opt_bind_none, opt_map_none, List.drop, List.take, List.head?, List.length_cons, List.length_nil, binA, unA, eqCells, eqCell, negB, fillA, sr_nil, sr_cons, sr_succ, sr_all, sr_len, storeA, Ob.with, indexedI, V.oneCell, intOf?, retQ_ret, retQ_norm, resA, resA1, fr_getD, packR, sealDepth, shut_bool, shut_int, Option.some.injEq, V.bool.injEq, V.int.injEq, Bool.not_true, Bool.not_false, true_and, and_true, and_self, Bool.and_true, Bool.and_false, Bool.true_and, Bool.false_and, Bool.or_true, Bool.or_false, Bool.true_or, Bool.false_or, Bool.false_eq_true, Int.reduceLT, Int.reduceLE, Int.reduceToNat, Int.reduceNeg, shut_plain, freeL_cons, freeL_nil, free_int, free_bool, free_agg, free_str, free_nils, free_tup, free_sl, true_implies, false_implies, Nat.sub_zero, Int.natCast_nonneg, Int.toNat_natCast, Nat.le_refl, not_true_eq_false, Int.reduceAdd, Int.reduceSub, Int.reduceMul, wrap64, false_and, and_false, cond_true, cond_false, Bool.cond_true_left, Bool.cond_false_right, Int.reduceBNe, Int.reduceBEq, decide_true, decide_false, Int.cast_ofNat_Int, Nat.mul_one, eq_self, Bool.true_eq_false, Bool.not_eq_true, Bool.not_eq_false, deads, List.replicate, argsF, l4A, hat, hx, hlt, q4, t4, s4, o4, gs, ss]

theorem l4B_wp {N n : Nat} {fb : Nat} {H : Heap} {l : V} {i : Nat} {m : Mv} {w k : Nat} (hm : H[fb + 1]? = some ⟨1, .var m.cs⟩) (hk : IntKind.i64.wrap ((BitVec.ofInt IntKind.i64.bits m.who) &&& (BitVec.ofInt IntKind.i64.bits 1)).toNat = (k : Int)) :
    wp ⟨pureOf am, callA am N n, N, fb⟩ l4B (fr 255 [(1, l), (9, .ptr w 1 0), (10, .int .i64 i), (11, .ptr (fb + 1) 1 0)]) H fun e t' H' => e = .norm ∧ t' = slots l w i (fb + 1) k ∧ H' = H := by
  unfold Mv.cs mvC at hm
  unfold slots
  refine sx_wp ?_
  simp +contextual -implicitDefEqProofs (maxSteps := 10000000) only [sx_seq, sxL_succ, lpQ_norm, lpQ_exit, lpQ_ret, loopQ_norm, loopQ_exit, loopQ_ret, sqQ_norm, sqQ_ret, sqQ_exit, sx_block, blkQ_norm, blkQ_exit, blkQ_ret, sx_cond, cdP_true, cdP_false, cdP_bool, sx_region, sx_draw, plainD, List.all_cons, List.all_nil, List.isEmpty_nil, List.isEmpty_cons, sxo_nil, sxo_cons, sxo_guard, gdS_bool, gdS_eff, gdS_tup, gdS_sel, gdS_seleff, sxK_def, wcall_some, effP_ret, effP_set, effP_none, effP_ite, wop_call, wop_cv, cvP_func, sx_ret, sx_exit, sx_skip, sx_clr, sx_fresh, stays, ↓selV_wt, ↓selV_wf, ↓impB_wt, ↓impB_wf, ↓selV_nor, ↓impB_nor, ↓selV_nt, ↓selV_nf, ↓impB_nt, ↓impB_nf, wantB_true, wantB_false, ↓selV_true, ↓selV_false, ↓selV_and, ↓impB_true, ↓impB_false, ↓impB_and, impB_triv, valOf_some, retH_some, ↓prim_pick, pickO_true, pickO_false, pickO_and, pickO_or, pickO_andr, pickO_orr, pickO_orrn, pickO_orn, pickO_bb, pickAnd_bool, pickOr_bool, ↓selV_nn, ↓impB_nn, Bool.and_assoc, Bool.or_assoc, doOp, ev_fr, ev_cst, put_none, put_fr, get, ins, del, dels, Nat.reduceLT, Nat.reduceEqDiff, ↓reduceIte, reduceCtorEq, ne_eq, not_false_eq_true, implies_true, framed_pureF, framed_fb, framed_N, framed_pure, wop_prim, prim, YLD, mkA, V.cells, List.getElem?_cons_zero, List.getElem?_cons_succ, List.set_cons_zero, List.set_cons_succ, Nat.zero_add, Nat.add_zero, Nat.reduceAdd, Nat.reduceSub, Nat.reduceMul, Nat.reduceLeDiff, Nat.not_lt_zero, List.map_cons, List.map_nil, List.cons_append, List.nil_append, loadA, cellsAt, nAg, packA, opt_bind_some, opt_map_some, opt_bind_none, opt_map_none, List.drop, List.take, List.head?, List.length_cons, List.length_nil, binA, unA, eqCells, eqCell, negB, fillA, sr_nil, sr_cons, sr_succ, sr_all, sr_len, storeA, Ob.with, indexedI, V.oneCell, intOf?, retQ_ret, retQ_norm, resA, resA1, fr_getD, packR, sealDepth, shut_bool, shut_int, Option.some.injEq, V.bool.injEq, V.int.injEq, Bool.not_true, Bool.not_false, true_and, and_true, and_self, Bool.and_true, Bool.and_false, Bool.true_and, Bool.false_and, Bool.or_true, Bool.or_false, Bool.true_or, Bool.false_or, Bool.false_eq_true, Int.reduceLT, Int.reduceLE, Int.reduceToNat, Int.reduceNeg, shut_plain, freeL_cons, freeL_nil, free_int, free_bool, free_agg, free_str, free_nils, free_tup, free_sl, true_implies, false_implies, Nat.sub_zero, Int.natCast_nonneg, Int.toNat_natCast, Nat.le_refl, not_true_eq_false, Int.reduceAdd, Int.reduceSub, Int.reduceMul, wrap64, false_and, and_false, cond_true, cond_false, Bool.cond_true_left, Bool.cond_false_right, Int.reduceBNe, Int.reduceBEq, decide_true, decide_false, Int.cast_ofNat_Int, Nat.mul_one, eq_self, Bool.true_eq_false, Bool.not_eq_true, Bool.not_eq_false, deads, List.replicate, argsF, l4B, hm, hk]

/-- A round. -/
theorem l4K_wp {N n : Nat} (hN : 1500 ≤ N) (hn : 5 ≤ n) {H0 : Heap} {l : V} {M : List Mv} (hl : IsL l 4 (M.map Mv.cs)) {i : Nat} {m : Mv} (hi : M[i]? = some m) (hi60 : i < 80)
    {a c : Nat} {sa sc : Ses} {sent sent' out out' : List (List Int)} {S T O U : V} {R R' : List Nat} (D : Duo H0 0 0 .nils a c sa sc sent sent' out out' S T O U R R') (h1 : sent.length ≤ i) (h2 : sent'.length ≤ i) :
    wp ⟨pureOf am, callA am N n, N, H0.length⟩ l4K (fr 255 [(1, l), (9, .ptr 0 1 0), (10, .int .i64 i)]) (H0 ++ deads 4) fun e t' H' => e = .norm ∧ t' = fr 255 [(1, l), (9, .ptr 0 1 0), (10, .int .i64 i)] ∧
      ∃ a c sa sc sent sent' out out' S T O U R R', Duo H' 0 0 .nils a c sa sc sent sent' out out' S T O U R R' ∧ sent.length ≤ i + 1 ∧ sent'.length ≤ i + 1 := by
  have hlt := D.lt
  rw [l4K_is]
  refine wp_cutM (fun t' H' => t' = fr 255 [(1, l), (9, .ptr 0 1 0), (10, .int .i64 i), (11, .ptr (H0.length + 1) 1 0)] ∧ H' = (H0 ++ deads 4).set (H0.length + 1) ⟨1, .var m.cs⟩) (l4A_wp hl hi (x := ⟨0, .dead⟩) (by rw [app_get]; rfl) rfl) ?_
  rintro t H ⟨rfl, rfl⟩
  obtain ⟨k, hk, hkk⟩ := and_one m.who
  have gx : ∀ j, j ≠ 1 → j < 4 → ((H0 ++ deads 4).set (H0.length + 1) ⟨1, .var m.cs⟩)[H0.length + j]? = some ⟨0, .dead⟩ := fun j h1 h2 => by
    rw [List.getElem?_set_ne (by omega), app_get]
    match j, h1, h2 with
    | 0, _, _ => rfl
    | 2, _, _ => rfl
    | 3, _, _ => rfl
  have gm : ((H0 ++ deads 4).set (H0.length + 1) ⟨1, .var m.cs⟩)[H0.length + 1]? = some ⟨1, .var m.cs⟩ := by rw [List.getElem?_set_self (by simp [deads])]
  have go : ∀ o, o < H0.length → ((H0 ++ deads 4).set (H0.length + 1) ⟨1, .var m.cs⟩)[o]? = H0[o]? := fun o ho => by
    rw [List.getElem?_set_ne (by omega), List.getElem?_append_left ho]
  have D1 := D.keep (fun o ho => go o (hlt o ho))
  refine wp_cutM (fun t' H' => t' = slots l 0 i (H0.length + 1) k ∧ H' = (H0 ++ deads 4).set (H0.length + 1) ⟨1, .var m.cs⟩) (l4B_wp gm hkk) ?_
  rintro t H ⟨rfl, rfl⟩
  generalize ((H0 ++ deads 4).set (H0.length + 1) ⟨1, .var m.cs⟩) = H1 at *
  -- told from who it is
  have key : ∀ (a c : Nat) (sa sc : Ses) (sent sent' out out' : List (List Int)) (S T O U : V) (R R' : List Nat), Duo H1 0 k .nils a c sa sc sent sent' out out' S T O U R R' → sent.length ≤ i → sent'.length ≤ i → (∀ o, o = 0 ∨ o ∈ R ∨ o ∈ R' → o < H0.length) →
      wp ⟨pureOf am, callA am N n, N, H0.length⟩ (.seq l4C (.seq l4D l4E)) (slots l 0 i (H0.length + 1) k) H1 fun e t' H' => e = .norm ∧ t' = fr 255 [(1, l), (9, .ptr 0 1 0), (10, .int .i64 i)] ∧
        ∃ a c sa sc sent sent' out out' S T O U R R', Duo H' 0 k .nils a c sa sc sent sent' out out' S T O U R R' ∧ sent.length ≤ i + 1 ∧ sent'.length ≤ i + 1 := by
    intro a c sa sc sent sent' out out' S T O U R R' D h1 h2 hlt
    refine wp_cutM _ (l4C_wp hN hn D hk m.kind m.who m.nn m.ok gm (gx 2 (by omega) (by omega)) (gx 3 (by omega) (by omega)) hlt (by omega) l i) ?_
    rintro t H2 ⟨rfl, hm2, hle2, sent1, S1, R1, D2, hs1, hmR1⟩
    refine wp_cutM _ (l4D_wp hN hn D2 hk m.kind m.who m.nn hm2 ⟨by omega, hmR1, fun h => by have := hlt _ (.inr (.inr h)); omega⟩ l i) ?_
    rintro t H3 ⟨rfl, hle3, sa1, sc1, out1, U1, R2, D3⟩
    refine wp_mono (l4E_wp hN hn D3 hk l i) ?_
    rintro e t H4 ⟨rfl, rfl, hle4, D4⟩
    exact ⟨rfl, rfl, _, _, _, _, _, _, _, _, _, _, _, _, _, _, D4, by omega, by omega⟩
  rcases two_cases hk with rfl | rfl
  · exact key _ _ _ _ _ _ _ _ _ _ _ _ _ _ D1 h1 h2 hlt
  · refine wp_mono (key _ _ _ _ _ _ _ _ _ _ _ _ _ _ (D1.swap (by omega)) h2 h1 (fun o ho => hlt o (by rcases ho with h | h | h <;> simp [h]))) ?_
    rintro e t H4 ⟨rfl, rfl, a, c, sa, sc, sent, sent', out, out', S, T, O, U, R, R', D4, q1, q2⟩
    exact ⟨rfl, rfl, _, _, _, _, _, _, _, _, _, _, _, _, _, _, D4.swap (k := 1) (by omega), q2, q1⟩

theorem am4_wp {N n : Nat} {args : List V} {h : Heap} {v : V} (ha : args.length = 2) (hfree : V.freeL args = true)
    (H : sx ⟨pureOf am, callA am N n, N, 0⟩ am4.body (fr am4.nt (argsF 0 args)) (deads am4.sites) (retQ am4.res fun x h' => V.shut (fun o => h'[o]?) sealDepth x = some v)) : callA am N (n + 1) 4 args h = some (v, h) :=
  call_auto at4 rfl ha (by decide) hfree (sx_wp H)

theorem Bys.els {H : Heap} {B : List (List Int)} {L : List V} (h : Bys B L) : Els H B L := ⟨h.1, fun i e l h1 h2 => .inl (h.2 i e l h1 h2).1⟩

/-- Two new ends. -/
theorem duo_new (view : Int) : Duo [⟨1, .var (twoC 4 5 .nils .nils .nils .nils .nils)⟩, ⟨0, .dead⟩, ⟨0, .dead⟩, ⟨0, .dead⟩, ⟨1, .var ((newS 0 1 view).cs .nils)⟩, ⟨1, .var ((newS 1 0 view).cs .nils)⟩] 0 0 .nils 4 5 (newS 0 1 view) (newS 1 0 view) [] [] [] [] .nils .nils .nils .nils [4] [5] := by
  have e : ∀ {H : Heap}, WRow H .nils [] [] := .inl ⟨rfl, rfl, rfl⟩
  have s : ∀ {H : Heap} {a : Nat} {s : Ses}, H[a]? = some ⟨1, .var (s.cs .nils)⟩ → SAt H a s [] .nils [] := fun h => ⟨h, e, fun c hc => (by cases hc), by simp⟩
  have b : Bys [] [] := ⟨rfl, fun i b l h => by simp at h⟩
  exact ⟨rfl, ⟨[], .nils, [], [], [], [], [], s rfl, b, e, Els.nil, e, b, ⟨Int.le_refl 1, rfl, Int.le_refl 0, Nat.le_refl 0, rfl, by decide⟩, rfl, by decide⟩, ⟨[], .nils, [], [], [], [], [], s rfl, b, e, Els.nil, e, b, ⟨Int.le_refl 1, rfl, Int.le_refl 0, Nat.le_refl 0, rfl, by decide⟩, rfl, by decide⟩,
    by decide, by decide, by decide, rfl, rfl, rfl, rfl, rfl, ⟨[], rfl⟩, ⟨[], rfl⟩, ⟨Int.le_refl 0, by show (0 : Int) ≤ 2000; decide⟩, ⟨Int.le_refl 0, by show (0 : Int) ≤ 2000; decide⟩⟩

set_option maxHeartbeats 4000000 in
theorem lost_spec {N n : Nat} (hN : 1500 ≤ N) (hn : 25 ≤ n) (view : Int) (l : V) (M : List Mv) (hl : IsL l 4 (M.map Mv.cs)) (h : Heap) : callA am N n 4 [.int .i64 view, l] h = some (.bool true, h) := by
  obtain ⟨n, rfl⟩ : ∃ m, n = m + 1 := ⟨n - 1, by omega⟩
  have c9 := @known_spec N n (by omega) (by omega)
  have c8 := @may_spec N n (by omega) view
  have la := hl.len
  rw [List.length_map] at la
  have ln := hl.nstr
  have hfree : V.freeL [.int .i64 view, l] = true := by simp only [freeL_cons, freeL_nil, hl.free, free_int, Bool.and_self]
  refine am4_wp rfl hfree ?_
  cases hm : mayS 0 1 view with
  | false =>
    have c7 := @new_no N n (by omega) 0 1 view hm
    have c7' := @new_no N n (by omega) 1 0 view ((mayS_swap view).trans hm)
    simp +contextual -implicitDefEqProofs (maxSteps := 10000000) only [sx_seq, sxL_succ, lpQ_norm, lpQ_exit, lpQ_ret, loopQ_norm, loopQ_exit, loopQ_ret, sqQ_norm, sqQ_ret, sqQ_exit, sx_block, blkQ_norm, blkQ_exit, blkQ_ret, sx_cond, cdP_true, cdP_false, cdP_bool, sx_region, sx_draw, plainD, List.all_cons, List.all_nil, List.isEmpty_nil, List.isEmpty_cons, sxo_nil, sxo_cons, sxo_guard, gdS_bool, gdS_eff, gdS_tup, gdS_sel, gdS_seleff, sxK_def, wcall_some, effP_ret, effP_set, effP_none, effP_ite, wop_call, wop_cv, cvP_func, sx_ret, sx_exit, sx_skip, sx_clr, sx_fresh, stays, ↓selV_wt, ↓selV_wf, ↓impB_wt, ↓impB_wf, ↓selV_nor, ↓impB_nor, ↓selV_nt, ↓selV_nf, ↓impB_nt, ↓impB_nf, wantB_true, wantB_false, ↓selV_true, ↓selV_false, ↓selV_and, ↓impB_true, ↓impB_false, ↓impB_and, impB_triv, valOf_some, retH_some, ↓prim_pick, pickO_true, pickO_false, pickO_and, pickO_or, pickO_andr, pickO_orr, pickO_orrn, pickO_orn, pickO_bb, pickAnd_bool, pickOr_bool, ↓selV_nn, ↓impB_nn, Bool.and_assoc, Bool.or_assoc, doOp, ev_fr, ev_cst, put_none, put_fr, get, ins, del, dels, Nat.reduceLT, Nat.reduceEqDiff, ↓reduceIte, reduceCtorEq, ne_eq, not_false_eq_true, implies_true, framed_pureF, framed_fb, framed_N, framed_pure, wop_prim, prim, YLD, mkA, V.cells, List.getElem?_cons_zero, List.getElem?_cons_succ, List.set_cons_zero, List.set_cons_succ, Nat.zero_add, Nat.add_zero, Nat.reduceAdd, Nat.reduceSub, Nat.reduceMul, Nat.reduceLeDiff, Nat.not_lt_zero, List.map_cons, List.map_nil, List.cons_append, List.nil_append, loadA, cellsAt, nAg, packA, opt_bind_some, opt_map_some, opt_bind_none, opt_map_none, List.drop, List.take, List.head?, List.length_cons, List.length_nil, binA, unA, eqCells, eqCell, negB, fillA, sr_nil, sr_cons, sr_succ, sr_all, sr_len, storeA, Ob.with, indexedI, V.oneCell, intOf?, retQ_ret, retQ_norm, resA, resA1, fr_getD, packR, sealDepth, shut_bool, shut_int, Option.some.injEq, V.bool.injEq, V.int.injEq, Bool.not_true, Bool.not_false, true_and, and_true, and_self, Bool.and_true, Bool.and_false, Bool.true_and, Bool.false_and, Bool.or_true, Bool.or_false, Bool.true_or, Bool.false_or, Bool.false_eq_true, Int.reduceLT, Int.reduceLE, Int.reduceToNat, Int.reduceNeg, shut_plain, freeL_cons, freeL_nil, free_int, free_bool, free_agg, free_str, free_nils, free_tup, free_sl, true_implies, false_implies, Nat.sub_zero, Int.natCast_nonneg, Int.toNat_natCast, Nat.le_refl, not_true_eq_false, Int.reduceAdd, Int.reduceSub, Int.reduceMul, wrap64, false_and, and_false, cond_true, cond_false, Bool.cond_true_left, Bool.cond_false_right, Int.reduceBNe, Int.reduceBEq, decide_true, decide_false, Int.cast_ofNat_Int, Nat.mul_one, eq_self, Bool.true_eq_false, Bool.not_eq_true, Bool.not_eq_false, deads, List.replicate, argsF, am4, c7, c7', c8, hm, c9, pm9]
    rfl
  | true =>
    have c7 := @new_ok N n (by omega) 0 1 view hm
    have c7' := @new_ok N n (by omega) 1 0 view ((mayS_swap view).trans hm)
    by_cases h60 : M.length ≤ 60
    · have g1 : decide ((M.length : Int) > 60) = false := decide_eq_false (by omega)
      simp +contextual -implicitDefEqProofs (maxSteps := 10000000) only [sx_seq, sxL_succ, lpQ_norm, lpQ_exit, lpQ_ret, loopQ_norm, loopQ_exit, loopQ_ret, sqQ_norm, sqQ_ret, sqQ_exit, sx_block, blkQ_norm, blkQ_exit, blkQ_ret, sx_cond, cdP_true, cdP_false, cdP_bool, sx_region, sx_draw, plainD, List.all_cons, List.all_nil, List.isEmpty_nil, List.isEmpty_cons, sxo_nil, sxo_cons, sxo_guard, gdS_bool, gdS_eff, gdS_tup, gdS_sel, gdS_seleff, sxK_def, wcall_some, effP_ret, effP_set, effP_none, effP_ite, wop_call, wop_cv, cvP_func, sx_ret, sx_exit, sx_skip, sx_clr, sx_fresh, stays, ↓selV_wt, ↓selV_wf, ↓impB_wt, ↓impB_wf, ↓selV_nor, ↓impB_nor, ↓selV_nt, ↓selV_nf, ↓impB_nt, ↓impB_nf, wantB_true, wantB_false, ↓selV_true, ↓selV_false, ↓selV_and, ↓impB_true, ↓impB_false, ↓impB_and, impB_triv, valOf_some, retH_some, ↓prim_pick, pickO_true, pickO_false, pickO_and, pickO_or, pickO_andr, pickO_orr, pickO_orrn, pickO_orn, pickO_bb, pickAnd_bool, pickOr_bool, ↓selV_nn, ↓impB_nn, Bool.and_assoc, Bool.or_assoc, doOp, ev_fr, ev_cst, put_none, put_fr, get, ins, del, dels, Nat.reduceLT, Nat.reduceEqDiff, ↓reduceIte, reduceCtorEq, ne_eq, not_false_eq_true, implies_true, framed_pureF, framed_fb, framed_N, framed_pure, wop_prim, prim, YLD, mkA, V.cells, List.getElem?_cons_zero, List.getElem?_cons_succ, List.set_cons_zero, List.set_cons_succ, Nat.zero_add, Nat.add_zero, Nat.reduceAdd, Nat.reduceSub, Nat.reduceMul, Nat.reduceLeDiff, Nat.not_lt_zero, List.map_cons, List.map_nil, List.cons_append, List.nil_append, loadA, cellsAt, nAg, packA, opt_bind_some, opt_map_some, opt_bind_none, opt_map_none, List.drop, List.take, List.head?, List.length_cons, List.length_nil, binA, unA, eqCells, eqCell, negB, fillA, sr_nil, sr_cons, sr_succ, sr_all, sr_len, storeA, Ob.with, indexedI, V.oneCell, intOf?, retQ_ret, retQ_norm, resA, resA1, fr_getD, packR, sealDepth, shut_bool, shut_int, Option.some.injEq, V.bool.injEq, V.int.injEq, Bool.not_true, Bool.not_false, true_and, and_true, and_self, Bool.and_true, Bool.and_false, Bool.true_and, Bool.false_and, Bool.or_true, Bool.or_false, Bool.true_or, Bool.false_or, Bool.false_eq_true, Int.reduceLT, Int.reduceLE, Int.reduceToNat, Int.reduceNeg, shut_plain, freeL_cons, freeL_nil, free_int, free_bool, free_agg, free_str, free_nils, free_tup, free_sl, true_implies, false_implies, Nat.sub_zero, Int.natCast_nonneg, Int.toNat_natCast, Nat.le_refl, not_true_eq_false, Int.reduceAdd, Int.reduceSub, Int.reduceMul, wrap64, false_and, and_false, cond_true, cond_false, Bool.cond_true_left, Bool.cond_false_right, Int.reduceBNe, Int.reduceBEq, decide_true, decide_false, Int.cast_ofNat_Int, Nat.mul_one, eq_self, Bool.true_eq_false, Bool.not_eq_true, Bool.not_eq_false, deads, List.replicate, argsF, am4, c7, c7', c8, hm, c9, pm9, la, g1]
      refine wp_loop (LostI M l) M.length (by show M.length < N; omega) ⟨rfl, Nat.zero_le _, 4, 5, newS 0 1 view, newS 1 0 view, [], [], [], [], .nils, .nils, .nils, .nils, [4], [5], duo_new view, Nat.le_refl _, Nat.le_refl _⟩ ?_
      rintro i t H hi ⟨rfl, hiM, a, c, sa, sc, sent, sent', out, out', S, T, O, U, R, R', D, q1, q2⟩
      show wp _ (.fresh 4 (.seq l4p (.seq (.block 1 l4K) l4q))) _ _ _
      rw [wp_fresh]
      by_cases hlt : i < M.length
      · have g2 : decide ((i : Int) < (M.length : Int)) = true := decide_eq_true (by omega)
        have w4 : IntKind.i64.wrap ((i : Int) + 1) = ((i + 1 : Nat) : Int) := (wrap64 (by omega) (by omega)).trans (by omega)
        have hi1 : i + 1 ≤ M.length := by omega
        refine wp_cutM (fun t' H' => t' = fr 255 [(1, l), (9, .ptr 0 1 0), (10, .int .i64 i)] ∧ H' = H ++ deads 4) (sx_wp (by simp +contextual -implicitDefEqProofs (maxSteps := 10000000) only [sx_seq, sxL_succ, lpQ_norm, lpQ_exit, lpQ_ret, loopQ_norm, loopQ_exit, loopQ_ret, sqQ_norm, sqQ_ret, sqQ_exit, sx_block, blkQ_norm, blkQ_exit, blkQ_ret, sx_cond, cdP_true, cdP_false, cdP_bool, sx_region, sx_draw, plainD, List.all_cons, List.all_nil, List.isEmpty_nil, List.isEmpty_cons, sxo_nil, sxo_cons, sxo_guard, gdS_bool, gdS_eff, gdS_tup, gdS_sel, gdS_seleff, sxK_def, wcall_some, effP_ret, effP_set, effP_none, effP_ite, wop_call, wop_cv, cvP_func, sx_ret, sx_exit, sx_skip, sx_clr, sx_fresh, stays, ↓selV_wt, ↓selV_wf, ↓impB_wt, ↓impB_wf, ↓selV_nor, ↓impB_nor, ↓selV_nt, ↓selV_nf, ↓impB_nt, ↓impB_nf, wantB_true, wantB_false, ↓selV_true, ↓selV_false, ↓selV_and, ↓impB_true, ↓impB_false, ↓impB_and, impB_triv, valOf_some, retH_some, ↓prim_pick, pickO_true, pickO_false, pickO_and, pickO_or, pickO_andr, pickO_orr, pickO_orrn, pickO_orn, pickO_bb, pickAnd_bool, pickOr_bool, ↓selV_nn, ↓impB_nn, Bool.and_assoc, Bool.or_assoc, doOp, ev_fr, ev_cst, put_none, put_fr, get, ins, del, dels, Nat.reduceLT, Nat.reduceEqDiff, ↓reduceIte, reduceCtorEq, ne_eq, not_false_eq_true, implies_true, framed_pureF, framed_fb, framed_N, framed_pure, wop_prim, prim, YLD, mkA, V.cells, List.getElem?_cons_zero, List.getElem?_cons_succ, List.set_cons_zero, List.set_cons_succ, Nat.zero_add, Nat.add_zero, Nat.reduceAdd, Nat.reduceSub, Nat.reduceMul, Nat.reduceLeDiff, Nat.not_lt_zero, List.map_cons, List.map_nil, List.cons_append, List.nil_append, loadA, cellsAt, nAg, packA, opt_bind_some, opt_map_some, opt_bind_none, opt_map_none, List.drop, List.take, List.head?, List.length_cons, List.length_nil, binA, unA, eqCells, eqCell, negB, fillA, sr_nil, sr_cons, sr_succ, sr_all, sr_len, storeA, Ob.with, indexedI, V.oneCell, intOf?, retQ_ret, retQ_norm, resA, resA1, fr_getD, packR, sealDepth, shut_bool, shut_int, Option.some.injEq, V.bool.injEq, V.int.injEq, Bool.not_true, Bool.not_false, true_and, and_true, and_self, Bool.and_true, Bool.and_false, Bool.true_and, Bool.false_and, Bool.or_true, Bool.or_false, Bool.true_or, Bool.false_or, Bool.false_eq_true, Int.reduceLT, Int.reduceLE, Int.reduceToNat, Int.reduceNeg, shut_plain, freeL_cons, freeL_nil, free_int, free_bool, free_agg, free_str, free_nils, free_tup, free_sl, true_implies, false_implies, Nat.sub_zero, Int.natCast_nonneg, Int.toNat_natCast, Nat.le_refl, not_true_eq_false, Int.reduceAdd, Int.reduceSub, Int.reduceMul, wrap64, false_and, and_false, cond_true, cond_false, Bool.cond_true_left, Bool.cond_false_right, Int.reduceBNe, Int.reduceBEq, decide_true, decide_false, Int.cast_ofNat_Int, Nat.mul_one, eq_self, Bool.true_eq_false, Bool.not_eq_true, Bool.not_eq_false, deads, List.replicate, argsF, l4p, la, g2])) ?_
        rintro t1 H1 ⟨rfl, rfl⟩
        refine wp_cutM (fun t' H' => t' = fr 255 [(1, l), (9, .ptr 0 1 0), (10, .int .i64 i)] ∧ ∃ a c sa sc sent sent' out out' S T O U R R', Duo H' 0 0 .nils a c sa sc sent sent' out out' S T O U R R' ∧ sent.length ≤ i + 1 ∧ sent'.length ≤ i + 1) ?_ ?_
        · rw [wp_block]
          refine wp_mono (l4K_wp hN (by omega) hl (List.getElem?_eq_getElem hlt) (by omega) D q1 q2) ?_
          rintro e t2 H2 ⟨rfl, h2⟩
          exact ⟨rfl, h2⟩
        · rintro t2 H2 ⟨rfl, h2⟩
          refine sx_wp ?_
          simp +contextual -implicitDefEqProofs (maxSteps := 10000000) only [sx_seq, sxL_succ, lpQ_norm, lpQ_exit, lpQ_ret, loopQ_norm, loopQ_exit, loopQ_ret, sqQ_norm, sqQ_ret, sqQ_exit, sx_block, blkQ_norm, blkQ_exit, blkQ_ret, sx_cond, cdP_true, cdP_false, cdP_bool, sx_region, sx_draw, plainD, List.all_cons, List.all_nil, List.isEmpty_nil, List.isEmpty_cons, sxo_nil, sxo_cons, sxo_guard, gdS_bool, gdS_eff, gdS_tup, gdS_sel, gdS_seleff, sxK_def, wcall_some, effP_ret, effP_set, effP_none, effP_ite, wop_call, wop_cv, cvP_func, sx_ret, sx_exit, sx_skip, sx_clr, sx_fresh, stays, ↓selV_wt, ↓selV_wf, ↓impB_wt, ↓impB_wf, ↓selV_nor, ↓impB_nor, ↓selV_nt, ↓selV_nf, ↓impB_nt, ↓impB_nf, wantB_true, wantB_false, ↓selV_true, ↓selV_false, ↓selV_and, ↓impB_true, ↓impB_false, ↓impB_and, impB_triv, valOf_some, retH_some, ↓prim_pick, pickO_true, pickO_false, pickO_and, pickO_or, pickO_andr, pickO_orr, pickO_orrn, pickO_orn, pickO_bb, pickAnd_bool, pickOr_bool, ↓selV_nn, ↓impB_nn, Bool.and_assoc, Bool.or_assoc, doOp, ev_fr, ev_cst, put_none, put_fr, get, ins, del, dels, Nat.reduceLT, Nat.reduceEqDiff, ↓reduceIte, reduceCtorEq, ne_eq, not_false_eq_true, implies_true, framed_pureF, framed_fb, framed_N, framed_pure, wop_prim, prim, YLD, mkA, V.cells, List.getElem?_cons_zero, List.getElem?_cons_succ, List.set_cons_zero, List.set_cons_succ, Nat.zero_add, Nat.add_zero, Nat.reduceAdd, Nat.reduceSub, Nat.reduceMul, Nat.reduceLeDiff, Nat.not_lt_zero, List.map_cons, List.map_nil, List.cons_append, List.nil_append, loadA, cellsAt, nAg, packA, opt_bind_some, opt_map_some, opt_bind_none, opt_map_none, List.drop, List.take, List.head?, List.length_cons, List.length_nil, binA, unA, eqCells, eqCell, negB, fillA, sr_nil, sr_cons, sr_succ, sr_all, sr_len, storeA, Ob.with, indexedI, V.oneCell, intOf?, retQ_ret, retQ_norm, resA, resA1, fr_getD, packR, sealDepth, shut_bool, shut_int, Option.some.injEq, V.bool.injEq, V.int.injEq, Bool.not_true, Bool.not_false, true_and, and_true, and_self, Bool.and_true, Bool.and_false, Bool.true_and, Bool.false_and, Bool.or_true, Bool.or_false, Bool.true_or, Bool.false_or, Bool.false_eq_true, Int.reduceLT, Int.reduceLE, Int.reduceToNat, Int.reduceNeg, shut_plain, freeL_cons, freeL_nil, free_int, free_bool, free_agg, free_str, free_nils, free_tup, free_sl, true_implies, false_implies, Nat.sub_zero, Int.natCast_nonneg, Int.toNat_natCast, Nat.le_refl, not_true_eq_false, Int.reduceAdd, Int.reduceSub, Int.reduceMul, wrap64, false_and, and_false, cond_true, cond_false, Bool.cond_true_left, Bool.cond_false_right, Int.reduceBNe, Int.reduceBEq, decide_true, decide_false, Int.cast_ofNat_Int, Nat.mul_one, eq_self, Bool.true_eq_false, Bool.not_eq_true, Bool.not_eq_false, deads, List.replicate, argsF, l4q, w4]
          exact ⟨hlt, rfl, hi1, h2⟩
      · have e : i = M.length := by omega
        subst e
        have g2 : decide ((M.length : Int) < (M.length : Int)) = false := decide_eq_false (by omega)
        have D1 := D.keep (H' := H ++ deads 4) (fun o ho => List.getElem?_append_left (D.lt o ho))
        obtain ⟨L, W, Rw, LS, RS, LO, RO, hS, hB, hSr, hEl, hO, hBo, hE, hRs, hnd⟩ := D1.near.all
        obtain ⟨L', W', Rw', LS', RS', LO', RO', hS', hB', hSr', hEl', hO', hBo', hE', hRs', hnd'⟩ := D1.far.all
        obtain ⟨r0, p0⟩ := D1.pre
        obtain ⟨r1, p1⟩ := D1.pre'
        have c14 := @right_spec N n hN (by omega) _ _ _ _ _ _ _ _ D1.ob _ _ _ _ _ _ _ _ hS hS' _ _ _ _ (hSr.erow hEl) (hSr'.erow hEl') (hO.erow hBo.els) (hO'.erow hBo'.els) _ _ p0 p1 (by omega) (by omega)
        refine sx_wp ?_
        simp only [deads, List.replicate] at c14
        simp +contextual -implicitDefEqProofs (maxSteps := 10000000) only [sx_seq, sxL_succ, lpQ_norm, lpQ_exit, lpQ_ret, loopQ_norm, loopQ_exit, loopQ_ret, sqQ_norm, sqQ_ret, sqQ_exit, sx_block, blkQ_norm, blkQ_exit, blkQ_ret, sx_cond, cdP_true, cdP_false, cdP_bool, sx_region, sx_draw, plainD, List.all_cons, List.all_nil, List.isEmpty_nil, List.isEmpty_cons, sxo_nil, sxo_cons, sxo_guard, gdS_bool, gdS_eff, gdS_tup, gdS_sel, gdS_seleff, sxK_def, wcall_some, effP_ret, effP_set, effP_none, effP_ite, wop_call, wop_cv, cvP_func, sx_ret, sx_exit, sx_skip, sx_clr, sx_fresh, stays, ↓selV_wt, ↓selV_wf, ↓impB_wt, ↓impB_wf, ↓selV_nor, ↓impB_nor, ↓selV_nt, ↓selV_nf, ↓impB_nt, ↓impB_nf, wantB_true, wantB_false, ↓selV_true, ↓selV_false, ↓selV_and, ↓impB_true, ↓impB_false, ↓impB_and, impB_triv, valOf_some, retH_some, ↓prim_pick, pickO_true, pickO_false, pickO_and, pickO_or, pickO_andr, pickO_orr, pickO_orrn, pickO_orn, pickO_bb, pickAnd_bool, pickOr_bool, ↓selV_nn, ↓impB_nn, Bool.and_assoc, Bool.or_assoc, doOp, ev_fr, ev_cst, put_none, put_fr, get, ins, del, dels, Nat.reduceLT, Nat.reduceEqDiff, ↓reduceIte, reduceCtorEq, ne_eq, not_false_eq_true, implies_true, framed_pureF, framed_fb, framed_N, framed_pure, wop_prim, prim, YLD, mkA, V.cells, List.getElem?_cons_zero, List.getElem?_cons_succ, List.set_cons_zero, List.set_cons_succ, Nat.zero_add, Nat.add_zero, Nat.reduceAdd, Nat.reduceSub, Nat.reduceMul, Nat.reduceLeDiff, Nat.not_lt_zero, List.map_cons, List.map_nil, List.cons_append, List.nil_append, loadA, cellsAt, nAg, packA, opt_bind_some, opt_map_some, opt_bind_none, opt_map_none, List.drop, List.take, List.head?, List.length_cons, List.length_nil, binA, unA, eqCells, eqCell, negB, fillA, sr_nil, sr_cons, sr_succ, sr_all, sr_len, storeA, Ob.with, indexedI, V.oneCell, intOf?, retQ_ret, retQ_norm, resA, resA1, fr_getD, packR, sealDepth, shut_bool, shut_int, Option.some.injEq, V.bool.injEq, V.int.injEq, Bool.not_true, Bool.not_false, true_and, and_true, and_self, Bool.and_true, Bool.and_false, Bool.true_and, Bool.false_and, Bool.or_true, Bool.or_false, Bool.true_or, Bool.false_or, Bool.false_eq_true, Int.reduceLT, Int.reduceLE, Int.reduceToNat, Int.reduceNeg, shut_plain, freeL_cons, freeL_nil, free_int, free_bool, free_agg, free_str, free_nils, free_tup, free_sl, true_implies, false_implies, Nat.sub_zero, Int.natCast_nonneg, Int.toNat_natCast, Nat.le_refl, not_true_eq_false, Int.reduceAdd, Int.reduceSub, Int.reduceMul, wrap64, false_and, and_false, cond_true, cond_false, Bool.cond_true_left, Bool.cond_false_right, Int.reduceBNe, Int.reduceBEq, decide_true, decide_false, Int.cast_ofNat_Int, Nat.mul_one, eq_self, Bool.true_eq_false, Bool.not_eq_true, Bool.not_eq_false, deads, List.replicate, argsF, l4p, la, g2, c14, c9, pm9, pm14]
    · have g1 : decide ((M.length : Int) > 60) = true := decide_eq_true (by omega)
      simp +contextual -implicitDefEqProofs (maxSteps := 10000000) only [sx_seq, sxL_succ, lpQ_norm, lpQ_exit, lpQ_ret, loopQ_norm, loopQ_exit, loopQ_ret, sqQ_norm, sqQ_ret, sqQ_exit, sx_block, blkQ_norm, blkQ_exit, blkQ_ret, sx_cond, cdP_true, cdP_false, cdP_bool, sx_region, sx_draw, plainD, List.all_cons, List.all_nil, List.isEmpty_nil, List.isEmpty_cons, sxo_nil, sxo_cons, sxo_guard, gdS_bool, gdS_eff, gdS_tup, gdS_sel, gdS_seleff, sxK_def, wcall_some, effP_ret, effP_set, effP_none, effP_ite, wop_call, wop_cv, cvP_func, sx_ret, sx_exit, sx_skip, sx_clr, sx_fresh, stays, ↓selV_wt, ↓selV_wf, ↓impB_wt, ↓impB_wf, ↓selV_nor, ↓impB_nor, ↓selV_nt, ↓selV_nf, ↓impB_nt, ↓impB_nf, wantB_true, wantB_false, ↓selV_true, ↓selV_false, ↓selV_and, ↓impB_true, ↓impB_false, ↓impB_and, impB_triv, valOf_some, retH_some, ↓prim_pick, pickO_true, pickO_false, pickO_and, pickO_or, pickO_andr, pickO_orr, pickO_orrn, pickO_orn, pickO_bb, pickAnd_bool, pickOr_bool, ↓selV_nn, ↓impB_nn, Bool.and_assoc, Bool.or_assoc, doOp, ev_fr, ev_cst, put_none, put_fr, get, ins, del, dels, Nat.reduceLT, Nat.reduceEqDiff, ↓reduceIte, reduceCtorEq, ne_eq, not_false_eq_true, implies_true, framed_pureF, framed_fb, framed_N, framed_pure, wop_prim, prim, YLD, mkA, V.cells, List.getElem?_cons_zero, List.getElem?_cons_succ, List.set_cons_zero, List.set_cons_succ, Nat.zero_add, Nat.add_zero, Nat.reduceAdd, Nat.reduceSub, Nat.reduceMul, Nat.reduceLeDiff, Nat.not_lt_zero, List.map_cons, List.map_nil, List.cons_append, List.nil_append, loadA, cellsAt, nAg, packA, opt_bind_some, opt_map_some, opt_bind_none, opt_map_none, List.drop, List.take, List.head?, List.length_cons, List.length_nil, binA, unA, eqCells, eqCell, negB, fillA, sr_nil, sr_cons, sr_succ, sr_all, sr_len, storeA, Ob.with, indexedI, V.oneCell, intOf?, retQ_ret, retQ_norm, resA, resA1, fr_getD, packR, sealDepth, shut_bool, shut_int, Option.some.injEq, V.bool.injEq, V.int.injEq, Bool.not_true, Bool.not_false, true_and, and_true, and_self, Bool.and_true, Bool.and_false, Bool.true_and, Bool.false_and, Bool.or_true, Bool.or_false, Bool.true_or, Bool.false_or, Bool.false_eq_true, Int.reduceLT, Int.reduceLE, Int.reduceToNat, Int.reduceNeg, shut_plain, freeL_cons, freeL_nil, free_int, free_bool, free_agg, free_str, free_nils, free_tup, free_sl, true_implies, false_implies, Nat.sub_zero, Int.natCast_nonneg, Int.toNat_natCast, Nat.le_refl, not_true_eq_false, Int.reduceAdd, Int.reduceSub, Int.reduceMul, wrap64, false_and, and_false, cond_true, cond_false, Bool.cond_true_left, Bool.cond_false_right, Int.reduceBNe, Int.reduceBEq, decide_true, decide_false, Int.cast_ofNat_Int, Nat.mul_one, eq_self, Bool.true_eq_false, Bool.not_eq_true, Bool.not_eq_false, deads, List.replicate, argsF, am4, c7, c7', c8, hm, c9, pm9, la, g1]
      rfl

/-! ### What came in -/

def mvSh : Sh := .pair (.int .i64) (.pair (.int .i64) (.pair (.int .i64) (.pair bySh .unit)))
def mvsSh : Sh := .sl true 4 mvSh

theorem mv_in {u : List V} (h : InSh mvSh u) : ∃ m : Mv, u = m.cs := by
  obtain ⟨u1, v1, rfl, h1, u2, v2, rfl, h2, u3, v3, rfl, h3, u4, v4, rfl, h4, rfl⟩ := h
  obtain ⟨a1, rfl, -⟩ := in_i64 h1
  obtain ⟨a2, rfl, -⟩ := in_i64 h2
  obtain ⟨a3, rfl, -⟩ := in_i64 h3
  obtain ⟨b, m, rfl, hm⟩ := by_in h4
  exact ⟨⟨a1, a2, a3, m, b, hm⟩, rfl⟩

theorem mvs_in {u : V} (h : InP false mvsSh u) : ∃ M : List Mv, IsL u 4 (M.map Mv.cs) := by
  rcases h with h | ⟨us, c, h, -, -, hu⟩
  · cases h
    exact ⟨[], isL_nils 4⟩
  · cases h
    have key : ∀ us : List (List V), (∀ u ∈ us, u.length = 4 ∧ InSh mvSh u) → ∃ M : List Mv, us.map (elemV true) = M.map (fun m => V.agg m.cs) := by
      intro us
      induction us with
      | nil => exact fun _ => ⟨[], rfl⟩
      | cons u us ih =>
        intro hu
        obtain ⟨M, hM⟩ := ih (fun v hv => hu v (by simp [hv]))
        obtain ⟨m, rfl⟩ := mv_in (hu u (by simp)).2
        exact ⟨m :: M, by rw [List.map_cons, hM]; rfl⟩
    obtain ⟨M, hM⟩ := key us hu
    rw [hM]
    refine ⟨M, isL_sl (freeL_of_mem fun b hb => ?_) ?_⟩
    · obtain ⟨m, -, rfl⟩ := List.mem_map.1 hb
      show V.freeL m.cs = true
      unfold Mv.cs mvC
      simp only [freeL_cons, freeL_nil, free_int, m.ok.free, Bool.and_self]
    · rw [List.map_map]; rfl

theorem runsSessionLost {u1 u2 : V} (h1 : InP false (.int .i64) u1) (h2 : InP false mvsSh u2) : ∃ N n, callA am N n 4 [u1, u2] [] = some (.bool true, []) := by
  obtain ⟨M, hM⟩ := mvs_in h2
  obtain ⟨v, hv, -⟩ := in_i64 h1
  obtain rfl : u1 = .int .i64 v := by simpa using hv
  exact ⟨1500, 30, lost_spec (by omega) (by omega) v u2 M hM []⟩

end Go.Am.T
