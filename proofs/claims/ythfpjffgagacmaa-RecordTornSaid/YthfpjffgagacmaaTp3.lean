import Derived.Test.YthfpjffgagacmaaTp2
set_option linter.unusedVariables false
set_option linter.unusedSimpArgs false
set_option maxRecDepth 10000
namespace Go.Am.T
attribute [local congr] selV_congr impB_congr

def secV (S : List Int) : V := .agg (S.map (V.int .u8))

theorem secV_free (S : List Int) : (secV S).free = true := by simp [secV, free_agg, freeL_ints]

theorem taker_spec {N n : Nat} (hn : 1 ≤ n) (S : List Int) (x : Int) (h : Heap) : callA am N n 59 [.agg (S.map (V.int .u8)), .int .i64 x] h = some (.func 68 [] [.ptr (h.length + 1) 1 0, .ptr h.length 1 0], h ++ [⟨1, .var (S.map (V.int .u8))⟩, ⟨1, .var [.int .i64 x]⟩]) := by
  obtain ⟨n, rfl⟩ : ∃ m, n = m + 1 := ⟨n - 1, by omega⟩
  refine call_keep_eq at59 rfl rfl (by decide) (sx_wp ?_)
  simp +contextual -implicitDefEqProofs (maxSteps := 10000000) only [sx_seq, sxL_succ, lpQ_norm, lpQ_exit, lpQ_ret, loopQ_norm, loopQ_exit, loopQ_ret, sqQ_norm, sqQ_ret, sqQ_exit, sx_block, blkQ_norm, blkQ_exit, blkQ_ret, sx_cond, cdP_true, cdP_false, cdP_bool, sx_region, sx_draw, plainD, List.all_cons, List.all_nil, List.isEmpty_nil, List.isEmpty_cons, sxo_nil, sxo_cons, sxo_guard, gdS_bool, gdS_eff, gdS_tup, gdS_sel, gdS_seleff, sxK_def, wcall_some, effP_ret, effP_set, effP_none, effP_ite, wop_call, wop_cv, cvP_func, sx_ret, sx_exit, sx_skip, sx_clr, stays, ↓selV_wt, ↓selV_wf, ↓impB_wt, ↓impB_wf, ↓selV_nor, ↓impB_nor, ↓selV_nt, ↓selV_nf, ↓impB_nt, ↓impB_nf, wantB_true, wantB_false, ↓selV_true, ↓selV_false, ↓selV_and, ↓impB_true, ↓impB_false, ↓impB_and, impB_triv, valOf_some, retH_some, ↓prim_pick, pickO_true, pickO_false, pickO_and, pickO_or, pickO_andr, pickO_orr, pickO_orrn, pickO_orn, pickO_bb, pickAnd_bool, pickOr_bool, ↓selV_nn, ↓impB_nn, Bool.and_assoc, Bool.or_assoc, doOp, ev_fr, ev_cst, put_none, put_fr, get, ins, del, dels, Nat.reduceLT, Nat.reduceEqDiff, ↓reduceIte, reduceCtorEq, ne_eq, not_false_eq_true, implies_true, framed_pureF, framed_fb, framed_N, framed_pure, wop_prim, prim, mkA, V.cells, List.getElem?_cons_zero, List.getElem?_cons_succ, List.set_cons_zero, List.set_cons_succ, Nat.zero_add, Nat.add_zero, Nat.reduceAdd, Nat.reduceSub, Nat.reduceMul, Nat.reduceLeDiff, Nat.not_lt_zero, List.map_cons, List.map_nil, List.cons_append, List.nil_append, loadA, cellsAt, nAg, packA, opt_bind_some, opt_map_some, opt_bind_none, opt_map_none, List.drop, List.take, List.head?, List.length_cons, List.length_nil, binA, unA, eqCells, eqCell, negB, fillA, sr_nil, sr_cons, sr_succ, sr_all, sr_len, storeA, Ob.with, indexedI, V.oneCell, intOf?, retQ_ret, retQ_norm, resA, resA1, fr_getD, packR, sealDepth, shut_bool, shut_int, Option.some.injEq, V.bool.injEq, V.int.injEq, Bool.not_true, Bool.not_false, true_and, and_true, and_self, Bool.and_true, Bool.and_false, Bool.true_and, Bool.false_and, Bool.or_true, Bool.or_false, Bool.true_or, Bool.false_or, Bool.false_eq_true, Int.reduceLT, Int.reduceLE, Int.reduceToNat, Int.reduceNeg, shut_plain, freeL_cons, freeL_nil, free_int, free_bool, free_agg, free_str, free_nils, free_tup, free_sl, true_implies, false_implies, Nat.sub_zero, Int.natCast_nonneg, Int.toNat_natCast, Nat.le_refl, not_true_eq_false, Int.reduceAdd, Int.reduceSub, Int.reduceMul, wrap64, false_and, and_false, cond_true, cond_false, Bool.cond_true_left, Bool.cond_false_right, Int.reduceBNe, Int.reduceBEq, decide_true, decide_false, Int.cast_ofNat_Int, Nat.mul_one, eq_self, Bool.true_eq_false, Bool.not_eq_true, Bool.not_eq_false, deads, List.replicate, argsF, am59, app_get0, app_set0, app_get, app_set]

/-- What two sectors would say. -/
def saidR (A B : List Int) : Rec := ⟨A.getD 1 0 / 16, num4 A 2, num4 A 6, A.getD 1 0 % 16, num4 A 10, (A.drop 14).take 48 ++ (B.drop 14).take 48⟩

theorem and15 {x : Int} (h0 : 0 ≤ x) (h1 : x ≤ 255) : IntKind.u8.wrap (((BitVec.ofInt IntKind.u8.bits x) &&& (BitVec.ofInt IntKind.u8.bits 15)).toNat : Int) = x % 16 := by
  obtain ⟨a, rfl⟩ := Int.eq_ofNat_of_zero_le h0
  show IntKind.u8.wrap (((BitVec.ofInt 8 (a : Int)) &&& (BitVec.ofInt 8 ((15 : Nat) : Int))).toNat : Int) = (a : Int) % 16
  have e : ((BitVec.ofInt 8 (a : Int)) &&& (BitVec.ofInt 8 ((15 : Nat) : Int))).toNat = a % 16 := by
    rw [BitVec.toNat_and, BitVec.ofInt_natCast, BitVec.ofInt_natCast, BitVec.toNat_ofNat, BitVec.toNat_ofNat, Nat.mod_eq_of_lt (by omega), show (15 % 2 ^ 8 : Nat) = 2 ^ 4 - 1 by decide, Nat.and_two_pow_sub_one_eq_mod]
  rw [e, wrap8 (by omega) (by omega)]
  omega

set_option maxHeartbeats 2000000 in
theorem said_spec {N n : Nat} (hn : 2 ≤ n) {A B : List Int} (ha : A.length = 64) (hb : B.length = 64) (ba : Bytes A) (bb : Bytes B) (h : Heap) : callA am N n 61 [secV A, secV B] h = some ((saidR A B).v, h) := by
  obtain ⟨n, rfl⟩ : ∃ m, n = m + 1 := ⟨n - 1, by omega⟩
  have c1 := @taker_spec N n (by omega)
  have c2 := @take_framed N n 0 (by omega)
  refine call_pure at61 rfl rfl (by decide) (by simp [freeL_cons, freeL_nil, secV_free]) (sx_wp ?_)
  have tA : List.take 64 (A.map (V.int .u8)) = A.map (V.int .u8) := List.take_of_length_le (by simp [ha])
  have e1 := ints_at .u8 (l := A) (i := 1) (by omega)
  have b1 := bytes_at ba 1
  have hs : (A.getD 1 0).fdiv (2 ^ 4) = A.getD 1 0 / 16 := Int.fdiv_eq_ediv_of_nonneg _ (by decide)
  have m1 : min 4 IntKind.u8.bits = 4 := rfl
  have w1 : IntKind.i64.wrap (A.getD 1 0 / 16) = A.getD 1 0 / 16 := wrap64 (by omega) (by omega)
  have w2 : IntKind.i64.wrap (A.getD 1 0 % 16) = A.getD 1 0 % 16 := wrap64 (by omega) (by omega)
  have h15 := and15 b1.1 b1.2
  have io : intsOf (A.map (V.int .u8)) = A := intsOf_map _ _
  have uo := u8ok_map ba
  obtain ⟨C, hC⟩ : ∃ C, C = ((A.map (V.int .u8)).drop 14).take 48 := ⟨_, rfl⟩
  obtain ⟨D, hD⟩ : ∃ D, D = ((B.map (V.int .u8)).drop 14).take 48 := ⟨_, rfl⟩
  have cl : C.length = 48 := by rw [hC]; simp [ha]
  have dl : D.length = 48 := by rw [hD]; simp [hb]
  have hallA := allOne_ints .u8 A
  have hallB := allOne_ints .u8 B
  have co : C.all V.oneCell = true := by rw [hC, List.all_eq_true]; exact fun x hx => List.all_eq_true.1 hallA x (List.mem_of_mem_drop (List.mem_of_mem_take hx))
  have do_ : D.all V.oneCell = true := by rw [hD, List.all_eq_true]; exact fun x hx => List.all_eq_true.1 hallB x (List.mem_of_mem_drop (List.mem_of_mem_take hx))
  have hfA := freeL_ints .u8 A
  have hfB := freeL_ints .u8 B
  have cf : V.freeL C = true := by rw [hC]; exact freeL_of_mem fun x hx => freeL_mem hfA x (List.mem_of_mem_drop (List.mem_of_mem_take hx))
  have df : V.freeL D = true := by rw [hD]; exact freeL_of_mem fun x hx => freeL_mem hfB x (List.mem_of_mem_drop (List.mem_of_mem_take hx))
  have tD : List.take 48 D = D := List.take_of_length_le (by omega)
  have m2 : Nat.min 50 48 = 48 := rfl
  have m3 : Nat.min 48 48 = 48 := rfl
  simp +contextual -implicitDefEqProofs (maxSteps := 10000000) only [sx_seq, sxL_succ, lpQ_norm, lpQ_exit, lpQ_ret, loopQ_norm, loopQ_exit, loopQ_ret, sqQ_norm, sqQ_ret, sqQ_exit, sx_block, blkQ_norm, blkQ_exit, blkQ_ret, sx_cond, cdP_true, cdP_false, cdP_bool, sx_region, sx_draw, plainD, List.all_cons, List.all_nil, List.isEmpty_nil, List.isEmpty_cons, sxo_nil, sxo_cons, sxo_guard, gdS_bool, gdS_eff, gdS_tup, gdS_sel, gdS_seleff, sxK_def, wcall_some, effP_ret, effP_set, effP_none, effP_ite, wop_call, wop_cv, cvP_func, sx_ret, sx_exit, sx_skip, sx_clr, stays, ↓selV_wt, ↓selV_wf, ↓impB_wt, ↓impB_wf, ↓selV_nor, ↓impB_nor, ↓selV_nt, ↓selV_nf, ↓impB_nt, ↓impB_nf, wantB_true, wantB_false, ↓selV_true, ↓selV_false, ↓selV_and, ↓impB_true, ↓impB_false, ↓impB_and, impB_triv, valOf_some, retH_some, ↓prim_pick, pickO_true, pickO_false, pickO_and, pickO_or, pickO_andr, pickO_orr, pickO_orrn, pickO_orn, pickO_bb, pickAnd_bool, pickOr_bool, ↓selV_nn, ↓impB_nn, Bool.and_assoc, Bool.or_assoc, doOp, ev_fr, ev_cst, put_none, put_fr, get, ins, del, dels, Nat.reduceLT, Nat.reduceEqDiff, ↓reduceIte, reduceCtorEq, ne_eq, not_false_eq_true, implies_true, framed_pureF, framed_fb, framed_N, framed_pure, wop_prim, prim, mkA, V.cells, List.getElem?_cons_zero, List.getElem?_cons_succ, List.set_cons_zero, List.set_cons_succ, Nat.zero_add, Nat.add_zero, Nat.reduceAdd, Nat.reduceSub, Nat.reduceMul, Nat.reduceLeDiff, Nat.not_lt_zero, List.map_cons, List.map_nil, List.cons_append, List.nil_append, loadA, cellsAt, nAg, packA, opt_bind_some, opt_map_some, opt_bind_none, opt_map_none, List.drop, List.take, List.head?, List.length_cons, List.length_nil, binA, unA, eqCells, eqCell, negB, fillA, sr_nil, sr_cons, sr_succ, sr_all, sr_len, storeA, Ob.with, indexedI, V.oneCell, intOf?, retQ_ret, retQ_norm, resA, resA1, fr_getD, packR, sealDepth, shut_bool, shut_int, Option.some.injEq, V.bool.injEq, V.int.injEq, Bool.not_true, Bool.not_false, true_and, and_true, and_self, Bool.and_true, Bool.and_false, Bool.true_and, Bool.false_and, Bool.or_true, Bool.or_false, Bool.true_or, Bool.false_or, Bool.false_eq_true, Int.reduceLT, Int.reduceLE, Int.reduceToNat, Int.reduceNeg, shut_plain, freeL_cons, freeL_nil, free_int, free_bool, free_agg, free_str, free_nils, free_tup, free_sl, true_implies, false_implies, Nat.sub_zero, Int.natCast_nonneg, Int.toNat_natCast, Nat.le_refl, not_true_eq_false, Int.reduceAdd, Int.reduceSub, Int.reduceMul, wrap64, false_and, and_false, cond_true, cond_false, Bool.cond_true_left, Bool.cond_false_right, Int.reduceBNe, Int.reduceBEq, decide_true, decide_false, Int.cast_ofNat_Int, Nat.mul_one, eq_self, Bool.true_eq_false, Bool.not_eq_true, Bool.not_eq_false, deads, List.replicate, argsF, am61, secV, tA, List.length_map, ha, hb, c1, c2, sx_drawd, wpd_nil, wpd_cons, wdK_def, fpOf, fpV, fpCall, Fp.ok, disj, List.contains_cons, List.contains_nil, Nat.reduceBEq, List.all_append, V.objsL, V.objs,  List.getD_cons_zero, List.getD_cons_succ, List.append_nil, e1, hs, m1, w1, w2, h15, takeF, io, uo, Option.isSome, Int.reduceToNat, pm68, boundsA, Option.isNone, copyA, lenA, firstA, m2, m3, ← hC, ← hD, cl, co, dl, do_, blk_put cl, blk_set cl, blk_take cl, blk_drop cl, blk_put dl, blk_set dl, blk_take dl, blk_drop dl, List.all_cons, List.all_nil, cf, df, freeL_append, List.length_append, tD]
  simp [saidR, Rec.v, Rec.cs, hC, hD, List.map_take, List.map_drop]

theorem one_rec' (r : Rec) : r.cs.all V.oneCell = true := by
  simp only [Rec.cs, List.all_cons, V.oneCell, Bool.true_and]
  exact allOne_ints _ _

/-! ### Sectors as numbers -/

def bytI (n : Int) (k : Nat) : Int := n / 256 ^ k % 256

def secI (r : Rec) (i : Nat) : List Int :=
  (177 + i) :: (16 * r.node + r.page) :: bytI r.epoch 3 :: bytI r.epoch 2 :: bytI r.epoch 1 :: bytI r.epoch 0 :: bytI r.lsn 3 :: bytI r.lsn 2 :: bytI r.lsn 1 :: bytI r.lsn 0 :: bytI r.psn 3 :: bytI r.psn 2 :: bytI r.psn 1 :: bytI r.psn 0 ::
    ((r.body.drop (48 * i)).take 48 ++ [0, 0])

theorem secR_eq (r : Rec) (i : Nat) : secR r i = (secI r i).map (V.int .u8) := by
  simp [secR, secI, byt, bytI]

theorem secI_length {r : Rec} (h : r.Ok) {i : Nat} (hi : i < 2) : (secI r i).length = 64 := by
  have := h.body
  simp [secI]
  omega

def zeroR : Rec := ⟨0, 0, 0, 0, 0, List.replicate 96 0⟩

set_option maxHeartbeats 1000000 in
theorem putR_not {N n : Nat} (hN : 10 ≤ N) (hn : 3 ≤ n) {r : Rec} (hr : r.Ok) (hm : mayR r = false) (h : Heap) : callA am N n 30 [r.v] h = some (.tup [.agg ((List.replicate 128 0).map (V.int .u8)), .int .i64 2], h) := by
  obtain ⟨n, rfl⟩ : ∃ m, n = m + 1 := ⟨n - 1, by omega⟩
  have c1 := @may4_spec N n (by omega) r hr
  simp only [Rec.v, Rec.cs] at c1
  have h1 := hr.body
  have tk : List.take 96 (r.body.map (V.int .u8)) = r.body.map (V.int .u8) := List.take_of_length_le (by simp [h1])
  refine call_pure at30 rfl rfl (by decide) (by simp [freeL_cons, freeL_nil, Rec.free]) (sx_wp ?_)
  simp +contextual -implicitDefEqProofs (maxSteps := 10000000) only [sx_seq, sxL_succ, lpQ_norm, lpQ_exit, lpQ_ret, loopQ_norm, loopQ_exit, loopQ_ret, sqQ_norm, sqQ_ret, sqQ_exit, sx_block, blkQ_norm, blkQ_exit, blkQ_ret, sx_cond, cdP_true, cdP_false, cdP_bool, sx_region, sx_draw, plainD, List.all_cons, List.all_nil, List.isEmpty_nil, List.isEmpty_cons, sxo_nil, sxo_cons, sxo_guard, gdS_bool, gdS_eff, gdS_tup, gdS_sel, gdS_seleff, sxK_def, wcall_some, effP_ret, effP_set, effP_none, effP_ite, wop_call, wop_cv, cvP_func, sx_ret, sx_exit, sx_skip, sx_clr, stays, ↓selV_wt, ↓selV_wf, ↓impB_wt, ↓impB_wf, ↓selV_nor, ↓impB_nor, ↓selV_nt, ↓selV_nf, ↓impB_nt, ↓impB_nf, wantB_true, wantB_false, ↓selV_true, ↓selV_false, ↓selV_and, ↓impB_true, ↓impB_false, ↓impB_and, impB_triv, valOf_some, retH_some, ↓prim_pick, pickO_true, pickO_false, pickO_and, pickO_or, pickO_andr, pickO_orr, pickO_orrn, pickO_orn, pickO_bb, pickAnd_bool, pickOr_bool, ↓selV_nn, ↓impB_nn, Bool.and_assoc, Bool.or_assoc, doOp, ev_fr, ev_cst, put_none, put_fr, get, ins, del, dels, Nat.reduceLT, Nat.reduceEqDiff, ↓reduceIte, reduceCtorEq, ne_eq, not_false_eq_true, implies_true, framed_pureF, framed_fb, framed_N, framed_pure, wop_prim, prim, mkA, V.cells, List.getElem?_cons_zero, List.getElem?_cons_succ, List.set_cons_zero, List.set_cons_succ, Nat.zero_add, Nat.add_zero, Nat.reduceAdd, Nat.reduceSub, Nat.reduceMul, Nat.reduceLeDiff, Nat.not_lt_zero, List.map_cons, List.map_nil, List.cons_append, List.nil_append, loadA, cellsAt, nAg, packA, opt_bind_some, opt_map_some, opt_bind_none, opt_map_none, List.drop, List.take, List.head?, List.length_cons, List.length_nil, binA, unA, eqCells, eqCell, negB, fillA, sr_nil, sr_cons, sr_succ, sr_all, sr_len, storeA, Ob.with, indexedI, V.oneCell, intOf?, retQ_ret, retQ_norm, resA, resA1, fr_getD, packR, sealDepth, shut_bool, shut_int, Option.some.injEq, V.bool.injEq, V.int.injEq, Bool.not_true, Bool.not_false, true_and, and_true, and_self, Bool.and_true, Bool.and_false, Bool.true_and, Bool.false_and, Bool.or_true, Bool.or_false, Bool.true_or, Bool.false_or, Bool.false_eq_true, Int.reduceLT, Int.reduceLE, Int.reduceToNat, Int.reduceNeg, shut_plain, freeL_cons, freeL_nil, free_int, free_bool, free_agg, free_str, free_nils, free_tup, free_sl, true_implies, false_implies, Nat.sub_zero, Int.natCast_nonneg, Int.toNat_natCast, Nat.le_refl, not_true_eq_false, Int.reduceAdd, Int.reduceSub, Int.reduceMul, wrap64, false_and, and_false, cond_true, cond_false, Bool.cond_true_left, Bool.cond_false_right, Int.reduceBNe, Int.reduceBEq, decide_true, decide_false, Int.cast_ofNat_Int, Nat.mul_one, eq_self, Bool.true_eq_false, Bool.not_eq_true, Bool.not_eq_false, deads, List.replicate, argsF, am30, Rec.v, Rec.cs, List.length_map, h1, c1, hm, tk, List.all_cons, List.all_nil]

theorem eqCells_ints {k : IntKind} : ∀ {n : Nat} {X Y : List Int}, X.length = n → Y.length = n → eqCells (List.replicate n (.i k)) (X.map (V.int k)) (Y.map (V.int k)) = some (decide (X = Y))
  | 0, [], [], _, _ => rfl
  | n + 1, x :: X, y :: Y, h1, h2 => by
    simp only [List.replicate, List.map_cons, eqCells, eqCell, ↓reduceIte, eqCells_ints (n := n) (X := X) (Y := Y) (by simpa using h1) (by simpa using h2)]
    congr 1
    rw [Bool.eq_iff_iff]
    simp

/-- The record of two sectors. -/
def getR (A B : List Int) : Option Rec := if mayR (saidR A B) = true ∧ secI (saidR A B) 0 ++ secI (saidR A B) 1 = A ++ B then some (saidR A B) else none

def recErr (o : Option Rec) : V := match o with | some r => .tup [r.v, .int .i64 0] | none => .tup [zeroR.v, .int .i64 12]

theorem saidR_ok {A B : List Int} (ha : A.length = 64) (hb : B.length = 64) (ba : Bytes A) : (saidR A B).Ok := by
  refine ⟨by simp [saidR, ha, hb], ?_⟩
  have h0 := bytes_at ba 6
  have h1 := bytes_at ba (6 + 1)
  have h2 := bytes_at ba (6 + 2)
  have h3 := bytes_at ba (6 + 3)
  simp only [saidR, num4]
  omega

set_option maxHeartbeats 2000000 in
theorem get_spec {N n : Nat} (hN : 10 ≤ N) (hn : 4 ≤ n) {A B : List Int} (ha : A.length = 64) (hb : B.length = 64) (ba : Bytes A) (bb : Bytes B) (h : Heap) : callA am N n 38 [secV A, secV B] h = some (recErr (getR A B), h) := by
  obtain ⟨n, rfl⟩ : ∃ m, n = m + 1 := ⟨n - 1, by omega⟩
  have c1 := @said_spec N n (by omega) A B ha hb ba bb
  have hr := saidR_ok ha hb ba (B := B)
  have h96 := hr.body
  have tA : List.take 64 (A.map (V.int .u8)) = A.map (V.int .u8) := List.take_of_length_le (by simp [ha])
  have tB : List.take 64 (B.map (V.int .u8)) = B.map (V.int .u8) := List.take_of_length_le (by simp [hb])
  have hrl := Rec.len hr
  have tR : List.take 101 (saidR A B).cs = (saidR A B).cs := List.take_of_length_le (by omega)
  have oR := one_rec' (saidR A B)
  have fR := Rec.free (saidR A B)
  have oA := allOne_ints .u8 A
  have oB := allOne_ints .u8 B
  have dA : List.drop 64 (A.map (V.int .u8)) = [] := List.drop_eq_nil_of_le (by simp [ha])
  refine call_pure at38 rfl rfl (by decide) (by simp [freeL_cons, freeL_nil, secV_free]) (sx_wp ?_)
  simp only [secV] at c1
  simp only [Rec.v] at c1 fR
  cases hm : mayR (saidR A B) with
  | false =>
    have c2 := @putR_not N n hN (by omega) _ hr hm
    simp only [Rec.v] at c2
    simp +contextual -implicitDefEqProofs (maxSteps := 10000000) only [sx_seq, sxL_succ, lpQ_norm, lpQ_exit, lpQ_ret, loopQ_norm, loopQ_exit, loopQ_ret, sqQ_norm, sqQ_ret, sqQ_exit, sx_block, blkQ_norm, blkQ_exit, blkQ_ret, sx_cond, cdP_true, cdP_false, cdP_bool, sx_region, sx_draw, plainD, List.all_cons, List.all_nil, List.isEmpty_nil, List.isEmpty_cons, sxo_nil, sxo_cons, sxo_guard, gdS_bool, gdS_eff, gdS_tup, gdS_sel, gdS_seleff, sxK_def, wcall_some, effP_ret, effP_set, effP_none, effP_ite, wop_call, wop_cv, cvP_func, sx_ret, sx_exit, sx_skip, sx_clr, stays, ↓selV_wt, ↓selV_wf, ↓impB_wt, ↓impB_wf, ↓selV_nor, ↓impB_nor, ↓selV_nt, ↓selV_nf, ↓impB_nt, ↓impB_nf, wantB_true, wantB_false, ↓selV_true, ↓selV_false, ↓selV_and, ↓impB_true, ↓impB_false, ↓impB_and, impB_triv, valOf_some, retH_some, ↓prim_pick, pickO_true, pickO_false, pickO_and, pickO_or, pickO_andr, pickO_orr, pickO_orrn, pickO_orn, pickO_bb, pickAnd_bool, pickOr_bool, ↓selV_nn, ↓impB_nn, Bool.and_assoc, Bool.or_assoc, doOp, ev_fr, ev_cst, put_none, put_fr, get, ins, del, dels, Nat.reduceLT, Nat.reduceEqDiff, ↓reduceIte, reduceCtorEq, ne_eq, not_false_eq_true, implies_true, framed_pureF, framed_fb, framed_N, framed_pure, wop_prim, prim, mkA, V.cells, List.getElem?_cons_zero, List.getElem?_cons_succ, List.set_cons_zero, List.set_cons_succ, Nat.zero_add, Nat.add_zero, Nat.reduceAdd, Nat.reduceSub, Nat.reduceMul, Nat.reduceLeDiff, Nat.not_lt_zero, List.map_cons, List.map_nil, List.cons_append, List.nil_append, loadA, cellsAt, nAg, packA, opt_bind_some, opt_map_some, opt_bind_none, opt_map_none, List.drop, List.take, List.head?, List.length_cons, List.length_nil, binA, unA, eqCells, eqCell, negB, fillA, sr_nil, sr_cons, sr_succ, sr_all, sr_len, storeA, Ob.with, indexedI, V.oneCell, intOf?, retQ_ret, retQ_norm, resA, resA1, fr_getD, packR, sealDepth, shut_bool, shut_int, Option.some.injEq, V.bool.injEq, V.int.injEq, Bool.not_true, Bool.not_false, true_and, and_true, and_self, Bool.and_true, Bool.and_false, Bool.true_and, Bool.false_and, Bool.or_true, Bool.or_false, Bool.true_or, Bool.false_or, Bool.false_eq_true, Int.reduceLT, Int.reduceLE, Int.reduceToNat, Int.reduceNeg, shut_plain, freeL_cons, freeL_nil, free_int, free_bool, free_agg, free_str, free_nils, free_tup, free_sl, true_implies, false_implies, Nat.sub_zero, Int.natCast_nonneg, Int.toNat_natCast, Nat.le_refl, not_true_eq_false, Int.reduceAdd, Int.reduceSub, Int.reduceMul, wrap64, false_and, and_false, cond_true, cond_false, Bool.cond_true_left, Bool.cond_false_right, Int.reduceBNe, Int.reduceBEq, decide_true, decide_false, Int.cast_ofNat_Int, Nat.mul_one, eq_self, Bool.true_eq_false, Bool.not_eq_true, Bool.not_eq_false, deads, List.replicate, argsF, am38, secV, tA, tB, List.length_map, ha, hb, c1, c2, hrl, tR, oR, fR, List.all_cons, List.all_nil, Int.reduceBNe, recErr, getR, hm]
    rfl
  | true =>
    have c2 := @putR_spec N n hN (by omega) _ hr hm
    simp only [Rec.v, secR_eq, ← List.map_append] at c2
    have l0 := secI_length hr (i := 0) (by omega)
    have l1 := secI_length hr (i := 1) (by omega)
    obtain ⟨W, hW⟩ : ∃ W, W = secI (saidR A B) 0 ++ secI (saidR A B) 1 := ⟨_, rfl⟩
    have lW : W.length = 128 := by rw [hW]; simp [l0, l1]
    rw [← hW] at c2
    have tW : List.take 128 (W.map (V.int .u8)) = W.map (V.int .u8) := List.take_of_length_le (by simp [lW])
    have oW := allOne_ints .u8 W
    have fW := freeL_ints .u8 W
    have lA : (A.map (V.int .u8)).length = 64 := by simp [ha]
    have lB : (B.map (V.int .u8)).length = 64 := by simp [hb]
    have q1 : eqCells (List.replicate 128 (.i .u8)) (W.map (V.int .u8)) (A.map (V.int .u8) ++ B.map (V.int .u8)) = some (decide (W = A ++ B)) := by
      rw [← List.map_append]
      exact eqCells_ints lW (by simp [ha, hb])
    simp only [List.replicate] at q1
    by_cases hWA : W = A ++ B
    · rw [decide_eq_true hWA] at q1
      have e : getR A B = some (saidR A B) := by unfold getR; rw [if_pos ⟨hm, by rw [← hW, hWA]⟩]
      rw [e]
      simp +contextual -implicitDefEqProofs (maxSteps := 10000000) only [sx_seq, sxL_succ, lpQ_norm, lpQ_exit, lpQ_ret, loopQ_norm, loopQ_exit, loopQ_ret, sqQ_norm, sqQ_ret, sqQ_exit, sx_block, blkQ_norm, blkQ_exit, blkQ_ret, sx_cond, cdP_true, cdP_false, cdP_bool, sx_region, sx_draw, plainD, List.all_cons, List.all_nil, List.isEmpty_nil, List.isEmpty_cons, sxo_nil, sxo_cons, sxo_guard, gdS_bool, gdS_eff, gdS_tup, gdS_sel, gdS_seleff, sxK_def, wcall_some, effP_ret, effP_set, effP_none, effP_ite, wop_call, wop_cv, cvP_func, sx_ret, sx_exit, sx_skip, sx_clr, stays, ↓selV_wt, ↓selV_wf, ↓impB_wt, ↓impB_wf, ↓selV_nor, ↓impB_nor, ↓selV_nt, ↓selV_nf, ↓impB_nt, ↓impB_nf, wantB_true, wantB_false, ↓selV_true, ↓selV_false, ↓selV_and, ↓impB_true, ↓impB_false, ↓impB_and, impB_triv, valOf_some, retH_some, ↓prim_pick, pickO_true, pickO_false, pickO_and, pickO_or, pickO_andr, pickO_orr, pickO_orrn, pickO_orn, pickO_bb, pickAnd_bool, pickOr_bool, ↓selV_nn, ↓impB_nn, Bool.and_assoc, Bool.or_assoc, doOp, ev_fr, ev_cst, put_none, put_fr, get, ins, del, dels, Nat.reduceLT, Nat.reduceEqDiff, ↓reduceIte, reduceCtorEq, ne_eq, not_false_eq_true, implies_true, framed_pureF, framed_fb, framed_N, framed_pure, wop_prim, prim, mkA, V.cells, List.getElem?_cons_zero, List.getElem?_cons_succ, List.set_cons_zero, List.set_cons_succ, Nat.zero_add, Nat.add_zero, Nat.reduceAdd, Nat.reduceSub, Nat.reduceMul, Nat.reduceLeDiff, Nat.not_lt_zero, List.map_cons, List.map_nil, List.cons_append, List.nil_append, loadA, cellsAt, nAg, packA, opt_bind_some, opt_map_some, opt_bind_none, opt_map_none, List.drop, List.take, List.head?, List.length_cons, List.length_nil, binA, unA, eqCells, eqCell, negB, fillA, sr_nil, sr_cons, sr_succ, sr_all, sr_len, storeA, Ob.with, indexedI, V.oneCell, intOf?, retQ_ret, retQ_norm, resA, resA1, fr_getD, packR, sealDepth, shut_bool, shut_int, Option.some.injEq, V.bool.injEq, V.int.injEq, Bool.not_true, Bool.not_false, true_and, and_true, and_self, Bool.and_true, Bool.and_false, Bool.true_and, Bool.false_and, Bool.or_true, Bool.or_false, Bool.true_or, Bool.false_or, Bool.false_eq_true, Int.reduceLT, Int.reduceLE, Int.reduceToNat, Int.reduceNeg, shut_plain, freeL_cons, freeL_nil, free_int, free_bool, free_agg, free_str, free_nils, free_tup, free_sl, true_implies, false_implies, Nat.sub_zero, Int.natCast_nonneg, Int.toNat_natCast, Nat.le_refl, not_true_eq_false, Int.reduceAdd, Int.reduceSub, Int.reduceMul, wrap64, false_and, and_false, cond_true, cond_false, Bool.cond_true_left, Bool.cond_false_right, Int.reduceBNe, Int.reduceBEq, decide_true, decide_false, Int.cast_ofNat_Int, Nat.mul_one, eq_self, Bool.true_eq_false, Bool.not_eq_true, Bool.not_eq_false, deads, List.replicate, argsF, am38, secV, tA, tB, tW, oW, fW, lW, q1, blk_put lA, blk_set lA, List.length_append, List.length_map, ha, hb, c1, c2, hrl, tR, oR, fR, oA, oB, List.all_cons, List.all_nil, Int.reduceBNe, hm, recErr]
      rfl
    · rw [decide_eq_false hWA] at q1
      have e : getR A B = none := by unfold getR; rw [if_neg (fun h => hWA (by rw [hW]; exact h.2))]
      rw [e]
      simp +contextual -implicitDefEqProofs (maxSteps := 10000000) only [sx_seq, sxL_succ, lpQ_norm, lpQ_exit, lpQ_ret, loopQ_norm, loopQ_exit, loopQ_ret, sqQ_norm, sqQ_ret, sqQ_exit, sx_block, blkQ_norm, blkQ_exit, blkQ_ret, sx_cond, cdP_true, cdP_false, cdP_bool, sx_region, sx_draw, plainD, List.all_cons, List.all_nil, List.isEmpty_nil, List.isEmpty_cons, sxo_nil, sxo_cons, sxo_guard, gdS_bool, gdS_eff, gdS_tup, gdS_sel, gdS_seleff, sxK_def, wcall_some, effP_ret, effP_set, effP_none, effP_ite, wop_call, wop_cv, cvP_func, sx_ret, sx_exit, sx_skip, sx_clr, stays, ↓selV_wt, ↓selV_wf, ↓impB_wt, ↓impB_wf, ↓selV_nor, ↓impB_nor, ↓selV_nt, ↓selV_nf, ↓impB_nt, ↓impB_nf, wantB_true, wantB_false, ↓selV_true, ↓selV_false, ↓selV_and, ↓impB_true, ↓impB_false, ↓impB_and, impB_triv, valOf_some, retH_some, ↓prim_pick, pickO_true, pickO_false, pickO_and, pickO_or, pickO_andr, pickO_orr, pickO_orrn, pickO_orn, pickO_bb, pickAnd_bool, pickOr_bool, ↓selV_nn, ↓impB_nn, Bool.and_assoc, Bool.or_assoc, doOp, ev_fr, ev_cst, put_none, put_fr, get, ins, del, dels, Nat.reduceLT, Nat.reduceEqDiff, ↓reduceIte, reduceCtorEq, ne_eq, not_false_eq_true, implies_true, framed_pureF, framed_fb, framed_N, framed_pure, wop_prim, prim, mkA, V.cells, List.getElem?_cons_zero, List.getElem?_cons_succ, List.set_cons_zero, List.set_cons_succ, Nat.zero_add, Nat.add_zero, Nat.reduceAdd, Nat.reduceSub, Nat.reduceMul, Nat.reduceLeDiff, Nat.not_lt_zero, List.map_cons, List.map_nil, List.cons_append, List.nil_append, loadA, cellsAt, nAg, packA, opt_bind_some, opt_map_some, opt_bind_none, opt_map_none, List.drop, List.take, List.head?, List.length_cons, List.length_nil, binA, unA, eqCells, eqCell, negB, fillA, sr_nil, sr_cons, sr_succ, sr_all, sr_len, storeA, Ob.with, indexedI, V.oneCell, intOf?, retQ_ret, retQ_norm, resA, resA1, fr_getD, packR, sealDepth, shut_bool, shut_int, Option.some.injEq, V.bool.injEq, V.int.injEq, Bool.not_true, Bool.not_false, true_and, and_true, and_self, Bool.and_true, Bool.and_false, Bool.true_and, Bool.false_and, Bool.or_true, Bool.or_false, Bool.true_or, Bool.false_or, Bool.false_eq_true, Int.reduceLT, Int.reduceLE, Int.reduceToNat, Int.reduceNeg, shut_plain, freeL_cons, freeL_nil, free_int, free_bool, free_agg, free_str, free_nils, free_tup, free_sl, true_implies, false_implies, Nat.sub_zero, Int.natCast_nonneg, Int.toNat_natCast, Nat.le_refl, not_true_eq_false, Int.reduceAdd, Int.reduceSub, Int.reduceMul, wrap64, false_and, and_false, cond_true, cond_false, Bool.cond_true_left, Bool.cond_false_right, Int.reduceBNe, Int.reduceBEq, decide_true, decide_false, Int.cast_ofNat_Int, Nat.mul_one, eq_self, Bool.true_eq_false, Bool.not_eq_true, Bool.not_eq_false, deads, List.replicate, argsF, am38, secV, tA, tB, tW, oW, fW, lW, q1, blk_put lA, blk_set lA, List.length_append, List.length_map, ha, hb, c1, c2, hrl, tR, oR, fR, oA, oB, List.all_cons, List.all_nil, Int.reduceBNe, hm, recErr]
      rfl
end Go.Am.T
