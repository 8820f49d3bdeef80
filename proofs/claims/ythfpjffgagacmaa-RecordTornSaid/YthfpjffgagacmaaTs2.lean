import Derived.Test.YthfpjffgagacmaaTs1
set_option linter.unusedVariables false
set_option linter.unusedSimpArgs false
set_option maxRecDepth 10000
namespace Go.Am.T
attribute [local congr] selV_congr impB_congr

theorem am66_is : am66.mode = .pure ∧ am66.nargs = 3 ∧ am66.nargs ≤ am66.nt := ⟨rfl, rfl, by decide⟩
theorem am66_wp {N n : Nat} {args : List V} {h : Heap} {v : V} (ha : args.length = 3) (hfree : V.freeL args = true)
    (H : sx ⟨pureOf am, callA am N n, N, 0⟩ am66.body (fr am66.nt (argsF 0 args)) (deads am66.sites) (retQ am66.res fun x h' => V.shut (fun o => h'[o]?) sealDepth x = some v)) : callA am N (n + 1) 66 args h = some (v, h) :=
  call_pure at66 am66_is.1 (ha.trans am66_is.2.1.symm) am66_is.2.2 hfree (sx_wp H)

set_option maxHeartbeats 2000000 in
theorem getP_not {N n : Nat} (hN : 10 ≤ N) (hn : 3 ≤ n) (p : Int) {A B : List Int} (hp : (decide (p ≥ 0) && decide (p < 16)) = true) (ha : A.length = 64) (hb : B.length = 64) (ba : Bytes A) (bb : Bytes B) (ht : A.getD 0 0 = 177) (h : Heap) :
    callA am N n 66 [.int .i64 p, secV A, secV B] h = some (.tup [.agg (.int .i64 0 :: List.replicate 96 (.int .u8 0)), .int .i64 12], h) := by
  obtain ⟨n, rfl⟩ : ∃ m, n = m + 1 := ⟨n - 1, by omega⟩
  have c1 := @psn_spec N n (by omega) A ha ba
  have c5 := @pageMay_spec N n (by omega) p
  rw [hp] at c5
  obtain ⟨body, hbody⟩ : ∃ body, body = (A.drop 6).take 48 ++ (B.drop 6).take 48 := ⟨_, rfl⟩
  have hB : body.length = 96 := by rw [hbody]; simp [ha, hb]
  obtain ⟨C, hC⟩ : ∃ C, C = ((A.map (V.int .u8)).drop 6).take 48 := ⟨_, rfl⟩
  obtain ⟨D, hD⟩ : ∃ D, D = ((B.map (V.int .u8)).drop 6).take 48 := ⟨_, rfl⟩
  have hCD : body.map (V.int .u8) = C ++ D := by rw [hbody, hC, hD]; simp [List.map_take, List.map_drop]
  have cl : C.length = 48 := by rw [hC]; simp [ha]
  have dl : D.length = 48 := by rw [hD]; simp [hb]
  have hallA := allOne_ints .u8 A
  have hallB := allOne_ints .u8 B
  have co : C.all V.oneCell = true := by rw [hC, List.all_eq_true]; exact fun x hx => List.all_eq_true.1 hallA x (List.mem_of_mem_drop (List.mem_of_mem_take hx))
  have do_ : D.all V.oneCell = true := by rw [hD, List.all_eq_true]; exact fun x hx => List.all_eq_true.1 hallB x (List.mem_of_mem_drop (List.mem_of_mem_take hx))
  have hfA := freeL_ints .u8 A
  have hfB := freeL_ints .u8 B
  have cf : V.freeL C = true := by rw [hC]; exact freeL_of_mem fun x hx => freeL_mem hfA x (List.mem_of_mem_drop (List.mem_of_mem_take hx))
  have df : V.freeL D = true := by rw [hD]; exact freeL_of_mem fun x hx => freeL_mem hfB x (List.mem_of_mem_drop (List.mem_of_mem_take hx))
  have tA : List.take 64 (A.map (V.int .u8)) = A.map (V.int .u8) := List.take_of_length_le (by simp [ha])
  have tB : List.take 64 (B.map (V.int .u8)) = B.map (V.int .u8) := List.take_of_length_le (by simp [hb])
  have tD : List.take 48 D = D := List.take_of_length_le (by omega)
  have lA : (A.map (V.int .u8)).length = 64 := by simp [ha]
  have lB : (B.map (V.int .u8)).length = 64 := by simp [hb]
  have m2 : Nat.min 48 58 = 48 := rfl
  have m2' : Nat.min 58 48 = 48 := rfl
  have m3 : Nat.min 48 48 = 48 := rfl
  refine am66_wp rfl (by simp [freeL_cons, freeL_nil, secV_free, free_int]) ?_
  cases hm : mayP (num4 A 2) (decide (body = List.replicate 96 0)) with
  | false =>
    have c2 := @putP_not N n hN (by omega) p (num4 A 2) body hB hp hm
    rw [hCD, List.map_replicate] at c2
    simp only [List.replicate] at c2
    simp +contextual -implicitDefEqProofs (maxSteps := 10000000) only [sx_seq, sxL_succ, lpQ_norm, lpQ_exit, lpQ_ret, loopQ_norm, loopQ_exit, loopQ_ret, sqQ_norm, sqQ_ret, sqQ_exit, sx_block, blkQ_norm, blkQ_exit, blkQ_ret, sx_cond, cdP_true, cdP_false, cdP_bool, sx_region, sx_draw, plainD, List.all_cons, List.all_nil, List.isEmpty_nil, List.isEmpty_cons, sxo_nil, sxo_cons, sxo_guard, gdS_bool, gdS_eff, gdS_tup, gdS_sel, gdS_seleff, sxK_def, wcall_some, effP_ret, effP_set, effP_none, effP_ite, wop_call, wop_cv, cvP_func, sx_ret, sx_exit, sx_skip, sx_clr, stays, ↓selV_wt, ↓selV_wf, ↓impB_wt, ↓impB_wf, ↓selV_nor, ↓impB_nor, ↓selV_nt, ↓selV_nf, ↓impB_nt, ↓impB_nf, wantB_true, wantB_false, ↓selV_true, ↓selV_false, ↓selV_and, ↓impB_true, ↓impB_false, ↓impB_and, impB_triv, valOf_some, retH_some, ↓prim_pick, pickO_true, pickO_false, pickO_and, pickO_or, pickO_andr, pickO_orr, pickO_orrn, pickO_orn, pickO_bb, pickAnd_bool, pickOr_bool, ↓selV_nn, ↓impB_nn, Bool.and_assoc, Bool.or_assoc, doOp, ev_fr, ev_cst, put_none, put_fr, get, ins, del, dels, Nat.reduceLT, Nat.reduceEqDiff, ↓reduceIte, reduceCtorEq, ne_eq, not_false_eq_true, implies_true, framed_pureF, framed_fb, framed_N, framed_pure, wop_prim, prim, mkA, V.cells, List.getElem?_cons_zero, List.getElem?_cons_succ, List.set_cons_zero, List.set_cons_succ, Nat.zero_add, Nat.add_zero, Nat.reduceAdd, Nat.reduceSub, Nat.reduceMul, Nat.reduceLeDiff, Nat.not_lt_zero, List.map_cons, List.map_nil, List.cons_append, List.nil_append, loadA, cellsAt, nAg, packA, opt_bind_some, opt_map_some, opt_bind_none, opt_map_none, List.drop, List.take, List.head?, List.length_cons, List.length_nil, binA, unA, eqCells, eqCell, negB, fillA, sr_nil, sr_cons, sr_succ, sr_all, sr_len, storeA, Ob.with, indexedI, V.oneCell, intOf?, retQ_ret, retQ_norm, resA, resA1, fr_getD, packR, sealDepth, shut_bool, shut_int, Option.some.injEq, V.bool.injEq, V.int.injEq, Bool.not_true, Bool.not_false, true_and, and_true, and_self, Bool.and_true, Bool.and_false, Bool.true_and, Bool.false_and, Bool.or_true, Bool.or_false, Bool.true_or, Bool.false_or, Bool.false_eq_true, Int.reduceLT, Int.reduceLE, Int.reduceToNat, Int.reduceNeg, shut_plain, freeL_cons, freeL_nil, free_int, free_bool, free_agg, free_str, free_nils, free_tup, free_sl, true_implies, false_implies, Nat.sub_zero, Int.natCast_nonneg, Int.toNat_natCast, Nat.le_refl, not_true_eq_false, Int.reduceAdd, Int.reduceSub, Int.reduceMul, wrap64, false_and, and_false, cond_true, cond_false, Bool.cond_true_left, Bool.cond_false_right, Int.reduceBNe, Int.reduceBEq, decide_true, decide_false, Int.cast_ofNat_Int, Nat.mul_one, eq_self, Bool.true_eq_false, Bool.not_eq_true, Bool.not_eq_false, deads, List.replicate, argsF, am66, secV, tA, tB, List.length_map, ha, hb, c1, c2, c5, sx_drawd, wpd_nil, wpd_cons, wdK_def, fpOf, fpV, fpCall, Fp.ok, disj, List.contains_cons, List.contains_nil, Nat.reduceBEq, List.all_append, V.objsL, V.objs,  List.getD_cons_zero, List.getD_cons_succ, List.append_nil, Option.isSome, Int.reduceToNat, boundsA, Option.isNone, copyA, lenA, firstA, m2, m2', m3, ← hC, ← hD, cl, co, dl, do_, blk_put cl, blk_set cl, blk_take cl, blk_drop cl, blk_put dl, blk_set dl, blk_take dl, blk_drop dl, cf, df, freeL_append, List.length_append, tD]
  | true =>
    have c2 := @putP_spec N n hN (by omega) p (num4 A 2) body hB hp hm
    rw [hCD] at c2
    have hne : decide (pgW p (num4 A 2) body = A ++ B) = false := by
      refine decide_eq_false fun e => pgW_tag p (num4 A 2) body ?_
      rw [e]
      cases A with
      | nil => cases ha
      | cons x A => exact ht
    have q1 : eqCells (List.replicate 128 (.i .u8)) ((pgW p (num4 A 2) body).map (V.int .u8)) (A.map (V.int .u8) ++ B.map (V.int .u8)) = some false := by
      rw [← List.map_append, ← hne]
      exact eqCells_ints (pgW_length hB) (by simp [ha, hb])
    simp only [List.replicate] at q1
    obtain ⟨W, hW⟩ : ∃ W, W = (pgW p (num4 A 2) body).map (V.int .u8) := ⟨_, rfl⟩
    have lW : W.length = 128 := by rw [hW]; simp [pgW_length hB]
    have tW : List.take 128 W = W := List.take_of_length_le (by omega)
    have oW : W.all V.oneCell = true := by rw [hW]; exact allOne_ints _ _
    have fW : V.freeL W = true := by rw [hW]; exact freeL_ints _ _
    rw [← hW] at c2 q1
    simp +contextual -implicitDefEqProofs (maxSteps := 10000000) only [sx_seq, sxL_succ, lpQ_norm, lpQ_exit, lpQ_ret, loopQ_norm, loopQ_exit, loopQ_ret, sqQ_norm, sqQ_ret, sqQ_exit, sx_block, blkQ_norm, blkQ_exit, blkQ_ret, sx_cond, cdP_true, cdP_false, cdP_bool, sx_region, sx_draw, plainD, List.all_cons, List.all_nil, List.isEmpty_nil, List.isEmpty_cons, sxo_nil, sxo_cons, sxo_guard, gdS_bool, gdS_eff, gdS_tup, gdS_sel, gdS_seleff, sxK_def, wcall_some, effP_ret, effP_set, effP_none, effP_ite, wop_call, wop_cv, cvP_func, sx_ret, sx_exit, sx_skip, sx_clr, stays, ↓selV_wt, ↓selV_wf, ↓impB_wt, ↓impB_wf, ↓selV_nor, ↓impB_nor, ↓selV_nt, ↓selV_nf, ↓impB_nt, ↓impB_nf, wantB_true, wantB_false, ↓selV_true, ↓selV_false, ↓selV_and, ↓impB_true, ↓impB_false, ↓impB_and, impB_triv, valOf_some, retH_some, ↓prim_pick, pickO_true, pickO_false, pickO_and, pickO_or, pickO_andr, pickO_orr, pickO_orrn, pickO_orn, pickO_bb, pickAnd_bool, pickOr_bool, ↓selV_nn, ↓impB_nn, Bool.and_assoc, Bool.or_assoc, doOp, ev_fr, ev_cst, put_none, put_fr, get, ins, del, dels, Nat.reduceLT, Nat.reduceEqDiff, ↓reduceIte, reduceCtorEq, ne_eq, not_false_eq_true, implies_true, framed_pureF, framed_fb, framed_N, framed_pure, wop_prim, prim, mkA, V.cells, List.getElem?_cons_zero, List.getElem?_cons_succ, List.set_cons_zero, List.set_cons_succ, Nat.zero_add, Nat.add_zero, Nat.reduceAdd, Nat.reduceSub, Nat.reduceMul, Nat.reduceLeDiff, Nat.not_lt_zero, List.map_cons, List.map_nil, List.cons_append, List.nil_append, loadA, cellsAt, nAg, packA, opt_bind_some, opt_map_some, opt_bind_none, opt_map_none, List.drop, List.take, List.head?, List.length_cons, List.length_nil, binA, unA, eqCells, eqCell, negB, fillA, sr_nil, sr_cons, sr_succ, sr_all, sr_len, storeA, Ob.with, indexedI, V.oneCell, intOf?, retQ_ret, retQ_norm, resA, resA1, fr_getD, packR, sealDepth, shut_bool, shut_int, Option.some.injEq, V.bool.injEq, V.int.injEq, Bool.not_true, Bool.not_false, true_and, and_true, and_self, Bool.and_true, Bool.and_false, Bool.true_and, Bool.false_and, Bool.or_true, Bool.or_false, Bool.true_or, Bool.false_or, Bool.false_eq_true, Int.reduceLT, Int.reduceLE, Int.reduceToNat, Int.reduceNeg, shut_plain, freeL_cons, freeL_nil, free_int, free_bool, free_agg, free_str, free_nils, free_tup, free_sl, true_implies, false_implies, Nat.sub_zero, Int.natCast_nonneg, Int.toNat_natCast, Nat.le_refl, not_true_eq_false, Int.reduceAdd, Int.reduceSub, Int.reduceMul, wrap64, false_and, and_false, cond_true, cond_false, Bool.cond_true_left, Bool.cond_false_right, Int.reduceBNe, Int.reduceBEq, decide_true, decide_false, Int.cast_ofNat_Int, Nat.mul_one, eq_self, Bool.true_eq_false, Bool.not_eq_true, Bool.not_eq_false, deads, List.replicate, argsF, am66, secV, tA, tB, List.length_map, ha, hb, c1, c2, c5, lW, tW, oW, fW, q1, hallA, hallB, blk_put lA, blk_set lA, sx_drawd, wpd_nil, wpd_cons, wdK_def, fpOf, fpV, fpCall, Fp.ok, disj, List.contains_cons, List.contains_nil, Nat.reduceBEq, List.all_append, V.objsL, V.objs,  List.getD_cons_zero, List.getD_cons_succ, List.append_nil, Option.isSome, Int.reduceToNat, boundsA, Option.isNone, copyA, lenA, firstA, m2, m2', m3, ← hC, ← hD, cl, co, dl, do_, blk_put cl, blk_set cl, blk_take cl, blk_drop cl, blk_put dl, blk_set dl, blk_take dl, blk_drop dl, cf, df, freeL_append, List.length_append, tD]

theorem wholeP_not {N n : Nat} (hN : 10 ≤ N) (hn : 4 ≤ n) (p : Int) {A B : List Int} (hp : (decide (p ≥ 0) && decide (p < 16)) = true) (ha : A.length = 64) (hb : B.length = 64) (ba : Bytes A) (bb : Bytes B) (ht : A.getD 0 0 = 177) (h : Heap) :
    callA am N n 46 [.int .i64 p, secV A, secV B] h = some (.bool false, h) := by
  obtain ⟨n, rfl⟩ : ∃ m, n = m + 1 := ⟨n - 1, by omega⟩
  have c1 := @getP_not N n hN (by omega) p A B hp ha hb ba bb ht
  simp only [secV] at c1
  simp only [List.replicate] at c1
  have tA : List.take 64 (A.map (V.int .u8)) = A.map (V.int .u8) := List.take_of_length_le (by simp [ha])
  have tB : List.take 64 (B.map (V.int .u8)) = B.map (V.int .u8) := List.take_of_length_le (by simp [hb])
  refine call_pure at46 rfl rfl (by decide) (by simp [freeL_cons, freeL_nil, secV_free, free_int]) (sx_wp ?_)
  simp +contextual -implicitDefEqProofs (maxSteps := 10000000) only [sx_seq, sxL_succ, lpQ_norm, lpQ_exit, lpQ_ret, loopQ_norm, loopQ_exit, loopQ_ret, sqQ_norm, sqQ_ret, sqQ_exit, sx_block, blkQ_norm, blkQ_exit, blkQ_ret, sx_cond, cdP_true, cdP_false, cdP_bool, sx_region, sx_draw, plainD, List.all_cons, List.all_nil, List.isEmpty_nil, List.isEmpty_cons, sxo_nil, sxo_cons, sxo_guard, gdS_bool, gdS_eff, gdS_tup, gdS_sel, gdS_seleff, sxK_def, wcall_some, effP_ret, effP_set, effP_none, effP_ite, wop_call, wop_cv, cvP_func, sx_ret, sx_exit, sx_skip, sx_clr, stays, ↓selV_wt, ↓selV_wf, ↓impB_wt, ↓impB_wf, ↓selV_nor, ↓impB_nor, ↓selV_nt, ↓selV_nf, ↓impB_nt, ↓impB_nf, wantB_true, wantB_false, ↓selV_true, ↓selV_false, ↓selV_and, ↓impB_true, ↓impB_false, ↓impB_and, impB_triv, valOf_some, retH_some, ↓prim_pick, pickO_true, pickO_false, pickO_and, pickO_or, pickO_andr, pickO_orr, pickO_orrn, pickO_orn, pickO_bb, pickAnd_bool, pickOr_bool, ↓selV_nn, ↓impB_nn, Bool.and_assoc, Bool.or_assoc, doOp, ev_fr, ev_cst, put_none, put_fr, get, ins, del, dels, Nat.reduceLT, Nat.reduceEqDiff, ↓reduceIte, reduceCtorEq, ne_eq, not_false_eq_true, implies_true, framed_pureF, framed_fb, framed_N, framed_pure, wop_prim, prim, mkA, V.cells, List.getElem?_cons_zero, List.getElem?_cons_succ, List.set_cons_zero, List.set_cons_succ, Nat.zero_add, Nat.add_zero, Nat.reduceAdd, Nat.reduceSub, Nat.reduceMul, Nat.reduceLeDiff, Nat.not_lt_zero, List.map_cons, List.map_nil, List.cons_append, List.nil_append, loadA, cellsAt, nAg, packA, opt_bind_some, opt_map_some, opt_bind_none, opt_map_none, List.drop, List.take, List.head?, List.length_cons, List.length_nil, binA, unA, eqCells, eqCell, negB, fillA, sr_nil, sr_cons, sr_succ, sr_all, sr_len, storeA, Ob.with, indexedI, V.oneCell, intOf?, retQ_ret, retQ_norm, resA, resA1, fr_getD, packR, sealDepth, shut_bool, shut_int, Option.some.injEq, V.bool.injEq, V.int.injEq, Bool.not_true, Bool.not_false, true_and, and_true, and_self, Bool.and_true, Bool.and_false, Bool.true_and, Bool.false_and, Bool.or_true, Bool.or_false, Bool.true_or, Bool.false_or, Bool.false_eq_true, Int.reduceLT, Int.reduceLE, Int.reduceToNat, Int.reduceNeg, shut_plain, freeL_cons, freeL_nil, free_int, free_bool, free_agg, free_str, free_nils, free_tup, free_sl, true_implies, false_implies, Nat.sub_zero, Int.natCast_nonneg, Int.toNat_natCast, Nat.le_refl, not_true_eq_false, Int.reduceAdd, Int.reduceSub, Int.reduceMul, wrap64, false_and, and_false, cond_true, cond_false, Bool.cond_true_left, Bool.cond_false_right, Int.reduceBNe, Int.reduceBEq, decide_true, decide_false, Int.cast_ofNat_Int, Nat.mul_one, eq_self, Bool.true_eq_false, Bool.not_eq_true, Bool.not_eq_false, deads, List.replicate, argsF, am46, secV, tA, tB, List.length_map, ha, hb, c1]
end Go.Am.T
