import Derived.Test.YtojiebcpmkjblaaTv6
set_option linter.unusedVariables false
set_option linter.unusedSimpArgs false
set_option maxRecDepth 10000
namespace Go.Am.T
attribute [local congr] selV_congr impB_congr

theorem am10_wp {N n : Nat} {args : List V} {h : Heap} {v : V} (ha : args.length = 1) (hfree : V.freeL args = true)
    (H : sx ⟨pureOf am, callA am N n, N, 0⟩ am10.body (fr am10.nt (argsF 0 args)) (deads am10.sites) (retQ am10.res fun x h' => V.shut (fun o => h'[o]?) sealDepth x = some v)) : callA am N (n + 1) 10 args h = some (v, h) :=
  call_pure at10 rfl ha (by decide) hfree (sx_wp H)

theorem part_byt {S : List Int} (hS : S.length = 64) {a l i : Nat} (h : a + l ≤ 64) (hi : i < l) : ((S.drop a).take l).getD i 0 = byt S (a + i) := by
  simp [byt, List.getD_eq_getElem?_getD, List.getElem?_take_of_lt hi]

theorem half_bits {b : Int} {i : Nat} (h0 : 0 ≤ b) (h1 : b ≤ 255) : Int.tmod (b / 2 ^ i) 2 = b / 2 ^ i % 2 ∧ IntKind.i64.wrap (Int.tdiv (b / 2 ^ i) 2) = b / 2 ^ (i + 1) := by
  obtain ⟨k0, k1⟩ := @bits_in b i h0 h1
  refine ⟨Int.tmod_eq_emod_of_nonneg k0, ?_⟩
  rw [Int.tdiv_eq_ediv_of_nonneg k0, wrap64 (by omega) (by omega), Int.pow_succ, Int.ediv_ediv_of_nonneg (Int.pow_nonneg (by decide))]

set_option maxHeartbeats 4000000 in
theorem refGet_spec {N n : Nat} (hN : 20 ≤ N) (hn : 4 ≤ n) (S : List Int) (hS : S.length = 64) (hb : Bytes S) (h : Heap) :
    callA am N n 10 [.agg (S.map (V.int .u8))] h = some (.tup [.agg (getV S).1.cs, .int .i64 (getV S).2], h) := by
  obtain ⟨n, rfl⟩ : ∃ m, n = m + 1 := ⟨n - 1, by omega⟩
  have c31 := @refFirst_spec N n (by omega)
  have hlm : (S.map (V.int .u8)).length = 64 := by rw [List.length_map, hS]
  have oS := allOne_ints .u8 S
  have tS : List.take 64 (S.map (V.int .u8)) = S.map (V.int .u8) := List.take_of_length_le (by omega)
  have q0 : eqCells [.i .u8, .i .u8, .i .u8, .i .u8, .i .u8, .i .u8, .i .u8, .i .u8, .i .u8, .i .u8, .i .u8, .i .u8, .i .u8, .i .u8, .i .u8, .i .u8, .i .u8, .i .u8, .i .u8, .i .u8, .i .u8, .i .u8, .i .u8, .i .u8, .i .u8, .i .u8, .i .u8, .i .u8, .i .u8, .i .u8, .i .u8, .i .u8, .i .u8, .i .u8, .i .u8, .i .u8, .i .u8, .i .u8, .i .u8, .i .u8, .i .u8, .i .u8, .i .u8, .i .u8, .i .u8, .i .u8, .i .u8, .i .u8, .i .u8, .i .u8, .i .u8, .i .u8, .i .u8, .i .u8, .i .u8, .i .u8, .i .u8, .i .u8, .i .u8, .i .u8, .i .u8, .i .u8, .i .u8, .i .u8] (S.map (V.int .u8)) [.int .u8 0, .int .u8 0, .int .u8 0, .int .u8 0, .int .u8 0, .int .u8 0, .int .u8 0, .int .u8 0, .int .u8 0, .int .u8 0, .int .u8 0, .int .u8 0, .int .u8 0, .int .u8 0, .int .u8 0, .int .u8 0, .int .u8 0, .int .u8 0, .int .u8 0, .int .u8 0, .int .u8 0, .int .u8 0, .int .u8 0, .int .u8 0, .int .u8 0, .int .u8 0, .int .u8 0, .int .u8 0, .int .u8 0, .int .u8 0, .int .u8 0, .int .u8 0, .int .u8 0, .int .u8 0, .int .u8 0, .int .u8 0, .int .u8 0, .int .u8 0, .int .u8 0, .int .u8 0, .int .u8 0, .int .u8 0, .int .u8 0, .int .u8 0, .int .u8 0, .int .u8 0, .int .u8 0, .int .u8 0, .int .u8 0, .int .u8 0, .int .u8 0, .int .u8 0, .int .u8 0, .int .u8 0, .int .u8 0, .int .u8 0, .int .u8 0, .int .u8 0, .int .u8 0, .int .u8 0, .int .u8 0, .int .u8 0, .int .u8 0, .int .u8 0] = some (decide (S = List.replicate 64 0)) := eq64 hS (B := List.replicate 64 0) rfl
  have b1 := byt_rd hS (k := 1) (by decide)
  have b2 := byt_rd hS (k := 2) (by decide)
  have b3 := byt_rd hS (k := 3) (by decide)
  have k2 := byt_bounds hS hb (k := 2) (by decide)
  have k3 := byt_bounds hS hb (k := 3) (by decide)
  have w2 : IntKind.i64.wrap (byt S 2) = byt S 2 := wrap64 (by omega) (by omega)
  have w3 : IntKind.i64.wrap (byt S 3) = byt S 3 := wrap64 (by omega) (by omega)
  refine am10_wp rfl (by simp [freeL_cons, freeL_nil, free_agg, freeL_ints]) ?_
  cases hz : decide (S = List.replicate 64 0) with
  | true =>
    have e : getV S = (firstV, 0) := by unfold getV; rw [if_pos (of_decide_eq_true hz)]
    rw [hz] at q0
    rw [e]
    simp only [firstV_cs] at c31 ⊢
    simp +contextual -implicitDefEqProofs (maxSteps := 10000000) only [sx_seq, sxL_succ, lpQ_norm, lpQ_exit, lpQ_ret, loopQ_norm, loopQ_exit, loopQ_ret, sqQ_norm, sqQ_ret, sqQ_exit, sx_block, blkQ_norm, blkQ_exit, blkQ_ret, sx_cond, cdP_true, cdP_false, cdP_bool, sx_region, sx_draw, plainD, List.all_cons, List.all_nil, List.isEmpty_nil, List.isEmpty_cons, sxo_nil, sxo_cons, sxo_guard, gdS_bool, gdS_eff, gdS_tup, gdS_sel, gdS_seleff, sxK_def, wcall_some, effP_ret, effP_set, effP_none, effP_ite, wop_call, wop_cv, cvP_func, sx_ret, sx_exit, sx_skip, sx_clr, stays, ↓selV_wt, ↓selV_wf, ↓impB_wt, ↓impB_wf, ↓selV_nor, ↓impB_nor, ↓selV_nt, ↓selV_nf, ↓impB_nt, ↓impB_nf, wantB_true, wantB_false, ↓selV_true, ↓selV_false, ↓selV_and, ↓impB_true, ↓impB_false, ↓impB_and, impB_triv, valOf_some, retH_some, ↓prim_pick, pickO_true, pickO_false, pickO_and, pickO_or, pickO_andr, pickO_orr, pickO_orrn, pickO_orn, pickO_bb, pickAnd_bool, pickOr_bool, ↓selV_nn, ↓impB_nn, Bool.and_assoc, Bool.or_assoc, doOp, ev_fr, ev_cst, put_none, put_fr, get, ins, del, dels, Nat.reduceLT, Nat.reduceEqDiff, ↓reduceIte, reduceCtorEq, ne_eq, not_false_eq_true, implies_true, framed_pureF, framed_fb, framed_N, framed_pure, wop_prim, prim, YLD, mkA, V.cells, List.getElem?_cons_zero, List.getElem?_cons_succ, List.set_cons_zero, List.set_cons_succ, Nat.zero_add, Nat.add_zero, Nat.reduceAdd, Nat.reduceSub, Nat.reduceMul, Nat.reduceLeDiff, Nat.not_lt_zero, List.map_cons, List.map_nil, List.cons_append, List.nil_append, loadA, cellsAt, nAg, packA, opt_bind_some, opt_map_some, opt_bind_none, opt_map_none, List.drop, List.take, List.head?, List.length_cons, List.length_nil, binA, unA, eqCells, eqCell, negB, fillA, sr_nil, sr_cons, sr_succ, sr_all, sr_len, storeA, Ob.with, indexedI, V.oneCell, intOf?, retQ_ret, retQ_norm, resA, resA1, fr_getD, packR, sealDepth, shut_bool, shut_int, Option.some.injEq, V.bool.injEq, V.int.injEq, Bool.not_true, Bool.not_false, true_and, and_true, and_self, Bool.and_true, Bool.and_false, Bool.true_and, Bool.false_and, Bool.or_true, Bool.or_false, Bool.true_or, Bool.false_or, Bool.false_eq_true, Int.reduceLT, Int.reduceLE, Int.reduceToNat, Int.reduceNeg, shut_plain, freeL_cons, freeL_nil, free_int, free_bool, free_agg, free_str, free_nils, free_tup, free_sl, true_implies, false_implies, Nat.sub_zero, Int.natCast_nonneg, Int.toNat_natCast, Nat.le_refl, not_true_eq_false, Int.reduceAdd, Int.reduceSub, Int.reduceMul, wrap64, false_and, and_false, cond_true, cond_false, Bool.cond_true_left, Bool.cond_false_right, Int.reduceBNe, Int.reduceBEq, decide_true, decide_false, Int.cast_ofNat_Int, Nat.mul_one, eq_self, Bool.true_eq_false, Bool.not_eq_true, Bool.not_eq_false, deads, List.replicate, argsF, am10, hlm, tS, q0, c31, b1, b2, w2, -List.drop]
  | false =>
    rw [hz] at q0
    simp +contextual -implicitDefEqProofs (maxSteps := 10000000) only [sx_seq, sxL_succ, lpQ_norm, lpQ_exit, lpQ_ret, loopQ_norm, loopQ_exit, loopQ_ret, sqQ_norm, sqQ_ret, sqQ_exit, sx_block, blkQ_norm, blkQ_exit, blkQ_ret, sx_cond, cdP_true, cdP_false, cdP_bool, sx_region, sx_draw, plainD, List.all_cons, List.all_nil, List.isEmpty_nil, List.isEmpty_cons, sxo_nil, sxo_cons, sxo_guard, gdS_bool, gdS_eff, gdS_tup, gdS_sel, gdS_seleff, sxK_def, wcall_some, effP_ret, effP_set, effP_none, effP_ite, wop_call, wop_cv, cvP_func, sx_ret, sx_exit, sx_skip, sx_clr, stays, ↓selV_wt, ↓selV_wf, ↓impB_wt, ↓impB_wf, ↓selV_nor, ↓impB_nor, ↓selV_nt, ↓selV_nf, ↓impB_nt, ↓impB_nf, wantB_true, wantB_false, ↓selV_true, ↓selV_false, ↓selV_and, ↓impB_true, ↓impB_false, ↓impB_and, impB_triv, valOf_some, retH_some, ↓prim_pick, pickO_true, pickO_false, pickO_and, pickO_or, pickO_andr, pickO_orr, pickO_orrn, pickO_orn, pickO_bb, pickAnd_bool, pickOr_bool, ↓selV_nn, ↓impB_nn, Bool.and_assoc, Bool.or_assoc, doOp, ev_fr, ev_cst, put_none, put_fr, get, ins, del, dels, Nat.reduceLT, Nat.reduceEqDiff, ↓reduceIte, reduceCtorEq, ne_eq, not_false_eq_true, implies_true, framed_pureF, framed_fb, framed_N, framed_pure, wop_prim, prim, YLD, mkA, V.cells, List.getElem?_cons_zero, List.getElem?_cons_succ, List.set_cons_zero, List.set_cons_succ, Nat.zero_add, Nat.add_zero, Nat.reduceAdd, Nat.reduceSub, Nat.reduceMul, Nat.reduceLeDiff, Nat.not_lt_zero, List.map_cons, List.map_nil, List.cons_append, List.nil_append, loadA, cellsAt, nAg, packA, opt_bind_some, opt_map_some, opt_bind_none, opt_map_none, List.drop, List.take, List.head?, List.length_cons, List.length_nil, binA, unA, eqCells, eqCell, negB, fillA, sr_nil, sr_cons, sr_succ, sr_all, sr_len, storeA, Ob.with, indexedI, V.oneCell, intOf?, retQ_ret, retQ_norm, resA, resA1, fr_getD, packR, sealDepth, shut_bool, shut_int, Option.some.injEq, V.bool.injEq, V.int.injEq, Bool.not_true, Bool.not_false, true_and, and_true, and_self, Bool.and_true, Bool.and_false, Bool.true_and, Bool.false_and, Bool.or_true, Bool.or_false, Bool.true_or, Bool.false_or, Bool.false_eq_true, Int.reduceLT, Int.reduceLE, Int.reduceToNat, Int.reduceNeg, shut_plain, freeL_cons, freeL_nil, free_int, free_bool, free_agg, free_str, free_nils, free_tup, free_sl, true_implies, false_implies, Nat.sub_zero, Int.natCast_nonneg, Int.toNat_natCast, Nat.le_refl, not_true_eq_false, Int.reduceAdd, Int.reduceSub, Int.reduceMul, wrap64, false_and, and_false, cond_true, cond_false, Bool.cond_true_left, Bool.cond_false_right, Int.reduceBNe, Int.reduceBEq, decide_true, decide_false, Int.cast_ofNat_Int, Nat.mul_one, eq_self, Bool.true_eq_false, Bool.not_eq_true, Bool.not_eq_false, deads, List.replicate, argsF, am10, hlm, tS, q0, b1, b2, w2, -List.drop]
    obtain ⟨T, hT⟩ : ∃ T, T = (S.drop 4).take 8 := ⟨_, rfl⟩
    have hTl : T.length = 8 := by rw [hT]; simp [hS]
    obtain ⟨Z8, hZ8⟩ : ∃ Z8 : List (Bool × Int), Z8 = List.replicate 8 (false, 0) := ⟨_, rfl⟩
    have hZl : Z8.length = 8 := by rw [hZ8]; rfl
    refine sx_loop (fun j t H => t = fr 83 [(1, .ptr 0 1 0), (2, .ptr 1 1 0), (4, .ptr 2 1 0), (5, .int .i64 (4 + (j : Int)))] ∧ j ≤ 8 ∧ H = [⟨1, .var (S.map (V.int .u8))⟩, ⟨1, .var zV.cs⟩, ⟨1, .var (Vw.mk (numF (T.take j)) (byt S 1 == 1) (byt S 2) Z8).cs⟩]) 8 (by show 8 < N; omega) ⟨rfl, by omega, by rw [hZ8]; rfl⟩ ?_
    rintro j t H hj ⟨rfl, hj8, rfl⟩
    have hrl : ∀ a b c, (Vw.mk a b c Z8).cs.length = 19 := fun a b c => Vw.len hZl
    obtain ⟨p, hp⟩ : ∃ p : Nat, p = 4 + j := ⟨_, rfl⟩
    have hpz : 4 + (j : Int) = (p : Int) := by omega
    rw [hpz]
    by_cases hlt : j < 8
    · have g1 : decide ((p : Int) < 12) = true := decide_eq_true (by omega)
      have i64 : (p : Int) < 64 := by omega
      have rd := byt_rd hS (k := p) (by omega)
      have kb := byt_bounds hS hb (k := p) (by omega)
      have wb : IntKind.i64.wrap (byt S p) = byt S p := wrap64 (by omega) (by omega)
      have ht := @numF_take T j (by omega)
      rw [hT, part_byt hS (by decide) hlt, ← hT, ← hp] at ht
      unfold num1 at ht
      have wp' : IntKind.i64.wrap ((p : Int) + 1) = 4 + ((j + 1 : Nat) : Int) := (wrap64 (by omega) (by omega)).trans (by omega)
      have l1 : p ≤ 63 := by omega
      have hj1 : j + 1 ≤ 8 := by omega
      simp +contextual -implicitDefEqProofs (maxSteps := 10000000) only [sx_seq, sxL_succ, lpQ_norm, lpQ_exit, lpQ_ret, loopQ_norm, loopQ_exit, loopQ_ret, sqQ_norm, sqQ_ret, sqQ_exit, sx_block, blkQ_norm, blkQ_exit, blkQ_ret, sx_cond, cdP_true, cdP_false, cdP_bool, sx_region, sx_draw, plainD, List.all_cons, List.all_nil, List.isEmpty_nil, List.isEmpty_cons, sxo_nil, sxo_cons, sxo_guard, gdS_bool, gdS_eff, gdS_tup, gdS_sel, gdS_seleff, sxK_def, wcall_some, effP_ret, effP_set, effP_none, effP_ite, wop_call, wop_cv, cvP_func, sx_ret, sx_exit, sx_skip, sx_clr, stays, ↓selV_wt, ↓selV_wf, ↓impB_wt, ↓impB_wf, ↓selV_nor, ↓impB_nor, ↓selV_nt, ↓selV_nf, ↓impB_nt, ↓impB_nf, wantB_true, wantB_false, ↓selV_true, ↓selV_false, ↓selV_and, ↓impB_true, ↓impB_false, ↓impB_and, impB_triv, valOf_some, retH_some, ↓prim_pick, pickO_true, pickO_false, pickO_and, pickO_or, pickO_andr, pickO_orr, pickO_orrn, pickO_orn, pickO_bb, pickAnd_bool, pickOr_bool, ↓selV_nn, ↓impB_nn, Bool.and_assoc, Bool.or_assoc, doOp, ev_fr, ev_cst, put_none, put_fr, get, ins, del, dels, Nat.reduceLT, Nat.reduceEqDiff, ↓reduceIte, reduceCtorEq, ne_eq, not_false_eq_true, implies_true, framed_pureF, framed_fb, framed_N, framed_pure, wop_prim, prim, YLD, mkA, V.cells, List.getElem?_cons_zero, List.getElem?_cons_succ, List.set_cons_zero, List.set_cons_succ, Nat.zero_add, Nat.add_zero, Nat.reduceAdd, Nat.reduceSub, Nat.reduceMul, Nat.reduceLeDiff, Nat.not_lt_zero, List.map_cons, List.map_nil, List.cons_append, List.nil_append, loadA, cellsAt, nAg, packA, opt_bind_some, opt_map_some, opt_bind_none, opt_map_none, List.drop, List.take, List.head?, List.length_cons, List.length_nil, binA, unA, eqCells, eqCell, negB, fillA, sr_nil, sr_cons, sr_succ, sr_all, sr_len, storeA, Ob.with, indexedI, V.oneCell, intOf?, retQ_ret, retQ_norm, resA, resA1, fr_getD, packR, sealDepth, shut_bool, shut_int, Option.some.injEq, V.bool.injEq, V.int.injEq, Bool.not_true, Bool.not_false, true_and, and_true, and_self, Bool.and_true, Bool.and_false, Bool.true_and, Bool.false_and, Bool.or_true, Bool.or_false, Bool.true_or, Bool.false_or, Bool.false_eq_true, Int.reduceLT, Int.reduceLE, Int.reduceToNat, Int.reduceNeg, shut_plain, freeL_cons, freeL_nil, free_int, free_bool, free_agg, free_str, free_nils, free_tup, free_sl, true_implies, false_implies, Nat.sub_zero, Int.natCast_nonneg, Int.toNat_natCast, Nat.le_refl, not_true_eq_false, Int.reduceAdd, Int.reduceSub, Int.reduceMul, wrap64, false_and, and_false, cond_true, cond_false, Bool.cond_true_left, Bool.cond_false_right, Int.reduceBNe, Int.reduceBEq, decide_true, decide_false, Int.cast_ofNat_Int, Nat.mul_one, eq_self, Bool.true_eq_false, Bool.not_eq_true, Bool.not_eq_false, deads, List.replicate, argsF, sx_drawd, wpd_nil, wpd_cons, wdK_def, fpOf, fpV, fpCall, Fp.ok, disj, List.contains_cons, List.contains_nil, Nat.reduceBEq, List.all_append, V.objsL, V.objs,  List.getD_cons_zero, List.getD_cons_succ, List.append_nil, g1, i64, hlm, rd, wb, wrap_wrap_add, ht, wp', l1, hrl, vd0, vs0, hj1, hlt, -List.drop]
    · have ej : j = 8 := by omega
      subst ej
      have g1 : decide ((p : Int) < 12) = false := decide_eq_false (by omega)
      have tk : T.take 8 = T := List.take_of_length_le (by omega)
      rw [tk]
      simp +contextual -implicitDefEqProofs (maxSteps := 10000000) only [sx_seq, sxL_succ, lpQ_norm, lpQ_exit, lpQ_ret, loopQ_norm, loopQ_exit, loopQ_ret, sqQ_norm, sqQ_ret, sqQ_exit, sx_block, blkQ_norm, blkQ_exit, blkQ_ret, sx_cond, cdP_true, cdP_false, cdP_bool, sx_region, sx_draw, plainD, List.all_cons, List.all_nil, List.isEmpty_nil, List.isEmpty_cons, sxo_nil, sxo_cons, sxo_guard, gdS_bool, gdS_eff, gdS_tup, gdS_sel, gdS_seleff, sxK_def, wcall_some, effP_ret, effP_set, effP_none, effP_ite, wop_call, wop_cv, cvP_func, sx_ret, sx_exit, sx_skip, sx_clr, stays, ↓selV_wt, ↓selV_wf, ↓impB_wt, ↓impB_wf, ↓selV_nor, ↓impB_nor, ↓selV_nt, ↓selV_nf, ↓impB_nt, ↓impB_nf, wantB_true, wantB_false, ↓selV_true, ↓selV_false, ↓selV_and, ↓impB_true, ↓impB_false, ↓impB_and, impB_triv, valOf_some, retH_some, ↓prim_pick, pickO_true, pickO_false, pickO_and, pickO_or, pickO_andr, pickO_orr, pickO_orrn, pickO_orn, pickO_bb, pickAnd_bool, pickOr_bool, ↓selV_nn, ↓impB_nn, Bool.and_assoc, Bool.or_assoc, doOp, ev_fr, ev_cst, put_none, put_fr, get, ins, del, dels, Nat.reduceLT, Nat.reduceEqDiff, ↓reduceIte, reduceCtorEq, ne_eq, not_false_eq_true, implies_true, framed_pureF, framed_fb, framed_N, framed_pure, wop_prim, prim, YLD, mkA, V.cells, List.getElem?_cons_zero, List.getElem?_cons_succ, List.set_cons_zero, List.set_cons_succ, Nat.zero_add, Nat.add_zero, Nat.reduceAdd, Nat.reduceSub, Nat.reduceMul, Nat.reduceLeDiff, Nat.not_lt_zero, List.map_cons, List.map_nil, List.cons_append, List.nil_append, loadA, cellsAt, nAg, packA, opt_bind_some, opt_map_some, opt_bind_none, opt_map_none, List.drop, List.take, List.head?, List.length_cons, List.length_nil, binA, unA, eqCells, eqCell, negB, fillA, sr_nil, sr_cons, sr_succ, sr_all, sr_len, storeA, Ob.with, indexedI, V.oneCell, intOf?, retQ_ret, retQ_norm, resA, resA1, fr_getD, packR, sealDepth, shut_bool, shut_int, Option.some.injEq, V.bool.injEq, V.int.injEq, Bool.not_true, Bool.not_false, true_and, and_true, and_self, Bool.and_true, Bool.and_false, Bool.true_and, Bool.false_and, Bool.or_true, Bool.or_false, Bool.true_or, Bool.false_or, Bool.false_eq_true, Int.reduceLT, Int.reduceLE, Int.reduceToNat, Int.reduceNeg, shut_plain, freeL_cons, freeL_nil, free_int, free_bool, free_agg, free_str, free_nils, free_tup, free_sl, true_implies, false_implies, Nat.sub_zero, Int.natCast_nonneg, Int.toNat_natCast, Nat.le_refl, not_true_eq_false, Int.reduceAdd, Int.reduceSub, Int.reduceMul, wrap64, false_and, and_false, cond_true, cond_false, Bool.cond_true_left, Bool.cond_false_right, Int.reduceBNe, Int.reduceBEq, decide_true, decide_false, Int.cast_ofNat_Int, Nat.mul_one, eq_self, Bool.true_eq_false, Bool.not_eq_true, Bool.not_eq_false, deads, List.replicate, argsF, g1, hlm, b3, w3, -List.drop]
      refine sx_loop (fun i t H => t = fr 83 [(1, .ptr 0 1 0), (2, .ptr 1 1 0), (4, .ptr 2 1 0), (6, .int .i64 (byt S 3 / 2 ^ i)), (7, .int .i64 i)] ∧ i ≤ 8 ∧ H = [⟨1, .var (S.map (V.int .u8))⟩, ⟨1, .var zV.cs⟩, ⟨1, .var (Vw.mk (numF T) (byt S 1 == 1) (byt S 2) (partM (saidM S) i)).cs⟩]) 8 (by show 8 < N; omega) ⟨by simp, by omega, by rw [hZ8]; rfl⟩ ?_
      rintro i t H hi ⟨rfl, hi8, rfl⟩
      by_cases hlti : i < 8
      · have f1 : decide ((i : Int) < 8) = true := decide_eq_true (by omega)
        have i8 : (i : Int) < 8 := by omega
        have hmi := saidM_get S hlti
        have hpl := partM_len (saidM_len S) (Nat.le_of_lt hlti)
        have hat := partM_at (saidM_len S) hlti
        have hvl : ∀ a b c, (Vw.mk a b c (partM (saidM S) i)).cs.length = 19 := fun a b c => Vw.len hpl
        have F := fun a b c => (Vw.facts (v := ⟨a, b, c, partM (saidM S) i⟩) hat).p0
        simp only [put_mk] at F
        have hset := partM_set (saidM_len S) hmi
        obtain ⟨hb1, hb2⟩ := @half_bits (byt S 3) i k3.1 k3.2
        obtain ⟨U, hU⟩ : ∃ U, U = (S.drop (12 + 4 * i)).take 4 := ⟨_, rfl⟩
        have hUl : U.length = 4 := by rw [hU]; simp [hS]; omega
        rw [← hU] at hset
        have l2 : 3 + i * 2 ≤ 18 := by omega
        have l3 : 3 + i * 2 ≤ 17 := by omega
        have n20 : ((2 : Int) = 0) = False := by simp
        have wm : IntKind.i64.wrap (4 * (i : Int)) = ((4 * i : Nat) : Int) := (wrap64 (by omega) (by omega)).trans (by omega)
        have wa : IntKind.i64.wrap (12 + ((4 * i : Nat) : Int)) = ((12 + 4 * i : Nat) : Int) := (wrap64 (by omega) (by omega)).trans (by omega)
        have w4 : IntKind.i64.wrap ((i : Int) + 1) = ((i + 1 : Nat) : Int) := (wrap64 (by omega) (by omega)).trans (by omega)
        have hi1 : i + 1 ≤ 8 := by omega
        simp +contextual -implicitDefEqProofs (maxSteps := 10000000) only [sx_seq, sxL_succ, lpQ_norm, lpQ_exit, lpQ_ret, loopQ_norm, loopQ_exit, loopQ_ret, sqQ_norm, sqQ_ret, sqQ_exit, sx_block, blkQ_norm, blkQ_exit, blkQ_ret, sx_cond, cdP_true, cdP_false, cdP_bool, sx_region, sx_draw, plainD, List.all_cons, List.all_nil, List.isEmpty_nil, List.isEmpty_cons, sxo_nil, sxo_cons, sxo_guard, gdS_bool, gdS_eff, gdS_tup, gdS_sel, gdS_seleff, sxK_def, wcall_some, effP_ret, effP_set, effP_none, effP_ite, wop_call, wop_cv, cvP_func, sx_ret, sx_exit, sx_skip, sx_clr, stays, ↓selV_wt, ↓selV_wf, ↓impB_wt, ↓impB_wf, ↓selV_nor, ↓impB_nor, ↓selV_nt, ↓selV_nf, ↓impB_nt, ↓impB_nf, wantB_true, wantB_false, ↓selV_true, ↓selV_false, ↓selV_and, ↓impB_true, ↓impB_false, ↓impB_and, impB_triv, valOf_some, retH_some, ↓prim_pick, pickO_true, pickO_false, pickO_and, pickO_or, pickO_andr, pickO_orr, pickO_orrn, pickO_orn, pickO_bb, pickAnd_bool, pickOr_bool, ↓selV_nn, ↓impB_nn, Bool.and_assoc, Bool.or_assoc, doOp, ev_fr, ev_cst, put_none, put_fr, get, ins, del, dels, Nat.reduceLT, Nat.reduceEqDiff, ↓reduceIte, reduceCtorEq, ne_eq, not_false_eq_true, implies_true, framed_pureF, framed_fb, framed_N, framed_pure, wop_prim, prim, YLD, mkA, V.cells, List.getElem?_cons_zero, List.getElem?_cons_succ, List.set_cons_zero, List.set_cons_succ, Nat.zero_add, Nat.add_zero, Nat.reduceAdd, Nat.reduceSub, Nat.reduceMul, Nat.reduceLeDiff, Nat.not_lt_zero, List.map_cons, List.map_nil, List.cons_append, List.nil_append, loadA, cellsAt, nAg, packA, opt_bind_some, opt_map_some, opt_bind_none, opt_map_none, List.drop, List.take, List.head?, List.length_cons, List.length_nil, binA, unA, eqCells, eqCell, negB, fillA, sr_nil, sr_cons, sr_succ, sr_all, sr_len, storeA, Ob.with, indexedI, V.oneCell, intOf?, retQ_ret, retQ_norm, resA, resA1, fr_getD, packR, sealDepth, shut_bool, shut_int, Option.some.injEq, V.bool.injEq, V.int.injEq, Bool.not_true, Bool.not_false, true_and, and_true, and_self, Bool.and_true, Bool.and_false, Bool.true_and, Bool.false_and, Bool.or_true, Bool.or_false, Bool.true_or, Bool.false_or, Bool.false_eq_true, Int.reduceLT, Int.reduceLE, Int.reduceToNat, Int.reduceNeg, shut_plain, freeL_cons, freeL_nil, free_int, free_bool, free_agg, free_str, free_nils, free_tup, free_sl, true_implies, false_implies, Nat.sub_zero, Int.natCast_nonneg, Int.toNat_natCast, Nat.le_refl, not_true_eq_false, Int.reduceAdd, Int.reduceSub, Int.reduceMul, wrap64, false_and, and_false, cond_true, cond_false, Bool.cond_true_left, Bool.cond_false_right, Int.reduceBNe, Int.reduceBEq, decide_true, decide_false, Int.cast_ofNat_Int, Nat.mul_one, eq_self, Bool.true_eq_false, Bool.not_eq_true, Bool.not_eq_false, deads, List.replicate, argsF, f1, i8, hb1, hb2, hvl, F, l2, l3, n20, -List.drop]
        refine sx_loop (fun r t H => t = fr 83 [(1, .ptr 0 1 0), (2, .ptr 1 1 0), (4, .ptr 2 1 0), (6, .int .i64 (byt S 3 / 2 ^ (i + 1))), (7, .int .i64 i), (8, .int .i64 r)] ∧ r ≤ 4 ∧
          H = [⟨1, .var (S.map (V.int .u8))⟩, ⟨1, .var zV.cs⟩, ⟨1, .var (Vw.mk (numF T) (byt S 1 == 1) (byt S 2) ((partM (saidM S) i).set i (byt S 3 / 2 ^ i % 2 == 1, numF (U.take r)))).cs⟩]) 4 (by show 4 < N; omega) ⟨rfl, by omega, rfl⟩ ?_
        rintro r t H hr ⟨rfl, hr4, rfl⟩
        by_cases hltr : r < 4
        · have f2 : decide ((r : Int) < 4) = true := decide_eq_true (by omega)
          have hsl : ∀ a b c m, (Vw.mk a b c ((partM (saidM S) i).set i m)).cs.length = 19 := fun a b c m => Vw.len (by simp [hpl])
          have hsa : ∀ m, ((partM (saidM S) i).set i m)[i]? = some m := fun m => by rw [List.getElem?_set_self (by omega)]
          have G1 := fun a b c m => (Vw.facts (v := ⟨a, b, c, (partM (saidM S) i).set i m⟩) (hsa m)).d1
          have G2 := fun a b c m => (Vw.facts (v := ⟨a, b, c, (partM (saidM S) i).set i m⟩) (hsa m)).p1
          simp only [put_mk, List.set_set] at G2
          have wr : IntKind.i64.wrap (((12 + 4 * i : Nat) : Int) + (r : Int)) = ((12 + 4 * i + r : Nat) : Int) := (wrap64 (by omega) (by omega)).trans (by omega)
          have ir : ((12 + 4 * i + r : Nat) : Int) < 64 := by omega
          have rd := byt_rd hS (k := 12 + 4 * i + r) (by omega)
          have kb := byt_bounds hS hb (k := 12 + 4 * i + r) (by omega)
          have wb : IntKind.i64.wrap (byt S (12 + 4 * i + r)) = byt S (12 + 4 * i + r) := wrap64 (by omega) (by omega)
          have ht := @numF_take U r (by omega)
          rw [hU, part_byt hS (by omega) hltr, ← hU] at ht
          unfold num1 at ht
          have l4 : 12 + 4 * i + r ≤ 63 := by omega
          have w5 : IntKind.i64.wrap ((r : Int) + 1) = ((r + 1 : Nat) : Int) := (wrap64 (by omega) (by omega)).trans (by omega)
          have hr1 : r + 1 ≤ 4 := by omega
          simp +contextual -implicitDefEqProofs (maxSteps := 10000000) only [sx_seq, sxL_succ, lpQ_norm, lpQ_exit, lpQ_ret, loopQ_norm, loopQ_exit, loopQ_ret, sqQ_norm, sqQ_ret, sqQ_exit, sx_block, blkQ_norm, blkQ_exit, blkQ_ret, sx_cond, cdP_true, cdP_false, cdP_bool, sx_region, sx_draw, plainD, List.all_cons, List.all_nil, List.isEmpty_nil, List.isEmpty_cons, sxo_nil, sxo_cons, sxo_guard, gdS_bool, gdS_eff, gdS_tup, gdS_sel, gdS_seleff, sxK_def, wcall_some, effP_ret, effP_set, effP_none, effP_ite, wop_call, wop_cv, cvP_func, sx_ret, sx_exit, sx_skip, sx_clr, stays, ↓selV_wt, ↓selV_wf, ↓impB_wt, ↓impB_wf, ↓selV_nor, ↓impB_nor, ↓selV_nt, ↓selV_nf, ↓impB_nt, ↓impB_nf, wantB_true, wantB_false, ↓selV_true, ↓selV_false, ↓selV_and, ↓impB_true, ↓impB_false, ↓impB_and, impB_triv, valOf_some, retH_some, ↓prim_pick, pickO_true, pickO_false, pickO_and, pickO_or, pickO_andr, pickO_orr, pickO_orrn, pickO_orn, pickO_bb, pickAnd_bool, pickOr_bool, ↓selV_nn, ↓impB_nn, Bool.and_assoc, Bool.or_assoc, doOp, ev_fr, ev_cst, put_none, put_fr, get, ins, del, dels, Nat.reduceLT, Nat.reduceEqDiff, ↓reduceIte, reduceCtorEq, ne_eq, not_false_eq_true, implies_true, framed_pureF, framed_fb, framed_N, framed_pure, wop_prim, prim, YLD, mkA, V.cells, List.getElem?_cons_zero, List.getElem?_cons_succ, List.set_cons_zero, List.set_cons_succ, Nat.zero_add, Nat.add_zero, Nat.reduceAdd, Nat.reduceSub, Nat.reduceMul, Nat.reduceLeDiff, Nat.not_lt_zero, List.map_cons, List.map_nil, List.cons_append, List.nil_append, loadA, cellsAt, nAg, packA, opt_bind_some, opt_map_some, opt_bind_none, opt_map_none, List.drop, List.take, List.head?, List.length_cons, List.length_nil, binA, unA, eqCells, eqCell, negB, fillA, sr_nil, sr_cons, sr_succ, sr_all, sr_len, storeA, Ob.with, indexedI, V.oneCell, intOf?, retQ_ret, retQ_norm, resA, resA1, fr_getD, packR, sealDepth, shut_bool, shut_int, Option.some.injEq, V.bool.injEq, V.int.injEq, Bool.not_true, Bool.not_false, true_and, and_true, and_self, Bool.and_true, Bool.and_false, Bool.true_and, Bool.false_and, Bool.or_true, Bool.or_false, Bool.true_or, Bool.false_or, Bool.false_eq_true, Int.reduceLT, Int.reduceLE, Int.reduceToNat, Int.reduceNeg, shut_plain, freeL_cons, freeL_nil, free_int, free_bool, free_agg, free_str, free_nils, free_tup, free_sl, true_implies, false_implies, Nat.sub_zero, Int.natCast_nonneg, Int.toNat_natCast, Nat.le_refl, not_true_eq_false, Int.reduceAdd, Int.reduceSub, Int.reduceMul, wrap64, false_and, and_false, cond_true, cond_false, Bool.cond_true_left, Bool.cond_false_right, Int.reduceBNe, Int.reduceBEq, decide_true, decide_false, Int.cast_ofNat_Int, Nat.mul_one, eq_self, Bool.true_eq_false, Bool.not_eq_true, Bool.not_eq_false, deads, List.replicate, argsF, sx_drawd, wpd_nil, wpd_cons, wdK_def, fpOf, fpV, fpCall, Fp.ok, disj, List.contains_cons, List.contains_nil, Nat.reduceBEq, List.all_append, V.objsL, V.objs,  List.getD_cons_zero, List.getD_cons_succ, List.append_nil, f2, i8, hlm, hsl, G1, G2, l3, wm, wa, wr, ir, rd, wb, wrap_wrap_add, ht, l4, w5, hr1, hltr, -List.drop]
        · have er : r = 4 := by omega
          subst er
          have f2 : decide (((4 : Nat) : Int) < 4) = false := rfl
          have tkU : U.take 4 = U := List.take_of_length_le (by omega)
          rw [tkU, hset]
          simp +contextual -implicitDefEqProofs (maxSteps := 10000000) only [sx_seq, sxL_succ, lpQ_norm, lpQ_exit, lpQ_ret, loopQ_norm, loopQ_exit, loopQ_ret, sqQ_norm, sqQ_ret, sqQ_exit, sx_block, blkQ_norm, blkQ_exit, blkQ_ret, sx_cond, cdP_true, cdP_false, cdP_bool, sx_region, sx_draw, plainD, List.all_cons, List.all_nil, List.isEmpty_nil, List.isEmpty_cons, sxo_nil, sxo_cons, sxo_guard, gdS_bool, gdS_eff, gdS_tup, gdS_sel, gdS_seleff, sxK_def, wcall_some, effP_ret, effP_set, effP_none, effP_ite, wop_call, wop_cv, cvP_func, sx_ret, sx_exit, sx_skip, sx_clr, stays, ↓selV_wt, ↓selV_wf, ↓impB_wt, ↓impB_wf, ↓selV_nor, ↓impB_nor, ↓selV_nt, ↓selV_nf, ↓impB_nt, ↓impB_nf, wantB_true, wantB_false, ↓selV_true, ↓selV_false, ↓selV_and, ↓impB_true, ↓impB_false, ↓impB_and, impB_triv, valOf_some, retH_some, ↓prim_pick, pickO_true, pickO_false, pickO_and, pickO_or, pickO_andr, pickO_orr, pickO_orrn, pickO_orn, pickO_bb, pickAnd_bool, pickOr_bool, ↓selV_nn, ↓impB_nn, Bool.and_assoc, Bool.or_assoc, doOp, ev_fr, ev_cst, put_none, put_fr, get, ins, del, dels, Nat.reduceLT, Nat.reduceEqDiff, ↓reduceIte, reduceCtorEq, ne_eq, not_false_eq_true, implies_true, framed_pureF, framed_fb, framed_N, framed_pure, wop_prim, prim, YLD, mkA, V.cells, List.getElem?_cons_zero, List.getElem?_cons_succ, List.set_cons_zero, List.set_cons_succ, Nat.zero_add, Nat.add_zero, Nat.reduceAdd, Nat.reduceSub, Nat.reduceMul, Nat.reduceLeDiff, Nat.not_lt_zero, List.map_cons, List.map_nil, List.cons_append, List.nil_append, loadA, cellsAt, nAg, packA, opt_bind_some, opt_map_some, opt_bind_none, opt_map_none, List.drop, List.take, List.head?, List.length_cons, List.length_nil, binA, unA, eqCells, eqCell, negB, fillA, sr_nil, sr_cons, sr_succ, sr_all, sr_len, storeA, Ob.with, indexedI, V.oneCell, intOf?, retQ_ret, retQ_norm, resA, resA1, fr_getD, packR, sealDepth, shut_bool, shut_int, Option.some.injEq, V.bool.injEq, V.int.injEq, Bool.not_true, Bool.not_false, true_and, and_true, and_self, Bool.and_true, Bool.and_false, Bool.true_and, Bool.false_and, Bool.or_true, Bool.or_false, Bool.true_or, Bool.false_or, Bool.false_eq_true, Int.reduceLT, Int.reduceLE, Int.reduceToNat, Int.reduceNeg, shut_plain, freeL_cons, freeL_nil, free_int, free_bool, free_agg, free_str, free_nils, free_tup, free_sl, true_implies, false_implies, Nat.sub_zero, Int.natCast_nonneg, Int.toNat_natCast, Nat.le_refl, not_true_eq_false, Int.reduceAdd, Int.reduceSub, Int.reduceMul, wrap64, false_and, and_false, cond_true, cond_false, Bool.cond_true_left, Bool.cond_false_right, Int.reduceBNe, Int.reduceBEq, decide_true, decide_false, Int.cast_ofNat_Int, Nat.mul_one, eq_self, Bool.true_eq_false, Bool.not_eq_true, Bool.not_eq_false, deads, List.replicate, argsF, f2, w4, hi1, hlti]
      · have ei : i = 8 := by omega
        subst ei
        have f1 : decide (((8 : Nat) : Int) < 8) = false := rfl
        have pm8' : partM (saidM S) 8 = saidM S := by unfold partM; rw [List.take_of_length_le (by rw [saidM_len]; omega)]; simp
        rw [pm8', hT]
        have eV : Vw.mk (numF ((S.drop 4).take 8)) (byt S 1 == 1) (byt S 2) (saidM S) = saidV S := rfl
        rw [eV]
        have c13 := @refMay_spec N n (by omega) (by omega) (saidV S) (saidM_len S)
        have hvl := Vw.len (v := saidV S) (saidM_len S)
        have tv : List.take 19 (saidV S).cs = (saidV S).cs := List.take_of_length_le (by omega)
        have fv := Vw.free (saidV S)
        have ov := Vw.one (saidV S)
        cases hm : mayV (saidV S) with
        | false =>
          have e0 : getV S = (zV, 12) := by unfold getV okV; rw [if_neg (of_decide_eq_false hz), hm]; rfl
          rw [e0]
          simp only [zV_cs]
          simp +contextual -implicitDefEqProofs (maxSteps := 10000000) only [sx_seq, sxL_succ, lpQ_norm, lpQ_exit, lpQ_ret, loopQ_norm, loopQ_exit, loopQ_ret, sqQ_norm, sqQ_ret, sqQ_exit, sx_block, blkQ_norm, blkQ_exit, blkQ_ret, sx_cond, cdP_true, cdP_false, cdP_bool, sx_region, sx_draw, plainD, List.all_cons, List.all_nil, List.isEmpty_nil, List.isEmpty_cons, sxo_nil, sxo_cons, sxo_guard, gdS_bool, gdS_eff, gdS_tup, gdS_sel, gdS_seleff, sxK_def, wcall_some, effP_ret, effP_set, effP_none, effP_ite, wop_call, wop_cv, cvP_func, sx_ret, sx_exit, sx_skip, sx_clr, stays, ↓selV_wt, ↓selV_wf, ↓impB_wt, ↓impB_wf, ↓selV_nor, ↓impB_nor, ↓selV_nt, ↓selV_nf, ↓impB_nt, ↓impB_nf, wantB_true, wantB_false, ↓selV_true, ↓selV_false, ↓selV_and, ↓impB_true, ↓impB_false, ↓impB_and, impB_triv, valOf_some, retH_some, ↓prim_pick, pickO_true, pickO_false, pickO_and, pickO_or, pickO_andr, pickO_orr, pickO_orrn, pickO_orn, pickO_bb, pickAnd_bool, pickOr_bool, ↓selV_nn, ↓impB_nn, Bool.and_assoc, Bool.or_assoc, doOp, ev_fr, ev_cst, put_none, put_fr, get, ins, del, dels, Nat.reduceLT, Nat.reduceEqDiff, ↓reduceIte, reduceCtorEq, ne_eq, not_false_eq_true, implies_true, framed_pureF, framed_fb, framed_N, framed_pure, wop_prim, prim, YLD, mkA, V.cells, List.getElem?_cons_zero, List.getElem?_cons_succ, List.set_cons_zero, List.set_cons_succ, Nat.zero_add, Nat.add_zero, Nat.reduceAdd, Nat.reduceSub, Nat.reduceMul, Nat.reduceLeDiff, Nat.not_lt_zero, List.map_cons, List.map_nil, List.cons_append, List.nil_append, loadA, cellsAt, nAg, packA, opt_bind_some, opt_map_some, opt_bind_none, opt_map_none, List.drop, List.take, List.head?, List.length_cons, List.length_nil, binA, unA, eqCells, eqCell, negB, fillA, sr_nil, sr_cons, sr_succ, sr_all, sr_len, storeA, Ob.with, indexedI, V.oneCell, intOf?, retQ_ret, retQ_norm, resA, resA1, fr_getD, packR, sealDepth, shut_bool, shut_int, Option.some.injEq, V.bool.injEq, V.int.injEq, Bool.not_true, Bool.not_false, true_and, and_true, and_self, Bool.and_true, Bool.and_false, Bool.true_and, Bool.false_and, Bool.or_true, Bool.or_false, Bool.true_or, Bool.false_or, Bool.false_eq_true, Int.reduceLT, Int.reduceLE, Int.reduceToNat, Int.reduceNeg, shut_plain, freeL_cons, freeL_nil, free_int, free_bool, free_agg, free_str, free_nils, free_tup, free_sl, true_implies, false_implies, Nat.sub_zero, Int.natCast_nonneg, Int.toNat_natCast, Nat.le_refl, not_true_eq_false, Int.reduceAdd, Int.reduceSub, Int.reduceMul, wrap64, false_and, and_false, cond_true, cond_false, Bool.cond_true_left, Bool.cond_false_right, Int.reduceBNe, Int.reduceBEq, decide_true, decide_false, Int.cast_ofNat_Int, Nat.mul_one, eq_self, Bool.true_eq_false, Bool.not_eq_true, Bool.not_eq_false, deads, List.replicate, argsF, f1, sx_drawd, wpd_nil, wpd_cons, wdK_def, fpOf, fpV, fpCall, Fp.ok, disj, List.contains_cons, List.contains_nil, Nat.reduceBEq, List.all_append, V.objsL, V.objs,  List.getD_cons_zero, List.getD_cons_succ, List.append_nil, c13, hvl, tv, pm13, pm15, hm]
        | true =>
          have c15 := @refPut_spec N n (by omega) (by omega) (saidV S) (saidM_len S) hm
          obtain ⟨P, hP⟩ : ∃ P, P = putV (saidV S) := ⟨_, rfl⟩
          have hPl : P.length = 64 := by rw [hP]; exact putV_len (saidM_len S)
          have lP : (P.map (V.int .u8)).length = 64 := by rw [List.length_map, hPl]
          have q := eq64 hPl hS
          rw [← hP] at c15
          cases hd : decide (P = S) with
          | true =>
            have e0 : getV S = (saidV S, 0) := by unfold getV okV; rw [if_neg (of_decide_eq_false hz), hm, ← hP, hd]; rfl
            rw [e0]
            rw [hd] at q
            simp +contextual -implicitDefEqProofs (maxSteps := 10000000) only [sx_seq, sxL_succ, lpQ_norm, lpQ_exit, lpQ_ret, loopQ_norm, loopQ_exit, loopQ_ret, sqQ_norm, sqQ_ret, sqQ_exit, sx_block, blkQ_norm, blkQ_exit, blkQ_ret, sx_cond, cdP_true, cdP_false, cdP_bool, sx_region, sx_draw, plainD, List.all_cons, List.all_nil, List.isEmpty_nil, List.isEmpty_cons, sxo_nil, sxo_cons, sxo_guard, gdS_bool, gdS_eff, gdS_tup, gdS_sel, gdS_seleff, sxK_def, wcall_some, effP_ret, effP_set, effP_none, effP_ite, wop_call, wop_cv, cvP_func, sx_ret, sx_exit, sx_skip, sx_clr, stays, ↓selV_wt, ↓selV_wf, ↓impB_wt, ↓impB_wf, ↓selV_nor, ↓impB_nor, ↓selV_nt, ↓selV_nf, ↓impB_nt, ↓impB_nf, wantB_true, wantB_false, ↓selV_true, ↓selV_false, ↓selV_and, ↓impB_true, ↓impB_false, ↓impB_and, impB_triv, valOf_some, retH_some, ↓prim_pick, pickO_true, pickO_false, pickO_and, pickO_or, pickO_andr, pickO_orr, pickO_orrn, pickO_orn, pickO_bb, pickAnd_bool, pickOr_bool, ↓selV_nn, ↓impB_nn, Bool.and_assoc, Bool.or_assoc, doOp, ev_fr, ev_cst, put_none, put_fr, get, ins, del, dels, Nat.reduceLT, Nat.reduceEqDiff, ↓reduceIte, reduceCtorEq, ne_eq, not_false_eq_true, implies_true, framed_pureF, framed_fb, framed_N, framed_pure, wop_prim, prim, YLD, mkA, V.cells, List.getElem?_cons_zero, List.getElem?_cons_succ, List.set_cons_zero, List.set_cons_succ, Nat.zero_add, Nat.add_zero, Nat.reduceAdd, Nat.reduceSub, Nat.reduceMul, Nat.reduceLeDiff, Nat.not_lt_zero, List.map_cons, List.map_nil, List.cons_append, List.nil_append, loadA, cellsAt, nAg, packA, opt_bind_some, opt_map_some, opt_bind_none, opt_map_none, List.drop, List.take, List.head?, List.length_cons, List.length_nil, binA, unA, eqCells, eqCell, negB, fillA, sr_nil, sr_cons, sr_succ, sr_all, sr_len, storeA, Ob.with, indexedI, V.oneCell, intOf?, retQ_ret, retQ_norm, resA, resA1, fr_getD, packR, sealDepth, shut_bool, shut_int, Option.some.injEq, V.bool.injEq, V.int.injEq, Bool.not_true, Bool.not_false, true_and, and_true, and_self, Bool.and_true, Bool.and_false, Bool.true_and, Bool.false_and, Bool.or_true, Bool.or_false, Bool.true_or, Bool.false_or, Bool.false_eq_true, Int.reduceLT, Int.reduceLE, Int.reduceToNat, Int.reduceNeg, shut_plain, freeL_cons, freeL_nil, free_int, free_bool, free_agg, free_str, free_nils, free_tup, free_sl, true_implies, false_implies, Nat.sub_zero, Int.natCast_nonneg, Int.toNat_natCast, Nat.le_refl, not_true_eq_false, Int.reduceAdd, Int.reduceSub, Int.reduceMul, wrap64, false_and, and_false, cond_true, cond_false, Bool.cond_true_left, Bool.cond_false_right, Int.reduceBNe, Int.reduceBEq, decide_true, decide_false, Int.cast_ofNat_Int, Nat.mul_one, eq_self, Bool.true_eq_false, Bool.not_eq_true, Bool.not_eq_false, deads, List.replicate, argsF, f1, sx_drawd, wpd_nil, wpd_cons, wdK_def, fpOf, fpV, fpCall, Fp.ok, disj, List.contains_cons, List.contains_nil, Nat.reduceBEq, List.all_append, V.objsL, V.objs,  List.getD_cons_zero, List.getD_cons_succ, List.append_nil, c13, c15, hvl, tv, pm13, pm15, hm, q, hlm, tS, fv, ov, zV_cs]
          | false =>
            have e0 : getV S = (zV, 12) := by unfold getV okV; rw [if_neg (of_decide_eq_false hz), hm, ← hP, hd]; rfl
            rw [e0]
            rw [hd] at q
            simp only [zV_cs]
            simp +contextual -implicitDefEqProofs (maxSteps := 10000000) only [sx_seq, sxL_succ, lpQ_norm, lpQ_exit, lpQ_ret, loopQ_norm, loopQ_exit, loopQ_ret, sqQ_norm, sqQ_ret, sqQ_exit, sx_block, blkQ_norm, blkQ_exit, blkQ_ret, sx_cond, cdP_true, cdP_false, cdP_bool, sx_region, sx_draw, plainD, List.all_cons, List.all_nil, List.isEmpty_nil, List.isEmpty_cons, sxo_nil, sxo_cons, sxo_guard, gdS_bool, gdS_eff, gdS_tup, gdS_sel, gdS_seleff, sxK_def, wcall_some, effP_ret, effP_set, effP_none, effP_ite, wop_call, wop_cv, cvP_func, sx_ret, sx_exit, sx_skip, sx_clr, stays, ↓selV_wt, ↓selV_wf, ↓impB_wt, ↓impB_wf, ↓selV_nor, ↓impB_nor, ↓selV_nt, ↓selV_nf, ↓impB_nt, ↓impB_nf, wantB_true, wantB_false, ↓selV_true, ↓selV_false, ↓selV_and, ↓impB_true, ↓impB_false, ↓impB_and, impB_triv, valOf_some, retH_some, ↓prim_pick, pickO_true, pickO_false, pickO_and, pickO_or, pickO_andr, pickO_orr, pickO_orrn, pickO_orn, pickO_bb, pickAnd_bool, pickOr_bool, ↓selV_nn, ↓impB_nn, Bool.and_assoc, Bool.or_assoc, doOp, ev_fr, ev_cst, put_none, put_fr, get, ins, del, dels, Nat.reduceLT, Nat.reduceEqDiff, ↓reduceIte, reduceCtorEq, ne_eq, not_false_eq_true, implies_true, framed_pureF, framed_fb, framed_N, framed_pure, wop_prim, prim, YLD, mkA, V.cells, List.getElem?_cons_zero, List.getElem?_cons_succ, List.set_cons_zero, List.set_cons_succ, Nat.zero_add, Nat.add_zero, Nat.reduceAdd, Nat.reduceSub, Nat.reduceMul, Nat.reduceLeDiff, Nat.not_lt_zero, List.map_cons, List.map_nil, List.cons_append, List.nil_append, loadA, cellsAt, nAg, packA, opt_bind_some, opt_map_some, opt_bind_none, opt_map_none, List.drop, List.take, List.head?, List.length_cons, List.length_nil, binA, unA, eqCells, eqCell, negB, fillA, sr_nil, sr_cons, sr_succ, sr_all, sr_len, storeA, Ob.with, indexedI, V.oneCell, intOf?, retQ_ret, retQ_norm, resA, resA1, fr_getD, packR, sealDepth, shut_bool, shut_int, Option.some.injEq, V.bool.injEq, V.int.injEq, Bool.not_true, Bool.not_false, true_and, and_true, and_self, Bool.and_true, Bool.and_false, Bool.true_and, Bool.false_and, Bool.or_true, Bool.or_false, Bool.true_or, Bool.false_or, Bool.false_eq_true, Int.reduceLT, Int.reduceLE, Int.reduceToNat, Int.reduceNeg, shut_plain, freeL_cons, freeL_nil, free_int, free_bool, free_agg, free_str, free_nils, free_tup, free_sl, true_implies, false_implies, Nat.sub_zero, Int.natCast_nonneg, Int.toNat_natCast, Nat.le_refl, not_true_eq_false, Int.reduceAdd, Int.reduceSub, Int.reduceMul, wrap64, false_and, and_false, cond_true, cond_false, Bool.cond_true_left, Bool.cond_false_right, Int.reduceBNe, Int.reduceBEq, decide_true, decide_false, Int.cast_ofNat_Int, Nat.mul_one, eq_self, Bool.true_eq_false, Bool.not_eq_true, Bool.not_eq_false, deads, List.replicate, argsF, f1, sx_drawd, wpd_nil, wpd_cons, wdK_def, fpOf, fpV, fpCall, Fp.ok, disj, List.contains_cons, List.contains_nil, Nat.reduceBEq, List.all_append, V.objsL, V.objs,  List.getD_cons_zero, List.getD_cons_succ, List.append_nil, c13, c15, hvl, tv, pm13, pm15, hm, q, hlm, tS, fv, ov]

/-! ### There and back -/

theorem bits_at : ∀ (M : List (Bool × Int)) (i : Nat) (m : Bool × Int), M[i]? = some m → (bitsM M / 2 ^ i % 2 == 1) = m.1
  | [], i, m, h => by simp at h
  | m0 :: M, 0, m, h => by
    simp at h
    subst h
    rw [bitsM]
    cases m0.1 <;> simp <;> omega
  | m0 :: M, i + 1, m, h => by
    have ih := bits_at M i m (by simpa using h)
    rw [bitsM]
    have e : ((bif m0.1 then 1 else 0) + 2 * bitsM M) / 2 ^ (i + 1) = bitsM M / 2 ^ i := by
      have e2 : (2 : Int) ^ (i + 1) = 2 * 2 ^ i := by rw [Int.pow_succ, Int.mul_comm]
      rw [e2, ← Int.ediv_ediv_of_nonneg (show (0 : Int) ≤ 2 by decide)]
      congr 1
      cases m0.1 <;> simp <;> omega
    rw [e]
    exact ih

theorem stP_part {v : Vw} (hv : v.M.length = 8) (b : Int) {i : Nat} {m : Bool × Int} (hm : v.M[i]? = some m) : ((stP v b 8).drop (12 + 4 * i)).take 4 = be 4 m.2 := by
  have tk : v.M.take 8 = v.M := List.take_of_length_le (by omega)
  have e : (stP v b 8).drop 12 = (v.M.map fun m => be 4 m.2).flatten ++ List.replicate (52 - 4 * 8) 0 := by
    unfold stP
    rw [tk]
    rfl
  rw [← List.drop_drop, e]
  clear e tk hv
  generalize List.replicate (52 - 4 * 8) (0 : Int) = R
  generalize v.M = M at hm
  induction M generalizing i with
  | nil => simp at hm
  | cons m0 M ih =>
    cases i with
    | zero =>
      simp at hm
      subst hm
      rw [List.map_cons, List.flatten_cons, Nat.mul_zero, List.drop_zero, List.append_assoc, List.take_append_of_le_length (by rw [be_length]; omega), List.take_of_length_le (by rw [be_length]; omega)]
    | succ i =>
      have := ih (i := i) (by simpa using hm)
      rw [List.map_cons, List.flatten_cons, List.append_assoc, show 4 * (i + 1) = 4 + 4 * i by omega, ← List.drop_drop]
      rw [show List.drop 4 (be 4 m0.2 ++ ((M.map fun m => be 4 m.2).flatten ++ R)) = (M.map fun m => be 4 m.2).flatten ++ R from List.drop_left' (be_length 4 _)]
      exact this

theorem said_put {v : Vw} (hv : v.M.length = 8) (hm : mayV v = true) (hf : v ≠ firstV) : saidV (putV v) = v := by
  obtain ⟨n0, n1, nm⟩ := mayV_mem hm
  have e : putV v = stP v (bitsM v.M) 8 := by unfold putV; rw [if_neg hf]
  have hfou : v.fou % 256 = v.fou := by
    simp only [mayV, Bool.or_eq_true, decide_eq_true_eq, Bool.and_eq_true] at hm
    rcases hm with h | ⟨h1, -, -⟩
    · exact absurd h hf
    · have h1' : badH v = false := by simpa using h1
      simp only [badH, Bool.or_eq_false_iff, decide_eq_false_iff_not] at h1'
      omega
  have e1 : numF (((stP v (bitsM v.M) 8).drop 4).take 8) = v.num := by
    have : ((stP v (bitsM v.M) 8).drop 4).take 8 = be 8 v.num := List.take_left' (be_length 8 _)
    rw [this]
    exact numF_be n0 (by omega) (by omega)
  have e2 : (byt (stP v (bitsM v.M) 8) 1 == 1) = v.opn := by
    show ((bif v.opn then 1 else 0 : Int) == 1) = v.opn
    cases v.opn <;> rfl
  have e3 : byt (stP v (bitsM v.M) 8) 2 = v.fou := hfou
  have e4 : saidM (stP v (bitsM v.M) 8) = v.M := by
    apply List.ext_getElem?
    intro i
    rcases Nat.lt_or_ge i 8 with hi | hi
    · have hmi : v.M[i]? = some (v.M[i]'(by omega)) := List.getElem?_eq_getElem _
      rw [saidM_get _ hi, hmi]
      have b3 : byt (stP v (bitsM v.M) 8) 3 = bitsM v.M := rfl
      rw [b3, bits_at v.M i _ hmi, stP_part hv _ hmi]
      have hb := nm _ (List.getElem_mem (h := (by omega : i < v.M.length)))
      rw [numF_be hb.1 (by omega) (by omega)]
    · rw [List.getElem?_eq_none (by rw [saidM_len]; exact hi), List.getElem?_eq_none (by omega)]
  rw [e]
  unfold saidV
  rw [e1, e2, e3, e4]

theorem get_put {v : Vw} (hv : v.M.length = 8) (hm : mayV v = true) : getV (putV v) = (v, 0) := by
  by_cases hf : v = firstV
  · unfold getV putV
    rw [if_pos hf, if_pos rfl, hf]
  · have hs := said_put hv hm hf
    have hne : putV v ≠ List.replicate 64 0 := by
      unfold putV
      rw [if_neg hf]
      intro h
      have := congrArg (fun l => l.getD 0 0) h
      have h2 : (193 : Int) = 0 := this
      exact absurd h2 (by decide)
    unfold getV okV
    rw [if_neg hne, hs, hm, decide_eq_true rfl]
    rfl

theorem putV_bytes {v : Vw} (hv : v.M.length = 8) : Bytes (putV v) := by
  have hz : ∀ n, Bytes (List.replicate n 0) := fun n x hx => by rw [List.eq_of_mem_replicate hx]; decide
  unfold putV
  split
  · exact hz _
  · intro x hx
    have hbm := bitsM_bounds v.M
    rw [hv] at hbm
    simp only [stP, List.mem_cons, List.mem_append, List.mem_flatten, List.mem_map] at hx
    rcases hx with rfl | rfl | rfl | rfl | hx | ⟨l, ⟨m, -, rfl⟩, hx⟩ | hx
    · decide
    · cases v.opn <;> decide
    · omega
    · omega
    · exact be_bytes _ _ x hx
    · exact be_bytes _ _ x hx
    · exact hz _ x hx

theorem am3_wp {N n : Nat} {args : List V} {h : Heap} {v : V} (ha : args.length = 2) (hfree : V.freeL args = true)
    (H : sx ⟨pureOf am, callA am N n, N, 0⟩ am3.body (fr am3.nt (argsF 0 args)) (deads am3.sites) (retQ am3.res fun x h' => V.shut (fun o => h'[o]?) sealDepth x = some v)) : callA am N (n + 1) 3 args h = some (v, h) :=
  call_pure at3 rfl ha (by decide) hfree (sx_wp H)

set_option maxHeartbeats 4000000 in
theorem puts_spec {N n : Nat} (hN : 1000 ≤ N) (hn : 21 ≤ n) (v : Vw) (hv : v.M.length = 8) (S : List Int) (hS : S.length = 64) (hb : Bytes S) (h : Heap) :
    callA am N n 3 [.agg v.cs, .agg (S.map (V.int .u8))] h = some (.bool true, h) := by
  obtain ⟨n, rfl⟩ : ∃ m, n = m + 1 := ⟨n - 1, by omega⟩
  have c8 := @put_spec N n (by omega) (by omega) v hv
  have c9 := @get_spec N n (by omega) (by omega) S hS hb
  have c10 := @refGet_spec N n (by omega) (by omega) S hS hb
  have c11 := @num_spec N n (by omega)
  have c12 := @may_spec N n (by omega) (by omega) v hv
  have c13 := @refMay_spec N n (by omega) (by omega) v hv
  have c14 := @known_spec N n (by omega) (by omega)
  have hl := Vw.len hv
  have tk : List.take 19 v.cs = v.cs := List.take_of_length_le (by omega)
  have hlm : (S.map (V.int .u8)).length = 64 := by rw [List.length_map, hS]
  have oS := allOne_ints .u8 S
  have tS : List.take 64 (S.map (V.int .u8)) = S.map (V.int .u8) := List.take_of_length_le (by omega)
  have g8 := getV_len S
  generalize getV S = G at c9 c10 g8
  have h1 := Vw.len g8
  have t1 : List.take 19 G.1.cs = G.1.cs := List.take_of_length_le (by omega)
  have o1 := Vw.one G.1
  have q1 := eq_vw g8 g8
  have q2 := eq_vw hv hv
  rw [decide_eq_true rfl] at q1 q2
  unfold ksV at q1 q2
  have ov := Vw.one v
  refine am3_wp rfl (by simp [freeL_cons, freeL_nil, free_agg, freeL_ints, Vw.free]) ?_
  cases hm : mayV v with
  | false =>
    simp only [hm, Bool.false_eq_true, ↓reduceIte, List.map_replicate] at c8
    simp +contextual -implicitDefEqProofs (maxSteps := 10000000) only [sx_seq, sxL_succ, lpQ_norm, lpQ_exit, lpQ_ret, loopQ_norm, loopQ_exit, loopQ_ret, sqQ_norm, sqQ_ret, sqQ_exit, sx_block, blkQ_norm, blkQ_exit, blkQ_ret, sx_cond, cdP_true, cdP_false, cdP_bool, sx_region, sx_draw, plainD, List.all_cons, List.all_nil, List.isEmpty_nil, List.isEmpty_cons, sxo_nil, sxo_cons, sxo_guard, gdS_bool, gdS_eff, gdS_tup, gdS_sel, gdS_seleff, sxK_def, wcall_some, effP_ret, effP_set, effP_none, effP_ite, wop_call, wop_cv, cvP_func, sx_ret, sx_exit, sx_skip, sx_clr, stays, ↓selV_wt, ↓selV_wf, ↓impB_wt, ↓impB_wf, ↓selV_nor, ↓impB_nor, ↓selV_nt, ↓selV_nf, ↓impB_nt, ↓impB_nf, wantB_true, wantB_false, ↓selV_true, ↓selV_false, ↓selV_and, ↓impB_true, ↓impB_false, ↓impB_and, impB_triv, valOf_some, retH_some, ↓prim_pick, pickO_true, pickO_false, pickO_and, pickO_or, pickO_andr, pickO_orr, pickO_orrn, pickO_orn, pickO_bb, pickAnd_bool, pickOr_bool, ↓selV_nn, ↓impB_nn, Bool.and_assoc, Bool.or_assoc, doOp, ev_fr, ev_cst, put_none, put_fr, get, ins, del, dels, Nat.reduceLT, Nat.reduceEqDiff, ↓reduceIte, reduceCtorEq, ne_eq, not_false_eq_true, implies_true, framed_pureF, framed_fb, framed_N, framed_pure, wop_prim, prim, YLD, mkA, V.cells, List.getElem?_cons_zero, List.getElem?_cons_succ, List.set_cons_zero, List.set_cons_succ, Nat.zero_add, Nat.add_zero, Nat.reduceAdd, Nat.reduceSub, Nat.reduceMul, Nat.reduceLeDiff, Nat.not_lt_zero, List.map_cons, List.map_nil, List.cons_append, List.nil_append, loadA, cellsAt, nAg, packA, opt_bind_some, opt_map_some, opt_bind_none, opt_map_none, List.drop, List.take, List.head?, List.length_cons, List.length_nil, binA, unA, eqCells, eqCell, negB, fillA, sr_nil, sr_cons, sr_succ, sr_all, sr_len, storeA, Ob.with, indexedI, V.oneCell, intOf?, retQ_ret, retQ_norm, resA, resA1, fr_getD, packR, sealDepth, shut_bool, shut_int, Option.some.injEq, V.bool.injEq, V.int.injEq, Bool.not_true, Bool.not_false, true_and, and_true, and_self, Bool.and_true, Bool.and_false, Bool.true_and, Bool.false_and, Bool.or_true, Bool.or_false, Bool.true_or, Bool.false_or, Bool.false_eq_true, Int.reduceLT, Int.reduceLE, Int.reduceToNat, Int.reduceNeg, shut_plain, freeL_cons, freeL_nil, free_int, free_bool, free_agg, free_str, free_nils, free_tup, free_sl, true_implies, false_implies, Nat.sub_zero, Int.natCast_nonneg, Int.toNat_natCast, Nat.le_refl, not_true_eq_false, Int.reduceAdd, Int.reduceSub, Int.reduceMul, wrap64, false_and, and_false, cond_true, cond_false, Bool.cond_true_left, Bool.cond_false_right, Int.reduceBNe, Int.reduceBEq, decide_true, decide_false, Int.cast_ofNat_Int, Nat.mul_one, eq_self, Bool.true_eq_false, Bool.not_eq_true, Bool.not_eq_false, deads, List.replicate, argsF, am3, sx_drawd, wpd_nil, wpd_cons, wdK_def, fpOf, fpV, fpCall, Fp.ok, disj, List.contains_cons, List.contains_nil, Nat.reduceBEq, List.all_append, V.objsL, V.objs,  List.getD_cons_zero, List.getD_cons_succ, List.append_nil, c8, c9, c10, c11, c12, c13, c14, hl, tk, hlm, oS, tS, h1, t1, o1, q1, pm8, pm9, pm10, pm11, pm12, pm13, pm14, pm15, hm, beq_self_eq_true, bne_self_eq_false]
  | true =>
    simp only [hm, ↓reduceIte] at c8
    have c15 := @refPut_spec N n (by omega) (by omega) v hv hm
    have hPl := putV_len hv
    have cg := @get_spec N n (by omega) (by omega) (putV v) hPl (putV_bytes hv)
    rw [get_put hv hm] at cg
    obtain ⟨P, hP⟩ : ∃ P, P = putV v := ⟨_, rfl⟩
    rw [← hP] at hPl cg c8 c15
    have lP : (P.map (V.int .u8)).length = 64 := by rw [List.length_map, hPl]
    have oP := allOne_ints .u8 P
    have tP : List.take 64 (P.map (V.int .u8)) = P.map (V.int .u8) := List.take_of_length_le (by omega)
    have q := eq64 hPl hPl
    rw [decide_eq_true rfl] at q
    simp +contextual -implicitDefEqProofs (maxSteps := 10000000) only [sx_seq, sxL_succ, lpQ_norm, lpQ_exit, lpQ_ret, loopQ_norm, loopQ_exit, loopQ_ret, sqQ_norm, sqQ_ret, sqQ_exit, sx_block, blkQ_norm, blkQ_exit, blkQ_ret, sx_cond, cdP_true, cdP_false, cdP_bool, sx_region, sx_draw, plainD, List.all_cons, List.all_nil, List.isEmpty_nil, List.isEmpty_cons, sxo_nil, sxo_cons, sxo_guard, gdS_bool, gdS_eff, gdS_tup, gdS_sel, gdS_seleff, sxK_def, wcall_some, effP_ret, effP_set, effP_none, effP_ite, wop_call, wop_cv, cvP_func, sx_ret, sx_exit, sx_skip, sx_clr, stays, ↓selV_wt, ↓selV_wf, ↓impB_wt, ↓impB_wf, ↓selV_nor, ↓impB_nor, ↓selV_nt, ↓selV_nf, ↓impB_nt, ↓impB_nf, wantB_true, wantB_false, ↓selV_true, ↓selV_false, ↓selV_and, ↓impB_true, ↓impB_false, ↓impB_and, impB_triv, valOf_some, retH_some, ↓prim_pick, pickO_true, pickO_false, pickO_and, pickO_or, pickO_andr, pickO_orr, pickO_orrn, pickO_orn, pickO_bb, pickAnd_bool, pickOr_bool, ↓selV_nn, ↓impB_nn, Bool.and_assoc, Bool.or_assoc, doOp, ev_fr, ev_cst, put_none, put_fr, get, ins, del, dels, Nat.reduceLT, Nat.reduceEqDiff, ↓reduceIte, reduceCtorEq, ne_eq, not_false_eq_true, implies_true, framed_pureF, framed_fb, framed_N, framed_pure, wop_prim, prim, YLD, mkA, V.cells, List.getElem?_cons_zero, List.getElem?_cons_succ, List.set_cons_zero, List.set_cons_succ, Nat.zero_add, Nat.add_zero, Nat.reduceAdd, Nat.reduceSub, Nat.reduceMul, Nat.reduceLeDiff, Nat.not_lt_zero, List.map_cons, List.map_nil, List.cons_append, List.nil_append, loadA, cellsAt, nAg, packA, opt_bind_some, opt_map_some, opt_bind_none, opt_map_none, List.drop, List.take, List.head?, List.length_cons, List.length_nil, binA, unA, eqCells, eqCell, negB, fillA, sr_nil, sr_cons, sr_succ, sr_all, sr_len, storeA, Ob.with, indexedI, V.oneCell, intOf?, retQ_ret, retQ_norm, resA, resA1, fr_getD, packR, sealDepth, shut_bool, shut_int, Option.some.injEq, V.bool.injEq, V.int.injEq, Bool.not_true, Bool.not_false, true_and, and_true, and_self, Bool.and_true, Bool.and_false, Bool.true_and, Bool.false_and, Bool.or_true, Bool.or_false, Bool.true_or, Bool.false_or, Bool.false_eq_true, Int.reduceLT, Int.reduceLE, Int.reduceToNat, Int.reduceNeg, shut_plain, freeL_cons, freeL_nil, free_int, free_bool, free_agg, free_str, free_nils, free_tup, free_sl, true_implies, false_implies, Nat.sub_zero, Int.natCast_nonneg, Int.toNat_natCast, Nat.le_refl, not_true_eq_false, Int.reduceAdd, Int.reduceSub, Int.reduceMul, wrap64, false_and, and_false, cond_true, cond_false, Bool.cond_true_left, Bool.cond_false_right, Int.reduceBNe, Int.reduceBEq, decide_true, decide_false, Int.cast_ofNat_Int, Nat.mul_one, eq_self, Bool.true_eq_false, Bool.not_eq_true, Bool.not_eq_false, deads, List.replicate, argsF, am3, sx_drawd, wpd_nil, wpd_cons, wdK_def, fpOf, fpV, fpCall, Fp.ok, disj, List.contains_cons, List.contains_nil, Nat.reduceBEq, List.all_append, V.objsL, V.objs,  List.getD_cons_zero, List.getD_cons_succ, List.append_nil, c8, c9, c10, c11, c12, c13, c14, c15, cg, hl, tk, ov, hlm, oS, tS, h1, t1, o1, q1, q2, lP, oP, tP, q, pm8, pm9, pm10, pm11, pm12, pm13, pm14, pm15, hm, beq_self_eq_true, bne_self_eq_false]

def secSh : Sh := .arr 64 (.int .u8)

theorem runsViewPuts {u1 u2 : V} (h1 : InP true viewSh u1) (h2 : InP true secSh u2) : ∃ N n, callA am N n 3 [u1, u2] [] = some (.bool true, []) := by
  obtain ⟨cs, rfl, h⟩ := h1
  obtain ⟨v, rfl, hv, -⟩ := view_in h
  obtain ⟨ds, rfl, hd⟩ := h2
  obtain ⟨S, rfl, hS, hb⟩ := in_bytes hd
  exact ⟨1000, 30, puts_spec (by omega) (by omega) v hv S hS hb []⟩
end Go.Am.T
