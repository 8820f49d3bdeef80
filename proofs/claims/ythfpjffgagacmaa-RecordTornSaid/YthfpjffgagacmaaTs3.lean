import Derived.Test.YthfpjffgagacmaaTs2
set_option linter.unusedVariables false
set_option linter.unusedSimpArgs false
set_option maxRecDepth 10000
namespace Go.Am.T
attribute [local congr] selV_congr impB_congr

def halfG (H X : List V) (c j : Nat) : List V := H ++ (X.take j ++ List.replicate (c - j) (.int .u8 0))

theorem halfG_length {H X : List V} {c a j : Nat} (hH : H.length = a) (hX : X.length = 48) (hc : 48 < c) (hj : j ≤ 48) : (halfG H X c j).length = a + c := by
  simp [halfG, hH, hX]; omega

theorem halfG_set {H X : List V} {c a j : Nat} {x : V} (hH : H.length = a) (hX : X.length = 48) (hc : 48 < c) (hj : j < 48) (hx : X[j]? = some x) : setRange (halfG H X c j) (a + j) [x] = halfG H X c (j + 1) := by
  have h1 : c - j = (c - (j + 1)) + 1 := by omega
  have h2 : X.take (j + 1) = X.take j ++ [x] := by rw [List.take_add_one, hx]; rfl
  unfold halfG
  rw [show a + j = j + a by omega, blk_set hH, h2, List.append_assoc]
  congr 1
  have h3 : (X.take j).length = j := by simp [hX]; omega
  have := blk_set h3 (List.replicate (c - j) (V.int .u8 0)) 0 [x]
  rw [Nat.zero_add] at this
  rw [this, h1, List.replicate_succ, sr_cons, sr_nil]
  rfl

theorem am48_is : am48.mode = .pure ∧ am48.nargs = 3 ∧ am48.nargs ≤ am48.nt := ⟨rfl, rfl, by decide⟩
theorem am48_wp {N n : Nat} {args : List V} {h : Heap} {v : V} (ha : args.length = 3) (hfree : V.freeL args = true)
    (H : sx ⟨pureOf am, callA am N n, N, 0⟩ am48.body (fr am48.nt (argsF 0 args)) (deads am48.sites) (retQ am48.res fun x h' => V.shut (fun o => h'[o]?) sealDepth x = some v)) : callA am N (n + 1) 48 args h = some (v, h) :=
  call_pure at48 am48_is.1 (ha.trans am48_is.2.1.symm) am48_is.2.2 hfree (sx_wp H)

set_option maxHeartbeats 1000000 in
theorem halfP_spec {N n : Nat} (hN : 60 ≤ N) (hn : 1 ≤ n) (p m : Int) {body : List Int} (hB : body.length = 96) (h0 : 0 < m) (h1 : m ≤ 2147483647) {i : Nat} (hi : i < 2) {x : Int} (hx : x = (i : Int)) (h : Heap) :
    callA am N n 48 [.int .i64 p, .agg (.int .i64 m :: body.map (V.int .u8)), .int .i64 x] h = some (.agg ((pgI p m body i).map (V.int .u8)), h) := by
  obtain ⟨n, rfl⟩ : ∃ m, n = m + 1 := ⟨n - 1, by omega⟩
  refine am48_wp rfl (by simp [freeL_cons, freeL_nil, free_int, free_agg, freeL_ints]) ?_
  have z0 : (m == 0) = false := beq_eq_false_iff_ne.2 (by omega)
  have t1 : IntKind.u8.wrap (IntKind.i64.wrap (161 + x)) = 161 + x := by rw [wrap64 (by omega) (by omega), wrap8 (by omega) (by omega)]
  have x0 : m / 256 ^ 0 = m := by simp
  have hm0 : 0 ≤ m := by omega
  have hm1 : m ≤ 9223372036854775807 := by omega
  have t0 : m.tmod 256 = m / 256 ^ 0 % 256 := by rw [x0]; exact Int.tmod_eq_emod_of_nonneg hm0
  have d0 : m.tdiv 256 = m / 256 ^ 1 := by rw [Int.pow_one]; exact Int.tdiv_eq_ediv_of_nonneg hm0
  have wp : IntKind.u8.wrap p = p % 256 := wrap8_eq p
  have m1 : IntKind.i64.wrap (48 * x) = ((48 * i : Nat) : Int) := (wrap64 (by omega) (by omega)).trans (by omega)
  simp +contextual -implicitDefEqProofs (maxSteps := 10000000) only [sx_seq, sxL_succ, lpQ_norm, lpQ_exit, lpQ_ret, loopQ_norm, loopQ_exit, loopQ_ret, sqQ_norm, sqQ_ret, sqQ_exit, sx_block, blkQ_norm, blkQ_exit, blkQ_ret, sx_cond, cdP_true, cdP_false, cdP_bool, sx_region, sx_draw, plainD, List.all_cons, List.all_nil, List.isEmpty_nil, List.isEmpty_cons, sxo_nil, sxo_cons, sxo_guard, gdS_bool, gdS_eff, gdS_tup, gdS_sel, gdS_seleff, sxK_def, wcall_some, effP_ret, effP_set, effP_none, effP_ite, wop_call, wop_cv, cvP_func, sx_ret, sx_exit, sx_skip, sx_clr, stays, ↓selV_wt, ↓selV_wf, ↓impB_wt, ↓impB_wf, ↓selV_nor, ↓impB_nor, ↓selV_nt, ↓selV_nf, ↓impB_nt, ↓impB_nf, wantB_true, wantB_false, ↓selV_true, ↓selV_false, ↓selV_and, ↓impB_true, ↓impB_false, ↓impB_and, impB_triv, valOf_some, retH_some, ↓prim_pick, pickO_true, pickO_false, pickO_and, pickO_or, pickO_andr, pickO_orr, pickO_orrn, pickO_orn, pickO_bb, pickAnd_bool, pickOr_bool, ↓selV_nn, ↓impB_nn, Bool.and_assoc, Bool.or_assoc, doOp, ev_fr, ev_cst, put_none, put_fr, get, ins, del, dels, Nat.reduceLT, Nat.reduceEqDiff, ↓reduceIte, reduceCtorEq, ne_eq, not_false_eq_true, implies_true, framed_pureF, framed_fb, framed_N, framed_pure, wop_prim, prim, mkA, V.cells, List.getElem?_cons_zero, List.getElem?_cons_succ, List.set_cons_zero, List.set_cons_succ, Nat.zero_add, Nat.add_zero, Nat.reduceAdd, Nat.reduceSub, Nat.reduceMul, Nat.reduceLeDiff, Nat.not_lt_zero, List.map_cons, List.map_nil, List.cons_append, List.nil_append, loadA, cellsAt, nAg, packA, opt_bind_some, opt_map_some, opt_bind_none, opt_map_none, List.drop, List.take, List.head?, List.length_cons, List.length_nil, binA, unA, eqCells, eqCell, negB, fillA, sr_nil, sr_cons, sr_succ, sr_all, sr_len, storeA, Ob.with, indexedI, V.oneCell, intOf?, retQ_ret, retQ_norm, resA, resA1, fr_getD, packR, sealDepth, shut_bool, shut_int, Option.some.injEq, V.bool.injEq, V.int.injEq, Bool.not_true, Bool.not_false, true_and, and_true, and_self, Bool.and_true, Bool.and_false, Bool.true_and, Bool.false_and, Bool.or_true, Bool.or_false, Bool.true_or, Bool.false_or, Bool.false_eq_true, Int.reduceLT, Int.reduceLE, Int.reduceToNat, Int.reduceNeg, shut_plain, freeL_cons, freeL_nil, free_int, free_bool, free_agg, free_str, free_nils, free_tup, free_sl, true_implies, false_implies, Nat.sub_zero, Int.natCast_nonneg, Int.toNat_natCast, Nat.le_refl, not_true_eq_false, Int.reduceAdd, Int.reduceSub, Int.reduceMul, wrap64, false_and, and_false, cond_true, cond_false, Bool.cond_true_left, Bool.cond_false_right, Int.reduceBNe, Int.reduceBEq, decide_true, decide_false, Int.cast_ofNat_Int, Nat.mul_one, eq_self, Bool.true_eq_false, Bool.not_eq_true, Bool.not_eq_false, deads, List.replicate, argsF, am48, List.length_map, hB, z0, t1, wp, Int.reduceToNat]
  refine sx_unroll 5 (by show 5 ≤ N; omega) ?_
  have g5 : decide ((5 : Int) ≥ 2) = true := rfl
  have g4 : decide ((4 : Int) ≥ 2) = true := rfl
  have g3 : decide ((3 : Int) ≥ 2) = true := rfl
  have g2 : decide ((2 : Int) ≥ 2) = true := rfl
  have g1 : decide ((1 : Int) ≥ 2) = false := rfl
  simp +contextual -implicitDefEqProofs (maxSteps := 10000000) only [sx_seq, sxL_succ, lpQ_norm, lpQ_exit, lpQ_ret, loopQ_norm, loopQ_exit, loopQ_ret, sqQ_norm, sqQ_ret, sqQ_exit, sx_block, blkQ_norm, blkQ_exit, blkQ_ret, sx_cond, cdP_true, cdP_false, cdP_bool, sx_region, sx_draw, plainD, List.all_cons, List.all_nil, List.isEmpty_nil, List.isEmpty_cons, sxo_nil, sxo_cons, sxo_guard, gdS_bool, gdS_eff, gdS_tup, gdS_sel, gdS_seleff, sxK_def, wcall_some, effP_ret, effP_set, effP_none, effP_ite, wop_call, wop_cv, cvP_func, sx_ret, sx_exit, sx_skip, sx_clr, stays, ↓selV_wt, ↓selV_wf, ↓impB_wt, ↓impB_wf, ↓selV_nor, ↓impB_nor, ↓selV_nt, ↓selV_nf, ↓impB_nt, ↓impB_nf, wantB_true, wantB_false, ↓selV_true, ↓selV_false, ↓selV_and, ↓impB_true, ↓impB_false, ↓impB_and, impB_triv, valOf_some, retH_some, ↓prim_pick, pickO_true, pickO_false, pickO_and, pickO_or, pickO_andr, pickO_orr, pickO_orrn, pickO_orn, pickO_bb, pickAnd_bool, pickOr_bool, ↓selV_nn, ↓impB_nn, Bool.and_assoc, Bool.or_assoc, doOp, ev_fr, ev_cst, put_none, put_fr, get, ins, del, dels, Nat.reduceLT, Nat.reduceEqDiff, ↓reduceIte, reduceCtorEq, ne_eq, not_false_eq_true, implies_true, framed_pureF, framed_fb, framed_N, framed_pure, wop_prim, prim, mkA, V.cells, List.getElem?_cons_zero, List.getElem?_cons_succ, List.set_cons_zero, List.set_cons_succ, Nat.zero_add, Nat.add_zero, Nat.reduceAdd, Nat.reduceSub, Nat.reduceMul, Nat.reduceLeDiff, Nat.not_lt_zero, List.map_cons, List.map_nil, List.cons_append, List.nil_append, loadA, cellsAt, nAg, packA, opt_bind_some, opt_map_some, opt_bind_none, opt_map_none, List.drop, List.take, List.head?, List.length_cons, List.length_nil, binA, unA, eqCells, eqCell, negB, fillA, sr_nil, sr_cons, sr_succ, sr_all, sr_len, storeA, Ob.with, indexedI, V.oneCell, intOf?, retQ_ret, retQ_norm, resA, resA1, fr_getD, packR, sealDepth, shut_bool, shut_int, Option.some.injEq, V.bool.injEq, V.int.injEq, Bool.not_true, Bool.not_false, true_and, and_true, and_self, Bool.and_true, Bool.and_false, Bool.true_and, Bool.false_and, Bool.or_true, Bool.or_false, Bool.true_or, Bool.false_or, Bool.false_eq_true, Int.reduceLT, Int.reduceLE, Int.reduceToNat, Int.reduceNeg, shut_plain, freeL_cons, freeL_nil, free_int, free_bool, free_agg, free_str, free_nils, free_tup, free_sl, true_implies, false_implies, Nat.sub_zero, Int.natCast_nonneg, Int.toNat_natCast, Nat.le_refl, not_true_eq_false, Int.reduceAdd, Int.reduceSub, Int.reduceMul, wrap64, false_and, and_false, cond_true, cond_false, Bool.cond_true_left, Bool.cond_false_right, Int.reduceBNe, Int.reduceBEq, decide_true, decide_false, Int.cast_ofNat_Int, Nat.mul_one, eq_self, Bool.true_eq_false, Bool.not_eq_true, Bool.not_eq_false, deads, List.replicate, argsF, g1, g2, g3, g4, g5, t0, d0, mod_step hm0, div_step hm0, div_in hm0 hm1, mod_in, mod_in8, Int.reduceToNat, Int.reduceEq]
  obtain ⟨H, hH⟩ : ∃ H, H = [V.int IntKind.u8 (161 + x), V.int IntKind.u8 (p % 256), V.int IntKind.u8 (m / 256 ^ 3 % 256), V.int IntKind.u8 (m / 256 ^ 2 % 256),
      V.int IntKind.u8 (m / 256 ^ 1 % 256), V.int IntKind.u8 (m / 256 ^ 0 % 256)] := ⟨_, rfl⟩
  obtain ⟨X, hX⟩ : ∃ X, X = ((body.drop (48 * i)).take 48).map (V.int .u8) := ⟨_, rfl⟩
  have lH : H.length = 6 := by rw [hH]; rfl
  have lX : X.length = 48 := by rw [hX]; simp [hB]; omega
  have oH : H.all V.oneCell = true := by rw [hH]; rfl
  have oX : X.all V.oneCell = true := by rw [hX]; exact allOne_ints _ _
  have fH : V.freeL H = true := by rw [hH]; rfl
  have fX : V.freeL X = true := by rw [hX]; exact freeL_ints _ _
  refine sx_loop (fun j t h => t = fr 50 [(2, .int .i64 x), (4, .ptr 0 1 0), (6, .ptr 1 1 0), (7, .ptr 2 1 0), (10, .int .i64 (j : Nat))] ∧ j ≤ 48 ∧ h = [⟨1, .var (.int .i64 m :: body.map (V.int .u8))⟩, ⟨1, .var (List.replicate 64 (.int .u8 0))⟩, ⟨1, .var (halfG H X 58 j)⟩]) 48 (by show 48 < N; omega) ⟨rfl, by omega, by rw [hH]; rfl⟩ ?_
  rintro j t h hj ⟨rfl, hj8, rfl⟩
  have lm : (body.map (V.int .u8)).length = 96 := by simp [hB]
  by_cases hlt : j < 48
  · have d1 : decide ((j : Int) < 48) = true := decide_eq_true (by omega)
    have w14 : IntKind.i64.wrap (6 + (j : Int)) = ((6 + j : Nat) : Int) := (wrap64 (by omega) (by omega)).trans (by omega)
    have wi : IntKind.i64.wrap (((48 * i : Nat) : Int) + (j : Int)) = ((48 * i + j : Nat) : Int) := (wrap64 (by omega) (by omega)).trans (by omega)
    have w1 : IntKind.i64.wrap ((j : Int) + 1) = ((j + 1 : Nat) : Int) := (wrap64 (by omega) (by omega)).trans (by omega)
    have i1 : ((48 * i + j : Nat) : Int) < 96 := by omega
    have i2 : ((6 + j : Nat) : Int) < 64 := by omega
    have k1 : 1 + (48 * i + j) + 1 ≤ 97 := by omega
    have k2 : 6 + j + 1 ≤ 64 := by omega
    have rd : List.take 1 (List.drop (1 + (48 * i + j)) (V.int .i64 m :: body.map (V.int .u8))) = [.int .u8 (body.getD (48 * i + j) 0)] := by
      rw [show 1 + (48 * i + j) = (48 * i + j) + 1 by omega]
      exact ints_at .u8 (l := body) (i := 48 * i + j) (by omega)
    have hxx : X[j]? = some (.int .u8 (body.getD (48 * i + j) 0)) := by
      rw [hX, List.getElem?_map, List.getElem?_take_of_lt hlt, List.getElem?_drop, List.getElem?_eq_getElem (by omega)]
      simp [List.getD_eq_getElem?_getD, show 48 * i + j < body.length by omega]
    have hs := halfG_set (c := 58) lH lX (by omega) hlt hxx
    have hl : (halfG H X 58 j).length = 64 := halfG_length (c := 58) (j := j) lH lX (by omega) (by omega)
    have hj1 : j + 1 ≤ 48 := by omega
    simp +contextual -implicitDefEqProofs (maxSteps := 10000000) only [sx_seq, sxL_succ, lpQ_norm, lpQ_exit, lpQ_ret, loopQ_norm, loopQ_exit, loopQ_ret, sqQ_norm, sqQ_ret, sqQ_exit, sx_block, blkQ_norm, blkQ_exit, blkQ_ret, sx_cond, cdP_true, cdP_false, cdP_bool, sx_region, sx_draw, plainD, List.all_cons, List.all_nil, List.isEmpty_nil, List.isEmpty_cons, sxo_nil, sxo_cons, sxo_guard, gdS_bool, gdS_eff, gdS_tup, gdS_sel, gdS_seleff, sxK_def, wcall_some, effP_ret, effP_set, effP_none, effP_ite, wop_call, wop_cv, cvP_func, sx_ret, sx_exit, sx_skip, sx_clr, stays, ↓selV_wt, ↓selV_wf, ↓impB_wt, ↓impB_wf, ↓selV_nor, ↓impB_nor, ↓selV_nt, ↓selV_nf, ↓impB_nt, ↓impB_nf, wantB_true, wantB_false, ↓selV_true, ↓selV_false, ↓selV_and, ↓impB_true, ↓impB_false, ↓impB_and, impB_triv, valOf_some, retH_some, ↓prim_pick, pickO_true, pickO_false, pickO_and, pickO_or, pickO_andr, pickO_orr, pickO_orrn, pickO_orn, pickO_bb, pickAnd_bool, pickOr_bool, ↓selV_nn, ↓impB_nn, Bool.and_assoc, Bool.or_assoc, doOp, ev_fr, ev_cst, put_none, put_fr, get, ins, del, dels, Nat.reduceLT, Nat.reduceEqDiff, ↓reduceIte, reduceCtorEq, ne_eq, not_false_eq_true, implies_true, framed_pureF, framed_fb, framed_N, framed_pure, wop_prim, prim, mkA, V.cells, List.getElem?_cons_zero, List.getElem?_cons_succ, List.set_cons_zero, List.set_cons_succ, Nat.zero_add, Nat.add_zero, Nat.reduceAdd, Nat.reduceSub, Nat.reduceMul, Nat.reduceLeDiff, Nat.not_lt_zero, List.map_cons, List.map_nil, List.cons_append, List.nil_append, loadA, cellsAt, nAg, packA, opt_bind_some, opt_map_some, opt_bind_none, opt_map_none, List.drop, List.take, List.head?, List.length_cons, List.length_nil, binA, unA, eqCells, eqCell, negB, fillA, sr_nil, sr_cons, sr_succ, sr_all, sr_len, storeA, Ob.with, indexedI, V.oneCell, intOf?, retQ_ret, retQ_norm, resA, resA1, fr_getD, packR, sealDepth, shut_bool, shut_int, Option.some.injEq, V.bool.injEq, V.int.injEq, Bool.not_true, Bool.not_false, true_and, and_true, and_self, Bool.and_true, Bool.and_false, Bool.true_and, Bool.false_and, Bool.or_true, Bool.or_false, Bool.true_or, Bool.false_or, Bool.false_eq_true, Int.reduceLT, Int.reduceLE, Int.reduceToNat, Int.reduceNeg, shut_plain, freeL_cons, freeL_nil, free_int, free_bool, free_agg, free_str, free_nils, free_tup, free_sl, true_implies, false_implies, Nat.sub_zero, Int.natCast_nonneg, Int.toNat_natCast, Nat.le_refl, not_true_eq_false, Int.reduceAdd, Int.reduceSub, Int.reduceMul, wrap64, false_and, and_false, cond_true, cond_false, Bool.cond_true_left, Bool.cond_false_right, Int.reduceBNe, Int.reduceBEq, decide_true, decide_false, Int.cast_ofNat_Int, Nat.mul_one, eq_self, Bool.true_eq_false, Bool.not_eq_true, Bool.not_eq_false, deads, List.replicate, argsF, d1, w14, wi, w1, m1, i1, i2, k1, k2, rd, hs, hl, lm, hj1]
    exact hlt
  · have e : j = 48 := by omega
    subst e
    have d1 : decide (((48 : Nat) : Int) < 48) = false := rfl
    have hl : (halfG H X 58 48).length = 64 := halfG_length (c := 58) (j := 48) lH lX (by omega) (by omega)
    have tk : List.take 64 (halfG H X 58 48) = halfG H X 58 48 := List.take_of_length_le (by omega)
    have oc : (halfG H X 58 48).all V.oneCell = true := by
      unfold halfG
      rw [List.take_of_length_le (by omega), List.all_append, List.all_append, oH, oX]
      rfl
    have fc : V.freeL (halfG H X 58 48) = true := by
      unfold halfG
      rw [freeL_append, freeL_append, fH, List.take_of_length_le (by omega), fX]
      rfl
    simp +contextual -implicitDefEqProofs (maxSteps := 10000000) only [sx_seq, sxL_succ, lpQ_norm, lpQ_exit, lpQ_ret, loopQ_norm, loopQ_exit, loopQ_ret, sqQ_norm, sqQ_ret, sqQ_exit, sx_block, blkQ_norm, blkQ_exit, blkQ_ret, sx_cond, cdP_true, cdP_false, cdP_bool, sx_region, sx_draw, plainD, List.all_cons, List.all_nil, List.isEmpty_nil, List.isEmpty_cons, sxo_nil, sxo_cons, sxo_guard, gdS_bool, gdS_eff, gdS_tup, gdS_sel, gdS_seleff, sxK_def, wcall_some, effP_ret, effP_set, effP_none, effP_ite, wop_call, wop_cv, cvP_func, sx_ret, sx_exit, sx_skip, sx_clr, stays, ↓selV_wt, ↓selV_wf, ↓impB_wt, ↓impB_wf, ↓selV_nor, ↓impB_nor, ↓selV_nt, ↓selV_nf, ↓impB_nt, ↓impB_nf, wantB_true, wantB_false, ↓selV_true, ↓selV_false, ↓selV_and, ↓impB_true, ↓impB_false, ↓impB_and, impB_triv, valOf_some, retH_some, ↓prim_pick, pickO_true, pickO_false, pickO_and, pickO_or, pickO_andr, pickO_orr, pickO_orrn, pickO_orn, pickO_bb, pickAnd_bool, pickOr_bool, ↓selV_nn, ↓impB_nn, Bool.and_assoc, Bool.or_assoc, doOp, ev_fr, ev_cst, put_none, put_fr, get, ins, del, dels, Nat.reduceLT, Nat.reduceEqDiff, ↓reduceIte, reduceCtorEq, ne_eq, not_false_eq_true, implies_true, framed_pureF, framed_fb, framed_N, framed_pure, wop_prim, prim, mkA, V.cells, List.getElem?_cons_zero, List.getElem?_cons_succ, List.set_cons_zero, List.set_cons_succ, Nat.zero_add, Nat.add_zero, Nat.reduceAdd, Nat.reduceSub, Nat.reduceMul, Nat.reduceLeDiff, Nat.not_lt_zero, List.map_cons, List.map_nil, List.cons_append, List.nil_append, loadA, cellsAt, nAg, packA, opt_bind_some, opt_map_some, opt_bind_none, opt_map_none, List.drop, List.take, List.head?, List.length_cons, List.length_nil, binA, unA, eqCells, eqCell, negB, fillA, sr_nil, sr_cons, sr_succ, sr_all, sr_len, storeA, Ob.with, indexedI, V.oneCell, intOf?, retQ_ret, retQ_norm, resA, resA1, fr_getD, packR, sealDepth, shut_bool, shut_int, Option.some.injEq, V.bool.injEq, V.int.injEq, Bool.not_true, Bool.not_false, true_and, and_true, and_self, Bool.and_true, Bool.and_false, Bool.true_and, Bool.false_and, Bool.or_true, Bool.or_false, Bool.true_or, Bool.false_or, Bool.false_eq_true, Int.reduceLT, Int.reduceLE, Int.reduceToNat, Int.reduceNeg, shut_plain, freeL_cons, freeL_nil, free_int, free_bool, free_agg, free_str, free_nils, free_tup, free_sl, true_implies, false_implies, Nat.sub_zero, Int.natCast_nonneg, Int.toNat_natCast, Nat.le_refl, not_true_eq_false, Int.reduceAdd, Int.reduceSub, Int.reduceMul, wrap64, false_and, and_false, cond_true, cond_false, Bool.cond_true_left, Bool.cond_false_right, Int.reduceBNe, Int.reduceBEq, decide_true, decide_false, Int.cast_ofNat_Int, Nat.mul_one, eq_self, Bool.true_eq_false, Bool.not_eq_true, Bool.not_eq_false, deads, List.replicate, argsF, d1, hl, tk, oc, fc]
    simp [halfG, hH, hX, pgI, bytI, hx]
    try simp [List.take_take]
end Go.Am.T
