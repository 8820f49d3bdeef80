import Derived.Test.YthfpjffgagacmaaTj
set_option linter.unusedVariables false
set_option linter.unusedSimpArgs false
set_option maxRecDepth 10000
namespace Go.Am.T
attribute [local congr] selV_congr impB_congr

theorem rec_of {a b d x i : Int} (ha : 2 ≤ a) (hd : 2 ≤ d) (h0 : 0 ≤ x) (h1 : x < a) (i0 : 0 ≤ i) (i1 : i < d) (h : Int) (hh : h = 0 ∨ h = 1) :
    ofS a b d (9 + x * (1 + 2 * d) + 1 + 2 * i + h) = some ⟨4, x, i, h⟩ := by
  have hn := Int.mul_nonneg h0 (show 0 ≤ 1 + 2 * d by omega)
  have hl := mul_lt h1 (show 0 < 1 + 2 * d by omega)
  have e0 : 9 + x * (1 + 2 * d) + 1 + 2 * i + h - 9 = x * (1 + 2 * d) + (1 + 2 * i + h) := by omega
  have e1 : (x * (1 + 2 * d) + (1 + 2 * i + h)).tmod (1 + 2 * d) = 1 + 2 * i + h := by
    rw [Int.tmod_eq_emod_of_nonneg (by omega), Int.mul_comm, Int.mul_add_emod_self_left, Int.emod_eq_of_lt (by omega) (by omega)]
  have e2 : (x * (1 + 2 * d) + (1 + 2 * i + h)).tdiv (1 + 2 * d) = x := by
    rw [Int.tdiv_eq_ediv_of_nonneg (by omega), Int.add_comm, Int.add_mul_ediv_right _ _ (by omega), Int.ediv_eq_zero_of_lt (by omega) (by omega), Int.zero_add]
  have e3 : 1 + 2 * i + h - 1 = 2 * i + h := by omega
  have e4 : (2 * i + h).tdiv 2 = i := by rw [Int.tdiv_eq_ediv_of_nonneg (by omega)]; omega
  have e5 : (2 * i + h).tmod 2 = h := by rw [Int.tmod_eq_emod_of_nonneg (by omega)]; omega
  unfold ofS endLog
  rw [if_neg (by omega), if_neg (by omega), if_pos (by omega), e0, e1, e2, if_neg (by omega), e3, e4, e5]

theorem mod_same {x y d : Int} (hx : 1 ≤ x) (hy : 1 ≤ y) (hd : 2 ≤ d) : (x - y).tmod d = 0 ↔ (x - 1).tmod d = (y - 1).tmod d := by
  rw [Int.tmod_eq_emod_of_nonneg (show 0 ≤ x - 1 by omega), Int.tmod_eq_emod_of_nonneg (show 0 ≤ y - 1 by omega)]
  rw [← Int.dvd_iff_tmod_eq_zero, Int.dvd_iff_emod_eq_zero, ← Int.emod_emod_of_dvd (x - y) (Int.dvd_refl d)]
  constructor
  · intro h
    have : x - y = (x - 1) - (y - 1) := by omega
    rw [Int.emod_emod_of_dvd _ (Int.dvd_refl d), this] at h
    exact (Int.emod_eq_emod_iff_emod_sub_eq_zero).2 h
  · intro h
    have := (Int.emod_eq_emod_iff_emod_sub_eq_zero).1 h
    rw [Int.emod_emod_of_dvd _ (Int.dvd_refl d), show x - y = (x - 1) - (y - 1) by omega]
    exact this

set_option maxHeartbeats 8000000 in
theorem apart_spec {N n : Nat} (hN : 2000 ≤ N) (hn : 21 ≤ n) (a b c d e : Int) (x y : Ask) (bx : -9223372036854775808 ≤ x.page ∧ x.page ≤ 9223372036854775807) (h : Heap) :
    callA am N n 4 [.agg [.int .i64 a, .int .i64 b, .int .i64 c, .int .i64 d, .int .i64 e], x.v, y.v] h = some (.bool true, h) := by
  obtain ⟨n, rfl⟩ : ∃ m, n = m + 1 := ⟨n - 1, by omega⟩
  have c1 := @sectors_spec N n (by omega) a b c d e
  have c2 := @record_spec N n (by omega) a b c d e x.node x.lsn
  have c3 := @record_spec N n (by omega) a b c d e y.node y.lsn
  have c4 := @page_spec N n (by omega) a b c d e x.page
  have c6 := @of_spec N n (by omega) (by omega) a b c d e
  have c7 := @num_spec N n (by omega)
  have c8 := @known_spec N n (by omega) (by omega)
  obtain ⟨xn, xp, xs, xl⟩ := x
  obtain ⟨yn, yp, ys, yl⟩ := y
  simp only [Ask.v] at *
  refine call_pure at4 rfl rfl (by decide) rfl (sx_wp ?_)
  by_cases hx : may5 a b c d e = true ∧ (0 ≤ xn ∧ xn < a) ∧ 1 ≤ xl ∧ xl ≤ 2147483647
  · by_cases hy : may5 a b c d e = true ∧ (0 ≤ yn ∧ yn < a) ∧ 1 ≤ yl ∧ yl ≤ 2147483647
    · rw [if_pos hx] at c2
      rw [if_pos hy] at c3
      obtain ⟨hm, ⟨hx1, hx2⟩, hx3, hx4⟩ := hx
      obtain ⟨-, ⟨hy1, hy2⟩, hy3, hy4⟩ := hy
      rw [if_pos hm] at c1
      obtain ⟨h1, h2, h3, h4, h5, h6⟩ := may5_bounds hm
      obtain ⟨h7, h8⟩ := prod_bounds h1 h2 h5 h6
      obtain ⟨ix0, ix1⟩ := mod_bounds hx3 h5
      obtain ⟨iy0, iy1⟩ := mod_bounds hy3 h5
      have hms := mod_same hx3 hy3 h5
      have ow := fun h hh => rec_of (b := b) (by omega) h5 hx1 hx2 ix0 ix1 h hh
      have owy := fun h hh => rec_of (b := b) (by omega) h5 hy1 hy2 iy0 iy1 h hh
      have nx := Int.mul_nonneg hx1 (show 0 ≤ 1 + 2 * d by omega)
      have ny := Int.mul_nonneg hy1 (show 0 ≤ 1 + 2 * d by omega)
      have lx := mul_lt hx2 (show 0 < 1 + 2 * d by omega)
      have ly := mul_lt hy2 (show 0 < 1 + 2 * d by omega)
      have hE : endLog a d = 9 + a * (1 + 2 * d) := rfl
      unfold recAt at c2 c3
      generalize hix : (xl - 1).tmod d = ix at *
      generalize hiy : (yl - 1).tmod d = iy at *
      obtain ⟨A, hA⟩ : ∃ A, A = 9 + xn * (1 + 2 * d) + 1 + 2 * ix := ⟨_, rfl⟩
      obtain ⟨B, hB⟩ : ∃ B, B = 9 + yn * (1 + 2 * d) + 1 + 2 * iy := ⟨_, rfl⟩
      rw [← hA] at c2 ow
      rw [← hB] at c3 owy
      have o0 : ofS a b d A = some ⟨4, xn, ix, 0⟩ := by have := ow 0 (.inl rfl); rwa [Int.add_zero] at this
      have o1 := ow 1 (.inr rfl)
      have p0 : ofS a b d B = some ⟨4, yn, iy, 0⟩ := by have := owy 0 (.inl rfl); rwa [Int.add_zero] at this
      have p1 := owy 1 (.inr rfl)
      have cA := fun h => (c6 A h).trans (by rw [if_pos ⟨hm, by omega⟩, o0])
      have cA1 := fun h => (c6 (A + 1) h).trans (by rw [if_pos ⟨hm, by omega⟩, o1])
      -- the two places
      have hAB : A = B ↔ xn = yn ∧ ix = iy := by
        constructor
        · intro e
          rw [e, p0] at o0
          simp only [Option.some.injEq, Pl.mk.injEq] at o0
          exact ⟨o0.2.1.symm, o0.2.2.1.symm⟩
        · rintro ⟨rfl, rfl⟩; omega
      have hAB1 : A ≠ B + 1 := by
        intro e
        rw [e, p1] at o0
        simp at o0
      have hBA1 : B ≠ A + 1 := by
        intro e
        rw [e, o1] at p0
        simp at p0
      have wA : IntKind.i64.wrap (A + 1) = A + 1 := wrap64 (by omega) (by omega)
      have wB : IntKind.i64.wrap (B + 1) = B + 1 := wrap64 (by omega) (by omega)
      have w1 : IntKind.i64.wrap (xl - yl) = xl - yl := wrap64 (by omega) (by omega)
      have w2 : IntKind.i64.wrap (xl - 1) = xl - 1 := wrap64 (by omega) (by omega)
      have e0 : ¬ d = 0 := by omega
      have b1 : (A == B) = (xn == yn && (xl - yl).tmod d == 0) := by
        rw [Bool.eq_iff_iff]
        simp only [beq_iff_eq, Bool.and_eq_true]
        rw [hAB, hms]
      have b2 : (A == B + 1) = false := by simpa using hAB1
      have b3 : (B == A + 1) = false := by simpa using hBA1
      have b4 : decide (A + 1 ≥ endLog a d + 2 * b) = false := by simp; omega
      have b5 : decide (B + 1 ≥ endLog a d + 2 * b) = false := by simp; omega
      by_cases hp : 0 ≤ xp ∧ xp < b
      · rw [if_pos ⟨hm, hp⟩] at c4
        have oC : ofS a b d (endLog a d + 2 * xp) = some ⟨5, 0, xp, 0⟩ := by
          unfold ofS
          rw [if_neg (by omega), if_neg (by omega), if_neg (by omega), if_pos (by omega), show endLog a d + 2 * xp - endLog a d = 2 * xp by omega, Int.mul_tmod_right, Int.mul_tdiv_cancel_left _ (by omega)]
        have cC := fun h => (c6 (endLog a d + 2 * xp) h).trans (by rw [if_pos ⟨hm, by omega⟩, oC])
        have q1 : (endLog a d + 2 * xp != A) = true := by simp; omega
        have q2 : (endLog a d + 2 * xp != A + 1) = true := by simp; omega
        have q3 : IntKind.i64.wrap (endLog a d + 2 * xp + 1) = endLog a d + 2 * xp + 1 := wrap64 (by omega) (by omega)
        have q4 : decide (endLog a d + 2 * xp + 1 < endLog a d + 2 * b) = true := by simp; omega
        cases hs : (xn == yn && (xl - yl).tmod d == 0) with
        | true => simp +contextual -implicitDefEqProofs (maxSteps := 10000000) only [sx_seq, sxL_succ, lpQ_norm, lpQ_exit, lpQ_ret, loopQ_norm, loopQ_exit, loopQ_ret, sqQ_norm, sqQ_ret, sqQ_exit, sx_block, blkQ_norm, blkQ_exit, blkQ_ret, sx_cond, cdP_true, cdP_false, cdP_bool, sx_region, sx_draw, plainD, List.all_cons, List.all_nil, List.isEmpty_nil, sxo_nil, sxo_cons, sxo_guard, gdS_bool, gdS_eff, gdS_tup, gdS_sel, gdS_seleff, sxK_def, wcall_some, effP_ret, effP_set, effP_none, effP_ite, wop_call, sx_ret, sx_exit, sx_skip, sx_clr, stays, ↓selV_wt, ↓selV_wf, ↓impB_wt, ↓impB_wf, ↓selV_nor, ↓impB_nor, ↓selV_nt, ↓selV_nf, ↓impB_nt, ↓impB_nf, wantB_true, wantB_false, ↓selV_true, ↓selV_false, ↓selV_and, ↓impB_true, ↓impB_false, ↓impB_and, impB_triv, valOf_some, retH_some, ↓prim_pick, pickO_true, pickO_false, pickO_and, pickO_or, pickO_andr, pickO_orr, pickO_orrn, pickO_orn, pickO_bb, pickAnd_bool, pickOr_bool, ↓selV_nn, ↓impB_nn, Bool.and_assoc, Bool.or_assoc, doOp, ev_fr, ev_cst, put_none, put_fr, get, ins, del, dels, Nat.reduceLT, Nat.reduceEqDiff, ↓reduceIte, reduceCtorEq, ne_eq, not_false_eq_true, implies_true, framed_pureF, framed_fb, framed_N, framed_pure, wop_prim, prim, mkA, V.cells, List.getElem?_cons_zero, List.getElem?_cons_succ, List.set_cons_zero, List.set_cons_succ, Nat.zero_add, Nat.add_zero, Nat.reduceAdd, Nat.reduceSub, Nat.reduceMul, Nat.reduceLeDiff, Nat.not_lt_zero, List.map_cons, List.map_nil, List.cons_append, List.nil_append, loadA, cellsAt, nAg, packA, opt_bind_some, opt_map_some, opt_bind_none, opt_map_none, List.drop, List.take, List.head?, List.length_cons, List.length_nil, binA, unA, eqCells, eqCell, negB, fillA, setRange, storeA, Ob.with, indexedI, V.oneCell, intOf?, retQ_ret, retQ_norm, resA, resA1, fr_getD, packR, sealDepth, shut_bool, shut_int, Option.some.injEq, V.bool.injEq, V.int.injEq, Bool.not_true, Bool.not_false, true_and, and_true, and_self, Bool.and_true, Bool.and_false, Bool.true_and, Bool.false_and, Bool.or_true, Bool.or_false, Bool.true_or, Bool.false_or, Bool.false_eq_true, Int.reduceLT, Int.reduceLE, Int.reduceToNat, Int.reduceNeg, shut_plain, freeL_cons, freeL_nil, free_int, free_bool, free_agg, free_str, free_nils, free_tup, free_sl, true_implies, false_implies, Nat.le_refl, not_true_eq_false, Int.reduceAdd, Int.reduceSub, Int.reduceMul, wrap64, false_and, and_false, cond_true, cond_false, Bool.cond_true_left, Bool.cond_false_right, Int.reduceBNe, Int.reduceBEq, decide_true, decide_false, Int.cast_ofNat_Int, Nat.mul_one, eq_self, Bool.true_eq_false, Bool.not_eq_true, Bool.not_eq_false, deads, List.replicate, argsF, am4, c8, c1, c2, c3, c4, c7, cA, cA1, cC, plErr, Pl.v, Pl.cs, pm16, wA, wB, w1, w2, e0, b1, b2, b3, b4, b5, hix, q1, q2, q3, q4, hs, beq_self_eq_true, bne_self_eq_false, Bool.not_true]
        | false => simp +contextual -implicitDefEqProofs (maxSteps := 10000000) only [sx_seq, sxL_succ, lpQ_norm, lpQ_exit, lpQ_ret, loopQ_norm, loopQ_exit, loopQ_ret, sqQ_norm, sqQ_ret, sqQ_exit, sx_block, blkQ_norm, blkQ_exit, blkQ_ret, sx_cond, cdP_true, cdP_false, cdP_bool, sx_region, sx_draw, plainD, List.all_cons, List.all_nil, List.isEmpty_nil, sxo_nil, sxo_cons, sxo_guard, gdS_bool, gdS_eff, gdS_tup, gdS_sel, gdS_seleff, sxK_def, wcall_some, effP_ret, effP_set, effP_none, effP_ite, wop_call, sx_ret, sx_exit, sx_skip, sx_clr, stays, ↓selV_wt, ↓selV_wf, ↓impB_wt, ↓impB_wf, ↓selV_nor, ↓impB_nor, ↓selV_nt, ↓selV_nf, ↓impB_nt, ↓impB_nf, wantB_true, wantB_false, ↓selV_true, ↓selV_false, ↓selV_and, ↓impB_true, ↓impB_false, ↓impB_and, impB_triv, valOf_some, retH_some, ↓prim_pick, pickO_true, pickO_false, pickO_and, pickO_or, pickO_andr, pickO_orr, pickO_orrn, pickO_orn, pickO_bb, pickAnd_bool, pickOr_bool, ↓selV_nn, ↓impB_nn, Bool.and_assoc, Bool.or_assoc, doOp, ev_fr, ev_cst, put_none, put_fr, get, ins, del, dels, Nat.reduceLT, Nat.reduceEqDiff, ↓reduceIte, reduceCtorEq, ne_eq, not_false_eq_true, implies_true, framed_pureF, framed_fb, framed_N, framed_pure, wop_prim, prim, mkA, V.cells, List.getElem?_cons_zero, List.getElem?_cons_succ, List.set_cons_zero, List.set_cons_succ, Nat.zero_add, Nat.add_zero, Nat.reduceAdd, Nat.reduceSub, Nat.reduceMul, Nat.reduceLeDiff, Nat.not_lt_zero, List.map_cons, List.map_nil, List.cons_append, List.nil_append, loadA, cellsAt, nAg, packA, opt_bind_some, opt_map_some, opt_bind_none, opt_map_none, List.drop, List.take, List.head?, List.length_cons, List.length_nil, binA, unA, eqCells, eqCell, negB, fillA, setRange, storeA, Ob.with, indexedI, V.oneCell, intOf?, retQ_ret, retQ_norm, resA, resA1, fr_getD, packR, sealDepth, shut_bool, shut_int, Option.some.injEq, V.bool.injEq, V.int.injEq, Bool.not_true, Bool.not_false, true_and, and_true, and_self, Bool.and_true, Bool.and_false, Bool.true_and, Bool.false_and, Bool.or_true, Bool.or_false, Bool.true_or, Bool.false_or, Bool.false_eq_true, Int.reduceLT, Int.reduceLE, Int.reduceToNat, Int.reduceNeg, shut_plain, freeL_cons, freeL_nil, free_int, free_bool, free_agg, free_str, free_nils, free_tup, free_sl, true_implies, false_implies, Nat.le_refl, not_true_eq_false, Int.reduceAdd, Int.reduceSub, Int.reduceMul, wrap64, false_and, and_false, cond_true, cond_false, Bool.cond_true_left, Bool.cond_false_right, Int.reduceBNe, Int.reduceBEq, decide_true, decide_false, Int.cast_ofNat_Int, Nat.mul_one, eq_self, Bool.true_eq_false, Bool.not_eq_true, Bool.not_eq_false, deads, List.replicate, argsF, am4, c8, c1, c2, c3, c4, c7, cA, cA1, cC, plErr, Pl.v, Pl.cs, pm16, wA, wB, w1, w2, e0, b1, b2, b3, b4, b5, hix, q1, q2, q3, q4, hs, beq_self_eq_true, bne_self_eq_false, Bool.not_true]
      · rw [if_neg (fun h => hp h.2)] at c4
        cases hs : (xn == yn && (xl - yl).tmod d == 0) with
        | true => simp +contextual -implicitDefEqProofs (maxSteps := 10000000) only [sx_seq, sxL_succ, lpQ_norm, lpQ_exit, lpQ_ret, loopQ_norm, loopQ_exit, loopQ_ret, sqQ_norm, sqQ_ret, sqQ_exit, sx_block, blkQ_norm, blkQ_exit, blkQ_ret, sx_cond, cdP_true, cdP_false, cdP_bool, sx_region, sx_draw, plainD, List.all_cons, List.all_nil, List.isEmpty_nil, sxo_nil, sxo_cons, sxo_guard, gdS_bool, gdS_eff, gdS_tup, gdS_sel, gdS_seleff, sxK_def, wcall_some, effP_ret, effP_set, effP_none, effP_ite, wop_call, sx_ret, sx_exit, sx_skip, sx_clr, stays, ↓selV_wt, ↓selV_wf, ↓impB_wt, ↓impB_wf, ↓selV_nor, ↓impB_nor, ↓selV_nt, ↓selV_nf, ↓impB_nt, ↓impB_nf, wantB_true, wantB_false, ↓selV_true, ↓selV_false, ↓selV_and, ↓impB_true, ↓impB_false, ↓impB_and, impB_triv, valOf_some, retH_some, ↓prim_pick, pickO_true, pickO_false, pickO_and, pickO_or, pickO_andr, pickO_orr, pickO_orrn, pickO_orn, pickO_bb, pickAnd_bool, pickOr_bool, ↓selV_nn, ↓impB_nn, Bool.and_assoc, Bool.or_assoc, doOp, ev_fr, ev_cst, put_none, put_fr, get, ins, del, dels, Nat.reduceLT, Nat.reduceEqDiff, ↓reduceIte, reduceCtorEq, ne_eq, not_false_eq_true, implies_true, framed_pureF, framed_fb, framed_N, framed_pure, wop_prim, prim, mkA, V.cells, List.getElem?_cons_zero, List.getElem?_cons_succ, List.set_cons_zero, List.set_cons_succ, Nat.zero_add, Nat.add_zero, Nat.reduceAdd, Nat.reduceSub, Nat.reduceMul, Nat.reduceLeDiff, Nat.not_lt_zero, List.map_cons, List.map_nil, List.cons_append, List.nil_append, loadA, cellsAt, nAg, packA, opt_bind_some, opt_map_some, opt_bind_none, opt_map_none, List.drop, List.take, List.head?, List.length_cons, List.length_nil, binA, unA, eqCells, eqCell, negB, fillA, setRange, storeA, Ob.with, indexedI, V.oneCell, intOf?, retQ_ret, retQ_norm, resA, resA1, fr_getD, packR, sealDepth, shut_bool, shut_int, Option.some.injEq, V.bool.injEq, V.int.injEq, Bool.not_true, Bool.not_false, true_and, and_true, and_self, Bool.and_true, Bool.and_false, Bool.true_and, Bool.false_and, Bool.or_true, Bool.or_false, Bool.true_or, Bool.false_or, Bool.false_eq_true, Int.reduceLT, Int.reduceLE, Int.reduceToNat, Int.reduceNeg, shut_plain, freeL_cons, freeL_nil, free_int, free_bool, free_agg, free_str, free_nils, free_tup, free_sl, true_implies, false_implies, Nat.le_refl, not_true_eq_false, Int.reduceAdd, Int.reduceSub, Int.reduceMul, wrap64, false_and, and_false, cond_true, cond_false, Bool.cond_true_left, Bool.cond_false_right, Int.reduceBNe, Int.reduceBEq, decide_true, decide_false, Int.cast_ofNat_Int, Nat.mul_one, eq_self, Bool.true_eq_false, Bool.not_eq_true, Bool.not_eq_false, deads, List.replicate, argsF, am4, c8, c1, c2, c3, c4, c7, cA, cA1, plErr, Pl.v, Pl.cs, pm16, wA, wB, w1, w2, e0, b1, b2, b3, b4, b5, hix, hs, beq_self_eq_true, bne_self_eq_false, Bool.not_true]
        | false => simp +contextual -implicitDefEqProofs (maxSteps := 10000000) only [sx_seq, sxL_succ, lpQ_norm, lpQ_exit, lpQ_ret, loopQ_norm, loopQ_exit, loopQ_ret, sqQ_norm, sqQ_ret, sqQ_exit, sx_block, blkQ_norm, blkQ_exit, blkQ_ret, sx_cond, cdP_true, cdP_false, cdP_bool, sx_region, sx_draw, plainD, List.all_cons, List.all_nil, List.isEmpty_nil, sxo_nil, sxo_cons, sxo_guard, gdS_bool, gdS_eff, gdS_tup, gdS_sel, gdS_seleff, sxK_def, wcall_some, effP_ret, effP_set, effP_none, effP_ite, wop_call, sx_ret, sx_exit, sx_skip, sx_clr, stays, ↓selV_wt, ↓selV_wf, ↓impB_wt, ↓impB_wf, ↓selV_nor, ↓impB_nor, ↓selV_nt, ↓selV_nf, ↓impB_nt, ↓impB_nf, wantB_true, wantB_false, ↓selV_true, ↓selV_false, ↓selV_and, ↓impB_true, ↓impB_false, ↓impB_and, impB_triv, valOf_some, retH_some, ↓prim_pick, pickO_true, pickO_false, pickO_and, pickO_or, pickO_andr, pickO_orr, pickO_orrn, pickO_orn, pickO_bb, pickAnd_bool, pickOr_bool, ↓selV_nn, ↓impB_nn, Bool.and_assoc, Bool.or_assoc, doOp, ev_fr, ev_cst, put_none, put_fr, get, ins, del, dels, Nat.reduceLT, Nat.reduceEqDiff, ↓reduceIte, reduceCtorEq, ne_eq, not_false_eq_true, implies_true, framed_pureF, framed_fb, framed_N, framed_pure, wop_prim, prim, mkA, V.cells, List.getElem?_cons_zero, List.getElem?_cons_succ, List.set_cons_zero, List.set_cons_succ, Nat.zero_add, Nat.add_zero, Nat.reduceAdd, Nat.reduceSub, Nat.reduceMul, Nat.reduceLeDiff, Nat.not_lt_zero, List.map_cons, List.map_nil, List.cons_append, List.nil_append, loadA, cellsAt, nAg, packA, opt_bind_some, opt_map_some, opt_bind_none, opt_map_none, List.drop, List.take, List.head?, List.length_cons, List.length_nil, binA, unA, eqCells, eqCell, negB, fillA, setRange, storeA, Ob.with, indexedI, V.oneCell, intOf?, retQ_ret, retQ_norm, resA, resA1, fr_getD, packR, sealDepth, shut_bool, shut_int, Option.some.injEq, V.bool.injEq, V.int.injEq, Bool.not_true, Bool.not_false, true_and, and_true, and_self, Bool.and_true, Bool.and_false, Bool.true_and, Bool.false_and, Bool.or_true, Bool.or_false, Bool.true_or, Bool.false_or, Bool.false_eq_true, Int.reduceLT, Int.reduceLE, Int.reduceToNat, Int.reduceNeg, shut_plain, freeL_cons, freeL_nil, free_int, free_bool, free_agg, free_str, free_nils, free_tup, free_sl, true_implies, false_implies, Nat.le_refl, not_true_eq_false, Int.reduceAdd, Int.reduceSub, Int.reduceMul, wrap64, false_and, and_false, cond_true, cond_false, Bool.cond_true_left, Bool.cond_false_right, Int.reduceBNe, Int.reduceBEq, decide_true, decide_false, Int.cast_ofNat_Int, Nat.mul_one, eq_self, Bool.true_eq_false, Bool.not_eq_true, Bool.not_eq_false, deads, List.replicate, argsF, am4, c8, c1, c2, c3, c4, c7, cA, cA1, plErr, Pl.v, Pl.cs, pm16, wA, wB, w1, w2, e0, b1, b2, b3, b4, b5, hix, hs, beq_self_eq_true, bne_self_eq_false, Bool.not_true]
    · rw [if_neg hy] at c3
      rw [if_pos hx] at c2
      rw [if_pos hx.1] at c1
      simp +contextual -implicitDefEqProofs (maxSteps := 10000000) only [sx_seq, sxL_succ, lpQ_norm, lpQ_exit, lpQ_ret, loopQ_norm, loopQ_exit, loopQ_ret, sqQ_norm, sqQ_ret, sqQ_exit, sx_block, blkQ_norm, blkQ_exit, blkQ_ret, sx_cond, cdP_true, cdP_false, cdP_bool, sx_region, sx_draw, plainD, List.all_cons, List.all_nil, List.isEmpty_nil, sxo_nil, sxo_cons, sxo_guard, gdS_bool, gdS_eff, gdS_tup, gdS_sel, gdS_seleff, sxK_def, wcall_some, effP_ret, effP_set, effP_none, effP_ite, wop_call, sx_ret, sx_exit, sx_skip, sx_clr, stays, ↓selV_wt, ↓selV_wf, ↓impB_wt, ↓impB_wf, ↓selV_nor, ↓impB_nor, ↓selV_nt, ↓selV_nf, ↓impB_nt, ↓impB_nf, wantB_true, wantB_false, ↓selV_true, ↓selV_false, ↓selV_and, ↓impB_true, ↓impB_false, ↓impB_and, impB_triv, valOf_some, retH_some, ↓prim_pick, pickO_true, pickO_false, pickO_and, pickO_or, pickO_andr, pickO_orr, pickO_orrn, pickO_orn, pickO_bb, pickAnd_bool, pickOr_bool, ↓selV_nn, ↓impB_nn, Bool.and_assoc, Bool.or_assoc, doOp, ev_fr, ev_cst, put_none, put_fr, get, ins, del, dels, Nat.reduceLT, Nat.reduceEqDiff, ↓reduceIte, reduceCtorEq, ne_eq, not_false_eq_true, implies_true, framed_pureF, framed_fb, framed_N, framed_pure, wop_prim, prim, mkA, V.cells, List.getElem?_cons_zero, List.getElem?_cons_succ, List.set_cons_zero, List.set_cons_succ, Nat.zero_add, Nat.add_zero, Nat.reduceAdd, Nat.reduceSub, Nat.reduceMul, Nat.reduceLeDiff, Nat.not_lt_zero, List.map_cons, List.map_nil, List.cons_append, List.nil_append, loadA, cellsAt, nAg, packA, opt_bind_some, opt_map_some, opt_bind_none, opt_map_none, List.drop, List.take, List.head?, List.length_cons, List.length_nil, binA, unA, eqCells, eqCell, negB, fillA, setRange, storeA, Ob.with, indexedI, V.oneCell, intOf?, retQ_ret, retQ_norm, resA, resA1, fr_getD, packR, sealDepth, shut_bool, shut_int, Option.some.injEq, V.bool.injEq, V.int.injEq, Bool.not_true, Bool.not_false, true_and, and_true, and_self, Bool.and_true, Bool.and_false, Bool.true_and, Bool.false_and, Bool.or_true, Bool.or_false, Bool.true_or, Bool.false_or, Bool.false_eq_true, Int.reduceLT, Int.reduceLE, Int.reduceToNat, Int.reduceNeg, shut_plain, freeL_cons, freeL_nil, free_int, free_bool, free_agg, free_str, free_nils, free_tup, free_sl, true_implies, false_implies, Nat.le_refl, not_true_eq_false, Int.reduceAdd, Int.reduceSub, Int.reduceMul, wrap64, false_and, and_false, cond_true, cond_false, Bool.cond_true_left, Bool.cond_false_right, Int.reduceBNe, Int.reduceBEq, decide_true, decide_false, Int.cast_ofNat_Int, Nat.mul_one, eq_self, Bool.true_eq_false, Bool.not_eq_true, Bool.not_eq_false, deads, List.replicate, argsF, am4, c8, c1, c2, c3, c7]
  · rw [if_neg hx] at c2
    have hc1 : ∃ i j, (j = 0 ∨ j = 2) ∧ (if may5 a b c d e = true then V.tup [.int .i64 (endLog a d + 2 * b), .int .i64 0] else .tup [.int .i64 0, .int .i64 2]) = .tup [.int .i64 i, .int .i64 j] := by
      split
      · exact ⟨_, _, .inl rfl, rfl⟩
      · exact ⟨_, _, .inr rfl, rfl⟩
    have hc3 : ∃ i j, (j = 0 ∨ j = 2) ∧ (if may5 a b c d e = true ∧ (0 ≤ yn ∧ yn < a) ∧ 1 ≤ yl ∧ yl ≤ 2147483647 then V.tup [.int .i64 (recAt d yn yl), .int .i64 0] else .tup [.int .i64 0, .int .i64 2]) = .tup [.int .i64 i, .int .i64 j] := by
      split
      · exact ⟨_, _, .inl rfl, rfl⟩
      · exact ⟨_, _, .inr rfl, rfl⟩
    obtain ⟨i1, j1, hj1, e1⟩ := hc1
    obtain ⟨i3, j3, hj3, e3⟩ := hc3
    rw [e1] at c1
    rw [e3] at c3
    rcases hj1 with rfl | rfl <;> rcases hj3 with rfl | rfl <;> simp +contextual -implicitDefEqProofs (maxSteps := 10000000) only [sx_seq, sxL_succ, lpQ_norm, lpQ_exit, lpQ_ret, loopQ_norm, loopQ_exit, loopQ_ret, sqQ_norm, sqQ_ret, sqQ_exit, sx_block, blkQ_norm, blkQ_exit, blkQ_ret, sx_cond, cdP_true, cdP_false, cdP_bool, sx_region, sx_draw, plainD, List.all_cons, List.all_nil, List.isEmpty_nil, sxo_nil, sxo_cons, sxo_guard, gdS_bool, gdS_eff, gdS_tup, gdS_sel, gdS_seleff, sxK_def, wcall_some, effP_ret, effP_set, effP_none, effP_ite, wop_call, sx_ret, sx_exit, sx_skip, sx_clr, stays, ↓selV_wt, ↓selV_wf, ↓impB_wt, ↓impB_wf, ↓selV_nor, ↓impB_nor, ↓selV_nt, ↓selV_nf, ↓impB_nt, ↓impB_nf, wantB_true, wantB_false, ↓selV_true, ↓selV_false, ↓selV_and, ↓impB_true, ↓impB_false, ↓impB_and, impB_triv, valOf_some, retH_some, ↓prim_pick, pickO_true, pickO_false, pickO_and, pickO_or, pickO_andr, pickO_orr, pickO_orrn, pickO_orn, pickO_bb, pickAnd_bool, pickOr_bool, ↓selV_nn, ↓impB_nn, Bool.and_assoc, Bool.or_assoc, doOp, ev_fr, ev_cst, put_none, put_fr, get, ins, del, dels, Nat.reduceLT, Nat.reduceEqDiff, ↓reduceIte, reduceCtorEq, ne_eq, not_false_eq_true, implies_true, framed_pureF, framed_fb, framed_N, framed_pure, wop_prim, prim, mkA, V.cells, List.getElem?_cons_zero, List.getElem?_cons_succ, List.set_cons_zero, List.set_cons_succ, Nat.zero_add, Nat.add_zero, Nat.reduceAdd, Nat.reduceSub, Nat.reduceMul, Nat.reduceLeDiff, Nat.not_lt_zero, List.map_cons, List.map_nil, List.cons_append, List.nil_append, loadA, cellsAt, nAg, packA, opt_bind_some, opt_map_some, opt_bind_none, opt_map_none, List.drop, List.take, List.head?, List.length_cons, List.length_nil, binA, unA, eqCells, eqCell, negB, fillA, setRange, storeA, Ob.with, indexedI, V.oneCell, intOf?, retQ_ret, retQ_norm, resA, resA1, fr_getD, packR, sealDepth, shut_bool, shut_int, Option.some.injEq, V.bool.injEq, V.int.injEq, Bool.not_true, Bool.not_false, true_and, and_true, and_self, Bool.and_true, Bool.and_false, Bool.true_and, Bool.false_and, Bool.or_true, Bool.or_false, Bool.true_or, Bool.false_or, Bool.false_eq_true, Int.reduceLT, Int.reduceLE, Int.reduceToNat, Int.reduceNeg, shut_plain, freeL_cons, freeL_nil, free_int, free_bool, free_agg, free_str, free_nils, free_tup, free_sl, true_implies, false_implies, Nat.le_refl, not_true_eq_false, Int.reduceAdd, Int.reduceSub, Int.reduceMul, wrap64, false_and, and_false, cond_true, cond_false, Bool.cond_true_left, Bool.cond_false_right, Int.reduceBNe, Int.reduceBEq, decide_true, decide_false, Int.cast_ofNat_Int, Nat.mul_one, eq_self, Bool.true_eq_false, Bool.not_eq_true, Bool.not_eq_false, deads, List.replicate, argsF, am4, c8, c1, c2, c3, c7]

theorem ask_in' {u : V} (h : InP true askSh u) : ∃ x : Ask, u = x.v ∧ -9223372036854775808 ≤ x.page ∧ x.page ≤ 9223372036854775807 := by
  obtain ⟨cs, rfl, u1, v1, rfl, h1, u2, v2, rfl, h2, u3, v3, rfl, h3, u4, v4, rfl, h4, rfl⟩ := h
  obtain ⟨a, rfl, -⟩ := inInt h1
  obtain ⟨b, rfl, hb⟩ := inInt h2
  obtain ⟨c, rfl, -⟩ := inInt h3
  obtain ⟨d, rfl, -⟩ := inInt h4
  exact ⟨⟨a, b, c, d⟩, rfl, hb⟩

theorem runsAreaApart {u1 u2 u3 : V} (h1 : InP true jobSh u1) (h2 : InP true askSh u2) (h3 : InP true askSh u3) : ∃ N n, callA am N n 4 [u1, u2, u3] [] = some (.bool true, []) := by
  obtain ⟨a, b, c, d, e, rfl⟩ := job_in h1
  obtain ⟨x, rfl, hx⟩ := ask_in' h2
  obtain ⟨y, rfl, -⟩ := ask_in' h3
  exact ⟨2000, 30, apart_spec (by omega) (by omega) a b c d e x y hx []⟩
end Go.Am.T
