import Derived.Test.YthfpjffgagacmaaTg
set_option linter.unusedVariables false
set_option linter.unusedSimpArgs false
set_option maxRecDepth 10000
namespace Go.Am.T
attribute [local congr] selV_congr impB_congr

theorem atS_nil (x : Pl) : atS [] x = .tup [.int .i64 0, .int .i64 2] := rfl

theorem atS_pair (L : List Pl) (x : Pl) : ∃ i j, atS L x = .tup [.int .i64 i, .int .i64 j] := by
  unfold atS; split <;> exact ⟨_, _, rfl⟩

theorem lease_at (a b c d e x : Int) : (if may5 a b c d e = true ∧ 0 ≤ x ∧ x < 8 then V.tup [.int .i64 (1 + x), .int .i64 0] else .tup [.int .i64 0, .int .i64 2]) = atS (jobList a b c d e) ⟨2, x, 0, 0⟩ := by
  unfold jobList
  by_cases hm : may5 a b c d e = true
  · obtain ⟨h1, h2, h3, h4, h5, h6⟩ := may5_bounds hm
    obtain ⟨h7, h8⟩ := prod_bounds h1 h2 h5 h6
    rw [if_pos hm]
    by_cases hx : 0 ≤ x ∧ x < 8
    · rw [if_pos ⟨hm, hx⟩]
      refine (atS_of h1 h3 h5 (by omega) ?_).symm
      unfold ofS
      rw [if_neg (by omega), if_pos (by omega)]
      congr 2
      omega
    · rw [if_neg (fun h => hx h.2)]
      refine (atS_not h1 h3 h5 fun s hs h => hx ?_).symm
      unfold ofS at h
      split at h
      · cases h
      · split at h
        · cases h; omega
        · split at h
          · split at h <;> cases h
          · split at h <;> cases h
  · rw [if_neg hm, if_neg (fun h => hm h.1)]
    rfl

theorem div_lt {x n m : Int} (h0 : 0 ≤ x) (hm : 0 < m) (h : x < n * m) : 0 ≤ x.tdiv m ∧ x.tdiv m < n := by
  rw [Int.tdiv_eq_ediv_of_nonneg h0]
  exact ⟨Int.ediv_nonneg h0 (by omega), (Int.ediv_lt_iff_lt_mul hm).2 h⟩

theorem mul_lt {x n m : Int} (h : x < n) (hm : 0 < m) : x * m + m ≤ n * m := by
  have : (x + 1) * m ≤ n * m := Int.mul_le_mul_of_nonneg_right (by omega) (by omega)
  rw [Int.add_mul, Int.one_mul] at this
  exact this

theorem head_at (a b c d e x : Int) : (if may5 a b c d e = true ∧ 0 ≤ x ∧ x < a then V.tup [.int .i64 (9 + x * (1 + 2 * d)), .int .i64 0] else .tup [.int .i64 0, .int .i64 2]) = atS (jobList a b c d e) ⟨3, x, 0, 0⟩ := by
  unfold jobList
  by_cases hm : may5 a b c d e = true
  · obtain ⟨h1, h2, h3, h4, h5, h6⟩ := may5_bounds hm
    obtain ⟨h7, h8⟩ := prod_bounds h1 h2 h5 h6
    rw [if_pos hm]
    by_cases hx : 0 ≤ x ∧ x < a
    · rw [if_pos ⟨hm, hx⟩]
      have hn := Int.mul_nonneg hx.1 (show 0 ≤ 1 + 2 * d by omega)
      have hl := mul_lt hx.2 (show 0 < 1 + 2 * d by omega)
      refine (atS_of h1 h3 h5 (by omega) ?_).symm
      unfold ofS endLog
      rw [if_neg (by omega), if_neg (by omega), if_pos (by omega), show 9 + x * (1 + 2 * d) - 9 = x * (1 + 2 * d) by omega, Int.mul_tmod_left, if_pos rfl, Int.mul_tdiv_cancel _ (by omega)]
    · rw [if_neg (fun h => hx h.2)]
      refine (atS_not h1 h3 h5 fun s hs h => hx ?_).symm
      unfold ofS endLog at h
      split at h
      · cases h
      · split at h
        · cases h
        · split at h
          · split at h
            · cases h
              exact div_lt (by omega) (by omega) (by omega)
            · cases h
          · split at h <;> cases h
  · rw [if_neg hm, if_neg (fun h => hm h.1)]
    rfl

theorem page_at (a b c d e x : Int) : (if may5 a b c d e = true ∧ 0 ≤ x ∧ x < b then V.tup [.int .i64 (endLog a d + 2 * x), .int .i64 0] else .tup [.int .i64 0, .int .i64 2]) = atS (jobList a b c d e) ⟨5, 0, x, 0⟩ := by
  unfold jobList
  by_cases hm : may5 a b c d e = true
  · obtain ⟨h1, h2, h3, h4, h5, h6⟩ := may5_bounds hm
    obtain ⟨h7, h8⟩ := prod_bounds h1 h2 h5 h6
    rw [if_pos hm]
    by_cases hx : 0 ≤ x ∧ x < b
    · rw [if_pos ⟨hm, hx⟩]
      refine (atS_of h1 h3 h5 (by unfold endLog; omega) ?_).symm
      unfold ofS
      rw [if_neg (by unfold endLog; omega), if_neg (by unfold endLog; omega), if_neg (by omega), if_pos (by omega), show endLog a d + 2 * x - endLog a d = 2 * x by omega]
      rw [Int.mul_tmod_right, Int.mul_tdiv_cancel_left _ (by omega)]
    · rw [if_neg (fun h => hx h.2)]
      refine (atS_not h1 h3 h5 fun s hs h => hx ?_).symm
      unfold ofS at h
      split at h
      · cases h
      · split at h
        · cases h
        · split at h
          · split at h <;> cases h
          · split at h
            · simp only [Option.some.injEq, Pl.mk.injEq, true_and] at h
              have := tdiv_bounds (x := s - endLog a d) (y := 2) (by omega) (by omega)
              have := Int.mul_tdiv_add_tmod (s - endLog a d) 2
              have := tmod_bounds (x := s - endLog a d) (y := 2) (by omega) (by omega)
              omega
            · cases h
  · rw [if_neg hm, if_neg (fun h => hm h.1)]
    rfl

theorem record_at (a b c d e x s : Int) : (if may5 a b c d e = true ∧ (0 ≤ x ∧ x < a) ∧ 1 ≤ s ∧ s ≤ 2147483647 then V.tup [.int .i64 (recAt d x s), .int .i64 0] else .tup [.int .i64 0, .int .i64 2]) =
    (if may5 a b c d e = true ∧ 1 ≤ s ∧ s ≤ 2147483647 then atS (jobList a b c d e) ⟨4, x, (s - 1).tmod d, 0⟩ else .tup [.int .i64 0, .int .i64 2]) := by
  by_cases hm : may5 a b c d e = true ∧ 1 ≤ s ∧ s ≤ 2147483647
  · obtain ⟨hm, hs⟩ := hm
    obtain ⟨h1, h2, h3, h4, h5, h6⟩ := may5_bounds hm
    obtain ⟨h7, h8⟩ := prod_bounds h1 h2 h5 h6
    obtain ⟨h9, h10⟩ := mod_bounds hs.1 h5
    unfold jobList
    by_cases hx : 0 ≤ x ∧ x < a
    · rw [if_pos ⟨hm, hx, hs⟩, if_pos ⟨hm, hs⟩, if_pos hm]
      have hn := Int.mul_nonneg hx.1 (show 0 ≤ 1 + 2 * d by omega)
      have hl := mul_lt hx.2 (show 0 < 1 + 2 * d by omega)
      unfold recAt
      generalize (s - 1).tmod d = i at h9 h10 ⊢
      refine (atS_of h1 h3 h5 (by omega) ?_).symm
      have e0 : 9 + x * (1 + 2 * d) + 1 + 2 * i - 9 = x * (1 + 2 * d) + (1 + 2 * i) := by omega
      have e1 : (x * (1 + 2 * d) + (1 + 2 * i)).tmod (1 + 2 * d) = 1 + 2 * i := by
        rw [Int.tmod_eq_emod_of_nonneg (by omega), Int.mul_comm, Int.mul_add_emod_self_left, Int.emod_eq_of_lt (by omega) (by omega)]
      have e2 : (x * (1 + 2 * d) + (1 + 2 * i)).tdiv (1 + 2 * d) = x := by
        rw [Int.tdiv_eq_ediv_of_nonneg (by omega), Int.add_comm, Int.add_mul_ediv_right _ _ (by omega), Int.ediv_eq_zero_of_lt (by omega) (by omega), Int.zero_add]
      have e3 : 1 + 2 * i - 1 = 2 * i := by omega
      unfold ofS endLog
      rw [if_neg (by omega), if_neg (by omega), if_pos (by omega), e0, e1, e2, if_neg (by omega), e3, Int.mul_tmod_right, Int.mul_tdiv_cancel_left _ (by omega)]
    · rw [if_neg (fun h => hx h.2.1), if_pos ⟨hm, hs⟩, if_pos hm]
      refine (atS_not h1 h3 h5 fun s hs h => hx ?_).symm
      unfold ofS endLog at h
      split at h
      · cases h
      · split at h
        · cases h
        · split at h
          · split at h
            · cases h
            · simp only [Option.some.injEq, Pl.mk.injEq, true_and] at h
              rw [← h.1]
              exact div_lt (by omega) (by omega) (by omega)
          · split at h <;> cases h
  · rw [if_neg hm, if_neg (fun h => hm ⟨h.1, h.2.2⟩)]

set_option maxHeartbeats 4000000 in
theorem where_spec {N n : Nat} (hN : 2000 ≤ N) (hn : 5 ≤ n) (a b c d e x y z s : Int) (h : Heap) : callA am N n 17 [.agg [.int .i64 a, .int .i64 b, .int .i64 c, .int .i64 d, .int .i64 e], .agg [.int .i64 x, .int .i64 y, .int .i64 z, .int .i64 s]] h =
    some (.bool true, h) := by
  obtain ⟨n, rfl⟩ : ∃ m, n = m + 1 := ⟨n - 1, by omega⟩
  have c1 := @lease_spec N n (by omega) a b c d e x
  have c2 := @head_spec N n (by omega) a b c d e x
  have c3 := @record_spec N n (by omega) a b c d e x s
  have c4 := @page_spec N n (by omega) a b c d e y
  have c5 := @at_spec N n hN (by omega) a b c d e ⟨2, x, 0, 0⟩
  have c6 := @at_spec N n hN (by omega) a b c d e ⟨3, x, 0, 0⟩
  have c7 := @refRecord_spec N n hN (by omega) a b c d e x s
  have c8 := @at_spec N n hN (by omega) a b c d e ⟨5, 0, y, 0⟩
  have c9 := @num_spec N n (by omega)
  rw [lease_at] at c1
  rw [head_at] at c2
  rw [record_at] at c3
  rw [page_at] at c4
  obtain ⟨i1, j1, e1⟩ := atS_pair (jobList a b c d e) ⟨2, x, 0, 0⟩
  obtain ⟨i2, j2, e2⟩ := atS_pair (jobList a b c d e) ⟨3, x, 0, 0⟩
  obtain ⟨i4, j4, e4⟩ := atS_pair (jobList a b c d e) ⟨5, 0, y, 0⟩
  obtain ⟨i3, j3, e3⟩ : ∃ i j, (if may5 a b c d e = true ∧ 1 ≤ s ∧ s ≤ 2147483647 then atS (jobList a b c d e) ⟨4, x, (s - 1).tmod d, 0⟩ else .tup [.int .i64 0, .int .i64 2]) = .tup [.int .i64 i, .int .i64 j] := by
    split
    · exact atS_pair _ _
    · exact ⟨_, _, rfl⟩
  rw [e1] at c1 c5
  rw [e2] at c2 c6
  rw [e3] at c3 c7
  rw [e4] at c4 c8
  refine call_pure at17 rfl rfl (by decide) rfl (sx_wp ?_)
  simp +contextual -implicitDefEqProofs (maxSteps := 10000000) only [sx_seq, sxL_succ, lpQ_norm, lpQ_exit, lpQ_ret, loopQ_norm, loopQ_exit, loopQ_ret, sqQ_norm, sqQ_ret, sqQ_exit, sx_block, blkQ_norm, blkQ_exit, blkQ_ret, sx_cond, cdP_true, cdP_false, cdP_bool, sx_region, sx_draw, plainD, List.all_cons, List.all_nil, List.isEmpty_nil, List.isEmpty_cons, sxo_nil, sxo_cons, sxo_guard, gdS_bool, gdS_eff, gdS_tup, gdS_sel, gdS_seleff, sxK_def, wcall_some, effP_ret, effP_set, effP_none, effP_ite, wop_call, wop_cv, cvP_func, sx_ret, sx_exit, sx_skip, sx_clr, stays, ↓selV_wt, ↓selV_wf, ↓impB_wt, ↓impB_wf, ↓selV_nor, ↓impB_nor, ↓selV_nt, ↓selV_nf, ↓impB_nt, ↓impB_nf, wantB_true, wantB_false, ↓selV_true, ↓selV_false, ↓selV_and, ↓impB_true, ↓impB_false, ↓impB_and, impB_triv, valOf_some, retH_some, ↓prim_pick, pickO_true, pickO_false, pickO_and, pickO_or, pickO_andr, pickO_orr, pickO_orrn, pickO_orn, pickO_bb, pickAnd_bool, pickOr_bool, ↓selV_nn, ↓impB_nn, Bool.and_assoc, Bool.or_assoc, doOp, ev_fr, ev_cst, put_none, put_fr, get, ins, del, dels, Nat.reduceLT, Nat.reduceEqDiff, ↓reduceIte, reduceCtorEq, ne_eq, not_false_eq_true, implies_true, framed_pureF, framed_fb, framed_N, framed_pure, wop_prim, prim, YLD, mkA, V.cells, List.getElem?_cons_zero, List.getElem?_cons_succ, List.set_cons_zero, List.set_cons_succ, Nat.zero_add, Nat.add_zero, Nat.reduceAdd, Nat.reduceSub, Nat.reduceMul, Nat.reduceLeDiff, Nat.not_lt_zero, List.map_cons, List.map_nil, List.cons_append, List.nil_append, loadA, cellsAt, nAg, packA, opt_bind_some, opt_map_some, opt_bind_none, opt_map_none, List.drop, List.take, List.head?, List.length_cons, List.length_nil, binA, unA, eqCells, eqCell, negB, fillA, sr_nil, sr_cons, sr_succ, sr_all, sr_len, storeA, Ob.with, indexedI, V.oneCell, intOf?, retQ_ret, retQ_norm, resA, resA1, fr_getD, packR, sealDepth, shut_bool, shut_int, Option.some.injEq, V.bool.injEq, V.int.injEq, Bool.not_true, Bool.not_false, true_and, and_true, and_self, Bool.and_true, Bool.and_false, Bool.true_and, Bool.false_and, Bool.or_true, Bool.or_false, Bool.true_or, Bool.false_or, Bool.false_eq_true, Int.reduceLT, Int.reduceLE, Int.reduceToNat, Int.reduceNeg, shut_plain, freeL_cons, freeL_nil, free_int, free_bool, free_agg, free_str, free_nils, free_tup, free_sl, true_implies, false_implies, Nat.sub_zero, Int.natCast_nonneg, Int.toNat_natCast, Nat.le_refl, not_true_eq_false, Int.reduceAdd, Int.reduceSub, Int.reduceMul, wrap64, false_and, and_false, cond_true, cond_false, Bool.cond_true_left, Bool.cond_false_right, Int.reduceBNe, Int.reduceBEq, decide_true, decide_false, Int.cast_ofNat_Int, Nat.mul_one, eq_self, Bool.true_eq_false, Bool.not_eq_true, Bool.not_eq_false, deads, List.replicate, argsF, am17, c1, c2, c3, c4, c5, c6, c7, c8, c9, pm16, beq_self_eq_true]
end Go.Am.T
