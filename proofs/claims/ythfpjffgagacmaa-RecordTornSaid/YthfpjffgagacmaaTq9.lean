import Derived.Test.YthfpjffgagacmaaTq8
set_option linter.unusedVariables false
set_option linter.unusedSimpArgs false
set_option maxRecDepth 10000
namespace Go.Am.T
attribute [local congr] selV_congr impB_congr

theorem bytI_sum {e : Int} (h0 : 0 ≤ e) (h1 : e ≤ 2147483647) : ((bytI e 3 * 256 + bytI e 2) * 256 + bytI e 1) * 256 + bytI e 0 = e := by
  simp only [bytI, Int.reducePow, Int.ediv_one]
  omega

theorem bytI_in (e : Int) (k : Nat) : 0 ≤ bytI e k ∧ bytI e k ≤ 255 := by
  unfold bytI
  omega

theorem saidR_sec {r : Rec} (hr : r.Ok) (hm : mayR r = true) : saidR (secI r 0) (secI r 1) = r := by
  obtain ⟨b1, b2, b3, b4, b5, b6, b7, b8, b9, b10⟩ := mayR_bounds hm
  have h1 := hr.body
  have e1 : (secI r 0).getD 1 0 = 16 * r.node + r.page := rfl
  have e2 : num4 (secI r 0) 2 = ((bytI r.epoch 3 * 256 + bytI r.epoch 2) * 256 + bytI r.epoch 1) * 256 + bytI r.epoch 0 := rfl
  have e3 : num4 (secI r 0) 6 = ((bytI r.lsn 3 * 256 + bytI r.lsn 2) * 256 + bytI r.lsn 1) * 256 + bytI r.lsn 0 := rfl
  have e4 : num4 (secI r 0) 10 = ((bytI r.psn 3 * 256 + bytI r.psn 2) * 256 + bytI r.psn 1) * 256 + bytI r.psn 0 := rfl
  have e5 : (secI r 0).drop 14 = r.body.take 48 ++ [0, 0] := rfl
  have e6 : (secI r 1).drop 14 = (r.body.drop 48).take 48 ++ [0, 0] := rfl
  have e7 : ((secI r 0).drop 14).take 48 ++ ((secI r 1).drop 14).take 48 = r.body := by
    rw [e5, e6, List.take_left' (by simp [h1]), List.take_left' (by simp [h1]), List.take_of_length_le (l := r.body.drop 48) (by simp [h1]), List.take_append_drop]
  unfold saidR
  rw [e1, e2, e3, e4, e7, bytI_sum (by omega) b6, bytI_sum (by omega) b8, bytI_sum (by omega) b10, show (16 * r.node + r.page) / 16 = r.node by omega, show (16 * r.node + r.page) % 16 = r.page by omega]

theorem getR_sec {r : Rec} (hr : r.Ok) (hm : mayR r = true) : getR (secI r 0) (secI r 1) = some r := by
  unfold getR
  rw [saidR_sec hr hm, if_pos ⟨hm, rfl⟩]

theorem secI_bytes {r : Rec} (hr : r.In) (hm : mayR r = true) {i : Nat} (hi : i < 2) : Bytes (secI r i) := by
  obtain ⟨b1, b2, b3, b4, -⟩ := mayR_bounds hm
  intro x hx
  simp only [secI, List.mem_cons, List.mem_append, List.not_mem_nil, or_false] at hx
  rcases hx with rfl | rfl | rfl | rfl | rfl | rfl | rfl | rfl | rfl | rfl | rfl | rfl | rfl | rfl | hx | rfl | rfl
  · omega
  · omega
  all_goals first | exact bytI_in _ _ | decide | skip
  exact hr.bytes x (List.mem_of_mem_drop (List.mem_of_mem_take hx))

theorem hdI_bytes (a b : Int) : Bytes (hdI a b) := by
  have hz : ∀ n, Bytes (List.replicate n 0) := fun n x hx => by rw [List.eq_of_mem_replicate hx]; decide
  unfold hdI
  split
  · exact hz _
  · split
    · intro x hx
      simp only [List.mem_cons] at hx
      rcases hx with rfl | rfl | rfl | rfl | rfl | rfl | rfl | rfl | rfl | hx
      · decide
      all_goals first | exact bytI_in _ _ | skip
      exact hz _ x hx
    · exact hz _

theorem takeHd_put {a b : Int} (hm : mayHd a b = true) : takeHd (hdI a b) = some (a, b) := by
  cases he : (a == 1 && b == 0) with
  | true =>
    simp only [Bool.and_eq_true, beq_iff_eq] at he
    obtain ⟨rfl, rfl⟩ := he
    have e : hdI 1 0 = List.replicate 64 0 := rfl
    have e2 : num4 (List.replicate 64 0) 1 = 0 := rfl
    unfold takeHd
    rw [e, if_pos rfl, e2, if_pos ⟨hm, e⟩]
  | false =>
    obtain ⟨b1, b2, b3, b4⟩ := mayHd_bounds hm he
    have e : hdI a b = 179 :: bytI b 3 :: bytI b 2 :: bytI b 1 :: bytI b 0 :: bytI a 3 :: bytI a 2 :: bytI a 1 :: bytI a 0 :: List.replicate 55 0 := by
      unfold hdI
      rw [if_neg (by rw [he]; decide), if_pos hm]
    have e1 : num4 (hdI a b) 5 = a := by
      rw [e]
      exact bytI_sum (by omega) b4
    have e2 : num4 (hdI a b) 1 = b := by
      rw [e]
      exact bytI_sum (by omega) b2
    have e3 : ¬ hdI a b = List.replicate 64 0 := by
      intro h
      rw [e] at h
      have := congrArg (fun l => l.getD 0 0) h
      have h2 : (179 : Int) = 0 := this
      exact absurd h2 (by decide)
    unfold takeHd
    rw [if_neg e3, e1, e2, if_pos ⟨hm, rfl⟩]

theorem hdI_not {a b : Int} (hm : mayHd a b = false) : hdI a b = List.replicate 64 0 := by
  unfold hdI
  rw [if_neg (fun h => by simp [mayHd, h] at hm), if_neg (by rw [hm]; decide)]

theorem am9_is : am9.mode = .pure ∧ am9.nargs = 2 ∧ am9.nargs ≤ am9.nt := ⟨rfl, rfl, by decide⟩
theorem am9_wp {N n : Nat} {args : List V} {h : Heap} {v : V} (ha : args.length = 2) (hfree : V.freeL args = true)
    (H : sx ⟨pureOf am, callA am N n, N, 0⟩ am9.body (fr am9.nt (argsF 0 args)) (deads am9.sites) (retQ am9.res fun x h' => V.shut (fun o => h'[o]?) sealDepth x = some v)) : callA am N (n + 1) 9 args h = some (v, h) :=
  call_pure at9 am9_is.1 (ha.trans am9_is.2.1.symm) am9_is.2.2 hfree (sx_wp H)

set_option maxHeartbeats 2000000 in
theorem puts_spec {N n : Nat} (hN : 1000 ≤ N) (hn : 25 ≤ n) {r : Rec} (hi : r.In) (a b : Int) (h : Heap) :
    callA am N n 9 [.agg r.cs, .agg [.int .i64 a, .int .i64 b]] h = some (.bool true, h) := by
  obtain ⟨n, rfl⟩ : ∃ m, n = m + 1 := ⟨n - 1, by omega⟩
  have hr := hi.ok
  have c32 := @putHead_spec N n (by omega) a b
  have c34 := @mayHead_spec N n (by omega) a b
  have c31 := @num_spec N n (by omega)
  have c37 := @refMay_spec N n (by omega) _ hr
  have c25 := @known4_spec N n (by omega) (by omega)
  simp only [Rec.v] at c37
  have lR := Rec.len hr
  have tR : List.take 101 r.cs = r.cs := List.take_of_length_le (by omega)
  have uR := one_rec' r
  have fR : V.freeL r.cs = true := Rec.free r
  have qR := eqRec hr
  have lH : ((hdI a b).map (V.int .u8)).length = 64 := by simp [hdI_length]
  have tH : List.take 64 ((hdI a b).map (V.int .u8)) = (hdI a b).map (V.int .u8) := List.take_of_length_le (by omega)
  have oH := allOne_ints .u8 (hdI a b)
  refine am9_wp rfl (by simp [freeL_cons, freeL_nil, free_agg, fR, free_int]) ?_
  cases hm : mayHd a b with
  | false =>
    have qH : eqCells (List.replicate 64 (.i .u8)) ((hdI a b).map (V.int .u8)) (List.replicate 64 (.int .u8 0)) = some true := by
      have := eqCells_ints (k := .u8) (hdI_length a b) (show (List.replicate 64 (0 : Int)).length = 64 from rfl)
      rw [hdI_not hm, decide_eq_true rfl] at this
      rw [hdI_not hm]
      exact this
    simp only [List.replicate] at qH
    have eH : hdErr a b = 2 := by simp [hdErr, hm]
    rw [eH] at c32
    cases hmr : mayR r with
    | false =>
      have c30 := @putR_not N n (by omega) (by omega) _ hr hmr
      simp only [Rec.v] at c30
      simp +contextual -implicitDefEqProofs (maxSteps := 10000000) only [sx_seq, sxL_succ, lpQ_norm, lpQ_exit, lpQ_ret, loopQ_norm, loopQ_exit, loopQ_ret, sqQ_norm, sqQ_ret, sqQ_exit, sx_block, blkQ_norm, blkQ_exit, blkQ_ret, sx_cond, cdP_true, cdP_false, cdP_bool, sx_region, sx_draw, plainD, List.all_cons, List.all_nil, List.isEmpty_nil, List.isEmpty_cons, sxo_nil, sxo_cons, sxo_guard, gdS_bool, gdS_eff, gdS_tup, gdS_sel, gdS_seleff, sxK_def, wcall_some, effP_ret, effP_set, effP_none, effP_ite, wop_call, wop_cv, cvP_func, sx_ret, sx_exit, sx_skip, sx_clr, stays, ↓selV_wt, ↓selV_wf, ↓impB_wt, ↓impB_wf, ↓selV_nor, ↓impB_nor, ↓selV_nt, ↓selV_nf, ↓impB_nt, ↓impB_nf, wantB_true, wantB_false, ↓selV_true, ↓selV_false, ↓selV_and, ↓impB_true, ↓impB_false, ↓impB_and, impB_triv, valOf_some, retH_some, ↓prim_pick, pickO_true, pickO_false, pickO_and, pickO_or, pickO_andr, pickO_orr, pickO_orrn, pickO_orn, pickO_bb, pickAnd_bool, pickOr_bool, ↓selV_nn, ↓impB_nn, Bool.and_assoc, Bool.or_assoc, doOp, ev_fr, ev_cst, put_none, put_fr, get, ins, del, dels, Nat.reduceLT, Nat.reduceEqDiff, ↓reduceIte, reduceCtorEq, ne_eq, not_false_eq_true, implies_true, framed_pureF, framed_fb, framed_N, framed_pure, wop_prim, prim, mkA, V.cells, List.getElem?_cons_zero, List.getElem?_cons_succ, List.set_cons_zero, List.set_cons_succ, Nat.zero_add, Nat.add_zero, Nat.reduceAdd, Nat.reduceSub, Nat.reduceMul, Nat.reduceLeDiff, Nat.not_lt_zero, List.map_cons, List.map_nil, List.cons_append, List.nil_append, loadA, cellsAt, nAg, packA, opt_bind_some, opt_map_some, opt_bind_none, opt_map_none, List.drop, List.take, List.head?, List.length_cons, List.length_nil, binA, unA, eqCells, eqCell, negB, fillA, sr_nil, sr_cons, sr_succ, sr_all, sr_len, storeA, Ob.with, indexedI, V.oneCell, intOf?, retQ_ret, retQ_norm, resA, resA1, fr_getD, packR, sealDepth, shut_bool, shut_int, Option.some.injEq, V.bool.injEq, V.int.injEq, Bool.not_true, Bool.not_false, true_and, and_true, and_self, Bool.and_true, Bool.and_false, Bool.true_and, Bool.false_and, Bool.or_true, Bool.or_false, Bool.true_or, Bool.false_or, Bool.false_eq_true, Int.reduceLT, Int.reduceLE, Int.reduceToNat, Int.reduceNeg, shut_plain, freeL_cons, freeL_nil, free_int, free_bool, free_agg, free_str, free_nils, free_tup, free_sl, true_implies, false_implies, Nat.sub_zero, Int.natCast_nonneg, Int.toNat_natCast, Nat.le_refl, not_true_eq_false, Int.reduceAdd, Int.reduceSub, Int.reduceMul, wrap64, false_and, and_false, cond_true, cond_false, Bool.cond_true_left, Bool.cond_false_right, Int.reduceBNe, Int.reduceBEq, decide_true, decide_false, Int.cast_ofNat_Int, Nat.mul_one, eq_self, Bool.true_eq_false, Bool.not_eq_true, Bool.not_eq_false, deads, List.replicate, argsF, am9, sx_drawd, wpd_nil, wpd_cons, wdK_def, fpOf, fpV, fpCall, Fp.ok, disj, List.contains_cons, List.contains_nil, Nat.reduceBEq, List.all_append, V.objsL, V.objs,  List.getD_cons_zero, List.getD_cons_succ, List.append_nil, c30, c32, c34, hm, lR, tR, uR, lH, tH, oH, qH, c31, c37, hmr, c25, pm25, pm31, pm34, pm36, pm37, pm39, pm40, beq_self_eq_true, List.map_replicate]
    | true =>
      have c30 := @putR_spec N n (by omega) (by omega) _ hr hmr
      simp only [Rec.v, secR_eq, ← List.map_append] at c30
      have c38 := @get_spec N n (by omega) (by omega) (secI r 0) (secI r 1) (secI_length hr (by omega)) (secI_length hr (by omega)) (secI_bytes hi hmr (by omega)) (secI_bytes hi hmr (by omega))
      rw [getR_sec hr hmr] at c38
      simp only [secV, recErr, Rec.v] at c38
      have c39 : ∀ h, callA am N n 39 [.agg r.cs, .int .i64 0] h = some (.agg ((secI r 0).map (V.int .u8)), h) := halfI (by omega) (by omega) hr hmr (i := 0) (by omega)
      have c39' : ∀ h, callA am N n 39 [.agg r.cs, .int .i64 1] h = some (.agg ((secI r 1).map (V.int .u8)), h) := halfI (by omega) (by omega) hr hmr (i := 1) (by omega)
      have c40 := @whole_spec N n (by omega) (by omega) (secI r 0) (secI r 1) (secI_length hr (by omega)) (secI_length hr (by omega)) (secI_bytes hi hmr (by omega)) (secI_bytes hi hmr (by omega))
      rw [getR_sec hr hmr] at c40
      simp only [secV] at c40
      have l0 := secI_length hr (i := 0) (by omega)
      have l1 := secI_length hr (i := 1) (by omega)
      obtain ⟨W, hW⟩ : ∃ W, W = secI r 0 ++ secI r 1 := ⟨_, rfl⟩
      have lW : (W.map (V.int .u8)).length = 128 := by rw [hW]; simp [l0, l1]
      rw [← hW] at c30
      have oW := allOne_ints .u8 W
      have fW := freeL_ints .u8 W
      have tW : List.take 64 (W.map (V.int .u8)) = (secI r 0).map (V.int .u8) := by
        rw [hW, List.map_append]
        have := blk_take (B := (secI r 0).map (V.int .u8)) (n := 64) (by simp [l0]) ((secI r 1).map (V.int .u8)) 0
        simpa using this
      have dW : List.take 64 (List.drop 64 (W.map (V.int .u8))) = (secI r 1).map (V.int .u8) := by
        rw [hW, List.map_append]
        have := blk_drop (B := (secI r 0).map (V.int .u8)) (n := 64) (by simp [l0]) ((secI r 1).map (V.int .u8)) 0
        rw [Nat.zero_add] at this
        rw [this, List.drop_zero, List.take_of_length_le (by simp [l1])]
      have q0 := eq64 l0 l0
      have q1 := eq64 l1 l1
      rw [decide_eq_true rfl] at q0 q1
      simp +contextual -implicitDefEqProofs (maxSteps := 10000000) only [sx_seq, sxL_succ, lpQ_norm, lpQ_exit, lpQ_ret, loopQ_norm, loopQ_exit, loopQ_ret, sqQ_norm, sqQ_ret, sqQ_exit, sx_block, blkQ_norm, blkQ_exit, blkQ_ret, sx_cond, cdP_true, cdP_false, cdP_bool, sx_region, sx_draw, plainD, List.all_cons, List.all_nil, List.isEmpty_nil, List.isEmpty_cons, sxo_nil, sxo_cons, sxo_guard, gdS_bool, gdS_eff, gdS_tup, gdS_sel, gdS_seleff, sxK_def, wcall_some, effP_ret, effP_set, effP_none, effP_ite, wop_call, wop_cv, cvP_func, sx_ret, sx_exit, sx_skip, sx_clr, stays, ↓selV_wt, ↓selV_wf, ↓impB_wt, ↓impB_wf, ↓selV_nor, ↓impB_nor, ↓selV_nt, ↓selV_nf, ↓impB_nt, ↓impB_nf, wantB_true, wantB_false, ↓selV_true, ↓selV_false, ↓selV_and, ↓impB_true, ↓impB_false, ↓impB_and, impB_triv, valOf_some, retH_some, ↓prim_pick, pickO_true, pickO_false, pickO_and, pickO_or, pickO_andr, pickO_orr, pickO_orrn, pickO_orn, pickO_bb, pickAnd_bool, pickOr_bool, ↓selV_nn, ↓impB_nn, Bool.and_assoc, Bool.or_assoc, doOp, ev_fr, ev_cst, put_none, put_fr, get, ins, del, dels, Nat.reduceLT, Nat.reduceEqDiff, ↓reduceIte, reduceCtorEq, ne_eq, not_false_eq_true, implies_true, framed_pureF, framed_fb, framed_N, framed_pure, wop_prim, prim, mkA, V.cells, List.getElem?_cons_zero, List.getElem?_cons_succ, List.set_cons_zero, List.set_cons_succ, Nat.zero_add, Nat.add_zero, Nat.reduceAdd, Nat.reduceSub, Nat.reduceMul, Nat.reduceLeDiff, Nat.not_lt_zero, List.map_cons, List.map_nil, List.cons_append, List.nil_append, loadA, cellsAt, nAg, packA, opt_bind_some, opt_map_some, opt_bind_none, opt_map_none, List.drop, List.take, List.head?, List.length_cons, List.length_nil, binA, unA, eqCells, eqCell, negB, fillA, sr_nil, sr_cons, sr_succ, sr_all, sr_len, storeA, Ob.with, indexedI, V.oneCell, intOf?, retQ_ret, retQ_norm, resA, resA1, fr_getD, packR, sealDepth, shut_bool, shut_int, Option.some.injEq, V.bool.injEq, V.int.injEq, Bool.not_true, Bool.not_false, true_and, and_true, and_self, Bool.and_true, Bool.and_false, Bool.true_and, Bool.false_and, Bool.or_true, Bool.or_false, Bool.true_or, Bool.false_or, Bool.false_eq_true, Int.reduceLT, Int.reduceLE, Int.reduceToNat, Int.reduceNeg, shut_plain, freeL_cons, freeL_nil, free_int, free_bool, free_agg, free_str, free_nils, free_tup, free_sl, true_implies, false_implies, Nat.sub_zero, Int.natCast_nonneg, Int.toNat_natCast, Nat.le_refl, not_true_eq_false, Int.reduceAdd, Int.reduceSub, Int.reduceMul, wrap64, false_and, and_false, cond_true, cond_false, Bool.cond_true_left, Bool.cond_false_right, Int.reduceBNe, Int.reduceBEq, decide_true, decide_false, Int.cast_ofNat_Int, Nat.mul_one, eq_self, Bool.true_eq_false, Bool.not_eq_true, Bool.not_eq_false, deads, List.replicate, argsF, am9, sx_drawd, wpd_nil, wpd_cons, wdK_def, fpOf, fpV, fpCall, Fp.ok, disj, List.contains_cons, List.contains_nil, Nat.reduceBEq, List.all_append, V.objsL, V.objs,  List.getD_cons_zero, List.getD_cons_succ, List.append_nil, c30, c32, c34, hm, lR, tR, uR, lH, tH, oH, qH, c31, c37, hmr, c25, pm25, pm31, pm34, pm36, pm37, pm39, pm40, beq_self_eq_true, lW, oW, tW, dW, fW, c38, c39, c39', c40, q0, q1, qR, Int.reduceToNat, Option.isSome]
  | true =>
    have c35 := @takeHead_spec N n (by omega) (by omega) (hdI a b) (hdI_length a b) (hdI_bytes a b)
    rw [takeHd_put hm] at c35
    simp only [secV, hdErrV] at c35
    have c36 := @refPutHead_spec N n (by omega) (by omega) _ _ hm
    have qHH := eq64 (hdI_length a b) (hdI_length a b)
    rw [decide_eq_true rfl] at qHH
    have eH : hdErr a b = 0 := by simp [hdErr, hm]
    rw [eH] at c32
    cases hmr : mayR r with
    | false =>
      have c30 := @putR_not N n (by omega) (by omega) _ hr hmr
      simp only [Rec.v] at c30
      simp +contextual -implicitDefEqProofs (maxSteps := 10000000) only [sx_seq, sxL_succ, lpQ_norm, lpQ_exit, lpQ_ret, loopQ_norm, loopQ_exit, loopQ_ret, sqQ_norm, sqQ_ret, sqQ_exit, sx_block, blkQ_norm, blkQ_exit, blkQ_ret, sx_cond, cdP_true, cdP_false, cdP_bool, sx_region, sx_draw, plainD, List.all_cons, List.all_nil, List.isEmpty_nil, List.isEmpty_cons, sxo_nil, sxo_cons, sxo_guard, gdS_bool, gdS_eff, gdS_tup, gdS_sel, gdS_seleff, sxK_def, wcall_some, effP_ret, effP_set, effP_none, effP_ite, wop_call, wop_cv, cvP_func, sx_ret, sx_exit, sx_skip, sx_clr, stays, ↓selV_wt, ↓selV_wf, ↓impB_wt, ↓impB_wf, ↓selV_nor, ↓impB_nor, ↓selV_nt, ↓selV_nf, ↓impB_nt, ↓impB_nf, wantB_true, wantB_false, ↓selV_true, ↓selV_false, ↓selV_and, ↓impB_true, ↓impB_false, ↓impB_and, impB_triv, valOf_some, retH_some, ↓prim_pick, pickO_true, pickO_false, pickO_and, pickO_or, pickO_andr, pickO_orr, pickO_orrn, pickO_orn, pickO_bb, pickAnd_bool, pickOr_bool, ↓selV_nn, ↓impB_nn, Bool.and_assoc, Bool.or_assoc, doOp, ev_fr, ev_cst, put_none, put_fr, get, ins, del, dels, Nat.reduceLT, Nat.reduceEqDiff, ↓reduceIte, reduceCtorEq, ne_eq, not_false_eq_true, implies_true, framed_pureF, framed_fb, framed_N, framed_pure, wop_prim, prim, mkA, V.cells, List.getElem?_cons_zero, List.getElem?_cons_succ, List.set_cons_zero, List.set_cons_succ, Nat.zero_add, Nat.add_zero, Nat.reduceAdd, Nat.reduceSub, Nat.reduceMul, Nat.reduceLeDiff, Nat.not_lt_zero, List.map_cons, List.map_nil, List.cons_append, List.nil_append, loadA, cellsAt, nAg, packA, opt_bind_some, opt_map_some, opt_bind_none, opt_map_none, List.drop, List.take, List.head?, List.length_cons, List.length_nil, binA, unA, eqCells, eqCell, negB, fillA, sr_nil, sr_cons, sr_succ, sr_all, sr_len, storeA, Ob.with, indexedI, V.oneCell, intOf?, retQ_ret, retQ_norm, resA, resA1, fr_getD, packR, sealDepth, shut_bool, shut_int, Option.some.injEq, V.bool.injEq, V.int.injEq, Bool.not_true, Bool.not_false, true_and, and_true, and_self, Bool.and_true, Bool.and_false, Bool.true_and, Bool.false_and, Bool.or_true, Bool.or_false, Bool.true_or, Bool.false_or, Bool.false_eq_true, Int.reduceLT, Int.reduceLE, Int.reduceToNat, Int.reduceNeg, shut_plain, freeL_cons, freeL_nil, free_int, free_bool, free_agg, free_str, free_nils, free_tup, free_sl, true_implies, false_implies, Nat.sub_zero, Int.natCast_nonneg, Int.toNat_natCast, Nat.le_refl, not_true_eq_false, Int.reduceAdd, Int.reduceSub, Int.reduceMul, wrap64, false_and, and_false, cond_true, cond_false, Bool.cond_true_left, Bool.cond_false_right, Int.reduceBNe, Int.reduceBEq, decide_true, decide_false, Int.cast_ofNat_Int, Nat.mul_one, eq_self, Bool.true_eq_false, Bool.not_eq_true, Bool.not_eq_false, deads, List.replicate, argsF, am9, sx_drawd, wpd_nil, wpd_cons, wdK_def, fpOf, fpV, fpCall, Fp.ok, disj, List.contains_cons, List.contains_nil, Nat.reduceBEq, List.all_append, V.objsL, V.objs,  List.getD_cons_zero, List.getD_cons_succ, List.append_nil, c30, c32, c34, hm, lR, tR, uR, lH, tH, oH, c35, c36, qHH, c31, c37, hmr, c25, pm25, pm31, pm34, pm36, pm37, pm39, pm40, beq_self_eq_true, List.map_replicate]
    | true =>
      have c30 := @putR_spec N n (by omega) (by omega) _ hr hmr
      simp only [Rec.v, secR_eq, ← List.map_append] at c30
      have c38 := @get_spec N n (by omega) (by omega) (secI r 0) (secI r 1) (secI_length hr (by omega)) (secI_length hr (by omega)) (secI_bytes hi hmr (by omega)) (secI_bytes hi hmr (by omega))
      rw [getR_sec hr hmr] at c38
      simp only [secV, recErr, Rec.v] at c38
      have c39 : ∀ h, callA am N n 39 [.agg r.cs, .int .i64 0] h = some (.agg ((secI r 0).map (V.int .u8)), h) := halfI (by omega) (by omega) hr hmr (i := 0) (by omega)
      have c39' : ∀ h, callA am N n 39 [.agg r.cs, .int .i64 1] h = some (.agg ((secI r 1).map (V.int .u8)), h) := halfI (by omega) (by omega) hr hmr (i := 1) (by omega)
      have c40 := @whole_spec N n (by omega) (by omega) (secI r 0) (secI r 1) (secI_length hr (by omega)) (secI_length hr (by omega)) (secI_bytes hi hmr (by omega)) (secI_bytes hi hmr (by omega))
      rw [getR_sec hr hmr] at c40
      simp only [secV] at c40
      have l0 := secI_length hr (i := 0) (by omega)
      have l1 := secI_length hr (i := 1) (by omega)
      obtain ⟨W, hW⟩ : ∃ W, W = secI r 0 ++ secI r 1 := ⟨_, rfl⟩
      have lW : (W.map (V.int .u8)).length = 128 := by rw [hW]; simp [l0, l1]
      rw [← hW] at c30
      have oW := allOne_ints .u8 W
      have fW := freeL_ints .u8 W
      have tW : List.take 64 (W.map (V.int .u8)) = (secI r 0).map (V.int .u8) := by
        rw [hW, List.map_append]
        have := blk_take (B := (secI r 0).map (V.int .u8)) (n := 64) (by simp [l0]) ((secI r 1).map (V.int .u8)) 0
        simpa using this
      have dW : List.take 64 (List.drop 64 (W.map (V.int .u8))) = (secI r 1).map (V.int .u8) := by
        rw [hW, List.map_append]
        have := blk_drop (B := (secI r 0).map (V.int .u8)) (n := 64) (by simp [l0]) ((secI r 1).map (V.int .u8)) 0
        rw [Nat.zero_add] at this
        rw [this, List.drop_zero, List.take_of_length_le (by simp [l1])]
      have q0 := eq64 l0 l0
      have q1 := eq64 l1 l1
      rw [decide_eq_true rfl] at q0 q1
      simp +contextual -implicitDefEqProofs (maxSteps := 10000000) only [sx_seq, sxL_succ, lpQ_norm, lpQ_exit, lpQ_ret, loopQ_norm, loopQ_exit, loopQ_ret, sqQ_norm, sqQ_ret, sqQ_exit, sx_block, blkQ_norm, blkQ_exit, blkQ_ret, sx_cond, cdP_true, cdP_false, cdP_bool, sx_region, sx_draw, plainD, List.all_cons, List.all_nil, List.isEmpty_nil, List.isEmpty_cons, sxo_nil, sxo_cons, sxo_guard, gdS_bool, gdS_eff, gdS_tup, gdS_sel, gdS_seleff, sxK_def, wcall_some, effP_ret, effP_set, effP_none, effP_ite, wop_call, wop_cv, cvP_func, sx_ret, sx_exit, sx_skip, sx_clr, stays, ↓selV_wt, ↓selV_wf, ↓impB_wt, ↓impB_wf, ↓selV_nor, ↓impB_nor, ↓selV_nt, ↓selV_nf, ↓impB_nt, ↓impB_nf, wantB_true, wantB_false, ↓selV_true, ↓selV_false, ↓selV_and, ↓impB_true, ↓impB_false, ↓impB_and, impB_triv, valOf_some, retH_some, ↓prim_pick, pickO_true, pickO_false, pickO_and, pickO_or, pickO_andr, pickO_orr, pickO_orrn, pickO_orn, pickO_bb, pickAnd_bool, pickOr_bool, ↓selV_nn, ↓impB_nn, Bool.and_assoc, Bool.or_assoc, doOp, ev_fr, ev_cst, put_none, put_fr, get, ins, del, dels, Nat.reduceLT, Nat.reduceEqDiff, ↓reduceIte, reduceCtorEq, ne_eq, not_false_eq_true, implies_true, framed_pureF, framed_fb, framed_N, framed_pure, wop_prim, prim, mkA, V.cells, List.getElem?_cons_zero, List.getElem?_cons_succ, List.set_cons_zero, List.set_cons_succ, Nat.zero_add, Nat.add_zero, Nat.reduceAdd, Nat.reduceSub, Nat.reduceMul, Nat.reduceLeDiff, Nat.not_lt_zero, List.map_cons, List.map_nil, List.cons_append, List.nil_append, loadA, cellsAt, nAg, packA, opt_bind_some, opt_map_some, opt_bind_none, opt_map_none, List.drop, List.take, List.head?, List.length_cons, List.length_nil, binA, unA, eqCells, eqCell, negB, fillA, sr_nil, sr_cons, sr_succ, sr_all, sr_len, storeA, Ob.with, indexedI, V.oneCell, intOf?, retQ_ret, retQ_norm, resA, resA1, fr_getD, packR, sealDepth, shut_bool, shut_int, Option.some.injEq, V.bool.injEq, V.int.injEq, Bool.not_true, Bool.not_false, true_and, and_true, and_self, Bool.and_true, Bool.and_false, Bool.true_and, Bool.false_and, Bool.or_true, Bool.or_false, Bool.true_or, Bool.false_or, Bool.false_eq_true, Int.reduceLT, Int.reduceLE, Int.reduceToNat, Int.reduceNeg, shut_plain, freeL_cons, freeL_nil, free_int, free_bool, free_agg, free_str, free_nils, free_tup, free_sl, true_implies, false_implies, Nat.sub_zero, Int.natCast_nonneg, Int.toNat_natCast, Nat.le_refl, not_true_eq_false, Int.reduceAdd, Int.reduceSub, Int.reduceMul, wrap64, false_and, and_false, cond_true, cond_false, Bool.cond_true_left, Bool.cond_false_right, Int.reduceBNe, Int.reduceBEq, decide_true, decide_false, Int.cast_ofNat_Int, Nat.mul_one, eq_self, Bool.true_eq_false, Bool.not_eq_true, Bool.not_eq_false, deads, List.replicate, argsF, am9, sx_drawd, wpd_nil, wpd_cons, wdK_def, fpOf, fpV, fpCall, Fp.ok, disj, List.contains_cons, List.contains_nil, Nat.reduceBEq, List.all_append, V.objsL, V.objs,  List.getD_cons_zero, List.getD_cons_succ, List.append_nil, c30, c32, c34, hm, lR, tR, uR, lH, tH, oH, c35, c36, qHH, c31, c37, hmr, c25, pm25, pm31, pm34, pm36, pm37, pm39, pm40, beq_self_eq_true, lW, oW, tW, dW, fW, c38, c39, c39', c40, q0, q1, qR, Int.reduceToNat, Option.isSome]

def headSh : Sh := .pair (.int .i64) (.pair (.int .i64) .unit)

theorem head_in {u : List V} (h : InSh headSh u) : ∃ a b : Int, u = [.int .i64 a, .int .i64 b] := by
  obtain ⟨u1, v1, rfl, h1, u2, v2, rfl, h2, rfl⟩ := h
  obtain ⟨a, rfl, ha⟩ := in_i64 h1
  obtain ⟨b, rfl, hb⟩ := in_i64 h2
  exact ⟨a, b, rfl⟩

theorem runsRecordPuts {u1 u2 : V} (h1 : InP true recSh u1) (h2 : InP true headSh u2) : ∃ N n, callA am N n 9 [u1, u2] [] = some (.bool true, []) := by
  obtain ⟨cs, rfl, h⟩ := h1
  obtain ⟨r, rfl, hr⟩ := rec_in h
  obtain ⟨ds, rfl, hd⟩ := h2
  obtain ⟨a, b, rfl⟩ := head_in hd
  exact ⟨1000, 30, puts_spec (by omega) (by omega) hr a b []⟩
end Go.Am.T
