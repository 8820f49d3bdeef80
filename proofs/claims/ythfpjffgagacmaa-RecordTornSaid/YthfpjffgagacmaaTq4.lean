import Derived.Test.YthfpjffgagacmaaTq1
set_option linter.unusedVariables false
set_option linter.unusedSimpArgs false
set_option maxRecDepth 10000
namespace Go.Am.T
attribute [local congr] selV_congr impB_congr

set_option maxHeartbeats 1000000 in
theorem refMay_spec {N n : Nat} (hn : 1 ≤ n) {r : Rec} (hr : r.Ok) (h : Heap) : callA am N n 37 [r.v] h = some (.bool (mayR r), h) := by
  obtain ⟨n, rfl⟩ : ∃ m, n = m + 1 := ⟨n - 1, by omega⟩
  refine call_pure at37 rfl rfl (by decide) (by simp [freeL_cons, freeL_nil, Rec.free]) (sx_wp ?_)
  have h1 := hr.body
  have e : (decide (r.node ≥ 0) && (decide (r.node < 8) && (decide (r.epoch ≥ 1) && (decide (r.epoch ≤ 2147483647) && (decide (r.lsn ≥ 1) && (decide (r.lsn ≤ 2147483647) && (decide (r.page ≥ 0) && (decide (r.page < 16) && (decide (r.psn ≥ 1) && decide (r.psn ≤ 2147483647)))))))))) = mayR r := by
    rw [Bool.eq_iff_iff]
    simp only [mayR, Bool.and_eq_true, decide_eq_true_eq]
    omega
  rw [← e]
  simp +contextual -implicitDefEqProofs (maxSteps := 10000000) only [sx_seq, sxL_succ, lpQ_norm, lpQ_exit, lpQ_ret, loopQ_norm, loopQ_exit, loopQ_ret, sqQ_norm, sqQ_ret, sqQ_exit, sx_block, blkQ_norm, blkQ_exit, blkQ_ret, sx_cond, cdP_true, cdP_false, cdP_bool, sx_region, sx_draw, plainD, List.all_cons, List.all_nil, List.isEmpty_nil, List.isEmpty_cons, sxo_nil, sxo_cons, sxo_guard, gdS_bool, gdS_eff, gdS_tup, gdS_sel, gdS_seleff, sxK_def, wcall_some, effP_ret, effP_set, effP_none, effP_ite, wop_call, wop_cv, cvP_func, sx_ret, sx_exit, sx_skip, sx_clr, stays, ↓selV_wt, ↓selV_wf, ↓impB_wt, ↓impB_wf, ↓selV_nor, ↓impB_nor, ↓selV_nt, ↓selV_nf, ↓impB_nt, ↓impB_nf, wantB_true, wantB_false, ↓selV_true, ↓selV_false, ↓selV_and, ↓impB_true, ↓impB_false, ↓impB_and, impB_triv, valOf_some, retH_some, ↓prim_pick, pickO_true, pickO_false, pickO_and, pickO_or, pickO_andr, pickO_orr, pickO_orrn, pickO_orn, pickO_bb, pickAnd_bool, pickOr_bool, ↓selV_nn, ↓impB_nn, Bool.and_assoc, Bool.or_assoc, doOp, ev_fr, ev_cst, put_none, put_fr, get, ins, del, dels, Nat.reduceLT, Nat.reduceEqDiff, ↓reduceIte, reduceCtorEq, ne_eq, not_false_eq_true, implies_true, framed_pureF, framed_fb, framed_N, framed_pure, wop_prim, prim, mkA, V.cells, List.getElem?_cons_zero, List.getElem?_cons_succ, List.set_cons_zero, List.set_cons_succ, Nat.zero_add, Nat.add_zero, Nat.reduceAdd, Nat.reduceSub, Nat.reduceMul, Nat.reduceLeDiff, Nat.not_lt_zero, List.map_cons, List.map_nil, List.cons_append, List.nil_append, loadA, cellsAt, nAg, packA, opt_bind_some, opt_map_some, opt_bind_none, opt_map_none, List.drop, List.take, List.head?, List.length_cons, List.length_nil, binA, unA, eqCells, eqCell, negB, fillA, sr_nil, sr_cons, sr_succ, sr_all, sr_len, storeA, Ob.with, indexedI, V.oneCell, intOf?, retQ_ret, retQ_norm, resA, resA1, fr_getD, packR, sealDepth, shut_bool, shut_int, Option.some.injEq, V.bool.injEq, V.int.injEq, Bool.not_true, Bool.not_false, true_and, and_true, and_self, Bool.and_true, Bool.and_false, Bool.true_and, Bool.false_and, Bool.or_true, Bool.or_false, Bool.true_or, Bool.false_or, Bool.false_eq_true, Int.reduceLT, Int.reduceLE, Int.reduceToNat, Int.reduceNeg, shut_plain, freeL_cons, freeL_nil, free_int, free_bool, free_agg, free_str, free_nils, free_tup, free_sl, true_implies, false_implies, Nat.sub_zero, Int.natCast_nonneg, Int.toNat_natCast, Nat.le_refl, not_true_eq_false, Int.reduceAdd, Int.reduceSub, Int.reduceMul, wrap64, false_and, and_false, cond_true, cond_false, Bool.cond_true_left, Bool.cond_false_right, Int.reduceBNe, Int.reduceBEq, decide_true, decide_false, Int.cast_ofNat_Int, Nat.mul_one, eq_self, Bool.true_eq_false, Bool.not_eq_true, Bool.not_eq_false, deads, List.replicate, argsF, am37, Rec.v, Rec.cs, List.length_map, h1]

/-! ### The reference's sectors -/

def halfC (H X : List V) (j : Nat) : List V := H ++ (X.take j ++ List.replicate (50 - j) (.int .u8 0))

theorem halfC_length {H X : List V} {j : Nat} (hH : H.length = 14) (hX : X.length = 48) (hj : j ≤ 48) : (halfC H X j).length = 64 := by
  simp [halfC, hH, hX]; omega

theorem halfC_set {H X : List V} {j : Nat} {x : V} (hH : H.length = 14) (hX : X.length = 48) (hj : j < 48) (hx : X[j]? = some x) : setRange (halfC H X j) (14 + j) [x] = halfC H X (j + 1) := by
  have h1 : 50 - j = (50 - (j + 1)) + 1 := by omega
  have h2 : X.take (j + 1) = X.take j ++ [x] := by rw [List.take_add_one, hx]; rfl
  unfold halfC
  rw [show 14 + j = j + 14 by omega, blk_set hH, h2, List.append_assoc]
  congr 1
  have h3 : (X.take j).length = j := by simp [hX]; omega
  have := blk_set h3 (List.replicate (50 - j) (V.int .u8 0)) 0 [x]
  rw [Nat.zero_add] at this
  rw [this, h1, List.replicate_succ, sr_cons, sr_nil]
  rfl

theorem tag8 {x y : Int} (h0 : 0 ≤ x) (h1 : x ≤ 7) (h2 : 0 ≤ y) (h3 : y ≤ 15) : IntKind.u8.wrap (IntKind.i64.wrap (IntKind.i64.wrap (16 * x) + y)) = 16 * x + y := by
  rw [wrap64 (n := 16 * x) (by omega) (by omega), wrap64 (by omega) (by omega), wrap8 (by omega) (by omega)]

theorem am39_is : am39.mode = .pure ∧ am39.nargs = 2 ∧ am39.nargs ≤ am39.nt := ⟨rfl, rfl, by decide⟩
theorem am39_wp {N n : Nat} {args : List V} {h : Heap} {v : V} (ha : args.length = 2) (hfree : V.freeL args = true)
    (H : sx ⟨pureOf am, callA am N n, N, 0⟩ am39.body (fr am39.nt (argsF 0 args)) (deads am39.sites) (retQ am39.res fun x h' => V.shut (fun o => h'[o]?) sealDepth x = some v)) : callA am N (n + 1) 39 args h = some (v, h) :=
  call_pure at39 am39_is.1 (ha.trans am39_is.2.1.symm) am39_is.2.2 hfree (sx_wp H)

set_option maxHeartbeats 1000000 in
theorem half_spec' {N n : Nat} (hN : 60 ≤ N) (hn : 2 ≤ n) {r : Rec} (hr : r.Ok) (hm : mayR r = true) {i : Nat} (hi : i < 2) {x : Int} (hx : x = (i : Int)) (h : Heap) : callA am N n 39 [r.v, .int .i64 x] h = some (.agg (secR r i), h) := by
  obtain ⟨n, rfl⟩ : ∃ m, n = m + 1 := ⟨n - 1, by omega⟩
  have c1 := @four_F N n (by omega) (by omega)
  obtain ⟨b1, b2, b3, b4, b5, b6, b7, b8, b9, b10⟩ := mayR_bounds hm
  have h1 := hr.body
  refine am39_wp rfl (by simp [freeL_cons, freeL_nil, Rec.free, free_int]) ?_
  have t1 : IntKind.u8.wrap (IntKind.i64.wrap (177 + x)) = 177 + x := by rw [wrap64 (by omega) (by omega), wrap8 (by omega) (by omega)]
  have t2 := tag8 b1 b2 b3 b4
  have e1 : 0 ≤ r.epoch := by omega
  have e2 : r.epoch ≤ 9223372036854775807 := by omega
  have e3 : 0 ≤ r.lsn := by omega
  have e4 : r.lsn ≤ 9223372036854775807 := by omega
  have e5 : 0 ≤ r.psn := by omega
  have e6 : r.psn ≤ 9223372036854775807 := by omega
  have m1 : IntKind.i64.wrap (48 * x) = ((48 * i : Nat) : Int) := (wrap64 (by omega) (by omega)).trans (by omega)
  simp +contextual -implicitDefEqProofs (maxSteps := 10000000) only [sx_seq, sxL_succ, lpQ_norm, lpQ_exit, lpQ_ret, loopQ_norm, loopQ_exit, loopQ_ret, sqQ_norm, sqQ_ret, sqQ_exit, sx_block, blkQ_norm, blkQ_exit, blkQ_ret, sx_cond, cdP_true, cdP_false, cdP_bool, sx_region, sx_draw, plainD, List.all_cons, List.all_nil, List.isEmpty_nil, List.isEmpty_cons, sxo_nil, sxo_cons, sxo_guard, gdS_bool, gdS_eff, gdS_tup, gdS_sel, gdS_seleff, sxK_def, wcall_some, effP_ret, effP_set, effP_none, effP_ite, wop_call, wop_cv, cvP_func, sx_ret, sx_exit, sx_skip, sx_clr, stays, ↓selV_wt, ↓selV_wf, ↓impB_wt, ↓impB_wf, ↓selV_nor, ↓impB_nor, ↓selV_nt, ↓selV_nf, ↓impB_nt, ↓impB_nf, wantB_true, wantB_false, ↓selV_true, ↓selV_false, ↓selV_and, ↓impB_true, ↓impB_false, ↓impB_and, impB_triv, valOf_some, retH_some, ↓prim_pick, pickO_true, pickO_false, pickO_and, pickO_or, pickO_andr, pickO_orr, pickO_orrn, pickO_orn, pickO_bb, pickAnd_bool, pickOr_bool, ↓selV_nn, ↓impB_nn, Bool.and_assoc, Bool.or_assoc, doOp, ev_fr, ev_cst, put_none, put_fr, get, ins, del, dels, Nat.reduceLT, Nat.reduceEqDiff, ↓reduceIte, reduceCtorEq, ne_eq, not_false_eq_true, implies_true, framed_pureF, framed_fb, framed_N, framed_pure, wop_prim, prim, mkA, V.cells, List.getElem?_cons_zero, List.getElem?_cons_succ, List.set_cons_zero, List.set_cons_succ, Nat.zero_add, Nat.add_zero, Nat.reduceAdd, Nat.reduceSub, Nat.reduceMul, Nat.reduceLeDiff, Nat.not_lt_zero, List.map_cons, List.map_nil, List.cons_append, List.nil_append, loadA, cellsAt, nAg, packA, opt_bind_some, opt_map_some, opt_bind_none, opt_map_none, List.drop, List.take, List.head?, List.length_cons, List.length_nil, binA, unA, eqCells, eqCell, negB, fillA, sr_nil, sr_cons, sr_succ, sr_all, sr_len, storeA, Ob.with, indexedI, V.oneCell, intOf?, retQ_ret, retQ_norm, resA, resA1, fr_getD, packR, sealDepth, shut_bool, shut_int, Option.some.injEq, V.bool.injEq, V.int.injEq, Bool.not_true, Bool.not_false, true_and, and_true, and_self, Bool.and_true, Bool.and_false, Bool.true_and, Bool.false_and, Bool.or_true, Bool.or_false, Bool.true_or, Bool.false_or, Bool.false_eq_true, Int.reduceLT, Int.reduceLE, Int.reduceToNat, Int.reduceNeg, shut_plain, freeL_cons, freeL_nil, free_int, free_bool, free_agg, free_str, free_nils, free_tup, free_sl, true_implies, false_implies, Nat.sub_zero, Int.natCast_nonneg, Int.toNat_natCast, Nat.le_refl, not_true_eq_false, Int.reduceAdd, Int.reduceSub, Int.reduceMul, wrap64, false_and, and_false, cond_true, cond_false, Bool.cond_true_left, Bool.cond_false_right, Int.reduceBNe, Int.reduceBEq, decide_true, decide_false, Int.cast_ofNat_Int, Nat.mul_one, eq_self, Bool.true_eq_false, Bool.not_eq_true, Bool.not_eq_false, deads, List.replicate, argsF, am39, Rec.v, Rec.cs, List.length_map, h1, t1, t2, c1, fourF, put4r, byt, e1, e2, e3, e4, e5, e6, Int.reduceToNat, Option.isSome]
  obtain ⟨H, hH⟩ : ∃ H, H = [V.int IntKind.u8 (177 + x), V.int IntKind.u8 (16 * r.node + r.page), V.int IntKind.u8 (r.epoch / 256 ^ 3 % 256), V.int IntKind.u8 (r.epoch / 256 ^ 2 % 256),
      V.int IntKind.u8 (r.epoch / 256 ^ 1 % 256), V.int IntKind.u8 (r.epoch / 256 ^ 0 % 256), V.int IntKind.u8 (r.lsn / 256 ^ 3 % 256), V.int IntKind.u8 (r.lsn / 256 ^ 2 % 256),
      V.int IntKind.u8 (r.lsn / 256 ^ 1 % 256), V.int IntKind.u8 (r.lsn / 256 ^ 0 % 256), V.int IntKind.u8 (r.psn / 256 ^ 3 % 256), V.int IntKind.u8 (r.psn / 256 ^ 2 % 256),
      V.int IntKind.u8 (r.psn / 256 ^ 1 % 256), V.int IntKind.u8 (r.psn / 256 ^ 0 % 256)] := ⟨_, rfl⟩
  obtain ⟨X, hX⟩ : ∃ X, X = ((r.body.drop (48 * i)).take 48).map (V.int .u8) := ⟨_, rfl⟩
  have lH : H.length = 14 := by rw [hH]; rfl
  have lX : X.length = 48 := by rw [hX]; simp [h1]; omega
  have oH : H.all V.oneCell = true := by rw [hH]; rfl
  have oX : X.all V.oneCell = true := by rw [hX]; exact allOne_ints _ _
  have fH : V.freeL H = true := by rw [hH]; rfl
  have fX : V.freeL X = true := by rw [hX]; exact freeL_ints _ _
  refine sx_loop (fun j t h => t = fr 43 [(1, .int .i64 x), (2, .ptr 0 1 0), (4, .ptr 1 1 0), (5, .ptr 2 1 0), (6, .int .i64 (j : Nat))] ∧ j ≤ 48 ∧ h = [⟨1, .var r.cs⟩, ⟨1, .var (List.replicate 64 (.int .u8 0))⟩, ⟨1, .var (halfC H X j)⟩]) 48 (by show 48 < N; omega) ⟨rfl, by omega, by rw [hH]; rfl⟩ ?_
  rintro j t h hj ⟨rfl, hj8, rfl⟩
  by_cases hlt : j < 48
  · have d1 : decide ((j : Int) < 48) = true := decide_eq_true (by omega)
    have w14 : IntKind.i64.wrap (14 + (j : Int)) = ((14 + j : Nat) : Int) := (wrap64 (by omega) (by omega)).trans (by omega)
    have wi : IntKind.i64.wrap (((48 * i : Nat) : Int) + (j : Int)) = ((48 * i + j : Nat) : Int) := (wrap64 (by omega) (by omega)).trans (by omega)
    have w1 : IntKind.i64.wrap ((j : Int) + 1) = ((j + 1 : Nat) : Int) := (wrap64 (by omega) (by omega)).trans (by omega)
    have i1 : ((48 * i + j : Nat) : Int) < 96 := by omega
    have i2 : ((14 + j : Nat) : Int) < 64 := by omega
    have k1 : 5 + (48 * i + j) + 1 ≤ 101 := by omega
    have k2 : 14 + j + 1 ≤ 64 := by omega
    have rd : List.take 1 (List.drop (5 + (48 * i + j)) r.cs) = [.int .u8 (r.body.getD (48 * i + j) 0)] := by
      rw [show 5 + (48 * i + j) = (48 * i + j) + 5 by omega]
      exact ints_at .u8 (l := r.body) (i := 48 * i + j) (by omega)
    have hx : X[j]? = some (.int .u8 (r.body.getD (48 * i + j) 0)) := by
      rw [hX, List.getElem?_map, List.getElem?_take_of_lt hlt, List.getElem?_drop, List.getElem?_eq_getElem (by omega)]
      simp [List.getD_eq_getElem?_getD, show 48 * i + j < r.body.length by omega]
    have hs := halfC_set lH lX hlt hx
    have hl := halfC_length (H := H) (X := X) (j := j) lH lX (by omega)
    have hcl := Rec.len hr
    have hj1 : j + 1 ≤ 48 := by omega
    simp +contextual -implicitDefEqProofs (maxSteps := 10000000) only [sx_seq, sxL_succ, lpQ_norm, lpQ_exit, lpQ_ret, loopQ_norm, loopQ_exit, loopQ_ret, sqQ_norm, sqQ_ret, sqQ_exit, sx_block, blkQ_norm, blkQ_exit, blkQ_ret, sx_cond, cdP_true, cdP_false, cdP_bool, sx_region, sx_draw, plainD, List.all_cons, List.all_nil, List.isEmpty_nil, List.isEmpty_cons, sxo_nil, sxo_cons, sxo_guard, gdS_bool, gdS_eff, gdS_tup, gdS_sel, gdS_seleff, sxK_def, wcall_some, effP_ret, effP_set, effP_none, effP_ite, wop_call, wop_cv, cvP_func, sx_ret, sx_exit, sx_skip, sx_clr, stays, ↓selV_wt, ↓selV_wf, ↓impB_wt, ↓impB_wf, ↓selV_nor, ↓impB_nor, ↓selV_nt, ↓selV_nf, ↓impB_nt, ↓impB_nf, wantB_true, wantB_false, ↓selV_true, ↓selV_false, ↓selV_and, ↓impB_true, ↓impB_false, ↓impB_and, impB_triv, valOf_some, retH_some, ↓prim_pick, pickO_true, pickO_false, pickO_and, pickO_or, pickO_andr, pickO_orr, pickO_orrn, pickO_orn, pickO_bb, pickAnd_bool, pickOr_bool, ↓selV_nn, ↓impB_nn, Bool.and_assoc, Bool.or_assoc, doOp, ev_fr, ev_cst, put_none, put_fr, get, ins, del, dels, Nat.reduceLT, Nat.reduceEqDiff, ↓reduceIte, reduceCtorEq, ne_eq, not_false_eq_true, implies_true, framed_pureF, framed_fb, framed_N, framed_pure, wop_prim, prim, mkA, V.cells, List.getElem?_cons_zero, List.getElem?_cons_succ, List.set_cons_zero, List.set_cons_succ, Nat.zero_add, Nat.add_zero, Nat.reduceAdd, Nat.reduceSub, Nat.reduceMul, Nat.reduceLeDiff, Nat.not_lt_zero, List.map_cons, List.map_nil, List.cons_append, List.nil_append, loadA, cellsAt, nAg, packA, opt_bind_some, opt_map_some, opt_bind_none, opt_map_none, List.drop, List.take, List.head?, List.length_cons, List.length_nil, binA, unA, eqCells, eqCell, negB, fillA, sr_nil, sr_cons, sr_succ, sr_all, sr_len, storeA, Ob.with, indexedI, V.oneCell, intOf?, retQ_ret, retQ_norm, resA, resA1, fr_getD, packR, sealDepth, shut_bool, shut_int, Option.some.injEq, V.bool.injEq, V.int.injEq, Bool.not_true, Bool.not_false, true_and, and_true, and_self, Bool.and_true, Bool.and_false, Bool.true_and, Bool.false_and, Bool.or_true, Bool.or_false, Bool.true_or, Bool.false_or, Bool.false_eq_true, Int.reduceLT, Int.reduceLE, Int.reduceToNat, Int.reduceNeg, shut_plain, freeL_cons, freeL_nil, free_int, free_bool, free_agg, free_str, free_nils, free_tup, free_sl, true_implies, false_implies, Nat.sub_zero, Int.natCast_nonneg, Int.toNat_natCast, Nat.le_refl, not_true_eq_false, Int.reduceAdd, Int.reduceSub, Int.reduceMul, wrap64, false_and, and_false, cond_true, cond_false, Bool.cond_true_left, Bool.cond_false_right, Int.reduceBNe, Int.reduceBEq, decide_true, decide_false, Int.cast_ofNat_Int, Nat.mul_one, eq_self, Bool.true_eq_false, Bool.not_eq_true, Bool.not_eq_false, deads, List.replicate, argsF, d1, w14, wi, w1, m1, i1, i2, k1, k2, rd, hs, hl, hcl, hj1]
    exact hlt
  · have e : j = 48 := by omega
    subst e
    have d1 : decide (((48 : Nat) : Int) < 48) = false := rfl
    have hl := halfC_length (H := H) (X := X) (j := 48) lH lX (by omega)
    have tk : List.take 64 (halfC H X 48) = halfC H X 48 := List.take_of_length_le (by omega)
    have oc : (halfC H X 48).all V.oneCell = true := by simp [halfC, oH, lX, V.oneCell, List.all_eq_true.1 oX]; exact fun x hx => List.all_eq_true.1 oX x (List.mem_of_mem_take hx)
    have fc : V.freeL (halfC H X 48) = true := by
      unfold halfC
      rw [freeL_append, freeL_append, fH, List.take_of_length_le (by omega), fX]
      rfl
    simp +contextual -implicitDefEqProofs (maxSteps := 10000000) only [sx_seq, sxL_succ, lpQ_norm, lpQ_exit, lpQ_ret, loopQ_norm, loopQ_exit, loopQ_ret, sqQ_norm, sqQ_ret, sqQ_exit, sx_block, blkQ_norm, blkQ_exit, blkQ_ret, sx_cond, cdP_true, cdP_false, cdP_bool, sx_region, sx_draw, plainD, List.all_cons, List.all_nil, List.isEmpty_nil, List.isEmpty_cons, sxo_nil, sxo_cons, sxo_guard, gdS_bool, gdS_eff, gdS_tup, gdS_sel, gdS_seleff, sxK_def, wcall_some, effP_ret, effP_set, effP_none, effP_ite, wop_call, wop_cv, cvP_func, sx_ret, sx_exit, sx_skip, sx_clr, stays, ↓selV_wt, ↓selV_wf, ↓impB_wt, ↓impB_wf, ↓selV_nor, ↓impB_nor, ↓selV_nt, ↓selV_nf, ↓impB_nt, ↓impB_nf, wantB_true, wantB_false, ↓selV_true, ↓selV_false, ↓selV_and, ↓impB_true, ↓impB_false, ↓impB_and, impB_triv, valOf_some, retH_some, ↓prim_pick, pickO_true, pickO_false, pickO_and, pickO_or, pickO_andr, pickO_orr, pickO_orrn, pickO_orn, pickO_bb, pickAnd_bool, pickOr_bool, ↓selV_nn, ↓impB_nn, Bool.and_assoc, Bool.or_assoc, doOp, ev_fr, ev_cst, put_none, put_fr, get, ins, del, dels, Nat.reduceLT, Nat.reduceEqDiff, ↓reduceIte, reduceCtorEq, ne_eq, not_false_eq_true, implies_true, framed_pureF, framed_fb, framed_N, framed_pure, wop_prim, prim, mkA, V.cells, List.getElem?_cons_zero, List.getElem?_cons_succ, List.set_cons_zero, List.set_cons_succ, Nat.zero_add, Nat.add_zero, Nat.reduceAdd, Nat.reduceSub, Nat.reduceMul, Nat.reduceLeDiff, Nat.not_lt_zero, List.map_cons, List.map_nil, List.cons_append, List.nil_append, loadA, cellsAt, nAg, packA, opt_bind_some, opt_map_some, opt_bind_none, opt_map_none, List.drop, List.take, List.head?, List.length_cons, List.length_nil, binA, unA, eqCells, eqCell, negB, fillA, sr_nil, sr_cons, sr_succ, sr_all, sr_len, storeA, Ob.with, indexedI, V.oneCell, intOf?, retQ_ret, retQ_norm, resA, resA1, fr_getD, packR, sealDepth, shut_bool, shut_int, Option.some.injEq, V.bool.injEq, V.int.injEq, Bool.not_true, Bool.not_false, true_and, and_true, and_self, Bool.and_true, Bool.and_false, Bool.true_and, Bool.false_and, Bool.or_true, Bool.or_false, Bool.true_or, Bool.false_or, Bool.false_eq_true, Int.reduceLT, Int.reduceLE, Int.reduceToNat, Int.reduceNeg, shut_plain, freeL_cons, freeL_nil, free_int, free_bool, free_agg, free_str, free_nils, free_tup, free_sl, true_implies, false_implies, Nat.sub_zero, Int.natCast_nonneg, Int.toNat_natCast, Nat.le_refl, not_true_eq_false, Int.reduceAdd, Int.reduceSub, Int.reduceMul, wrap64, false_and, and_false, cond_true, cond_false, Bool.cond_true_left, Bool.cond_false_right, Int.reduceBNe, Int.reduceBEq, decide_true, decide_false, Int.cast_ofNat_Int, Nat.mul_one, eq_self, Bool.true_eq_false, Bool.not_eq_true, Bool.not_eq_false, deads, List.replicate, argsF, d1, hl, tk, oc, fc]
    simp [halfC, hH, hX, secR, byt, hx, List.take_of_length_le]
    simp [List.take_take]

theorem half_spec {N n : Nat} (hN : 60 ≤ N) (hn : 2 ≤ n) {r : Rec} (hr : r.Ok) (hm : mayR r = true) {i : Nat} (hi : i < 2) (h : Heap) : callA am N n 39 [r.v, .int .i64 (i : Int)] h = some (.agg (secR r i), h) := half_spec' hN hn hr hm hi rfl h
end Go.Am.T
