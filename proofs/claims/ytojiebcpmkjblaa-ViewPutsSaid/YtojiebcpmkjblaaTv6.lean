import Derived.Test.YtojiebcpmkjblaaTv5
set_option linter.unusedVariables false
set_option linter.unusedSimpArgs false
set_option maxRecDepth 10000
namespace Go.Am.T
attribute [local congr] selV_congr impB_congr

/-- A sector of the document's, whose last j members are told. -/
def stR (v : Vw) (j : Nat) : List Int := 193 :: (bif v.opn then 1 else 0) :: v.fou % 256 :: 0 :: (List.replicate (8 + 4 * (8 - j)) 0 ++ (((v.M.drop (8 - j)).map fun m => be 4 m.2).flatten ++ List.replicate 20 0))

theorem stR_len {v : Vw} (hv : v.M.length = 8) {j : Nat} (hj : j ≤ 8) : (stR v j).length = 64 := by
  have : (v.M.drop (8 - j)).length = j := by simp; omega
  simp only [stR, List.length_cons, List.length_append, flat4_len, this, List.length_replicate]
  omega

theorem stR_next {v : Vw} (hv : v.M.length = 8) {j : Nat} (hj : j < 8) {m : Bool × Int} (hm : v.M[7 - j]? = some m) : setRange ((stR v j).map (V.int .u8)) (12 + 4 * (7 - j)) ((be 4 m.2).map (V.int .u8)) = (stR v (j + 1)).map (V.int .u8) := by
  have e0 : v.M.drop (7 - j) = m :: v.M.drop (8 - j) := by
    have := (List.getElem?_eq_some_iff.1 hm).2
    rw [← this, show 8 - j = (7 - j) + 1 by omega, List.getElem_cons_drop]
  have e1 : stR v j = ([193, bif v.opn then 1 else 0, v.fou % 256, 0] ++ List.replicate (8 + 4 * (7 - j)) 0) ++ (List.replicate 4 0 ++ (((v.M.drop (8 - j)).map fun m => be 4 m.2).flatten ++ List.replicate 20 0)) := by
    unfold stR
    rw [show 8 + 4 * (8 - j) = (8 + 4 * (7 - j)) + 4 by omega, List.replicate_append_replicate.symm]
    simp only [List.cons_append, List.nil_append, List.append_assoc]
  have e2 : stR v (j + 1) = ([193, bif v.opn then 1 else 0, v.fou % 256, 0] ++ List.replicate (8 + 4 * (7 - j)) 0) ++ (be 4 m.2 ++ (((v.M.drop (8 - j)).map fun m => be 4 m.2).flatten ++ List.replicate 20 0)) := by
    unfold stR
    rw [show 8 - (j + 1) = 7 - j by omega, e0]
    simp only [List.cons_append, List.nil_append, List.append_assoc, List.map_cons, List.flatten_cons]
  rw [e1, e2, List.map_append]
  conv => rhs; rw [List.map_append]
  have := blk_set (B := ([193, bif v.opn then 1 else 0, v.fou % 256, 0] ++ List.replicate (8 + 4 * (7 - j)) 0).map (V.int .u8)) (n := 12 + 4 * (7 - j)) (by simp; omega) ((List.replicate 4 (0 : Int) ++ (((v.M.drop (8 - j)).map fun (m : Bool × Int) => be 4 m.2).flatten ++ List.replicate 20 0)).map (V.int .u8)) 0 ((be 4 m.2).map (V.int .u8))
  rw [Nat.zero_add] at this
  rw [this]
  congr 1

theorem stR_end {v : Vw} (hv : v.M.length = 8) (b : Int) : setRange (setRange ((stR v 8).map (V.int .u8)) 3 [.int .u8 b]) 4 ((be 8 v.num).map (V.int .u8)) = (stP v b 8).map (V.int .u8) := by
  have tk : v.M.take 8 = v.M := List.take_of_length_le (by omega)
  simp only [stR, stP, tk, Nat.sub_self, List.drop_zero, List.map_cons, sr_succ, sr_cons, sr_nil, Nat.mul_zero, Nat.add_zero, List.map_append]
  congr 4

theorem bitsM_drop {M : List (Bool × Int)} {n : Nat} {m : Bool × Int} (h : M[n]? = some m) : bitsM (M.drop n) = (bif m.1 then 1 else 0) + 2 * bitsM (M.drop (n + 1)) := by
  have e0 : M.drop n = m :: M.drop (n + 1) := by
    have := (List.getElem?_eq_some_iff.1 h).2
    rw [← this, List.getElem_cons_drop]
  rw [e0]
  rfl

theorem mayV_mem {v : Vw} (h : mayV v = true) : 0 ≤ v.num ∧ v.num ≤ 4611686018427387904 ∧ ∀ m ∈ v.M, 0 ≤ m.2 ∧ m.2 ≤ 2147483647 := by
  simp only [mayV, Bool.or_eq_true, decide_eq_true_eq, Bool.and_eq_true] at h
  rcases h with rfl | ⟨h1, -, h3⟩
  · refine ⟨by decide, by decide, fun m hm => ?_⟩
    simp only [firstV] at hm
    rw [List.eq_of_mem_replicate hm]
    decide
  · have h1' : badH v = false := by simpa using h1
    simp only [badH, Bool.or_eq_false_iff, decide_eq_false_iff_not] at h1'
    refine ⟨by omega, by omega, fun m hm => ?_⟩
    have := List.all_eq_true.1 h3 m hm
    obtain ⟨a, b⟩ := m
    simp only [badM] at this
    cases a
    · simp at this; omega
    · simp at this; omega

theorem ediv_pow (e : Int) (j : Nat) : e / 256 ^ j / 256 = e / 256 ^ (j + 1) := by
  rw [Int.pow_succ, Int.ediv_ediv_of_nonneg (Int.pow_nonneg (by decide))]

theorem am15_wp {N n : Nat} {args : List V} {h : Heap} {v : V} (ha : args.length = 1) (hfree : V.freeL args = true)
    (H : sx ⟨pureOf am, callA am N n, N, 0⟩ am15.body (fr am15.nt (argsF 0 args)) (deads am15.sites) (retQ am15.res fun x h' => V.shut (fun o => h'[o]?) sealDepth x = some v)) : callA am N (n + 1) 15 args h = some (v, h) :=
  call_pure at15 rfl ha (by decide) hfree (sx_wp H)

set_option maxHeartbeats 4000000 in
theorem refPut_spec {N n : Nat} (hN : 20 ≤ N) (hn : 2 ≤ n) (v : Vw) (hv : v.M.length = 8) (hm : mayV v = true) (h : Heap) : callA am N n 15 [.agg v.cs] h = some (.agg ((putV v).map (V.int .u8)), h) := by
  obtain ⟨n, rfl⟩ : ∃ m, n = m + 1 := ⟨n - 1, by omega⟩
  have c31 := @refFirst_spec N n (by omega)
  refine am15_wp rfl (by simp [freeL_cons, freeL_nil, free_agg, Vw.free]) ?_
  have q := eq_vw hv (w := firstV) rfl
  unfold ksV at q
  have hl := Vw.len hv
  have tk : List.take 19 v.cs = v.cs := List.take_of_length_le (by omega)
  have e0 : List.take 1 v.cs = [.int .i64 v.num] := rfl
  have e1 : List.take 1 (List.drop 1 v.cs) = [.bool v.opn] := rfl
  have e2 : List.take 1 (List.drop 2 v.cs) = [.int .i64 v.fou] := rfl
  obtain ⟨n0, n1, nm⟩ := mayV_mem hm
  cases hf : decide (v = firstV) with
  | true =>
    have ep : putV v = List.replicate 64 0 := by unfold putV; rw [if_pos (of_decide_eq_true hf)]
    rw [hf] at q
    rw [ep]
    simp +contextual -implicitDefEqProofs (maxSteps := 10000000) only [sx_seq, sxL_succ, lpQ_norm, lpQ_exit, lpQ_ret, loopQ_norm, loopQ_exit, loopQ_ret, sqQ_norm, sqQ_ret, sqQ_exit, sx_block, blkQ_norm, blkQ_exit, blkQ_ret, sx_cond, cdP_true, cdP_false, cdP_bool, sx_region, sx_draw, plainD, List.all_cons, List.all_nil, List.isEmpty_nil, List.isEmpty_cons, sxo_nil, sxo_cons, sxo_guard, gdS_bool, gdS_eff, gdS_tup, gdS_sel, gdS_seleff, sxK_def, wcall_some, effP_ret, effP_set, effP_none, effP_ite, wop_call, wop_cv, cvP_func, sx_ret, sx_exit, sx_skip, sx_clr, stays, ↓selV_wt, ↓selV_wf, ↓impB_wt, ↓impB_wf, ↓selV_nor, ↓impB_nor, ↓selV_nt, ↓selV_nf, ↓impB_nt, ↓impB_nf, wantB_true, wantB_false, ↓selV_true, ↓selV_false, ↓selV_and, ↓impB_true, ↓impB_false, ↓impB_and, impB_triv, valOf_some, retH_some, ↓prim_pick, pickO_true, pickO_false, pickO_and, pickO_or, pickO_andr, pickO_orr, pickO_orrn, pickO_orn, pickO_bb, pickAnd_bool, pickOr_bool, ↓selV_nn, ↓impB_nn, Bool.and_assoc, Bool.or_assoc, doOp, ev_fr, ev_cst, put_none, put_fr, get, ins, del, dels, Nat.reduceLT, Nat.reduceEqDiff, ↓reduceIte, reduceCtorEq, ne_eq, not_false_eq_true, implies_true, framed_pureF, framed_fb, framed_N, framed_pure, wop_prim, prim, YLD, mkA, V.cells, List.getElem?_cons_zero, List.getElem?_cons_succ, List.set_cons_zero, List.set_cons_succ, Nat.zero_add, Nat.add_zero, Nat.reduceAdd, Nat.reduceSub, Nat.reduceMul, Nat.reduceLeDiff, Nat.not_lt_zero, List.map_cons, List.map_nil, List.cons_append, List.nil_append, loadA, cellsAt, nAg, packA, opt_bind_some, opt_map_some, opt_bind_none, opt_map_none, List.drop, List.take, List.head?, List.length_cons, List.length_nil, binA, unA, eqCells, eqCell, negB, fillA, sr_nil, sr_cons, sr_succ, sr_all, sr_len, storeA, Ob.with, indexedI, V.oneCell, intOf?, retQ_ret, retQ_norm, resA, resA1, fr_getD, packR, sealDepth, shut_bool, shut_int, Option.some.injEq, V.bool.injEq, V.int.injEq, Bool.not_true, Bool.not_false, true_and, and_true, and_self, Bool.and_true, Bool.and_false, Bool.true_and, Bool.false_and, Bool.or_true, Bool.or_false, Bool.true_or, Bool.false_or, Bool.false_eq_true, Int.reduceLT, Int.reduceLE, Int.reduceToNat, Int.reduceNeg, shut_plain, freeL_cons, freeL_nil, free_int, free_bool, free_agg, free_str, free_nils, free_tup, free_sl, true_implies, false_implies, Nat.sub_zero, Int.natCast_nonneg, Int.toNat_natCast, Nat.le_refl, not_true_eq_false, Int.reduceAdd, Int.reduceSub, Int.reduceMul, wrap64, false_and, and_false, cond_true, cond_false, Bool.cond_true_left, Bool.cond_false_right, Int.reduceBNe, Int.reduceBEq, decide_true, decide_false, Int.cast_ofNat_Int, Nat.mul_one, eq_self, Bool.true_eq_false, Bool.not_eq_true, Bool.not_eq_false, deads, List.replicate, argsF, am15, sx_drawd, wpd_nil, wpd_cons, wdK_def, fpOf, fpV, fpCall, Fp.ok, disj, List.contains_cons, List.contains_nil, Nat.reduceBEq, List.all_append, V.objsL, V.objs,  List.getD_cons_zero, List.getD_cons_succ, List.append_nil, hl, tk, c31, q, pm31, List.map_replicate]
  | false =>
    have ep : putV v = stP v (bitsM v.M) 8 := by unfold putV; rw [if_neg (of_decide_eq_false hf)]
    rw [hf] at q
    rw [ep]
    have u8f : IntKind.u8.wrap v.fou = v.fou % 256 := wrap8_eq _
    have l64 : ∀ j, j ≤ 8 → ((stR v j).map (V.int .u8)).length = 64 := fun i hi => by rw [List.length_map, stR_len hv hi]
    cases ho : v.opn
    all_goals
      simp +contextual -implicitDefEqProofs (maxSteps := 10000000) only [sx_seq, sxL_succ, lpQ_norm, lpQ_exit, lpQ_ret, loopQ_norm, loopQ_exit, loopQ_ret, sqQ_norm, sqQ_ret, sqQ_exit, sx_block, blkQ_norm, blkQ_exit, blkQ_ret, sx_cond, cdP_true, cdP_false, cdP_bool, sx_region, sx_draw, plainD, List.all_cons, List.all_nil, List.isEmpty_nil, List.isEmpty_cons, sxo_nil, sxo_cons, sxo_guard, gdS_bool, gdS_eff, gdS_tup, gdS_sel, gdS_seleff, sxK_def, wcall_some, effP_ret, effP_set, effP_none, effP_ite, wop_call, wop_cv, cvP_func, sx_ret, sx_exit, sx_skip, sx_clr, stays, ↓selV_wt, ↓selV_wf, ↓impB_wt, ↓impB_wf, ↓selV_nor, ↓impB_nor, ↓selV_nt, ↓selV_nf, ↓impB_nt, ↓impB_nf, wantB_true, wantB_false, ↓selV_true, ↓selV_false, ↓selV_and, ↓impB_true, ↓impB_false, ↓impB_and, impB_triv, valOf_some, retH_some, ↓prim_pick, pickO_true, pickO_false, pickO_and, pickO_or, pickO_andr, pickO_orr, pickO_orrn, pickO_orn, pickO_bb, pickAnd_bool, pickOr_bool, ↓selV_nn, ↓impB_nn, Bool.and_assoc, Bool.or_assoc, doOp, ev_fr, ev_cst, put_none, put_fr, get, ins, del, dels, Nat.reduceLT, Nat.reduceEqDiff, ↓reduceIte, reduceCtorEq, ne_eq, not_false_eq_true, implies_true, framed_pureF, framed_fb, framed_N, framed_pure, wop_prim, prim, YLD, mkA, V.cells, List.getElem?_cons_zero, List.getElem?_cons_succ, List.set_cons_zero, List.set_cons_succ, Nat.zero_add, Nat.add_zero, Nat.reduceAdd, Nat.reduceSub, Nat.reduceMul, Nat.reduceLeDiff, Nat.not_lt_zero, List.map_cons, List.map_nil, List.cons_append, List.nil_append, loadA, cellsAt, nAg, packA, opt_bind_some, opt_map_some, opt_bind_none, opt_map_none, List.drop, List.take, List.head?, List.length_cons, List.length_nil, binA, unA, eqCells, eqCell, negB, fillA, sr_nil, sr_cons, sr_succ, sr_all, sr_len, storeA, Ob.with, indexedI, V.oneCell, intOf?, retQ_ret, retQ_norm, resA, resA1, fr_getD, packR, sealDepth, shut_bool, shut_int, Option.some.injEq, V.bool.injEq, V.int.injEq, Bool.not_true, Bool.not_false, true_and, and_true, and_self, Bool.and_true, Bool.and_false, Bool.true_and, Bool.false_and, Bool.or_true, Bool.or_false, Bool.true_or, Bool.false_or, Bool.false_eq_true, Int.reduceLT, Int.reduceLE, Int.reduceToNat, Int.reduceNeg, shut_plain, freeL_cons, freeL_nil, free_int, free_bool, free_agg, free_str, free_nils, free_tup, free_sl, true_implies, false_implies, Nat.sub_zero, Int.natCast_nonneg, Int.toNat_natCast, Nat.le_refl, not_true_eq_false, Int.reduceAdd, Int.reduceSub, Int.reduceMul, wrap64, false_and, and_false, cond_true, cond_false, Bool.cond_true_left, Bool.cond_false_right, Int.reduceBNe, Int.reduceBEq, decide_true, decide_false, Int.cast_ofNat_Int, Nat.mul_one, eq_self, Bool.true_eq_false, Bool.not_eq_true, Bool.not_eq_false, deads, List.replicate, argsF, am15, sx_drawd, wpd_nil, wpd_cons, wdK_def, fpOf, fpV, fpCall, Fp.ok, disj, List.contains_cons, List.contains_nil, Nat.reduceBEq, List.all_append, V.objsL, V.objs,  List.getD_cons_zero, List.getD_cons_succ, List.append_nil, hl, tk, c31, q, pm31, e0, e1, e2, u8f, ho, -List.drop]
      refine sx_loop (fun j t H => t = fr 72 [(1, .ptr 0 1 0), (2, .ptr 1 1 0), (3, .ptr 2 1 0), (4, .int .i64 (bitsM (v.M.drop (8 - j)))), (5, .int .i64 (7 - (j : Int)))] ∧ j ≤ 8 ∧ H = [⟨1, .var v.cs⟩, ⟨1, .var [.int .u8 0, .int .u8 0, .int .u8 0, .int .u8 0, .int .u8 0, .int .u8 0, .int .u8 0, .int .u8 0, .int .u8 0, .int .u8 0, .int .u8 0, .int .u8 0, .int .u8 0, .int .u8 0, .int .u8 0, .int .u8 0, .int .u8 0, .int .u8 0, .int .u8 0, .int .u8 0, .int .u8 0, .int .u8 0, .int .u8 0, .int .u8 0, .int .u8 0, .int .u8 0, .int .u8 0, .int .u8 0, .int .u8 0, .int .u8 0, .int .u8 0, .int .u8 0, .int .u8 0, .int .u8 0, .int .u8 0, .int .u8 0, .int .u8 0, .int .u8 0, .int .u8 0, .int .u8 0, .int .u8 0, .int .u8 0, .int .u8 0, .int .u8 0, .int .u8 0, .int .u8 0, .int .u8 0, .int .u8 0, .int .u8 0, .int .u8 0, .int .u8 0, .int .u8 0, .int .u8 0, .int .u8 0, .int .u8 0, .int .u8 0, .int .u8 0, .int .u8 0, .int .u8 0, .int .u8 0, .int .u8 0, .int .u8 0, .int .u8 0, .int .u8 0]⟩, ⟨1, .var ((stR v j).map (V.int .u8))⟩]) 8 (by show 8 < N; omega)
        ⟨by rw [List.drop_eq_nil_of_le (by omega)]; rfl, by omega, by rw [stR, ho, List.drop_eq_nil_of_le (by omega)]; rfl⟩ ?_
      rintro j t H hj ⟨rfl, hj8, rfl⟩
      obtain ⟨z, hz⟩ : ∃ z, z = 7 - (j : Int) := ⟨_, rfl⟩
      rw [← hz]
      by_cases hlt : j < 8
      · obtain ⟨k, hk⟩ : ∃ k, k = 7 - j := ⟨_, rfl⟩
        have zk : z = (k : Int) := by omega
        have g1 : decide (z ≥ 0) = true := decide_eq_true (by omega)
        have k8 : (k : Int) < 8 := by omega
        have hmk : v.M[k]? = some (v.M[k]'(by omega)) := List.getElem?_eq_getElem _
        generalize v.M[k]'(by omega) = m at hmk
        obtain ⟨d0, d1, d2, p0, p1, p2⟩ := Vw.facts hmk
        have mb := nm m (List.mem_of_getElem? hmk)
        have bd := bitsM_bounds (v.M.drop (8 - j))
        have bl : (2 : Int) ^ (v.M.drop (8 - j)).length ≤ 128 := (pow8 (i := (v.M.drop (8 - j)).length) (by simp; omega)).2
        have hbd := bitsM_drop hmk
        rw [show k + 1 = 8 - j by omega] at hbd
        obtain ⟨b, hb⟩ : ∃ b, b = bitsM (v.M.drop (8 - j)) := ⟨_, rfl⟩
        obtain ⟨B', hB'⟩ : ∃ B', B' = bitsM (v.M.drop k) := ⟨_, rfl⟩
        rw [← hb] at bd hbd ⊢
        rw [← hB'] at hbd
        have w1 : IntKind.i64.wrap (2 * b) = 2 * b := wrap64 (by omega) (by omega)
        have w2 : IntKind.i64.wrap (2 * b + 1) = 2 * b + 1 := wrap64 (by omega) (by omega)
        have l1 : 3 + k * 2 ≤ 18 := by omega
        have l2 : 3 + k * 2 ≤ 17 := by omega
        have wz : IntKind.i64.wrap ((k : Int) - 1) = 7 - ((j + 1 : Nat) : Int) := (wrap64 (by omega) (by omega)).trans (by omega)
        have wm : IntKind.i64.wrap (4 * (k : Int)) = ((4 * k : Nat) : Int) := (wrap64 (by omega) (by omega)).trans (by omega)
        have wa : IntKind.i64.wrap (12 + ((4 * k : Nat) : Int)) = ((12 + 4 * k : Nat) : Int) := (wrap64 (by omega) (by omega)).trans (by omega)
        have lj := l64 j hj8
        have nx := stR_next hv hlt (m := m) (by rw [← hk]; exact hmk)
        rw [← hk] at nx
        have hj1 : j + 1 ≤ 8 := by omega
        have hkj : 8 - (j + 1) = k := by omega
        cases hin : m.1
        all_goals
          rw [hin] at d0 hbd
          simp only [cond_true, cond_false] at hbd
          simp +contextual -implicitDefEqProofs (maxSteps := 10000000) only [sx_seq, sxL_succ, lpQ_norm, lpQ_exit, lpQ_ret, loopQ_norm, loopQ_exit, loopQ_ret, sqQ_norm, sqQ_ret, sqQ_exit, sx_block, blkQ_norm, blkQ_exit, blkQ_ret, sx_cond, cdP_true, cdP_false, cdP_bool, sx_region, sx_draw, plainD, List.all_cons, List.all_nil, List.isEmpty_nil, List.isEmpty_cons, sxo_nil, sxo_cons, sxo_guard, gdS_bool, gdS_eff, gdS_tup, gdS_sel, gdS_seleff, sxK_def, wcall_some, effP_ret, effP_set, effP_none, effP_ite, wop_call, wop_cv, cvP_func, sx_ret, sx_exit, sx_skip, sx_clr, stays, ↓selV_wt, ↓selV_wf, ↓impB_wt, ↓impB_wf, ↓selV_nor, ↓impB_nor, ↓selV_nt, ↓selV_nf, ↓impB_nt, ↓impB_nf, wantB_true, wantB_false, ↓selV_true, ↓selV_false, ↓selV_and, ↓impB_true, ↓impB_false, ↓impB_and, impB_triv, valOf_some, retH_some, ↓prim_pick, pickO_true, pickO_false, pickO_and, pickO_or, pickO_andr, pickO_orr, pickO_orrn, pickO_orn, pickO_bb, pickAnd_bool, pickOr_bool, ↓selV_nn, ↓impB_nn, Bool.and_assoc, Bool.or_assoc, doOp, ev_fr, ev_cst, put_none, put_fr, get, ins, del, dels, Nat.reduceLT, Nat.reduceEqDiff, ↓reduceIte, reduceCtorEq, ne_eq, not_false_eq_true, implies_true, framed_pureF, framed_fb, framed_N, framed_pure, wop_prim, prim, YLD, mkA, V.cells, List.getElem?_cons_zero, List.getElem?_cons_succ, List.set_cons_zero, List.set_cons_succ, Nat.zero_add, Nat.add_zero, Nat.reduceAdd, Nat.reduceSub, Nat.reduceMul, Nat.reduceLeDiff, Nat.not_lt_zero, List.map_cons, List.map_nil, List.cons_append, List.nil_append, loadA, cellsAt, nAg, packA, opt_bind_some, opt_map_some, opt_bind_none, opt_map_none, List.drop, List.take, List.head?, List.length_cons, List.length_nil, binA, unA, eqCells, eqCell, negB, fillA, sr_nil, sr_cons, sr_succ, sr_all, sr_len, storeA, Ob.with, indexedI, V.oneCell, intOf?, retQ_ret, retQ_norm, resA, resA1, fr_getD, packR, sealDepth, shut_bool, shut_int, Option.some.injEq, V.bool.injEq, V.int.injEq, Bool.not_true, Bool.not_false, true_and, and_true, and_self, Bool.and_true, Bool.and_false, Bool.true_and, Bool.false_and, Bool.or_true, Bool.or_false, Bool.true_or, Bool.false_or, Bool.false_eq_true, Int.reduceLT, Int.reduceLE, Int.reduceToNat, Int.reduceNeg, shut_plain, freeL_cons, freeL_nil, free_int, free_bool, free_agg, free_str, free_nils, free_tup, free_sl, true_implies, false_implies, Nat.sub_zero, Int.natCast_nonneg, Int.toNat_natCast, Nat.le_refl, not_true_eq_false, Int.reduceAdd, Int.reduceSub, Int.reduceMul, wrap64, false_and, and_false, cond_true, cond_false, Bool.cond_true_left, Bool.cond_false_right, Int.reduceBNe, Int.reduceBEq, decide_true, decide_false, Int.cast_ofNat_Int, Nat.mul_one, eq_self, Bool.true_eq_false, Bool.not_eq_true, Bool.not_eq_false, deads, List.replicate, argsF, g1, zk, k8, d0, d1, l1, l2, hl, w1, w2, -List.drop]
          try rw [show 2 * b + 1 = B' by omega]
          try rw [show 2 * b = B' by omega]
          refine sx_loop (fun i t H => t = fr 72 [(1, .ptr 0 1 0), (2, .ptr 1 1 0), (3, .ptr 2 1 0), (4, .int .i64 B'), (5, .int .i64 k), (6, .int .i64 (m.2 / 256 ^ i)), (7, .int .i64 (3 - (i : Int)))] ∧ i ≤ 4 ∧
            H = [⟨1, .var v.cs⟩, ⟨1, .var [.int .u8 0, .int .u8 0, .int .u8 0, .int .u8 0, .int .u8 0, .int .u8 0, .int .u8 0, .int .u8 0, .int .u8 0, .int .u8 0, .int .u8 0, .int .u8 0, .int .u8 0, .int .u8 0, .int .u8 0, .int .u8 0, .int .u8 0, .int .u8 0, .int .u8 0, .int .u8 0, .int .u8 0, .int .u8 0, .int .u8 0, .int .u8 0, .int .u8 0, .int .u8 0, .int .u8 0, .int .u8 0, .int .u8 0, .int .u8 0, .int .u8 0, .int .u8 0, .int .u8 0, .int .u8 0, .int .u8 0, .int .u8 0, .int .u8 0, .int .u8 0, .int .u8 0, .int .u8 0, .int .u8 0, .int .u8 0, .int .u8 0, .int .u8 0, .int .u8 0, .int .u8 0, .int .u8 0, .int .u8 0, .int .u8 0, .int .u8 0, .int .u8 0, .int .u8 0, .int .u8 0, .int .u8 0, .int .u8 0, .int .u8 0, .int .u8 0, .int .u8 0, .int .u8 0, .int .u8 0, .int .u8 0, .int .u8 0, .int .u8 0, .int .u8 0]⟩, ⟨1, .var (setRange ((stR v j).map (V.int .u8)) (12 + 4 * k + (4 - i)) ((be i m.2).map (V.int .u8)))⟩]) 4 (by show 4 < N; omega) ⟨by simp, by omega, by simp only [be, List.map_nil, sr_nil']⟩ ?_
          rintro i t H hi ⟨rfl, hi4, rfl⟩
          obtain ⟨y, hy⟩ : ∃ y, y = 3 - (i : Int) := ⟨_, rfl⟩
          rw [← hy]
          have hbl : ((be i m.2).map (V.int .u8)).length = i := by rw [List.length_map, be_length]
          have hsl : (setRange ((stR v j).map (V.int .u8)) (12 + 4 * k + (4 - i)) ((be i m.2).map (V.int .u8))).length = 64 := by rw [sr_len (by rw [hbl, lj]; omega), lj]
          by_cases hlti : i < 4
          · obtain ⟨r, hr⟩ : ∃ r, r = 3 - i := ⟨_, rfl⟩
            have yr : y = (r : Int) := by omega
            have f1 : decide (y ≥ 0) = true := decide_eq_true (by omega)
            have wr : IntKind.i64.wrap (((12 + 4 * k : Nat) : Int) + (r : Int)) = ((12 + 4 * k + r : Nat) : Int) := (wrap64 (by omega) (by omega)).trans (by omega)
            have ir : ((12 + 4 * k + r : Nat) : Int) < 64 := by omega
            have eb := Int.ediv_nonneg mb.1 (show (0 : Int) ≤ 256 ^ (i) from Int.pow_nonneg (by decide))
            have el := Int.ediv_le_self (256 ^ i) mb.1
            have tm : Int.tmod (m.2 / 256 ^ i) 256 = m.2 / 256 ^ i % 256 := Int.tmod_eq_emod_of_nonneg eb
            have td : Int.tdiv (m.2 / 256 ^ i) 256 = m.2 / 256 ^ (i + 1) := by rw [Int.tdiv_eq_ediv_of_nonneg eb, ediv_pow]
            have e2' := Int.ediv_nonneg mb.1 (show (0 : Int) ≤ 256 ^ (i + 1) from Int.pow_nonneg (by decide))
            have e3' := Int.ediv_le_self (256 ^ (i + 1)) mb.1
            have wq : IntKind.i64.wrap (m.2 / 256 ^ (i + 1)) = m.2 / 256 ^ (i + 1) := wrap64 (by omega) (by omega)
            have u8 : IntKind.u8.wrap (m.2 / 256 ^ i % 256) = m.2 / 256 ^ i % 256 := wrap8 (by omega) (by omega)
            have wy : IntKind.i64.wrap ((r : Int) - 1) = 3 - ((i + 1 : Nat) : Int) := (wrap64 (by omega) (by omega)).trans (by omega)
            have hs : setRange (setRange ((stR v j).map (V.int .u8)) (12 + 4 * k + (4 - i)) ((be i m.2).map (V.int .u8))) (12 + 4 * k + r) [.int .u8 (m.2 / 256 ^ i % 256)] = setRange ((stR v j).map (V.int .u8)) (12 + 4 * k + (4 - (i + 1))) ((be (i + 1) m.2).map (V.int .u8)) := by
              have := @sr_front ((stR v j).map (V.int .u8)) ((be i m.2).map (V.int .u8)) (.int .u8 (m.2 / 256 ^ i % 256)) (12 + 4 * k + r) (by rw [hbl, lj]; omega)
              rw [show 12 + 4 * k + r + 1 = 12 + 4 * k + (4 - i) by omega] at this
              rw [this, show 12 + 4 * k + (4 - (i + 1)) = 12 + 4 * k + r by omega]
              rfl
            have hb' : 12 + 4 * k + r ≤ 63 := by omega
            have hi1 : i + 1 ≤ 4 := by omega
            have n256 : ((256 : Int) = 0) = False := by simp
            simp +contextual -implicitDefEqProofs (maxSteps := 10000000) only [sx_seq, sxL_succ, lpQ_norm, lpQ_exit, lpQ_ret, loopQ_norm, loopQ_exit, loopQ_ret, sqQ_norm, sqQ_ret, sqQ_exit, sx_block, blkQ_norm, blkQ_exit, blkQ_ret, sx_cond, cdP_true, cdP_false, cdP_bool, sx_region, sx_draw, plainD, List.all_cons, List.all_nil, List.isEmpty_nil, List.isEmpty_cons, sxo_nil, sxo_cons, sxo_guard, gdS_bool, gdS_eff, gdS_tup, gdS_sel, gdS_seleff, sxK_def, wcall_some, effP_ret, effP_set, effP_none, effP_ite, wop_call, wop_cv, cvP_func, sx_ret, sx_exit, sx_skip, sx_clr, stays, ↓selV_wt, ↓selV_wf, ↓impB_wt, ↓impB_wf, ↓selV_nor, ↓impB_nor, ↓selV_nt, ↓selV_nf, ↓impB_nt, ↓impB_nf, wantB_true, wantB_false, ↓selV_true, ↓selV_false, ↓selV_and, ↓impB_true, ↓impB_false, ↓impB_and, impB_triv, valOf_some, retH_some, ↓prim_pick, pickO_true, pickO_false, pickO_and, pickO_or, pickO_andr, pickO_orr, pickO_orrn, pickO_orn, pickO_bb, pickAnd_bool, pickOr_bool, ↓selV_nn, ↓impB_nn, Bool.and_assoc, Bool.or_assoc, doOp, ev_fr, ev_cst, put_none, put_fr, get, ins, del, dels, Nat.reduceLT, Nat.reduceEqDiff, ↓reduceIte, reduceCtorEq, ne_eq, not_false_eq_true, implies_true, framed_pureF, framed_fb, framed_N, framed_pure, wop_prim, prim, YLD, mkA, V.cells, List.getElem?_cons_zero, List.getElem?_cons_succ, List.set_cons_zero, List.set_cons_succ, Nat.zero_add, Nat.add_zero, Nat.reduceAdd, Nat.reduceSub, Nat.reduceMul, Nat.reduceLeDiff, Nat.not_lt_zero, List.map_cons, List.map_nil, List.cons_append, List.nil_append, loadA, cellsAt, nAg, packA, opt_bind_some, opt_map_some, opt_bind_none, opt_map_none, List.drop, List.take, List.head?, List.length_cons, List.length_nil, binA, unA, eqCells, eqCell, negB, fillA, sr_nil, sr_cons, sr_succ, sr_all, sr_len, storeA, Ob.with, indexedI, V.oneCell, intOf?, retQ_ret, retQ_norm, resA, resA1, fr_getD, packR, sealDepth, shut_bool, shut_int, Option.some.injEq, V.bool.injEq, V.int.injEq, Bool.not_true, Bool.not_false, true_and, and_true, and_self, Bool.and_true, Bool.and_false, Bool.true_and, Bool.false_and, Bool.or_true, Bool.or_false, Bool.true_or, Bool.false_or, Bool.false_eq_true, Int.reduceLT, Int.reduceLE, Int.reduceToNat, Int.reduceNeg, shut_plain, freeL_cons, freeL_nil, free_int, free_bool, free_agg, free_str, free_nils, free_tup, free_sl, true_implies, false_implies, Nat.sub_zero, Int.natCast_nonneg, Int.toNat_natCast, Nat.le_refl, not_true_eq_false, Int.reduceAdd, Int.reduceSub, Int.reduceMul, wrap64, false_and, and_false, cond_true, cond_false, Bool.cond_true_left, Bool.cond_false_right, Int.reduceBNe, Int.reduceBEq, decide_true, decide_false, Int.cast_ofNat_Int, Nat.mul_one, eq_self, Bool.true_eq_false, Bool.not_eq_true, Bool.not_eq_false, deads, List.replicate, argsF, f1, yr, wm, wa, wr, ir, tm, td, wq, u8, wy, hs, hsl, hb', hi1, hlti, n256]
          · have ei : i = 4 := by omega
            subst ei
            have f1 : decide (y ≥ 0) = false := decide_eq_false (by omega)
            have e4 : 12 + 4 * k + (4 - 4) = 12 + 4 * k := by omega
            simp +contextual -implicitDefEqProofs (maxSteps := 10000000) only [sx_seq, sxL_succ, lpQ_norm, lpQ_exit, lpQ_ret, loopQ_norm, loopQ_exit, loopQ_ret, sqQ_norm, sqQ_ret, sqQ_exit, sx_block, blkQ_norm, blkQ_exit, blkQ_ret, sx_cond, cdP_true, cdP_false, cdP_bool, sx_region, sx_draw, plainD, List.all_cons, List.all_nil, List.isEmpty_nil, List.isEmpty_cons, sxo_nil, sxo_cons, sxo_guard, gdS_bool, gdS_eff, gdS_tup, gdS_sel, gdS_seleff, sxK_def, wcall_some, effP_ret, effP_set, effP_none, effP_ite, wop_call, wop_cv, cvP_func, sx_ret, sx_exit, sx_skip, sx_clr, stays, ↓selV_wt, ↓selV_wf, ↓impB_wt, ↓impB_wf, ↓selV_nor, ↓impB_nor, ↓selV_nt, ↓selV_nf, ↓impB_nt, ↓impB_nf, wantB_true, wantB_false, ↓selV_true, ↓selV_false, ↓selV_and, ↓impB_true, ↓impB_false, ↓impB_and, impB_triv, valOf_some, retH_some, ↓prim_pick, pickO_true, pickO_false, pickO_and, pickO_or, pickO_andr, pickO_orr, pickO_orrn, pickO_orn, pickO_bb, pickAnd_bool, pickOr_bool, ↓selV_nn, ↓impB_nn, Bool.and_assoc, Bool.or_assoc, doOp, ev_fr, ev_cst, put_none, put_fr, get, ins, del, dels, Nat.reduceLT, Nat.reduceEqDiff, ↓reduceIte, reduceCtorEq, ne_eq, not_false_eq_true, implies_true, framed_pureF, framed_fb, framed_N, framed_pure, wop_prim, prim, YLD, mkA, V.cells, List.getElem?_cons_zero, List.getElem?_cons_succ, List.set_cons_zero, List.set_cons_succ, Nat.zero_add, Nat.add_zero, Nat.reduceAdd, Nat.reduceSub, Nat.reduceMul, Nat.reduceLeDiff, Nat.not_lt_zero, List.map_cons, List.map_nil, List.cons_append, List.nil_append, loadA, cellsAt, nAg, packA, opt_bind_some, opt_map_some, opt_bind_none, opt_map_none, List.drop, List.take, List.head?, List.length_cons, List.length_nil, binA, unA, eqCells, eqCell, negB, fillA, sr_nil, sr_cons, sr_succ, sr_all, sr_len, storeA, Ob.with, indexedI, V.oneCell, intOf?, retQ_ret, retQ_norm, resA, resA1, fr_getD, packR, sealDepth, shut_bool, shut_int, Option.some.injEq, V.bool.injEq, V.int.injEq, Bool.not_true, Bool.not_false, true_and, and_true, and_self, Bool.and_true, Bool.and_false, Bool.true_and, Bool.false_and, Bool.or_true, Bool.or_false, Bool.true_or, Bool.false_or, Bool.false_eq_true, Int.reduceLT, Int.reduceLE, Int.reduceToNat, Int.reduceNeg, shut_plain, freeL_cons, freeL_nil, free_int, free_bool, free_agg, free_str, free_nils, free_tup, free_sl, true_implies, false_implies, Nat.sub_zero, Int.natCast_nonneg, Int.toNat_natCast, Nat.le_refl, not_true_eq_false, Int.reduceAdd, Int.reduceSub, Int.reduceMul, wrap64, false_and, and_false, cond_true, cond_false, Bool.cond_true_left, Bool.cond_false_right, Int.reduceBNe, Int.reduceBEq, decide_true, decide_false, Int.cast_ofNat_Int, Nat.mul_one, eq_self, Bool.true_eq_false, Bool.not_eq_true, Bool.not_eq_false, deads, List.replicate, argsF, f1, e4, nx, wz, hj1, hlt]
            rw [hkj, hB']
      · have ej : j = 8 := by omega
        subst ej
        have f1 : decide (z ≥ 0) = false := decide_eq_false (by omega)
        have l8 := l64 8 (Nat.le_refl _)
        have d0 : v.M.drop (8 - 8) = v.M := rfl
        rw [d0]
        have bd := bitsM_bounds v.M
        have bl : (2 : Int) ^ v.M.length = 256 := by rw [hv]; rfl
        have ub : IntKind.u8.wrap (bitsM v.M) = bitsM v.M := wrap8 (by omega) (by omega)
        obtain ⟨C, hC⟩ : ∃ C, C = setRange ((stR v 8).map (V.int .u8)) 3 [.int .u8 (bitsM v.M)] := ⟨_, rfl⟩
        have lC : C.length = 64 := by rw [hC, sr_len (by rw [l8]; simp), l8]
        have ee := stR_end hv (bitsM v.M)
        rw [← hC] at ee
        simp +contextual -implicitDefEqProofs (maxSteps := 10000000) only [sx_seq, sxL_succ, lpQ_norm, lpQ_exit, lpQ_ret, loopQ_norm, loopQ_exit, loopQ_ret, sqQ_norm, sqQ_ret, sqQ_exit, sx_block, blkQ_norm, blkQ_exit, blkQ_ret, sx_cond, cdP_true, cdP_false, cdP_bool, sx_region, sx_draw, plainD, List.all_cons, List.all_nil, List.isEmpty_nil, List.isEmpty_cons, sxo_nil, sxo_cons, sxo_guard, gdS_bool, gdS_eff, gdS_tup, gdS_sel, gdS_seleff, sxK_def, wcall_some, effP_ret, effP_set, effP_none, effP_ite, wop_call, wop_cv, cvP_func, sx_ret, sx_exit, sx_skip, sx_clr, stays, ↓selV_wt, ↓selV_wf, ↓impB_wt, ↓impB_wf, ↓selV_nor, ↓impB_nor, ↓selV_nt, ↓selV_nf, ↓impB_nt, ↓impB_nf, wantB_true, wantB_false, ↓selV_true, ↓selV_false, ↓selV_and, ↓impB_true, ↓impB_false, ↓impB_and, impB_triv, valOf_some, retH_some, ↓prim_pick, pickO_true, pickO_false, pickO_and, pickO_or, pickO_andr, pickO_orr, pickO_orrn, pickO_orn, pickO_bb, pickAnd_bool, pickOr_bool, ↓selV_nn, ↓impB_nn, Bool.and_assoc, Bool.or_assoc, doOp, ev_fr, ev_cst, put_none, put_fr, get, ins, del, dels, Nat.reduceLT, Nat.reduceEqDiff, ↓reduceIte, reduceCtorEq, ne_eq, not_false_eq_true, implies_true, framed_pureF, framed_fb, framed_N, framed_pure, wop_prim, prim, YLD, mkA, V.cells, List.getElem?_cons_zero, List.getElem?_cons_succ, List.set_cons_zero, List.set_cons_succ, Nat.zero_add, Nat.add_zero, Nat.reduceAdd, Nat.reduceSub, Nat.reduceMul, Nat.reduceLeDiff, Nat.not_lt_zero, List.map_cons, List.map_nil, List.cons_append, List.nil_append, loadA, cellsAt, nAg, packA, opt_bind_some, opt_map_some, opt_bind_none, opt_map_none, List.drop, List.take, List.head?, List.length_cons, List.length_nil, binA, unA, eqCells, eqCell, negB, fillA, sr_nil, sr_cons, sr_succ, sr_all, sr_len, storeA, Ob.with, indexedI, V.oneCell, intOf?, retQ_ret, retQ_norm, resA, resA1, fr_getD, packR, sealDepth, shut_bool, shut_int, Option.some.injEq, V.bool.injEq, V.int.injEq, Bool.not_true, Bool.not_false, true_and, and_true, and_self, Bool.and_true, Bool.and_false, Bool.true_and, Bool.false_and, Bool.or_true, Bool.or_false, Bool.true_or, Bool.false_or, Bool.false_eq_true, Int.reduceLT, Int.reduceLE, Int.reduceToNat, Int.reduceNeg, shut_plain, freeL_cons, freeL_nil, free_int, free_bool, free_agg, free_str, free_nils, free_tup, free_sl, true_implies, false_implies, Nat.sub_zero, Int.natCast_nonneg, Int.toNat_natCast, Nat.le_refl, not_true_eq_false, Int.reduceAdd, Int.reduceSub, Int.reduceMul, wrap64, false_and, and_false, cond_true, cond_false, Bool.cond_true_left, Bool.cond_false_right, Int.reduceBNe, Int.reduceBEq, decide_true, decide_false, Int.cast_ofNat_Int, Nat.mul_one, eq_self, Bool.true_eq_false, Bool.not_eq_true, Bool.not_eq_false, deads, List.replicate, argsF, f1, ub, l8, ← hC, hl, e0]
        refine sx_loop (fun i t H => t = fr 72 [(2, .ptr 1 1 0), (3, .ptr 2 1 0), (8, .int .i64 (v.num / 256 ^ i)), (9, .int .i64 (11 - (i : Int)))] ∧ i ≤ 8 ∧
            H = [⟨1, .var v.cs⟩, ⟨1, .var [.int .u8 0, .int .u8 0, .int .u8 0, .int .u8 0, .int .u8 0, .int .u8 0, .int .u8 0, .int .u8 0, .int .u8 0, .int .u8 0, .int .u8 0, .int .u8 0, .int .u8 0, .int .u8 0, .int .u8 0, .int .u8 0, .int .u8 0, .int .u8 0, .int .u8 0, .int .u8 0, .int .u8 0, .int .u8 0, .int .u8 0, .int .u8 0, .int .u8 0, .int .u8 0, .int .u8 0, .int .u8 0, .int .u8 0, .int .u8 0, .int .u8 0, .int .u8 0, .int .u8 0, .int .u8 0, .int .u8 0, .int .u8 0, .int .u8 0, .int .u8 0, .int .u8 0, .int .u8 0, .int .u8 0, .int .u8 0, .int .u8 0, .int .u8 0, .int .u8 0, .int .u8 0, .int .u8 0, .int .u8 0, .int .u8 0, .int .u8 0, .int .u8 0, .int .u8 0, .int .u8 0, .int .u8 0, .int .u8 0, .int .u8 0, .int .u8 0, .int .u8 0, .int .u8 0, .int .u8 0, .int .u8 0, .int .u8 0, .int .u8 0, .int .u8 0]⟩, ⟨1, .var (setRange C (4 + (8 - i)) ((be i v.num).map (V.int .u8)))⟩]) 8 (by show 8 < N; omega) ⟨by simp, by omega, by simp only [be, List.map_nil, sr_nil']⟩ ?_
        rintro i t H hi ⟨rfl, hi8, rfl⟩
        obtain ⟨y, hy⟩ : ∃ y, y = 11 - (i : Int) := ⟨_, rfl⟩
        rw [← hy]
        have hbl : ((be i v.num).map (V.int .u8)).length = i := by rw [List.length_map, be_length]
        have hsl : (setRange C (4 + (8 - i)) ((be i v.num).map (V.int .u8))).length = 64 := by rw [sr_len (by rw [hbl, lC]; omega), lC]
        by_cases hlti : i < 8
        · obtain ⟨r, hr⟩ : ∃ r, r = 11 - i := ⟨_, rfl⟩
          have yr : y = (r : Int) := by omega
          have f1 : decide ((r : Int) ≥ 4) = true := decide_eq_true (by omega)
          have ir : (r : Int) < 64 := by omega
          have eb := Int.ediv_nonneg n0 (show (0 : Int) ≤ 256 ^ (i) from Int.pow_nonneg (by decide))
          have el := Int.ediv_le_self (256 ^ i) n0
          have tm : Int.tmod (v.num / 256 ^ i) 256 = v.num / 256 ^ i % 256 := Int.tmod_eq_emod_of_nonneg eb
          have td : Int.tdiv (v.num / 256 ^ i) 256 = v.num / 256 ^ (i + 1) := by rw [Int.tdiv_eq_ediv_of_nonneg eb, ediv_pow]
          have e2' := Int.ediv_nonneg n0 (show (0 : Int) ≤ 256 ^ (i + 1) from Int.pow_nonneg (by decide))
          have e3' := Int.ediv_le_self (256 ^ (i + 1)) n0
          have wq : IntKind.i64.wrap (v.num / 256 ^ (i + 1)) = v.num / 256 ^ (i + 1) := wrap64 (by omega) (by omega)
          have u8 : IntKind.u8.wrap (v.num / 256 ^ i % 256) = v.num / 256 ^ i % 256 := wrap8 (by omega) (by omega)
          have wy : IntKind.i64.wrap ((r : Int) - 1) = 11 - ((i + 1 : Nat) : Int) := (wrap64 (by omega) (by omega)).trans (by omega)
          have hs : setRange (setRange C (4 + (8 - i)) ((be i v.num).map (V.int .u8))) r [.int .u8 (v.num / 256 ^ i % 256)] = setRange C (4 + (8 - (i + 1))) ((be (i + 1) v.num).map (V.int .u8)) := by
            have := @sr_front C ((be i v.num).map (V.int .u8)) (.int .u8 (v.num / 256 ^ i % 256)) r (by rw [hbl, lC]; omega)
            rw [show r + 1 = 4 + (8 - i) by omega] at this
            rw [this, show 4 + (8 - (i + 1)) = r by omega]
            rfl
          have hb' : r ≤ 63 := by omega
          have hi1 : i + 1 ≤ 8 := by omega
          have n256 : ((256 : Int) = 0) = False := by simp
          simp +contextual -implicitDefEqProofs (maxSteps := 10000000) only [sx_seq, sxL_succ, lpQ_norm, lpQ_exit, lpQ_ret, loopQ_norm, loopQ_exit, loopQ_ret, sqQ_norm, sqQ_ret, sqQ_exit, sx_block, blkQ_norm, blkQ_exit, blkQ_ret, sx_cond, cdP_true, cdP_false, cdP_bool, sx_region, sx_draw, plainD, List.all_cons, List.all_nil, List.isEmpty_nil, List.isEmpty_cons, sxo_nil, sxo_cons, sxo_guard, gdS_bool, gdS_eff, gdS_tup, gdS_sel, gdS_seleff, sxK_def, wcall_some, effP_ret, effP_set, effP_none, effP_ite, wop_call, wop_cv, cvP_func, sx_ret, sx_exit, sx_skip, sx_clr, stays, ↓selV_wt, ↓selV_wf, ↓impB_wt, ↓impB_wf, ↓selV_nor, ↓impB_nor, ↓selV_nt, ↓selV_nf, ↓impB_nt, ↓impB_nf, wantB_true, wantB_false, ↓selV_true, ↓selV_false, ↓selV_and, ↓impB_true, ↓impB_false, ↓impB_and, impB_triv, valOf_some, retH_some, ↓prim_pick, pickO_true, pickO_false, pickO_and, pickO_or, pickO_andr, pickO_orr, pickO_orrn, pickO_orn, pickO_bb, pickAnd_bool, pickOr_bool, ↓selV_nn, ↓impB_nn, Bool.and_assoc, Bool.or_assoc, doOp, ev_fr, ev_cst, put_none, put_fr, get, ins, del, dels, Nat.reduceLT, Nat.reduceEqDiff, ↓reduceIte, reduceCtorEq, ne_eq, not_false_eq_true, implies_true, framed_pureF, framed_fb, framed_N, framed_pure, wop_prim, prim, YLD, mkA, V.cells, List.getElem?_cons_zero, List.getElem?_cons_succ, List.set_cons_zero, List.set_cons_succ, Nat.zero_add, Nat.add_zero, Nat.reduceAdd, Nat.reduceSub, Nat.reduceMul, Nat.reduceLeDiff, Nat.not_lt_zero, List.map_cons, List.map_nil, List.cons_append, List.nil_append, loadA, cellsAt, nAg, packA, opt_bind_some, opt_map_some, opt_bind_none, opt_map_none, List.drop, List.take, List.head?, List.length_cons, List.length_nil, binA, unA, eqCells, eqCell, negB, fillA, sr_nil, sr_cons, sr_succ, sr_all, sr_len, storeA, Ob.with, indexedI, V.oneCell, intOf?, retQ_ret, retQ_norm, resA, resA1, fr_getD, packR, sealDepth, shut_bool, shut_int, Option.some.injEq, V.bool.injEq, V.int.injEq, Bool.not_true, Bool.not_false, true_and, and_true, and_self, Bool.and_true, Bool.and_false, Bool.true_and, Bool.false_and, Bool.or_true, Bool.or_false, Bool.true_or, Bool.false_or, Bool.false_eq_true, Int.reduceLT, Int.reduceLE, Int.reduceToNat, Int.reduceNeg, shut_plain, freeL_cons, freeL_nil, free_int, free_bool, free_agg, free_str, free_nils, free_tup, free_sl, true_implies, false_implies, Nat.sub_zero, Int.natCast_nonneg, Int.toNat_natCast, Nat.le_refl, not_true_eq_false, Int.reduceAdd, Int.reduceSub, Int.reduceMul, wrap64, false_and, and_false, cond_true, cond_false, Bool.cond_true_left, Bool.cond_false_right, Int.reduceBNe, Int.reduceBEq, decide_true, decide_false, Int.cast_ofNat_Int, Nat.mul_one, eq_self, Bool.true_eq_false, Bool.not_eq_true, Bool.not_eq_false, deads, List.replicate, argsF, f1, yr, ir, tm, td, wq, u8, wy, hs, hsl, hb', hi1, hlti, n256]
        · have ei : i = 8 := by omega
          subst ei
          have f1 : decide (y ≥ 4) = false := decide_eq_false (by omega)
          have e4 : 4 + (8 - 8) = 4 := rfl
          have lP : ((stP v (bitsM v.M) 8).map (V.int .u8)).length = 64 := by rw [List.length_map, stP_len hv _ (Nat.le_refl _)]
          have tP : List.take 64 ((stP v (bitsM v.M) 8).map (V.int .u8)) = (stP v (bitsM v.M) 8).map (V.int .u8) := List.take_of_length_le (by omega)
          have oP := allOne_ints .u8 (stP v (bitsM v.M) 8)
          have fP := freeL_ints .u8 (stP v (bitsM v.M) 8)
          simp +contextual -implicitDefEqProofs (maxSteps := 10000000) only [sx_seq, sxL_succ, lpQ_norm, lpQ_exit, lpQ_ret, loopQ_norm, loopQ_exit, loopQ_ret, sqQ_norm, sqQ_ret, sqQ_exit, sx_block, blkQ_norm, blkQ_exit, blkQ_ret, sx_cond, cdP_true, cdP_false, cdP_bool, sx_region, sx_draw, plainD, List.all_cons, List.all_nil, List.isEmpty_nil, List.isEmpty_cons, sxo_nil, sxo_cons, sxo_guard, gdS_bool, gdS_eff, gdS_tup, gdS_sel, gdS_seleff, sxK_def, wcall_some, effP_ret, effP_set, effP_none, effP_ite, wop_call, wop_cv, cvP_func, sx_ret, sx_exit, sx_skip, sx_clr, stays, ↓selV_wt, ↓selV_wf, ↓impB_wt, ↓impB_wf, ↓selV_nor, ↓impB_nor, ↓selV_nt, ↓selV_nf, ↓impB_nt, ↓impB_nf, wantB_true, wantB_false, ↓selV_true, ↓selV_false, ↓selV_and, ↓impB_true, ↓impB_false, ↓impB_and, impB_triv, valOf_some, retH_some, ↓prim_pick, pickO_true, pickO_false, pickO_and, pickO_or, pickO_andr, pickO_orr, pickO_orrn, pickO_orn, pickO_bb, pickAnd_bool, pickOr_bool, ↓selV_nn, ↓impB_nn, Bool.and_assoc, Bool.or_assoc, doOp, ev_fr, ev_cst, put_none, put_fr, get, ins, del, dels, Nat.reduceLT, Nat.reduceEqDiff, ↓reduceIte, reduceCtorEq, ne_eq, not_false_eq_true, implies_true, framed_pureF, framed_fb, framed_N, framed_pure, wop_prim, prim, YLD, mkA, V.cells, List.getElem?_cons_zero, List.getElem?_cons_succ, List.set_cons_zero, List.set_cons_succ, Nat.zero_add, Nat.add_zero, Nat.reduceAdd, Nat.reduceSub, Nat.reduceMul, Nat.reduceLeDiff, Nat.not_lt_zero, List.map_cons, List.map_nil, List.cons_append, List.nil_append, loadA, cellsAt, nAg, packA, opt_bind_some, opt_map_some, opt_bind_none, opt_map_none, List.drop, List.take, List.head?, List.length_cons, List.length_nil, binA, unA, eqCells, eqCell, negB, fillA, sr_nil, sr_cons, sr_succ, sr_all, sr_len, storeA, Ob.with, indexedI, V.oneCell, intOf?, retQ_ret, retQ_norm, resA, resA1, fr_getD, packR, sealDepth, shut_bool, shut_int, Option.some.injEq, V.bool.injEq, V.int.injEq, Bool.not_true, Bool.not_false, true_and, and_true, and_self, Bool.and_true, Bool.and_false, Bool.true_and, Bool.false_and, Bool.or_true, Bool.or_false, Bool.true_or, Bool.false_or, Bool.false_eq_true, Int.reduceLT, Int.reduceLE, Int.reduceToNat, Int.reduceNeg, shut_plain, freeL_cons, freeL_nil, free_int, free_bool, free_agg, free_str, free_nils, free_tup, free_sl, true_implies, false_implies, Nat.sub_zero, Int.natCast_nonneg, Int.toNat_natCast, Nat.le_refl, not_true_eq_false, Int.reduceAdd, Int.reduceSub, Int.reduceMul, wrap64, false_and, and_false, cond_true, cond_false, Bool.cond_true_left, Bool.cond_false_right, Int.reduceBNe, Int.reduceBEq, decide_true, decide_false, Int.cast_ofNat_Int, Nat.mul_one, eq_self, Bool.true_eq_false, Bool.not_eq_true, Bool.not_eq_false, deads, List.replicate, argsF, f1, e4, ee, lP, tP, oP, fP]
end Go.Am.T
