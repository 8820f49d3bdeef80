import Derived.Test.YthfpjffgagacmaaTq4
set_option linter.unusedVariables false
set_option linter.unusedSimpArgs false
set_option maxRecDepth 10000
namespace Go.Am.T
attribute [local congr] selV_congr impB_congr

theorem set_at {L M : List V} {x y : V} {n : Nat} (h : L.length = n) : setRange (L ++ y :: M) n [x] = L ++ x :: M := by
  have := blk_set h (y :: M) 0 [x]
  rw [Nat.zero_add] at this
  rw [this, sr_cons, sr_nil]

def saidC (F XA XB : List V) (j : Nat) : List V := F ++ (XA.take j ++ (List.replicate (48 - j) (.int .u8 0) ++ (XB.take j ++ List.replicate (48 - j) (.int .u8 0))))
def saidD (F XA XB : List V) (j : Nat) : List V := F ++ (XA.take (j + 1) ++ (List.replicate (47 - j) (.int .u8 0) ++ (XB.take j ++ List.replicate (48 - j) (.int .u8 0))))

theorem saidC_length {F XA XB : List V} {j : Nat} (hF : F.length = 5) (hA : XA.length = 48) (hB : XB.length = 48) (hj : j ≤ 48) : (saidC F XA XB j).length = 101 := by
  simp [saidC, hF, hA, hB]; omega

theorem saidD_length {F XA XB : List V} {j : Nat} (hF : F.length = 5) (hA : XA.length = 48) (hB : XB.length = 48) (hj : j < 48) : (saidD F XA XB j).length = 101 := by
  simp [saidD, hF, hA, hB]; omega

theorem saidC_set {F XA XB : List V} {j : Nat} {x : V} (hF : F.length = 5) (hA : XA.length = 48) (hj : j < 48) (hx : XA[j]? = some x) : setRange (saidC F XA XB j) (5 + j) [x] = saidD F XA XB j := by
  have h1 : 48 - j = (47 - j) + 1 := by omega
  have h2 : XA.take (j + 1) = XA.take j ++ [x] := by rw [List.take_add_one, hx]; rfl
  unfold saidC saidD
  have h3 : ∀ R : List V, List.replicate (48 - j) (V.int .u8 0) ++ R = V.int .u8 0 :: (List.replicate (47 - j) (V.int .u8 0) ++ R) := fun R => by rw [h1, List.replicate_succ]; rfl
  rw [h2, h3 (XB.take j ++ List.replicate (48 - j) (V.int .u8 0)), ← List.append_assoc, set_at (by simp [hF, hA]; omega)]
  simp only [List.append_assoc, List.cons_append, List.nil_append]

theorem saidD_set {F XA XB : List V} {j : Nat} {x : V} (hF : F.length = 5) (hA : XA.length = 48) (hB : XB.length = 48) (hj : j < 48) (hx : XB[j]? = some x) : setRange (saidD F XA XB j) (5 + (48 + j)) [x] = saidC F XA XB (j + 1) := by
  have h1 : 48 - j = (47 - j) + 1 := by omega
  have h2 : XB.take (j + 1) = XB.take j ++ [x] := by rw [List.take_add_one, hx]; rfl
  unfold saidC saidD
  rw [h2, h1, List.replicate_succ, show 48 - (j + 1) = 47 - j by omega, ← List.append_assoc, ← List.append_assoc, ← List.append_assoc, set_at (by simp [hF, hA, hB]; omega)]
  simp only [List.append_assoc, List.cons_append, List.nil_append]

theorem am62_is : am62.mode = .pure ∧ am62.nargs = 2 ∧ am62.nargs ≤ am62.nt := ⟨rfl, rfl, by decide⟩
theorem am62_wp {N n : Nat} {args : List V} {h : Heap} {v : V} (ha : args.length = 2) (hfree : V.freeL args = true)
    (H : sx ⟨pureOf am, callA am N n, N, 0⟩ am62.body (fr am62.nt (argsF 0 args)) (deads am62.sites) (retQ am62.res fun x h' => V.shut (fun o => h'[o]?) sealDepth x = some v)) : callA am N (n + 1) 62 args h = some (v, h) :=
  call_pure at62 am62_is.1 (ha.trans am62_is.2.1.symm) am62_is.2.2 hfree (sx_wp H)

theorem zeroR_len : zeroR.cs.length = 101 := rfl

set_option maxHeartbeats 1000000 in
theorem refSaid_spec {N n : Nat} (hN : 60 ≤ N) (hn : 2 ≤ n) {A B : List Int} (ha : A.length = 64) (hb : B.length = 64) (ba : Bytes A) (bb : Bytes B) (h : Heap) : callA am N n 62 [secV A, secV B] h = some ((saidR A B).v, h) := by
  obtain ⟨n, rfl⟩ : ∃ m, n = m + 1 := ⟨n - 1, by omega⟩
  have c1 : ∀ h, callA am N n 63 [.agg (A.map (V.int .u8)), .int .i64 2] h = some (.int .i64 (num4 A 2), h) := @number_spec N n (by omega) (by omega) A ha ba 2 (by omega)
  have c2 : ∀ h, callA am N n 63 [.agg (A.map (V.int .u8)), .int .i64 6] h = some (.int .i64 (num4 A 6), h) := @number_spec N n (by omega) (by omega) A ha ba 6 (by omega)
  have c3 : ∀ h, callA am N n 63 [.agg (A.map (V.int .u8)), .int .i64 10] h = some (.int .i64 (num4 A 10), h) := @number_spec N n (by omega) (by omega) A ha ba 10 (by omega)
  have tA : List.take 64 (A.map (V.int .u8)) = A.map (V.int .u8) := List.take_of_length_le (by simp [ha])
  have e1 := ints_at .u8 (l := A) (i := 1) (by omega)
  have b1 := bytes_at ba 1
  have g0 : IntKind.i64.wrap (A.getD 1 0) = A.getD 1 0 := wrap64 (by omega) (by omega)
  have g1 : (A.getD 1 0).tdiv 16 = A.getD 1 0 / 16 := Int.tdiv_eq_ediv_of_nonneg b1.1
  have g2 : (A.getD 1 0).tmod 16 = A.getD 1 0 % 16 := Int.tmod_eq_emod_of_nonneg b1.1
  have w1 : IntKind.i64.wrap (A.getD 1 0 / 16) = A.getD 1 0 / 16 := wrap64 (by omega) (by omega)
  have w2 : IntKind.i64.wrap (A.getD 1 0 % 16) = A.getD 1 0 % 16 := wrap64 (by omega) (by omega)
  refine am62_wp rfl (by simp [freeL_cons, freeL_nil, secV_free]) ?_
  simp +contextual -implicitDefEqProofs (maxSteps := 10000000) only [sx_seq, sxL_succ, lpQ_norm, lpQ_exit, lpQ_ret, loopQ_norm, loopQ_exit, loopQ_ret, sqQ_norm, sqQ_ret, sqQ_exit, sx_block, blkQ_norm, blkQ_exit, blkQ_ret, sx_cond, cdP_true, cdP_false, cdP_bool, sx_region, sx_draw, plainD, List.all_cons, List.all_nil, List.isEmpty_nil, List.isEmpty_cons, sxo_nil, sxo_cons, sxo_guard, gdS_bool, gdS_eff, gdS_tup, gdS_sel, gdS_seleff, sxK_def, wcall_some, effP_ret, effP_set, effP_none, effP_ite, wop_call, wop_cv, cvP_func, sx_ret, sx_exit, sx_skip, sx_clr, stays, ↓selV_wt, ↓selV_wf, ↓impB_wt, ↓impB_wf, ↓selV_nor, ↓impB_nor, ↓selV_nt, ↓selV_nf, ↓impB_nt, ↓impB_nf, wantB_true, wantB_false, ↓selV_true, ↓selV_false, ↓selV_and, ↓impB_true, ↓impB_false, ↓impB_and, impB_triv, valOf_some, retH_some, ↓prim_pick, pickO_true, pickO_false, pickO_and, pickO_or, pickO_andr, pickO_orr, pickO_orrn, pickO_orn, pickO_bb, pickAnd_bool, pickOr_bool, ↓selV_nn, ↓impB_nn, Bool.and_assoc, Bool.or_assoc, doOp, ev_fr, ev_cst, put_none, put_fr, get, ins, del, dels, Nat.reduceLT, Nat.reduceEqDiff, ↓reduceIte, reduceCtorEq, ne_eq, not_false_eq_true, implies_true, framed_pureF, framed_fb, framed_N, framed_pure, wop_prim, prim, mkA, V.cells, List.getElem?_cons_zero, List.getElem?_cons_succ, List.set_cons_zero, List.set_cons_succ, Nat.zero_add, Nat.add_zero, Nat.reduceAdd, Nat.reduceSub, Nat.reduceMul, Nat.reduceLeDiff, Nat.not_lt_zero, List.map_cons, List.map_nil, List.cons_append, List.nil_append, loadA, cellsAt, nAg, packA, opt_bind_some, opt_map_some, opt_bind_none, opt_map_none, List.drop, List.take, List.head?, List.length_cons, List.length_nil, binA, unA, eqCells, eqCell, negB, fillA, sr_nil, sr_cons, sr_succ, sr_all, sr_len, storeA, Ob.with, indexedI, V.oneCell, intOf?, retQ_ret, retQ_norm, resA, resA1, fr_getD, packR, sealDepth, shut_bool, shut_int, Option.some.injEq, V.bool.injEq, V.int.injEq, Bool.not_true, Bool.not_false, true_and, and_true, and_self, Bool.and_true, Bool.and_false, Bool.true_and, Bool.false_and, Bool.or_true, Bool.or_false, Bool.true_or, Bool.false_or, Bool.false_eq_true, Int.reduceLT, Int.reduceLE, Int.reduceToNat, Int.reduceNeg, shut_plain, freeL_cons, freeL_nil, free_int, free_bool, free_agg, free_str, free_nils, free_tup, free_sl, true_implies, false_implies, Nat.sub_zero, Int.natCast_nonneg, Int.toNat_natCast, Nat.le_refl, not_true_eq_false, Int.reduceAdd, Int.reduceSub, Int.reduceMul, wrap64, false_and, and_false, cond_true, cond_false, Bool.cond_true_left, Bool.cond_false_right, Int.reduceBNe, Int.reduceBEq, decide_true, decide_false, Int.cast_ofNat_Int, Nat.mul_one, eq_self, Bool.true_eq_false, Bool.not_eq_true, Bool.not_eq_false, deads, List.replicate, argsF, am62, secV, tA, List.length_map, ha, hb, c1, c2, c3, pm63, sx_drawd, wpd_nil, wpd_cons, wdK_def, fpOf, fpV, fpCall, Fp.ok, disj, List.contains_cons, List.contains_nil, Nat.reduceBEq, List.all_append, V.objsL, V.objs,  List.getD_cons_zero, List.getD_cons_succ, List.append_nil, e1, g0, g1, g2, w1, w2, Int.reduceToNat, Int.reduceEq]
  obtain ⟨F, hF⟩ : ∃ F, F = [V.int .i64 (A.getD 1 0 / 16), V.int .i64 (num4 A 2), V.int .i64 (num4 A 6), V.int .i64 (A.getD 1 0 % 16), V.int .i64 (num4 A 10)] := ⟨_, rfl⟩
  obtain ⟨XA, hXA⟩ : ∃ X, X = ((A.drop 14).take 48).map (V.int .u8) := ⟨_, rfl⟩
  obtain ⟨XB, hXB⟩ : ∃ X, X = ((B.drop 14).take 48).map (V.int .u8) := ⟨_, rfl⟩
  have lF : F.length = 5 := by rw [hF]; rfl
  have lA : XA.length = 48 := by rw [hXA]; simp [ha]
  have lB : XB.length = 48 := by rw [hXB]; simp [hb]
  have oF : F.all V.oneCell = true := by rw [hF]; rfl
  have oA : XA.all V.oneCell = true := by rw [hXA]; exact allOne_ints _ _
  have oB : XB.all V.oneCell = true := by rw [hXB]; exact allOne_ints _ _
  have fF : V.freeL F = true := by rw [hF]; rfl
  have fA : V.freeL XA = true := by rw [hXA]; exact freeL_ints _ _
  have fB : V.freeL XB = true := by rw [hXB]; exact freeL_ints _ _
  refine sx_loop (fun j t h => t = fr 42 [(2, .ptr 0 1 0), (3, .ptr 1 1 0), (4, .ptr 2 1 0), (5, .ptr 3 1 0), (6, .int .i64 (j : Nat))] ∧ j ≤ 48 ∧ h = [⟨1, .var (A.map (V.int .u8))⟩, ⟨1, .var (B.map (V.int .u8))⟩, ⟨1, .var zeroR.cs⟩, ⟨1, .var (saidC F XA XB j)⟩]) 48 (by show 48 < N; omega) ⟨rfl, by omega, by rw [hF]; rfl⟩ ?_
  rintro j t h hj ⟨rfl, hj8, rfl⟩
  have hzl := zeroR_len
  by_cases hlt : j < 48
  · have d1 : decide ((j : Int) < 48) = true := decide_eq_true (by omega)
    have w14 : IntKind.i64.wrap (14 + (j : Int)) = ((14 + j : Nat) : Int) := (wrap64 (by omega) (by omega)).trans (by omega)
    have w48 : IntKind.i64.wrap (48 + (j : Int)) = ((48 + j : Nat) : Int) := (wrap64 (by omega) (by omega)).trans (by omega)
    have w1 : IntKind.i64.wrap ((j : Int) + 1) = ((j + 1 : Nat) : Int) := (wrap64 (by omega) (by omega)).trans (by omega)
    have i1 : (j : Int) < 96 := by omega
    have i2 : ((14 + j : Nat) : Int) < 64 := by omega
    have i3 : ((48 + j : Nat) : Int) < 96 := by omega
    have k1 : 5 + j + 1 ≤ 101 := by omega
    have k2 : 14 + j + 1 ≤ 64 := by omega
    have k3 : 5 + (48 + j) + 1 ≤ 101 := by omega
    have rA := ints_at .u8 (l := A) (i := 14 + j) (by omega)
    have rB := ints_at .u8 (l := B) (i := 14 + j) (by omega)
    have hxA : XA[j]? = some (.int .u8 (A.getD (14 + j) 0)) := by
      rw [hXA, List.getElem?_map, List.getElem?_take_of_lt hlt, List.getElem?_drop, List.getElem?_eq_getElem (by omega)]
      simp [List.getD_eq_getElem?_getD, show 14 + j < A.length by omega]
    have hxB : XB[j]? = some (.int .u8 (B.getD (14 + j) 0)) := by
      rw [hXB, List.getElem?_map, List.getElem?_take_of_lt hlt, List.getElem?_drop, List.getElem?_eq_getElem (by omega)]
      simp [List.getD_eq_getElem?_getD, show 14 + j < B.length by omega]
    have s1 := saidC_set (XB := XB) lF lA hlt hxA
    have s2 := saidD_set lF lA lB hlt hxB
    have l1 := saidC_length (j := j) lF lA lB (by omega)
    have l2 := saidD_length lF lA lB hlt
    have hj1 : j + 1 ≤ 48 := by omega
    simp +contextual -implicitDefEqProofs (maxSteps := 10000000) only [sx_seq, sxL_succ, lpQ_norm, lpQ_exit, lpQ_ret, loopQ_norm, loopQ_exit, loopQ_ret, sqQ_norm, sqQ_ret, sqQ_exit, sx_block, blkQ_norm, blkQ_exit, blkQ_ret, sx_cond, cdP_true, cdP_false, cdP_bool, sx_region, sx_draw, plainD, List.all_cons, List.all_nil, List.isEmpty_nil, List.isEmpty_cons, sxo_nil, sxo_cons, sxo_guard, gdS_bool, gdS_eff, gdS_tup, gdS_sel, gdS_seleff, sxK_def, wcall_some, effP_ret, effP_set, effP_none, effP_ite, wop_call, wop_cv, cvP_func, sx_ret, sx_exit, sx_skip, sx_clr, stays, ↓selV_wt, ↓selV_wf, ↓impB_wt, ↓impB_wf, ↓selV_nor, ↓impB_nor, ↓selV_nt, ↓selV_nf, ↓impB_nt, ↓impB_nf, wantB_true, wantB_false, ↓selV_true, ↓selV_false, ↓selV_and, ↓impB_true, ↓impB_false, ↓impB_and, impB_triv, valOf_some, retH_some, ↓prim_pick, pickO_true, pickO_false, pickO_and, pickO_or, pickO_andr, pickO_orr, pickO_orrn, pickO_orn, pickO_bb, pickAnd_bool, pickOr_bool, ↓selV_nn, ↓impB_nn, Bool.and_assoc, Bool.or_assoc, doOp, ev_fr, ev_cst, put_none, put_fr, get, ins, del, dels, Nat.reduceLT, Nat.reduceEqDiff, ↓reduceIte, reduceCtorEq, ne_eq, not_false_eq_true, implies_true, framed_pureF, framed_fb, framed_N, framed_pure, wop_prim, prim, mkA, V.cells, List.getElem?_cons_zero, List.getElem?_cons_succ, List.set_cons_zero, List.set_cons_succ, Nat.zero_add, Nat.add_zero, Nat.reduceAdd, Nat.reduceSub, Nat.reduceMul, Nat.reduceLeDiff, Nat.not_lt_zero, List.map_cons, List.map_nil, List.cons_append, List.nil_append, loadA, cellsAt, nAg, packA, opt_bind_some, opt_map_some, opt_bind_none, opt_map_none, List.drop, List.take, List.head?, List.length_cons, List.length_nil, binA, unA, eqCells, eqCell, negB, fillA, sr_nil, sr_cons, sr_succ, sr_all, sr_len, storeA, Ob.with, indexedI, V.oneCell, intOf?, retQ_ret, retQ_norm, resA, resA1, fr_getD, packR, sealDepth, shut_bool, shut_int, Option.some.injEq, V.bool.injEq, V.int.injEq, Bool.not_true, Bool.not_false, true_and, and_true, and_self, Bool.and_true, Bool.and_false, Bool.true_and, Bool.false_and, Bool.or_true, Bool.or_false, Bool.true_or, Bool.false_or, Bool.false_eq_true, Int.reduceLT, Int.reduceLE, Int.reduceToNat, Int.reduceNeg, shut_plain, freeL_cons, freeL_nil, free_int, free_bool, free_agg, free_str, free_nils, free_tup, free_sl, true_implies, false_implies, Nat.sub_zero, Int.natCast_nonneg, Int.toNat_natCast, Nat.le_refl, not_true_eq_false, Int.reduceAdd, Int.reduceSub, Int.reduceMul, wrap64, false_and, and_false, cond_true, cond_false, Bool.cond_true_left, Bool.cond_false_right, Int.reduceBNe, Int.reduceBEq, decide_true, decide_false, Int.cast_ofNat_Int, Nat.mul_one, eq_self, Bool.true_eq_false, Bool.not_eq_true, Bool.not_eq_false, deads, List.replicate, argsF, d1, w14, w48, w1, i1, i2, i3, k1, k2, k3, rA, rB, s1, s2, l1, l2, hj1, sx_drawd, wpd_nil, wpd_cons, wdK_def, fpOf, fpV, fpCall, Fp.ok, disj, List.contains_cons, List.contains_nil, Nat.reduceBEq, List.all_append, V.objsL, V.objs,  List.getD_cons_zero, List.getD_cons_succ, List.append_nil, List.length_map, ha, hb]
    exact hlt
  · have e : j = 48 := by omega
    subst e
    have d1 : decide (((48 : Nat) : Int) < 48) = false := rfl
    have l1 := saidC_length (j := 48) lF lA lB (by omega)
    have tk : List.take 101 (saidC F XA XB 48) = saidC F XA XB 48 := List.take_of_length_le (by omega)
    have eq : saidC F XA XB 48 = F ++ (XA ++ XB) := by
      unfold saidC
      rw [List.take_of_length_le (by omega), List.take_of_length_le (by omega)]
      simp
    have oc : (saidC F XA XB 48).all V.oneCell = true := by rw [eq, List.all_append, List.all_append, oF, oA, oB]; rfl
    have fc : V.freeL (saidC F XA XB 48) = true := by rw [eq, freeL_append, freeL_append, fF, fA, fB]; rfl
    simp +contextual -implicitDefEqProofs (maxSteps := 10000000) only [sx_seq, sxL_succ, lpQ_norm, lpQ_exit, lpQ_ret, loopQ_norm, loopQ_exit, loopQ_ret, sqQ_norm, sqQ_ret, sqQ_exit, sx_block, blkQ_norm, blkQ_exit, blkQ_ret, sx_cond, cdP_true, cdP_false, cdP_bool, sx_region, sx_draw, plainD, List.all_cons, List.all_nil, List.isEmpty_nil, List.isEmpty_cons, sxo_nil, sxo_cons, sxo_guard, gdS_bool, gdS_eff, gdS_tup, gdS_sel, gdS_seleff, sxK_def, wcall_some, effP_ret, effP_set, effP_none, effP_ite, wop_call, wop_cv, cvP_func, sx_ret, sx_exit, sx_skip, sx_clr, stays, ↓selV_wt, ↓selV_wf, ↓impB_wt, ↓impB_wf, ↓selV_nor, ↓impB_nor, ↓selV_nt, ↓selV_nf, ↓impB_nt, ↓impB_nf, wantB_true, wantB_false, ↓selV_true, ↓selV_false, ↓selV_and, ↓impB_true, ↓impB_false, ↓impB_and, impB_triv, valOf_some, retH_some, ↓prim_pick, pickO_true, pickO_false, pickO_and, pickO_or, pickO_andr, pickO_orr, pickO_orrn, pickO_orn, pickO_bb, pickAnd_bool, pickOr_bool, ↓selV_nn, ↓impB_nn, Bool.and_assoc, Bool.or_assoc, doOp, ev_fr, ev_cst, put_none, put_fr, get, ins, del, dels, Nat.reduceLT, Nat.reduceEqDiff, ↓reduceIte, reduceCtorEq, ne_eq, not_false_eq_true, implies_true, framed_pureF, framed_fb, framed_N, framed_pure, wop_prim, prim, mkA, V.cells, List.getElem?_cons_zero, List.getElem?_cons_succ, List.set_cons_zero, List.set_cons_succ, Nat.zero_add, Nat.add_zero, Nat.reduceAdd, Nat.reduceSub, Nat.reduceMul, Nat.reduceLeDiff, Nat.not_lt_zero, List.map_cons, List.map_nil, List.cons_append, List.nil_append, loadA, cellsAt, nAg, packA, opt_bind_some, opt_map_some, opt_bind_none, opt_map_none, List.drop, List.take, List.head?, List.length_cons, List.length_nil, binA, unA, eqCells, eqCell, negB, fillA, sr_nil, sr_cons, sr_succ, sr_all, sr_len, storeA, Ob.with, indexedI, V.oneCell, intOf?, retQ_ret, retQ_norm, resA, resA1, fr_getD, packR, sealDepth, shut_bool, shut_int, Option.some.injEq, V.bool.injEq, V.int.injEq, Bool.not_true, Bool.not_false, true_and, and_true, and_self, Bool.and_true, Bool.and_false, Bool.true_and, Bool.false_and, Bool.or_true, Bool.or_false, Bool.true_or, Bool.false_or, Bool.false_eq_true, Int.reduceLT, Int.reduceLE, Int.reduceToNat, Int.reduceNeg, shut_plain, freeL_cons, freeL_nil, free_int, free_bool, free_agg, free_str, free_nils, free_tup, free_sl, true_implies, false_implies, Nat.sub_zero, Int.natCast_nonneg, Int.toNat_natCast, Nat.le_refl, not_true_eq_false, Int.reduceAdd, Int.reduceSub, Int.reduceMul, wrap64, false_and, and_false, cond_true, cond_false, Bool.cond_true_left, Bool.cond_false_right, Int.reduceBNe, Int.reduceBEq, decide_true, decide_false, Int.cast_ofNat_Int, Nat.mul_one, eq_self, Bool.true_eq_false, Bool.not_eq_true, Bool.not_eq_false, deads, List.replicate, argsF, d1, l1, hzl, tk, oc, fc]
    rw [eq, hF, hXA, hXB]
    simp [saidR, Rec.v, Rec.cs]
end Go.Am.T
