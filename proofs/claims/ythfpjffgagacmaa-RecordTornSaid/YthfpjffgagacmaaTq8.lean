import Derived.Test.YthfpjffgagacmaaTq7
import Derived.Test.YthfpjffgagacmaaTq3
import Derived.Test.YthfpjffgagacmaaTr3
set_option linter.unusedVariables false
set_option linter.unusedSimpArgs false
set_option maxRecDepth 10000
namespace Go.Am.T
attribute [local congr] selV_congr impB_congr

def secsSh : Sh := .arr 2 (.arr 64 (.int .u8))

theorem secs_in {vs : List V} (h : InSh secsSh vs) : ∃ A B : List Int, vs = A.map (V.int .u8) ++ B.map (V.int .u8) ∧ A.length = 64 ∧ B.length = 64 ∧ Bytes A ∧ Bytes B := by
  obtain ⟨us, hl, rfl, hu⟩ := h
  match us, hl with
  | [u, v], _ =>
    obtain ⟨A, rfl, h1, h2⟩ := in_bytes (hu u (by simp))
    obtain ⟨B, rfl, h3, h4⟩ := in_bytes (hu v (by simp))
    exact ⟨A, B, by simp, h1, h3, h2, h4⟩

theorem zeroR_ok : zeroR.Ok := ⟨rfl, by decide⟩

theorem recErr_is {o : Option Rec} (h : ∀ r, o = some r → r.Ok) : ∃ (R : Rec) (e : Int), recErr o = .tup [.agg R.cs, .int .i64 e] ∧ R.Ok ∧ (e == 0) = o.isSome := by
  cases o with
  | none => exact ⟨zeroR, 12, rfl, zeroR_ok, rfl⟩
  | some r => exact ⟨r, 0, rfl, h r rfl, rfl⟩

theorem stampV_is {o : Option (Rec × Nat)} (h : ∀ r k, o = some (r, k) → r.Ok) : ∃ (R : Rec) (k : Int) (b : Bool), stampV o = .tup [.agg R.cs, .int .i64 k, .bool b] ∧ R.Ok := by
  cases o with
  | none => exact ⟨zeroR, 0, false, rfl, zeroR_ok⟩
  | some p => exact ⟨p.1, p.2, true, rfl, h p.1 p.2 rfl⟩

theorem hdErrV_is (o : Option (Int × Int)) : ∃ a b e, hdErrV o = .tup [.agg [.int .i64 a, .int .i64 b], .int .i64 e] := by
  cases o with
  | none => exact ⟨_, _, _, rfl⟩
  | some p => exact ⟨_, _, _, rfl⟩

theorem getR_ok {A B : List Int} (ha : A.length = 64) (hb : B.length = 64) (ba : Bytes A) : ∀ r, getR A B = some r → r.Ok := by
  intro r h
  unfold getR at h
  split at h
  · cases h; exact saidR_ok ha hb ba
  · cases h

theorem stampR_ok {S : List Int} (ha : S.length = 64) (ba : Bytes S) : ∀ r k, stampR S = some (r, k) → r.Ok := by
  intro r k h
  have := saidR_ok ha ha ba (B := S)
  have hb : (saidR S S).bare.Ok := ⟨by simp [Rec.bare], this.lsn⟩
  unfold stampR at h
  split at h
  · split at h
    · cases h; exact hb
    · split at h
      · cases h; exact hb
      · cases h
  · cases h

theorem eqRec {R : Rec} (h : R.Ok) : eqCells [.i .i64, .i .i64, .i .i64, .i .i64, .i .i64, .i .u8, .i .u8, .i .u8, .i .u8, .i .u8, .i .u8, .i .u8, .i .u8, .i .u8, .i .u8, .i .u8, .i .u8, .i .u8, .i .u8, .i .u8, .i .u8, .i .u8, .i .u8, .i .u8, .i .u8, .i .u8, .i .u8, .i .u8, .i .u8, .i .u8, .i .u8, .i .u8, .i .u8, .i .u8, .i .u8, .i .u8, .i .u8, .i .u8, .i .u8, .i .u8, .i .u8, .i .u8, .i .u8, .i .u8, .i .u8, .i .u8, .i .u8, .i .u8, .i .u8, .i .u8, .i .u8, .i .u8, .i .u8, .i .u8, .i .u8, .i .u8, .i .u8, .i .u8, .i .u8, .i .u8, .i .u8, .i .u8, .i .u8, .i .u8, .i .u8, .i .u8, .i .u8, .i .u8, .i .u8, .i .u8, .i .u8, .i .u8, .i .u8, .i .u8, .i .u8, .i .u8, .i .u8, .i .u8, .i .u8, .i .u8, .i .u8, .i .u8, .i .u8, .i .u8, .i .u8, .i .u8, .i .u8, .i .u8, .i .u8, .i .u8, .i .u8, .i .u8, .i .u8, .i .u8, .i .u8, .i .u8, .i .u8, .i .u8, .i .u8, .i .u8, .i .u8] R.cs R.cs = some true := eqCells_self (ok_rec h)

theorem am10_is : am10.mode = .pure ∧ am10.nargs = 1 ∧ am10.nargs ≤ am10.nt := ⟨rfl, rfl, by decide⟩
theorem am10_wp {N n : Nat} {args : List V} {h : Heap} {v : V} (ha : args.length = 1) (hfree : V.freeL args = true)
    (H : sx ⟨pureOf am, callA am N n, N, 0⟩ am10.body (fr am10.nt (argsF 0 args)) (deads am10.sites) (retQ am10.res fun x h' => V.shut (fun o => h'[o]?) sealDepth x = some v)) : callA am N (n + 1) 10 args h = some (v, h) :=
  call_pure at10 am10_is.1 (ha.trans am10_is.2.1.symm) am10_is.2.2 hfree (sx_wp H)

set_option maxHeartbeats 2000000 in
theorem gets_spec {N n : Nat} (hN : 1000 ≤ N) (hn : 25 ≤ n) {A B : List Int} (ha : A.length = 64) (hb : B.length = 64) (ba : Bytes A) (bb : Bytes B) (h : Heap) :
    callA am N n 10 [.agg (A.map (V.int .u8) ++ B.map (V.int .u8))] h = some (.bool true, h) := by
  obtain ⟨n, rfl⟩ : ∃ m, n = m + 1 := ⟨n - 1, by omega⟩
  obtain ⟨R, e, hR, oR, zR⟩ := recErr_is (getR_ok ha hb ba)
  obtain ⟨RA, kA, fA, hA, oA⟩ := stampV_is (stampR_ok ha ba)
  obtain ⟨RB, kB, fB, hB, oB⟩ := stampV_is (stampR_ok hb bb)
  obtain ⟨a1, a2, a3, hHA⟩ := hdErrV_is (takeHd A)
  obtain ⟨b1, b2, b3, hHB⟩ := hdErrV_is (takeHd B)
  have c1 := @get_spec N n (by omega) (by omega) A B ha hb ba bb
  have c2 := @refGet_spec N n (by omega) (by omega) A B ha hb ba bb
  have c3 := @stamp_spec N n (by omega) (by omega) A ha ba
  have c4 := @refStamp_spec N n (by omega) (by omega) A ha ba
  have c5 := @stamp_spec N n (by omega) (by omega) B hb bb
  have c6 := @refStamp_spec N n (by omega) (by omega) B hb bb
  have c7 := @takeHead_spec N n (by omega) (by omega) A ha ba
  have c8 := @refTakeHead_spec N n (by omega) (by omega) A ha ba
  have c9 := @takeHead_spec N n (by omega) (by omega) B hb bb
  have c10 := @refTakeHead_spec N n (by omega) (by omega) B hb bb
  have c11 := @whole_spec N n (by omega) (by omega) A B ha hb ba bb
  have c12 := @num_spec N n (by omega)
  have c13 := @known4_spec N n (by omega) (by omega)
  rw [hR] at c1 c2
  rw [hA] at c3 c4
  rw [hB] at c5 c6
  rw [hHA] at c7 c8
  rw [hHB] at c9 c10
  rw [← zR] at c11
  simp only [secV] at c1 c2 c3 c4 c5 c6 c7 c8 c9 c10 c11
  obtain ⟨C, hC⟩ : ∃ C, C = A.map (V.int .u8) ++ B.map (V.int .u8) := ⟨_, rfl⟩
  have lC : C.length = 128 := by rw [hC]; simp [ha, hb]
  have tC : List.take 64 C = A.map (V.int .u8) := by
    have := blk_take (B := A.map (V.int .u8)) (n := 64) (by simp [ha]) (B.map (V.int .u8)) 0
    rw [hC]; simpa using this
  have dC : List.take 64 (List.drop 64 C) = B.map (V.int .u8) := by
    have := blk_drop (B := A.map (V.int .u8)) (n := 64) (by simp [ha]) (B.map (V.int .u8)) 0
    rw [Nat.zero_add] at this
    rw [hC, this, List.drop_zero, List.take_of_length_le (by simp [hb])]
  have fC : V.freeL C = true := by rw [hC, freeL_append, freeL_ints, freeL_ints]; rfl
  rw [← hC]
  have qR := eqRec oR
  have qA := eqRec oA
  have qB := eqRec oB
  have lR := Rec.len oR
  have lA := Rec.len oA
  have lB := Rec.len oB
  have tR : List.take 101 R.cs = R.cs := List.take_of_length_le (by omega)
  have tA : List.take 101 RA.cs = RA.cs := List.take_of_length_le (by omega)
  have tB : List.take 101 RB.cs = RB.cs := List.take_of_length_le (by omega)
  have uR := one_rec' R
  have uA := one_rec' RA
  have uB := one_rec' RB
  refine am10_wp rfl (by simp [freeL_cons, freeL_nil, free_agg, fC]) ?_
  simp +contextual -implicitDefEqProofs (maxSteps := 10000000) only [sx_seq, sxL_succ, lpQ_norm, lpQ_exit, lpQ_ret, loopQ_norm, loopQ_exit, loopQ_ret, sqQ_norm, sqQ_ret, sqQ_exit, sx_block, blkQ_norm, blkQ_exit, blkQ_ret, sx_cond, cdP_true, cdP_false, cdP_bool, sx_region, sx_draw, plainD, List.all_cons, List.all_nil, List.isEmpty_nil, List.isEmpty_cons, sxo_nil, sxo_cons, sxo_guard, gdS_bool, gdS_eff, gdS_tup, gdS_sel, gdS_seleff, sxK_def, wcall_some, effP_ret, effP_set, effP_none, effP_ite, wop_call, wop_cv, cvP_func, sx_ret, sx_exit, sx_skip, sx_clr, stays, ↓selV_wt, ↓selV_wf, ↓impB_wt, ↓impB_wf, ↓selV_nor, ↓impB_nor, ↓selV_nt, ↓selV_nf, ↓impB_nt, ↓impB_nf, wantB_true, wantB_false, ↓selV_true, ↓selV_false, ↓selV_and, ↓impB_true, ↓impB_false, ↓impB_and, impB_triv, valOf_some, retH_some, ↓prim_pick, pickO_true, pickO_false, pickO_and, pickO_or, pickO_andr, pickO_orr, pickO_orrn, pickO_orn, pickO_bb, pickAnd_bool, pickOr_bool, ↓selV_nn, ↓impB_nn, Bool.and_assoc, Bool.or_assoc, doOp, ev_fr, ev_cst, put_none, put_fr, get, ins, del, dels, Nat.reduceLT, Nat.reduceEqDiff, ↓reduceIte, reduceCtorEq, ne_eq, not_false_eq_true, implies_true, framed_pureF, framed_fb, framed_N, framed_pure, wop_prim, prim, mkA, V.cells, List.getElem?_cons_zero, List.getElem?_cons_succ, List.set_cons_zero, List.set_cons_succ, Nat.zero_add, Nat.add_zero, Nat.reduceAdd, Nat.reduceSub, Nat.reduceMul, Nat.reduceLeDiff, Nat.not_lt_zero, List.map_cons, List.map_nil, List.cons_append, List.nil_append, loadA, cellsAt, nAg, packA, opt_bind_some, opt_map_some, opt_bind_none, opt_map_none, List.drop, List.take, List.head?, List.length_cons, List.length_nil, binA, unA, eqCells, eqCell, negB, fillA, sr_nil, sr_cons, sr_succ, sr_all, sr_len, storeA, Ob.with, indexedI, V.oneCell, intOf?, retQ_ret, retQ_norm, resA, resA1, fr_getD, packR, sealDepth, shut_bool, shut_int, Option.some.injEq, V.bool.injEq, V.int.injEq, Bool.not_true, Bool.not_false, true_and, and_true, and_self, Bool.and_true, Bool.and_false, Bool.true_and, Bool.false_and, Bool.or_true, Bool.or_false, Bool.true_or, Bool.false_or, Bool.false_eq_true, Int.reduceLT, Int.reduceLE, Int.reduceToNat, Int.reduceNeg, shut_plain, freeL_cons, freeL_nil, free_int, free_bool, free_agg, free_str, free_nils, free_tup, free_sl, true_implies, false_implies, Nat.sub_zero, Int.natCast_nonneg, Int.toNat_natCast, Nat.le_refl, not_true_eq_false, Int.reduceAdd, Int.reduceSub, Int.reduceMul, wrap64, false_and, and_false, cond_true, cond_false, Bool.cond_true_left, Bool.cond_false_right, Int.reduceBNe, Int.reduceBEq, decide_true, decide_false, Int.cast_ofNat_Int, Nat.mul_one, eq_self, Bool.true_eq_false, Bool.not_eq_true, Bool.not_eq_false, deads, List.replicate, argsF, am10, lC, tC, dC, c1, c2, pm38, pm41, lR, tR, uR]
  refine sx_unroll 3 (by show 3 ≤ N; omega) ?_
  simp +contextual -implicitDefEqProofs (maxSteps := 10000000) only [sx_seq, sxL_succ, lpQ_norm, lpQ_exit, lpQ_ret, loopQ_norm, loopQ_exit, loopQ_ret, sqQ_norm, sqQ_ret, sqQ_exit, sx_block, blkQ_norm, blkQ_exit, blkQ_ret, sx_cond, cdP_true, cdP_false, cdP_bool, sx_region, sx_draw, plainD, List.all_cons, List.all_nil, List.isEmpty_nil, List.isEmpty_cons, sxo_nil, sxo_cons, sxo_guard, gdS_bool, gdS_eff, gdS_tup, gdS_sel, gdS_seleff, sxK_def, wcall_some, effP_ret, effP_set, effP_none, effP_ite, wop_call, wop_cv, cvP_func, sx_ret, sx_exit, sx_skip, sx_clr, stays, ↓selV_wt, ↓selV_wf, ↓impB_wt, ↓impB_wf, ↓selV_nor, ↓impB_nor, ↓selV_nt, ↓selV_nf, ↓impB_nt, ↓impB_nf, wantB_true, wantB_false, ↓selV_true, ↓selV_false, ↓selV_and, ↓impB_true, ↓impB_false, ↓impB_and, impB_triv, valOf_some, retH_some, ↓prim_pick, pickO_true, pickO_false, pickO_and, pickO_or, pickO_andr, pickO_orr, pickO_orrn, pickO_orn, pickO_bb, pickAnd_bool, pickOr_bool, ↓selV_nn, ↓impB_nn, Bool.and_assoc, Bool.or_assoc, doOp, ev_fr, ev_cst, put_none, put_fr, get, ins, del, dels, Nat.reduceLT, Nat.reduceEqDiff, ↓reduceIte, reduceCtorEq, ne_eq, not_false_eq_true, implies_true, framed_pureF, framed_fb, framed_N, framed_pure, wop_prim, prim, mkA, V.cells, List.getElem?_cons_zero, List.getElem?_cons_succ, List.set_cons_zero, List.set_cons_succ, Nat.zero_add, Nat.add_zero, Nat.reduceAdd, Nat.reduceSub, Nat.reduceMul, Nat.reduceLeDiff, Nat.not_lt_zero, List.map_cons, List.map_nil, List.cons_append, List.nil_append, loadA, cellsAt, nAg, packA, opt_bind_some, opt_map_some, opt_bind_none, opt_map_none, List.drop, List.take, List.head?, List.length_cons, List.length_nil, binA, unA, eqCells, eqCell, negB, fillA, sr_nil, sr_cons, sr_succ, sr_all, sr_len, storeA, Ob.with, indexedI, V.oneCell, intOf?, retQ_ret, retQ_norm, resA, resA1, fr_getD, packR, sealDepth, shut_bool, shut_int, Option.some.injEq, V.bool.injEq, V.int.injEq, Bool.not_true, Bool.not_false, true_and, and_true, and_self, Bool.and_true, Bool.and_false, Bool.true_and, Bool.false_and, Bool.or_true, Bool.or_false, Bool.true_or, Bool.false_or, Bool.false_eq_true, Int.reduceLT, Int.reduceLE, Int.reduceToNat, Int.reduceNeg, shut_plain, freeL_cons, freeL_nil, free_int, free_bool, free_agg, free_str, free_nils, free_tup, free_sl, true_implies, false_implies, Nat.sub_zero, Int.natCast_nonneg, Int.toNat_natCast, Nat.le_refl, not_true_eq_false, Int.reduceAdd, Int.reduceSub, Int.reduceMul, wrap64, false_and, and_false, cond_true, cond_false, Bool.cond_true_left, Bool.cond_false_right, Int.reduceBNe, Int.reduceBEq, decide_true, decide_false, Int.cast_ofNat_Int, Nat.mul_one, eq_self, Bool.true_eq_false, Bool.not_eq_true, Bool.not_eq_false, deads, List.replicate, argsF, lC, tC, dC, c3, c4, c5, c6, c7, c8, c9, c10, c11, c12, c13, pm25, pm31, pm40, pm42, pm43, pm35, pm44, lR, tR, uR, lA, tA, uA, lB, tB, uB, qR, qA, qB, Int.reduceToNat, beq_self_eq_true, bne_self_eq_false, Int.toNat_zero]

theorem runsRecordGets {u : V} (h1 : InP true secsSh u) : ∃ N n, callA am N n 10 [u] [] = some (.bool true, []) := by
  obtain ⟨cs, rfl, h⟩ := h1
  obtain ⟨A, B, rfl, ha, hb, ba, bb⟩ := secs_in h
  exact ⟨1000, 30, gets_spec (by omega) (by omega) ha hb ba bb []⟩
end Go.Am.T
