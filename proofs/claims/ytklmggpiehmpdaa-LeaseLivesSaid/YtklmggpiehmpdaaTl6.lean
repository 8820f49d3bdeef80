import Derived.Test.YtklmggpiehmpdaaTl5
set_option linter.unusedVariables false
set_option linter.unusedSimpArgs false
set_option maxRecDepth 10000
namespace Go.Am.T
attribute [local congr] selV_congr impB_congr

/-- One object has become another one; more objects may have come. -/
structure Upd (h : Heap) (a : Nat) (x : Ob) (h1 : Heap) : Prop where
  at_ : h1[a]? = some x
  len : h.length ≤ h1.length
  other : ∀ o, o ≠ a → o < h.length → h1[o]? = h[o]?

theorem Upd.set_app {h : Heap} {a : Nat} {x : Ob} (ha : a < h.length) (l : List Ob) : Upd h a x (h.set a x ++ l) := by
  refine ⟨?_, by simp, fun o ho hl => ?_⟩
  · rw [List.getElem?_append_left (by simpa using ha), List.getElem?_set_self ha]
  · rw [List.getElem?_append_left (by simpa using hl), List.getElem?_set_ne (Ne.symm ho)]

/-- What a look makes of a watch, and what it answers. -/
def lookW (w : Wt) (n e b r : Int) : Wt × Bool × Int :=
  if badN w n = true then (w, false, 2) else if mayL e b r = false then (w, false, 2) else
  match w.S[n.toNat]? with
  | none => (w, false, 2)
  | some s => if (s.is && (s.e == e && (s.b == b && s.r == r))) = true then (w.put n.toNat { s with age := IntKind.i64.wrap (s.age + 1) }, decide (IntKind.i64.wrap (s.age + 1) ≥ w.pat), 0)
    else (w.put n.toNat ⟨true, e, b, r, 0⟩, decide (0 ≥ w.pat), 0)

theorem lookW_ok {w : Wt} (h : w.Ok) (n e b r : Int) : (lookW w n e b r).1.Ok := by
  unfold lookW
  split
  · exact h
  · split
    · exact h
    · split
      · exact h
      · split
        · exact Wt.putOk h _ _
        · exact Wt.putOk h _ _

theorem put_pat (w : Wt) (k : Nat) (s : Seen) : (w.put k s).pat = w.pat := rfl

theorem am16_wp {N n : Nat} {args : List V} {h h' : Heap} {v : V} (ha : args.length = 3)
    (H : sx ⟨pureOf am, callA am N n, N, h.length⟩ am16.body (fr am16.nt (argsF 0 args)) (h ++ deads am16.sites) (retQ am16.res fun x k => x = v ∧ k = h')) : callA am N (n + 1) 16 args h = some (v, h') :=
  call_keep_eq at16 rfl ha (by decide) (sx_wp H)
theorem am32_wp {N n : Nat} {args : List V} {h h' : Heap} {v : V} (ha : args.length = 3)
    (H : sx ⟨pureOf am, callA am N n, N, h.length⟩ am32.body (fr am32.nt (argsF 0 args)) (h ++ deads am32.sites) (retQ am32.res fun x k => x = v ∧ k = h')) : callA am N (n + 1) 32 args h = some (v, h') :=
  call_keep_eq at32 rfl ha (by decide) (sx_wp H)

set_option maxHeartbeats 2000000 in
theorem look_eq {N n : Nat} (hn : 3 ≤ n) {w : Wt} (hw : w.Ok) (x e b r : Int) {a : Nat} {h : Heap} (ha : h[a]? = some ⟨1, .var w.cs⟩) :
    callA am N n 16 [.ptr a 1 0, .int .i64 x, .agg [.int .i64 e, .int .i64 b, .int .i64 r]] h =
      some (.tup [.bool (lookW w x e b r).2.1, .int .i64 (lookW w x e b r).2.2], h.set a ⟨1, .var (lookW w x e b r).1.cs⟩ ++ [⟨1, .var [.int .i64 e, .int .i64 b, .int .i64 r]⟩]) := by
  obtain ⟨n, rfl⟩ : ∃ m, n = m + 1 := ⟨n - 1, by omega⟩
  have hal := lt_of_get ha
  have gA : ∀ l, (h ++ l)[a]? = some ⟨1, .var w.cs⟩ := fun l => by rw [List.getElem?_append_left hal]; exact ha
  have gS : ∀ l x, (h ++ l).set a x = h.set a x ++ l := fun l x => List.set_append_left _ _ hal
  have gT : ∀ l x, (h.set a x ++ l)[a]? = some x := fun l x => by rw [List.getElem?_append_left (by simpa using hal), List.getElem?_set_self hal]
  have c31 := fun l => @node_p N n (by omega) w hw x a (h ++ l) (gA l)
  have c24 := @may_spec N n (by omega) e b r
  have hl := Wt.cs_len hw
  have hd1 := @Wt.d1 w
  refine am16_wp rfl ?_
  cases hb : badN w x with
  | true =>
    rw [hb] at c31
    have eW : lookW w x e b r = (w, false, 2) := by unfold lookW; rw [if_pos hb]
    rw [eW]
    simp only [set_same ha]
    simp +contextual -implicitDefEqProofs (maxSteps := 10000000) only [sx_seq, sxL_succ, lpQ_norm, lpQ_exit, lpQ_ret, loopQ_norm, loopQ_exit, loopQ_ret, sqQ_norm, sqQ_ret, sqQ_exit, sx_block, blkQ_norm, blkQ_exit, blkQ_ret, sx_cond, cdP_true, cdP_false, cdP_bool, sx_region, sx_draw, plainD, List.all_cons, List.all_nil, List.isEmpty_nil, List.isEmpty_cons, sxo_nil, sxo_cons, sxo_guard, gdS_bool, gdS_eff, gdS_tup, gdS_sel, gdS_seleff, sxK_def, wcall_some, effP_ret, effP_set, effP_none, effP_ite, wop_call, wop_cv, cvP_func, sx_ret, sx_exit, sx_skip, sx_clr, stays, ↓selV_wt, ↓selV_wf, ↓impB_wt, ↓impB_wf, ↓selV_nor, ↓impB_nor, ↓selV_nt, ↓selV_nf, ↓impB_nt, ↓impB_nf, wantB_true, wantB_false, ↓selV_true, ↓selV_false, ↓selV_and, ↓impB_true, ↓impB_false, ↓impB_and, impB_triv, valOf_some, retH_some, ↓prim_pick, pickO_true, pickO_false, pickO_and, pickO_or, pickO_andr, pickO_orr, pickO_orrn, pickO_orn, pickO_bb, pickAnd_bool, pickOr_bool, ↓selV_nn, ↓impB_nn, Bool.and_assoc, Bool.or_assoc, doOp, ev_fr, ev_cst, put_none, put_fr, get, ins, del, dels, Nat.reduceLT, Nat.reduceEqDiff, ↓reduceIte, reduceCtorEq, ne_eq, not_false_eq_true, implies_true, framed_pureF, framed_fb, framed_N, framed_pure, wop_prim, prim, mkA, V.cells, List.getElem?_cons_zero, List.getElem?_cons_succ, List.set_cons_zero, List.set_cons_succ, Nat.zero_add, Nat.add_zero, Nat.reduceAdd, Nat.reduceSub, Nat.reduceMul, Nat.reduceLeDiff, Nat.not_lt_zero, List.map_cons, List.map_nil, List.cons_append, List.nil_append, loadA, cellsAt, nAg, packA, opt_bind_some, opt_map_some, opt_bind_none, opt_map_none, List.drop, List.take, List.head?, List.length_cons, List.length_nil, binA, unA, eqCells, eqCell, negB, fillA, sr_nil, sr_cons, sr_succ, sr_all, sr_len, storeA, Ob.with, indexedI, V.oneCell, intOf?, retQ_ret, retQ_norm, resA, resA1, fr_getD, packR, sealDepth, shut_bool, shut_int, Option.some.injEq, V.bool.injEq, V.int.injEq, Bool.not_true, Bool.not_false, true_and, and_true, and_self, Bool.and_true, Bool.and_false, Bool.true_and, Bool.false_and, Bool.or_true, Bool.or_false, Bool.true_or, Bool.false_or, Bool.false_eq_true, Int.reduceLT, Int.reduceLE, Int.reduceToNat, Int.reduceNeg, shut_plain, freeL_cons, freeL_nil, free_int, free_bool, free_agg, free_str, free_nils, free_tup, free_sl, true_implies, false_implies, Nat.sub_zero, Int.natCast_nonneg, Int.toNat_natCast, Nat.le_refl, not_true_eq_false, Int.reduceAdd, Int.reduceSub, Int.reduceMul, wrap64, false_and, and_false, cond_true, cond_false, Bool.cond_true_left, Bool.cond_false_right, Int.reduceBNe, Int.reduceBEq, decide_true, decide_false, Int.cast_ofNat_Int, Nat.mul_one, eq_self, Bool.true_eq_false, Bool.not_eq_true, Bool.not_eq_false, deads, List.replicate, argsF, am16, app_get0, app_set0, c31]
  | false =>
    rw [hb] at c31
    cases hm : mayL e b r with
    | false =>
      have eW : lookW w x e b r = (w, false, 2) := by unfold lookW; rw [if_neg (by simp [hb]), if_pos hm]
      rw [eW]
      simp only [set_same ha]
      simp +contextual -implicitDefEqProofs (maxSteps := 10000000) only [sx_seq, sxL_succ, lpQ_norm, lpQ_exit, lpQ_ret, loopQ_norm, loopQ_exit, loopQ_ret, sqQ_norm, sqQ_ret, sqQ_exit, sx_block, blkQ_norm, blkQ_exit, blkQ_ret, sx_cond, cdP_true, cdP_false, cdP_bool, sx_region, sx_draw, plainD, List.all_cons, List.all_nil, List.isEmpty_nil, List.isEmpty_cons, sxo_nil, sxo_cons, sxo_guard, gdS_bool, gdS_eff, gdS_tup, gdS_sel, gdS_seleff, sxK_def, wcall_some, effP_ret, effP_set, effP_none, effP_ite, wop_call, wop_cv, cvP_func, sx_ret, sx_exit, sx_skip, sx_clr, stays, ↓selV_wt, ↓selV_wf, ↓impB_wt, ↓impB_wf, ↓selV_nor, ↓impB_nor, ↓selV_nt, ↓selV_nf, ↓impB_nt, ↓impB_nf, wantB_true, wantB_false, ↓selV_true, ↓selV_false, ↓selV_and, ↓impB_true, ↓impB_false, ↓impB_and, impB_triv, valOf_some, retH_some, ↓prim_pick, pickO_true, pickO_false, pickO_and, pickO_or, pickO_andr, pickO_orr, pickO_orrn, pickO_orn, pickO_bb, pickAnd_bool, pickOr_bool, ↓selV_nn, ↓impB_nn, Bool.and_assoc, Bool.or_assoc, doOp, ev_fr, ev_cst, put_none, put_fr, get, ins, del, dels, Nat.reduceLT, Nat.reduceEqDiff, ↓reduceIte, reduceCtorEq, ne_eq, not_false_eq_true, implies_true, framed_pureF, framed_fb, framed_N, framed_pure, wop_prim, prim, mkA, V.cells, List.getElem?_cons_zero, List.getElem?_cons_succ, List.set_cons_zero, List.set_cons_succ, Nat.zero_add, Nat.add_zero, Nat.reduceAdd, Nat.reduceSub, Nat.reduceMul, Nat.reduceLeDiff, Nat.not_lt_zero, List.map_cons, List.map_nil, List.cons_append, List.nil_append, loadA, cellsAt, nAg, packA, opt_bind_some, opt_map_some, opt_bind_none, opt_map_none, List.drop, List.take, List.head?, List.length_cons, List.length_nil, binA, unA, eqCells, eqCell, negB, fillA, sr_nil, sr_cons, sr_succ, sr_all, sr_len, storeA, Ob.with, indexedI, V.oneCell, intOf?, retQ_ret, retQ_norm, resA, resA1, fr_getD, packR, sealDepth, shut_bool, shut_int, Option.some.injEq, V.bool.injEq, V.int.injEq, Bool.not_true, Bool.not_false, true_and, and_true, and_self, Bool.and_true, Bool.and_false, Bool.true_and, Bool.false_and, Bool.or_true, Bool.or_false, Bool.true_or, Bool.false_or, Bool.false_eq_true, Int.reduceLT, Int.reduceLE, Int.reduceToNat, Int.reduceNeg, shut_plain, freeL_cons, freeL_nil, free_int, free_bool, free_agg, free_str, free_nils, free_tup, free_sl, true_implies, false_implies, Nat.sub_zero, Int.natCast_nonneg, Int.toNat_natCast, Nat.le_refl, not_true_eq_false, Int.reduceAdd, Int.reduceSub, Int.reduceMul, wrap64, false_and, and_false, cond_true, cond_false, Bool.cond_true_left, Bool.cond_false_right, Int.reduceBNe, Int.reduceBEq, decide_true, decide_false, Int.cast_ofNat_Int, Nat.mul_one, eq_self, Bool.true_eq_false, Bool.not_eq_true, Bool.not_eq_false, deads, List.replicate, argsF, am16, app_get0, app_set0, c31, c24, pm24, hm]
    | true =>
      obtain ⟨h0, h1⟩ := badN_false hb
      obtain ⟨k, s, rfl, hk8, hk⟩ := Wt.at hw h0 h1
      obtain ⟨f0, f1, f4, f5, fp1, fp5⟩ := Wt.facts hk
      have l5 : 2 + k * 5 + 5 ≤ 42 := by omega
      have l1 : 2 + k * 5 + 1 ≤ 42 := by omega
      have l4 : 2 + k * 5 + 1 + 3 ≤ 42 := by omega
      have l6 : 2 + k * 5 + 4 + 1 ≤ 42 := by omega
      have hks : ∀ s', (w.put k s').S[k]? = some s' := fun s' => by simp [Wt.put, (List.getElem?_eq_some_iff.1 hk).1]
      have hl' : ∀ s', (w.put k s').cs.length = 42 := fun s' => Wt.cs_len (Wt.putOk hw k s')
      have f4' : ∀ s', List.take 1 (List.drop (2 + k * 5 + 4) (w.put k s').cs) = [.int .i64 s'.age] := fun s' => (Wt.facts (hks s')).d4
      have hd1' : ∀ s', List.take 1 (List.drop 1 (w.put k s').cs) = [.int .i64 w.pat] := fun s' => rfl
      cases hc : s.is && (s.e == e && (s.b == b && s.r == r)) with
      | true =>
        have eW : lookW w k e b r = (w.put k { s with age := IntKind.i64.wrap (s.age + 1) }, decide (IntKind.i64.wrap (s.age + 1) ≥ w.pat), 0) := by
          unfold lookW; rw [if_neg (by simp [hb]), if_neg (by simp [hm])]; simp only [Int.toNat_natCast, hk, hc, ↓reduceIte]
        rw [eW]
        simp +contextual -implicitDefEqProofs (maxSteps := 10000000) only [sx_seq, sxL_succ, lpQ_norm, lpQ_exit, lpQ_ret, loopQ_norm, loopQ_exit, loopQ_ret, sqQ_norm, sqQ_ret, sqQ_exit, sx_block, blkQ_norm, blkQ_exit, blkQ_ret, sx_cond, cdP_true, cdP_false, cdP_bool, sx_region, sx_draw, plainD, List.all_cons, List.all_nil, List.isEmpty_nil, List.isEmpty_cons, sxo_nil, sxo_cons, sxo_guard, gdS_bool, gdS_eff, gdS_tup, gdS_sel, gdS_seleff, sxK_def, wcall_some, effP_ret, effP_set, effP_none, effP_ite, wop_call, wop_cv, cvP_func, sx_ret, sx_exit, sx_skip, sx_clr, stays, ↓selV_wt, ↓selV_wf, ↓impB_wt, ↓impB_wf, ↓selV_nor, ↓impB_nor, ↓selV_nt, ↓selV_nf, ↓impB_nt, ↓impB_nf, wantB_true, wantB_false, ↓selV_true, ↓selV_false, ↓selV_and, ↓impB_true, ↓impB_false, ↓impB_and, impB_triv, valOf_some, retH_some, ↓prim_pick, pickO_true, pickO_false, pickO_and, pickO_or, pickO_andr, pickO_orr, pickO_orrn, pickO_orn, pickO_bb, pickAnd_bool, pickOr_bool, ↓selV_nn, ↓impB_nn, Bool.and_assoc, Bool.or_assoc, doOp, ev_fr, ev_cst, put_none, put_fr, get, ins, del, dels, Nat.reduceLT, Nat.reduceEqDiff, ↓reduceIte, reduceCtorEq, ne_eq, not_false_eq_true, implies_true, framed_pureF, framed_fb, framed_N, framed_pure, wop_prim, prim, mkA, V.cells, List.getElem?_cons_zero, List.getElem?_cons_succ, List.set_cons_zero, List.set_cons_succ, Nat.zero_add, Nat.add_zero, Nat.reduceAdd, Nat.reduceSub, Nat.reduceMul, Nat.reduceLeDiff, Nat.not_lt_zero, List.map_cons, List.map_nil, List.cons_append, List.nil_append, loadA, cellsAt, nAg, packA, opt_bind_some, opt_map_some, opt_bind_none, opt_map_none, List.drop, List.take, List.head?, List.length_cons, List.length_nil, binA, unA, eqCells, eqCell, negB, fillA, sr_nil, sr_cons, sr_succ, sr_all, sr_len, storeA, Ob.with, indexedI, V.oneCell, intOf?, retQ_ret, retQ_norm, resA, resA1, fr_getD, packR, sealDepth, shut_bool, shut_int, Option.some.injEq, V.bool.injEq, V.int.injEq, Bool.not_true, Bool.not_false, true_and, and_true, and_self, Bool.and_true, Bool.and_false, Bool.true_and, Bool.false_and, Bool.or_true, Bool.or_false, Bool.true_or, Bool.false_or, Bool.false_eq_true, Int.reduceLT, Int.reduceLE, Int.reduceToNat, Int.reduceNeg, shut_plain, freeL_cons, freeL_nil, free_int, free_bool, free_agg, free_str, free_nils, free_tup, free_sl, true_implies, false_implies, Nat.sub_zero, Int.natCast_nonneg, Int.toNat_natCast, Nat.le_refl, not_true_eq_false, Int.reduceAdd, Int.reduceSub, Int.reduceMul, wrap64, false_and, and_false, cond_true, cond_false, Bool.cond_true_left, Bool.cond_false_right, Int.reduceBNe, Int.reduceBEq, decide_true, decide_false, Int.cast_ofNat_Int, Nat.mul_one, eq_self, Bool.true_eq_false, Bool.not_eq_true, Bool.not_eq_false, deads, List.replicate, argsF, am16, app_get0, app_set0, c31, c24, pm24, hm, gA, gS, gT, hl, hl', f0, f1, f4, f4', fp1, l5, l1, l4, l6, hc, hd1, hd1', -List.drop]
      | false =>
        have eW : lookW w k e b r = (w.put k ⟨true, e, b, r, 0⟩, decide (0 ≥ w.pat), 0) := by
          unfold lookW; rw [if_neg (by simp [hb]), if_neg (by simp [hm])]; simp only [Int.toNat_natCast, hk, hc, Bool.false_eq_true, ↓reduceIte]
        rw [eW]
        simp +contextual -implicitDefEqProofs (maxSteps := 10000000) only [sx_seq, sxL_succ, lpQ_norm, lpQ_exit, lpQ_ret, loopQ_norm, loopQ_exit, loopQ_ret, sqQ_norm, sqQ_ret, sqQ_exit, sx_block, blkQ_norm, blkQ_exit, blkQ_ret, sx_cond, cdP_true, cdP_false, cdP_bool, sx_region, sx_draw, plainD, List.all_cons, List.all_nil, List.isEmpty_nil, List.isEmpty_cons, sxo_nil, sxo_cons, sxo_guard, gdS_bool, gdS_eff, gdS_tup, gdS_sel, gdS_seleff, sxK_def, wcall_some, effP_ret, effP_set, effP_none, effP_ite, wop_call, wop_cv, cvP_func, sx_ret, sx_exit, sx_skip, sx_clr, stays, ↓selV_wt, ↓selV_wf, ↓impB_wt, ↓impB_wf, ↓selV_nor, ↓impB_nor, ↓selV_nt, ↓selV_nf, ↓impB_nt, ↓impB_nf, wantB_true, wantB_false, ↓selV_true, ↓selV_false, ↓selV_and, ↓impB_true, ↓impB_false, ↓impB_and, impB_triv, valOf_some, retH_some, ↓prim_pick, pickO_true, pickO_false, pickO_and, pickO_or, pickO_andr, pickO_orr, pickO_orrn, pickO_orn, pickO_bb, pickAnd_bool, pickOr_bool, ↓selV_nn, ↓impB_nn, Bool.and_assoc, Bool.or_assoc, doOp, ev_fr, ev_cst, put_none, put_fr, get, ins, del, dels, Nat.reduceLT, Nat.reduceEqDiff, ↓reduceIte, reduceCtorEq, ne_eq, not_false_eq_true, implies_true, framed_pureF, framed_fb, framed_N, framed_pure, wop_prim, prim, mkA, V.cells, List.getElem?_cons_zero, List.getElem?_cons_succ, List.set_cons_zero, List.set_cons_succ, Nat.zero_add, Nat.add_zero, Nat.reduceAdd, Nat.reduceSub, Nat.reduceMul, Nat.reduceLeDiff, Nat.not_lt_zero, List.map_cons, List.map_nil, List.cons_append, List.nil_append, loadA, cellsAt, nAg, packA, opt_bind_some, opt_map_some, opt_bind_none, opt_map_none, List.drop, List.take, List.head?, List.length_cons, List.length_nil, binA, unA, eqCells, eqCell, negB, fillA, sr_nil, sr_cons, sr_succ, sr_all, sr_len, storeA, Ob.with, indexedI, V.oneCell, intOf?, retQ_ret, retQ_norm, resA, resA1, fr_getD, packR, sealDepth, shut_bool, shut_int, Option.some.injEq, V.bool.injEq, V.int.injEq, Bool.not_true, Bool.not_false, true_and, and_true, and_self, Bool.and_true, Bool.and_false, Bool.true_and, Bool.false_and, Bool.or_true, Bool.or_false, Bool.true_or, Bool.false_or, Bool.false_eq_true, Int.reduceLT, Int.reduceLE, Int.reduceToNat, Int.reduceNeg, shut_plain, freeL_cons, freeL_nil, free_int, free_bool, free_agg, free_str, free_nils, free_tup, free_sl, true_implies, false_implies, Nat.sub_zero, Int.natCast_nonneg, Int.toNat_natCast, Nat.le_refl, not_true_eq_false, Int.reduceAdd, Int.reduceSub, Int.reduceMul, wrap64, false_and, and_false, cond_true, cond_false, Bool.cond_true_left, Bool.cond_false_right, Int.reduceBNe, Int.reduceBEq, decide_true, decide_false, Int.cast_ofNat_Int, Nat.mul_one, eq_self, Bool.true_eq_false, Bool.not_eq_true, Bool.not_eq_false, deads, List.replicate, argsF, am16, app_get0, app_set0, c31, c24, pm24, hm, gA, gS, gT, hl, hl', f0, f1, f4, f4', fp5, l5, l1, l4, l6, hc, hd1, hd1', -List.drop]
end Go.Am.T
