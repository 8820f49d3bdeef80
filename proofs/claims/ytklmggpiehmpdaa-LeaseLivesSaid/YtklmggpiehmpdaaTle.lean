import Derived.Test.YtklmggpiehmpdaaTld
set_option linter.unusedVariables false
set_option linter.unusedSimpArgs false
set_option maxRecDepth 10000
namespace Go.Am.T
attribute [local congr] selV_congr impB_congr

/-- What the one who says the same, and the one who says another thing at each look, have said behind i looks. -/
structure Lv (e b r p : Int) (i : Nat) (w : Wt) : Prop where
  ok : w.Ok
  nodes : w.nodes = 3
  pat : w.pat = p
  s0 : w.S[0]? = some (if i = 0 then Seen.zero else ⟨true, e, b, r, ((i - 1 : Nat) : Int)⟩)
  s1 : w.S[1]? = some (if i = 0 then Seen.zero else ⟨true, e, b + ((i - 1 : Nat) : Int), r, 0⟩)

theorem lookW_other {w : Wt} (n e b r : Int) {j : Nat} (h : n.toNat ≠ j) : (lookW w n e b r).1.S[j]? = w.S[j]? ∧ (lookW w n e b r).1.nodes = w.nodes ∧ (lookW w n e b r).1.pat = w.pat := by
  unfold lookW
  split
  · exact ⟨rfl, rfl, rfl⟩
  · split
    · exact ⟨rfl, rfl, rfl⟩
    · split
      · exact ⟨rfl, rfl, rfl⟩
      · split
        · exact ⟨by simp [Wt.put, h], rfl, rfl⟩
        · exact ⟨by simp [Wt.put, h], rfl, rfl⟩

theorem Lv.two {e b r p : Int} {i : Nat} {w : Wt} (h : Lv e b r p i w) (e' b' r' : Int) : Lv e b r p i (lookW w 2 e' b' r').1 := by
  obtain ⟨h1, h2, h3, h4, h5⟩ := h
  obtain ⟨a1, a2, a3⟩ := lookW_other (w := w) 2 e' b' r' (j := 0) (by decide)
  obtain ⟨b1, -, -⟩ := lookW_other (w := w) 2 e' b' r' (j := 1) (by decide)
  exact ⟨lookW_ok h1 _ _ _ _, a2.trans h2, a3.trans h3, a1.trans h4, b1.trans h5⟩

theorem Lv.look0 {e b r p : Int} {i : Nat} {w : Wt} (h : Lv e b r p i w) (hm : mayL e b r = true) (hi : i < 200) : lookW w 0 e b r = (w.put 0 ⟨true, e, b, r, (i : Int)⟩, decide ((i : Int) ≥ p), 0) := by
  obtain ⟨h1, h2, h3, h4, h5⟩ := h
  have hb : badN w 0 = false := by simp [badN, h2]
  unfold lookW
  rw [if_neg (by simp [hb]), if_neg (by simp [hm])]
  simp only [Int.toNat_zero, h4, h3]
  by_cases h0 : i = 0
  · subst h0
    simp [Seen.zero]
  · have w1 : IntKind.i64.wrap (((i - 1 : Nat) : Int) + 1) = (i : Int) := (wrap64 (by omega) (by omega)).trans (by omega)
    simp [h0, w1]

theorem Lv.look1 {e b r p : Int} {i : Nat} {w : Wt} (h : Lv e b r p i w) (hm : mayL e (b + i) r = true) (hp : 1 ≤ p) (hi : i < 200) : lookW w 1 e (b + i) r = (w.put 1 ⟨true, e, b + i, r, 0⟩, false, 0) := by
  obtain ⟨h1, h2, h3, h4, h5⟩ := h
  have hb : badN w 1 = false := by simp [badN, h2]
  have hd : decide ((0 : Int) ≥ p) = false := decide_eq_false (by omega)
  unfold lookW
  rw [if_neg (by simp [hb]), if_neg (by simp [hm])]
  simp only [show (1 : Int).toNat = 1 from rfl, h5, h3]
  by_cases h0 : i = 0
  · subst h0
    simp only [↓reduceIte, Seen.zero, Bool.false_and, Bool.false_eq_true, hd]
  · have : (b + ((i - 1 : Nat) : Int) == b + (i : Int)) = false := beq_eq_false_iff_ne.2 (by omega)
    simp only [h0, ↓reduceIte, this, Bool.false_and, Bool.and_false, Bool.false_eq_true, hd]

theorem Lv.put0 {e b r p : Int} {i : Nat} {w : Wt} (h : Lv e b r p i w) (s : Seen) : (w.put 0 s).Ok ∧ (w.put 0 s).nodes = 3 ∧ (w.put 0 s).pat = p ∧ (w.put 0 s).S[0]? = some s ∧ (w.put 0 s).S[1]? = w.S[1]? :=
  ⟨Wt.putOk h.ok _ _, h.nodes, h.pat, by simp [Wt.put, h.ok.len], by simp [Wt.put]⟩

theorem am4_wp {N n : Nat} {args : List V} {h : Heap} {v : V} (ha : args.length = 3) (hfree : V.freeL args = true)
    (H : sx ⟨pureOf am, callA am N n, N, 0⟩ am4.body (fr am4.nt (argsF 0 args)) (deads am4.sites) (retQ am4.res fun x h' => V.shut (fun o => h'[o]?) sealDepth x = some v)) : callA am N (n + 1) 4 args h = some (v, h) :=
  call_auto at4 rfl ha (by decide) hfree (sx_wp H)

set_option maxHeartbeats 4000000 in
theorem lives_spec {N n : Nat} (hN : 1000 ≤ N) (hn : 21 ≤ n) (p : Int) (l : V) (A : List Stp) (hl : IsL l 5 (A.map Stp.cs)) (e b r : Int) (h : Heap) :
    callA am N n 4 [.int .i64 p, l, .agg [.int .i64 e, .int .i64 b, .int .i64 r]] h = some (.bool true, h) := by
  obtain ⟨n, rfl⟩ : ∃ m, n = m + 1 := ⟨n - 1, by omega⟩
  have c11 := @num_spec N n (by omega)
  have c13 := @known_spec N n (by omega) (by omega)
  have c15 := @new_spec N n (by omega) 3 p
  have c12 := @refMay_spec N n (by omega) e b r
  have hlA := hl.len
  rw [List.length_map] at hlA
  have hnst := hl.nstr
  refine am4_wp rfl (by simp [freeL_cons, freeL_nil, free_agg, free_int, hl.free]) ?_
  cases hb : newB 3 p with
  | true =>
    simp only [hb, cond_true] at c15
    have z : ((2 : Int) != 0) = true := rfl
    simp +contextual -implicitDefEqProofs (maxSteps := 10000000) only [sx_seq, sxL_succ, lpQ_norm, lpQ_exit, lpQ_ret, loopQ_norm, loopQ_exit, loopQ_ret, sqQ_norm, sqQ_ret, sqQ_exit, sx_block, blkQ_norm, blkQ_exit, blkQ_ret, sx_cond, cdP_true, cdP_false, cdP_bool, sx_region, sx_draw, plainD, List.all_cons, List.all_nil, List.isEmpty_nil, List.isEmpty_cons, sxo_nil, sxo_cons, sxo_guard, gdS_bool, gdS_eff, gdS_tup, gdS_sel, gdS_seleff, sxK_def, wcall_some, effP_ret, effP_set, effP_none, effP_ite, wop_call, wop_cv, cvP_func, sx_ret, sx_exit, sx_skip, sx_clr, stays, ↓selV_wt, ↓selV_wf, ↓impB_wt, ↓impB_wf, ↓selV_nor, ↓impB_nor, ↓selV_nt, ↓selV_nf, ↓impB_nt, ↓impB_nf, wantB_true, wantB_false, ↓selV_true, ↓selV_false, ↓selV_and, ↓impB_true, ↓impB_false, ↓impB_and, impB_triv, valOf_some, retH_some, ↓prim_pick, pickO_true, pickO_false, pickO_and, pickO_or, pickO_andr, pickO_orr, pickO_orrn, pickO_orn, pickO_bb, pickAnd_bool, pickOr_bool, ↓selV_nn, ↓impB_nn, Bool.and_assoc, Bool.or_assoc, doOp, ev_fr, ev_cst, put_none, put_fr, get, ins, del, dels, Nat.reduceLT, Nat.reduceEqDiff, ↓reduceIte, reduceCtorEq, ne_eq, not_false_eq_true, implies_true, framed_pureF, framed_fb, framed_N, framed_pure, wop_prim, prim, mkA, V.cells, List.getElem?_cons_zero, List.getElem?_cons_succ, List.set_cons_zero, List.set_cons_succ, Nat.zero_add, Nat.add_zero, Nat.reduceAdd, Nat.reduceSub, Nat.reduceMul, Nat.reduceLeDiff, Nat.not_lt_zero, List.map_cons, List.map_nil, List.cons_append, List.nil_append, loadA, cellsAt, nAg, packA, opt_bind_some, opt_map_some, opt_bind_none, opt_map_none, List.drop, List.take, List.head?, List.length_cons, List.length_nil, binA, unA, eqCells, eqCell, negB, fillA, sr_nil, sr_cons, sr_succ, sr_all, sr_len, storeA, Ob.with, indexedI, V.oneCell, intOf?, retQ_ret, retQ_norm, resA, resA1, fr_getD, packR, sealDepth, shut_bool, shut_int, Option.some.injEq, V.bool.injEq, V.int.injEq, Bool.not_true, Bool.not_false, true_and, and_true, and_self, Bool.and_true, Bool.and_false, Bool.true_and, Bool.false_and, Bool.or_true, Bool.or_false, Bool.true_or, Bool.false_or, Bool.false_eq_true, Int.reduceLT, Int.reduceLE, Int.reduceToNat, Int.reduceNeg, shut_plain, freeL_cons, freeL_nil, free_int, free_bool, free_agg, free_str, free_nils, free_tup, free_sl, true_implies, false_implies, Nat.sub_zero, Int.natCast_nonneg, Int.toNat_natCast, Nat.le_refl, not_true_eq_false, Int.reduceAdd, Int.reduceSub, Int.reduceMul, wrap64, false_and, and_false, cond_true, cond_false, Bool.cond_true_left, Bool.cond_false_right, Int.reduceBNe, Int.reduceBEq, decide_true, decide_false, Int.cast_ofNat_Int, Nat.mul_one, eq_self, Bool.true_eq_false, Bool.not_eq_true, Bool.not_eq_false, deads, List.replicate, argsF, am4, c11, c12, c13, c15, pm11, pm12, z]
  | false =>
    simp only [hb, cond_false] at c15
    have hw := newW_ok hb
    cases hm : mayL e b r with
    | false => simp +contextual -implicitDefEqProofs (maxSteps := 10000000) only [sx_seq, sxL_succ, lpQ_norm, lpQ_exit, lpQ_ret, loopQ_norm, loopQ_exit, loopQ_ret, sqQ_norm, sqQ_ret, sqQ_exit, sx_block, blkQ_norm, blkQ_exit, blkQ_ret, sx_cond, cdP_true, cdP_false, cdP_bool, sx_region, sx_draw, plainD, List.all_cons, List.all_nil, List.isEmpty_nil, List.isEmpty_cons, sxo_nil, sxo_cons, sxo_guard, gdS_bool, gdS_eff, gdS_tup, gdS_sel, gdS_seleff, sxK_def, wcall_some, effP_ret, effP_set, effP_none, effP_ite, wop_call, wop_cv, cvP_func, sx_ret, sx_exit, sx_skip, sx_clr, stays, ↓selV_wt, ↓selV_wf, ↓impB_wt, ↓impB_wf, ↓selV_nor, ↓impB_nor, ↓selV_nt, ↓selV_nf, ↓impB_nt, ↓impB_nf, wantB_true, wantB_false, ↓selV_true, ↓selV_false, ↓selV_and, ↓impB_true, ↓impB_false, ↓impB_and, impB_triv, valOf_some, retH_some, ↓prim_pick, pickO_true, pickO_false, pickO_and, pickO_or, pickO_andr, pickO_orr, pickO_orrn, pickO_orn, pickO_bb, pickAnd_bool, pickOr_bool, ↓selV_nn, ↓impB_nn, Bool.and_assoc, Bool.or_assoc, doOp, ev_fr, ev_cst, put_none, put_fr, get, ins, del, dels, Nat.reduceLT, Nat.reduceEqDiff, ↓reduceIte, reduceCtorEq, ne_eq, not_false_eq_true, implies_true, framed_pureF, framed_fb, framed_N, framed_pure, wop_prim, prim, mkA, V.cells, List.getElem?_cons_zero, List.getElem?_cons_succ, List.set_cons_zero, List.set_cons_succ, Nat.zero_add, Nat.add_zero, Nat.reduceAdd, Nat.reduceSub, Nat.reduceMul, Nat.reduceLeDiff, Nat.not_lt_zero, List.map_cons, List.map_nil, List.cons_append, List.nil_append, loadA, cellsAt, nAg, packA, opt_bind_some, opt_map_some, opt_bind_none, opt_map_none, List.drop, List.take, List.head?, List.length_cons, List.length_nil, binA, unA, eqCells, eqCell, negB, fillA, sr_nil, sr_cons, sr_succ, sr_all, sr_len, storeA, Ob.with, indexedI, V.oneCell, intOf?, retQ_ret, retQ_norm, resA, resA1, fr_getD, packR, sealDepth, shut_bool, shut_int, Option.some.injEq, V.bool.injEq, V.int.injEq, Bool.not_true, Bool.not_false, true_and, and_true, and_self, Bool.and_true, Bool.and_false, Bool.true_and, Bool.false_and, Bool.or_true, Bool.or_false, Bool.true_or, Bool.false_or, Bool.false_eq_true, Int.reduceLT, Int.reduceLE, Int.reduceToNat, Int.reduceNeg, shut_plain, freeL_cons, freeL_nil, free_int, free_bool, free_agg, free_str, free_nils, free_tup, free_sl, true_implies, false_implies, Nat.sub_zero, Int.natCast_nonneg, Int.toNat_natCast, Nat.le_refl, not_true_eq_false, Int.reduceAdd, Int.reduceSub, Int.reduceMul, wrap64, false_and, and_false, cond_true, cond_false, Bool.cond_true_left, Bool.cond_false_right, Int.reduceBNe, Int.reduceBEq, decide_true, decide_false, Int.cast_ofNat_Int, Nat.mul_one, eq_self, Bool.true_eq_false, Bool.not_eq_true, Bool.not_eq_false, deads, List.replicate, argsF, am4, c11, c12, c13, c15, pm11, pm12, hm, bne_self_eq_false]
    | true =>
      by_cases hbig : b > 1152921504606846976
      · have d1 : decide (b > 1152921504606846976) = true := decide_eq_true hbig
        simp +contextual -implicitDefEqProofs (maxSteps := 10000000) only [sx_seq, sxL_succ, lpQ_norm, lpQ_exit, lpQ_ret, loopQ_norm, loopQ_exit, loopQ_ret, sqQ_norm, sqQ_ret, sqQ_exit, sx_block, blkQ_norm, blkQ_exit, blkQ_ret, sx_cond, cdP_true, cdP_false, cdP_bool, sx_region, sx_draw, plainD, List.all_cons, List.all_nil, List.isEmpty_nil, List.isEmpty_cons, sxo_nil, sxo_cons, sxo_guard, gdS_bool, gdS_eff, gdS_tup, gdS_sel, gdS_seleff, sxK_def, wcall_some, effP_ret, effP_set, effP_none, effP_ite, wop_call, wop_cv, cvP_func, sx_ret, sx_exit, sx_skip, sx_clr, stays, ↓selV_wt, ↓selV_wf, ↓impB_wt, ↓impB_wf, ↓selV_nor, ↓impB_nor, ↓selV_nt, ↓selV_nf, ↓impB_nt, ↓impB_nf, wantB_true, wantB_false, ↓selV_true, ↓selV_false, ↓selV_and, ↓impB_true, ↓impB_false, ↓impB_and, impB_triv, valOf_some, retH_some, ↓prim_pick, pickO_true, pickO_false, pickO_and, pickO_or, pickO_andr, pickO_orr, pickO_orrn, pickO_orn, pickO_bb, pickAnd_bool, pickOr_bool, ↓selV_nn, ↓impB_nn, Bool.and_assoc, Bool.or_assoc, doOp, ev_fr, ev_cst, put_none, put_fr, get, ins, del, dels, Nat.reduceLT, Nat.reduceEqDiff, ↓reduceIte, reduceCtorEq, ne_eq, not_false_eq_true, implies_true, framed_pureF, framed_fb, framed_N, framed_pure, wop_prim, prim, mkA, V.cells, List.getElem?_cons_zero, List.getElem?_cons_succ, List.set_cons_zero, List.set_cons_succ, Nat.zero_add, Nat.add_zero, Nat.reduceAdd, Nat.reduceSub, Nat.reduceMul, Nat.reduceLeDiff, Nat.not_lt_zero, List.map_cons, List.map_nil, List.cons_append, List.nil_append, loadA, cellsAt, nAg, packA, opt_bind_some, opt_map_some, opt_bind_none, opt_map_none, List.drop, List.take, List.head?, List.length_cons, List.length_nil, binA, unA, eqCells, eqCell, negB, fillA, sr_nil, sr_cons, sr_succ, sr_all, sr_len, storeA, Ob.with, indexedI, V.oneCell, intOf?, retQ_ret, retQ_norm, resA, resA1, fr_getD, packR, sealDepth, shut_bool, shut_int, Option.some.injEq, V.bool.injEq, V.int.injEq, Bool.not_true, Bool.not_false, true_and, and_true, and_self, Bool.and_true, Bool.and_false, Bool.true_and, Bool.false_and, Bool.or_true, Bool.or_false, Bool.true_or, Bool.false_or, Bool.false_eq_true, Int.reduceLT, Int.reduceLE, Int.reduceToNat, Int.reduceNeg, shut_plain, freeL_cons, freeL_nil, free_int, free_bool, free_agg, free_str, free_nils, free_tup, free_sl, true_implies, false_implies, Nat.sub_zero, Int.natCast_nonneg, Int.toNat_natCast, Nat.le_refl, not_true_eq_false, Int.reduceAdd, Int.reduceSub, Int.reduceMul, wrap64, false_and, and_false, cond_true, cond_false, Bool.cond_true_left, Bool.cond_false_right, Int.reduceBNe, Int.reduceBEq, decide_true, decide_false, Int.cast_ofNat_Int, Nat.mul_one, eq_self, Bool.true_eq_false, Bool.not_eq_true, Bool.not_eq_false, deads, List.replicate, argsF, am4, c11, c12, c13, c15, pm11, pm12, hm, d1, bne_self_eq_false]
      · have d1 : decide (b > 1152921504606846976) = false := decide_eq_false hbig
        simp +contextual -implicitDefEqProofs (maxSteps := 10000000) only [sx_seq, sxL_succ, lpQ_norm, lpQ_exit, lpQ_ret, loopQ_norm, loopQ_exit, loopQ_ret, sqQ_norm, sqQ_ret, sqQ_exit, sx_block, blkQ_norm, blkQ_exit, blkQ_ret, sx_cond, cdP_true, cdP_false, cdP_bool, sx_region, sx_draw, plainD, List.all_cons, List.all_nil, List.isEmpty_nil, List.isEmpty_cons, sxo_nil, sxo_cons, sxo_guard, gdS_bool, gdS_eff, gdS_tup, gdS_sel, gdS_seleff, sxK_def, wcall_some, effP_ret, effP_set, effP_none, effP_ite, wop_call, wop_cv, cvP_func, sx_ret, sx_exit, sx_skip, sx_clr, stays, ↓selV_wt, ↓selV_wf, ↓impB_wt, ↓impB_wf, ↓selV_nor, ↓impB_nor, ↓selV_nt, ↓selV_nf, ↓impB_nt, ↓impB_nf, wantB_true, wantB_false, ↓selV_true, ↓selV_false, ↓selV_and, ↓impB_true, ↓impB_false, ↓impB_and, impB_triv, valOf_some, retH_some, ↓prim_pick, pickO_true, pickO_false, pickO_and, pickO_or, pickO_andr, pickO_orr, pickO_orrn, pickO_orn, pickO_bb, pickAnd_bool, pickOr_bool, ↓selV_nn, ↓impB_nn, Bool.and_assoc, Bool.or_assoc, doOp, ev_fr, ev_cst, put_none, put_fr, get, ins, del, dels, Nat.reduceLT, Nat.reduceEqDiff, ↓reduceIte, reduceCtorEq, ne_eq, not_false_eq_true, implies_true, framed_pureF, framed_fb, framed_N, framed_pure, wop_prim, prim, mkA, V.cells, List.getElem?_cons_zero, List.getElem?_cons_succ, List.set_cons_zero, List.set_cons_succ, Nat.zero_add, Nat.add_zero, Nat.reduceAdd, Nat.reduceSub, Nat.reduceMul, Nat.reduceLeDiff, Nat.not_lt_zero, List.map_cons, List.map_nil, List.cons_append, List.nil_append, loadA, cellsAt, nAg, packA, opt_bind_some, opt_map_some, opt_bind_none, opt_map_none, List.drop, List.take, List.head?, List.length_cons, List.length_nil, binA, unA, eqCells, eqCell, negB, fillA, sr_nil, sr_cons, sr_succ, sr_all, sr_len, storeA, Ob.with, indexedI, V.oneCell, intOf?, retQ_ret, retQ_norm, resA, resA1, fr_getD, packR, sealDepth, shut_bool, shut_int, Option.some.injEq, V.bool.injEq, V.int.injEq, Bool.not_true, Bool.not_false, true_and, and_true, and_self, Bool.and_true, Bool.and_false, Bool.true_and, Bool.false_and, Bool.or_true, Bool.or_false, Bool.true_or, Bool.false_or, Bool.false_eq_true, Int.reduceLT, Int.reduceLE, Int.reduceToNat, Int.reduceNeg, shut_plain, freeL_cons, freeL_nil, free_int, free_bool, free_agg, free_str, free_nils, free_tup, free_sl, true_implies, false_implies, Nat.sub_zero, Int.natCast_nonneg, Int.toNat_natCast, Nat.le_refl, not_true_eq_false, Int.reduceAdd, Int.reduceSub, Int.reduceMul, wrap64, false_and, and_false, cond_true, cond_false, Bool.cond_true_left, Bool.cond_false_right, Int.reduceBNe, Int.reduceBEq, decide_true, decide_false, Int.cast_ofNat_Int, Nat.mul_one, eq_self, Bool.true_eq_false, Bool.not_eq_true, Bool.not_eq_false, deads, List.replicate, argsF, am4, c11, c12, c13, c15, pm11, pm12, hm, d1, bne_self_eq_false]
        have hp : 1 ≤ p ∧ p ≤ 100 := by
          simp only [newB, Bool.or_eq_false_iff, decide_eq_false_iff_not] at hb
          omega
        obtain ⟨m1, m2, m3, m4, m5, m6⟩ := mayL_iff.1 hm
        refine sx_loop (fun i t H => ∃ a w, t = fr 99 [(0, .int .i64 p), (1, l), (5, .ptr 0 1 0), (7, .ptr a 1 0), (9, .int .i64 i)] ∧ i ≤ 200 ∧ Lv e b r p i w ∧ H[a]? = some (obW w) ∧ a ≠ 0 ∧ H[0]? = some ⟨1, .var [.int .i64 e, .int .i64 b, .int .i64 r]⟩) 200 (by show 200 < N; omega)
          ⟨1, newW 3 p, rfl, by omega, ⟨hw, rfl, rfl, rfl, rfl⟩, rfl, by decide, rfl⟩ ?_
        rintro i t H hi ⟨a, w, rfl, hi2, hv, ha, ha0, h0⟩
        by_cases hlt : i < 200
        · have d2 : decide ((i : Int) < 200) = true := decide_eq_true (by omega)
          have w4 : IntKind.i64.wrap ((i : Int) + 1) = ((i + 1 : Nat) : Int) := (wrap64 (by omega) (by omega)).trans (by omega)
          have w5 : IntKind.i64.wrap (b + (i : Int)) = b + (i : Int) := wrap64 (by omega) (by omega)
          have hm' : mayL e (b + i) r = true := mayL_iff.2 (by omega)
          have hi1 : i + 1 ≤ 200 := by omega
          -- whatever was looked at between: H1 with a watch w1
          have key : ∀ (H1 : Heap) (w1 : Wt), Lv e b r p i w1 → H1[a]? = some (obW w1) → H1[0]? = some ⟨1, .var [.int .i64 e, .int .i64 b, .int .i64 r]⟩ →
              ∃ H2 H3 w3, callA am N n 16 [.ptr a 1 0, .int .i64 0, .agg [.int .i64 e, .int .i64 b, .int .i64 r]] H1 = some (.tup [.bool (decide ((i : Int) ≥ p)), .int .i64 0], H2) ∧
                H2[0]? = some ⟨1, .var [.int .i64 e, .int .i64 b, .int .i64 r]⟩ ∧
                callA am N n 16 [.ptr a 1 0, .int .i64 1, .agg [.int .i64 e, .int .i64 (b + i), .int .i64 r]] H2 = some (.tup [.bool false, .int .i64 0], H3) ∧
                callA am N n 17 [.ptr a 1 0, .int .i64 0] H3 = some (.int .i64 i, H3) ∧ Lv e b r p (i + 1) w3 ∧ H3[a]? = some (obW w3) ∧ H3[0]? = some ⟨1, .var [.int .i64 e, .int .i64 b, .int .i64 r]⟩ := by
            intro H1 w1 hv1 ha1 h01
            obtain ⟨H2, c1, u1⟩ := @look_upd N n (by omega) w1 hv1.ok 0 e b r a H1 ha1
            rw [hv1.look0 hm hlt] at c1 u1
            obtain ⟨p1, p2, p3, p4, p5⟩ := hv1.put0 ⟨true, e, b, r, (i : Int)⟩
            have h02 : H2[0]? = some ⟨1, .var [.int .i64 e, .int .i64 b, .int .i64 r]⟩ := by rw [u1.other 0 ha0.symm (lt_of_get h01)]; exact h01
            obtain ⟨H3, c2, u2⟩ := @look_upd N n (by omega) _ p1 1 e (b + i) r a H2 u1.at_
            have e1 : lookW (w1.put 0 ⟨true, e, b, r, (i : Int)⟩) 1 e (b + i) r = ((w1.put 0 ⟨true, e, b, r, (i : Int)⟩).put 1 ⟨true, e, b + i, r, 0⟩, false, 0) := by
              have hbd : badN (w1.put 0 ⟨true, e, b, r, (i : Int)⟩) 1 = false := by simp [badN, p2]
              have hd : decide ((0 : Int) ≥ p) = false := decide_eq_false (by omega)
              unfold lookW
              rw [if_neg (by simp [hbd]), if_neg (by simp [hm'])]
              simp only [show (1 : Int).toNat = 1 from rfl, p5, hv1.s1, p3]
              by_cases hz : i = 0
              · subst hz
                simp only [↓reduceIte, Seen.zero, Bool.false_and, Bool.false_eq_true, hd]
              · have : (b + ((i - 1 : Nat) : Int) == b + (i : Int)) = false := beq_eq_false_iff_ne.2 (by omega)
                simp only [hz, ↓reduceIte, this, Bool.false_and, Bool.and_false, Bool.false_eq_true, hd]
            rw [e1] at c2 u2
            have ok3 := Wt.putOk p1 1 ⟨true, e, b + i, r, 0⟩
            have s03 : ((w1.put 0 ⟨true, e, b, r, (i : Int)⟩).put 1 ⟨true, e, b + i, r, 0⟩).S[0]? = some ⟨true, e, b, r, (i : Int)⟩ := by
              rw [← p4]; simp [Wt.put]
            have s13 : ((w1.put 0 ⟨true, e, b, r, (i : Int)⟩).put 1 ⟨true, e, b + i, r, 0⟩).S[1]? = some ⟨true, e, b + i, r, 0⟩ := by
              simp [Wt.put, hv1.ok.len]
            have hbd3 : badN ((w1.put 0 ⟨true, e, b, r, (i : Int)⟩).put 1 ⟨true, e, b + i, r, 0⟩) 0 = false := by
              have : ((w1.put 0 ⟨true, e, b, r, (i : Int)⟩).put 1 ⟨true, e, b + i, r, 0⟩).nodes = 3 := p2
              simp [badN, this]
            have c3 := @age_spec N n (by omega) _ ok3 0 a H3 u2.at_
            have e9 : ofW ((w1.put 0 ⟨true, e, b, r, (i : Int)⟩).put 1 ⟨true, e, b + i, r, 0⟩) 0 = ⟨true, e, b, r, (i : Int)⟩ := ofW_at (k := 0) hbd3 s03
            rw [e9] at c3
            refine ⟨H2, H3, _, c1, h02, c2, c3, ⟨ok3, p2, p3, ?_, ?_⟩, u2.at_, ?_⟩
            · rw [s03]; simp
            · rw [s13]; simp
            · rw [u2.other 0 ha0.symm (lt_of_get h02)]; exact h02
          by_cases hA : i < A.length
          · have d3 : decide ((i : Int) < (A.length : Int)) = true := decide_eq_true (by omega)
            obtain ⟨s, hs⟩ : ∃ s, A[i]? = some s := ⟨_, List.getElem?_eq_getElem hA⟩
            have hat := hl.at_ i
            rw [List.getElem?_map, hs] at hat
            have hat' : iaddrSA 5 l (.int .i64 i) = some (.ret (.iptr [.int .i64 s.k, .int .i64 s.n, .int .i64 s.e, .int .i64 s.b, .int .i64 s.r] 0)) := hat
            cases k1 : (s.k == 1) with
            | true =>
              obtain ⟨H1, c0, u0⟩ := @look_upd N n (by omega) w hv.ok 2 s.e s.b s.r a H ha
              have h01 : H1[0]? = some ⟨1, .var [.int .i64 e, .int .i64 b, .int .i64 r]⟩ := by rw [u0.other 0 ha0.symm (lt_of_get h0)]; exact h0
              obtain ⟨H2, H3, w3, c1, h02, c2, c3, hv3, ha3, h03⟩ := key H1 _ (hv.two s.e s.b s.r) u0.at_ h01
              simp +contextual -implicitDefEqProofs (maxSteps := 10000000) only [sx_seq, sxL_succ, lpQ_norm, lpQ_exit, lpQ_ret, loopQ_norm, loopQ_exit, loopQ_ret, sqQ_norm, sqQ_ret, sqQ_exit, sx_block, blkQ_norm, blkQ_exit, blkQ_ret, sx_cond, cdP_true, cdP_false, cdP_bool, sx_region, sx_draw, plainD, List.all_cons, List.all_nil, List.isEmpty_nil, List.isEmpty_cons, sxo_nil, sxo_cons, sxo_guard, gdS_bool, gdS_eff, gdS_tup, gdS_sel, gdS_seleff, sxK_def, wcall_some, effP_ret, effP_set, effP_none, effP_ite, wop_call, wop_cv, cvP_func, sx_ret, sx_exit, sx_skip, sx_clr, stays, ↓selV_wt, ↓selV_wf, ↓impB_wt, ↓impB_wf, ↓selV_nor, ↓impB_nor, ↓selV_nt, ↓selV_nf, ↓impB_nt, ↓impB_nf, wantB_true, wantB_false, ↓selV_true, ↓selV_false, ↓selV_and, ↓impB_true, ↓impB_false, ↓impB_and, impB_triv, valOf_some, retH_some, ↓prim_pick, pickO_true, pickO_false, pickO_and, pickO_or, pickO_andr, pickO_orr, pickO_orrn, pickO_orn, pickO_bb, pickAnd_bool, pickOr_bool, ↓selV_nn, ↓impB_nn, Bool.and_assoc, Bool.or_assoc, doOp, ev_fr, ev_cst, put_none, put_fr, get, ins, del, dels, Nat.reduceLT, Nat.reduceEqDiff, ↓reduceIte, reduceCtorEq, ne_eq, not_false_eq_true, implies_true, framed_pureF, framed_fb, framed_N, framed_pure, wop_prim, prim, mkA, V.cells, List.getElem?_cons_zero, List.getElem?_cons_succ, List.set_cons_zero, List.set_cons_succ, Nat.zero_add, Nat.add_zero, Nat.reduceAdd, Nat.reduceSub, Nat.reduceMul, Nat.reduceLeDiff, Nat.not_lt_zero, List.map_cons, List.map_nil, List.cons_append, List.nil_append, loadA, cellsAt, nAg, packA, opt_bind_some, opt_map_some, opt_bind_none, opt_map_none, List.drop, List.take, List.head?, List.length_cons, List.length_nil, binA, unA, eqCells, eqCell, negB, fillA, sr_nil, sr_cons, sr_succ, sr_all, sr_len, storeA, Ob.with, indexedI, V.oneCell, intOf?, retQ_ret, retQ_norm, resA, resA1, fr_getD, packR, sealDepth, shut_bool, shut_int, Option.some.injEq, V.bool.injEq, V.int.injEq, Bool.not_true, Bool.not_false, true_and, and_true, and_self, Bool.and_true, Bool.and_false, Bool.true_and, Bool.false_and, Bool.or_true, Bool.or_false, Bool.true_or, Bool.false_or, Bool.false_eq_true, Int.reduceLT, Int.reduceLE, Int.reduceToNat, Int.reduceNeg, shut_plain, freeL_cons, freeL_nil, free_int, free_bool, free_agg, free_str, free_nils, free_tup, free_sl, true_implies, false_implies, Nat.sub_zero, Int.natCast_nonneg, Int.toNat_natCast, Nat.le_refl, not_true_eq_false, Int.reduceAdd, Int.reduceSub, Int.reduceMul, wrap64, false_and, and_false, cond_true, cond_false, Bool.cond_true_left, Bool.cond_false_right, Int.reduceBNe, Int.reduceBEq, decide_true, decide_false, Int.cast_ofNat_Int, Nat.mul_one, eq_self, Bool.true_eq_false, Bool.not_eq_true, Bool.not_eq_false, deads, List.replicate, argsF, hlA, d2, d3, hat', k1, c0, h01, c1, h02, c2, c3, c11, pm11, pm17, w4, w5, hi1, hlt, beq_self_eq_true, bne_self_eq_false]
              exact ⟨a, w3, rfl, hv3, ha3, ha0, h03⟩
            | false =>
              obtain ⟨H2, H3, w3, c1, h02, c2, c3, hv3, ha3, h03⟩ := key H w hv ha h0
              simp +contextual -implicitDefEqProofs (maxSteps := 10000000) only [sx_seq, sxL_succ, lpQ_norm, lpQ_exit, lpQ_ret, loopQ_norm, loopQ_exit, loopQ_ret, sqQ_norm, sqQ_ret, sqQ_exit, sx_block, blkQ_norm, blkQ_exit, blkQ_ret, sx_cond, cdP_true, cdP_false, cdP_bool, sx_region, sx_draw, plainD, List.all_cons, List.all_nil, List.isEmpty_nil, List.isEmpty_cons, sxo_nil, sxo_cons, sxo_guard, gdS_bool, gdS_eff, gdS_tup, gdS_sel, gdS_seleff, sxK_def, wcall_some, effP_ret, effP_set, effP_none, effP_ite, wop_call, wop_cv, cvP_func, sx_ret, sx_exit, sx_skip, sx_clr, stays, ↓selV_wt, ↓selV_wf, ↓impB_wt, ↓impB_wf, ↓selV_nor, ↓impB_nor, ↓selV_nt, ↓selV_nf, ↓impB_nt, ↓impB_nf, wantB_true, wantB_false, ↓selV_true, ↓selV_false, ↓selV_and, ↓impB_true, ↓impB_false, ↓impB_and, impB_triv, valOf_some, retH_some, ↓prim_pick, pickO_true, pickO_false, pickO_and, pickO_or, pickO_andr, pickO_orr, pickO_orrn, pickO_orn, pickO_bb, pickAnd_bool, pickOr_bool, ↓selV_nn, ↓impB_nn, Bool.and_assoc, Bool.or_assoc, doOp, ev_fr, ev_cst, put_none, put_fr, get, ins, del, dels, Nat.reduceLT, Nat.reduceEqDiff, ↓reduceIte, reduceCtorEq, ne_eq, not_false_eq_true, implies_true, framed_pureF, framed_fb, framed_N, framed_pure, wop_prim, prim, mkA, V.cells, List.getElem?_cons_zero, List.getElem?_cons_succ, List.set_cons_zero, List.set_cons_succ, Nat.zero_add, Nat.add_zero, Nat.reduceAdd, Nat.reduceSub, Nat.reduceMul, Nat.reduceLeDiff, Nat.not_lt_zero, List.map_cons, List.map_nil, List.cons_append, List.nil_append, loadA, cellsAt, nAg, packA, opt_bind_some, opt_map_some, opt_bind_none, opt_map_none, List.drop, List.take, List.head?, List.length_cons, List.length_nil, binA, unA, eqCells, eqCell, negB, fillA, sr_nil, sr_cons, sr_succ, sr_all, sr_len, storeA, Ob.with, indexedI, V.oneCell, intOf?, retQ_ret, retQ_norm, resA, resA1, fr_getD, packR, sealDepth, shut_bool, shut_int, Option.some.injEq, V.bool.injEq, V.int.injEq, Bool.not_true, Bool.not_false, true_and, and_true, and_self, Bool.and_true, Bool.and_false, Bool.true_and, Bool.false_and, Bool.or_true, Bool.or_false, Bool.true_or, Bool.false_or, Bool.false_eq_true, Int.reduceLT, Int.reduceLE, Int.reduceToNat, Int.reduceNeg, shut_plain, freeL_cons, freeL_nil, free_int, free_bool, free_agg, free_str, free_nils, free_tup, free_sl, true_implies, false_implies, Nat.sub_zero, Int.natCast_nonneg, Int.toNat_natCast, Nat.le_refl, not_true_eq_false, Int.reduceAdd, Int.reduceSub, Int.reduceMul, wrap64, false_and, and_false, cond_true, cond_false, Bool.cond_true_left, Bool.cond_false_right, Int.reduceBNe, Int.reduceBEq, decide_true, decide_false, Int.cast_ofNat_Int, Nat.mul_one, eq_self, Bool.true_eq_false, Bool.not_eq_true, Bool.not_eq_false, deads, List.replicate, argsF, hlA, d2, d3, hat', k1, h0, c1, h02, c2, c3, c11, pm11, pm17, w4, w5, hi1, hlt, beq_self_eq_true, bne_self_eq_false]
              exact ⟨a, w3, rfl, hv3, ha3, ha0, h03⟩
          · have d3 : decide ((i : Int) < (A.length : Int)) = false := decide_eq_false (by omega)
            obtain ⟨H2, H3, w3, c1, h02, c2, c3, hv3, ha3, h03⟩ := key H w hv ha h0
            simp +contextual -implicitDefEqProofs (maxSteps := 10000000) only [sx_seq, sxL_succ, lpQ_norm, lpQ_exit, lpQ_ret, loopQ_norm, loopQ_exit, loopQ_ret, sqQ_norm, sqQ_ret, sqQ_exit, sx_block, blkQ_norm, blkQ_exit, blkQ_ret, sx_cond, cdP_true, cdP_false, cdP_bool, sx_region, sx_draw, plainD, List.all_cons, List.all_nil, List.isEmpty_nil, List.isEmpty_cons, sxo_nil, sxo_cons, sxo_guard, gdS_bool, gdS_eff, gdS_tup, gdS_sel, gdS_seleff, sxK_def, wcall_some, effP_ret, effP_set, effP_none, effP_ite, wop_call, wop_cv, cvP_func, sx_ret, sx_exit, sx_skip, sx_clr, stays, ↓selV_wt, ↓selV_wf, ↓impB_wt, ↓impB_wf, ↓selV_nor, ↓impB_nor, ↓selV_nt, ↓selV_nf, ↓impB_nt, ↓impB_nf, wantB_true, wantB_false, ↓selV_true, ↓selV_false, ↓selV_and, ↓impB_true, ↓impB_false, ↓impB_and, impB_triv, valOf_some, retH_some, ↓prim_pick, pickO_true, pickO_false, pickO_and, pickO_or, pickO_andr, pickO_orr, pickO_orrn, pickO_orn, pickO_bb, pickAnd_bool, pickOr_bool, ↓selV_nn, ↓impB_nn, Bool.and_assoc, Bool.or_assoc, doOp, ev_fr, ev_cst, put_none, put_fr, get, ins, del, dels, Nat.reduceLT, Nat.reduceEqDiff, ↓reduceIte, reduceCtorEq, ne_eq, not_false_eq_true, implies_true, framed_pureF, framed_fb, framed_N, framed_pure, wop_prim, prim, mkA, V.cells, List.getElem?_cons_zero, List.getElem?_cons_succ, List.set_cons_zero, List.set_cons_succ, Nat.zero_add, Nat.add_zero, Nat.reduceAdd, Nat.reduceSub, Nat.reduceMul, Nat.reduceLeDiff, Nat.not_lt_zero, List.map_cons, List.map_nil, List.cons_append, List.nil_append, loadA, cellsAt, nAg, packA, opt_bind_some, opt_map_some, opt_bind_none, opt_map_none, List.drop, List.take, List.head?, List.length_cons, List.length_nil, binA, unA, eqCells, eqCell, negB, fillA, sr_nil, sr_cons, sr_succ, sr_all, sr_len, storeA, Ob.with, indexedI, V.oneCell, intOf?, retQ_ret, retQ_norm, resA, resA1, fr_getD, packR, sealDepth, shut_bool, shut_int, Option.some.injEq, V.bool.injEq, V.int.injEq, Bool.not_true, Bool.not_false, true_and, and_true, and_self, Bool.and_true, Bool.and_false, Bool.true_and, Bool.false_and, Bool.or_true, Bool.or_false, Bool.true_or, Bool.false_or, Bool.false_eq_true, Int.reduceLT, Int.reduceLE, Int.reduceToNat, Int.reduceNeg, shut_plain, freeL_cons, freeL_nil, free_int, free_bool, free_agg, free_str, free_nils, free_tup, free_sl, true_implies, false_implies, Nat.sub_zero, Int.natCast_nonneg, Int.toNat_natCast, Nat.le_refl, not_true_eq_false, Int.reduceAdd, Int.reduceSub, Int.reduceMul, wrap64, false_and, and_false, cond_true, cond_false, Bool.cond_true_left, Bool.cond_false_right, Int.reduceBNe, Int.reduceBEq, decide_true, decide_false, Int.cast_ofNat_Int, Nat.mul_one, eq_self, Bool.true_eq_false, Bool.not_eq_true, Bool.not_eq_false, deads, List.replicate, argsF, hlA, d2, d3, h0, c1, h02, c2, c3, c11, pm11, pm17, w4, w5, hi1, hlt, beq_self_eq_true, bne_self_eq_false]
            exact ⟨a, w3, rfl, hv3, ha3, ha0, h03⟩
        · have d2 : decide ((i : Int) < 200) = false := decide_eq_false (by omega)
          simp +contextual -implicitDefEqProofs (maxSteps := 10000000) only [sx_seq, sxL_succ, lpQ_norm, lpQ_exit, lpQ_ret, loopQ_norm, loopQ_exit, loopQ_ret, sqQ_norm, sqQ_ret, sqQ_exit, sx_block, blkQ_norm, blkQ_exit, blkQ_ret, sx_cond, cdP_true, cdP_false, cdP_bool, sx_region, sx_draw, plainD, List.all_cons, List.all_nil, List.isEmpty_nil, List.isEmpty_cons, sxo_nil, sxo_cons, sxo_guard, gdS_bool, gdS_eff, gdS_tup, gdS_sel, gdS_seleff, sxK_def, wcall_some, effP_ret, effP_set, effP_none, effP_ite, wop_call, wop_cv, cvP_func, sx_ret, sx_exit, sx_skip, sx_clr, stays, ↓selV_wt, ↓selV_wf, ↓impB_wt, ↓impB_wf, ↓selV_nor, ↓impB_nor, ↓selV_nt, ↓selV_nf, ↓impB_nt, ↓impB_nf, wantB_true, wantB_false, ↓selV_true, ↓selV_false, ↓selV_and, ↓impB_true, ↓impB_false, ↓impB_and, impB_triv, valOf_some, retH_some, ↓prim_pick, pickO_true, pickO_false, pickO_and, pickO_or, pickO_andr, pickO_orr, pickO_orrn, pickO_orn, pickO_bb, pickAnd_bool, pickOr_bool, ↓selV_nn, ↓impB_nn, Bool.and_assoc, Bool.or_assoc, doOp, ev_fr, ev_cst, put_none, put_fr, get, ins, del, dels, Nat.reduceLT, Nat.reduceEqDiff, ↓reduceIte, reduceCtorEq, ne_eq, not_false_eq_true, implies_true, framed_pureF, framed_fb, framed_N, framed_pure, wop_prim, prim, mkA, V.cells, List.getElem?_cons_zero, List.getElem?_cons_succ, List.set_cons_zero, List.set_cons_succ, Nat.zero_add, Nat.add_zero, Nat.reduceAdd, Nat.reduceSub, Nat.reduceMul, Nat.reduceLeDiff, Nat.not_lt_zero, List.map_cons, List.map_nil, List.cons_append, List.nil_append, loadA, cellsAt, nAg, packA, opt_bind_some, opt_map_some, opt_bind_none, opt_map_none, List.drop, List.take, List.head?, List.length_cons, List.length_nil, binA, unA, eqCells, eqCell, negB, fillA, sr_nil, sr_cons, sr_succ, sr_all, sr_len, storeA, Ob.with, indexedI, V.oneCell, intOf?, retQ_ret, retQ_norm, resA, resA1, fr_getD, packR, sealDepth, shut_bool, shut_int, Option.some.injEq, V.bool.injEq, V.int.injEq, Bool.not_true, Bool.not_false, true_and, and_true, and_self, Bool.and_true, Bool.and_false, Bool.true_and, Bool.false_and, Bool.or_true, Bool.or_false, Bool.true_or, Bool.false_or, Bool.false_eq_true, Int.reduceLT, Int.reduceLE, Int.reduceToNat, Int.reduceNeg, shut_plain, freeL_cons, freeL_nil, free_int, free_bool, free_agg, free_str, free_nils, free_tup, free_sl, true_implies, false_implies, Nat.sub_zero, Int.natCast_nonneg, Int.toNat_natCast, Nat.le_refl, not_true_eq_false, Int.reduceAdd, Int.reduceSub, Int.reduceMul, wrap64, false_and, and_false, cond_true, cond_false, Bool.cond_true_left, Bool.cond_false_right, Int.reduceBNe, Int.reduceBEq, decide_true, decide_false, Int.cast_ofNat_Int, Nat.mul_one, eq_self, Bool.true_eq_false, Bool.not_eq_true, Bool.not_eq_false, deads, List.replicate, argsF, d2]

theorem runsLeaseLives {u1 u2 u3 : V} (h1 : InP false (.int .i64) u1) (h2 : InP false (.sl true 5 stpSh) u2) (h3 : InP true leaseSh u3) : ∃ N n, callA am N n 4 [u1, u2, u3] [] = some (.bool true, []) := by
  obtain ⟨p, hp, -⟩ := in_i64 h1
  cases hp
  obtain ⟨A, hl, -⟩ := slice_in (f := Stp.cs) (fun u hu => stp_in hu) h2
  obtain ⟨cs, rfl, h⟩ := h3
  obtain ⟨e, b, r, rfl, -⟩ := lease_in h
  exact ⟨1000, 30, lives_spec (by omega) (by omega) p u2 A hl e b r []⟩
end Go.Am.T
