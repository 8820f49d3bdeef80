import Derived.Test.YthfpjffgagacmaaTx1
set_option linter.unusedVariables false
set_option linter.unusedSimpArgs false
set_option maxRecDepth 10000
namespace Go.Am.T
attribute [local congr] selV_congr impB_congr

def wantV (a b c d e : Int) : V := if may5 a b c d e = true then .sl ((listS a b d).map Pl.v) 4 none else .nils

theorem freeL_pl : ∀ (L : List Pl), V.freeL (L.map Pl.v) = true
  | [] => rfl
  | p :: L => by rw [List.map_cons, freeL_cons, freeL_pl L]; rfl

theorem isL_want (a b c d e : Int) : IsL (wantV a b c d e) 4 ((jobList a b c d e).map Pl.cs) := by
  unfold wantV jobList
  by_cases hm : may5 a b c d e = true
  · rw [if_pos hm, if_pos hm]
    exact isL_sl (freeL_pl _) (by rw [List.map_map]; rfl)
  · rw [if_neg hm, if_neg hm]
    exact isL_nils 4

theorem want_one (a b c d e : Int) : (wantV a b c d e).cells = [wantV a b c d e] ∧ (∀ cs, wantV a b c d e ≠ .agg cs) ∧ (∀ cs, wantV a b c d e ≠ .tup cs) ∧ wantV a b c d e ≠ .junk := by
  unfold wantV
  by_cases hm : may5 a b c d e = true
  · rw [if_pos hm]
    exact ⟨rfl, fun _ => V.noConfusion, fun _ => V.noConfusion, V.noConfusion⟩
  · rw [if_neg hm]
    exact ⟨rfl, fun _ => V.noConfusion, fun _ => V.noConfusion, V.noConfusion⟩

def tL (vt vn : Nat) : List V := fr 75 [(3, .ptr 1 1 0), (4, .ptr 2 1 0), (5, .func 58 [] [.ptr 9 1 0]), (6, .ptr 3 1 0), (7, .ptr 4 vt 0), (8, .ptr 5 vn 0), (21, .func 58 [] [.ptr 9 1 0])]

def heapL (J : List V) (W : V) (leave turn k : Int) (vt vn vl : Nat) (st : Nat) (pd : Option (Option Nat)) (x6 : Ob) : Heap :=
  [⟨1, .var J⟩, ⟨1, .var [.int .i64 leave]⟩, ⟨1, .var [.bool false]⟩, ⟨1, .var [W]⟩, ⟨vt, .var [.int .i64 turn]⟩, ⟨vn, .var [.int .i64 k]⟩, x6, ⟨0, .dead⟩, ⟨vl, .loop st pd (tL vt vn) 0 8 0⟩]

def InvL (J : List V) (W : V) (leave turn : Int) (vt vn vl : Nat) : Bool → Nat → Heap → Prop
  | true, k, h => ∃ x6, h = heapL J W leave turn k vt vn vl 0 none x6
  | false, k, h => ∃ x6, h = heapL J W leave turn k vt vn vl 2 (some (some 2)) x6

def stopL (leave turn : Int) (k : Nat) : Bool := (turn == 0) && (((k + 1 : Nat) : Int) == leave)

theorem law_taker {N n : Nat} (hn : 1 ≤ n) {L : List Pl} (hL8 : L.length ≤ 1100) {W : V} (hW : IsL W 4 (L.map Pl.cs)) (J : List V) (leave turn : Int) (vt vn vl : Nat) : Taker L N n 8 vl 9 (stopL leave turn) (InvL J W leave turn vt vn vl) := by
  refine ⟨?_, ?_⟩
  · intro b k h hI
    cases b <;> obtain ⟨x6, rfl⟩ := hI <;> rfl
  · rintro k h p tl hk hI
    obtain ⟨x6, rfl⟩ := hI
    obtain ⟨n, rfl⟩ : ∃ m, n = m + 1 := ⟨n - 1, by omega⟩
    have hkl := (List.getElem?_eq_some_iff.1 hk).1
    have la := hW.len
    have ln := hW.nstr
    rw [List.length_map] at la
    have ha := hW.at_ k
    rw [List.getElem?_map, hk] at ha
    simp only [Option.map_some, Pl.cs] at ha
    have g1 : decide ((k : Int) ≥ (L.length : Int)) = false := decide_eq_false (by omega)
    have g2 : ((k : Int) != (k : Int)) = false := by simp
    have w1 : IntKind.i64.wrap ((k : Int) + 1) = ((k + 1 : Nat) : Int) := (wrap64 (by omega) (by omega)).trans (by omega)
    cases hs : stopL leave turn k with
    | true =>
      have hs' := hs
      unfold stopL at hs'
      refine ⟨heapL J W leave turn ((k + 1 : Nat) : Int) vt vn vl 2 (some (some 2)) ⟨x6.ver + 1, .var p.cs⟩, ?_, ⟨_, rfl⟩⟩
      unfold heapL Pl.cs
      refine call_yld (ho := rfl) (hp := at8) (hr := rfl) (hl := rfl) ?_
      unfold tL
      simp +contextual -implicitDefEqProofs (maxSteps := 10000000) only [sx_seq, sxL_succ, lpQ_norm, lpQ_exit, lpQ_ret, loopQ_norm, loopQ_exit, loopQ_ret, sqQ_norm, sqQ_ret, sqQ_exit, sx_block, blkQ_norm, blkQ_exit, blkQ_ret, sx_cond, cdP_true, cdP_false, cdP_bool, sx_region, sx_draw, plainD, List.all_cons, List.all_nil, List.isEmpty_nil, List.isEmpty_cons, sxo_nil, sxo_cons, sxo_guard, gdS_bool, gdS_eff, gdS_tup, gdS_sel, gdS_seleff, sxK_def, wcall_some, effP_ret, effP_set, effP_none, effP_ite, wop_call, wop_cv, cvP_func, sx_ret, sx_exit, sx_skip, sx_clr, stays, ↓selV_wt, ↓selV_wf, ↓impB_wt, ↓impB_wf, ↓selV_nor, ↓impB_nor, ↓selV_nt, ↓selV_nf, ↓impB_nt, ↓impB_nf, wantB_true, wantB_false, ↓selV_true, ↓selV_false, ↓selV_and, ↓impB_true, ↓impB_false, ↓impB_and, impB_triv, valOf_some, retH_some, ↓prim_pick, pickO_true, pickO_false, pickO_and, pickO_or, pickO_andr, pickO_orr, pickO_orrn, pickO_orn, pickO_bb, pickAnd_bool, pickOr_bool, ↓selV_nn, ↓impB_nn, Bool.and_assoc, Bool.or_assoc, doOp, ev_fr, ev_cst, put_none, put_fr, get, ins, del, dels, Nat.reduceLT, Nat.reduceEqDiff, ↓reduceIte, reduceCtorEq, ne_eq, not_false_eq_true, implies_true, framed_pureF, framed_fb, framed_N, framed_pure, wop_prim, prim, YLD, mkA, V.cells, List.getElem?_cons_zero, List.getElem?_cons_succ, List.set_cons_zero, List.set_cons_succ, Nat.zero_add, Nat.add_zero, Nat.reduceAdd, Nat.reduceSub, Nat.reduceMul, Nat.reduceLeDiff, Nat.not_lt_zero, List.map_cons, List.map_nil, List.cons_append, List.nil_append, loadA, cellsAt, nAg, packA, opt_bind_some, opt_map_some, opt_bind_none, opt_map_none, List.drop, List.take, List.head?, List.length_cons, List.length_nil, binA, unA, eqCells, eqCell, negB, fillA, sr_nil, sr_cons, sr_succ, sr_all, sr_len, storeA, Ob.with, indexedI, V.oneCell, intOf?, retQ_ret, retQ_norm, resA, resA1, fr_getD, packR, sealDepth, shut_bool, shut_int, Option.some.injEq, V.bool.injEq, V.int.injEq, Bool.not_true, Bool.not_false, true_and, and_true, and_self, Bool.and_true, Bool.and_false, Bool.true_and, Bool.false_and, Bool.or_true, Bool.or_false, Bool.true_or, Bool.false_or, Bool.false_eq_true, Int.reduceLT, Int.reduceLE, Int.reduceToNat, Int.reduceNeg, shut_plain, freeL_cons, freeL_nil, free_int, free_bool, free_agg, free_str, free_nils, free_tup, free_sl, true_implies, false_implies, Nat.sub_zero, Int.natCast_nonneg, Int.toNat_natCast, Nat.le_refl, not_true_eq_false, Int.reduceAdd, Int.reduceSub, Int.reduceMul, wrap64, false_and, and_false, cond_true, cond_false, Bool.cond_true_left, Bool.cond_false_right, Int.reduceBNe, Int.reduceBEq, decide_true, decide_false, Int.cast_ofNat_Int, Nat.mul_one, eq_self, Bool.true_eq_false, Bool.not_eq_true, Bool.not_eq_false, deads, List.replicate, argsF, setPs_cons, setPs_nil]
      refine ⟨_, _, _, _, _, rfl, ?_⟩
      simp +contextual -implicitDefEqProofs (maxSteps := 10000000) only [sx_seq, sxL_succ, lpQ_norm, lpQ_exit, lpQ_ret, loopQ_norm, loopQ_exit, loopQ_ret, sqQ_norm, sqQ_ret, sqQ_exit, sx_block, blkQ_norm, blkQ_exit, blkQ_ret, sx_cond, cdP_true, cdP_false, cdP_bool, sx_region, sx_draw, plainD, List.all_cons, List.all_nil, List.isEmpty_nil, List.isEmpty_cons, sxo_nil, sxo_cons, sxo_guard, gdS_bool, gdS_eff, gdS_tup, gdS_sel, gdS_seleff, sxK_def, wcall_some, effP_ret, effP_set, effP_none, effP_ite, wop_call, wop_cv, cvP_func, sx_ret, sx_exit, sx_skip, sx_clr, stays, ↓selV_wt, ↓selV_wf, ↓impB_wt, ↓impB_wf, ↓selV_nor, ↓impB_nor, ↓selV_nt, ↓selV_nf, ↓impB_nt, ↓impB_nf, wantB_true, wantB_false, ↓selV_true, ↓selV_false, ↓selV_and, ↓impB_true, ↓impB_false, ↓impB_and, impB_triv, valOf_some, retH_some, ↓prim_pick, pickO_true, pickO_false, pickO_and, pickO_or, pickO_andr, pickO_orr, pickO_orrn, pickO_orn, pickO_bb, pickAnd_bool, pickOr_bool, ↓selV_nn, ↓impB_nn, Bool.and_assoc, Bool.or_assoc, doOp, ev_fr, ev_cst, put_none, put_fr, get, ins, del, dels, Nat.reduceLT, Nat.reduceEqDiff, ↓reduceIte, reduceCtorEq, ne_eq, not_false_eq_true, implies_true, framed_pureF, framed_fb, framed_N, framed_pure, wop_prim, prim, YLD, mkA, V.cells, List.getElem?_cons_zero, List.getElem?_cons_succ, List.set_cons_zero, List.set_cons_succ, Nat.zero_add, Nat.add_zero, Nat.reduceAdd, Nat.reduceSub, Nat.reduceMul, Nat.reduceLeDiff, Nat.not_lt_zero, List.map_cons, List.map_nil, List.cons_append, List.nil_append, loadA, cellsAt, nAg, packA, opt_bind_some, opt_map_some, opt_bind_none, opt_map_none, List.drop, List.take, List.head?, List.length_cons, List.length_nil, binA, unA, eqCells, eqCell, negB, fillA, sr_nil, sr_cons, sr_succ, sr_all, sr_len, storeA, Ob.with, indexedI, V.oneCell, intOf?, retQ_ret, retQ_norm, resA, resA1, fr_getD, packR, sealDepth, shut_bool, shut_int, Option.some.injEq, V.bool.injEq, V.int.injEq, Bool.not_true, Bool.not_false, true_and, and_true, and_self, Bool.and_true, Bool.and_false, Bool.true_and, Bool.false_and, Bool.or_true, Bool.or_false, Bool.true_or, Bool.false_or, Bool.false_eq_true, Int.reduceLT, Int.reduceLE, Int.reduceToNat, Int.reduceNeg, shut_plain, freeL_cons, freeL_nil, free_int, free_bool, free_agg, free_str, free_nils, free_tup, free_sl, true_implies, false_implies, Nat.sub_zero, Int.natCast_nonneg, Int.toNat_natCast, Nat.le_refl, not_true_eq_false, Int.reduceAdd, Int.reduceSub, Int.reduceMul, wrap64, false_and, and_false, cond_true, cond_false, Bool.cond_true_left, Bool.cond_false_right, Int.reduceBNe, Int.reduceBEq, decide_true, decide_false, Int.cast_ofNat_Int, Nat.mul_one, eq_self, Bool.true_eq_false, Bool.not_eq_true, Bool.not_eq_false, deads, List.replicate, argsF, sx_drawd, wpd_nil, wpd_cons, wdK_def, fpOf, fpV, fpCall, Fp.ok, disj, List.contains_cons, List.contains_nil, Nat.reduceBEq, List.all_append, V.objsL, V.objs,  List.getD_cons_zero, List.getD_cons_succ, List.append_nil, la, ha, g1, g2, w1, hs', beq_self_eq_true]
      exact ⟨_, _, _, _, _, _, rfl, rfl, rfl⟩
    | false =>
      have hs' := hs
      unfold stopL at hs'
      refine ⟨heapL J W leave turn ((k + 1 : Nat) : Int) vt vn vl 0 none ⟨x6.ver + 1, .var p.cs⟩, ?_, ⟨_, rfl⟩⟩
      unfold heapL Pl.cs
      refine call_yld (ho := rfl) (hp := at8) (hr := rfl) (hl := rfl) ?_
      unfold tL
      simp +contextual -implicitDefEqProofs (maxSteps := 10000000) only [sx_seq, sxL_succ, lpQ_norm, lpQ_exit, lpQ_ret, loopQ_norm, loopQ_exit, loopQ_ret, sqQ_norm, sqQ_ret, sqQ_exit, sx_block, blkQ_norm, blkQ_exit, blkQ_ret, sx_cond, cdP_true, cdP_false, cdP_bool, sx_region, sx_draw, plainD, List.all_cons, List.all_nil, List.isEmpty_nil, List.isEmpty_cons, sxo_nil, sxo_cons, sxo_guard, gdS_bool, gdS_eff, gdS_tup, gdS_sel, gdS_seleff, sxK_def, wcall_some, effP_ret, effP_set, effP_none, effP_ite, wop_call, wop_cv, cvP_func, sx_ret, sx_exit, sx_skip, sx_clr, stays, ↓selV_wt, ↓selV_wf, ↓impB_wt, ↓impB_wf, ↓selV_nor, ↓impB_nor, ↓selV_nt, ↓selV_nf, ↓impB_nt, ↓impB_nf, wantB_true, wantB_false, ↓selV_true, ↓selV_false, ↓selV_and, ↓impB_true, ↓impB_false, ↓impB_and, impB_triv, valOf_some, retH_some, ↓prim_pick, pickO_true, pickO_false, pickO_and, pickO_or, pickO_andr, pickO_orr, pickO_orrn, pickO_orn, pickO_bb, pickAnd_bool, pickOr_bool, ↓selV_nn, ↓impB_nn, Bool.and_assoc, Bool.or_assoc, doOp, ev_fr, ev_cst, put_none, put_fr, get, ins, del, dels, Nat.reduceLT, Nat.reduceEqDiff, ↓reduceIte, reduceCtorEq, ne_eq, not_false_eq_true, implies_true, framed_pureF, framed_fb, framed_N, framed_pure, wop_prim, prim, YLD, mkA, V.cells, List.getElem?_cons_zero, List.getElem?_cons_succ, List.set_cons_zero, List.set_cons_succ, Nat.zero_add, Nat.add_zero, Nat.reduceAdd, Nat.reduceSub, Nat.reduceMul, Nat.reduceLeDiff, Nat.not_lt_zero, List.map_cons, List.map_nil, List.cons_append, List.nil_append, loadA, cellsAt, nAg, packA, opt_bind_some, opt_map_some, opt_bind_none, opt_map_none, List.drop, List.take, List.head?, List.length_cons, List.length_nil, binA, unA, eqCells, eqCell, negB, fillA, sr_nil, sr_cons, sr_succ, sr_all, sr_len, storeA, Ob.with, indexedI, V.oneCell, intOf?, retQ_ret, retQ_norm, resA, resA1, fr_getD, packR, sealDepth, shut_bool, shut_int, Option.some.injEq, V.bool.injEq, V.int.injEq, Bool.not_true, Bool.not_false, true_and, and_true, and_self, Bool.and_true, Bool.and_false, Bool.true_and, Bool.false_and, Bool.or_true, Bool.or_false, Bool.true_or, Bool.false_or, Bool.false_eq_true, Int.reduceLT, Int.reduceLE, Int.reduceToNat, Int.reduceNeg, shut_plain, freeL_cons, freeL_nil, free_int, free_bool, free_agg, free_str, free_nils, free_tup, free_sl, true_implies, false_implies, Nat.sub_zero, Int.natCast_nonneg, Int.toNat_natCast, Nat.le_refl, not_true_eq_false, Int.reduceAdd, Int.reduceSub, Int.reduceMul, wrap64, false_and, and_false, cond_true, cond_false, Bool.cond_true_left, Bool.cond_false_right, Int.reduceBNe, Int.reduceBEq, decide_true, decide_false, Int.cast_ofNat_Int, Nat.mul_one, eq_self, Bool.true_eq_false, Bool.not_eq_true, Bool.not_eq_false, deads, List.replicate, argsF, setPs_cons, setPs_nil]
      refine ⟨_, _, _, _, _, rfl, ?_⟩
      simp +contextual -implicitDefEqProofs (maxSteps := 10000000) only [sx_seq, sxL_succ, lpQ_norm, lpQ_exit, lpQ_ret, loopQ_norm, loopQ_exit, loopQ_ret, sqQ_norm, sqQ_ret, sqQ_exit, sx_block, blkQ_norm, blkQ_exit, blkQ_ret, sx_cond, cdP_true, cdP_false, cdP_bool, sx_region, sx_draw, plainD, List.all_cons, List.all_nil, List.isEmpty_nil, List.isEmpty_cons, sxo_nil, sxo_cons, sxo_guard, gdS_bool, gdS_eff, gdS_tup, gdS_sel, gdS_seleff, sxK_def, wcall_some, effP_ret, effP_set, effP_none, effP_ite, wop_call, wop_cv, cvP_func, sx_ret, sx_exit, sx_skip, sx_clr, stays, ↓selV_wt, ↓selV_wf, ↓impB_wt, ↓impB_wf, ↓selV_nor, ↓impB_nor, ↓selV_nt, ↓selV_nf, ↓impB_nt, ↓impB_nf, wantB_true, wantB_false, ↓selV_true, ↓selV_false, ↓selV_and, ↓impB_true, ↓impB_false, ↓impB_and, impB_triv, valOf_some, retH_some, ↓prim_pick, pickO_true, pickO_false, pickO_and, pickO_or, pickO_andr, pickO_orr, pickO_orrn, pickO_orn, pickO_bb, pickAnd_bool, pickOr_bool, ↓selV_nn, ↓impB_nn, Bool.and_assoc, Bool.or_assoc, doOp, ev_fr, ev_cst, put_none, put_fr, get, ins, del, dels, Nat.reduceLT, Nat.reduceEqDiff, ↓reduceIte, reduceCtorEq, ne_eq, not_false_eq_true, implies_true, framed_pureF, framed_fb, framed_N, framed_pure, wop_prim, prim, YLD, mkA, V.cells, List.getElem?_cons_zero, List.getElem?_cons_succ, List.set_cons_zero, List.set_cons_succ, Nat.zero_add, Nat.add_zero, Nat.reduceAdd, Nat.reduceSub, Nat.reduceMul, Nat.reduceLeDiff, Nat.not_lt_zero, List.map_cons, List.map_nil, List.cons_append, List.nil_append, loadA, cellsAt, nAg, packA, opt_bind_some, opt_map_some, opt_bind_none, opt_map_none, List.drop, List.take, List.head?, List.length_cons, List.length_nil, binA, unA, eqCells, eqCell, negB, fillA, sr_nil, sr_cons, sr_succ, sr_all, sr_len, storeA, Ob.with, indexedI, V.oneCell, intOf?, retQ_ret, retQ_norm, resA, resA1, fr_getD, packR, sealDepth, shut_bool, shut_int, Option.some.injEq, V.bool.injEq, V.int.injEq, Bool.not_true, Bool.not_false, true_and, and_true, and_self, Bool.and_true, Bool.and_false, Bool.true_and, Bool.false_and, Bool.or_true, Bool.or_false, Bool.true_or, Bool.false_or, Bool.false_eq_true, Int.reduceLT, Int.reduceLE, Int.reduceToNat, Int.reduceNeg, shut_plain, freeL_cons, freeL_nil, free_int, free_bool, free_agg, free_str, free_nils, free_tup, free_sl, true_implies, false_implies, Nat.sub_zero, Int.natCast_nonneg, Int.toNat_natCast, Nat.le_refl, not_true_eq_false, Int.reduceAdd, Int.reduceSub, Int.reduceMul, wrap64, false_and, and_false, cond_true, cond_false, Bool.cond_true_left, Bool.cond_false_right, Int.reduceBNe, Int.reduceBEq, decide_true, decide_false, Int.cast_ofNat_Int, Nat.mul_one, eq_self, Bool.true_eq_false, Bool.not_eq_true, Bool.not_eq_false, deads, List.replicate, argsF, sx_drawd, wpd_nil, wpd_cons, wdK_def, fpOf, fpV, fpCall, Fp.ok, disj, List.contains_cons, List.contains_nil, Nat.reduceBEq, List.all_append, V.objsL, V.objs,  List.getD_cons_zero, List.getD_cons_succ, List.append_nil, la, ha, g1, g2, w1, hs', beq_self_eq_true]
      exact ⟨_, _, _, _, _, _, rfl, rfl, rfl⟩

theorem blkQ_two {Q : Post} {pd : Option (Option Nat)} {t : List V} {h : Heap} (hj : jumpE pd = .norm ∨ jumpE pd = .exit 2) : blkQ 2 Q (jumpE pd) t h = Q .norm t h := by
  rcases hj with hj | hj <;> rw [hj] <;> rfl

/-- The first turn. -/
theorem turn_one {N n : Nat} (hN : 2000 ≤ N) (hn : 4 ≤ n) (a b c d e : Int) (leave : Int) (x6 : Ob) :
    ∃ (K : Int) (st : Nat) (pd : Option (Option Nat)) (y z : Ob), callA am N (n + 1) 58 [.yld 8 1, .ptr 9 1 0] (heapL (jc a b c d e) (wantV a b c d e) leave 0 0 1 1 1 0 none x6 ++ [⟨1, .var (jc a b c d e)⟩]) = some (.tup [], heapL (jc a b c d e) (wantV a b c d e) leave 0 K 1 1 1 st pd z ++ [⟨1, .var (jc a b c d e)⟩, y]) ∧
      st ≠ 1 ∧ (jumpE pd = .norm ∨ jumpE pd = .exit 2) ∧ ((K != ((jobList a b c d e).length : Int)) && (K != leave)) = false := by
  obtain ⟨h', y, q, K, hc, hI, hall, hleft⟩ := iter_spec hN hn a b c d e (law_taker (N := N) (n := n) (by omega) jobList_len (isL_want a b c d e) (jc a b c d e) leave 0 1 1 1) _ [] (⟨x6, rfl⟩ : InvL (jc a b c d e) (wantV a b c d e) leave 0 1 1 1 true 0 _)
  cases q with
  | true =>
    obtain ⟨z, hI⟩ := hI
    subst hI
    obtain ⟨rfl, -⟩ := hall rfl
    exact ⟨_, 0, none, y, z, hc, by decide, .inl rfl, by simp⟩
  | false =>
    obtain ⟨z, hI⟩ := hI
    subst hI
    obtain ⟨k, rfl, -, hs, -⟩ := hleft rfl
    refine ⟨_, 2, some (some 2), y, z, hc, by decide, .inr rfl, ?_⟩
    have : ((k + 1 : Nat) : Int) = leave := by simpa [stopL] using hs
    rw [this]
    simp

/-- The second turn. -/
theorem turn_two {N n : Nat} (hN : 2000 ≤ N) (hn : 4 ≤ n) (a b c d e : Int) (leave : Int) (x6 x : Ob) :
    ∃ (y z : Ob), callA am N (n + 1) 58 [.yld 8 2, .ptr 9 1 0] (heapL (jc a b c d e) (wantV a b c d e) leave 1 0 2 2 2 0 none x6 ++ [⟨1, .var (jc a b c d e)⟩, x]) = some (.tup [], heapL (jc a b c d e) (wantV a b c d e) leave 1 (jobList a b c d e).length 2 2 2 0 none z ++ [⟨1, .var (jc a b c d e)⟩, x, y]) := by
  obtain ⟨h', y, q, K, hc, hI, hall, hleft⟩ := iter_spec hN hn a b c d e (law_taker (N := N) (n := n) (by omega) jobList_len (isL_want a b c d e) (jc a b c d e) leave 1 2 2 2) _ [x] (⟨x6, rfl⟩ : InvL (jc a b c d e) (wantV a b c d e) leave 1 2 2 2 true 0 _)
  cases q with
  | true =>
    obtain ⟨z, hI⟩ := hI
    subst hI
    obtain ⟨rfl, -⟩ := hall rfl
    exact ⟨y, z, hc⟩
  | false =>
    obtain ⟨k, rfl, -, hs, -⟩ := hleft rfl
    simp [stopL] at hs

theorem am8_wp {N n : Nat} {args : List V} {h : Heap} {v : V} (ha : args.length = 2) (hfree : V.freeL args = true)
    (H : sx ⟨pureOf am, callA am N n, N, 0⟩ am8.body (fr am8.nt (argsF 0 args)) (deads am8.sites) (retQ am8.res fun x h' => V.shut (fun o => h'[o]?) sealDepth x = some v)) : callA am N (n + 1) 8 args h = some (v, h) :=
  call_pure at8 rfl ha (by decide) hfree (sx_wp H)

set_option maxHeartbeats 4000000 in
theorem all_law {N n : Nat} (hN : 2000 ≤ N) (hn : 22 ≤ n) (a b c d e leave : Int) (h : Heap) :
    callA am N n 8 [.agg (jc a b c d e), .int .i64 leave] h = some (.bool true, h) := by
  obtain ⟨n, rfl⟩ : ∃ m, n = m + 2 := ⟨n - 2, by omega⟩
  have c33 := @all_spec N (n + 1) (by omega) a b c d e
  have c12 : ∀ h, callA am N (n + 1) 12 [.agg (jc a b c d e)] h = some (wantV a b c d e, h) := fun h => @list_spec N (n + 1) (by omega) (by omega) a b c d e h
  have c19 := @known_spec N (n + 1) (by omega) (by omega)
  have hW := isL_want a b c d e
  have la := hW.len
  rw [List.length_map] at la
  have ln := hW.nstr
  obtain ⟨hcel, hna, hnt, hnj⟩ := want_one a b c d e
  have hcl : (jc a b c d e).length = 5 := rfl
  have tk : List.take 5 (jc a b c d e) = jc a b c d e := rfl
  have fre : V.freeL (jc a b c d e) = true := rfl
  obtain ⟨K, st, pd, y, z, hc, hst, hj, hcd⟩ := turn_one (N := N) (n := n) (by omega) (by omega) a b c d e leave ⟨0, .dead⟩
  obtain ⟨y2, z2, hc2⟩ := turn_two (N := N) (n := n) (by omega) (by omega) a b c d e leave z y
  generalize jc a b c d e = J at c33 c12 hcl tk fre hc hc2 ⊢
  have b2 : ∀ x : Int, (x != x) = false := fun x => by simp
  refine am8_wp rfl (by simp [freeL_cons, freeL_nil, free_agg, free_int, fre]) ?_
  simp +contextual -implicitDefEqProofs (maxSteps := 10000000) only [sx_seq, sxL_succ, lpQ_norm, lpQ_exit, lpQ_ret, loopQ_norm, loopQ_exit, loopQ_ret, sqQ_norm, sqQ_ret, sqQ_exit, sx_block, blkQ_norm, blkQ_exit, blkQ_ret, sx_cond, cdP_true, cdP_false, cdP_bool, sx_region, sx_draw, plainD, List.all_cons, List.all_nil, List.isEmpty_nil, List.isEmpty_cons, sxo_nil, sxo_cons, sxo_guard, gdS_bool, gdS_eff, gdS_tup, gdS_sel, gdS_seleff, sxK_def, wcall_some, effP_ret, effP_set, effP_none, effP_ite, wop_call, wop_cv, cvP_func, sx_ret, sx_exit, sx_skip, sx_clr, stays, ↓selV_wt, ↓selV_wf, ↓impB_wt, ↓impB_wf, ↓selV_nor, ↓impB_nor, ↓selV_nt, ↓selV_nf, ↓impB_nt, ↓impB_nf, wantB_true, wantB_false, ↓selV_true, ↓selV_false, ↓selV_and, ↓impB_true, ↓impB_false, ↓impB_and, impB_triv, valOf_some, retH_some, ↓prim_pick, pickO_true, pickO_false, pickO_and, pickO_or, pickO_andr, pickO_orr, pickO_orrn, pickO_orn, pickO_bb, pickAnd_bool, pickOr_bool, ↓selV_nn, ↓impB_nn, Bool.and_assoc, Bool.or_assoc, doOp, ev_fr, ev_cst, put_none, put_fr, get, ins, del, dels, Nat.reduceLT, Nat.reduceEqDiff, ↓reduceIte, reduceCtorEq, ne_eq, not_false_eq_true, implies_true, framed_pureF, framed_fb, framed_N, framed_pure, wop_prim, prim, YLD, mkA, V.cells, List.getElem?_cons_zero, List.getElem?_cons_succ, List.set_cons_zero, List.set_cons_succ, Nat.zero_add, Nat.add_zero, Nat.reduceAdd, Nat.reduceSub, Nat.reduceMul, Nat.reduceLeDiff, Nat.not_lt_zero, List.map_cons, List.map_nil, List.cons_append, List.nil_append, loadA, cellsAt, nAg, packA, opt_bind_some, opt_map_some, opt_bind_none, opt_map_none, List.drop, List.take, List.head?, List.length_cons, List.length_nil, binA, unA, eqCells, eqCell, negB, fillA, sr_nil, sr_cons, sr_succ, sr_all, sr_len, storeA, Ob.with, indexedI, V.oneCell, intOf?, retQ_ret, retQ_norm, resA, resA1, fr_getD, packR, sealDepth, shut_bool, shut_int, Option.some.injEq, V.bool.injEq, V.int.injEq, Bool.not_true, Bool.not_false, true_and, and_true, and_self, Bool.and_true, Bool.and_false, Bool.true_and, Bool.false_and, Bool.or_true, Bool.or_false, Bool.true_or, Bool.false_or, Bool.false_eq_true, Int.reduceLT, Int.reduceLE, Int.reduceToNat, Int.reduceNeg, shut_plain, freeL_cons, freeL_nil, free_int, free_bool, free_agg, free_str, free_nils, free_tup, free_sl, true_implies, false_implies, Nat.sub_zero, Int.natCast_nonneg, Int.toNat_natCast, Nat.le_refl, not_true_eq_false, Int.reduceAdd, Int.reduceSub, Int.reduceMul, wrap64, false_and, and_false, cond_true, cond_false, Bool.cond_true_left, Bool.cond_false_right, Int.reduceBNe, Int.reduceBEq, decide_true, decide_false, Int.cast_ofNat_Int, Nat.mul_one, eq_self, Bool.true_eq_false, Bool.not_eq_true, Bool.not_eq_false, deads, List.replicate, argsF, am8, sx_drawd, wpd_nil, wpd_cons, wdK_def, fpOf, fpV, fpCall, Fp.ok, disj, List.contains_cons, List.contains_nil, Nat.reduceBEq, List.all_append, V.objsL, V.objs,  List.getD_cons_zero, List.getD_cons_succ, List.append_nil, hcl, tk, c33, c12, hcel, la, b2, isNil]
  refine sx_unroll 3 (by show 3 ≤ N; omega) ?_
  simp +contextual -implicitDefEqProofs (maxSteps := 10000000) only [sx_seq, sxL_succ, lpQ_norm, lpQ_exit, lpQ_ret, loopQ_norm, loopQ_exit, loopQ_ret, sqQ_norm, sqQ_ret, sqQ_exit, sx_block, blkQ_norm, blkQ_exit, blkQ_ret, sx_cond, cdP_true, cdP_false, cdP_bool, sx_region, sx_draw, plainD, List.all_cons, List.all_nil, List.isEmpty_nil, List.isEmpty_cons, sxo_nil, sxo_cons, sxo_guard, gdS_bool, gdS_eff, gdS_tup, gdS_sel, gdS_seleff, sxK_def, wcall_some, effP_ret, effP_set, effP_none, effP_ite, wop_call, wop_cv, cvP_func, sx_ret, sx_exit, sx_skip, sx_clr, stays, ↓selV_wt, ↓selV_wf, ↓impB_wt, ↓impB_wf, ↓selV_nor, ↓impB_nor, ↓selV_nt, ↓selV_nf, ↓impB_nt, ↓impB_nf, wantB_true, wantB_false, ↓selV_true, ↓selV_false, ↓selV_and, ↓impB_true, ↓impB_false, ↓impB_and, impB_triv, valOf_some, retH_some, ↓prim_pick, pickO_true, pickO_false, pickO_and, pickO_or, pickO_andr, pickO_orr, pickO_orrn, pickO_orn, pickO_bb, pickAnd_bool, pickOr_bool, ↓selV_nn, ↓impB_nn, Bool.and_assoc, Bool.or_assoc, doOp, ev_fr, ev_cst, put_none, put_fr, get, ins, del, dels, Nat.reduceLT, Nat.reduceEqDiff, ↓reduceIte, reduceCtorEq, ne_eq, not_false_eq_true, implies_true, framed_pureF, framed_fb, framed_N, framed_pure, wop_prim, prim, YLD, mkA, V.cells, List.getElem?_cons_zero, List.getElem?_cons_succ, List.set_cons_zero, List.set_cons_succ, Nat.zero_add, Nat.add_zero, Nat.reduceAdd, Nat.reduceSub, Nat.reduceMul, Nat.reduceLeDiff, Nat.not_lt_zero, List.map_cons, List.map_nil, List.cons_append, List.nil_append, loadA, cellsAt, nAg, packA, opt_bind_some, opt_map_some, opt_bind_none, opt_map_none, List.drop, List.take, List.head?, List.length_cons, List.length_nil, binA, unA, eqCells, eqCell, negB, fillA, sr_nil, sr_cons, sr_succ, sr_all, sr_len, storeA, Ob.with, indexedI, V.oneCell, intOf?, retQ_ret, retQ_norm, resA, resA1, fr_getD, packR, sealDepth, shut_bool, shut_int, Option.some.injEq, V.bool.injEq, V.int.injEq, Bool.not_true, Bool.not_false, true_and, and_true, and_self, Bool.and_true, Bool.and_false, Bool.true_and, Bool.false_and, Bool.or_true, Bool.or_false, Bool.true_or, Bool.false_or, Bool.false_eq_true, Int.reduceLT, Int.reduceLE, Int.reduceToNat, Int.reduceNeg, shut_plain, freeL_cons, freeL_nil, free_int, free_bool, free_agg, free_str, free_nils, free_tup, free_sl, true_implies, false_implies, Nat.sub_zero, Int.natCast_nonneg, Int.toNat_natCast, Nat.le_refl, not_true_eq_false, Int.reduceAdd, Int.reduceSub, Int.reduceMul, wrap64, false_and, and_false, cond_true, cond_false, Bool.cond_true_left, Bool.cond_false_right, Int.reduceBNe, Int.reduceBEq, decide_true, decide_false, Int.cast_ofNat_Int, Nat.mul_one, eq_self, Bool.true_eq_false, Bool.not_eq_true, Bool.not_eq_false, deads, List.replicate, argsF, hcl, tk]
  refine sx_rangeF (x := ⟨0, .dead⟩) (g := 58) (xs := []) (ys := [.ptr 9 1 0]) rfl rfl hc rfl hst ?_
  rw [blkQ_two hj]
  unfold heapL
  simp +contextual -implicitDefEqProofs (maxSteps := 10000000) only [sx_seq, sxL_succ, lpQ_norm, lpQ_exit, lpQ_ret, loopQ_norm, loopQ_exit, loopQ_ret, sqQ_norm, sqQ_ret, sqQ_exit, sx_block, blkQ_norm, blkQ_exit, blkQ_ret, sx_cond, cdP_true, cdP_false, cdP_bool, sx_region, sx_draw, plainD, List.all_cons, List.all_nil, List.isEmpty_nil, List.isEmpty_cons, sxo_nil, sxo_cons, sxo_guard, gdS_bool, gdS_eff, gdS_tup, gdS_sel, gdS_seleff, sxK_def, wcall_some, effP_ret, effP_set, effP_none, effP_ite, wop_call, wop_cv, cvP_func, sx_ret, sx_exit, sx_skip, sx_clr, stays, ↓selV_wt, ↓selV_wf, ↓impB_wt, ↓impB_wf, ↓selV_nor, ↓impB_nor, ↓selV_nt, ↓selV_nf, ↓impB_nt, ↓impB_nf, wantB_true, wantB_false, ↓selV_true, ↓selV_false, ↓selV_and, ↓impB_true, ↓impB_false, ↓impB_and, impB_triv, valOf_some, retH_some, ↓prim_pick, pickO_true, pickO_false, pickO_and, pickO_or, pickO_andr, pickO_orr, pickO_orrn, pickO_orn, pickO_bb, pickAnd_bool, pickOr_bool, ↓selV_nn, ↓impB_nn, Bool.and_assoc, Bool.or_assoc, doOp, ev_fr, ev_cst, put_none, put_fr, get, ins, del, dels, Nat.reduceLT, Nat.reduceEqDiff, ↓reduceIte, reduceCtorEq, ne_eq, not_false_eq_true, implies_true, framed_pureF, framed_fb, framed_N, framed_pure, wop_prim, prim, YLD, mkA, V.cells, List.getElem?_cons_zero, List.getElem?_cons_succ, List.set_cons_zero, List.set_cons_succ, Nat.zero_add, Nat.add_zero, Nat.reduceAdd, Nat.reduceSub, Nat.reduceMul, Nat.reduceLeDiff, Nat.not_lt_zero, List.map_cons, List.map_nil, List.cons_append, List.nil_append, loadA, cellsAt, nAg, packA, opt_bind_some, opt_map_some, opt_bind_none, opt_map_none, List.drop, List.take, List.head?, List.length_cons, List.length_nil, binA, unA, eqCells, eqCell, negB, fillA, sr_nil, sr_cons, sr_succ, sr_all, sr_len, storeA, Ob.with, indexedI, V.oneCell, intOf?, retQ_ret, retQ_norm, resA, resA1, fr_getD, packR, sealDepth, shut_bool, shut_int, Option.some.injEq, V.bool.injEq, V.int.injEq, Bool.not_true, Bool.not_false, true_and, and_true, and_self, Bool.and_true, Bool.and_false, Bool.true_and, Bool.false_and, Bool.or_true, Bool.or_false, Bool.true_or, Bool.false_or, Bool.false_eq_true, Int.reduceLT, Int.reduceLE, Int.reduceToNat, Int.reduceNeg, shut_plain, freeL_cons, freeL_nil, free_int, free_bool, free_agg, free_str, free_nils, free_tup, free_sl, true_implies, false_implies, Nat.sub_zero, Int.natCast_nonneg, Int.toNat_natCast, Nat.le_refl, not_true_eq_false, Int.reduceAdd, Int.reduceSub, Int.reduceMul, wrap64, false_and, and_false, cond_true, cond_false, Bool.cond_true_left, Bool.cond_false_right, Int.reduceBNe, Int.reduceBEq, decide_true, decide_false, Int.cast_ofNat_Int, Nat.mul_one, eq_self, Bool.true_eq_false, Bool.not_eq_true, Bool.not_eq_false, deads, List.replicate, argsF, la, hcd]
  refine sx_rangeF (x := ⟨1, .dead⟩) (g := 58) (xs := []) (ys := [.ptr 9 1 0]) rfl rfl hc2 rfl (by decide) ?_
  unfold heapL
  simp +contextual -implicitDefEqProofs (maxSteps := 10000000) only [sx_seq, sxL_succ, lpQ_norm, lpQ_exit, lpQ_ret, loopQ_norm, loopQ_exit, loopQ_ret, sqQ_norm, sqQ_ret, sqQ_exit, sx_block, blkQ_norm, blkQ_exit, blkQ_ret, sx_cond, cdP_true, cdP_false, cdP_bool, sx_region, sx_draw, plainD, List.all_cons, List.all_nil, List.isEmpty_nil, List.isEmpty_cons, sxo_nil, sxo_cons, sxo_guard, gdS_bool, gdS_eff, gdS_tup, gdS_sel, gdS_seleff, sxK_def, wcall_some, effP_ret, effP_set, effP_none, effP_ite, wop_call, wop_cv, cvP_func, sx_ret, sx_exit, sx_skip, sx_clr, stays, ↓selV_wt, ↓selV_wf, ↓impB_wt, ↓impB_wf, ↓selV_nor, ↓impB_nor, ↓selV_nt, ↓selV_nf, ↓impB_nt, ↓impB_nf, wantB_true, wantB_false, ↓selV_true, ↓selV_false, ↓selV_and, ↓impB_true, ↓impB_false, ↓impB_and, impB_triv, valOf_some, retH_some, ↓prim_pick, pickO_true, pickO_false, pickO_and, pickO_or, pickO_andr, pickO_orr, pickO_orrn, pickO_orn, pickO_bb, pickAnd_bool, pickOr_bool, ↓selV_nn, ↓impB_nn, Bool.and_assoc, Bool.or_assoc, doOp, ev_fr, ev_cst, put_none, put_fr, get, ins, del, dels, Nat.reduceLT, Nat.reduceEqDiff, ↓reduceIte, reduceCtorEq, ne_eq, not_false_eq_true, implies_true, framed_pureF, framed_fb, framed_N, framed_pure, wop_prim, prim, YLD, mkA, V.cells, List.getElem?_cons_zero, List.getElem?_cons_succ, List.set_cons_zero, List.set_cons_succ, Nat.zero_add, Nat.add_zero, Nat.reduceAdd, Nat.reduceSub, Nat.reduceMul, Nat.reduceLeDiff, Nat.not_lt_zero, List.map_cons, List.map_nil, List.cons_append, List.nil_append, loadA, cellsAt, nAg, packA, opt_bind_some, opt_map_some, opt_bind_none, opt_map_none, List.drop, List.take, List.head?, List.length_cons, List.length_nil, binA, unA, eqCells, eqCell, negB, fillA, sr_nil, sr_cons, sr_succ, sr_all, sr_len, storeA, Ob.with, indexedI, V.oneCell, intOf?, retQ_ret, retQ_norm, resA, resA1, fr_getD, packR, sealDepth, shut_bool, shut_int, Option.some.injEq, V.bool.injEq, V.int.injEq, Bool.not_true, Bool.not_false, true_and, and_true, and_self, Bool.and_true, Bool.and_false, Bool.true_and, Bool.false_and, Bool.or_true, Bool.or_false, Bool.true_or, Bool.false_or, Bool.false_eq_true, Int.reduceLT, Int.reduceLE, Int.reduceToNat, Int.reduceNeg, shut_plain, freeL_cons, freeL_nil, free_int, free_bool, free_agg, free_str, free_nils, free_tup, free_sl, true_implies, false_implies, Nat.sub_zero, Int.natCast_nonneg, Int.toNat_natCast, Nat.le_refl, not_true_eq_false, Int.reduceAdd, Int.reduceSub, Int.reduceMul, wrap64, false_and, and_false, cond_true, cond_false, Bool.cond_true_left, Bool.cond_false_right, Int.reduceBNe, Int.reduceBEq, decide_true, decide_false, Int.cast_ofNat_Int, Nat.mul_one, eq_self, Bool.true_eq_false, Bool.not_eq_true, Bool.not_eq_false, deads, List.replicate, argsF, la, jumpE, b2, c19, am8]

theorem runsAreaAll {u1 u2 : V} (h1 : InP true jobSh u1) (h2 : InP false i64S u2) : ∃ N n, callA am N n 8 [u1, u2] [] = some (.bool true, []) := by
  obtain ⟨a, b, c, d, e, rfl⟩ := job_in h1
  obtain ⟨x, hx, -⟩ := inInt h2
  obtain rfl : u2 = .int .i64 x := by simpa using hx
  exact ⟨2000, 30, all_law (by omega) (by omega) a b c d e x []⟩

end Go.Am.T
