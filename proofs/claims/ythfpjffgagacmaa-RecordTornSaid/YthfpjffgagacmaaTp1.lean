import Derived.Test.YthfpjffgagacmaaTr1
set_option linter.unusedVariables false
set_option linter.unusedSimpArgs false
set_option maxRecDepth 10000
namespace Go.Am.T
attribute [local congr] selV_congr impB_congr

/-- A number's k-th byte from below. -/
def byt (n : Int) (k : Nat) : V := .int .u8 (n / 256 ^ k % 256)

theorem within_spec4 {N n : Nat} (hn : 1 ≤ n) (x a b : Int) (h : Heap) : callA am N n 57 [.int .i64 x, .int .i64 a, .int .i64 b] h = some (.bool (decide (x ≥ a) && decide (x ≤ b)), h) := by
  obtain ⟨n, rfl⟩ : ∃ m, n = m + 1 := ⟨n - 1, by omega⟩
  refine call_pure at57 rfl rfl (by decide) rfl (sx_wp ?_)
  simp +contextual -implicitDefEqProofs (maxSteps := 10000000) only [sx_seq, sxL_succ, lpQ_norm, lpQ_exit, lpQ_ret, loopQ_norm, loopQ_exit, loopQ_ret, sqQ_norm, sqQ_ret, sqQ_exit, sx_block, blkQ_norm, blkQ_exit, blkQ_ret, sx_cond, cdP_true, cdP_false, cdP_bool, sx_region, sx_draw, plainD, List.all_cons, List.all_nil, List.isEmpty_nil, List.isEmpty_cons, sxo_nil, sxo_cons, sxo_guard, gdS_bool, gdS_eff, gdS_tup, gdS_sel, gdS_seleff, sxK_def, wcall_some, effP_ret, effP_set, effP_none, effP_ite, wop_call, wop_cv, cvP_func, sx_ret, sx_exit, sx_skip, sx_clr, stays, ↓selV_wt, ↓selV_wf, ↓impB_wt, ↓impB_wf, ↓selV_nor, ↓impB_nor, ↓selV_nt, ↓selV_nf, ↓impB_nt, ↓impB_nf, wantB_true, wantB_false, ↓selV_true, ↓selV_false, ↓selV_and, ↓impB_true, ↓impB_false, ↓impB_and, impB_triv, valOf_some, retH_some, ↓prim_pick, pickO_true, pickO_false, pickO_and, pickO_or, pickO_andr, pickO_orr, pickO_orrn, pickO_orn, pickO_bb, pickAnd_bool, pickOr_bool, ↓selV_nn, ↓impB_nn, Bool.and_assoc, Bool.or_assoc, doOp, ev_fr, ev_cst, put_none, put_fr, get, ins, del, dels, Nat.reduceLT, Nat.reduceEqDiff, ↓reduceIte, reduceCtorEq, ne_eq, not_false_eq_true, implies_true, framed_pureF, framed_fb, framed_N, framed_pure, wop_prim, prim, mkA, V.cells, List.getElem?_cons_zero, List.getElem?_cons_succ, List.set_cons_zero, List.set_cons_succ, Nat.zero_add, Nat.add_zero, Nat.reduceAdd, Nat.reduceSub, Nat.reduceMul, Nat.reduceLeDiff, Nat.not_lt_zero, List.map_cons, List.map_nil, List.cons_append, List.nil_append, loadA, cellsAt, nAg, packA, opt_bind_some, opt_map_some, opt_bind_none, opt_map_none, List.drop, List.take, List.head?, List.length_cons, List.length_nil, binA, unA, eqCells, eqCell, negB, fillA, sr_nil, sr_cons, sr_succ, sr_all, sr_len, storeA, Ob.with, indexedI, V.oneCell, intOf?, retQ_ret, retQ_norm, resA, resA1, fr_getD, packR, sealDepth, shut_bool, shut_int, Option.some.injEq, V.bool.injEq, V.int.injEq, Bool.not_true, Bool.not_false, true_and, and_true, and_self, Bool.and_true, Bool.and_false, Bool.true_and, Bool.false_and, Bool.or_true, Bool.or_false, Bool.true_or, Bool.false_or, Bool.false_eq_true, Int.reduceLT, Int.reduceLE, Int.reduceToNat, Int.reduceNeg, shut_plain, freeL_cons, freeL_nil, free_int, free_bool, free_agg, free_str, free_nils, free_tup, free_sl, true_implies, false_implies, Nat.sub_zero, Int.natCast_nonneg, Int.toNat_natCast, Nat.le_refl, not_true_eq_false, Int.reduceAdd, Int.reduceSub, Int.reduceMul, wrap64, false_and, and_false, cond_true, cond_false, Bool.cond_true_left, Bool.cond_false_right, Int.reduceBNe, Int.reduceBEq, decide_true, decide_false, Int.cast_ofNat_Int, Nat.mul_one, eq_self, Bool.true_eq_false, Bool.not_eq_true, Bool.not_eq_false, deads, List.replicate, argsF, am57]

theorem tags_spec {N n : Nat} (hn : 1 ≤ n) (h : Heap) : callA am N n 55 [] h = some (.agg [.int .u8 177, .int .u8 178, .int .u8 179], h) := by
  obtain ⟨n, rfl⟩ : ∃ m, n = m + 1 := ⟨n - 1, by omega⟩
  refine call_pure at55 rfl rfl (by decide) rfl (sx_wp ?_)
  simp +contextual -implicitDefEqProofs (maxSteps := 10000000) only [sx_seq, sxL_succ, lpQ_norm, lpQ_exit, lpQ_ret, loopQ_norm, loopQ_exit, loopQ_ret, sqQ_norm, sqQ_ret, sqQ_exit, sx_block, blkQ_norm, blkQ_exit, blkQ_ret, sx_cond, cdP_true, cdP_false, cdP_bool, sx_region, sx_draw, plainD, List.all_cons, List.all_nil, List.isEmpty_nil, List.isEmpty_cons, sxo_nil, sxo_cons, sxo_guard, gdS_bool, gdS_eff, gdS_tup, gdS_sel, gdS_seleff, sxK_def, wcall_some, effP_ret, effP_set, effP_none, effP_ite, wop_call, wop_cv, cvP_func, sx_ret, sx_exit, sx_skip, sx_clr, stays, ↓selV_wt, ↓selV_wf, ↓impB_wt, ↓impB_wf, ↓selV_nor, ↓impB_nor, ↓selV_nt, ↓selV_nf, ↓impB_nt, ↓impB_nf, wantB_true, wantB_false, ↓selV_true, ↓selV_false, ↓selV_and, ↓impB_true, ↓impB_false, ↓impB_and, impB_triv, valOf_some, retH_some, ↓prim_pick, pickO_true, pickO_false, pickO_and, pickO_or, pickO_andr, pickO_orr, pickO_orrn, pickO_orn, pickO_bb, pickAnd_bool, pickOr_bool, ↓selV_nn, ↓impB_nn, Bool.and_assoc, Bool.or_assoc, doOp, ev_fr, ev_cst, put_none, put_fr, get, ins, del, dels, Nat.reduceLT, Nat.reduceEqDiff, ↓reduceIte, reduceCtorEq, ne_eq, not_false_eq_true, implies_true, framed_pureF, framed_fb, framed_N, framed_pure, wop_prim, prim, mkA, V.cells, List.getElem?_cons_zero, List.getElem?_cons_succ, List.set_cons_zero, List.set_cons_succ, Nat.zero_add, Nat.add_zero, Nat.reduceAdd, Nat.reduceSub, Nat.reduceMul, Nat.reduceLeDiff, Nat.not_lt_zero, List.map_cons, List.map_nil, List.cons_append, List.nil_append, loadA, cellsAt, nAg, packA, opt_bind_some, opt_map_some, opt_bind_none, opt_map_none, List.drop, List.take, List.head?, List.length_cons, List.length_nil, binA, unA, eqCells, eqCell, negB, fillA, sr_nil, sr_cons, sr_succ, sr_all, sr_len, storeA, Ob.with, indexedI, V.oneCell, intOf?, retQ_ret, retQ_norm, resA, resA1, fr_getD, packR, sealDepth, shut_bool, shut_int, Option.some.injEq, V.bool.injEq, V.int.injEq, Bool.not_true, Bool.not_false, true_and, and_true, and_self, Bool.and_true, Bool.and_false, Bool.true_and, Bool.false_and, Bool.or_true, Bool.or_false, Bool.true_or, Bool.false_or, Bool.false_eq_true, Int.reduceLT, Int.reduceLE, Int.reduceToNat, Int.reduceNeg, shut_plain, freeL_cons, freeL_nil, free_int, free_bool, free_agg, free_str, free_nils, free_tup, free_sl, true_implies, false_implies, Nat.sub_zero, Int.natCast_nonneg, Int.toNat_natCast, Nat.le_refl, not_true_eq_false, Int.reduceAdd, Int.reduceSub, Int.reduceMul, wrap64, false_and, and_false, cond_true, cond_false, Bool.cond_true_left, Bool.cond_false_right, Int.reduceBNe, Int.reduceBEq, decide_true, decide_false, Int.cast_ofNat_Int, Nat.mul_one, eq_self, Bool.true_eq_false, Bool.not_eq_true, Bool.not_eq_false, deads, List.replicate, argsF, am55]

theorem putter_spec {N n : Nat} (hn : 1 ≤ n) (a b c : Nat) (x : Int) (h : Heap) : callA am N n 56 [.ptr a b c, .int .i64 x] h = some (.func 67 [] [.ptr h.length 1 0, .ptr (h.length + 1) 1 0], h ++ [⟨1, .var [.ptr a b c]⟩, ⟨1, .var [.int .i64 x]⟩]) := by
  obtain ⟨n, rfl⟩ : ∃ m, n = m + 1 := ⟨n - 1, by omega⟩
  refine call_keep_eq at56 rfl rfl (by decide) (sx_wp ?_)
  simp +contextual -implicitDefEqProofs (maxSteps := 10000000) only [sx_seq, sxL_succ, lpQ_norm, lpQ_exit, lpQ_ret, loopQ_norm, loopQ_exit, loopQ_ret, sqQ_norm, sqQ_ret, sqQ_exit, sx_block, blkQ_norm, blkQ_exit, blkQ_ret, sx_cond, cdP_true, cdP_false, cdP_bool, sx_region, sx_draw, plainD, List.all_cons, List.all_nil, List.isEmpty_nil, List.isEmpty_cons, sxo_nil, sxo_cons, sxo_guard, gdS_bool, gdS_eff, gdS_tup, gdS_sel, gdS_seleff, sxK_def, wcall_some, effP_ret, effP_set, effP_none, effP_ite, wop_call, wop_cv, cvP_func, sx_ret, sx_exit, sx_skip, sx_clr, stays, ↓selV_wt, ↓selV_wf, ↓impB_wt, ↓impB_wf, ↓selV_nor, ↓impB_nor, ↓selV_nt, ↓selV_nf, ↓impB_nt, ↓impB_nf, wantB_true, wantB_false, ↓selV_true, ↓selV_false, ↓selV_and, ↓impB_true, ↓impB_false, ↓impB_and, impB_triv, valOf_some, retH_some, ↓prim_pick, pickO_true, pickO_false, pickO_and, pickO_or, pickO_andr, pickO_orr, pickO_orrn, pickO_orn, pickO_bb, pickAnd_bool, pickOr_bool, ↓selV_nn, ↓impB_nn, Bool.and_assoc, Bool.or_assoc, doOp, ev_fr, ev_cst, put_none, put_fr, get, ins, del, dels, Nat.reduceLT, Nat.reduceEqDiff, ↓reduceIte, reduceCtorEq, ne_eq, not_false_eq_true, implies_true, framed_pureF, framed_fb, framed_N, framed_pure, wop_prim, prim, mkA, V.cells, List.getElem?_cons_zero, List.getElem?_cons_succ, List.set_cons_zero, List.set_cons_succ, Nat.zero_add, Nat.add_zero, Nat.reduceAdd, Nat.reduceSub, Nat.reduceMul, Nat.reduceLeDiff, Nat.not_lt_zero, List.map_cons, List.map_nil, List.cons_append, List.nil_append, loadA, cellsAt, nAg, packA, opt_bind_some, opt_map_some, opt_bind_none, opt_map_none, List.drop, List.take, List.head?, List.length_cons, List.length_nil, binA, unA, eqCells, eqCell, negB, fillA, sr_nil, sr_cons, sr_succ, sr_all, sr_len, storeA, Ob.with, indexedI, V.oneCell, intOf?, retQ_ret, retQ_norm, resA, resA1, fr_getD, packR, sealDepth, shut_bool, shut_int, Option.some.injEq, V.bool.injEq, V.int.injEq, Bool.not_true, Bool.not_false, true_and, and_true, and_self, Bool.and_true, Bool.and_false, Bool.true_and, Bool.false_and, Bool.or_true, Bool.or_false, Bool.true_or, Bool.false_or, Bool.false_eq_true, Int.reduceLT, Int.reduceLE, Int.reduceToNat, Int.reduceNeg, shut_plain, freeL_cons, freeL_nil, free_int, free_bool, free_agg, free_str, free_nils, free_tup, free_sl, true_implies, false_implies, Nat.sub_zero, Int.natCast_nonneg, Int.toNat_natCast, Nat.le_refl, not_true_eq_false, Int.reduceAdd, Int.reduceSub, Int.reduceMul, wrap64, false_and, and_false, cond_true, cond_false, Bool.cond_true_left, Bool.cond_false_right, Int.reduceBNe, Int.reduceBEq, decide_true, decide_false, Int.cast_ofNat_Int, Nat.mul_one, eq_self, Bool.true_eq_false, Bool.not_eq_true, Bool.not_eq_false, deads, List.replicate, argsF, am56, app_get0, app_set0, app_get, app_set]

theorem fdiv24 (n : Int) : n.fdiv (2 ^ 24) = n / 256 ^ 3 := Int.fdiv_eq_ediv_of_nonneg _ (by decide)
theorem fdiv16 (n : Int) : n.fdiv (2 ^ 16) = n / 256 ^ 2 := Int.fdiv_eq_ediv_of_nonneg _ (by decide)
theorem fdiv8 (n : Int) : n.fdiv (2 ^ 8) = n / 256 ^ 1 := Int.fdiv_eq_ediv_of_nonneg _ (by decide)

/-- Four bytes at a place. -/
def put4 (cs : List V) (off k : Nat) (n : Int) : List V := setRange (setRange (setRange (setRange cs (off + k) [byt n 3]) (off + (k + 1)) [byt n 2]) (off + (k + 2)) [byt n 1]) (off + (k + 3)) [byt n 0]

set_option maxHeartbeats 1000000 in
theorem put_spec {N n : Nat} (hn : 1 ≤ n) (v : Int) (a b s vs off k : Nat) (cs : List V) (h : Heap) (ha : h[a]? = some ⟨1, .var [.ptr s vs off]⟩) (hb : h[b]? = some ⟨1, .var [.int .i64 (k : Int)]⟩) (hs : h[s]? = some ⟨vs, .var cs⟩)
    (hk : k + 4 ≤ 64) (hl : off + 64 ≤ cs.length) (hab : a ≠ b) (has : a ≠ s) (hbs : b ≠ s) :
    callA am N n 67 [.int .i64 v, .ptr a 1 0, .ptr b 1 0] h = some (.tup [], (h.set s ⟨vs, .var (put4 cs off k v)⟩).set b ⟨1, .var [.int .i64 ((k + 4 : Nat) : Int)]⟩) := by
  obtain ⟨n, rfl⟩ : ∃ m, n = m + 1 := ⟨n - 1, by omega⟩
  refine call_keep_eq at67 rfl rfl (by decide) (sx_wp ?_)
  have z1 : (a == s) = false := by simpa using has
  have z2 : (b == s) = false := by simpa using hbs
  have z3 : (s == a) = false := by simpa using has.symm
  have z4 : (s == b) = false := by simpa using hbs.symm
  have hsl : s < h.length := by
    rcases Nat.lt_or_ge s h.length with h1 | h1
    · exact h1
    · rw [List.getElem?_eq_none h1] at hs; cases hs
  have g1 : ∀ x, (h.set s x)[s]? = some x := fun x => by simp [hsl]
  have g2 : ∀ x, (h.set s x)[b]? = some ⟨1, .var [.int .i64 (k : Int)]⟩ := fun x => by rw [List.getElem?_set_ne (Ne.symm hbs)]; exact hb
  have g3 : ∀ x y, (h.set s x).set s y = h.set s y := fun x y => by simp
  have w1 : IntKind.i64.wrap ((k : Int) + 1) = ((k + 1 : Nat) : Int) := (wrap64 (by omega) (by omega)).trans (by omega)
  have w2 : IntKind.i64.wrap ((k : Int) + 2) = ((k + 2 : Nat) : Int) := (wrap64 (by omega) (by omega)).trans (by omega)
  have w3 : IntKind.i64.wrap ((k : Int) + 3) = ((k + 3 : Nat) : Int) := (wrap64 (by omega) (by omega)).trans (by omega)
  have w4 : IntKind.i64.wrap ((k : Int) + 4) = ((k + 4 : Nat) : Int) := (wrap64 (by omega) (by omega)).trans (by omega)
  have i0 : (k : Int) < 64 := by omega
  have i1 : ((k + 1 : Nat) : Int) < 64 := by omega
  have i2 : ((k + 2 : Nat) : Int) < 64 := by omega
  have i3 : ((k + 3 : Nat) : Int) < 64 := by omega
  have l0 : off + k + 1 ≤ cs.length := by omega
  have l1 : off + (k + 1) + 1 ≤ cs.length := by omega
  have l2 : off + (k + 2) + 1 ≤ cs.length := by omega
  have l3 : off + (k + 3) + 1 ≤ cs.length := by omega
  have m1 : (min 24 64 : Nat) = 24 := rfl
  have m2 : (min 16 64 : Nat) = 16 := rfl
  have m3 : (min 8 64 : Nat) = 8 := rfl
  simp +contextual -implicitDefEqProofs (maxSteps := 10000000) only [sx_seq, sxL_succ, lpQ_norm, lpQ_exit, lpQ_ret, loopQ_norm, loopQ_exit, loopQ_ret, sqQ_norm, sqQ_ret, sqQ_exit, sx_block, blkQ_norm, blkQ_exit, blkQ_ret, sx_cond, cdP_true, cdP_false, cdP_bool, sx_region, sx_draw, plainD, List.all_cons, List.all_nil, List.isEmpty_nil, List.isEmpty_cons, sxo_nil, sxo_cons, sxo_guard, gdS_bool, gdS_eff, gdS_tup, gdS_sel, gdS_seleff, sxK_def, wcall_some, effP_ret, effP_set, effP_none, effP_ite, wop_call, wop_cv, cvP_func, sx_ret, sx_exit, sx_skip, sx_clr, stays, ↓selV_wt, ↓selV_wf, ↓impB_wt, ↓impB_wf, ↓selV_nor, ↓impB_nor, ↓selV_nt, ↓selV_nf, ↓impB_nt, ↓impB_nf, wantB_true, wantB_false, ↓selV_true, ↓selV_false, ↓selV_and, ↓impB_true, ↓impB_false, ↓impB_and, impB_triv, valOf_some, retH_some, ↓prim_pick, pickO_true, pickO_false, pickO_and, pickO_or, pickO_andr, pickO_orr, pickO_orrn, pickO_orn, pickO_bb, pickAnd_bool, pickOr_bool, ↓selV_nn, ↓impB_nn, Bool.and_assoc, Bool.or_assoc, doOp, ev_fr, ev_cst, put_none, put_fr, get, ins, del, dels, Nat.reduceLT, Nat.reduceEqDiff, ↓reduceIte, reduceCtorEq, ne_eq, not_false_eq_true, implies_true, framed_pureF, framed_fb, framed_N, framed_pure, wop_prim, prim, mkA, V.cells, List.getElem?_cons_zero, List.getElem?_cons_succ, List.set_cons_zero, List.set_cons_succ, Nat.zero_add, Nat.add_zero, Nat.reduceAdd, Nat.reduceSub, Nat.reduceMul, Nat.reduceLeDiff, Nat.not_lt_zero, List.map_cons, List.map_nil, List.cons_append, List.nil_append, loadA, cellsAt, nAg, packA, opt_bind_some, opt_map_some, opt_bind_none, opt_map_none, List.drop, List.take, List.head?, List.length_cons, List.length_nil, binA, unA, eqCells, eqCell, negB, fillA, sr_nil, sr_cons, sr_succ, sr_all, sr_len, storeA, Ob.with, indexedI, V.oneCell, intOf?, retQ_ret, retQ_norm, resA, resA1, fr_getD, packR, sealDepth, shut_bool, shut_int, Option.some.injEq, V.bool.injEq, V.int.injEq, Bool.not_true, Bool.not_false, true_and, and_true, and_self, Bool.and_true, Bool.and_false, Bool.true_and, Bool.false_and, Bool.or_true, Bool.or_false, Bool.true_or, Bool.false_or, Bool.false_eq_true, Int.reduceLT, Int.reduceLE, Int.reduceToNat, Int.reduceNeg, shut_plain, freeL_cons, freeL_nil, free_int, free_bool, free_agg, free_str, free_nils, free_tup, free_sl, true_implies, false_implies, Nat.sub_zero, Int.natCast_nonneg, Int.toNat_natCast, Nat.le_refl, not_true_eq_false, Int.reduceAdd, Int.reduceSub, Int.reduceMul, wrap64, false_and, and_false, cond_true, cond_false, Bool.cond_true_left, Bool.cond_false_right, Int.reduceBNe, Int.reduceBEq, decide_true, decide_false, Int.cast_ofNat_Int, Nat.mul_one, eq_self, Bool.true_eq_false, Bool.not_eq_true, Bool.not_eq_false, deads, List.replicate, argsF, am67, List.append_nil, ha, hb, hs, sx_drawd, wpd_nil, wpd_cons, wdK_def, fpOf, fpV, fpCall, Fp.ok, disj, List.contains_cons, List.contains_nil, Nat.reduceBEq, List.all_append, V.objsL, V.objs,  List.getD_cons_zero, List.getD_cons_succ, List.append_nil, z1, z2, z3, z4, g1, g2, g3, w1, w2, w3, w4, i0, i1, i2, i3, Int.reduceToNat, IntKind.bits, m1, m2, m3, fdiv24, fdiv16, fdiv8, wrap8_eq, l0, l1, l2, l3]
  simp only [put4, byt, Int.pow_zero, Int.ediv_one]

/-- What a putter does, off the memory. -/
def putF (h : Heap) (a b : Nat) (v : Int) : Option (V × Heap) :=
  match h[a]? with
  | some ⟨va, .var [.ptr s vs off]⟩ => match h[b]? with
    | some ⟨vb, .var [.int .i64 kk]⟩ => match h[s]? with
      | some ⟨vs', .var cs⟩ =>
        if va = 1 then if vb = 1 then if vs' = vs then if 0 ≤ kk then if kk ≤ 60 then if off + 64 ≤ cs.length then if a = b then none else if a = s then none else if b = s then none else
          some (.tup [], (h.set s ⟨vs, .var (put4 cs off kk.toNat v)⟩).set b ⟨1, .var [.int .i64 (kk + 4)]⟩) else none else none else none else none else none else none
      | _ => none
    | _ => none
  | _ => none

theorem put_F {N n : Nat} (hn : 1 ≤ n) (v : Int) (a b : Nat) (h : Heap) (hp : (putF h a b v).isSome = true) : callA am N n 67 [.int .i64 v, .ptr a 1 0, .ptr b 1 0] h = putF h a b v := by
  unfold putF at hp ⊢
  split at hp
  case h_2 => cases hp
  rename_i va s vs off ha
  split at hp
  case h_2 => cases hp
  rename_i vb kk hb
  split at hp
  case h_2 => cases hp
  rename_i vs' cs hs
  by_cases h1 : va = 1
  · by_cases h2 : vb = 1
    · by_cases h3 : vs' = vs
      · by_cases h4 : 0 ≤ kk
        · by_cases h5 : kk ≤ 60
          · by_cases h6 : off + 64 ≤ cs.length
            · by_cases h7 : a = b
              · simp [h1, h2, h3, h4, h5, h6, h7] at hp
              · by_cases h8 : a = s
                · simp [h1, h2, h3, h4, h5, h6, h7, h8] at hp
                · by_cases h9 : b = s
                  · simp [h1, h2, h3, h4, h5, h6, h7, h8, h9] at hp
                  · subst h1 h2 h3
                    obtain ⟨k, rfl⟩ := Int.eq_ofNat_of_zero_le h4
                    rw [if_pos rfl, if_pos rfl, if_pos rfl, if_pos h4, if_pos h5, if_pos h6, if_neg h7, if_neg h8, if_neg h9]
                    exact put_spec hn v a b s vs' off k cs h ha hb hs (by omega) h6 h7 h8 h9
            · simp [h1, h2, h3, h4, h5, h6] at hp
          · simp [h1, h2, h3, h4, h5] at hp
        · simp [h1, h2, h3, h4] at hp
      · simp [h1, h2, h3] at hp
    · simp [h1, h2] at hp
  · simp [h1] at hp

/-! ### A record's sectors -/

def mayR (r : Rec) : Bool := decide (r.node ≥ 0) && (decide (r.node ≤ 7) && (decide (r.page ≥ 0) && (decide (r.page ≤ 15) && (decide (r.epoch ≥ 1) && (decide (r.epoch ≤ 2147483647) && (decide (r.lsn ≥ 1) && (decide (r.lsn ≤ 2147483647) && (decide (r.psn ≥ 1) && decide (r.psn ≤ 2147483647)))))))))

theorem may4_spec {N n : Nat} (hn : 2 ≤ n) {r : Rec} (hr : r.Ok) (h : Heap) : callA am N n 54 [r.v] h = some (.bool (mayR r), h) := by
  obtain ⟨n, rfl⟩ : ∃ m, n = m + 1 := ⟨n - 1, by omega⟩
  have c1 := @within_spec4 N n (by omega)
  refine call_pure at54 rfl rfl (by decide) (by simp [freeL_cons, freeL_nil, Rec.free]) (sx_wp ?_)
  have h1 := hr.body
  simp +contextual -implicitDefEqProofs (maxSteps := 10000000) only [sx_seq, sxL_succ, lpQ_norm, lpQ_exit, lpQ_ret, loopQ_norm, loopQ_exit, loopQ_ret, sqQ_norm, sqQ_ret, sqQ_exit, sx_block, blkQ_norm, blkQ_exit, blkQ_ret, sx_cond, cdP_true, cdP_false, cdP_bool, sx_region, sx_draw, plainD, List.all_cons, List.all_nil, List.isEmpty_nil, List.isEmpty_cons, sxo_nil, sxo_cons, sxo_guard, gdS_bool, gdS_eff, gdS_tup, gdS_sel, gdS_seleff, sxK_def, wcall_some, effP_ret, effP_set, effP_none, effP_ite, wop_call, wop_cv, cvP_func, sx_ret, sx_exit, sx_skip, sx_clr, stays, ↓selV_wt, ↓selV_wf, ↓impB_wt, ↓impB_wf, ↓selV_nor, ↓impB_nor, ↓selV_nt, ↓selV_nf, ↓impB_nt, ↓impB_nf, wantB_true, wantB_false, ↓selV_true, ↓selV_false, ↓selV_and, ↓impB_true, ↓impB_false, ↓impB_and, impB_triv, valOf_some, retH_some, ↓prim_pick, pickO_true, pickO_false, pickO_and, pickO_or, pickO_andr, pickO_orr, pickO_orrn, pickO_orn, pickO_bb, pickAnd_bool, pickOr_bool, ↓selV_nn, ↓impB_nn, Bool.and_assoc, Bool.or_assoc, doOp, ev_fr, ev_cst, put_none, put_fr, get, ins, del, dels, Nat.reduceLT, Nat.reduceEqDiff, ↓reduceIte, reduceCtorEq, ne_eq, not_false_eq_true, implies_true, framed_pureF, framed_fb, framed_N, framed_pure, wop_prim, prim, mkA, V.cells, List.getElem?_cons_zero, List.getElem?_cons_succ, List.set_cons_zero, List.set_cons_succ, Nat.zero_add, Nat.add_zero, Nat.reduceAdd, Nat.reduceSub, Nat.reduceMul, Nat.reduceLeDiff, Nat.not_lt_zero, List.map_cons, List.map_nil, List.cons_append, List.nil_append, loadA, cellsAt, nAg, packA, opt_bind_some, opt_map_some, opt_bind_none, opt_map_none, List.drop, List.take, List.head?, List.length_cons, List.length_nil, binA, unA, eqCells, eqCell, negB, fillA, sr_nil, sr_cons, sr_succ, sr_all, sr_len, storeA, Ob.with, indexedI, V.oneCell, intOf?, retQ_ret, retQ_norm, resA, resA1, fr_getD, packR, sealDepth, shut_bool, shut_int, Option.some.injEq, V.bool.injEq, V.int.injEq, Bool.not_true, Bool.not_false, true_and, and_true, and_self, Bool.and_true, Bool.and_false, Bool.true_and, Bool.false_and, Bool.or_true, Bool.or_false, Bool.true_or, Bool.false_or, Bool.false_eq_true, Int.reduceLT, Int.reduceLE, Int.reduceToNat, Int.reduceNeg, shut_plain, freeL_cons, freeL_nil, free_int, free_bool, free_agg, free_str, free_nils, free_tup, free_sl, true_implies, false_implies, Nat.sub_zero, Int.natCast_nonneg, Int.toNat_natCast, Nat.le_refl, not_true_eq_false, Int.reduceAdd, Int.reduceSub, Int.reduceMul, wrap64, false_and, and_false, cond_true, cond_false, Bool.cond_true_left, Bool.cond_false_right, Int.reduceBNe, Int.reduceBEq, decide_true, decide_false, Int.cast_ofNat_Int, Nat.mul_one, eq_self, Bool.true_eq_false, Bool.not_eq_true, Bool.not_eq_false, deads, List.replicate, argsF, am54, Rec.v, Rec.cs, List.length_map, h1, c1, pm57, mayR]

/-- A sector of a record. -/
def secR (r : Rec) (i : Nat) : List V :=
  .int .u8 (177 + i) :: .int .u8 (16 * r.node + r.page) :: byt r.epoch 3 :: byt r.epoch 2 :: byt r.epoch 1 :: byt r.epoch 0 :: byt r.lsn 3 :: byt r.lsn 2 :: byt r.lsn 1 :: byt r.lsn 0 :: byt r.psn 3 :: byt r.psn 2 :: byt r.psn 1 :: byt r.psn 0 ::
    (((r.body.drop (48 * i)).take 48).map (V.int .u8) ++ [.int .u8 0, .int .u8 0])

theorem mayR_bounds {r : Rec} (h : mayR r = true) : 0 ≤ r.node ∧ r.node ≤ 7 ∧ 0 ≤ r.page ∧ r.page ≤ 15 ∧ 1 ≤ r.epoch ∧ r.epoch ≤ 2147483647 ∧ 1 ≤ r.lsn ∧ r.lsn ≤ 2147483647 ∧ 1 ≤ r.psn ∧ r.psn ≤ 2147483647 := by
  simp only [mayR, Bool.and_eq_true, decide_eq_true_eq] at h
  omega

theorem tagB {x y : Int} (h0 : 0 ≤ x) (h1 : x ≤ 7) (h2 : 0 ≤ y) (h3 : y ≤ 15) :
    IntKind.u8.wrap (IntKind.i64.wrap (((BitVec.ofInt IntKind.i64.bits (IntKind.i64.wrap (x * 2 ^ 4))) ||| BitVec.ofInt IntKind.i64.bits y).toNat : Int)) = 16 * x + y := by
  show IntKind.u8.wrap (IntKind.i64.wrap (((BitVec.ofInt 64 (IntKind.i64.wrap (x * 2 ^ 4))) ||| BitVec.ofInt 64 y).toNat : Int)) = 16 * x + y
  obtain ⟨a, rfl⟩ := Int.eq_ofNat_of_zero_le h0
  obtain ⟨b, rfl⟩ := Int.eq_ofNat_of_zero_le h2
  have e1 : IntKind.i64.wrap ((a : Int) * 2 ^ 4) = ((a * 2 ^ 4 : Nat) : Int) := (wrap64 (by omega) (by omega)).trans (by omega)
  rw [e1, or_add (by omega) (by omega), wrap8 (by omega) (by omega)]
  omega

set_option maxHeartbeats 2000000 in
theorem putR_spec {N n : Nat} (hN : 10 ≤ N) (hn : 3 ≤ n) {r : Rec} (hr : r.Ok) (hm : mayR r = true) (h : Heap) : callA am N n 30 [r.v] h = some (.tup [.agg (secR r 0 ++ secR r 1), .int .i64 0], h) := by
  obtain ⟨n, rfl⟩ : ∃ m, n = m + 1 := ⟨n - 1, by omega⟩
  have c1 := @may4_spec N n (by omega) r hr
  have c2 := @tags_spec N n (by omega)
  have c3 := @putter_spec N n (by omega)
  have c4 := @put_F N n (by omega)
  simp only [Rec.v, Rec.cs] at c1
  have h1 := hr.body
  have tk : List.take 96 (r.body.map (V.int .u8)) = r.body.map (V.int .u8) := List.take_of_length_le (by simp [h1])
  refine call_pure at30 rfl rfl (by decide) (by simp [freeL_cons, freeL_nil, Rec.free]) (sx_wp ?_)
  simp +contextual -implicitDefEqProofs (maxSteps := 10000000) only [sx_seq, sxL_succ, lpQ_norm, lpQ_exit, lpQ_ret, loopQ_norm, loopQ_exit, loopQ_ret, sqQ_norm, sqQ_ret, sqQ_exit, sx_block, blkQ_norm, blkQ_exit, blkQ_ret, sx_cond, cdP_true, cdP_false, cdP_bool, sx_region, sx_draw, plainD, List.all_cons, List.all_nil, List.isEmpty_nil, List.isEmpty_cons, sxo_nil, sxo_cons, sxo_guard, gdS_bool, gdS_eff, gdS_tup, gdS_sel, gdS_seleff, sxK_def, wcall_some, effP_ret, effP_set, effP_none, effP_ite, wop_call, wop_cv, cvP_func, sx_ret, sx_exit, sx_skip, sx_clr, stays, ↓selV_wt, ↓selV_wf, ↓impB_wt, ↓impB_wf, ↓selV_nor, ↓impB_nor, ↓selV_nt, ↓selV_nf, ↓impB_nt, ↓impB_nf, wantB_true, wantB_false, ↓selV_true, ↓selV_false, ↓selV_and, ↓impB_true, ↓impB_false, ↓impB_and, impB_triv, valOf_some, retH_some, ↓prim_pick, pickO_true, pickO_false, pickO_and, pickO_or, pickO_andr, pickO_orr, pickO_orrn, pickO_orn, pickO_bb, pickAnd_bool, pickOr_bool, ↓selV_nn, ↓impB_nn, Bool.and_assoc, Bool.or_assoc, doOp, ev_fr, ev_cst, put_none, put_fr, get, ins, del, dels, Nat.reduceLT, Nat.reduceEqDiff, ↓reduceIte, reduceCtorEq, ne_eq, not_false_eq_true, implies_true, framed_pureF, framed_fb, framed_N, framed_pure, wop_prim, prim, mkA, V.cells, List.getElem?_cons_zero, List.getElem?_cons_succ, List.set_cons_zero, List.set_cons_succ, Nat.zero_add, Nat.add_zero, Nat.reduceAdd, Nat.reduceSub, Nat.reduceMul, Nat.reduceLeDiff, Nat.not_lt_zero, List.map_cons, List.map_nil, List.cons_append, List.nil_append, loadA, cellsAt, nAg, packA, opt_bind_some, opt_map_some, opt_bind_none, opt_map_none, List.drop, List.take, List.head?, List.length_cons, List.length_nil, binA, unA, eqCells, eqCell, negB, fillA, sr_nil, sr_cons, sr_succ, sr_all, sr_len, storeA, Ob.with, indexedI, V.oneCell, intOf?, retQ_ret, retQ_norm, resA, resA1, fr_getD, packR, sealDepth, shut_bool, shut_int, Option.some.injEq, V.bool.injEq, V.int.injEq, Bool.not_true, Bool.not_false, true_and, and_true, and_self, Bool.and_true, Bool.and_false, Bool.true_and, Bool.false_and, Bool.or_true, Bool.or_false, Bool.true_or, Bool.false_or, Bool.false_eq_true, Int.reduceLT, Int.reduceLE, Int.reduceToNat, Int.reduceNeg, shut_plain, freeL_cons, freeL_nil, free_int, free_bool, free_agg, free_str, free_nils, free_tup, free_sl, true_implies, false_implies, Nat.sub_zero, Int.natCast_nonneg, Int.toNat_natCast, Nat.le_refl, not_true_eq_false, Int.reduceAdd, Int.reduceSub, Int.reduceMul, wrap64, false_and, and_false, cond_true, cond_false, Bool.cond_true_left, Bool.cond_false_right, Int.reduceBNe, Int.reduceBEq, decide_true, decide_false, Int.cast_ofNat_Int, Nat.mul_one, eq_self, Bool.true_eq_false, Bool.not_eq_true, Bool.not_eq_false, deads, List.replicate, argsF, am30, Rec.v, Rec.cs, List.length_map, h1, c1, hm, tk]
  refine sx_unroll 3 (by show 3 ≤ N; omega) ?_
  have m1 : min 4 IntKind.i64.bits = 4 := rfl
  have m2 : Nat.min 48 50 = 48 := rfl
  obtain ⟨B, hB⟩ : ∃ B, B = (r.body.map (V.int .u8)).take 48 := ⟨_, rfl⟩
  obtain ⟨D, hD⟩ : ∃ D, D = ((r.body.map (V.int .u8)).drop 48).take 48 := ⟨_, rfl⟩
  have bl : B.length = 48 := by rw [hB]; simp [h1]
  have dl : D.length = 48 := by rw [hD]; simp [h1]
  have hall := allOne_ints .u8 r.body
  have bo : B.all V.oneCell = true := by rw [hB, List.all_eq_true]; exact fun x hx => List.all_eq_true.1 hall x (List.mem_of_mem_take hx)
  have do_ : D.all V.oneCell = true := by rw [hD, List.all_eq_true]; exact fun x hx => List.all_eq_true.1 hall x (List.mem_of_mem_drop (List.mem_of_mem_take hx))
  have hfr := freeL_ints .u8 r.body
  have bf : V.freeL B = true := by rw [hB]; exact freeL_of_mem fun x hx => freeL_mem hfr x (List.mem_of_mem_take hx)
  have df : V.freeL D = true := by rw [hD]; exact freeL_of_mem fun x hx => freeL_mem hfr x (List.mem_of_mem_drop (List.mem_of_mem_take hx))
  have dl' : (List.drop 48 (r.body.map (V.int .u8))).length = 48 := by simp [h1]
  obtain ⟨b1, b2, b3, b4, -⟩ := mayR_bounds hm
  have hT := tagB b1 b2 b3 b4
  simp +contextual -implicitDefEqProofs (maxSteps := 10000000) only [sx_seq, sxL_succ, lpQ_norm, lpQ_exit, lpQ_ret, loopQ_norm, loopQ_exit, loopQ_ret, sqQ_norm, sqQ_ret, sqQ_exit, sx_block, blkQ_norm, blkQ_exit, blkQ_ret, sx_cond, cdP_true, cdP_false, cdP_bool, sx_region, sx_draw, plainD, List.all_cons, List.all_nil, List.isEmpty_nil, List.isEmpty_cons, sxo_nil, sxo_cons, sxo_guard, gdS_bool, gdS_eff, gdS_tup, gdS_sel, gdS_seleff, sxK_def, wcall_some, effP_ret, effP_set, effP_none, effP_ite, wop_call, wop_cv, cvP_func, sx_ret, sx_exit, sx_skip, sx_clr, stays, ↓selV_wt, ↓selV_wf, ↓impB_wt, ↓impB_wf, ↓selV_nor, ↓impB_nor, ↓selV_nt, ↓selV_nf, ↓impB_nt, ↓impB_nf, wantB_true, wantB_false, ↓selV_true, ↓selV_false, ↓selV_and, ↓impB_true, ↓impB_false, ↓impB_and, impB_triv, valOf_some, retH_some, ↓prim_pick, pickO_true, pickO_false, pickO_and, pickO_or, pickO_andr, pickO_orr, pickO_orrn, pickO_orn, pickO_bb, pickAnd_bool, pickOr_bool, ↓selV_nn, ↓impB_nn, Bool.and_assoc, Bool.or_assoc, doOp, ev_fr, ev_cst, put_none, put_fr, get, ins, del, dels, Nat.reduceLT, Nat.reduceEqDiff, ↓reduceIte, reduceCtorEq, ne_eq, not_false_eq_true, implies_true, framed_pureF, framed_fb, framed_N, framed_pure, wop_prim, prim, mkA, V.cells, List.getElem?_cons_zero, List.getElem?_cons_succ, List.set_cons_zero, List.set_cons_succ, Nat.zero_add, Nat.add_zero, Nat.reduceAdd, Nat.reduceSub, Nat.reduceMul, Nat.reduceLeDiff, Nat.not_lt_zero, List.map_cons, List.map_nil, List.cons_append, List.nil_append, loadA, cellsAt, nAg, packA, opt_bind_some, opt_map_some, opt_bind_none, opt_map_none, List.drop, List.take, List.head?, List.length_cons, List.length_nil, binA, unA, eqCells, eqCell, negB, fillA, sr_nil, sr_cons, sr_succ, sr_all, sr_len, storeA, Ob.with, indexedI, V.oneCell, intOf?, retQ_ret, retQ_norm, resA, resA1, fr_getD, packR, sealDepth, shut_bool, shut_int, Option.some.injEq, V.bool.injEq, V.int.injEq, Bool.not_true, Bool.not_false, true_and, and_true, and_self, Bool.and_true, Bool.and_false, Bool.true_and, Bool.false_and, Bool.or_true, Bool.or_false, Bool.true_or, Bool.false_or, Bool.false_eq_true, Int.reduceLT, Int.reduceLE, Int.reduceToNat, Int.reduceNeg, shut_plain, freeL_cons, freeL_nil, free_int, free_bool, free_agg, free_str, free_nils, free_tup, free_sl, true_implies, false_implies, Nat.sub_zero, Int.natCast_nonneg, Int.toNat_natCast, Nat.le_refl, not_true_eq_false, Int.reduceAdd, Int.reduceSub, Int.reduceMul, wrap64, false_and, and_false, cond_true, cond_false, Bool.cond_true_left, Bool.cond_false_right, Int.reduceBNe, Int.reduceBEq, decide_true, decide_false, Int.cast_ofNat_Int, Nat.mul_one, eq_self, Bool.true_eq_false, Bool.not_eq_true, Bool.not_eq_false, deads, List.replicate, argsF, c2, pm55, c3, c4, putF, put4, byt, m1, m2, Int.reduceToNat, Option.isSome, boundsA, Option.isNone, copyA, lenA, firstA, h1, hT, List.length_append, List.length_map, ← hB, ← hD, bl, bo, dl, do_, dl', blk_put bl, blk_set bl, blk_take bl, blk_drop bl, blk_put dl, blk_set dl, blk_take dl, blk_drop dl, List.all_append, bf, df, freeL_append, List.all_cons, List.all_nil]
  simp [secR, byt, hB, hD, List.map_take, List.map_drop]
end Go.Am.T
