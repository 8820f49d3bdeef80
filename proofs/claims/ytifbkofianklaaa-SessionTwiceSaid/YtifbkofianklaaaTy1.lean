import Derived.Test.YtifbkofianklaaaTa
import Derived.Test.YtifbkofianklaaaAw8
import Derived.Test.YtifbkofianklaaaAb2
set_option linter.unusedVariables false
set_option linter.unusedSimpArgs false
set_option maxRecDepth 10000
namespace Go.Am.T
attribute [local congr] selV_congr impB_congr

theorem lt_of_get {h : Heap} {o : Nat} {x : Ob} (ho : h[o]? = some x) : o < h.length := (List.getElem?_eq_some_iff.1 ho).1

/-! ### Bodies -/

/-- A body of these bytes, that lies in no object. -/
def By (l : List Int) (b : V) : Prop := (b = .nils ∧ l = []) ∨ ∃ c, b = .sl (l.map (V.int .u8)) 1 c

theorem flat_ints (k : IntKind) : ∀ (l : List Int), (l.map (V.int k)).flatMap V.cells = l.map (V.int k)
  | [] => rfl
  | x :: l => by rw [List.map_cons, List.flatMap_cons, flat_ints k l]; rfl

theorem By.free {l : List Int} {b : V} (h : By l b) : b.free = true := by
  rcases h with ⟨rfl, -⟩ | ⟨c, rfl⟩
  · rfl
  · exact freeL_ints _ _
theorem By.objs {l : List Int} {b : V} (h : By l b) : b.objs = [] := by
  rcases h with ⟨rfl, -⟩ | ⟨c, rfl⟩
  · rfl
  · exact objsL_ints _ _
theorem By.len {l : List Int} {b : V} (h : By l b) : lenA b = some l.length := by
  rcases h with ⟨rfl, rfl⟩ | ⟨c, rfl⟩
  · rfl
  · simp [lenA]
theorem By.nstr {l : List Int} {b : V} (h : By l b) : ∀ s, b ≠ .str s := by
  rcases h with ⟨rfl, -⟩ | ⟨c, rfl⟩ <;> exact fun _ => V.noConfusion
theorem By.nagg {l : List Int} {b : V} (h : By l b) : ∀ s, b ≠ .agg s := by
  rcases h with ⟨rfl, -⟩ | ⟨c, rfl⟩ <;> exact fun _ => V.noConfusion
theorem By.ntup {l : List Int} {b : V} (h : By l b) : ∀ s, b ≠ .tup s := by
  rcases h with ⟨rfl, -⟩ | ⟨c, rfl⟩ <;> exact fun _ => V.noConfusion
theorem By.njunk {l : List Int} {b : V} (h : By l b) : b ≠ .junk := by
  rcases h with ⟨rfl, -⟩ | ⟨c, rfl⟩ <;> exact V.noConfusion
theorem By.one {l : List Int} {b : V} (h : By l b) : b.oneCell = true := by
  rcases h with ⟨rfl, -⟩ | ⟨c, rfl⟩ <;> rfl
theorem By.cells {l : List Int} {b : V} (h : By l b) : b.cells = [b] := by
  rcases h with ⟨rfl, -⟩ | ⟨c, rfl⟩ <;> rfl
theorem By.first {l : List Int} {b : V} (h : By l b) (get : Nat → Option Ob) : firstA get 1 l.length b = some (l.map (V.int .u8)) := by
  rcases h with ⟨rfl, rfl⟩ | ⟨c, rfl⟩
  · rfl
  · have := firstA_sl (get := get) (L := l.map (V.int .u8)) (s := 1) (c := c)
    rw [List.length_map, flat_ints] at this
    exact this

theorem clone_spec {N n : Nat} (hn : 1 ≤ n) {l : List Int} {b : V} (hb : By l b) (hl : l.length ≤ 1000) : ∃ b', By l b' ∧ ∀ h, callA am N n 23 [b] h = some (b', h) := by
  obtain ⟨n, rfl⟩ : ∃ m, n = m + 1 := ⟨n - 1, by omega⟩
  have hfree : V.freeL [b] = true := by rw [freeL_cons, hb.free]; rfl
  have hlen := hb.len
  have hfst := hb.first
  rcases hb with ⟨rfl, rfl⟩ | ⟨c, rfl⟩
  · refine ⟨.nils, .inl ⟨rfl, rfl⟩, fun h => ?_⟩
    refine call_auto at23 rfl rfl (by decide) rfl (sx_wp ?_)
    simp +contextual -implicitDefEqProofs (maxSteps := 10000000) only [sx_seq, sxL_succ, lpQ_norm, lpQ_exit, lpQ_ret, loopQ_norm, loopQ_exit, loopQ_ret, sqQ_norm, sqQ_ret, sqQ_exit, sx_block, blkQ_norm, blkQ_exit, blkQ_ret, sx_cond, cdP_true, cdP_false, cdP_bool, sx_region, sx_draw, plainD, List.all_cons, List.all_nil, List.isEmpty_nil, List.isEmpty_cons, sxo_nil, sxo_cons, sxo_guard, gdS_bool, gdS_eff, gdS_tup, gdS_sel, gdS_seleff, sxK_def, wcall_some, effP_ret, effP_set, effP_none, effP_ite, wop_call, wop_cv, cvP_func, sx_ret, sx_exit, sx_skip, sx_clr, stays, ↓selV_wt, ↓selV_wf, ↓impB_wt, ↓impB_wf, ↓selV_nor, ↓impB_nor, ↓selV_nt, ↓selV_nf, ↓impB_nt, ↓impB_nf, wantB_true, wantB_false, ↓selV_true, ↓selV_false, ↓selV_and, ↓impB_true, ↓impB_false, ↓impB_and, impB_triv, valOf_some, retH_some, ↓prim_pick, pickO_true, pickO_false, pickO_and, pickO_or, pickO_andr, pickO_orr, pickO_orrn, pickO_orn, pickO_bb, pickAnd_bool, pickOr_bool, ↓selV_nn, ↓impB_nn, Bool.and_assoc, Bool.or_assoc, doOp, ev_fr, ev_cst, put_none, put_fr, get, ins, del, dels, Nat.reduceLT, Nat.reduceEqDiff, ↓reduceIte, reduceCtorEq, ne_eq, not_false_eq_true, implies_true, framed_pureF, framed_fb, framed_N, framed_pure, wop_prim, prim, YLD, mkA, V.cells, List.getElem?_cons_zero, List.getElem?_cons_succ, List.set_cons_zero, List.set_cons_succ, Nat.zero_add, Nat.add_zero, Nat.reduceAdd, Nat.reduceSub, Nat.reduceMul, Nat.reduceLeDiff, Nat.not_lt_zero, List.map_cons, List.map_nil, List.cons_append, List.nil_append, loadA, cellsAt, nAg, packA, opt_bind_some, opt_map_some, opt_bind_none, opt_map_none, List.drop, List.take, List.head?, List.length_cons, List.length_nil, binA, unA, eqCells, eqCell, negB, fillA, sr_nil, sr_cons, sr_succ, sr_all, sr_len, storeA, Ob.with, indexedI, V.oneCell, intOf?, retQ_ret, retQ_norm, resA, resA1, fr_getD, packR, sealDepth, shut_bool, shut_int, Option.some.injEq, V.bool.injEq, V.int.injEq, Bool.not_true, Bool.not_false, true_and, and_true, and_self, Bool.and_true, Bool.and_false, Bool.true_and, Bool.false_and, Bool.or_true, Bool.or_false, Bool.true_or, Bool.false_or, Bool.false_eq_true, Int.reduceLT, Int.reduceLE, Int.reduceToNat, Int.reduceNeg, shut_plain, freeL_cons, freeL_nil, free_int, free_bool, free_agg, free_str, free_nils, free_tup, free_sl, true_implies, false_implies, Nat.sub_zero, Int.natCast_nonneg, Int.toNat_natCast, Nat.le_refl, not_true_eq_false, Int.reduceAdd, Int.reduceSub, Int.reduceMul, wrap64, false_and, and_false, cond_true, cond_false, Bool.cond_true_left, Bool.cond_false_right, Int.reduceBNe, Int.reduceBEq, decide_true, decide_false, Int.cast_ofNat_Int, Nat.mul_one, eq_self, Bool.true_eq_false, Bool.not_eq_true, Bool.not_eq_false, deads, List.replicate, argsF, am23, isNil]
  · cases l with
    | nil =>
      refine ⟨.sl [] 1 (some 0), .inr ⟨_, rfl⟩, fun h => ?_⟩
      refine call_auto at23 rfl rfl (by decide) hfree (sx_wp ?_)
      simp +contextual -implicitDefEqProofs (maxSteps := 10000000) only [sx_seq, sxL_succ, lpQ_norm, lpQ_exit, lpQ_ret, loopQ_norm, loopQ_exit, loopQ_ret, sqQ_norm, sqQ_ret, sqQ_exit, sx_block, blkQ_norm, blkQ_exit, blkQ_ret, sx_cond, cdP_true, cdP_false, cdP_bool, sx_region, sx_draw, plainD, List.all_cons, List.all_nil, List.isEmpty_nil, List.isEmpty_cons, sxo_nil, sxo_cons, sxo_guard, gdS_bool, gdS_eff, gdS_tup, gdS_sel, gdS_seleff, sxK_def, wcall_some, effP_ret, effP_set, effP_none, effP_ite, wop_call, wop_cv, cvP_func, sx_ret, sx_exit, sx_skip, sx_clr, stays, ↓selV_wt, ↓selV_wf, ↓impB_wt, ↓impB_wf, ↓selV_nor, ↓impB_nor, ↓selV_nt, ↓selV_nf, ↓impB_nt, ↓impB_nf, wantB_true, wantB_false, ↓selV_true, ↓selV_false, ↓selV_and, ↓impB_true, ↓impB_false, ↓impB_and, impB_triv, valOf_some, retH_some, ↓prim_pick, pickO_true, pickO_false, pickO_and, pickO_or, pickO_andr, pickO_orr, pickO_orrn, pickO_orn, pickO_bb, pickAnd_bool, pickOr_bool, ↓selV_nn, ↓impB_nn, Bool.and_assoc, Bool.or_assoc, doOp, ev_fr, ev_cst, put_none, put_fr, get, ins, del, dels, Nat.reduceLT, Nat.reduceEqDiff, ↓reduceIte, reduceCtorEq, ne_eq, not_false_eq_true, implies_true, framed_pureF, framed_fb, framed_N, framed_pure, wop_prim, prim, YLD, mkA, V.cells, List.getElem?_cons_zero, List.getElem?_cons_succ, List.set_cons_zero, List.set_cons_succ, Nat.zero_add, Nat.add_zero, Nat.reduceAdd, Nat.reduceSub, Nat.reduceMul, Nat.reduceLeDiff, Nat.not_lt_zero, List.map_cons, List.map_nil, List.cons_append, List.nil_append, loadA, cellsAt, nAg, packA, opt_bind_some, opt_map_some, opt_bind_none, opt_map_none, List.drop, List.take, List.head?, List.length_cons, List.length_nil, binA, unA, eqCells, eqCell, negB, fillA, sr_nil, sr_cons, sr_succ, sr_all, sr_len, storeA, Ob.with, indexedI, V.oneCell, intOf?, retQ_ret, retQ_norm, resA, resA1, fr_getD, packR, sealDepth, shut_bool, shut_int, Option.some.injEq, V.bool.injEq, V.int.injEq, Bool.not_true, Bool.not_false, true_and, and_true, and_self, Bool.and_true, Bool.and_false, Bool.true_and, Bool.false_and, Bool.or_true, Bool.or_false, Bool.true_or, Bool.false_or, Bool.false_eq_true, Int.reduceLT, Int.reduceLE, Int.reduceToNat, Int.reduceNeg, shut_plain, freeL_cons, freeL_nil, free_int, free_bool, free_agg, free_str, free_nils, free_tup, free_sl, true_implies, false_implies, Nat.sub_zero, Int.natCast_nonneg, Int.toNat_natCast, Nat.le_refl, not_true_eq_false, Int.reduceAdd, Int.reduceSub, Int.reduceMul, wrap64, false_and, and_false, cond_true, cond_false, Bool.cond_true_left, Bool.cond_false_right, Int.reduceBNe, Int.reduceBEq, decide_true, decide_false, Int.cast_ofNat_Int, Nat.mul_one, eq_self, Bool.true_eq_false, Bool.not_eq_true, Bool.not_eq_false, deads, List.replicate, argsF, am23, isNil, appendA, lenA, firstA, List.range_zero]
      exact ⟨fun _ => rfl, fun h => by cases h⟩
    | cons x l =>
      refine ⟨.sl ((x :: l).map (V.int .u8)) 1 none, .inr ⟨_, rfl⟩, fun h => ?_⟩
      refine call_auto at23 rfl rfl (by decide) hfree (sx_wp ?_)
      have ho : ((x :: l).map (V.int .u8)).all V.oneCell = true := allOne_ints _ _
      have hz : ((x :: l).length = 0) = False := by simp
      have hm : (0 + (x :: l).length) * 1 ≤ maxBytes := by unfold maxBytes; omega
      have hm' : (x :: l).length ≤ maxBytes := by unfold maxBytes; omega
      have hsh : V.shut (fun o => [(⟨1, .arr []⟩ : Ob), ⟨1, .arr ((x :: l).map (V.int .u8))⟩][o]?) sealDepth (.view 1 1 0 (x :: l).length 1 none) = some (.sl ((x :: l).map (V.int .u8)) 1 none) := by
        refine shut_view (by decide) ?_ (by simp) ?_
        · intro e he
          obtain ⟨y, -, rfl⟩ := List.mem_map.1 he
          exact ⟨rfl, rfl, fun c hc => by cases hc with | head => exact ⟨rfl, rfl⟩ | tail _ h => cases h⟩
        · rw [flat_ints]
          simp [loadA, cellsAt]
          exact List.take_of_length_le (by simp)
      have hap : appendA (fun o => [(⟨1, .arr []⟩ : Ob), ⟨0, .dead⟩][o]?) 1 1 1 (.view 0 1 0 0 1 (some 0)) (.sl ((x :: l).map (V.int .u8)) 1 c) = some (.set 1 ⟨1, .arr ((x :: l).map (V.int .u8))⟩ (.view 1 1 0 (x :: l).length 1 none)) := by
        unfold appendA
        simp only [hlen, hfst, ho, ↓reduceIte, hz, cellsAt, List.getElem?_cons_zero]
        simp [mkA, hm', hm]
        unfold maxBytes
        simp at hl
        omega
      generalize (x :: l).map (V.int .u8) = L at *
      generalize (x :: l).length = k at *
      simp +contextual -implicitDefEqProofs (maxSteps := 10000000) only [sx_seq, sxL_succ, lpQ_norm, lpQ_exit, lpQ_ret, loopQ_norm, loopQ_exit, loopQ_ret, sqQ_norm, sqQ_ret, sqQ_exit, sx_block, blkQ_norm, blkQ_exit, blkQ_ret, sx_cond, cdP_true, cdP_false, cdP_bool, sx_region, sx_draw, plainD, List.all_cons, List.all_nil, List.isEmpty_nil, List.isEmpty_cons, sxo_nil, sxo_cons, sxo_guard, gdS_bool, gdS_eff, gdS_tup, gdS_sel, gdS_seleff, sxK_def, wcall_some, effP_ret, effP_set, effP_none, effP_ite, wop_call, wop_cv, cvP_func, sx_ret, sx_exit, sx_skip, sx_clr, stays, ↓selV_wt, ↓selV_wf, ↓impB_wt, ↓impB_wf, ↓selV_nor, ↓impB_nor, ↓selV_nt, ↓selV_nf, ↓impB_nt, ↓impB_nf, wantB_true, wantB_false, ↓selV_true, ↓selV_false, ↓selV_and, ↓impB_true, ↓impB_false, ↓impB_and, impB_triv, valOf_some, retH_some, ↓prim_pick, pickO_true, pickO_false, pickO_and, pickO_or, pickO_andr, pickO_orr, pickO_orrn, pickO_orn, pickO_bb, pickAnd_bool, pickOr_bool, ↓selV_nn, ↓impB_nn, Bool.and_assoc, Bool.or_assoc, doOp, ev_fr, ev_cst, put_none, put_fr, get, ins, del, dels, Nat.reduceLT, Nat.reduceEqDiff, ↓reduceIte, reduceCtorEq, ne_eq, not_false_eq_true, implies_true, framed_pureF, framed_fb, framed_N, framed_pure, wop_prim, prim, YLD, mkA, V.cells, List.getElem?_cons_zero, List.getElem?_cons_succ, List.set_cons_zero, List.set_cons_succ, Nat.zero_add, Nat.add_zero, Nat.reduceAdd, Nat.reduceSub, Nat.reduceMul, Nat.reduceLeDiff, Nat.not_lt_zero, List.map_cons, List.map_nil, List.cons_append, List.nil_append, loadA, cellsAt, nAg, packA, opt_bind_some, opt_map_some, opt_bind_none, opt_map_none, List.drop, List.take, List.head?, List.length_cons, List.length_nil, binA, unA, eqCells, eqCell, negB, fillA, sr_nil, sr_cons, sr_succ, sr_all, sr_len, storeA, Ob.with, indexedI, V.oneCell, intOf?, retQ_ret, retQ_norm, resA, resA1, fr_getD, packR, sealDepth, shut_bool, shut_int, Option.some.injEq, V.bool.injEq, V.int.injEq, Bool.not_true, Bool.not_false, true_and, and_true, and_self, Bool.and_true, Bool.and_false, Bool.true_and, Bool.false_and, Bool.or_true, Bool.or_false, Bool.true_or, Bool.false_or, Bool.false_eq_true, Int.reduceLT, Int.reduceLE, Int.reduceToNat, Int.reduceNeg, shut_plain, freeL_cons, freeL_nil, free_int, free_bool, free_agg, free_str, free_nils, free_tup, free_sl, true_implies, false_implies, Nat.sub_zero, Int.natCast_nonneg, Int.toNat_natCast, Nat.le_refl, not_true_eq_false, Int.reduceAdd, Int.reduceSub, Int.reduceMul, wrap64, false_and, and_false, cond_true, cond_false, Bool.cond_true_left, Bool.cond_false_right, Int.reduceBNe, Int.reduceBEq, decide_true, decide_false, Int.cast_ofNat_Int, Nat.mul_one, eq_self, Bool.true_eq_false, Bool.not_eq_true, Bool.not_eq_false, deads, List.replicate, argsF, am23, isNil, List.range_zero, hap]
      exact hsh

end Go.Am.T
