import Derived.Test.YthfpjffgagacmaaTj
import Derived.Test.YthfpjffgagacmaaAw8
import Derived.Test.YthfpjffgagacmaaAb2
set_option linter.unusedVariables false
set_option linter.unusedSimpArgs false
set_option maxRecDepth 10000
namespace Go.Am.T
attribute [local congr] selV_congr impB_congr

theorem app_at {h : Heap} {l : List Ob} {lo : Nat} (hl : h.length = lo) (k : Nat) : (h ++ l)[lo + k]? = l[k]? := by subst hl; exact app_get
theorem own_at0 {h : Heap} {b x : Ob} {tl : List Ob} {lo : Nat} (hl : h.length = lo) : (h ++ b :: (tl ++ [x]))[lo]? = some b := by subst hl; simp
theorem own_at {h : Heap} {b x : Ob} {tl : List Ob} {lo F : Nat} (hl : h.length = lo) (hF : F = lo + (1 + tl.length)) : (h ++ b :: (tl ++ [x]))[F]? = some x := by
  subst hl hF
  rw [app_get, show 1 + tl.length = tl.length + 1 by omega, List.getElem?_cons_succ, app_get0]; rfl
theorem own_st {h : Heap} {b x y : Ob} {tl : List Ob} {lo F : Nat} (hl : h.length = lo) (hF : F = lo + (1 + tl.length)) : (h ++ b :: (tl ++ [x])).set F y = h ++ b :: (tl ++ [y]) := by
  subst hl hF
  rw [app_set, show 1 + tl.length = tl.length + 1 by omega, List.set_cons_succ, app_set0]; rfl

/-- One who takes what the sectors' going over gives: rounds on a first part of the memory. -/
structure Taker (L : List Pl) (N n o ver lo : Nat) (stop : Nat → Bool) (Inv : Bool → Nat → Heap → Prop) : Prop where
  len : ∀ b k h, Inv b k h → h.length = lo
  round : ∀ k h p tl, L[k]? = some p → Inv true k h → ∃ h', callA am N n YLD [.yld o ver, .int .i64 (k : Nat), .agg p.cs] (h ++ tl) = some (.bool (!stop k), h' ++ tl) ∧ Inv (!stop k) (k + 1) h'

/-- Behind the sectors' going over. -/
structure Taken (L : List Pl) (stop : Nat → Bool) (Inv : Bool → Nat → Heap → Prop) (b : Bool) (K : Nat) (h : Heap) : Prop where
  inv : Inv b K h
  all : b = true → K = L.length ∧ ∀ k, k < K → stop k = false
  left : b = false → ∃ k, K = k + 1 ∧ k < L.length ∧ stop k = true ∧ ∀ j, j < k → stop j = false

def jc (a b c d e : Int) : List V := [.int .i64 a, .int .i64 b, .int .i64 c, .int .i64 d, .int .i64 e]

theorem all_spec {N n : Nat} (hn : 1 ≤ n) (a b c d e : Int) (h : Heap) : callA am N n 33 [.agg (jc a b c d e)] h = some (.func 58 [] [.ptr h.length 1 0], h ++ [⟨1, .var (jc a b c d e)⟩]) := by
  obtain ⟨n, rfl⟩ : ∃ m, n = m + 1 := ⟨n - 1, by omega⟩
  refine call_keep_eq at33 rfl rfl (by decide) (sx_wp ?_)
  unfold jc
  simp +contextual -implicitDefEqProofs (maxSteps := 10000000) only [sx_seq, sxL_succ, lpQ_norm, lpQ_exit, lpQ_ret, loopQ_norm, loopQ_exit, loopQ_ret, sqQ_norm, sqQ_ret, sqQ_exit, sx_block, blkQ_norm, blkQ_exit, blkQ_ret, sx_cond, cdP_true, cdP_false, cdP_bool, sx_region, sx_draw, plainD, List.all_cons, List.all_nil, List.isEmpty_nil, List.isEmpty_cons, sxo_nil, sxo_cons, sxo_guard, gdS_bool, gdS_eff, gdS_tup, gdS_sel, gdS_seleff, sxK_def, wcall_some, effP_ret, effP_set, effP_none, effP_ite, wop_call, wop_cv, cvP_func, sx_ret, sx_exit, sx_skip, sx_clr, stays, ↓selV_wt, ↓selV_wf, ↓impB_wt, ↓impB_wf, ↓selV_nor, ↓impB_nor, ↓selV_nt, ↓selV_nf, ↓impB_nt, ↓impB_nf, wantB_true, wantB_false, ↓selV_true, ↓selV_false, ↓selV_and, ↓impB_true, ↓impB_false, ↓impB_and, impB_triv, valOf_some, retH_some, ↓prim_pick, pickO_true, pickO_false, pickO_and, pickO_or, pickO_andr, pickO_orr, pickO_orrn, pickO_orn, pickO_bb, pickAnd_bool, pickOr_bool, ↓selV_nn, ↓impB_nn, Bool.and_assoc, Bool.or_assoc, doOp, ev_fr, ev_cst, put_none, put_fr, get, ins, del, dels, Nat.reduceLT, Nat.reduceEqDiff, ↓reduceIte, reduceCtorEq, ne_eq, not_false_eq_true, implies_true, framed_pureF, framed_fb, framed_N, framed_pure, wop_prim, prim, YLD, mkA, V.cells, List.getElem?_cons_zero, List.getElem?_cons_succ, List.set_cons_zero, List.set_cons_succ, Nat.zero_add, Nat.add_zero, Nat.reduceAdd, Nat.reduceSub, Nat.reduceMul, Nat.reduceLeDiff, Nat.not_lt_zero, List.map_cons, List.map_nil, List.cons_append, List.nil_append, loadA, cellsAt, nAg, packA, opt_bind_some, opt_map_some, opt_bind_none, opt_map_none, List.drop, List.take, List.head?, List.length_cons, List.length_nil, binA, unA, eqCells, eqCell, negB, fillA, sr_nil, sr_cons, sr_succ, sr_all, sr_len, storeA, Ob.with, indexedI, V.oneCell, intOf?, retQ_ret, retQ_norm, resA, resA1, fr_getD, packR, sealDepth, shut_bool, shut_int, Option.some.injEq, V.bool.injEq, V.int.injEq, Bool.not_true, Bool.not_false, true_and, and_true, and_self, Bool.and_true, Bool.and_false, Bool.true_and, Bool.false_and, Bool.or_true, Bool.or_false, Bool.true_or, Bool.false_or, Bool.false_eq_true, Int.reduceLT, Int.reduceLE, Int.reduceToNat, Int.reduceNeg, shut_plain, freeL_cons, freeL_nil, free_int, free_bool, free_agg, free_str, free_nils, free_tup, free_sl, true_implies, false_implies, Nat.sub_zero, Int.natCast_nonneg, Int.toNat_natCast, Nat.le_refl, not_true_eq_false, Int.reduceAdd, Int.reduceSub, Int.reduceMul, wrap64, false_and, and_false, cond_true, cond_false, Bool.cond_true_left, Bool.cond_false_right, Int.reduceBNe, Int.reduceBEq, decide_true, decide_false, Int.cast_ofNat_Int, Nat.mul_one, eq_self, Bool.true_eq_false, Bool.not_eq_true, Bool.not_eq_false, deads, List.replicate, argsF, am33, app_get0, app_get, app_set0, app_set]

theorem jc_def (a b c d e : Int) : [V.int .i64 a, .int .i64 b, .int .i64 c, .int .i64 d, .int .i64 e] = jc a b c d e := rfl

set_option maxHeartbeats 2000000 in
theorem iter_spec {N n : Nat} (hN : 2000 ≤ N) (hn : 4 ≤ n) (a b c d e : Int) {o ver lo : Nat} {stop : Nat → Bool} {Inv : Bool → Nat → Heap → Prop}
    (T : Taker (jobList a b c d e) N n o ver lo stop Inv) (h : Heap) (tl : List Ob) (hI : Inv true 0 h) :
    ∃ h' y q K, callA am N (n + 1) 58 [.yld o ver, .ptr lo 1 0] (h ++ ⟨1, .var (jc a b c d e)⟩ :: tl) = some (.tup [], h' ++ ⟨1, .var (jc a b c d e)⟩ :: (tl ++ [y])) ∧ Taken (jobList a b c d e) stop Inv q K h' := by
  have c13 := @sectors_spec N n (by omega) a b c d e
  have c18 := fun s => @of_spec N n (by omega) (by omega) a b c d e s
  simp only [of_list] at c18
  have ec : (if may5 a b c d e = true then V.tup [.int .i64 (endLog a d + 2 * b), .int .i64 0] else .tup [.int .i64 0, .int .i64 2]) = .tup [.int .i64 ((jobList a b c d e).length : Nat), .int .i64 (if may5 a b c d e = true then 0 else 2)] := by
    unfold jobList
    by_cases hm : may5 a b c d e = true
    · rw [if_pos hm, if_pos hm, if_pos hm, list_len hm]
    · rw [if_neg hm, if_neg hm, if_neg hm]; rfl
  rw [ec] at c13
  have hlen := @jobList_len a b c d e
  simp only [jc_def] at c13 c18
  generalize (if may5 a b c d e = true then (0 : Int) else 2) = er at c13
  generalize jobList a b c d e = L at T c13 c18 hlen ⊢
  have hl := T.len _ _ _ hI
  have hcl : (jc a b c d e).length = 5 := rfl
  have tk : List.take 5 (jc a b c d e) = jc a b c d e := rfl
  generalize jc a b c d e = J at c13 c18 hcl tk ⊢
  obtain ⟨F, hF⟩ : ∃ F, F = lo + (1 + tl.length) := ⟨_, rfl⟩
  have eL : (h ++ (⟨1, .var J⟩ : Ob) :: tl).length = F := by simp [hl]; omega
  suffices H : ∃ v' h'', callA am N (n + 1) 58 [.yld o ver, .ptr lo 1 0] (h ++ ⟨1, .var J⟩ :: tl) = some (v', h'') ∧ v' = .tup [] ∧ ∃ h' y b K, h'' = h' ++ ⟨1, .var J⟩ :: (tl ++ [y]) ∧ Taken L stop Inv b K h' by
    obtain ⟨_, _, h1, rfl, h', y, b, K, rfl, h2⟩ := H
    exact ⟨h', y, b, K, h1, h2⟩
  refine call_keep at58 rfl rfl (by decide) (sx_wp ?_)
  rw [eL, List.append_assoc, List.cons_append]
  have b0 := fun x => own_at0 (b := ⟨1, .var J⟩) (x := x) (tl := tl) hl
  simp +contextual -implicitDefEqProofs (maxSteps := 10000000) only [sx_seq, sxL_succ, lpQ_norm, lpQ_exit, lpQ_ret, loopQ_norm, loopQ_exit, loopQ_ret, sqQ_norm, sqQ_ret, sqQ_exit, sx_block, blkQ_norm, blkQ_exit, blkQ_ret, sx_cond, cdP_true, cdP_false, cdP_bool, sx_region, sx_draw, plainD, List.all_cons, List.all_nil, List.isEmpty_nil, List.isEmpty_cons, sxo_nil, sxo_cons, sxo_guard, gdS_bool, gdS_eff, gdS_tup, gdS_sel, gdS_seleff, sxK_def, wcall_some, effP_ret, effP_set, effP_none, effP_ite, wop_call, wop_cv, cvP_func, sx_ret, sx_exit, sx_skip, sx_clr, stays, ↓selV_wt, ↓selV_wf, ↓impB_wt, ↓impB_wf, ↓selV_nor, ↓impB_nor, ↓selV_nt, ↓selV_nf, ↓impB_nt, ↓impB_nf, wantB_true, wantB_false, ↓selV_true, ↓selV_false, ↓selV_and, ↓impB_true, ↓impB_false, ↓impB_and, impB_triv, valOf_some, retH_some, ↓prim_pick, pickO_true, pickO_false, pickO_and, pickO_or, pickO_andr, pickO_orr, pickO_orrn, pickO_orn, pickO_bb, pickAnd_bool, pickOr_bool, ↓selV_nn, ↓impB_nn, Bool.and_assoc, Bool.or_assoc, doOp, ev_fr, ev_cst, put_none, put_fr, get, ins, del, dels, Nat.reduceLT, Nat.reduceEqDiff, ↓reduceIte, reduceCtorEq, ne_eq, not_false_eq_true, implies_true, framed_pureF, framed_fb, framed_N, framed_pure, wop_prim, prim, YLD, mkA, V.cells, List.getElem?_cons_zero, List.getElem?_cons_succ, List.set_cons_zero, List.set_cons_succ, Nat.zero_add, Nat.add_zero, Nat.reduceAdd, Nat.reduceSub, Nat.reduceMul, Nat.reduceLeDiff, Nat.not_lt_zero, List.map_cons, List.map_nil, List.cons_append, List.nil_append, loadA, cellsAt, nAg, packA, opt_bind_some, opt_map_some, opt_bind_none, opt_map_none, List.drop, List.take, List.head?, List.length_cons, List.length_nil, binA, unA, eqCells, eqCell, negB, fillA, sr_nil, sr_cons, sr_succ, sr_all, sr_len, storeA, Ob.with, indexedI, V.oneCell, intOf?, retQ_ret, retQ_norm, resA, resA1, fr_getD, packR, sealDepth, shut_bool, shut_int, Option.some.injEq, V.bool.injEq, V.int.injEq, Bool.not_true, Bool.not_false, true_and, and_true, and_self, Bool.and_true, Bool.and_false, Bool.true_and, Bool.false_and, Bool.or_true, Bool.or_false, Bool.true_or, Bool.false_or, Bool.false_eq_true, Int.reduceLT, Int.reduceLE, Int.reduceToNat, Int.reduceNeg, shut_plain, freeL_cons, freeL_nil, free_int, free_bool, free_agg, free_str, free_nils, free_tup, free_sl, true_implies, false_implies, Nat.sub_zero, Int.natCast_nonneg, Int.toNat_natCast, Nat.le_refl, not_true_eq_false, Int.reduceAdd, Int.reduceSub, Int.reduceMul, wrap64, false_and, and_false, cond_true, cond_false, Bool.cond_true_left, Bool.cond_false_right, Int.reduceBNe, Int.reduceBEq, decide_true, decide_false, Int.cast_ofNat_Int, Nat.mul_one, eq_self, Bool.true_eq_false, Bool.not_eq_true, Bool.not_eq_false, deads, List.replicate, argsF, am58, b0, tk, hcl, c13, pm13]
  refine sx_loop (fun i t H => t = fr 29 [(0, .yld o ver), (1, .ptr lo 1 0), (13, .int .i64 (L.length : Nat)), (14, .int .i64 i)] ∧ i ≤ L.length ∧ ∃ h1 y, H = h1 ++ ⟨1, .var J⟩ :: (tl ++ [y]) ∧ Inv true i h1 ∧ ∀ j, j < i → stop j = false) L.length (by show L.length < N; omega) ⟨rfl, Nat.zero_le _, h, _, rfl, hI, fun j hj => by omega⟩ ?_
  rintro i t H hi ⟨rfl, hi8, h1, y, rfl, hI1, hf⟩
  have hl1 := T.len _ _ _ hI1
  have b0 := fun x => own_at0 (b := ⟨1, .var J⟩) (x := x) (tl := tl) hl1
  have b1 := fun x => own_at (b := ⟨1, .var J⟩) (x := x) (tl := tl) hl1 hF
  have b2 := fun x y => own_st (b := ⟨1, .var J⟩) (x := x) (y := y) (tl := tl) hl1 hF
  by_cases hlt : i < L.length
  · have g1 : decide ((i : Int) < (L.length : Int)) = true := decide_eq_true (by omega)
    have w4 : IntKind.i64.wrap ((i : Int) + 1) = ((i + 1 : Nat) : Int) := (wrap64 (by omega) (by omega)).trans (by omega)
    have hi1 : i + 1 ≤ L.length := by omega
    have hk : L[i]? = some L[i] := List.getElem?_eq_getElem hlt
    generalize L[i] = p at hk
    have k18 := c18 (i : Int)
    rw [if_pos (by omega), Int.toNat_natCast, hk] at k18
    have k18 : ∀ h, callA am N n 18 [.agg J, .int .i64 i] h = some (.tup [.agg [.int .i64 p.k, .int .i64 p.n, .int .i64 p.i, .int .i64 p.h], .int .i64 0], h) := k18
    obtain ⟨h2, hr, hI2⟩ := T.round i h1 p (⟨1, .var J⟩ :: (tl ++ [⟨y.ver + 1, .var [.int .i64 p.k, .int .i64 p.n, .int .i64 p.i, .int .i64 p.h]⟩])) hk hI1
    unfold Pl.cs at hr
    cases hs : stop i with
    | true =>
      rw [hs] at hr hI2
      simp +contextual -implicitDefEqProofs (maxSteps := 10000000) only [sx_seq, sxL_succ, lpQ_norm, lpQ_exit, lpQ_ret, loopQ_norm, loopQ_exit, loopQ_ret, sqQ_norm, sqQ_ret, sqQ_exit, sx_block, blkQ_norm, blkQ_exit, blkQ_ret, sx_cond, cdP_true, cdP_false, cdP_bool, sx_region, sx_draw, plainD, List.all_cons, List.all_nil, List.isEmpty_nil, List.isEmpty_cons, sxo_nil, sxo_cons, sxo_guard, gdS_bool, gdS_eff, gdS_tup, gdS_sel, gdS_seleff, sxK_def, wcall_some, effP_ret, effP_set, effP_none, effP_ite, wop_call, wop_cv, cvP_func, sx_ret, sx_exit, sx_skip, sx_clr, stays, ↓selV_wt, ↓selV_wf, ↓impB_wt, ↓impB_wf, ↓selV_nor, ↓impB_nor, ↓selV_nt, ↓selV_nf, ↓impB_nt, ↓impB_nf, wantB_true, wantB_false, ↓selV_true, ↓selV_false, ↓selV_and, ↓impB_true, ↓impB_false, ↓impB_and, impB_triv, valOf_some, retH_some, ↓prim_pick, pickO_true, pickO_false, pickO_and, pickO_or, pickO_andr, pickO_orr, pickO_orrn, pickO_orn, pickO_bb, pickAnd_bool, pickOr_bool, ↓selV_nn, ↓impB_nn, Bool.and_assoc, Bool.or_assoc, doOp, ev_fr, ev_cst, put_none, put_fr, get, ins, del, dels, Nat.reduceLT, Nat.reduceEqDiff, ↓reduceIte, reduceCtorEq, ne_eq, not_false_eq_true, implies_true, framed_pureF, framed_fb, framed_N, framed_pure, wop_prim, prim, YLD, mkA, V.cells, List.getElem?_cons_zero, List.getElem?_cons_succ, List.set_cons_zero, List.set_cons_succ, Nat.zero_add, Nat.add_zero, Nat.reduceAdd, Nat.reduceSub, Nat.reduceMul, Nat.reduceLeDiff, Nat.not_lt_zero, List.map_cons, List.map_nil, List.cons_append, List.nil_append, loadA, cellsAt, nAg, packA, opt_bind_some, opt_map_some, opt_bind_none, opt_map_none, List.drop, List.take, List.head?, List.length_cons, List.length_nil, binA, unA, eqCells, eqCell, negB, fillA, sr_nil, sr_cons, sr_succ, sr_all, sr_len, storeA, Ob.with, indexedI, V.oneCell, intOf?, retQ_ret, retQ_norm, resA, resA1, fr_getD, packR, sealDepth, shut_bool, shut_int, Option.some.injEq, V.bool.injEq, V.int.injEq, Bool.not_true, Bool.not_false, true_and, and_true, and_self, Bool.and_true, Bool.and_false, Bool.true_and, Bool.false_and, Bool.or_true, Bool.or_false, Bool.true_or, Bool.false_or, Bool.false_eq_true, Int.reduceLT, Int.reduceLE, Int.reduceToNat, Int.reduceNeg, shut_plain, freeL_cons, freeL_nil, free_int, free_bool, free_agg, free_str, free_nils, free_tup, free_sl, true_implies, false_implies, Nat.sub_zero, Int.natCast_nonneg, Int.toNat_natCast, Nat.le_refl, not_true_eq_false, Int.reduceAdd, Int.reduceSub, Int.reduceMul, wrap64, false_and, and_false, cond_true, cond_false, Bool.cond_true_left, Bool.cond_false_right, Int.reduceBNe, Int.reduceBEq, decide_true, decide_false, Int.cast_ofNat_Int, Nat.mul_one, eq_self, Bool.true_eq_false, Bool.not_eq_true, Bool.not_eq_false, deads, List.replicate, argsF, g1, b0, b1, b2, tk, hcl, k18, pm18, cvP_yld, hr]
      exact ⟨h2, _, false, _, rfl, hI2, fun h => by (cases h), fun _ => ⟨_, rfl, hlt, hs, hf⟩⟩
    | false =>
      rw [hs] at hr hI2
      simp +contextual -implicitDefEqProofs (maxSteps := 10000000) only [sx_seq, sxL_succ, lpQ_norm, lpQ_exit, lpQ_ret, loopQ_norm, loopQ_exit, loopQ_ret, sqQ_norm, sqQ_ret, sqQ_exit, sx_block, blkQ_norm, blkQ_exit, blkQ_ret, sx_cond, cdP_true, cdP_false, cdP_bool, sx_region, sx_draw, plainD, List.all_cons, List.all_nil, List.isEmpty_nil, List.isEmpty_cons, sxo_nil, sxo_cons, sxo_guard, gdS_bool, gdS_eff, gdS_tup, gdS_sel, gdS_seleff, sxK_def, wcall_some, effP_ret, effP_set, effP_none, effP_ite, wop_call, wop_cv, cvP_func, sx_ret, sx_exit, sx_skip, sx_clr, stays, ↓selV_wt, ↓selV_wf, ↓impB_wt, ↓impB_wf, ↓selV_nor, ↓impB_nor, ↓selV_nt, ↓selV_nf, ↓impB_nt, ↓impB_nf, wantB_true, wantB_false, ↓selV_true, ↓selV_false, ↓selV_and, ↓impB_true, ↓impB_false, ↓impB_and, impB_triv, valOf_some, retH_some, ↓prim_pick, pickO_true, pickO_false, pickO_and, pickO_or, pickO_andr, pickO_orr, pickO_orrn, pickO_orn, pickO_bb, pickAnd_bool, pickOr_bool, ↓selV_nn, ↓impB_nn, Bool.and_assoc, Bool.or_assoc, doOp, ev_fr, ev_cst, put_none, put_fr, get, ins, del, dels, Nat.reduceLT, Nat.reduceEqDiff, ↓reduceIte, reduceCtorEq, ne_eq, not_false_eq_true, implies_true, framed_pureF, framed_fb, framed_N, framed_pure, wop_prim, prim, YLD, mkA, V.cells, List.getElem?_cons_zero, List.getElem?_cons_succ, List.set_cons_zero, List.set_cons_succ, Nat.zero_add, Nat.add_zero, Nat.reduceAdd, Nat.reduceSub, Nat.reduceMul, Nat.reduceLeDiff, Nat.not_lt_zero, List.map_cons, List.map_nil, List.cons_append, List.nil_append, loadA, cellsAt, nAg, packA, opt_bind_some, opt_map_some, opt_bind_none, opt_map_none, List.drop, List.take, List.head?, List.length_cons, List.length_nil, binA, unA, eqCells, eqCell, negB, fillA, sr_nil, sr_cons, sr_succ, sr_all, sr_len, storeA, Ob.with, indexedI, V.oneCell, intOf?, retQ_ret, retQ_norm, resA, resA1, fr_getD, packR, sealDepth, shut_bool, shut_int, Option.some.injEq, V.bool.injEq, V.int.injEq, Bool.not_true, Bool.not_false, true_and, and_true, and_self, Bool.and_true, Bool.and_false, Bool.true_and, Bool.false_and, Bool.or_true, Bool.or_false, Bool.true_or, Bool.false_or, Bool.false_eq_true, Int.reduceLT, Int.reduceLE, Int.reduceToNat, Int.reduceNeg, shut_plain, freeL_cons, freeL_nil, free_int, free_bool, free_agg, free_str, free_nils, free_tup, free_sl, true_implies, false_implies, Nat.sub_zero, Int.natCast_nonneg, Int.toNat_natCast, Nat.le_refl, not_true_eq_false, Int.reduceAdd, Int.reduceSub, Int.reduceMul, wrap64, false_and, and_false, cond_true, cond_false, Bool.cond_true_left, Bool.cond_false_right, Int.reduceBNe, Int.reduceBEq, decide_true, decide_false, Int.cast_ofNat_Int, Nat.mul_one, eq_self, Bool.true_eq_false, Bool.not_eq_true, Bool.not_eq_false, deads, List.replicate, argsF, g1, b0, b1, b2, tk, hcl, k18, pm18, cvP_yld, hr, w4, hi1, hlt]
      refine ⟨h2, _, rfl, hI2, fun j hj => ?_⟩
      by_cases ej : j = i
      · rw [ej]; exact hs
      · exact hf j (by omega)
  · have e8 : i = L.length := by omega
    subst e8
    have g1 : decide ((L.length : Int) < (L.length : Int)) = false := decide_eq_false (by omega)
    simp +contextual -implicitDefEqProofs (maxSteps := 10000000) only [sx_seq, sxL_succ, lpQ_norm, lpQ_exit, lpQ_ret, loopQ_norm, loopQ_exit, loopQ_ret, sqQ_norm, sqQ_ret, sqQ_exit, sx_block, blkQ_norm, blkQ_exit, blkQ_ret, sx_cond, cdP_true, cdP_false, cdP_bool, sx_region, sx_draw, plainD, List.all_cons, List.all_nil, List.isEmpty_nil, List.isEmpty_cons, sxo_nil, sxo_cons, sxo_guard, gdS_bool, gdS_eff, gdS_tup, gdS_sel, gdS_seleff, sxK_def, wcall_some, effP_ret, effP_set, effP_none, effP_ite, wop_call, wop_cv, cvP_func, sx_ret, sx_exit, sx_skip, sx_clr, stays, ↓selV_wt, ↓selV_wf, ↓impB_wt, ↓impB_wf, ↓selV_nor, ↓impB_nor, ↓selV_nt, ↓selV_nf, ↓impB_nt, ↓impB_nf, wantB_true, wantB_false, ↓selV_true, ↓selV_false, ↓selV_and, ↓impB_true, ↓impB_false, ↓impB_and, impB_triv, valOf_some, retH_some, ↓prim_pick, pickO_true, pickO_false, pickO_and, pickO_or, pickO_andr, pickO_orr, pickO_orrn, pickO_orn, pickO_bb, pickAnd_bool, pickOr_bool, ↓selV_nn, ↓impB_nn, Bool.and_assoc, Bool.or_assoc, doOp, ev_fr, ev_cst, put_none, put_fr, get, ins, del, dels, Nat.reduceLT, Nat.reduceEqDiff, ↓reduceIte, reduceCtorEq, ne_eq, not_false_eq_true, implies_true, framed_pureF, framed_fb, framed_N, framed_pure, wop_prim, prim, YLD, mkA, V.cells, List.getElem?_cons_zero, List.getElem?_cons_succ, List.set_cons_zero, List.set_cons_succ, Nat.zero_add, Nat.add_zero, Nat.reduceAdd, Nat.reduceSub, Nat.reduceMul, Nat.reduceLeDiff, Nat.not_lt_zero, List.map_cons, List.map_nil, List.cons_append, List.nil_append, loadA, cellsAt, nAg, packA, opt_bind_some, opt_map_some, opt_bind_none, opt_map_none, List.drop, List.take, List.head?, List.length_cons, List.length_nil, binA, unA, eqCells, eqCell, negB, fillA, sr_nil, sr_cons, sr_succ, sr_all, sr_len, storeA, Ob.with, indexedI, V.oneCell, intOf?, retQ_ret, retQ_norm, resA, resA1, fr_getD, packR, sealDepth, shut_bool, shut_int, Option.some.injEq, V.bool.injEq, V.int.injEq, Bool.not_true, Bool.not_false, true_and, and_true, and_self, Bool.and_true, Bool.and_false, Bool.true_and, Bool.false_and, Bool.or_true, Bool.or_false, Bool.true_or, Bool.false_or, Bool.false_eq_true, Int.reduceLT, Int.reduceLE, Int.reduceToNat, Int.reduceNeg, shut_plain, freeL_cons, freeL_nil, free_int, free_bool, free_agg, free_str, free_nils, free_tup, free_sl, true_implies, false_implies, Nat.sub_zero, Int.natCast_nonneg, Int.toNat_natCast, Nat.le_refl, not_true_eq_false, Int.reduceAdd, Int.reduceSub, Int.reduceMul, wrap64, false_and, and_false, cond_true, cond_false, Bool.cond_true_left, Bool.cond_false_right, Int.reduceBNe, Int.reduceBEq, decide_true, decide_false, Int.cast_ofNat_Int, Nat.mul_one, eq_self, Bool.true_eq_false, Bool.not_eq_true, Bool.not_eq_false, deads, List.replicate, argsF, g1]
    exact ⟨h1, y, true, _, rfl, hI1, fun _ => ⟨rfl, hf⟩, fun h => by cases h⟩

end Go.Am.T
