import Derived.Test.YtifbkofianklaaaTy8
set_option linter.unusedVariables false
set_option linter.unusedSimpArgs false
set_option maxRecDepth 10000
namespace Go.Am.T
attribute [local congr] selV_congr impB_congr

theorem WRow.plain {H : Heap} {W : V} {L : List V} {R : List Nat} (h : WRow H W L R) (hB : Bods L) : ∀ o ∈ R, ∀ y, H[o]? = some y → y.bd.objs = [] := by
  rcases h with ⟨-, -, rfl⟩ | ⟨o, ver, x, rfl, ho, -, hx⟩
  · intro o ho; cases ho
  · intro o' h' y hy
    obtain rfl := List.mem_singleton.1 h'
    rw [ho] at hy
    cases hy
    show V.objsL (x ++ L) = []
    rw [objsL_app, hx, hB.objs]; rfl

set_option maxHeartbeats 1000000 in
theorem same_spec {N n : Nat} (hN : 1500 ≤ N) (hn : 3 ≤ n) {H : Heap} {a c : Nat} {s : Ses} {W W' : V} {L L' : List V} {R R' : List Nat} {B : List (List Int)} (ha : SAt H a s L W R) (hc : SAt H c s L' W' R') (hB : Bys B L) (hB' : Bys B L') (hL : L.length ≤ 1000) :
    callA am N n 20 [.ptr a 1 0, .ptr c 1 0] H = some (.bool true, H) := by
  obtain ⟨n, rfl⟩ : ∃ m, n = m + 1 := ⟨n - 1, by omega⟩
  have c1 := @is_spec N n (by omega) _ _ _ _ _ _ ha
  have c2 := @is_spec N n (by omega) _ _ _ _ _ _ hc
  have oa := ha.ob
  have oc := hc.ob
  have l1 := lt_of_get oa
  have l2 := lt_of_get oc
  have q3 : ∀ W, (s.cs W).length = 9 := fun _ => rfl
  have t1 : ∀ W, List.take 1 (List.drop 1 (s.cs W)) = [.int .i64 s.me] := fun _ => rfl
  have t2 : ∀ W, List.take 1 (List.drop 2 (s.cs W)) = [.int .i64 s.other] := fun _ => rfl
  have t3 : ∀ W, List.take 1 (List.drop 3 (s.cs W)) = [.int .i64 s.view] := fun _ => rfl
  have t4 : ∀ W, List.take 1 (List.drop 4 (s.cs W)) = [W] := fun _ => rfl
  have t5 : ∀ W, List.take 1 (List.drop 5 (s.cs W)) = [.int .i64 s.first] := fun _ => rfl
  have t6 : ∀ W, List.take 1 (List.drop 6 (s.cs W)) = [.int .i64 s.told] := fun _ => rfl
  have t7 : ∀ W, List.take 1 (List.drop 7 (s.cs W)) = [.int .i64 s.got] := fun _ => rfl
  have t8 : ∀ W, List.take 1 (List.drop 8 (s.cs W)) = [.bool s.owes] := fun _ => rfl
  have b1 : ∀ x : Bool, (!x == x) = false := by decide
  have b2 : ∀ x : Int, (x != x) = false := fun x => by simp
  have f25 : ∀ fb, ({ pureF := pureOf am, call := callA am N n, N := N, fb := fb } : Env).framed.call 25 [W, W', .func 26 [] []] H = some (.bool true, H) := fun fb => by
    have hR : V.objsL [W, W', .func 26 [] []] = R ++ R' := by
      show W.objs ++ (W'.objs ++ ((V.func 26 [] []).objs ++ [])) = R ++ R'
      rw [ha.row.objs, hc.row.objs]
      simp [V.objs, V.objsL]
    refine frame_keep0 pm25 hR ?_ rfl ?_
    · exact equal_spec hN (by omega) (ha.row.keep (fun o ho => keepOnly_in (by simp [ho]))) (hc.row.keep (fun o ho => keepOnly_in (by simp [ho]))) hB hB' hL
    · intro o ho y hy i hi
      rcases List.mem_append.1 ho with ho | ho
      · rw [ha.row.plain ha.bods o ho y hy] at hi; cases hi
      · rw [hc.row.plain hc.bods o ho y hy] at hi; cases hi
  have w1 := ha.row.objs
  have w2 := hc.row.objs
  refine call_keep_eq at20 rfl rfl (by decide) (sx_wp ?_)
  simp +contextual -implicitDefEqProofs (maxSteps := 10000000) only [sx_seq, sxL_succ, lpQ_norm, lpQ_exit, lpQ_ret, loopQ_norm, loopQ_exit, loopQ_ret, sqQ_norm, sqQ_ret, sqQ_exit, sx_block, blkQ_norm, blkQ_exit, blkQ_ret, sx_cond, cdP_true, cdP_false, cdP_bool, sx_region, sx_draw, plainD, List.all_cons, List.all_nil, List.isEmpty_nil, List.isEmpty_cons, sxo_nil, sxo_cons, sxo_guard, gdS_bool, gdS_eff, gdS_tup, gdS_sel, gdS_seleff, sxK_def, wcall_some, effP_ret, effP_set, effP_none, effP_ite, wop_call, wop_cv, cvP_func, sx_ret, sx_exit, sx_skip, sx_clr, stays, ↓selV_wt, ↓selV_wf, ↓impB_wt, ↓impB_wf, ↓selV_nor, ↓impB_nor, ↓selV_nt, ↓selV_nf, ↓impB_nt, ↓impB_nf, wantB_true, wantB_false, ↓selV_true, ↓selV_false, ↓selV_and, ↓impB_true, ↓impB_false, ↓impB_and, impB_triv, valOf_some, retH_some, ↓prim_pick, pickO_true, pickO_false, pickO_and, pickO_or, pickO_andr, pickO_orr, pickO_orrn, pickO_orn, pickO_bb, pickAnd_bool, pickOr_bool, ↓selV_nn, ↓impB_nn, Bool.and_assoc, Bool.or_assoc, doOp, ev_fr, ev_cst, put_none, put_fr, get, ins, del, dels, Nat.reduceLT, Nat.reduceEqDiff, ↓reduceIte, reduceCtorEq, ne_eq, not_false_eq_true, implies_true, framed_pureF, framed_fb, framed_N, framed_pure, wop_prim, prim, YLD, mkA, V.cells, List.getElem?_cons_zero, List.getElem?_cons_succ, List.set_cons_zero, List.set_cons_succ, Nat.zero_add, Nat.add_zero, Nat.reduceAdd, Nat.reduceSub, Nat.reduceMul, Nat.reduceLeDiff, Nat.not_lt_zero, List.map_cons, List.map_nil, List.cons_append, List.nil_append, loadA, cellsAt, nAg, packA, opt_bind_some, opt_map_some, opt_bind_none, opt_map_none, List.drop, List.take, List.head?, List.length_cons, List.length_nil, binA, unA, eqCells, eqCell, negB, fillA, sr_nil, sr_cons, sr_succ, sr_all, sr_len, storeA, Ob.with, indexedI, V.oneCell, intOf?, retQ_ret, retQ_norm, resA, resA1, fr_getD, packR, sealDepth, shut_bool, shut_int, Option.some.injEq, V.bool.injEq, V.int.injEq, Bool.not_true, Bool.not_false, true_and, and_true, and_self, Bool.and_true, Bool.and_false, Bool.true_and, Bool.false_and, Bool.or_true, Bool.or_false, Bool.true_or, Bool.false_or, Bool.false_eq_true, Int.reduceLT, Int.reduceLE, Int.reduceToNat, Int.reduceNeg, shut_plain, freeL_cons, freeL_nil, free_int, free_bool, free_agg, free_str, free_nils, free_tup, free_sl, true_implies, false_implies, Nat.sub_zero, Int.natCast_nonneg, Int.toNat_natCast, Nat.le_refl, not_true_eq_false, Int.reduceAdd, Int.reduceSub, Int.reduceMul, wrap64, false_and, and_false, cond_true, cond_false, Bool.cond_true_left, Bool.cond_false_right, Int.reduceBNe, Int.reduceBEq, decide_true, decide_false, Int.cast_ofNat_Int, Nat.mul_one, eq_self, Bool.true_eq_false, Bool.not_eq_true, Bool.not_eq_false, deads, List.replicate, argsF, am20, sx_drawd, wpd_nil, wpd_cons, wdK_def, fpOf, fpV, fpCall, Fp.ok, disj, List.contains_cons, List.contains_nil, Nat.reduceBEq, List.all_append, V.objsL, V.objs,  List.getD_cons_zero, List.getD_cons_succ, List.append_nil, List.append_nil, c1, c2, pm22, isNil, oa, oc, q3, t1, t2, t3, t4, t5, t6, t7, t8, b1, b2, f25, w1, w2, pm25, l1, l2, -List.drop, -List.take]

end Go.Am.T
