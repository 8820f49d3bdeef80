import Derived.Test.YtklmggpiehmpdaaTl7
set_option linter.unusedVariables false
set_option linter.unusedSimpArgs false
set_option maxRecDepth 10000
namespace Go.Am.T
attribute [local congr] selV_congr impB_congr

abbrev obW (w : Wt) : Ob := ⟨1, .var w.cs⟩

theorem look_upd {N n : Nat} (hn : 3 ≤ n) {w : Wt} (hw : w.Ok) (x e b r : Int) {a : Nat} {h : Heap} (ha : h[a]? = some (obW w)) :
    ∃ h1, callA am N n 16 [.ptr a 1 0, .int .i64 x, .agg [.int .i64 e, .int .i64 b, .int .i64 r]] h = some (.tup [.bool (lookW w x e b r).2.1, .int .i64 (lookW w x e b r).2.2], h1) ∧ Upd h a (obW (lookW w x e b r).1) h1 :=
  ⟨_, look_eq hn hw x e b r ha, Upd.set_app (lt_of_get ha) _⟩

theorem refLook_upd {N n : Nat} (hn : 3 ≤ n) {w : Wt} (hw : w.Ok) (x e b r : Int) {a : Nat} {h : Heap} (ha : h[a]? = some (obW w)) :
    ∃ h1, callA am N n 32 [.ptr a 1 0, .int .i64 x, .agg [.int .i64 e, .int .i64 b, .int .i64 r]] h = some (.tup [.bool (lookW w x e b r).2.1, .int .i64 (lookW w x e b r).2.2], h1) ∧ Upd h a (obW (lookW w x e b r).1) h1 :=
  ⟨_, refLook_eq hn hw x e b r ha, Upd.set_app (lt_of_get ha) _⟩

theorem Upd.set {h : Heap} {a : Nat} {x : Ob} (ha : a < h.length) : Upd h a x (h.set a x) := by
  have := Upd.set_app (x := x) ha []
  rwa [List.append_nil] at this

theorem set_upd_W {N n fb : Nat} {f : FuncId} {m : FMode} {args : List V} {w w' : Wt} {a : Nat} {v : V} {h : Heap} (hm : pureOf am f = m) (hk : m = .keep ∨ m = .auto) (hR : V.objsL args = [a]) (hv : v.objs = []) (ha : h[a]? = some (obW w))
    (hc : ∀ h', h'[a]? = some (obW w) → callA am N n f args h' = some (v, h'.set a (obW w'))) :
    ({ pureF := pureOf am, call := callA am N n, N := N, fb := fb } : Env).framed.call f args h = some (v, h.set a (obW w')) := by
  refine frame_setM (R := [a]) hm hk hR ?_ (by simp) (lt_of_get ha) hv (Wt.objs w') ?_
  · exact hc _ (by rw [keepOnly_in (by simp)]; exact ha)
  · intro o ho y hy i hi
    simp only [List.mem_cons, List.not_mem_nil, or_false] at ho
    subst ho
    rw [ha] at hy
    cases hy
    simp [Bd.objs, Wt.objs] at hi

/-- What is known behind a step. -/
structure DoPost (h : Heap) (a b : Nat) (v : V) (h' : Heap) : Prop where
  out : ∃ a' w', v = .tup [.ptr a' 1 0, .ptr b 1 0, .bool true] ∧ w'.Ok ∧ h'[a']? = some (obW w') ∧ h'[b]? = some (obW w') ∧ a' ≠ b ∧ (a' = a ∨ h.length ≤ a')
  len : h.length ≤ h'.length
  other : ∀ o, o ≠ a → o ≠ b → o < h.length → h'[o]? = h[o]?

set_option maxHeartbeats 4000000 in
theorem do_spec {N n : Nat} (hn : 4 ≤ n) {w : Wt} (hw : w.Ok) (k x e c r : Int) {a b : Nat} {h : Heap} (ha : h[a]? = some (obW w)) (hb : h[b]? = some (obW w)) (hab : a ≠ b) :
    ∃ v h', callA am N n 19 [.ptr a 1 0, .ptr b 1 0, .agg [.int .i64 k, .int .i64 x, .int .i64 e, .int .i64 c, .int .i64 r]] h = some (v, h') ∧ DoPost h a b v h' := by
  obtain ⟨n, rfl⟩ : ∃ m, n = m + 1 := ⟨n - 1, by omega⟩
  have c11 := @num_spec N n (by omega)
  have hal := lt_of_get ha
  have hbl := lt_of_get hb
  refine call_keep at19 rfl rfl (by decide) (sx_wp ?_)
  obtain ⟨h0, e0⟩ : ∃ h0, h0 = h ++ [⟨1, .var [.int .i64 k, .int .i64 x, .int .i64 e, .int .i64 c, .int .i64 r]⟩] := ⟨_, rfl⟩
  have a0 : h0[a]? = some (obW w) := by rw [e0, List.getElem?_append_left hal]; exact ha
  have b0 : h0[b]? = some (obW w) := by rw [e0, List.getElem?_append_left hbl]; exact hb
  have o0 : h0[h.length]? = some ⟨1, .var [.int .i64 k, .int .i64 x, .int .i64 e, .int .i64 c, .int .i64 r]⟩ := by rw [e0, app_get0]; rfl
  have l0 : h0.length = h.length + 1 := by rw [e0]; simp
  have x0 : ∀ o, o < h.length → h0[o]? = h[o]? := fun o ho => by rw [e0, List.getElem?_append_left ho]
  have e0' := e0.symm
  cases k1 : (k == 1) with
  | true =>
    obtain ⟨h1, c16, u1⟩ := @look_upd N n (by omega) w hw x e c r a h0 a0
    have b1 : h1[b]? = some (obW w) := by rw [u1.other b hab.symm (by omega)]; exact b0
    have o1 := u1.other h.length (by omega) (by omega)
    rw [o0] at o1
    obtain ⟨h2, c32, u2⟩ := @refLook_upd N n (by omega) w hw x e c r b h1 b1
    have o2 := u2.other h.length (by omega) (by have := u1.len; omega)
    rw [o1] at o2
    simp +contextual -implicitDefEqProofs (maxSteps := 10000000) only [sx_seq, sxL_succ, lpQ_norm, lpQ_exit, lpQ_ret, loopQ_norm, loopQ_exit, loopQ_ret, sqQ_norm, sqQ_ret, sqQ_exit, sx_block, blkQ_norm, blkQ_exit, blkQ_ret, sx_cond, cdP_true, cdP_false, cdP_bool, sx_region, sx_draw, plainD, List.all_cons, List.all_nil, List.isEmpty_nil, List.isEmpty_cons, sxo_nil, sxo_cons, sxo_guard, gdS_bool, gdS_eff, gdS_tup, gdS_sel, gdS_seleff, sxK_def, wcall_some, effP_ret, effP_set, effP_none, effP_ite, wop_call, wop_cv, cvP_func, sx_ret, sx_exit, sx_skip, sx_clr, stays, ↓selV_wt, ↓selV_wf, ↓impB_wt, ↓impB_wf, ↓selV_nor, ↓impB_nor, ↓selV_nt, ↓selV_nf, ↓impB_nt, ↓impB_nf, wantB_true, wantB_false, ↓selV_true, ↓selV_false, ↓selV_and, ↓impB_true, ↓impB_false, ↓impB_and, impB_triv, valOf_some, retH_some, ↓prim_pick, pickO_true, pickO_false, pickO_and, pickO_or, pickO_andr, pickO_orr, pickO_orrn, pickO_orn, pickO_bb, pickAnd_bool, pickOr_bool, ↓selV_nn, ↓impB_nn, Bool.and_assoc, Bool.or_assoc, doOp, ev_fr, ev_cst, put_none, put_fr, get, ins, del, dels, Nat.reduceLT, Nat.reduceEqDiff, ↓reduceIte, reduceCtorEq, ne_eq, not_false_eq_true, implies_true, framed_pureF, framed_fb, framed_N, framed_pure, wop_prim, prim, mkA, V.cells, List.getElem?_cons_zero, List.getElem?_cons_succ, List.set_cons_zero, List.set_cons_succ, Nat.zero_add, Nat.add_zero, Nat.reduceAdd, Nat.reduceSub, Nat.reduceMul, Nat.reduceLeDiff, Nat.not_lt_zero, List.map_cons, List.map_nil, List.cons_append, List.nil_append, loadA, cellsAt, nAg, packA, opt_bind_some, opt_map_some, opt_bind_none, opt_map_none, List.drop, List.take, List.head?, List.length_cons, List.length_nil, binA, unA, eqCells, eqCell, negB, fillA, sr_nil, sr_cons, sr_succ, sr_all, sr_len, storeA, Ob.with, indexedI, V.oneCell, intOf?, retQ_ret, retQ_norm, resA, resA1, fr_getD, packR, sealDepth, shut_bool, shut_int, Option.some.injEq, V.bool.injEq, V.int.injEq, Bool.not_true, Bool.not_false, true_and, and_true, and_self, Bool.and_true, Bool.and_false, Bool.true_and, Bool.false_and, Bool.or_true, Bool.or_false, Bool.true_or, Bool.false_or, Bool.false_eq_true, Int.reduceLT, Int.reduceLE, Int.reduceToNat, Int.reduceNeg, shut_plain, freeL_cons, freeL_nil, free_int, free_bool, free_agg, free_str, free_nils, free_tup, free_sl, true_implies, false_implies, Nat.sub_zero, Int.natCast_nonneg, Int.toNat_natCast, Nat.le_refl, not_true_eq_false, Int.reduceAdd, Int.reduceSub, Int.reduceMul, wrap64, false_and, and_false, cond_true, cond_false, Bool.cond_true_left, Bool.cond_false_right, Int.reduceBNe, Int.reduceBEq, decide_true, decide_false, Int.cast_ofNat_Int, Nat.mul_one, eq_self, Bool.true_eq_false, Bool.not_eq_true, Bool.not_eq_false, deads, List.replicate, argsF, am19, app_get0, app_set0, e0', o0, o1, o2, k1, c16, c32, c11, pm11, beq_self_eq_true]
    refine ⟨⟨a, _, rfl, lookW_ok hw x e c r, ?_, u2.at_, hab, .inl rfl⟩, by have := u1.len; have := u2.len; omega, fun o ho1 ho2 ho => ?_⟩
    · rw [u2.other a hab (by have := u1.len; omega)]; exact u1.at_
    · rw [u2.other o ho2 (by have := u1.len; omega), u1.other o ho1 (by omega), x0 o ho]
  | false =>
  cases k2 : (k == 2) with
  | true =>
    obtain ⟨h1, e1⟩ : ∃ h1, h1 = h0.set a (obW (forgetW w x)) := ⟨_, rfl⟩
    have u1 : Upd h0 a (obW (forgetW w x)) h1 := by rw [e1]; exact Upd.set (by omega)
    have b1 : h1[b]? = some (obW w) := by rw [u1.other b hab.symm (by omega)]; exact b0
    have o1 := u1.other h.length (by omega) (by omega)
    rw [o0] at o1
    obtain ⟨h2, e2⟩ : ∃ h2, h2 = h1.set b (obW (forgetW w x)) := ⟨_, rfl⟩
    have u2 : Upd h1 b (obW (forgetW w x)) h2 := by rw [e2]; exact Upd.set (lt_of_get b1)
    have o2 := u2.other h.length (by omega) (by have := u1.len; omega)
    rw [o1] at o2
    have c29 : ∀ fb, ({ pureF := pureOf am, call := callA am N n, N := N, fb := fb } : Env).framed.call 29 [.ptr a 1 0, .int .i64 x] h0 = some (.int .i64 (forgetE w x), h1) := fun fb => by
      rw [e1]; exact set_upd_W pm29 (.inl rfl) rfl rfl a0 (fun h' hh => forget_eq (by omega) hw x hh)
    have c33 : ∀ fb, ({ pureF := pureOf am, call := callA am N n, N := N, fb := fb } : Env).framed.call 33 [.ptr b 1 0, .int .i64 x] h1 = some (.int .i64 (forgetE w x), h2) := fun fb => by
      rw [e2]; exact set_upd_W pm33 (.inl rfl) rfl rfl b1 (fun h' hh => refForget_eq (by omega) hw x hh)
    have z1 : (a == h.length) = false := beq_eq_false_iff_ne.2 (by omega)
    have z2 : (h.length == a) = false := beq_eq_false_iff_ne.2 (by omega)
    have z3 : decide (h.length < h.length + 1) = true := decide_eq_true (by omega)
    simp +contextual -implicitDefEqProofs (maxSteps := 10000000) only [sx_seq, sxL_succ, lpQ_norm, lpQ_exit, lpQ_ret, loopQ_norm, loopQ_exit, loopQ_ret, sqQ_norm, sqQ_ret, sqQ_exit, sx_block, blkQ_norm, blkQ_exit, blkQ_ret, sx_cond, cdP_true, cdP_false, cdP_bool, sx_region, sx_draw, plainD, List.all_cons, List.all_nil, List.isEmpty_nil, List.isEmpty_cons, sxo_nil, sxo_cons, sxo_guard, gdS_bool, gdS_eff, gdS_tup, gdS_sel, gdS_seleff, sxK_def, wcall_some, effP_ret, effP_set, effP_none, effP_ite, wop_call, wop_cv, cvP_func, sx_ret, sx_exit, sx_skip, sx_clr, stays, ↓selV_wt, ↓selV_wf, ↓impB_wt, ↓impB_wf, ↓selV_nor, ↓impB_nor, ↓selV_nt, ↓selV_nf, ↓impB_nt, ↓impB_nf, wantB_true, wantB_false, ↓selV_true, ↓selV_false, ↓selV_and, ↓impB_true, ↓impB_false, ↓impB_and, impB_triv, valOf_some, retH_some, ↓prim_pick, pickO_true, pickO_false, pickO_and, pickO_or, pickO_andr, pickO_orr, pickO_orrn, pickO_orn, pickO_bb, pickAnd_bool, pickOr_bool, ↓selV_nn, ↓impB_nn, Bool.and_assoc, Bool.or_assoc, doOp, ev_fr, ev_cst, put_none, put_fr, get, ins, del, dels, Nat.reduceLT, Nat.reduceEqDiff, ↓reduceIte, reduceCtorEq, ne_eq, not_false_eq_true, implies_true, framed_pureF, framed_fb, framed_N, framed_pure, wop_prim, prim, mkA, V.cells, List.getElem?_cons_zero, List.getElem?_cons_succ, List.set_cons_zero, List.set_cons_succ, Nat.zero_add, Nat.add_zero, Nat.reduceAdd, Nat.reduceSub, Nat.reduceMul, Nat.reduceLeDiff, Nat.not_lt_zero, List.map_cons, List.map_nil, List.cons_append, List.nil_append, loadA, cellsAt, nAg, packA, opt_bind_some, opt_map_some, opt_bind_none, opt_map_none, List.drop, List.take, List.head?, List.length_cons, List.length_nil, binA, unA, eqCells, eqCell, negB, fillA, sr_nil, sr_cons, sr_succ, sr_all, sr_len, storeA, Ob.with, indexedI, V.oneCell, intOf?, retQ_ret, retQ_norm, resA, resA1, fr_getD, packR, sealDepth, shut_bool, shut_int, Option.some.injEq, V.bool.injEq, V.int.injEq, Bool.not_true, Bool.not_false, true_and, and_true, and_self, Bool.and_true, Bool.and_false, Bool.true_and, Bool.false_and, Bool.or_true, Bool.or_false, Bool.true_or, Bool.false_or, Bool.false_eq_true, Int.reduceLT, Int.reduceLE, Int.reduceToNat, Int.reduceNeg, shut_plain, freeL_cons, freeL_nil, free_int, free_bool, free_agg, free_str, free_nils, free_tup, free_sl, true_implies, false_implies, Nat.sub_zero, Int.natCast_nonneg, Int.toNat_natCast, Nat.le_refl, not_true_eq_false, Int.reduceAdd, Int.reduceSub, Int.reduceMul, wrap64, false_and, and_false, cond_true, cond_false, Bool.cond_true_left, Bool.cond_false_right, Int.reduceBNe, Int.reduceBEq, decide_true, decide_false, Int.cast_ofNat_Int, Nat.mul_one, eq_self, Bool.true_eq_false, Bool.not_eq_true, Bool.not_eq_false, deads, List.replicate, argsF, am19, sx_drawd, wpd_nil, wpd_cons, wdK_def, fpOf, fpV, fpCall, Fp.ok, disj, List.contains_cons, List.contains_nil, Nat.reduceBEq, List.all_append, V.objsL, V.objs,  List.getD_cons_zero, List.getD_cons_succ, List.append_nil, app_get0, app_set0, e0', o0, o1, o2, l0, k1, k2, c29, c33, c11, pm11, pm29, pm33, z1, z2, z3, beq_self_eq_true]
    refine ⟨⟨a, _, rfl, forgetW_ok hw x, ?_, u2.at_, hab, .inl rfl⟩, by have := u1.len; have := u2.len; omega, fun o ho1 ho2 ho => ?_⟩
    · rw [u2.other a hab (by have := u1.len; omega)]; exact u1.at_
    · rw [u2.other o ho2 (by have := u1.len; omega), u1.other o ho1 (by omega), x0 o ho]
  | false =>
  cases k3 : (k == 3) with
  | true =>
    have c34 := @clear_eq N n (by omega) w hw a h0 a0
    obtain ⟨h1, e1⟩ : ∃ h1, h1 = h0.set a (obW (clearW w)) := ⟨_, rfl⟩
    have u1 : Upd h0 a (obW (clearW w)) h1 := by rw [e1]; exact Upd.set (by omega)
    rw [← e1] at c34
    have b1 : h1[b]? = some (obW w) := by rw [u1.other b hab.symm (by omega)]; exact b0
    have c35 := @refClear_eq N n (by omega) w hw b h1 b1
    obtain ⟨h2, e2⟩ : ∃ h2, h2 = h1.set b (obW (clearW w)) := ⟨_, rfl⟩
    have u2 : Upd h1 b (obW (clearW w)) h2 := by rw [e2]; exact Upd.set (lt_of_get b1)
    rw [← e2] at c35
    simp +contextual -implicitDefEqProofs (maxSteps := 10000000) only [sx_seq, sxL_succ, lpQ_norm, lpQ_exit, lpQ_ret, loopQ_norm, loopQ_exit, loopQ_ret, sqQ_norm, sqQ_ret, sqQ_exit, sx_block, blkQ_norm, blkQ_exit, blkQ_ret, sx_cond, cdP_true, cdP_false, cdP_bool, sx_region, sx_draw, plainD, List.all_cons, List.all_nil, List.isEmpty_nil, List.isEmpty_cons, sxo_nil, sxo_cons, sxo_guard, gdS_bool, gdS_eff, gdS_tup, gdS_sel, gdS_seleff, sxK_def, wcall_some, effP_ret, effP_set, effP_none, effP_ite, wop_call, wop_cv, cvP_func, sx_ret, sx_exit, sx_skip, sx_clr, stays, ↓selV_wt, ↓selV_wf, ↓impB_wt, ↓impB_wf, ↓selV_nor, ↓impB_nor, ↓selV_nt, ↓selV_nf, ↓impB_nt, ↓impB_nf, wantB_true, wantB_false, ↓selV_true, ↓selV_false, ↓selV_and, ↓impB_true, ↓impB_false, ↓impB_and, impB_triv, valOf_some, retH_some, ↓prim_pick, pickO_true, pickO_false, pickO_and, pickO_or, pickO_andr, pickO_orr, pickO_orrn, pickO_orn, pickO_bb, pickAnd_bool, pickOr_bool, ↓selV_nn, ↓impB_nn, Bool.and_assoc, Bool.or_assoc, doOp, ev_fr, ev_cst, put_none, put_fr, get, ins, del, dels, Nat.reduceLT, Nat.reduceEqDiff, ↓reduceIte, reduceCtorEq, ne_eq, not_false_eq_true, implies_true, framed_pureF, framed_fb, framed_N, framed_pure, wop_prim, prim, mkA, V.cells, List.getElem?_cons_zero, List.getElem?_cons_succ, List.set_cons_zero, List.set_cons_succ, Nat.zero_add, Nat.add_zero, Nat.reduceAdd, Nat.reduceSub, Nat.reduceMul, Nat.reduceLeDiff, Nat.not_lt_zero, List.map_cons, List.map_nil, List.cons_append, List.nil_append, loadA, cellsAt, nAg, packA, opt_bind_some, opt_map_some, opt_bind_none, opt_map_none, List.drop, List.take, List.head?, List.length_cons, List.length_nil, binA, unA, eqCells, eqCell, negB, fillA, sr_nil, sr_cons, sr_succ, sr_all, sr_len, storeA, Ob.with, indexedI, V.oneCell, intOf?, retQ_ret, retQ_norm, resA, resA1, fr_getD, packR, sealDepth, shut_bool, shut_int, Option.some.injEq, V.bool.injEq, V.int.injEq, Bool.not_true, Bool.not_false, true_and, and_true, and_self, Bool.and_true, Bool.and_false, Bool.true_and, Bool.false_and, Bool.or_true, Bool.or_false, Bool.true_or, Bool.false_or, Bool.false_eq_true, Int.reduceLT, Int.reduceLE, Int.reduceToNat, Int.reduceNeg, shut_plain, freeL_cons, freeL_nil, free_int, free_bool, free_agg, free_str, free_nils, free_tup, free_sl, true_implies, false_implies, Nat.sub_zero, Int.natCast_nonneg, Int.toNat_natCast, Nat.le_refl, not_true_eq_false, Int.reduceAdd, Int.reduceSub, Int.reduceMul, wrap64, false_and, and_false, cond_true, cond_false, Bool.cond_true_left, Bool.cond_false_right, Int.reduceBNe, Int.reduceBEq, decide_true, decide_false, Int.cast_ofNat_Int, Nat.mul_one, eq_self, Bool.true_eq_false, Bool.not_eq_true, Bool.not_eq_false, deads, List.replicate, argsF, am19, app_get0, app_set0, e0', o0, k1, k2, k3, c34, c35, c11, pm11, beq_self_eq_true]
    refine ⟨⟨a, _, rfl, clearW_ok hw, ?_, u2.at_, hab, .inl rfl⟩, by have := u1.len; have := u2.len; omega, fun o ho1 ho2 ho => ?_⟩
    · rw [u2.other a hab (by have := u1.len; omega)]; exact u1.at_
    · rw [u2.other o ho2 (by have := u1.len; omega), u1.other o ho1 (by omega), x0 o ho]
  | false =>
  cases k4 : (k == 4) with
  | true =>
    have c36 := @copy_eq N n (by omega) w hw a h0 a0
    obtain ⟨h1, e1⟩ : ∃ h1, h1 = h0 ++ [obW w] := ⟨_, rfl⟩
    have x1 : ∀ o, o < h0.length → h1[o]? = h0[o]? := fun o ho => by rw [e1, List.getElem?_append_left ho]
    have d1 : h1[h0.length]? = some (obW w) := by rw [e1, app_get0]; rfl
    have a1 : h1[a]? = some (obW w) := by rw [x1 a (by omega)]; exact a0
    have l1 : h1.length = h0.length + 1 := by rw [e1]; simp
    rw [← e1] at c36
    have c21 := @same_eq N n (by omega) w w hw hw h0.length a h1 d1 a1
    rw [decide_eq_true rfl] at c21
    obtain ⟨h2, c16, u2⟩ := @look_upd N n (by omega) w hw 0 0 777 0 a h1 a1
    simp +contextual -implicitDefEqProofs (maxSteps := 10000000) only [sx_seq, sxL_succ, lpQ_norm, lpQ_exit, lpQ_ret, loopQ_norm, loopQ_exit, loopQ_ret, sqQ_norm, sqQ_ret, sqQ_exit, sx_block, blkQ_norm, blkQ_exit, blkQ_ret, sx_cond, cdP_true, cdP_false, cdP_bool, sx_region, sx_draw, plainD, List.all_cons, List.all_nil, List.isEmpty_nil, List.isEmpty_cons, sxo_nil, sxo_cons, sxo_guard, gdS_bool, gdS_eff, gdS_tup, gdS_sel, gdS_seleff, sxK_def, wcall_some, effP_ret, effP_set, effP_none, effP_ite, wop_call, wop_cv, cvP_func, sx_ret, sx_exit, sx_skip, sx_clr, stays, ↓selV_wt, ↓selV_wf, ↓impB_wt, ↓impB_wf, ↓selV_nor, ↓impB_nor, ↓selV_nt, ↓selV_nf, ↓impB_nt, ↓impB_nf, wantB_true, wantB_false, ↓selV_true, ↓selV_false, ↓selV_and, ↓impB_true, ↓impB_false, ↓impB_and, impB_triv, valOf_some, retH_some, ↓prim_pick, pickO_true, pickO_false, pickO_and, pickO_or, pickO_andr, pickO_orr, pickO_orrn, pickO_orn, pickO_bb, pickAnd_bool, pickOr_bool, ↓selV_nn, ↓impB_nn, Bool.and_assoc, Bool.or_assoc, doOp, ev_fr, ev_cst, put_none, put_fr, get, ins, del, dels, Nat.reduceLT, Nat.reduceEqDiff, ↓reduceIte, reduceCtorEq, ne_eq, not_false_eq_true, implies_true, framed_pureF, framed_fb, framed_N, framed_pure, wop_prim, prim, mkA, V.cells, List.getElem?_cons_zero, List.getElem?_cons_succ, List.set_cons_zero, List.set_cons_succ, Nat.zero_add, Nat.add_zero, Nat.reduceAdd, Nat.reduceSub, Nat.reduceMul, Nat.reduceLeDiff, Nat.not_lt_zero, List.map_cons, List.map_nil, List.cons_append, List.nil_append, loadA, cellsAt, nAg, packA, opt_bind_some, opt_map_some, opt_bind_none, opt_map_none, List.drop, List.take, List.head?, List.length_cons, List.length_nil, binA, unA, eqCells, eqCell, negB, fillA, sr_nil, sr_cons, sr_succ, sr_all, sr_len, storeA, Ob.with, indexedI, V.oneCell, intOf?, retQ_ret, retQ_norm, resA, resA1, fr_getD, packR, sealDepth, shut_bool, shut_int, Option.some.injEq, V.bool.injEq, V.int.injEq, Bool.not_true, Bool.not_false, true_and, and_true, and_self, Bool.and_true, Bool.and_false, Bool.true_and, Bool.false_and, Bool.or_true, Bool.or_false, Bool.true_or, Bool.false_or, Bool.false_eq_true, Int.reduceLT, Int.reduceLE, Int.reduceToNat, Int.reduceNeg, shut_plain, freeL_cons, freeL_nil, free_int, free_bool, free_agg, free_str, free_nils, free_tup, free_sl, true_implies, false_implies, Nat.sub_zero, Int.natCast_nonneg, Int.toNat_natCast, Nat.le_refl, not_true_eq_false, Int.reduceAdd, Int.reduceSub, Int.reduceMul, wrap64, false_and, and_false, cond_true, cond_false, Bool.cond_true_left, Bool.cond_false_right, Int.reduceBNe, Int.reduceBEq, decide_true, decide_false, Int.cast_ofNat_Int, Nat.mul_one, eq_self, Bool.true_eq_false, Bool.not_eq_true, Bool.not_eq_false, deads, List.replicate, argsF, am19, app_get0, app_set0, e0', o0, k1, k2, k3, k4, c36, c21, c16, c11, pm11, pm21, isNil, beq_self_eq_true]
    refine ⟨⟨h0.length, w, rfl, hw, ?_, ?_, by omega, .inr (by omega)⟩, by have := u2.len; omega, fun o ho1 ho2 ho => ?_⟩
    · rw [u2.other _ (by omega) (by omega)]; exact d1
    · rw [u2.other _ hab.symm (by omega), x1 b (by omega)]; exact b0
    · rw [u2.other o ho1 (by omega), x1 o (by omega), x0 o ho]
  | false =>
    simp +contextual -implicitDefEqProofs (maxSteps := 10000000) only [sx_seq, sxL_succ, lpQ_norm, lpQ_exit, lpQ_ret, loopQ_norm, loopQ_exit, loopQ_ret, sqQ_norm, sqQ_ret, sqQ_exit, sx_block, blkQ_norm, blkQ_exit, blkQ_ret, sx_cond, cdP_true, cdP_false, cdP_bool, sx_region, sx_draw, plainD, List.all_cons, List.all_nil, List.isEmpty_nil, List.isEmpty_cons, sxo_nil, sxo_cons, sxo_guard, gdS_bool, gdS_eff, gdS_tup, gdS_sel, gdS_seleff, sxK_def, wcall_some, effP_ret, effP_set, effP_none, effP_ite, wop_call, wop_cv, cvP_func, sx_ret, sx_exit, sx_skip, sx_clr, stays, ↓selV_wt, ↓selV_wf, ↓impB_wt, ↓impB_wf, ↓selV_nor, ↓impB_nor, ↓selV_nt, ↓selV_nf, ↓impB_nt, ↓impB_nf, wantB_true, wantB_false, ↓selV_true, ↓selV_false, ↓selV_and, ↓impB_true, ↓impB_false, ↓impB_and, impB_triv, valOf_some, retH_some, ↓prim_pick, pickO_true, pickO_false, pickO_and, pickO_or, pickO_andr, pickO_orr, pickO_orrn, pickO_orn, pickO_bb, pickAnd_bool, pickOr_bool, ↓selV_nn, ↓impB_nn, Bool.and_assoc, Bool.or_assoc, doOp, ev_fr, ev_cst, put_none, put_fr, get, ins, del, dels, Nat.reduceLT, Nat.reduceEqDiff, ↓reduceIte, reduceCtorEq, ne_eq, not_false_eq_true, implies_true, framed_pureF, framed_fb, framed_N, framed_pure, wop_prim, prim, mkA, V.cells, List.getElem?_cons_zero, List.getElem?_cons_succ, List.set_cons_zero, List.set_cons_succ, Nat.zero_add, Nat.add_zero, Nat.reduceAdd, Nat.reduceSub, Nat.reduceMul, Nat.reduceLeDiff, Nat.not_lt_zero, List.map_cons, List.map_nil, List.cons_append, List.nil_append, loadA, cellsAt, nAg, packA, opt_bind_some, opt_map_some, opt_bind_none, opt_map_none, List.drop, List.take, List.head?, List.length_cons, List.length_nil, binA, unA, eqCells, eqCell, negB, fillA, sr_nil, sr_cons, sr_succ, sr_all, sr_len, storeA, Ob.with, indexedI, V.oneCell, intOf?, retQ_ret, retQ_norm, resA, resA1, fr_getD, packR, sealDepth, shut_bool, shut_int, Option.some.injEq, V.bool.injEq, V.int.injEq, Bool.not_true, Bool.not_false, true_and, and_true, and_self, Bool.and_true, Bool.and_false, Bool.true_and, Bool.false_and, Bool.or_true, Bool.or_false, Bool.true_or, Bool.false_or, Bool.false_eq_true, Int.reduceLT, Int.reduceLE, Int.reduceToNat, Int.reduceNeg, shut_plain, freeL_cons, freeL_nil, free_int, free_bool, free_agg, free_str, free_nils, free_tup, free_sl, true_implies, false_implies, Nat.sub_zero, Int.natCast_nonneg, Int.toNat_natCast, Nat.le_refl, not_true_eq_false, Int.reduceAdd, Int.reduceSub, Int.reduceMul, wrap64, false_and, and_false, cond_true, cond_false, Bool.cond_true_left, Bool.cond_false_right, Int.reduceBNe, Int.reduceBEq, decide_true, decide_false, Int.cast_ofNat_Int, Nat.mul_one, eq_self, Bool.true_eq_false, Bool.not_eq_true, Bool.not_eq_false, deads, List.replicate, argsF, am19, app_get0, app_set0, e0', o0, k1, k2, k3, k4]
    exact ⟨⟨a, w, rfl, hw, a0, b0, hab, .inl rfl⟩, by omega, fun o ho1 ho2 ho => x0 o ho⟩
end Go.Am.T
