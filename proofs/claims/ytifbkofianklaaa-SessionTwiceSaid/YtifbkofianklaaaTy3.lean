import Derived.Test.YtifbkofianklaaaTy2
set_option linter.unusedVariables false
set_option linter.unusedSimpArgs false
set_option maxRecDepth 10000
namespace Go.Am.T
attribute [local congr] selV_congr impB_congr

/-- A framed call that looks at no object, and changes none. -/
theorem frame_free {m : FMode} {pureF : FuncId → FMode} {call : Caller} {f : FuncId} {args : List V} {h : Heap} {v : V} (hm : pureF f = m) (hk : m = .keep ∨ m = .auto) (hR : V.objsL args = [])
    (hc : ∀ h, call f args h = some (v, h)) (hv : v.objs = []) (hy : f ≠ YLD := by decide) : frameC pureF call f args h = some (v, h) := by
  have hlen : (keepOnly [] h).length = h.length := keepOnly_length _ _
  have c1 : closedIn [] h.length (keepOnly [] h) = true := closedIn_of fun o y hy hi => by
    have : o < h.length := by rw [← hlen]; exact (List.getElem?_eq_some_iff.1 hy).1
    simp [inside] at hi
    omega
  have key : mergeH [] h (keepOnly [] h) = h := by
    apply List.ext_getElem?
    intro o
    rw [mergeH_get]
    rcases Nat.lt_or_ge o h.length with ho | ho
    · rw [keepOnly_get, List.getElem?_eq_getElem ho]
      simp [inside, Nat.not_le.2 ho, List.getD_eq_getElem?_getD, ho]
    · rw [List.getElem?_eq_none (by omega), List.getElem?_eq_none ho]; rfl
  unfold frameC
  rw [if_neg hy, hm]
  rcases hk with rfl | rfl <;>
  · simp only [hR, c1, hc, hlen, hv, List.all_nil, Nat.le_refl, decide_true, Bool.and_self, ↓reduceIte, key]

theorem cs_len {s : Ses} {W : V} : (s.cs W).length = 9 := rfl

/-- What a call leaves of the memory beyond one session. -/
structure Beyond (H H' : Heap) (a : Nat) (R : List Nat) (R' : List Nat) : Prop where
  len : H.length ≤ H'.length
  oth : ∀ o, o < H.length → o ≠ a → o ∉ R → H'[o]? = H[o]?
  new : ∀ o ∈ R', o ∈ R ∨ H.length ≤ o

set_option maxHeartbeats 1000000 in
theorem send_long {N n : Nat} (hn : 2 ≤ n) {a : Nat} {s : Ses} {W : V} {L : List V} {R : List Nat} {h : Heap} (ha : SAt h a s L W R) {l : List Int} {b : V} (hb : By l b) (hl : 256 < l.length) :
    callA am N n 10 [.ptr a 1 0, b] h = some (.int .i64 3, h ++ [⟨0, .dead⟩]) := by
  obtain ⟨n, rfl⟩ : ∃ m, n = m + 1 := ⟨n - 1, by omega⟩
  have hal := lt_of_get ha.ob
  have ha0 : SAt (h ++ [⟨0, .dead⟩]) a s L W R := ⟨by rw [List.getElem?_append_left hal]; exact ha.ob, ha.row.keep (fun o ho => List.getElem?_append_left (ha.row.lt o ho)), ha.bods, ha.apart⟩
  have c22 := @is_spec N n (by omega) _ _ _ _ _ _ ha0
  have hlen := hb.len
  have hns := hb.nstr
  have g1 : decide ((l.length : Int) > 256) = true := decide_eq_true (by omega)
  refine call_keep_eq at10 rfl rfl (by decide) (sx_wp ?_)
  simp +contextual -implicitDefEqProofs (maxSteps := 10000000) only [sx_seq, sxL_succ, lpQ_norm, lpQ_exit, lpQ_ret, loopQ_norm, loopQ_exit, loopQ_ret, sqQ_norm, sqQ_ret, sqQ_exit, sx_block, blkQ_norm, blkQ_exit, blkQ_ret, sx_cond, cdP_true, cdP_false, cdP_bool, sx_region, sx_draw, plainD, List.all_cons, List.all_nil, List.isEmpty_nil, List.isEmpty_cons, sxo_nil, sxo_cons, sxo_guard, gdS_bool, gdS_eff, gdS_tup, gdS_sel, gdS_seleff, sxK_def, wcall_some, effP_ret, effP_set, effP_none, effP_ite, wop_call, wop_cv, cvP_func, sx_ret, sx_exit, sx_skip, sx_clr, stays, ↓selV_wt, ↓selV_wf, ↓impB_wt, ↓impB_wf, ↓selV_nor, ↓impB_nor, ↓selV_nt, ↓selV_nf, ↓impB_nt, ↓impB_nf, wantB_true, wantB_false, ↓selV_true, ↓selV_false, ↓selV_and, ↓impB_true, ↓impB_false, ↓impB_and, impB_triv, valOf_some, retH_some, ↓prim_pick, pickO_true, pickO_false, pickO_and, pickO_or, pickO_andr, pickO_orr, pickO_orrn, pickO_orn, pickO_bb, pickAnd_bool, pickOr_bool, ↓selV_nn, ↓impB_nn, Bool.and_assoc, Bool.or_assoc, doOp, ev_fr, ev_cst, put_none, put_fr, get, ins, del, dels, Nat.reduceLT, Nat.reduceEqDiff, ↓reduceIte, reduceCtorEq, ne_eq, not_false_eq_true, implies_true, framed_pureF, framed_fb, framed_N, framed_pure, wop_prim, prim, YLD, mkA, V.cells, List.getElem?_cons_zero, List.getElem?_cons_succ, List.set_cons_zero, List.set_cons_succ, Nat.zero_add, Nat.add_zero, Nat.reduceAdd, Nat.reduceSub, Nat.reduceMul, Nat.reduceLeDiff, Nat.not_lt_zero, List.map_cons, List.map_nil, List.cons_append, List.nil_append, loadA, cellsAt, nAg, packA, opt_bind_some, opt_map_some, opt_bind_none, opt_map_none, List.drop, List.take, List.head?, List.length_cons, List.length_nil, binA, unA, eqCells, eqCell, negB, fillA, sr_nil, sr_cons, sr_succ, sr_all, sr_len, storeA, Ob.with, indexedI, V.oneCell, intOf?, retQ_ret, retQ_norm, resA, resA1, fr_getD, packR, sealDepth, shut_bool, shut_int, Option.some.injEq, V.bool.injEq, V.int.injEq, Bool.not_true, Bool.not_false, true_and, and_true, and_self, Bool.and_true, Bool.and_false, Bool.true_and, Bool.false_and, Bool.or_true, Bool.or_false, Bool.true_or, Bool.false_or, Bool.false_eq_true, Int.reduceLT, Int.reduceLE, Int.reduceToNat, Int.reduceNeg, shut_plain, freeL_cons, freeL_nil, free_int, free_bool, free_agg, free_str, free_nils, free_tup, free_sl, true_implies, false_implies, Nat.sub_zero, Int.natCast_nonneg, Int.toNat_natCast, Nat.le_refl, not_true_eq_false, Int.reduceAdd, Int.reduceSub, Int.reduceMul, wrap64, false_and, and_false, cond_true, cond_false, Bool.cond_true_left, Bool.cond_false_right, Int.reduceBNe, Int.reduceBEq, decide_true, decide_false, Int.cast_ofNat_Int, Nat.mul_one, eq_self, Bool.true_eq_false, Bool.not_eq_true, Bool.not_eq_false, deads, List.replicate, argsF, am10, c22, hlen, g1]

theorem send_spec {N n : Nat} (hn : 2 ≤ n) {a : Nat} {s : Ses} {W : V} {L : List V} {R : List Nat} {h : Heap} (ha : SAt h a s L W R) {l : List Int} {b : V} (hb : By l b) (hl : l.length ≤ 256) (hL : L.length ≤ 1000) :
    ∃ v' h', callA am N n 10 [.ptr a 1 0, b] h = some (v', h') ∧ v' = .int .i64 0 ∧ ∃ b' W' R', By l b' ∧ SAt h' a s (L ++ [b']) W' R' ∧ Beyond h h' a R R' := by
  obtain ⟨n, rfl⟩ : ∃ m, n = m + 1 := ⟨n - 1, by omega⟩
  have hal := lt_of_get ha.ob
  obtain ⟨h0, e0⟩ : ∃ h0, h0 = h ++ [(⟨0, .dead⟩ : Ob)] := ⟨_, rfl⟩
  have x0 : ∀ o, o < h.length → h0[o]? = h[o]? := fun o ho => by rw [e0, List.getElem?_append_left ho]
  have l0 : h0.length = h.length + 1 := by rw [e0]; simp
  have d0 : h0[h.length]? = some ⟨0, .dead⟩ := by rw [e0, app_get0]; rfl
  have ha0 : SAt h0 a s L W R := ⟨by rw [x0 a hal]; exact ha.ob, ha.row.keep (fun o ho => x0 o (ha.row.lt o ho)), ha.bods, ha.apart⟩
  have e0' := e0.symm
  have c22 := @is_spec N n (by omega) _ _ _ _ _ _ ha0
  have hlen := hb.len
  have hns := hb.nstr
  have g1 : decide ((l.length : Int) > 256) = false := decide_eq_false (by omega)
  obtain ⟨b', hb', c23⟩ := @clone_spec N n (by omega) l b hb (by omega)
  have hobb : b.objs = [] := hb.objs
  have f23 : ∀ fb (h : Heap), ({ pureF := pureOf am, call := callA am N n, N := N, fb := fb } : Env).framed.call 23 [b] h = some (b', h) := fun fb h =>
    frame_free pm23 (.inr rfl) (by simp [V.objsL, hobb]) c23 hb'.objs
  have k1 := hb'.cells
  have k2 := hb'.one
  have k3 := hb'.njunk
  have k4 := hb'.nagg
  have k5 := hb'.ntup
  obtain ⟨o1, y, W', hA, hrow, ho1, hol⟩ := ha0.row.append d0 k1 k2 hL
  obtain ⟨w1, w2, w3, w4, w5, w6⟩ := hrow.shape
  obtain ⟨v1, v2, v3, v4, v5, v6⟩ := ha0.row.shape
  have hne : o1 ≠ a := by
    rcases ho1 with rfl | ho1
    · omega
    · intro e; subst e; exact ha.apart ho1
  have g2 : (h0.set o1 y)[a]? = some ⟨1, .var (s.cs W)⟩ := by rw [List.getElem?_set_ne hne]; exact ha0.ob
  have oa := ha0.ob
  have r1 : List.range 1 = [0] := rfl
  have q1 : List.take 1 (List.drop 4 (s.cs W)) = [W] := rfl
  have q2 : setRange (s.cs W) 4 [W'] = s.cs W' := rfl
  have q3 := @cs_len s W
  have wr : wrapV [b'] = b' := rfl
  have hWobj := ha0.row.objs
  refine call_keep at10 rfl rfl (by decide) (sx_wp ?_)
  simp +contextual -implicitDefEqProofs (maxSteps := 10000000) only [sx_seq, sxL_succ, lpQ_norm, lpQ_exit, lpQ_ret, loopQ_norm, loopQ_exit, loopQ_ret, sqQ_norm, sqQ_ret, sqQ_exit, sx_block, blkQ_norm, blkQ_exit, blkQ_ret, sx_cond, cdP_true, cdP_false, cdP_bool, sx_region, sx_draw, plainD, List.all_cons, List.all_nil, List.isEmpty_nil, List.isEmpty_cons, sxo_nil, sxo_cons, sxo_guard, gdS_bool, gdS_eff, gdS_tup, gdS_sel, gdS_seleff, sxK_def, wcall_some, effP_ret, effP_set, effP_none, effP_ite, wop_call, wop_cv, cvP_func, sx_ret, sx_exit, sx_skip, sx_clr, stays, ↓selV_wt, ↓selV_wf, ↓impB_wt, ↓impB_wf, ↓selV_nor, ↓impB_nor, ↓selV_nt, ↓selV_nf, ↓impB_nt, ↓impB_nf, wantB_true, wantB_false, ↓selV_true, ↓selV_false, ↓selV_and, ↓impB_true, ↓impB_false, ↓impB_and, impB_triv, valOf_some, retH_some, ↓prim_pick, pickO_true, pickO_false, pickO_and, pickO_or, pickO_andr, pickO_orr, pickO_orrn, pickO_orn, pickO_bb, pickAnd_bool, pickOr_bool, ↓selV_nn, ↓impB_nn, Bool.and_assoc, Bool.or_assoc, doOp, ev_fr, ev_cst, put_none, put_fr, get, ins, del, dels, Nat.reduceLT, Nat.reduceEqDiff, ↓reduceIte, reduceCtorEq, ne_eq, not_false_eq_true, implies_true, framed_pureF, framed_fb, framed_N, framed_pure, wop_prim, prim, YLD, mkA, V.cells, List.getElem?_cons_zero, List.getElem?_cons_succ, List.set_cons_zero, List.set_cons_succ, Nat.zero_add, Nat.add_zero, Nat.reduceAdd, Nat.reduceSub, Nat.reduceMul, Nat.reduceLeDiff, Nat.not_lt_zero, List.map_cons, List.map_nil, List.cons_append, List.nil_append, loadA, cellsAt, nAg, packA, opt_bind_some, opt_map_some, opt_bind_none, opt_map_none, List.drop, List.take, List.head?, List.length_cons, List.length_nil, binA, unA, eqCells, eqCell, negB, fillA, sr_nil, sr_cons, sr_succ, sr_all, sr_len, storeA, Ob.with, indexedI, V.oneCell, intOf?, retQ_ret, retQ_norm, resA, resA1, fr_getD, packR, sealDepth, shut_bool, shut_int, Option.some.injEq, V.bool.injEq, V.int.injEq, Bool.not_true, Bool.not_false, true_and, and_true, and_self, Bool.and_true, Bool.and_false, Bool.true_and, Bool.false_and, Bool.or_true, Bool.or_false, Bool.true_or, Bool.false_or, Bool.false_eq_true, Int.reduceLT, Int.reduceLE, Int.reduceToNat, Int.reduceNeg, shut_plain, freeL_cons, freeL_nil, free_int, free_bool, free_agg, free_str, free_nils, free_tup, free_sl, true_implies, false_implies, Nat.sub_zero, Int.natCast_nonneg, Int.toNat_natCast, Nat.le_refl, not_true_eq_false, Int.reduceAdd, Int.reduceSub, Int.reduceMul, wrap64, false_and, and_false, cond_true, cond_false, Bool.cond_true_left, Bool.cond_false_right, Int.reduceBNe, Int.reduceBEq, decide_true, decide_false, Int.cast_ofNat_Int, Nat.mul_one, eq_self, Bool.true_eq_false, Bool.not_eq_true, Bool.not_eq_false, deads, List.replicate, argsF, am10, sx_drawd, wpd_nil, wpd_cons, wdK_def, fpOf, fpV, fpCall, Fp.ok, disj, List.contains_cons, List.contains_nil, Nat.reduceBEq, List.all_append, V.objsL, V.objs,  List.getD_cons_zero, List.getD_cons_succ, List.append_nil, e0', c22, hlen, g1, f23, isNil, oa, q1, k1, k2, r1, wr, hA, g2, w1, w2, q2, q3, hobb, pm23, -List.drop, -List.take]
  refine ⟨by simp; omega, b', W', [o1], hb', ⟨?_, ?_, ?_, ?_⟩, ?_, ?_, ?_⟩
  · rw [List.getElem?_set_self (by simp; omega)]
  · refine hrow.keep (fun o ho => ?_)
    obtain rfl : o = o1 := by simpa using ho
    rw [List.getElem?_set_ne (Ne.symm hne)]
  · intro c hc
    rcases List.mem_append.1 hc with hc | hc
    · exact ha.bods c hc
    · obtain rfl : c = b' := by simpa using hc
      exact ⟨l, hb', hl⟩
  · simpa using Ne.symm hne
  · simp; omega
  · intro o ho hoa hoR
    rw [List.getElem?_set_ne (Ne.symm hoa), List.getElem?_set_ne, x0 o ho]
    rintro rfl
    rcases ho1 with rfl | ho1
    · omega
    · exact hoR ho1
  · intro o ho
    obtain rfl : o = o1 := by simpa using ho
    rcases ho1 with rfl | ho1
    · exact .inr (Nat.le_refl _)
    · exact .inl ho1

end Go.Am.T
