import Derived.Test.YtmaijpjjopechaaK2
set_option linter.unusedVariables false
set_option linter.unusedSimpArgs false
set_option maxRecDepth 10000
namespace Go.Am.T
attribute [local congr] selV_congr impB_congr
def Dv.rl (D : Dv) : Int := bif D.cut then D.left else -1
def Dv.eps (D : Dv) : List Int := D.E.take D.n
def Dv.rcs (D : Dv) (X Y : V) : List V := [X, Y, .int .i64 D.rl, .bool D.lost, .int .i64 D.done]
structure RAt (H : Heap) (r s e : Nat) (D : Dv) : Prop where
  ok : D.Ok
  ob : ∃ ver cap ver' cap', H[r]? = some ⟨1, .var (D.rcs (.view s ver 0 D.S.length 64 cap) (.view e ver' 0 D.n 1 cap'))⟩ ∧ H[s]? = some ⟨ver, .arr (D.S.flatten.map (V.int .u8))⟩ ∧ H[e]? = some ⟨ver', .arr (D.eps.map (V.int .i64))⟩
  rs : r ≠ s
  re : r ≠ e
  se : s ≠ e
theorem eps_len {D : Dv} (h : D.Ok) : D.eps.length = D.n := by
  have := h.e8
  have := h.n8
  simp [Dv.eps]; omega
theorem eps_at {D : Dv} (h : D.Ok) {i : Nat} (hi : i < D.n) : D.eps[i]? = some (D.E.getD i 0) := by
  have := h.e8
  have := h.n8
  have hl : i < D.E.length := by omega
  rw [Dv.eps, List.getElem?_take, if_pos hi, List.getD_eq_getElem?_getD, List.getElem?_eq_getElem hl]; rfl
def Dv.rseen (D : Dv) (cap cap' : Option Nat) : V := .iptr (D.rcs (.sl (D.S.map secV) 64 cap) (.sl (D.eps.map (V.int .i64)) 1 cap')) 0
theorem one_pieces (k : IntKind) (l : List Int) : (List.range l.length).map (fun i => wrapV (((l.map (V.int k)).drop (i * 1)).take 1)) = l.map (V.int k) := by
  refine List.ext_getElem? fun i => ?_
  rw [List.getElem?_map, List.getElem?_map]
  by_cases hi : i < l.length
  · rw [List.getElem?_range hi, List.getElem?_eq_getElem hi]
    simp only [Option.map_some, Nat.mul_one]
    rw [← List.map_drop, List.drop_eq_getElem_cons hi]
    rfl
  · rw [List.getElem?_eq_none (by simpa using hi), List.getElem?_eq_none (by omega)]; rfl
theorem shut_ints {H : Heap} {o ver : Nat} {k : IntKind} {l : List Int} {cap : Option Nat} (ho : H[o]? = some ⟨ver, .arr (l.map (V.int k))⟩) (d : Nat) :
    V.shut (fun o => H[o]?) (d + 2) (.view o ver 0 l.length 1 cap) = some (.sl (l.map (V.int k)) 1 cap) := by
  have hl : loadA (fun o => H[o]?) (l.length * 1) (.ptr o ver 0) = some (l.map (V.int k)) := by
    simp only [loadA, cellsAt, ho, ↓reduceIte, Nat.zero_add, List.length_map, Nat.mul_one, Nat.le_refl, List.drop_zero]
    rw [List.take_of_length_le (by rw [List.length_map]; exact Nat.le_refl _)]
  have hm : (l.map (V.int k)).mapM (V.shut (fun o => H[o]?) (d + 1)) = some (l.map (V.int k)) := mapM_self fun x hx => by
    obtain ⟨y, -, rfl⟩ := List.mem_map.1 hx
    exact shut_plain rfl
  show (if V.free (.view o ver 0 l.length 1 cap) = true then _ else _) = _
  rw [if_neg (by simp [V.free])]
  simp only [hl, hm, ints_one, ↓reduceIte, one_pieces k l]
theorem RAt.shut {H : Heap} {r s e : Nat} {D : Dv} (h : RAt H r s e D) : ∃ cap cap', V.shut (fun o => H[o]?) sealDepth (.ptr r 1 0) = some (D.rseen cap cap') := by
  obtain ⟨ver, cap, ver', cap', hr, hs, he⟩ := h.ob
  refine ⟨cap, cap', ?_⟩
  have e : V.shut (fun o => H[o]?) sealDepth (.ptr r 1 0) = match cellsAt (fun o => H[o]?) r 1 with
      | some all => (all.mapM (V.shut (fun o => H[o]?) 63)).map fun cs => .iptr cs 0
      | none => none := rfl
  have q := shut_ints (cap := cap') he 61
  rw [eps_len h.ok] at q
  have hp : ∀ v : V, v.free = true → V.shut (fun o => H[o]?) 63 v = some v := fun v hv => shut_plain (d := 62) hv
  rw [e]
  simp only [cellsAt, hr, ↓reduceIte, Dv.rcs, List.mapM_cons, List.mapM_nil, shut_secs h.ok.sec hs 61, q, hp (.int .i64 _) rfl, hp (.bool _) rfl, Option.bind_eq_bind, Option.bind_some, Option.pure_def, Option.map_some]
  rfl
def RLooks (H : Heap) (x : V) (D : Dv) : Prop := D.Ok ∧ ∃ cap cap', V.shut (fun o => H[o]?) sealDepth x = some (D.rseen cap cap')
theorem RAt.looks {H : Heap} {r s e : Nat} {D : Dv} (h : RAt H r s e D) : RLooks H (.ptr r 1 0) D := ⟨h.ok, h.shut⟩
theorem rlook_args2 {H : Heap} {x : V} {D : Dv} (h : RLooks H x D) (i : Int) : ∃ cap cap', [x, .int .i64 i].mapM (V.shut (fun o => H[o]?) sealDepth) = some [D.rseen cap cap', .int .i64 i] := by
  obtain ⟨-, cap, cap', e⟩ := h
  exact ⟨cap, cap', by rw [List.mapM_cons, e]; rfl⟩
theorem rlook_args3 {H : Heap} {x : V} {D : Dv} (h : RLooks H x D) (i j : Int) : ∃ cap cap', [x, .int .i64 i, .int .i64 j].mapM (V.shut (fun o => H[o]?) sealDepth) = some [D.rseen cap cap', .int .i64 i, .int .i64 j] := by
  obtain ⟨-, cap, cap', e⟩ := h
  exact ⟨cap, cap', by rw [List.mapM_cons, e]; rfl⟩
theorem ep_at {D : Dv} (h : D.Ok) {i : Int} (h0 : 0 ≤ i) (h1 : i < (D.n : Int)) (cap : Option Nat) : iaddrSA 1 (.sl (D.eps.map (V.int .i64)) 1 cap) (.int .i64 i) = some (.ret (.iptr [.int .i64 (D.ep i)] 0)) := by
  have hl : (D.eps.map (V.int .i64)).length = D.n := by rw [List.length_map, eps_len h]
  have hlt : i.toNat < D.n := by omega
  have q : (D.eps.map (V.int .i64))[i.toNat]? = some (.int .i64 (D.ep i)) := by rw [List.getElem?_map, eps_at h hlt]; rfl
  simp only [iaddrSA, ↓reduceIte, indexedI, hl, h0, h1, Option.bind_some, q, Option.map_some]
  rfl
theorem repoch_spec {N n : Nat} (hn : 1 ≤ n) {H : Heap} {x : V} {D : Dv} (h : RLooks H x D) (i : Int) : callA am N n 37 [x, .int .i64 i] H = some (.tup (bif D.isNode i then [.int .i64 (D.ep i), .int .i64 0] else [.int .i64 0, .int .i64 2]), H) := by
  obtain ⟨n, rfl⟩ : ∃ m, n = m + 1 := ⟨n - 1, by omega⟩
  obtain ⟨cap, cap', ha⟩ := rlook_args2 h i
  have ok := h.1
  have hL : (D.eps.map (V.int .i64)).length = D.n := by rw [List.length_map, eps_len ok]
  refine call_look at37 rfl rfl (by decide) ha (sx_wp ?_)
  unfold Dv.rseen Dv.rcs at *
  by_cases g1 : i < 0
  · have g : decide (i < 0) = true := decide_eq_true g1
    have g2 : D.isNode i = false := by simp [Dv.isNode]; omega
    simp +contextual -implicitDefEqProofs (maxSteps := 10000000) only [sx_seq, sxL_succ, lpQ_norm, lpQ_exit, lpQ_ret, loopQ_norm, loopQ_exit, loopQ_ret, sqQ_norm, sqQ_ret, sqQ_exit, sx_block, blkQ_norm, blkQ_exit, blkQ_ret, sx_cond, cdP_true, cdP_false, cdP_bool, sx_region, sx_draw, plainD, List.all_cons, List.all_nil, List.isEmpty_nil, List.isEmpty_cons, sxo_nil, sxo_cons, sxo_guard, gdS_bool, gdS_eff, gdS_tup, gdS_sel, gdS_seleff, sxK_def, wcall_some, effP_ret, effP_set, effP_none, effP_ite, wop_call, wop_cv, cvP_func, sx_ret, sx_exit, sx_skip, sx_clr, sx_fresh, stays, ↓selV_wt, ↓selV_wf, ↓impB_wt, ↓impB_wf, ↓selV_nor, ↓impB_nor, ↓selV_nt, ↓selV_nf, ↓impB_nt, ↓impB_nf, wantB_true, wantB_false, ↓selV_true, ↓selV_false, ↓selV_and, ↓impB_true, ↓impB_false, ↓impB_and, impB_triv, valOf_some, retH_some, ↓prim_pick, pickO_true, pickO_false, pickO_and, pickO_or, pickO_andr, pickO_orr, pickO_orrn, pickO_orn, pickO_bb, pickAnd_bool, pickOr_bool, ↓selV_nn, ↓impB_nn, Bool.and_assoc, Bool.or_assoc, doOp, ev_fr, ev_cst, put_none, put_fr, get, ins, del, dels, Nat.reduceLT, Nat.reduceEqDiff, ↓reduceIte, reduceCtorEq, ne_eq, not_false_eq_true, implies_true, framed_pureF, framed_fb, framed_N, framed_pure, wop_prim, prim, YLD, mkA, V.cells, List.getElem?_cons_zero, List.getElem?_cons_succ, List.set_cons_zero, List.set_cons_succ, Nat.zero_add, Nat.add_zero, Nat.reduceAdd, Nat.reduceSub, Nat.reduceMul, Nat.reduceLeDiff, Nat.not_lt_zero, List.map_cons, List.map_nil, List.cons_append, List.nil_append, loadA, cellsAt, nAg, packA, opt_bind_some, opt_map_some, opt_bind_none, opt_map_none, List.drop, List.take, List.head?, List.length_cons, List.length_nil, binA, unA, eqCells, eqCell, negB, fillA, sr_nil, sr_cons, sr_succ, sr_all, sr_len, storeA, Ob.with, indexedI, V.oneCell, intOf?, retQ_ret, retQ_norm, resA, resA1, fr_getD, packR, sealDepth, shut_bool, shut_int, Option.some.injEq, V.bool.injEq, V.int.injEq, Bool.not_true, Bool.not_false, true_and, and_true, and_self, Bool.and_true, Bool.and_false, Bool.true_and, Bool.false_and, Bool.or_true, Bool.or_false, Bool.true_or, Bool.false_or, Bool.false_eq_true, Int.reduceLT, Int.reduceLE, Int.reduceToNat, Int.reduceNeg, shut_plain, freeL_cons, freeL_nil, free_int, free_bool, free_agg, free_str, free_nils, free_tup, free_sl, true_implies, false_implies, Nat.sub_zero, Int.natCast_nonneg, Int.toNat_natCast, Nat.le_refl, not_true_eq_false, Int.reduceAdd, Int.reduceSub, Int.reduceMul, wrap64, false_and, and_false, cond_true, cond_false, Bool.cond_true_left, Bool.cond_false_right, Int.reduceBNe, Int.reduceBEq, decide_true, decide_false, Int.cast_ofNat_Int, Nat.mul_one, eq_self, Bool.true_eq_false, Bool.not_eq_true, Bool.not_eq_false, deads, List.replicate, argsF, am37, isNil, g, g2]
    rfl
  · have g : decide (i < 0) = false := decide_eq_false g1
    by_cases g2 : i < (D.n : Int)
    · have g3 : decide (i ≥ (D.n : Int)) = false := decide_eq_false (by omega)
      have g4 : D.isNode i = true := by simp [Dv.isNode]; omega
      have q := fun cap => ep_at ok (by omega : 0 ≤ i) g2 cap
      simp +contextual -implicitDefEqProofs (maxSteps := 10000000) only [sx_seq, sxL_succ, lpQ_norm, lpQ_exit, lpQ_ret, loopQ_norm, loopQ_exit, loopQ_ret, sqQ_norm, sqQ_ret, sqQ_exit, sx_block, blkQ_norm, blkQ_exit, blkQ_ret, sx_cond, cdP_true, cdP_false, cdP_bool, sx_region, sx_draw, plainD, List.all_cons, List.all_nil, List.isEmpty_nil, List.isEmpty_cons, sxo_nil, sxo_cons, sxo_guard, gdS_bool, gdS_eff, gdS_tup, gdS_sel, gdS_seleff, sxK_def, wcall_some, effP_ret, effP_set, effP_none, effP_ite, wop_call, wop_cv, cvP_func, sx_ret, sx_exit, sx_skip, sx_clr, sx_fresh, stays, ↓selV_wt, ↓selV_wf, ↓impB_wt, ↓impB_wf, ↓selV_nor, ↓impB_nor, ↓selV_nt, ↓selV_nf, ↓impB_nt, ↓impB_nf, wantB_true, wantB_false, ↓selV_true, ↓selV_false, ↓selV_and, ↓impB_true, ↓impB_false, ↓impB_and, impB_triv, valOf_some, retH_some, ↓prim_pick, pickO_true, pickO_false, pickO_and, pickO_or, pickO_andr, pickO_orr, pickO_orrn, pickO_orn, pickO_bb, pickAnd_bool, pickOr_bool, ↓selV_nn, ↓impB_nn, Bool.and_assoc, Bool.or_assoc, doOp, ev_fr, ev_cst, put_none, put_fr, get, ins, del, dels, Nat.reduceLT, Nat.reduceEqDiff, ↓reduceIte, reduceCtorEq, ne_eq, not_false_eq_true, implies_true, framed_pureF, framed_fb, framed_N, framed_pure, wop_prim, prim, YLD, mkA, V.cells, List.getElem?_cons_zero, List.getElem?_cons_succ, List.set_cons_zero, List.set_cons_succ, Nat.zero_add, Nat.add_zero, Nat.reduceAdd, Nat.reduceSub, Nat.reduceMul, Nat.reduceLeDiff, Nat.not_lt_zero, List.map_cons, List.map_nil, List.cons_append, List.nil_append, loadA, cellsAt, nAg, packA, opt_bind_some, opt_map_some, opt_bind_none, opt_map_none, List.drop, List.take, List.head?, List.length_cons, List.length_nil, binA, unA, eqCells, eqCell, negB, fillA, sr_nil, sr_cons, sr_succ, sr_all, sr_len, storeA, Ob.with, indexedI, V.oneCell, intOf?, retQ_ret, retQ_norm, resA, resA1, fr_getD, packR, sealDepth, shut_bool, shut_int, Option.some.injEq, V.bool.injEq, V.int.injEq, Bool.not_true, Bool.not_false, true_and, and_true, and_self, Bool.and_true, Bool.and_false, Bool.true_and, Bool.false_and, Bool.or_true, Bool.or_false, Bool.true_or, Bool.false_or, Bool.false_eq_true, Int.reduceLT, Int.reduceLE, Int.reduceToNat, Int.reduceNeg, shut_plain, freeL_cons, freeL_nil, free_int, free_bool, free_agg, free_str, free_nils, free_tup, free_sl, true_implies, false_implies, Nat.sub_zero, Int.natCast_nonneg, Int.toNat_natCast, Nat.le_refl, not_true_eq_false, Int.reduceAdd, Int.reduceSub, Int.reduceMul, wrap64, false_and, and_false, cond_true, cond_false, Bool.cond_true_left, Bool.cond_false_right, Int.reduceBNe, Int.reduceBEq, decide_true, decide_false, Int.cast_ofNat_Int, Nat.mul_one, eq_self, Bool.true_eq_false, Bool.not_eq_true, Bool.not_eq_false, deads, List.replicate, argsF, am37, isNil, g, g3, g4, lenA, hL, q]
      rfl
    · have g3 : decide (i ≥ (D.n : Int)) = true := decide_eq_true (by omega)
      have g4 : D.isNode i = false := by simp [Dv.isNode]; omega
      simp +contextual -implicitDefEqProofs (maxSteps := 10000000) only [sx_seq, sxL_succ, lpQ_norm, lpQ_exit, lpQ_ret, loopQ_norm, loopQ_exit, loopQ_ret, sqQ_norm, sqQ_ret, sqQ_exit, sx_block, blkQ_norm, blkQ_exit, blkQ_ret, sx_cond, cdP_true, cdP_false, cdP_bool, sx_region, sx_draw, plainD, List.all_cons, List.all_nil, List.isEmpty_nil, List.isEmpty_cons, sxo_nil, sxo_cons, sxo_guard, gdS_bool, gdS_eff, gdS_tup, gdS_sel, gdS_seleff, sxK_def, wcall_some, effP_ret, effP_set, effP_none, effP_ite, wop_call, wop_cv, cvP_func, sx_ret, sx_exit, sx_skip, sx_clr, sx_fresh, stays, ↓selV_wt, ↓selV_wf, ↓impB_wt, ↓impB_wf, ↓selV_nor, ↓impB_nor, ↓selV_nt, ↓selV_nf, ↓impB_nt, ↓impB_nf, wantB_true, wantB_false, ↓selV_true, ↓selV_false, ↓selV_and, ↓impB_true, ↓impB_false, ↓impB_and, impB_triv, valOf_some, retH_some, ↓prim_pick, pickO_true, pickO_false, pickO_and, pickO_or, pickO_andr, pickO_orr, pickO_orrn, pickO_orn, pickO_bb, pickAnd_bool, pickOr_bool, ↓selV_nn, ↓impB_nn, Bool.and_assoc, Bool.or_assoc, doOp, ev_fr, ev_cst, put_none, put_fr, get, ins, del, dels, Nat.reduceLT, Nat.reduceEqDiff, ↓reduceIte, reduceCtorEq, ne_eq, not_false_eq_true, implies_true, framed_pureF, framed_fb, framed_N, framed_pure, wop_prim, prim, YLD, mkA, V.cells, List.getElem?_cons_zero, List.getElem?_cons_succ, List.set_cons_zero, List.set_cons_succ, Nat.zero_add, Nat.add_zero, Nat.reduceAdd, Nat.reduceSub, Nat.reduceMul, Nat.reduceLeDiff, Nat.not_lt_zero, List.map_cons, List.map_nil, List.cons_append, List.nil_append, loadA, cellsAt, nAg, packA, opt_bind_some, opt_map_some, opt_bind_none, opt_map_none, List.drop, List.take, List.head?, List.length_cons, List.length_nil, binA, unA, eqCells, eqCell, negB, fillA, sr_nil, sr_cons, sr_succ, sr_all, sr_len, storeA, Ob.with, indexedI, V.oneCell, intOf?, retQ_ret, retQ_norm, resA, resA1, fr_getD, packR, sealDepth, shut_bool, shut_int, Option.some.injEq, V.bool.injEq, V.int.injEq, Bool.not_true, Bool.not_false, true_and, and_true, and_self, Bool.and_true, Bool.and_false, Bool.true_and, Bool.false_and, Bool.or_true, Bool.or_false, Bool.true_or, Bool.false_or, Bool.false_eq_true, Int.reduceLT, Int.reduceLE, Int.reduceToNat, Int.reduceNeg, shut_plain, freeL_cons, freeL_nil, free_int, free_bool, free_agg, free_str, free_nils, free_tup, free_sl, true_implies, false_implies, Nat.sub_zero, Int.natCast_nonneg, Int.toNat_natCast, Nat.le_refl, not_true_eq_false, Int.reduceAdd, Int.reduceSub, Int.reduceMul, wrap64, false_and, and_false, cond_true, cond_false, Bool.cond_true_left, Bool.cond_false_right, Int.reduceBNe, Int.reduceBEq, decide_true, decide_false, Int.cast_ofNat_Int, Nat.mul_one, eq_self, Bool.true_eq_false, Bool.not_eq_true, Bool.not_eq_false, deads, List.replicate, argsF, am37, isNil, g, g3, g4, lenA, hL]
      rfl
theorem rfenced_spec {N n : Nat} (hn : 1 ≤ n) {H : Heap} {x : V} {D : Dv} (h : RLooks H x D) (i e : Int) : callA am N n 39 [x, .int .i64 i, .int .i64 e] H = some (.bool (D.isNode i && decide (e < D.ep i)), H) := by
  obtain ⟨n, rfl⟩ : ∃ m, n = m + 1 := ⟨n - 1, by omega⟩
  obtain ⟨cap, cap', ha⟩ := rlook_args3 h i e
  have ok := h.1
  have hL : (D.eps.map (V.int .i64)).length = D.n := by rw [List.length_map, eps_len ok]
  refine call_look at39 rfl rfl (by decide) ha (sx_wp ?_)
  unfold Dv.rseen Dv.rcs at *
  by_cases g1 : 0 ≤ i
  · have g : decide (i ≥ 0) = true := decide_eq_true g1
    by_cases g2 : i < (D.n : Int)
    · have g3 : decide (i < (D.n : Int)) = true := decide_eq_true (by omega)
      have g4 : D.isNode i = true := by simp [Dv.isNode]; omega
      have q := fun cap => ep_at ok (by omega : 0 ≤ i) g2 cap
      simp +contextual -implicitDefEqProofs (maxSteps := 10000000) only [sx_seq, sxL_succ, lpQ_norm, lpQ_exit, lpQ_ret, loopQ_norm, loopQ_exit, loopQ_ret, sqQ_norm, sqQ_ret, sqQ_exit, sx_block, blkQ_norm, blkQ_exit, blkQ_ret, sx_cond, cdP_true, cdP_false, cdP_bool, sx_region, sx_draw, plainD, List.all_cons, List.all_nil, List.isEmpty_nil, List.isEmpty_cons, sxo_nil, sxo_cons, sxo_guard, gdS_bool, gdS_eff, gdS_tup, gdS_sel, gdS_seleff, sxK_def, wcall_some, effP_ret, effP_set, effP_none, effP_ite, wop_call, wop_cv, cvP_func, sx_ret, sx_exit, sx_skip, sx_clr, sx_fresh, stays, ↓selV_wt, ↓selV_wf, ↓impB_wt, ↓impB_wf, ↓selV_nor, ↓impB_nor, ↓selV_nt, ↓selV_nf, ↓impB_nt, ↓impB_nf, wantB_true, wantB_false, ↓selV_true, ↓selV_false, ↓selV_and, ↓impB_true, ↓impB_false, ↓impB_and, impB_triv, valOf_some, retH_some, ↓prim_pick, pickO_true, pickO_false, pickO_and, pickO_or, pickO_andr, pickO_orr, pickO_orrn, pickO_orn, pickO_bb, pickAnd_bool, pickOr_bool, ↓selV_nn, ↓impB_nn, Bool.and_assoc, Bool.or_assoc, doOp, ev_fr, ev_cst, put_none, put_fr, get, ins, del, dels, Nat.reduceLT, Nat.reduceEqDiff, ↓reduceIte, reduceCtorEq, ne_eq, not_false_eq_true, implies_true, framed_pureF, framed_fb, framed_N, framed_pure, wop_prim, prim, YLD, mkA, V.cells, List.getElem?_cons_zero, List.getElem?_cons_succ, List.set_cons_zero, List.set_cons_succ, Nat.zero_add, Nat.add_zero, Nat.reduceAdd, Nat.reduceSub, Nat.reduceMul, Nat.reduceLeDiff, Nat.not_lt_zero, List.map_cons, List.map_nil, List.cons_append, List.nil_append, loadA, cellsAt, nAg, packA, opt_bind_some, opt_map_some, opt_bind_none, opt_map_none, List.drop, List.take, List.head?, List.length_cons, List.length_nil, binA, unA, eqCells, eqCell, negB, fillA, sr_nil, sr_cons, sr_succ, sr_all, sr_len, storeA, Ob.with, indexedI, V.oneCell, intOf?, retQ_ret, retQ_norm, resA, resA1, fr_getD, packR, sealDepth, shut_bool, shut_int, Option.some.injEq, V.bool.injEq, V.int.injEq, Bool.not_true, Bool.not_false, true_and, and_true, and_self, Bool.and_true, Bool.and_false, Bool.true_and, Bool.false_and, Bool.or_true, Bool.or_false, Bool.true_or, Bool.false_or, Bool.false_eq_true, Int.reduceLT, Int.reduceLE, Int.reduceToNat, Int.reduceNeg, shut_plain, freeL_cons, freeL_nil, free_int, free_bool, free_agg, free_str, free_nils, free_tup, free_sl, true_implies, false_implies, Nat.sub_zero, Int.natCast_nonneg, Int.toNat_natCast, Nat.le_refl, not_true_eq_false, Int.reduceAdd, Int.reduceSub, Int.reduceMul, wrap64, false_and, and_false, cond_true, cond_false, Bool.cond_true_left, Bool.cond_false_right, Int.reduceBNe, Int.reduceBEq, decide_true, decide_false, Int.cast_ofNat_Int, Nat.mul_one, eq_self, Bool.true_eq_false, Bool.not_eq_true, Bool.not_eq_false, deads, List.replicate, argsF, am39, isNil, g, g3, g4, lenA, hL, q, plain_bool]
    · have g3 : decide (i < (D.n : Int)) = false := decide_eq_false (by omega)
      have g4 : D.isNode i = false := by simp [Dv.isNode]; omega
      simp +contextual -implicitDefEqProofs (maxSteps := 10000000) only [sx_seq, sxL_succ, lpQ_norm, lpQ_exit, lpQ_ret, loopQ_norm, loopQ_exit, loopQ_ret, sqQ_norm, sqQ_ret, sqQ_exit, sx_block, blkQ_norm, blkQ_exit, blkQ_ret, sx_cond, cdP_true, cdP_false, cdP_bool, sx_region, sx_draw, plainD, List.all_cons, List.all_nil, List.isEmpty_nil, List.isEmpty_cons, sxo_nil, sxo_cons, sxo_guard, gdS_bool, gdS_eff, gdS_tup, gdS_sel, gdS_seleff, sxK_def, wcall_some, effP_ret, effP_set, effP_none, effP_ite, wop_call, wop_cv, cvP_func, sx_ret, sx_exit, sx_skip, sx_clr, sx_fresh, stays, ↓selV_wt, ↓selV_wf, ↓impB_wt, ↓impB_wf, ↓selV_nor, ↓impB_nor, ↓selV_nt, ↓selV_nf, ↓impB_nt, ↓impB_nf, wantB_true, wantB_false, ↓selV_true, ↓selV_false, ↓selV_and, ↓impB_true, ↓impB_false, ↓impB_and, impB_triv, valOf_some, retH_some, ↓prim_pick, pickO_true, pickO_false, pickO_and, pickO_or, pickO_andr, pickO_orr, pickO_orrn, pickO_orn, pickO_bb, pickAnd_bool, pickOr_bool, ↓selV_nn, ↓impB_nn, Bool.and_assoc, Bool.or_assoc, doOp, ev_fr, ev_cst, put_none, put_fr, get, ins, del, dels, Nat.reduceLT, Nat.reduceEqDiff, ↓reduceIte, reduceCtorEq, ne_eq, not_false_eq_true, implies_true, framed_pureF, framed_fb, framed_N, framed_pure, wop_prim, prim, YLD, mkA, V.cells, List.getElem?_cons_zero, List.getElem?_cons_succ, List.set_cons_zero, List.set_cons_succ, Nat.zero_add, Nat.add_zero, Nat.reduceAdd, Nat.reduceSub, Nat.reduceMul, Nat.reduceLeDiff, Nat.not_lt_zero, List.map_cons, List.map_nil, List.cons_append, List.nil_append, loadA, cellsAt, nAg, packA, opt_bind_some, opt_map_some, opt_bind_none, opt_map_none, List.drop, List.take, List.head?, List.length_cons, List.length_nil, binA, unA, eqCells, eqCell, negB, fillA, sr_nil, sr_cons, sr_succ, sr_all, sr_len, storeA, Ob.with, indexedI, V.oneCell, intOf?, retQ_ret, retQ_norm, resA, resA1, fr_getD, packR, sealDepth, shut_bool, shut_int, Option.some.injEq, V.bool.injEq, V.int.injEq, Bool.not_true, Bool.not_false, true_and, and_true, and_self, Bool.and_true, Bool.and_false, Bool.true_and, Bool.false_and, Bool.or_true, Bool.or_false, Bool.true_or, Bool.false_or, Bool.false_eq_true, Int.reduceLT, Int.reduceLE, Int.reduceToNat, Int.reduceNeg, shut_plain, freeL_cons, freeL_nil, free_int, free_bool, free_agg, free_str, free_nils, free_tup, free_sl, true_implies, false_implies, Nat.sub_zero, Int.natCast_nonneg, Int.toNat_natCast, Nat.le_refl, not_true_eq_false, Int.reduceAdd, Int.reduceSub, Int.reduceMul, wrap64, false_and, and_false, cond_true, cond_false, Bool.cond_true_left, Bool.cond_false_right, Int.reduceBNe, Int.reduceBEq, decide_true, decide_false, Int.cast_ofNat_Int, Nat.mul_one, eq_self, Bool.true_eq_false, Bool.not_eq_true, Bool.not_eq_false, deads, List.replicate, argsF, am39, isNil, g, g3, g4, lenA, hL, plain_bool]
  · have g : decide (i ≥ 0) = false := decide_eq_false (by omega)
    have g4 : D.isNode i = false := by simp [Dv.isNode]; omega
    simp +contextual -implicitDefEqProofs (maxSteps := 10000000) only [sx_seq, sxL_succ, lpQ_norm, lpQ_exit, lpQ_ret, loopQ_norm, loopQ_exit, loopQ_ret, sqQ_norm, sqQ_ret, sqQ_exit, sx_block, blkQ_norm, blkQ_exit, blkQ_ret, sx_cond, cdP_true, cdP_false, cdP_bool, sx_region, sx_draw, plainD, List.all_cons, List.all_nil, List.isEmpty_nil, List.isEmpty_cons, sxo_nil, sxo_cons, sxo_guard, gdS_bool, gdS_eff, gdS_tup, gdS_sel, gdS_seleff, sxK_def, wcall_some, effP_ret, effP_set, effP_none, effP_ite, wop_call, wop_cv, cvP_func, sx_ret, sx_exit, sx_skip, sx_clr, sx_fresh, stays, ↓selV_wt, ↓selV_wf, ↓impB_wt, ↓impB_wf, ↓selV_nor, ↓impB_nor, ↓selV_nt, ↓selV_nf, ↓impB_nt, ↓impB_nf, wantB_true, wantB_false, ↓selV_true, ↓selV_false, ↓selV_and, ↓impB_true, ↓impB_false, ↓impB_and, impB_triv, valOf_some, retH_some, ↓prim_pick, pickO_true, pickO_false, pickO_and, pickO_or, pickO_andr, pickO_orr, pickO_orrn, pickO_orn, pickO_bb, pickAnd_bool, pickOr_bool, ↓selV_nn, ↓impB_nn, Bool.and_assoc, Bool.or_assoc, doOp, ev_fr, ev_cst, put_none, put_fr, get, ins, del, dels, Nat.reduceLT, Nat.reduceEqDiff, ↓reduceIte, reduceCtorEq, ne_eq, not_false_eq_true, implies_true, framed_pureF, framed_fb, framed_N, framed_pure, wop_prim, prim, YLD, mkA, V.cells, List.getElem?_cons_zero, List.getElem?_cons_succ, List.set_cons_zero, List.set_cons_succ, Nat.zero_add, Nat.add_zero, Nat.reduceAdd, Nat.reduceSub, Nat.reduceMul, Nat.reduceLeDiff, Nat.not_lt_zero, List.map_cons, List.map_nil, List.cons_append, List.nil_append, loadA, cellsAt, nAg, packA, opt_bind_some, opt_map_some, opt_bind_none, opt_map_none, List.drop, List.take, List.head?, List.length_cons, List.length_nil, binA, unA, eqCells, eqCell, negB, fillA, sr_nil, sr_cons, sr_succ, sr_all, sr_len, storeA, Ob.with, indexedI, V.oneCell, intOf?, retQ_ret, retQ_norm, resA, resA1, fr_getD, packR, sealDepth, shut_bool, shut_int, Option.some.injEq, V.bool.injEq, V.int.injEq, Bool.not_true, Bool.not_false, true_and, and_true, and_self, Bool.and_true, Bool.and_false, Bool.true_and, Bool.false_and, Bool.or_true, Bool.or_false, Bool.true_or, Bool.false_or, Bool.false_eq_true, Int.reduceLT, Int.reduceLE, Int.reduceToNat, Int.reduceNeg, shut_plain, freeL_cons, freeL_nil, free_int, free_bool, free_agg, free_str, free_nils, free_tup, free_sl, true_implies, false_implies, Nat.sub_zero, Int.natCast_nonneg, Int.toNat_natCast, Nat.le_refl, not_true_eq_false, Int.reduceAdd, Int.reduceSub, Int.reduceMul, wrap64, false_and, and_false, cond_true, cond_false, Bool.cond_true_left, Bool.cond_false_right, Int.reduceBNe, Int.reduceBEq, decide_true, decide_false, Int.cast_ofNat_Int, Nat.mul_one, eq_self, Bool.true_eq_false, Bool.not_eq_true, Bool.not_eq_false, deads, List.replicate, argsF, am39, isNil, g, g4, lenA, hL, plain_bool]
theorem sec_at {D : Dv} (h : D.Ok) {i : Int} (h0 : 0 ≤ i) (h1 : i < (D.S.length : Int)) (cap : Option Nat) : iaddrSA 64 (.sl (D.S.map secV) 64 cap) (.int .i64 i) = some (.ret (.iptr ((D.at i).map (V.int .u8)) 0)) ∧ (D.at i).length = 64 := by
  have hL : (D.S.map secV).length = D.S.length := List.length_map ..
  have hlt : i.toNat < D.S.length := by omega
  have q2 : (D.S.map secV)[i.toNat]? = some (secV (D.at i)) := by
    rw [List.getElem?_map, List.getElem?_eq_getElem hlt, Dv.at, List.getD_eq_getElem?_getD, List.getElem?_eq_getElem hlt]; rfl
  refine ⟨?_, ?_⟩
  · simp only [iaddrSA, ↓reduceIte, indexedI, hL, h0, h1, Option.bind_some, q2, Option.map_some]
    rfl
  · rw [Dv.at, List.getD_eq_getElem?_getD, List.getElem?_eq_getElem hlt]
    exact h.sec _ (List.getElem_mem hlt)
theorem rread_spec {N n : Nat} (hn : 1 ≤ n) {H : Heap} {x : V} {D : Dv} (h : RLooks H x D) (i : Int) : callA am N n 40 [x, .int .i64 i] H = some (.tup (bif D.isSec i then [secV (D.at i), .int .i64 0] else [secV zeroS, .int .i64 2]), H) := by
  obtain ⟨n, rfl⟩ : ∃ m, n = m + 1 := ⟨n - 1, by omega⟩
  obtain ⟨cap, cap', ha⟩ := rlook_args2 h i
  have ok := h.1
  have hL : (D.S.map secV).length = D.S.length := List.length_map ..
  refine call_look at40 rfl rfl (by decide) ha (sx_wp ?_)
  unfold Dv.rseen Dv.rcs at *
  by_cases g1 : i < 0
  · have g : decide (i < 0) = true := decide_eq_true g1
    have g2 : D.isSec i = false := by simp [Dv.isSec]; omega
    simp +contextual -implicitDefEqProofs (maxSteps := 10000000) only [sx_seq, sxL_succ, lpQ_norm, lpQ_exit, lpQ_ret, loopQ_norm, loopQ_exit, loopQ_ret, sqQ_norm, sqQ_ret, sqQ_exit, sx_block, blkQ_norm, blkQ_exit, blkQ_ret, sx_cond, cdP_true, cdP_false, cdP_bool, sx_region, sx_draw, plainD, List.all_cons, List.all_nil, List.isEmpty_nil, List.isEmpty_cons, sxo_nil, sxo_cons, sxo_guard, gdS_bool, gdS_eff, gdS_tup, gdS_sel, gdS_seleff, sxK_def, wcall_some, effP_ret, effP_set, effP_none, effP_ite, wop_call, wop_cv, cvP_func, sx_ret, sx_exit, sx_skip, sx_clr, sx_fresh, stays, ↓selV_wt, ↓selV_wf, ↓impB_wt, ↓impB_wf, ↓selV_nor, ↓impB_nor, ↓selV_nt, ↓selV_nf, ↓impB_nt, ↓impB_nf, wantB_true, wantB_false, ↓selV_true, ↓selV_false, ↓selV_and, ↓impB_true, ↓impB_false, ↓impB_and, impB_triv, valOf_some, retH_some, ↓prim_pick, pickO_true, pickO_false, pickO_and, pickO_or, pickO_andr, pickO_orr, pickO_orrn, pickO_orn, pickO_bb, pickAnd_bool, pickOr_bool, ↓selV_nn, ↓impB_nn, Bool.and_assoc, Bool.or_assoc, doOp, ev_fr, ev_cst, put_none, put_fr, get, ins, del, dels, Nat.reduceLT, Nat.reduceEqDiff, ↓reduceIte, reduceCtorEq, ne_eq, not_false_eq_true, implies_true, framed_pureF, framed_fb, framed_N, framed_pure, wop_prim, prim, YLD, mkA, V.cells, List.getElem?_cons_zero, List.getElem?_cons_succ, List.set_cons_zero, List.set_cons_succ, Nat.zero_add, Nat.add_zero, Nat.reduceAdd, Nat.reduceSub, Nat.reduceMul, Nat.reduceLeDiff, Nat.not_lt_zero, List.map_cons, List.map_nil, List.cons_append, List.nil_append, loadA, cellsAt, nAg, packA, opt_bind_some, opt_map_some, opt_bind_none, opt_map_none, List.drop, List.take, List.head?, List.length_cons, List.length_nil, binA, unA, eqCells, eqCell, negB, fillA, sr_nil, sr_cons, sr_succ, sr_all, sr_len, storeA, Ob.with, indexedI, V.oneCell, intOf?, retQ_ret, retQ_norm, resA, resA1, fr_getD, packR, sealDepth, shut_bool, shut_int, Option.some.injEq, V.bool.injEq, V.int.injEq, Bool.not_true, Bool.not_false, true_and, and_true, and_self, Bool.and_true, Bool.and_false, Bool.true_and, Bool.false_and, Bool.or_true, Bool.or_false, Bool.true_or, Bool.false_or, Bool.false_eq_true, Int.reduceLT, Int.reduceLE, Int.reduceToNat, Int.reduceNeg, shut_plain, freeL_cons, freeL_nil, free_int, free_bool, free_agg, free_str, free_nils, free_tup, free_sl, true_implies, false_implies, Nat.sub_zero, Int.natCast_nonneg, Int.toNat_natCast, Nat.le_refl, not_true_eq_false, Int.reduceAdd, Int.reduceSub, Int.reduceMul, wrap64, false_and, and_false, cond_true, cond_false, Bool.cond_true_left, Bool.cond_false_right, Int.reduceBNe, Int.reduceBEq, decide_true, decide_false, Int.cast_ofNat_Int, Nat.mul_one, eq_self, Bool.true_eq_false, Bool.not_eq_true, Bool.not_eq_false, deads, List.replicate, argsF, am40, isNil, g, g2]
    exact ⟨rfl, rfl⟩
  · have g : decide (i < 0) = false := decide_eq_false g1
    by_cases g2 : i < (D.S.length : Int)
    · have g3 : decide (i ≥ (D.S.length : Int)) = false := decide_eq_false (by omega)
      have g4 : D.isSec i = true := by simp [Dv.isSec]; omega
      obtain ⟨hia, h64⟩ := sec_at ok (by omega : 0 ≤ i) g2 cap
      have t64 : List.take 64 ((D.at i).map (V.int .u8)) = (D.at i).map (V.int .u8) := List.take_of_length_le (by simp [h64])
      have o64 := ints_one .u8 (D.at i)
      have l64 : ((D.at i).map (V.int .u8)).length = 64 := by simp [h64]
      have sr := fun (z : List V) (hz : z.length = 64) => @sr_all z ((D.at i).map (V.int .u8)) (by rw [l64, hz])
      simp +contextual -implicitDefEqProofs (maxSteps := 10000000) only [sx_seq, sxL_succ, lpQ_norm, lpQ_exit, lpQ_ret, loopQ_norm, loopQ_exit, loopQ_ret, sqQ_norm, sqQ_ret, sqQ_exit, sx_block, blkQ_norm, blkQ_exit, blkQ_ret, sx_cond, cdP_true, cdP_false, cdP_bool, sx_region, sx_draw, plainD, List.all_cons, List.all_nil, List.isEmpty_nil, List.isEmpty_cons, sxo_nil, sxo_cons, sxo_guard, gdS_bool, gdS_eff, gdS_tup, gdS_sel, gdS_seleff, sxK_def, wcall_some, effP_ret, effP_set, effP_none, effP_ite, wop_call, wop_cv, cvP_func, sx_ret, sx_exit, sx_skip, sx_clr, sx_fresh, stays, ↓selV_wt, ↓selV_wf, ↓impB_wt, ↓impB_wf, ↓selV_nor, ↓impB_nor, ↓selV_nt, ↓selV_nf, ↓impB_nt, ↓impB_nf, wantB_true, wantB_false, ↓selV_true, ↓selV_false, ↓selV_and, ↓impB_true, ↓impB_false, ↓impB_and, impB_triv, valOf_some, retH_some, ↓prim_pick, pickO_true, pickO_false, pickO_and, pickO_or, pickO_andr, pickO_orr, pickO_orrn, pickO_orn, pickO_bb, pickAnd_bool, pickOr_bool, ↓selV_nn, ↓impB_nn, Bool.and_assoc, Bool.or_assoc, doOp, ev_fr, ev_cst, put_none, put_fr, get, ins, del, dels, Nat.reduceLT, Nat.reduceEqDiff, ↓reduceIte, reduceCtorEq, ne_eq, not_false_eq_true, implies_true, framed_pureF, framed_fb, framed_N, framed_pure, wop_prim, prim, YLD, mkA, V.cells, List.getElem?_cons_zero, List.getElem?_cons_succ, List.set_cons_zero, List.set_cons_succ, Nat.zero_add, Nat.add_zero, Nat.reduceAdd, Nat.reduceSub, Nat.reduceMul, Nat.reduceLeDiff, Nat.not_lt_zero, List.map_cons, List.map_nil, List.cons_append, List.nil_append, loadA, cellsAt, nAg, packA, opt_bind_some, opt_map_some, opt_bind_none, opt_map_none, List.drop, List.take, List.head?, List.length_cons, List.length_nil, binA, unA, eqCells, eqCell, negB, fillA, sr_nil, sr_cons, sr_succ, sr_all, sr_len, storeA, Ob.with, indexedI, V.oneCell, intOf?, retQ_ret, retQ_norm, resA, resA1, fr_getD, packR, sealDepth, shut_bool, shut_int, Option.some.injEq, V.bool.injEq, V.int.injEq, Bool.not_true, Bool.not_false, true_and, and_true, and_self, Bool.and_true, Bool.and_false, Bool.true_and, Bool.false_and, Bool.or_true, Bool.or_false, Bool.true_or, Bool.false_or, Bool.false_eq_true, Int.reduceLT, Int.reduceLE, Int.reduceToNat, Int.reduceNeg, shut_plain, freeL_cons, freeL_nil, free_int, free_bool, free_agg, free_str, free_nils, free_tup, free_sl, true_implies, false_implies, Nat.sub_zero, Int.natCast_nonneg, Int.toNat_natCast, Nat.le_refl, not_true_eq_false, Int.reduceAdd, Int.reduceSub, Int.reduceMul, wrap64, false_and, and_false, cond_true, cond_false, Bool.cond_true_left, Bool.cond_false_right, Int.reduceBNe, Int.reduceBEq, decide_true, decide_false, Int.cast_ofNat_Int, Nat.mul_one, eq_self, Bool.true_eq_false, Bool.not_eq_true, Bool.not_eq_false, deads, List.replicate, argsF, am40, isNil, g, g3, g4, lenA, hL, hia, t64, o64, l64, sr]
      refine ⟨rfl, ?_⟩
      show (V.plainL ((D.at i).map (V.int .u8)) && true) = true
      rw [ints_plain]; rfl
    · have g3 : decide (i ≥ (D.S.length : Int)) = true := decide_eq_true (by omega)
      have g4 : D.isSec i = false := by simp [Dv.isSec]; omega
      simp +contextual -implicitDefEqProofs (maxSteps := 10000000) only [sx_seq, sxL_succ, lpQ_norm, lpQ_exit, lpQ_ret, loopQ_norm, loopQ_exit, loopQ_ret, sqQ_norm, sqQ_ret, sqQ_exit, sx_block, blkQ_norm, blkQ_exit, blkQ_ret, sx_cond, cdP_true, cdP_false, cdP_bool, sx_region, sx_draw, plainD, List.all_cons, List.all_nil, List.isEmpty_nil, List.isEmpty_cons, sxo_nil, sxo_cons, sxo_guard, gdS_bool, gdS_eff, gdS_tup, gdS_sel, gdS_seleff, sxK_def, wcall_some, effP_ret, effP_set, effP_none, effP_ite, wop_call, wop_cv, cvP_func, sx_ret, sx_exit, sx_skip, sx_clr, sx_fresh, stays, ↓selV_wt, ↓selV_wf, ↓impB_wt, ↓impB_wf, ↓selV_nor, ↓impB_nor, ↓selV_nt, ↓selV_nf, ↓impB_nt, ↓impB_nf, wantB_true, wantB_false, ↓selV_true, ↓selV_false, ↓selV_and, ↓impB_true, ↓impB_false, ↓impB_and, impB_triv, valOf_some, retH_some, ↓prim_pick, pickO_true, pickO_false, pickO_and, pickO_or, pickO_andr, pickO_orr, pickO_orrn, pickO_orn, pickO_bb, pickAnd_bool, pickOr_bool, ↓selV_nn, ↓impB_nn, Bool.and_assoc, Bool.or_assoc, doOp, ev_fr, ev_cst, put_none, put_fr, get, ins, del, dels, Nat.reduceLT, Nat.reduceEqDiff, ↓reduceIte, reduceCtorEq, ne_eq, not_false_eq_true, implies_true, framed_pureF, framed_fb, framed_N, framed_pure, wop_prim, prim, YLD, mkA, V.cells, List.getElem?_cons_zero, List.getElem?_cons_succ, List.set_cons_zero, List.set_cons_succ, Nat.zero_add, Nat.add_zero, Nat.reduceAdd, Nat.reduceSub, Nat.reduceMul, Nat.reduceLeDiff, Nat.not_lt_zero, List.map_cons, List.map_nil, List.cons_append, List.nil_append, loadA, cellsAt, nAg, packA, opt_bind_some, opt_map_some, opt_bind_none, opt_map_none, List.drop, List.take, List.head?, List.length_cons, List.length_nil, binA, unA, eqCells, eqCell, negB, fillA, sr_nil, sr_cons, sr_succ, sr_all, sr_len, storeA, Ob.with, indexedI, V.oneCell, intOf?, retQ_ret, retQ_norm, resA, resA1, fr_getD, packR, sealDepth, shut_bool, shut_int, Option.some.injEq, V.bool.injEq, V.int.injEq, Bool.not_true, Bool.not_false, true_and, and_true, and_self, Bool.and_true, Bool.and_false, Bool.true_and, Bool.false_and, Bool.or_true, Bool.or_false, Bool.true_or, Bool.false_or, Bool.false_eq_true, Int.reduceLT, Int.reduceLE, Int.reduceToNat, Int.reduceNeg, shut_plain, freeL_cons, freeL_nil, free_int, free_bool, free_agg, free_str, free_nils, free_tup, free_sl, true_implies, false_implies, Nat.sub_zero, Int.natCast_nonneg, Int.toNat_natCast, Nat.le_refl, not_true_eq_false, Int.reduceAdd, Int.reduceSub, Int.reduceMul, wrap64, false_and, and_false, cond_true, cond_false, Bool.cond_true_left, Bool.cond_false_right, Int.reduceBNe, Int.reduceBEq, decide_true, decide_false, Int.cast_ofNat_Int, Nat.mul_one, eq_self, Bool.true_eq_false, Bool.not_eq_true, Bool.not_eq_false, deads, List.replicate, argsF, am40, isNil, g, g3, g4, lenA, hL]
      exact ⟨rfl, rfl⟩
end Go.Am.T


set_option linter.unusedVariables false
set_option linter.unusedSimpArgs false
set_option maxRecDepth 10000
namespace Go.Am.T
attribute [local congr] selV_congr impB_congr
section
variable {D : Dv} {X : V}
end
end Go.Am.T


set_option linter.unusedVariables false
set_option linter.unusedSimpArgs false
set_option maxRecDepth 10000
namespace Go.Am.T
attribute [local congr] selV_congr impB_congr
end Go.Am.T


set_option linter.unusedVariables false
set_option linter.unusedSimpArgs false
set_option maxRecDepth 10000
namespace Go.Am.T
attribute [local congr] selV_congr impB_congr
theorem DAt.keep {H H' : Heap} {d o : Nat} {D : Dv} (h : DAt H d o D) (hk : ∀ p, p = d ∨ p = o → H'[p]? = H[p]?) : DAt H' d o D := by
  obtain ⟨ok, ⟨ver, cap, h1, h2⟩, h3⟩ := h
  exact ⟨ok, ⟨ver, cap, by rw [hk d (.inl rfl)]; exact h1, by rw [hk o (.inr rfl)]; exact h2⟩, h3⟩
theorem DAt.lt {H : Heap} {d o : Nat} {D : Dv} (h : DAt H d o D) : d < H.length ∧ o < H.length := by
  obtain ⟨ok, ⟨ver, cap, h1, h2⟩, h3⟩ := h
  exact ⟨lt_of_get h1, lt_of_get h2⟩
theorem DAt.app {H : Heap} {d o : Nat} {D : Dv} (h : DAt H d o D) (l : Heap) : DAt (H ++ l) d o D :=
  h.keep fun p hp => List.getElem?_append_left (by rcases hp with rfl | rfl <;> simp [h.lt])
theorem RAt.keep {H H' : Heap} {r s e : Nat} {D : Dv} (h : RAt H r s e D) (hk : ∀ p, p = r ∨ p = s ∨ p = e → H'[p]? = H[p]?) : RAt H' r s e D := by
  obtain ⟨ok, ⟨ver, cap, ver', cap', h1, h2, h3⟩, h4, h5, h6⟩ := h
  exact ⟨ok, ⟨ver, cap, ver', cap', by rw [hk r (.inl rfl)]; exact h1, by rw [hk s (.inr (.inl rfl))]; exact h2, by rw [hk e (.inr (.inr rfl))]; exact h3⟩, h4, h5, h6⟩
theorem RAt.lt {H : Heap} {r s e : Nat} {D : Dv} (h : RAt H r s e D) : r < H.length ∧ s < H.length ∧ e < H.length := by
  obtain ⟨ok, ⟨ver, cap, ver', cap', h1, h2, h3⟩, h4⟩ := h
  exact ⟨lt_of_get h1, lt_of_get h2, lt_of_get h3⟩
theorem DAt.put {H H' : Heap} {d o : Nat} {D D' : Dv} {ver : Nat} {cap : Option Nat} (h : DAt H d o D) (ok : D'.Ok) (hS : D'.S = D.S) (hd : H'[d]? = some ⟨1, .var (D'.cs (.view o ver 0 D.S.length 64 cap))⟩) (ho : H[o]? = some ⟨ver, .arr (D.S.flatten.map (V.int .u8))⟩) (hk : H'[o]? = H[o]?) : DAt H' d o D' :=
  ⟨ok, ⟨ver, cap, by rw [hS]; exact hd, by rw [hk, hS]; exact ho⟩, h.apart⟩
theorem ep_bound {D : Dv} (h : D.Ok) (i : Int) : 0 ≤ D.ep i ∧ D.ep i ≤ 2147483647 := by
  unfold Dv.ep
  rw [List.getD_eq_getElem?_getD]
  cases g : D.E[i.toNat]? with
  | none => exact ⟨Int.le_refl 0, by decide⟩
  | some v => exact h.eb v (List.mem_of_getElem? g)
end Go.Am.T


set_option linter.unusedVariables false
set_option linter.unusedSimpArgs false
set_option maxRecDepth 10000
namespace Go.Am.T
attribute [local congr] selV_congr impB_congr
def Dv.may (D : Dv) (w a : Int) : Bool := D.isNode w && (decide (a ≥ 0) && decide (a < 2147483647))
end Go.Am.T


set_option linter.unusedVariables false
set_option linter.unusedSimpArgs false
set_option maxRecDepth 10000
namespace Go.Am.T
attribute [local congr] selV_congr impB_congr
end Go.Am.T


set_option linter.unusedVariables false
set_option linter.unusedSimpArgs false
set_option maxRecDepth 10000
namespace Go.Am.T
attribute [local congr] selV_congr impB_congr
end Go.Am.T


set_option linter.unusedVariables false
set_option linter.unusedSimpArgs false
set_option maxRecDepth 10000
namespace Go.Am.T
attribute [local congr] selV_congr impB_congr
theorem flat_at : ∀ {S : List (List Int)} {i : Nat}, (∀ s ∈ S, s.length = 64) → i < S.length → List.take 64 (List.drop (i * 64) (S.flatten.map (V.int .u8))) = (S.getD i zeroS).map (V.int .u8)
  | s :: S, 0, h, _ => by
    have hs := h s (by simp)
    rw [Nat.zero_mul, List.drop_zero, List.flatten_cons, List.map_append, List.take_append_of_le_length (by simp [hs]), List.take_of_length_le (by simp [hs])]
    rfl
  | s :: S, i + 1, h, hi => by
    have hs := h s (by simp)
    rw [List.flatten_cons, List.map_append, List.drop_append, List.drop_eq_nil_of_le (by simp; omega), List.nil_append, List.length_map, hs, show (i + 1) * 64 - 64 = i * 64 by omega,
      flat_at (S := S) (fun t ht => h t (by simp [ht])) (by simpa using hi)]
    rfl
end Go.Am.T


set_option linter.unusedVariables false
set_option linter.unusedSimpArgs false
set_option maxRecDepth 10000
namespace Go.Am.T
attribute [local congr] selV_congr impB_congr
theorem eqCells_ints {k : IntKind} : ∀ {n : Nat} {A B : List Int}, A.length = n → B.length = n → eqCells (List.replicate n (.i k)) (A.map (V.int k)) (B.map (V.int k)) = some (decide (A = B))
  | 0, [], [], _, _ => rfl
  | n + 1, a :: A, b :: B, h1, h2 => by
    simp only [List.replicate, List.map_cons, eqCells, eqCell, ↓reduceIte, eqCells_ints (k := k) (n := n) (A := A) (B := B) (by simpa using h1) (by simpa using h2), Option.some.injEq]
    rw [Bool.eq_iff_iff]
    simp
end Go.Am.T


set_option linter.unusedVariables false
set_option linter.unusedSimpArgs false
set_option maxRecDepth 10000
namespace Go.Am.T
attribute [local congr] selV_congr impB_congr
theorem RAt.app {H : Heap} {r s e : Nat} {D : Dv} (h : RAt H r s e D) (l : Heap) : RAt (H ++ l) r s e D :=
  h.keep fun p hp => List.getElem?_append_left (by rcases hp with rfl | rfl | rfl <;> simp [h.lt])
end Go.Am.T


set_option linter.unusedVariables false
set_option linter.unusedSimpArgs false
set_option maxRecDepth 10000
namespace Go.Am.T
attribute [local congr] selV_congr impB_congr
def newOk (s k : Int) : Bool := !(decide (s < 1) || (decide (s > 4096) || (decide (k < 1) || decide (k > 8))))
def newD (s k : Nat) : Dv := ⟨List.replicate s zeroS, List.replicate 8 0, k, false, 0, false, 0⟩
theorem newOk_true {s k : Int} (h : newOk s k = true) : 1 ≤ s ∧ s ≤ 4096 ∧ 1 ≤ k ∧ k ≤ 8 := by
  simp only [newOk, Bool.not_eq_true', Bool.or_eq_false_iff, decide_eq_false_iff_not] at h
  omega
theorem newD_ok {s k : Nat} (h1 : 1 ≤ s) (h2 : s ≤ 4096) (h3 : 1 ≤ k) (h4 : k ≤ 8) : (newD s k).Ok := by
  refine ⟨rfl, h3, h4, by simpa [newD] using h1, by simpa [newD] using h2, fun t ht => ?_, fun h => (by cases h), (by decide : (0 : Int) ≤ _), fun i hi => ?_, fun e he => ?_⟩
  · rw [List.eq_of_mem_replicate ht]; rfl
  · show (List.replicate 8 (0 : Int)).getD i 0 = 0
    rw [List.getD_eq_getElem?_getD, List.getElem?_replicate]
    split <;> rfl
  · rw [List.eq_of_mem_replicate he]
    exact ⟨Int.le_refl 0, by decide⟩
theorem zeros_flat (s : Nat) : (List.replicate s (List.replicate 64 (V.int .u8 0))).flatten = ((List.replicate s zeroS).flatten).map (V.int .u8) := by
  rw [List.map_flatten, List.map_replicate]
  rfl
theorem newD_flat (s k : Nat) : (newD s k).S.flatten = List.replicate (s * 64) 0 := List.flatten_replicate_replicate
theorem newD_eps {s k : Nat} (h : k ≤ 8) : (newD s k).eps = List.replicate k 0 := by
  have : min k 8 = k := by omega
  simp only [Dv.eps, newD, List.take_replicate, this]
theorem new_spec {N n : Nat} (hn : 1 ≤ n) (s k : Int) (H : Heap) :
    ∃ H', callA am N n 15 [.int .i64 s, .int .i64 k] H = some (.tup (bif newOk s k then [.ptr (H.length + 1) 1 0, .int .i64 0] else [.nilp, .int .i64 2]), H') ∧ H'.length = H.length + 2 ∧ (∀ p, p < H.length → H'[p]? = H[p]?) ∧
      (newOk s k = true → DAt H' (H.length + 1) H.length (newD s.toNat k.toNat) ∧ H' = H ++ [⟨1, .arr ((newD s.toNat k.toNat).S.flatten.map (V.int .u8))⟩, ⟨1, .var ((newD s.toNat k.toNat).cs (.view H.length 1 0 s.toNat 64 (some s.toNat)))⟩]) := by
  obtain ⟨n, rfl⟩ : ∃ m, n = m + 1 := ⟨n - 1, by omega⟩
  cases g : newOk s k with
  | false =>
    have g' : (decide (s < 1) || (decide (s > 4096) || (decide (k < 1) || decide (k > 8)))) = true := (Bool.not_eq_false' _).mp g
    refine ⟨H ++ [⟨0, .dead⟩, ⟨0, .dead⟩], ?_, by simp, fun p hp => List.getElem?_append_left hp, fun h => by cases h⟩
    refine call_keep_eq at15 rfl rfl (by decide) (sx_wp ?_)
    simp +contextual -implicitDefEqProofs (maxSteps := 10000000) only [sx_seq, sxL_succ, lpQ_norm, lpQ_exit, lpQ_ret, loopQ_norm, loopQ_exit, loopQ_ret, sqQ_norm, sqQ_ret, sqQ_exit, sx_block, blkQ_norm, blkQ_exit, blkQ_ret, sx_cond, cdP_true, cdP_false, cdP_bool, sx_region, sx_draw, plainD, List.all_cons, List.all_nil, List.isEmpty_nil, List.isEmpty_cons, sxo_nil, sxo_cons, sxo_guard, gdS_bool, gdS_eff, gdS_tup, gdS_sel, gdS_seleff, sxK_def, wcall_some, effP_ret, effP_set, effP_none, effP_ite, wop_call, wop_cv, cvP_func, sx_ret, sx_exit, sx_skip, sx_clr, sx_fresh, stays, ↓selV_wt, ↓selV_wf, ↓impB_wt, ↓impB_wf, ↓selV_nor, ↓impB_nor, ↓selV_nt, ↓selV_nf, ↓impB_nt, ↓impB_nf, wantB_true, wantB_false, ↓selV_true, ↓selV_false, ↓selV_and, ↓impB_true, ↓impB_false, ↓impB_and, impB_triv, valOf_some, retH_some, ↓prim_pick, pickO_true, pickO_false, pickO_and, pickO_or, pickO_andr, pickO_orr, pickO_orrn, pickO_orn, pickO_bb, pickAnd_bool, pickOr_bool, ↓selV_nn, ↓impB_nn, Bool.and_assoc, Bool.or_assoc, doOp, ev_fr, ev_cst, put_none, put_fr, get, ins, del, dels, Nat.reduceLT, Nat.reduceEqDiff, ↓reduceIte, reduceCtorEq, ne_eq, not_false_eq_true, implies_true, framed_pureF, framed_fb, framed_N, framed_pure, wop_prim, prim, YLD, mkA, V.cells, List.getElem?_cons_zero, List.getElem?_cons_succ, List.set_cons_zero, List.set_cons_succ, Nat.zero_add, Nat.add_zero, Nat.reduceAdd, Nat.reduceSub, Nat.reduceMul, Nat.reduceLeDiff, Nat.not_lt_zero, List.map_cons, List.map_nil, List.cons_append, List.nil_append, loadA, cellsAt, nAg, packA, opt_bind_some, opt_map_some, opt_bind_none, opt_map_none, List.drop, List.take, List.head?, List.length_cons, List.length_nil, binA, unA, eqCells, eqCell, negB, fillA, sr_nil, sr_cons, sr_succ, sr_all, sr_len, storeA, Ob.with, indexedI, V.oneCell, intOf?, retQ_ret, retQ_norm, resA, resA1, fr_getD, packR, sealDepth, shut_bool, shut_int, Option.some.injEq, V.bool.injEq, V.int.injEq, Bool.not_true, Bool.not_false, true_and, and_true, and_self, Bool.and_true, Bool.and_false, Bool.true_and, Bool.false_and, Bool.or_true, Bool.or_false, Bool.true_or, Bool.false_or, Bool.false_eq_true, Int.reduceLT, Int.reduceLE, Int.reduceToNat, Int.reduceNeg, shut_plain, freeL_cons, freeL_nil, free_int, free_bool, free_agg, free_str, free_nils, free_tup, free_sl, true_implies, false_implies, Nat.sub_zero, Int.natCast_nonneg, Int.toNat_natCast, Nat.le_refl, not_true_eq_false, Int.reduceAdd, Int.reduceSub, Int.reduceMul, wrap64, false_and, and_false, cond_true, cond_false, Bool.cond_true_left, Bool.cond_false_right, Int.reduceBNe, Int.reduceBEq, decide_true, decide_false, Int.cast_ofNat_Int, Nat.mul_one, eq_self, Bool.true_eq_false, Bool.not_eq_true, Bool.not_eq_false, deads, List.replicate, argsF, am15, isNil, g']
  | true =>
    obtain ⟨h1, h2, h3, h4⟩ := newOk_true g
    have g' : (decide (s < 1) || (decide (s > 4096) || (decide (k < 1) || decide (k > 8)))) = false := (Bool.not_eq_true' _).mp g
    have s0 : 0 ≤ s := by omega
    have m1 : s.toNat * 64 ≤ maxBytes := by unfold maxBytes; omega
    have m2 : s.toNat ≤ maxBytes := by unfold maxBytes; omega
    have ek : ((k.toNat : Nat) : Int) = k := by omega
    have ok := @newD_ok s.toNat k.toNat (by omega) (by omega) (by omega) (by omega)
    have eS : (newD s.toNat k.toNat).S.length = s.toNat := by simp [newD]
    refine ⟨H ++ [⟨1, .arr ((newD s.toNat k.toNat).S.flatten.map (V.int .u8))⟩, ⟨1, .var ((newD s.toNat k.toNat).cs (.view H.length 1 0 s.toNat 64 (some s.toNat)))⟩], ?_, by simp, fun p hp => List.getElem?_append_left hp, fun _ => ?_⟩
    · have e : ∀ X, (newD s.toNat k.toNat).cs X = [X, V.int .i64 0, V.int .i64 0, V.int .i64 0, V.int .i64 0, V.int .i64 0, V.int .i64 0, V.int .i64 0, V.int .i64 0, .int .i64 k, .bool false, .int .i64 0, .bool false, .int .i64 0] := fun X => by
        rw [← ek]; rfl
      rw [e]
      have z := zeros_flat s.toNat
      simp only [List.replicate] at z
      have z' : (newD s.toNat k.toNat).S.flatten.map (V.int .u8) = ((List.replicate s.toNat zeroS).flatten).map (V.int .u8) := rfl
      rw [z']
      refine call_keep_eq at15 rfl rfl (by decide) (sx_wp ?_)
      simp +contextual -implicitDefEqProofs (maxSteps := 10000000) only [sx_seq, sxL_succ, lpQ_norm, lpQ_exit, lpQ_ret, loopQ_norm, loopQ_exit, loopQ_ret, sqQ_norm, sqQ_ret, sqQ_exit, sx_block, blkQ_norm, blkQ_exit, blkQ_ret, sx_cond, cdP_true, cdP_false, cdP_bool, sx_region, sx_draw, plainD, List.all_cons, List.all_nil, List.isEmpty_nil, List.isEmpty_cons, sxo_nil, sxo_cons, sxo_guard, gdS_bool, gdS_eff, gdS_tup, gdS_sel, gdS_seleff, sxK_def, wcall_some, effP_ret, effP_set, effP_none, effP_ite, wop_call, wop_cv, cvP_func, sx_ret, sx_exit, sx_skip, sx_clr, sx_fresh, stays, ↓selV_wt, ↓selV_wf, ↓impB_wt, ↓impB_wf, ↓selV_nor, ↓impB_nor, ↓selV_nt, ↓selV_nf, ↓impB_nt, ↓impB_nf, wantB_true, wantB_false, ↓selV_true, ↓selV_false, ↓selV_and, ↓impB_true, ↓impB_false, ↓impB_and, impB_triv, valOf_some, retH_some, ↓prim_pick, pickO_true, pickO_false, pickO_and, pickO_or, pickO_andr, pickO_orr, pickO_orrn, pickO_orn, pickO_bb, pickAnd_bool, pickOr_bool, ↓selV_nn, ↓impB_nn, Bool.and_assoc, Bool.or_assoc, doOp, ev_fr, ev_cst, put_none, put_fr, get, ins, del, dels, Nat.reduceLT, Nat.reduceEqDiff, ↓reduceIte, reduceCtorEq, ne_eq, not_false_eq_true, implies_true, framed_pureF, framed_fb, framed_N, framed_pure, wop_prim, prim, YLD, mkA, V.cells, List.getElem?_cons_zero, List.getElem?_cons_succ, List.set_cons_zero, List.set_cons_succ, Nat.zero_add, Nat.add_zero, Nat.reduceAdd, Nat.reduceSub, Nat.reduceMul, Nat.reduceLeDiff, Nat.not_lt_zero, List.map_cons, List.map_nil, List.cons_append, List.nil_append, loadA, cellsAt, nAg, packA, opt_bind_some, opt_map_some, opt_bind_none, opt_map_none, List.drop, List.take, List.head?, List.length_cons, List.length_nil, binA, unA, eqCells, eqCell, negB, fillA, sr_nil, sr_cons, sr_succ, sr_all, sr_len, storeA, Ob.with, indexedI, V.oneCell, intOf?, retQ_ret, retQ_norm, resA, resA1, fr_getD, packR, sealDepth, shut_bool, shut_int, Option.some.injEq, V.bool.injEq, V.int.injEq, Bool.not_true, Bool.not_false, true_and, and_true, and_self, Bool.and_true, Bool.and_false, Bool.true_and, Bool.false_and, Bool.or_true, Bool.or_false, Bool.true_or, Bool.false_or, Bool.false_eq_true, Int.reduceLT, Int.reduceLE, Int.reduceToNat, Int.reduceNeg, shut_plain, freeL_cons, freeL_nil, free_int, free_bool, free_agg, free_str, free_nils, free_tup, free_sl, true_implies, false_implies, Nat.sub_zero, Int.natCast_nonneg, Int.toNat_natCast, Nat.le_refl, not_true_eq_false, Int.reduceAdd, Int.reduceSub, Int.reduceMul, wrap64, false_and, and_false, cond_true, cond_false, Bool.cond_true_left, Bool.cond_false_right, Int.reduceBNe, Int.reduceBEq, decide_true, decide_false, Int.cast_ofNat_Int, Nat.mul_one, eq_self, Bool.true_eq_false, Bool.not_eq_true, Bool.not_eq_false, deads, List.replicate, argsF, am15, isNil, g', s0, m1, m2, z, app_get0, app_get, app_set0, app_set, Int.le_refl, mkA]
    · refine ⟨⟨ok, ⟨1, some s.toNat, ?_, ?_⟩, by omega⟩, rfl⟩
      · rw [app_get, eS]; rfl
      · rw [app_get0]; rfl
theorem rnew_spec {N n : Nat} (hn : 1 ≤ n) (s k : Int) (H : Heap) :
    ∃ H', callA am N n 14 [.int .i64 s, .int .i64 k] H = some ((bif newOk s k then .ptr (H.length + 2) 1 0 else .nilp), H') ∧ H'.length = H.length + 3 ∧ (∀ p, p < H.length → H'[p]? = H[p]?) ∧
      (newOk s k = true → RAt H' (H.length + 2) H.length (H.length + 1) (newD s.toNat k.toNat) ∧ H' = H ++ [⟨1, .arr ((newD s.toNat k.toNat).S.flatten.map (V.int .u8))⟩, ⟨1, .arr ((newD s.toNat k.toNat).eps.map (V.int .i64))⟩, ⟨1, .var ((newD s.toNat k.toNat).rcs (.view H.length 1 0 s.toNat 64 (some s.toNat)) (.view (H.length + 1) 1 0 k.toNat 1 (some k.toNat)))⟩]) := by
  obtain ⟨n, rfl⟩ : ∃ m, n = m + 1 := ⟨n - 1, by omega⟩
  cases g : newOk s k with
  | false =>
    have g' : (decide (s < 1) || (decide (s > 4096) || (decide (k < 1) || decide (k > 8)))) = true := (Bool.not_eq_false' _).mp g
    refine ⟨H ++ [⟨0, .dead⟩, ⟨0, .dead⟩, ⟨0, .dead⟩], ?_, by simp, fun p hp => List.getElem?_append_left hp, fun h => by cases h⟩
    refine call_keep_eq at14 rfl rfl (by decide) (sx_wp ?_)
    simp +contextual -implicitDefEqProofs (maxSteps := 10000000) only [sx_seq, sxL_succ, lpQ_norm, lpQ_exit, lpQ_ret, loopQ_norm, loopQ_exit, loopQ_ret, sqQ_norm, sqQ_ret, sqQ_exit, sx_block, blkQ_norm, blkQ_exit, blkQ_ret, sx_cond, cdP_true, cdP_false, cdP_bool, sx_region, sx_draw, plainD, List.all_cons, List.all_nil, List.isEmpty_nil, List.isEmpty_cons, sxo_nil, sxo_cons, sxo_guard, gdS_bool, gdS_eff, gdS_tup, gdS_sel, gdS_seleff, sxK_def, wcall_some, effP_ret, effP_set, effP_none, effP_ite, wop_call, wop_cv, cvP_func, sx_ret, sx_exit, sx_skip, sx_clr, sx_fresh, stays, ↓selV_wt, ↓selV_wf, ↓impB_wt, ↓impB_wf, ↓selV_nor, ↓impB_nor, ↓selV_nt, ↓selV_nf, ↓impB_nt, ↓impB_nf, wantB_true, wantB_false, ↓selV_true, ↓selV_false, ↓selV_and, ↓impB_true, ↓impB_false, ↓impB_and, impB_triv, valOf_some, retH_some, ↓prim_pick, pickO_true, pickO_false, pickO_and, pickO_or, pickO_andr, pickO_orr, pickO_orrn, pickO_orn, pickO_bb, pickAnd_bool, pickOr_bool, ↓selV_nn, ↓impB_nn, Bool.and_assoc, Bool.or_assoc, doOp, ev_fr, ev_cst, put_none, put_fr, get, ins, del, dels, Nat.reduceLT, Nat.reduceEqDiff, ↓reduceIte, reduceCtorEq, ne_eq, not_false_eq_true, implies_true, framed_pureF, framed_fb, framed_N, framed_pure, wop_prim, prim, YLD, mkA, V.cells, List.getElem?_cons_zero, List.getElem?_cons_succ, List.set_cons_zero, List.set_cons_succ, Nat.zero_add, Nat.add_zero, Nat.reduceAdd, Nat.reduceSub, Nat.reduceMul, Nat.reduceLeDiff, Nat.not_lt_zero, List.map_cons, List.map_nil, List.cons_append, List.nil_append, loadA, cellsAt, nAg, packA, opt_bind_some, opt_map_some, opt_bind_none, opt_map_none, List.drop, List.take, List.head?, List.length_cons, List.length_nil, binA, unA, eqCells, eqCell, negB, fillA, sr_nil, sr_cons, sr_succ, sr_all, sr_len, storeA, Ob.with, indexedI, V.oneCell, intOf?, retQ_ret, retQ_norm, resA, resA1, fr_getD, packR, sealDepth, shut_bool, shut_int, Option.some.injEq, V.bool.injEq, V.int.injEq, Bool.not_true, Bool.not_false, true_and, and_true, and_self, Bool.and_true, Bool.and_false, Bool.true_and, Bool.false_and, Bool.or_true, Bool.or_false, Bool.true_or, Bool.false_or, Bool.false_eq_true, Int.reduceLT, Int.reduceLE, Int.reduceToNat, Int.reduceNeg, shut_plain, freeL_cons, freeL_nil, free_int, free_bool, free_agg, free_str, free_nils, free_tup, free_sl, true_implies, false_implies, Nat.sub_zero, Int.natCast_nonneg, Int.toNat_natCast, Nat.le_refl, not_true_eq_false, Int.reduceAdd, Int.reduceSub, Int.reduceMul, wrap64, false_and, and_false, cond_true, cond_false, Bool.cond_true_left, Bool.cond_false_right, Int.reduceBNe, Int.reduceBEq, decide_true, decide_false, Int.cast_ofNat_Int, Nat.mul_one, eq_self, Bool.true_eq_false, Bool.not_eq_true, Bool.not_eq_false, deads, List.replicate, argsF, am14, isNil, g']
  | true =>
    obtain ⟨h1, h2, h3, h4⟩ := newOk_true g
    have g' : (decide (s < 1) || (decide (s > 4096) || (decide (k < 1) || decide (k > 8)))) = false := (Bool.not_eq_true' _).mp g
    have s0 : 0 ≤ s := by omega
    have k0 : 0 ≤ k := by omega
    have m1 : s.toNat * 64 ≤ maxBytes := by unfold maxBytes; omega
    have m2 : s.toNat ≤ maxBytes := by unfold maxBytes; omega
    have m3 : k.toNat * 8 ≤ maxBytes := by unfold maxBytes; omega
    have m4 : k.toNat ≤ maxBytes := by unfold maxBytes; omega
    have ok := @newD_ok s.toNat k.toNat (by omega) (by omega) (by omega) (by omega)
    have eS : (newD s.toNat k.toNat).S.length = s.toNat := by simp [newD]
    have e8 : (newD s.toNat k.toNat).eps.map (V.int .i64) = (List.replicate k.toNat [V.int .i64 0]).flatten := by
      have : min k.toNat 8 = k.toNat := by omega
      simp only [Dv.eps, newD, List.take_replicate, this, List.map_replicate]
      generalize k.toNat = q
      clear this
      induction q with
      | zero => rfl
      | succ m ih => rw [List.replicate_succ, List.replicate_succ, List.flatten_cons, ← ih]; rfl
    refine ⟨H ++ [⟨1, .arr ((newD s.toNat k.toNat).S.flatten.map (V.int .u8))⟩, ⟨1, .arr ((newD s.toNat k.toNat).eps.map (V.int .i64))⟩, ⟨1, .var ((newD s.toNat k.toNat).rcs (.view H.length 1 0 s.toNat 64 (some s.toNat)) (.view (H.length + 1) 1 0 k.toNat 1 (some k.toNat)))⟩], ?_, by simp, fun p hp => List.getElem?_append_left hp, fun _ => ?_⟩
    · have e : ∀ X Y, (newD s.toNat k.toNat).rcs X Y = [X, Y, .int .i64 (-1), .bool false, .int .i64 0] := fun X Y => rfl
      rw [e, e8]
      have z := zeros_flat s.toNat
      simp only [List.replicate] at z
      have z' : (newD s.toNat k.toNat).S.flatten.map (V.int .u8) = ((List.replicate s.toNat zeroS).flatten).map (V.int .u8) := rfl
      rw [z']
      have hne : (H.length == H.length + 1) = false := by simp
      refine call_keep_eq at14 rfl rfl (by decide) (sx_wp ?_)
      simp +contextual -implicitDefEqProofs (maxSteps := 10000000) only [sx_seq, sxL_succ, lpQ_norm, lpQ_exit, lpQ_ret, loopQ_norm, loopQ_exit, loopQ_ret, sqQ_norm, sqQ_ret, sqQ_exit, sx_block, blkQ_norm, blkQ_exit, blkQ_ret, sx_cond, cdP_true, cdP_false, cdP_bool, sx_region, sx_draw, plainD, List.all_cons, List.all_nil, List.isEmpty_nil, List.isEmpty_cons, sxo_nil, sxo_cons, sxo_guard, gdS_bool, gdS_eff, gdS_tup, gdS_sel, gdS_seleff, sxK_def, wcall_some, effP_ret, effP_set, effP_none, effP_ite, wop_call, wop_cv, cvP_func, sx_ret, sx_exit, sx_skip, sx_clr, sx_fresh, stays, ↓selV_wt, ↓selV_wf, ↓impB_wt, ↓impB_wf, ↓selV_nor, ↓impB_nor, ↓selV_nt, ↓selV_nf, ↓impB_nt, ↓impB_nf, wantB_true, wantB_false, ↓selV_true, ↓selV_false, ↓selV_and, ↓impB_true, ↓impB_false, ↓impB_and, impB_triv, valOf_some, retH_some, ↓prim_pick, pickO_true, pickO_false, pickO_and, pickO_or, pickO_andr, pickO_orr, pickO_orrn, pickO_orn, pickO_bb, pickAnd_bool, pickOr_bool, ↓selV_nn, ↓impB_nn, Bool.and_assoc, Bool.or_assoc, doOp, ev_fr, ev_cst, put_none, put_fr, get, ins, del, dels, Nat.reduceLT, Nat.reduceEqDiff, ↓reduceIte, reduceCtorEq, ne_eq, not_false_eq_true, implies_true, framed_pureF, framed_fb, framed_N, framed_pure, wop_prim, prim, YLD, mkA, V.cells, List.getElem?_cons_zero, List.getElem?_cons_succ, List.set_cons_zero, List.set_cons_succ, Nat.zero_add, Nat.add_zero, Nat.reduceAdd, Nat.reduceSub, Nat.reduceMul, Nat.reduceLeDiff, Nat.not_lt_zero, List.map_cons, List.map_nil, List.cons_append, List.nil_append, loadA, cellsAt, nAg, packA, opt_bind_some, opt_map_some, opt_bind_none, opt_map_none, List.drop, List.take, List.head?, List.length_cons, List.length_nil, binA, unA, eqCells, eqCell, negB, fillA, sr_nil, sr_cons, sr_succ, sr_all, sr_len, storeA, Ob.with, indexedI, V.oneCell, intOf?, retQ_ret, retQ_norm, resA, resA1, fr_getD, packR, sealDepth, shut_bool, shut_int, Option.some.injEq, V.bool.injEq, V.int.injEq, Bool.not_true, Bool.not_false, true_and, and_true, and_self, Bool.and_true, Bool.and_false, Bool.true_and, Bool.false_and, Bool.or_true, Bool.or_false, Bool.true_or, Bool.false_or, Bool.false_eq_true, Int.reduceLT, Int.reduceLE, Int.reduceToNat, Int.reduceNeg, shut_plain, freeL_cons, freeL_nil, free_int, free_bool, free_agg, free_str, free_nils, free_tup, free_sl, true_implies, false_implies, Nat.sub_zero, Int.natCast_nonneg, Int.toNat_natCast, Nat.le_refl, not_true_eq_false, Int.reduceAdd, Int.reduceSub, Int.reduceMul, wrap64, false_and, and_false, cond_true, cond_false, Bool.cond_true_left, Bool.cond_false_right, Int.reduceBNe, Int.reduceBEq, decide_true, decide_false, Int.cast_ofNat_Int, Nat.mul_one, eq_self, Bool.true_eq_false, Bool.not_eq_true, Bool.not_eq_false, deads, List.replicate, argsF, am14, sx_drawd, reachC_nil, wpd_nil, wpd_cons, wpd_gt, wpd_gf, wpd_gu, wdK_def, fpOf, fpV, fpCall, Fp.ok, FpT.ok, tagF, AOp.rds, disj, List.contains_cons, List.contains_nil, Nat.reduceBEq, List.all_append, V.objsL, V.objs,  List.getD_cons_zero, List.getD_cons_succ, List.append_nil, hne, Bool.not_false, isNil, g', s0, k0, m1, m2, m3, m4, z, app_get0, app_get, app_set0, app_set, Int.le_refl, mkA]
    · refine ⟨⟨ok, ⟨1, some s.toNat, 1, some k.toNat, ?_, ?_, ?_⟩, by omega, by omega, by omega⟩, rfl⟩
      · rw [app_get, eS]; rfl
      · rw [app_get0]; rfl
      · rw [app_get]; rfl
end Go.Am.T


set_option linter.unusedVariables false
set_option linter.unusedSimpArgs false
set_option maxRecDepth 10000
namespace Go.Am.T
attribute [local congr] selV_congr impB_congr
theorem own_box {h : Heap} {b : Ob} {tl : List Ob} {lo : Nat} (hl : h.length = lo) : (h ++ b :: tl)[lo]? = some b := by subst hl; simp
theorem all_spec {N n : Nat} (hn : 1 ≤ n) (d : V) (hd : ∀ cs, d ≠ .agg cs) (hj : d ≠ .junk) (h1 : d.oneCell = true) (h2 : d.cells = [d]) (H : Heap) : callA am N n 41 [d] H = some (.func 59 [] [.ptr H.length 1 0], H ++ [⟨1, .var [d]⟩]) := by
  obtain ⟨n, rfl⟩ : ∃ m, n = m + 1 := ⟨n - 1, by omega⟩
  refine call_keep_eq at41 rfl rfl (by decide) (sx_wp ?_)
  simp +contextual -implicitDefEqProofs (maxSteps := 10000000) only [sx_seq, sxL_succ, lpQ_norm, lpQ_exit, lpQ_ret, loopQ_norm, loopQ_exit, loopQ_ret, sqQ_norm, sqQ_ret, sqQ_exit, sx_block, blkQ_norm, blkQ_exit, blkQ_ret, sx_cond, cdP_true, cdP_false, cdP_bool, sx_region, sx_draw, plainD, List.all_cons, List.all_nil, List.isEmpty_nil, List.isEmpty_cons, sxo_nil, sxo_cons, sxo_guard, gdS_bool, gdS_eff, gdS_tup, gdS_sel, gdS_seleff, sxK_def, wcall_some, effP_ret, effP_set, effP_none, effP_ite, wop_call, wop_cv, cvP_func, sx_ret, sx_exit, sx_skip, sx_clr, sx_fresh, stays, ↓selV_wt, ↓selV_wf, ↓impB_wt, ↓impB_wf, ↓selV_nor, ↓impB_nor, ↓selV_nt, ↓selV_nf, ↓impB_nt, ↓impB_nf, wantB_true, wantB_false, ↓selV_true, ↓selV_false, ↓selV_and, ↓impB_true, ↓impB_false, ↓impB_and, impB_triv, valOf_some, retH_some, ↓prim_pick, pickO_true, pickO_false, pickO_and, pickO_or, pickO_andr, pickO_orr, pickO_orrn, pickO_orn, pickO_bb, pickAnd_bool, pickOr_bool, ↓selV_nn, ↓impB_nn, Bool.and_assoc, Bool.or_assoc, doOp, ev_fr, ev_cst, put_none, put_fr, get, ins, del, dels, Nat.reduceLT, Nat.reduceEqDiff, ↓reduceIte, reduceCtorEq, ne_eq, not_false_eq_true, implies_true, framed_pureF, framed_fb, framed_N, framed_pure, wop_prim, prim, YLD, mkA, V.cells, List.getElem?_cons_zero, List.getElem?_cons_succ, List.set_cons_zero, List.set_cons_succ, Nat.zero_add, Nat.add_zero, Nat.reduceAdd, Nat.reduceSub, Nat.reduceMul, Nat.reduceLeDiff, Nat.not_lt_zero, List.map_cons, List.map_nil, List.cons_append, List.nil_append, loadA, cellsAt, nAg, packA, opt_bind_some, opt_map_some, opt_bind_none, opt_map_none, List.drop, List.take, List.head?, List.length_cons, List.length_nil, binA, unA, eqCells, eqCell, negB, fillA, sr_nil, sr_cons, sr_succ, sr_all, sr_len, storeA, Ob.with, indexedI, V.oneCell, intOf?, retQ_ret, retQ_norm, resA, resA1, fr_getD, packR, sealDepth, shut_bool, shut_int, Option.some.injEq, V.bool.injEq, V.int.injEq, Bool.not_true, Bool.not_false, true_and, and_true, and_self, Bool.and_true, Bool.and_false, Bool.true_and, Bool.false_and, Bool.or_true, Bool.or_false, Bool.true_or, Bool.false_or, Bool.false_eq_true, Int.reduceLT, Int.reduceLE, Int.reduceToNat, Int.reduceNeg, shut_plain, freeL_cons, freeL_nil, free_int, free_bool, free_agg, free_str, free_nils, free_tup, free_sl, true_implies, false_implies, Nat.sub_zero, Int.natCast_nonneg, Int.toNat_natCast, Nat.le_refl, not_true_eq_false, Int.reduceAdd, Int.reduceSub, Int.reduceMul, wrap64, false_and, and_false, cond_true, cond_false, Bool.cond_true_left, Bool.cond_false_right, Int.reduceBNe, Int.reduceBEq, decide_true, decide_false, Int.cast_ofNat_Int, Nat.mul_one, eq_self, Bool.true_eq_false, Bool.not_eq_true, Bool.not_eq_false, deads, List.replicate, argsF, am41, app_get0, app_get, app_set0, app_set, h1, h2]
structure Taker (D : Dv) (d so : Nat) (N n o ver lo : Nat) (stop : Nat → Bool) (Inv : Bool → Nat → Heap → Prop) : Prop where
  len : ∀ b k h, Inv b k h → h.length = lo
  dev : ∀ b k h, Inv b k h → DAt h d so D
  round : ∀ k h tl, k < D.S.length → Inv true k h → ∃ h', callA am N n YLD [.yld o ver, .int .i64 (k : Nat), secV (D.S.getD k zeroS)] (h ++ tl) = some (.bool (!stop k), h' ++ tl) ∧ Inv (!stop k) (k + 1) h'
structure Taken (L : Nat) (stop : Nat → Bool) (Inv : Bool → Nat → Heap → Prop) (b : Bool) (K : Nat) (h : Heap) : Prop where
  inv : Inv b K h
  all : b = true → K = L ∧ ∀ k, k < K → stop k = false
  left : b = false → ∃ k, K = k + 1 ∧ k < L ∧ stop k = true ∧ ∀ j, j < k → stop j = false
set_option maxHeartbeats 2000000 in
theorem iter_spec {N n : Nat} (hN : 5000 ≤ N) (hn : 3 ≤ n) {D : Dv} {d so : Nat} {o ver lo : Nat} {stop : Nat → Bool} {Inv : Bool → Nat → Heap → Prop}
    (T : Taker D d so N n o ver lo stop Inv) (h : Heap) (tl : List Ob) (hI : Inv true 0 h) :
    ∃ h' q K, callA am N (n + 1) 59 [.yld o ver, .ptr lo 1 0] (h ++ ⟨1, .var [.ptr d 1 0]⟩ :: tl) = some (.tup [], h' ++ ⟨1, .var [.ptr d 1 0]⟩ :: tl) ∧ Taken D.S.length stop Inv q K h' := by
  have hl := T.len _ _ _ hI
  have ok := (T.dev _ _ _ hI).ok
  have s4 := ok.s4
  have c32 := @size_spec N n (by omega) (h ++ ⟨1, .var [.ptr d 1 0]⟩ :: tl) _ _ ((T.dev _ _ _ hI).app _).looks
  suffices H : ∃ v' h'', callA am N (n + 1) 59 [.yld o ver, .ptr lo 1 0] (h ++ ⟨1, .var [.ptr d 1 0]⟩ :: tl) = some (v', h'') ∧ v' = .tup [] ∧ ∃ h' b K, h'' = h' ++ ⟨1, .var [.ptr d 1 0]⟩ :: tl ∧ Taken D.S.length stop Inv b K h' by
    obtain ⟨_, _, h1, rfl, h', b, K, rfl, h2⟩ := H
    exact ⟨h', b, K, h1, h2⟩
  refine call_keep at59 rfl rfl (by decide) (sx_wp ?_)
  have b0 := @own_box h ⟨1, .var [.ptr d 1 0]⟩ tl lo hl
  simp +contextual -implicitDefEqProofs (maxSteps := 10000000) only [sx_seq, sxL_succ, lpQ_norm, lpQ_exit, lpQ_ret, loopQ_norm, loopQ_exit, loopQ_ret, sqQ_norm, sqQ_ret, sqQ_exit, sx_block, blkQ_norm, blkQ_exit, blkQ_ret, sx_cond, cdP_true, cdP_false, cdP_bool, sx_region, sx_draw, plainD, List.all_cons, List.all_nil, List.isEmpty_nil, List.isEmpty_cons, sxo_nil, sxo_cons, sxo_guard, gdS_bool, gdS_eff, gdS_tup, gdS_sel, gdS_seleff, sxK_def, wcall_some, effP_ret, effP_set, effP_none, effP_ite, wop_call, wop_cv, cvP_func, sx_ret, sx_exit, sx_skip, sx_clr, sx_fresh, stays, ↓selV_wt, ↓selV_wf, ↓impB_wt, ↓impB_wf, ↓selV_nor, ↓impB_nor, ↓selV_nt, ↓selV_nf, ↓impB_nt, ↓impB_nf, wantB_true, wantB_false, ↓selV_true, ↓selV_false, ↓selV_and, ↓impB_true, ↓impB_false, ↓impB_and, impB_triv, valOf_some, retH_some, ↓prim_pick, pickO_true, pickO_false, pickO_and, pickO_or, pickO_andr, pickO_orr, pickO_orrn, pickO_orn, pickO_bb, pickAnd_bool, pickOr_bool, ↓selV_nn, ↓impB_nn, Bool.and_assoc, Bool.or_assoc, doOp, ev_fr, ev_cst, put_none, put_fr, get, ins, del, dels, Nat.reduceLT, Nat.reduceEqDiff, ↓reduceIte, reduceCtorEq, ne_eq, not_false_eq_true, implies_true, framed_pureF, framed_fb, framed_N, framed_pure, wop_prim, prim, YLD, mkA, V.cells, List.getElem?_cons_zero, List.getElem?_cons_succ, List.set_cons_zero, List.set_cons_succ, Nat.zero_add, Nat.add_zero, Nat.reduceAdd, Nat.reduceSub, Nat.reduceMul, Nat.reduceLeDiff, Nat.not_lt_zero, List.map_cons, List.map_nil, List.cons_append, List.nil_append, loadA, cellsAt, nAg, packA, opt_bind_some, opt_map_some, opt_bind_none, opt_map_none, List.drop, List.take, List.head?, List.length_cons, List.length_nil, binA, unA, eqCells, eqCell, negB, fillA, sr_nil, sr_cons, sr_succ, sr_all, sr_len, storeA, Ob.with, indexedI, V.oneCell, intOf?, retQ_ret, retQ_norm, resA, resA1, fr_getD, packR, sealDepth, shut_bool, shut_int, Option.some.injEq, V.bool.injEq, V.int.injEq, Bool.not_true, Bool.not_false, true_and, and_true, and_self, Bool.and_true, Bool.and_false, Bool.true_and, Bool.false_and, Bool.or_true, Bool.or_false, Bool.true_or, Bool.false_or, Bool.false_eq_true, Int.reduceLT, Int.reduceLE, Int.reduceToNat, Int.reduceNeg, shut_plain, freeL_cons, freeL_nil, free_int, free_bool, free_agg, free_str, free_nils, free_tup, free_sl, true_implies, false_implies, Nat.sub_zero, Int.natCast_nonneg, Int.toNat_natCast, Nat.le_refl, not_true_eq_false, Int.reduceAdd, Int.reduceSub, Int.reduceMul, wrap64, false_and, and_false, cond_true, cond_false, Bool.cond_true_left, Bool.cond_false_right, Int.reduceBNe, Int.reduceBEq, decide_true, decide_false, Int.cast_ofNat_Int, Nat.mul_one, eq_self, Bool.true_eq_false, Bool.not_eq_true, Bool.not_eq_false, deads, List.replicate, argsF, am59, b0, c32, List.append_nil]
  refine sx_loop (fun i t H => t = fr 21 [(0, .yld o ver), (1, .ptr lo 1 0), (5, .int .i64 D.S.length), (6, .int .i64 i)] ∧ i ≤ D.S.length ∧ ∃ h1, H = h1 ++ ⟨1, .var [.ptr d 1 0]⟩ :: tl ∧ Inv true i h1 ∧ ∀ j, j < i → stop j = false) D.S.length (by show D.S.length < N; omega) ⟨rfl, Nat.zero_le _, h, rfl, hI, fun j hj => by omega⟩ ?_
  rintro i t H hi ⟨rfl, hi8, h1, rfl, hI1, hf⟩
  have hl1 := T.len _ _ _ hI1
  have b0 := @own_box h1 ⟨1, .var [.ptr d 1 0]⟩ tl lo hl1
  by_cases hlt : i < D.S.length
  · have g1 : decide ((i : Int) < (D.S.length : Int)) = true := decide_eq_true (by omega)
    have i0 : (0 : Int) ≤ (i : Int) := by omega
    have i1 : (i : Int) < (D.S.length : Int) := by omega
    have w4 : IntKind.i64.wrap ((i : Int) + 1) = ((i + 1 : Nat) : Int) := (wrap64 (by omega) (by omega)).trans (by omega)
    have hi1 : i + 1 ≤ D.S.length := by omega
    obtain ⟨v0, cap, hd, ho⟩ := ((T.dev _ _ _ hI1).app (⟨1, .var [.ptr d 1 0]⟩ :: tl)).ob
    have q1 := fun X => @dv_len D X ok.e8
    have q0 : ∀ X, List.take 1 (D.cs X) = [X] := fun X => rfl
    have fl : (D.S.flatten.map (V.int .u8)).length = D.S.length * 64 := by rw [List.length_map, flat_len ok.sec]
    have le : i * 64 + 64 ≤ D.S.length * 64 := by omega
    have fa := @flat_at D.S i ok.sec hlt
    have oa := ints_one .u8 (D.S.getD i zeroS)
    obtain ⟨h2, hr, hI2⟩ := T.round i h1 (⟨1, .var [.ptr d 1 0]⟩ :: tl) hlt hI1
    unfold secV at hr
    generalize D.S.flatten.map (V.int .u8) = F at *
    generalize (D.S.getD i zeroS).map (V.int .u8) = as at *
    cases hs : stop i with
    | true =>
      rw [hs] at hr hI2
      simp +contextual -implicitDefEqProofs (maxSteps := 10000000) only [sx_seq, sxL_succ, lpQ_norm, lpQ_exit, lpQ_ret, loopQ_norm, loopQ_exit, loopQ_ret, sqQ_norm, sqQ_ret, sqQ_exit, sx_block, blkQ_norm, blkQ_exit, blkQ_ret, sx_cond, cdP_true, cdP_false, cdP_bool, sx_region, sx_draw, plainD, List.all_cons, List.all_nil, List.isEmpty_nil, List.isEmpty_cons, sxo_nil, sxo_cons, sxo_guard, gdS_bool, gdS_eff, gdS_tup, gdS_sel, gdS_seleff, sxK_def, wcall_some, effP_ret, effP_set, effP_none, effP_ite, wop_call, wop_cv, cvP_func, sx_ret, sx_exit, sx_skip, sx_clr, sx_fresh, stays, ↓selV_wt, ↓selV_wf, ↓impB_wt, ↓impB_wf, ↓selV_nor, ↓impB_nor, ↓selV_nt, ↓selV_nf, ↓impB_nt, ↓impB_nf, wantB_true, wantB_false, ↓selV_true, ↓selV_false, ↓selV_and, ↓impB_true, ↓impB_false, ↓impB_and, impB_triv, valOf_some, retH_some, ↓prim_pick, pickO_true, pickO_false, pickO_and, pickO_or, pickO_andr, pickO_orr, pickO_orrn, pickO_orn, pickO_bb, pickAnd_bool, pickOr_bool, ↓selV_nn, ↓impB_nn, Bool.and_assoc, Bool.or_assoc, doOp, ev_fr, ev_cst, put_none, put_fr, get, ins, del, dels, Nat.reduceLT, Nat.reduceEqDiff, ↓reduceIte, reduceCtorEq, ne_eq, not_false_eq_true, implies_true, framed_pureF, framed_fb, framed_N, framed_pure, wop_prim, prim, YLD, mkA, V.cells, List.getElem?_cons_zero, List.getElem?_cons_succ, List.set_cons_zero, List.set_cons_succ, Nat.zero_add, Nat.add_zero, Nat.reduceAdd, Nat.reduceSub, Nat.reduceMul, Nat.reduceLeDiff, Nat.not_lt_zero, List.map_cons, List.map_nil, List.cons_append, List.nil_append, loadA, cellsAt, nAg, packA, opt_bind_some, opt_map_some, opt_bind_none, opt_map_none, List.drop, List.take, List.head?, List.length_cons, List.length_nil, binA, unA, eqCells, eqCell, negB, fillA, sr_nil, sr_cons, sr_succ, sr_all, sr_len, storeA, Ob.with, indexedI, V.oneCell, intOf?, retQ_ret, retQ_norm, resA, resA1, fr_getD, packR, sealDepth, shut_bool, shut_int, Option.some.injEq, V.bool.injEq, V.int.injEq, Bool.not_true, Bool.not_false, true_and, and_true, and_self, Bool.and_true, Bool.and_false, Bool.true_and, Bool.false_and, Bool.or_true, Bool.or_false, Bool.true_or, Bool.false_or, Bool.false_eq_true, Int.reduceLT, Int.reduceLE, Int.reduceToNat, Int.reduceNeg, shut_plain, freeL_cons, freeL_nil, free_int, free_bool, free_agg, free_str, free_nils, free_tup, free_sl, true_implies, false_implies, Nat.sub_zero, Int.natCast_nonneg, Int.toNat_natCast, Nat.le_refl, not_true_eq_false, Int.reduceAdd, Int.reduceSub, Int.reduceMul, wrap64, false_and, and_false, cond_true, cond_false, Bool.cond_true_left, Bool.cond_false_right, Int.reduceBNe, Int.reduceBEq, decide_true, decide_false, Int.cast_ofNat_Int, Nat.mul_one, eq_self, Bool.true_eq_false, Bool.not_eq_true, Bool.not_eq_false, deads, List.replicate, argsF, g1, b0, hd, ho, q1, q0, iaddrSA, i0, i1, fl, le, fa, oa, cvP_yld, hr, Int.toNat_natCast, List.append_nil]
      exact ⟨h2, false, _, rfl, hI2, fun h => by (cases h), fun _ => ⟨_, rfl, hlt, hs, hf⟩⟩
    | false =>
      rw [hs] at hr hI2
      simp +contextual -implicitDefEqProofs (maxSteps := 10000000) only [sx_seq, sxL_succ, lpQ_norm, lpQ_exit, lpQ_ret, loopQ_norm, loopQ_exit, loopQ_ret, sqQ_norm, sqQ_ret, sqQ_exit, sx_block, blkQ_norm, blkQ_exit, blkQ_ret, sx_cond, cdP_true, cdP_false, cdP_bool, sx_region, sx_draw, plainD, List.all_cons, List.all_nil, List.isEmpty_nil, List.isEmpty_cons, sxo_nil, sxo_cons, sxo_guard, gdS_bool, gdS_eff, gdS_tup, gdS_sel, gdS_seleff, sxK_def, wcall_some, effP_ret, effP_set, effP_none, effP_ite, wop_call, wop_cv, cvP_func, sx_ret, sx_exit, sx_skip, sx_clr, sx_fresh, stays, ↓selV_wt, ↓selV_wf, ↓impB_wt, ↓impB_wf, ↓selV_nor, ↓impB_nor, ↓selV_nt, ↓selV_nf, ↓impB_nt, ↓impB_nf, wantB_true, wantB_false, ↓selV_true, ↓selV_false, ↓selV_and, ↓impB_true, ↓impB_false, ↓impB_and, impB_triv, valOf_some, retH_some, ↓prim_pick, pickO_true, pickO_false, pickO_and, pickO_or, pickO_andr, pickO_orr, pickO_orrn, pickO_orn, pickO_bb, pickAnd_bool, pickOr_bool, ↓selV_nn, ↓impB_nn, Bool.and_assoc, Bool.or_assoc, doOp, ev_fr, ev_cst, put_none, put_fr, get, ins, del, dels, Nat.reduceLT, Nat.reduceEqDiff, ↓reduceIte, reduceCtorEq, ne_eq, not_false_eq_true, implies_true, framed_pureF, framed_fb, framed_N, framed_pure, wop_prim, prim, YLD, mkA, V.cells, List.getElem?_cons_zero, List.getElem?_cons_succ, List.set_cons_zero, List.set_cons_succ, Nat.zero_add, Nat.add_zero, Nat.reduceAdd, Nat.reduceSub, Nat.reduceMul, Nat.reduceLeDiff, Nat.not_lt_zero, List.map_cons, List.map_nil, List.cons_append, List.nil_append, loadA, cellsAt, nAg, packA, opt_bind_some, opt_map_some, opt_bind_none, opt_map_none, List.drop, List.take, List.head?, List.length_cons, List.length_nil, binA, unA, eqCells, eqCell, negB, fillA, sr_nil, sr_cons, sr_succ, sr_all, sr_len, storeA, Ob.with, indexedI, V.oneCell, intOf?, retQ_ret, retQ_norm, resA, resA1, fr_getD, packR, sealDepth, shut_bool, shut_int, Option.some.injEq, V.bool.injEq, V.int.injEq, Bool.not_true, Bool.not_false, true_and, and_true, and_self, Bool.and_true, Bool.and_false, Bool.true_and, Bool.false_and, Bool.or_true, Bool.or_false, Bool.true_or, Bool.false_or, Bool.false_eq_true, Int.reduceLT, Int.reduceLE, Int.reduceToNat, Int.reduceNeg, shut_plain, freeL_cons, freeL_nil, free_int, free_bool, free_agg, free_str, free_nils, free_tup, free_sl, true_implies, false_implies, Nat.sub_zero, Int.natCast_nonneg, Int.toNat_natCast, Nat.le_refl, not_true_eq_false, Int.reduceAdd, Int.reduceSub, Int.reduceMul, wrap64, false_and, and_false, cond_true, cond_false, Bool.cond_true_left, Bool.cond_false_right, Int.reduceBNe, Int.reduceBEq, decide_true, decide_false, Int.cast_ofNat_Int, Nat.mul_one, eq_self, Bool.true_eq_false, Bool.not_eq_true, Bool.not_eq_false, deads, List.replicate, argsF, g1, b0, hd, ho, q1, q0, iaddrSA, i0, i1, fl, le, fa, oa, cvP_yld, hr, w4, hi1, hlt, Int.toNat_natCast, List.append_nil]
      refine ⟨h2, rfl, hI2, fun j hj => ?_⟩
      by_cases ej : j = i
      · rw [ej]; exact hs
      · exact hf j (by omega)
  · have e8 : i = D.S.length := by omega
    subst e8
    have g1 : decide ((D.S.length : Int) < (D.S.length : Int)) = false := decide_eq_false (by omega)
    simp +contextual -implicitDefEqProofs (maxSteps := 10000000) only [sx_seq, sxL_succ, lpQ_norm, lpQ_exit, lpQ_ret, loopQ_norm, loopQ_exit, loopQ_ret, sqQ_norm, sqQ_ret, sqQ_exit, sx_block, blkQ_norm, blkQ_exit, blkQ_ret, sx_cond, cdP_true, cdP_false, cdP_bool, sx_region, sx_draw, plainD, List.all_cons, List.all_nil, List.isEmpty_nil, List.isEmpty_cons, sxo_nil, sxo_cons, sxo_guard, gdS_bool, gdS_eff, gdS_tup, gdS_sel, gdS_seleff, sxK_def, wcall_some, effP_ret, effP_set, effP_none, effP_ite, wop_call, wop_cv, cvP_func, sx_ret, sx_exit, sx_skip, sx_clr, sx_fresh, stays, ↓selV_wt, ↓selV_wf, ↓impB_wt, ↓impB_wf, ↓selV_nor, ↓impB_nor, ↓selV_nt, ↓selV_nf, ↓impB_nt, ↓impB_nf, wantB_true, wantB_false, ↓selV_true, ↓selV_false, ↓selV_and, ↓impB_true, ↓impB_false, ↓impB_and, impB_triv, valOf_some, retH_some, ↓prim_pick, pickO_true, pickO_false, pickO_and, pickO_or, pickO_andr, pickO_orr, pickO_orrn, pickO_orn, pickO_bb, pickAnd_bool, pickOr_bool, ↓selV_nn, ↓impB_nn, Bool.and_assoc, Bool.or_assoc, doOp, ev_fr, ev_cst, put_none, put_fr, get, ins, del, dels, Nat.reduceLT, Nat.reduceEqDiff, ↓reduceIte, reduceCtorEq, ne_eq, not_false_eq_true, implies_true, framed_pureF, framed_fb, framed_N, framed_pure, wop_prim, prim, YLD, mkA, V.cells, List.getElem?_cons_zero, List.getElem?_cons_succ, List.set_cons_zero, List.set_cons_succ, Nat.zero_add, Nat.add_zero, Nat.reduceAdd, Nat.reduceSub, Nat.reduceMul, Nat.reduceLeDiff, Nat.not_lt_zero, List.map_cons, List.map_nil, List.cons_append, List.nil_append, loadA, cellsAt, nAg, packA, opt_bind_some, opt_map_some, opt_bind_none, opt_map_none, List.drop, List.take, List.head?, List.length_cons, List.length_nil, binA, unA, eqCells, eqCell, negB, fillA, sr_nil, sr_cons, sr_succ, sr_all, sr_len, storeA, Ob.with, indexedI, V.oneCell, intOf?, retQ_ret, retQ_norm, resA, resA1, fr_getD, packR, sealDepth, shut_bool, shut_int, Option.some.injEq, V.bool.injEq, V.int.injEq, Bool.not_true, Bool.not_false, true_and, and_true, and_self, Bool.and_true, Bool.and_false, Bool.true_and, Bool.false_and, Bool.or_true, Bool.or_false, Bool.true_or, Bool.false_or, Bool.false_eq_true, Int.reduceLT, Int.reduceLE, Int.reduceToNat, Int.reduceNeg, shut_plain, freeL_cons, freeL_nil, free_int, free_bool, free_agg, free_str, free_nils, free_tup, free_sl, true_implies, false_implies, Nat.sub_zero, Int.natCast_nonneg, Int.toNat_natCast, Nat.le_refl, not_true_eq_false, Int.reduceAdd, Int.reduceSub, Int.reduceMul, wrap64, false_and, and_false, cond_true, cond_false, Bool.cond_true_left, Bool.cond_false_right, Int.reduceBNe, Int.reduceBEq, decide_true, decide_false, Int.cast_ofNat_Int, Nat.mul_one, eq_self, Bool.true_eq_false, Bool.not_eq_true, Bool.not_eq_false, deads, List.replicate, argsF, g1, List.append_nil]
    exact ⟨h1, true, _, rfl, hI1, fun _ => ⟨rfl, hf⟩, fun h => by cases h⟩
end Go.Am.T


set_option linter.unusedVariables false
set_option linter.unusedSimpArgs false
set_option maxRecDepth 10000
namespace Go.Am.T
attribute [local congr] selV_congr impB_congr
def BRow (o : Nat) (y : Ob) (W : V) (L : List Int) : Prop :=
  (L = [] ∧ W = .nils) ∨ (L ≠ [] ∧ W = .view o y.ver 0 L.length 1 none ∧ y.bd = .arr (L.map (V.int .u8)))
theorem brow_append {H : Heap} {o m : Nat} {y : Ob} {W z : V} {L new : List Int} (h : BRow o y W L) (ho : H[o]? = some y) (hl : lenA z = some m) (hf : firstA (fun o => H[o]?) 1 m z = some (new.map (V.int .u8))) (hm : new.length = m) (h0 : m ≠ 0) (hb : L.length + m ≤ 1000000) :
    ∃ v, appendA (fun o => H[o]?) o 1 1 W z = some (.set o ⟨v, .arr ((L ++ new).map (V.int .u8))⟩ (.view o v 0 (L ++ new).length 1 none)) := by
  have h1 := ints_one .u8 new
  rcases h with ⟨rfl, rfl⟩ | ⟨hne, rfl, hy⟩
  · refine ⟨y.ver + 1, ?_⟩
    have : m ≤ maxBytes := by simp only [List.length_nil] at hb; unfold maxBytes; omega
    simp [appendA, hl, hf, h1, h0, mkA, ho, this, hm]
  · refine ⟨y.ver + 1, ?_⟩
    have : L.length + m ≤ maxBytes := by unfold maxBytes; omega
    obtain ⟨ver, bd⟩ := y
    simp only at hy
    subst hy
    simp [appendA, hl, hf, h1, h0, cellsAt, ho, this, hm]
theorem brow_mk {o v : Nat} {L : List Int} (h : L ≠ []) : BRow o ⟨v, .arr (L.map (V.int .u8))⟩ (.view o v 0 L.length 1 none) L := .inr ⟨h, rfl, rfl⟩
theorem brow_one {o : Nat} {y : Ob} {W : V} {L : List Int} (h : BRow o y W L) : W.cells = [W] ∧ W.oneCell = true ∧ (∀ cs, W ≠ .agg cs) ∧ W ≠ .junk ∧ (∀ cs, W ≠ .tup cs) := by
  rcases h with ⟨-, rfl⟩ | ⟨-, rfl, -⟩ <;> exact ⟨rfl, rfl, fun _ => V.noConfusion, V.noConfusion, fun _ => V.noConfusion⟩
def tB (b : Nat) : List V := fr 14 [(2, .nils), (3, .ptr b 1 0), (7, .func 59 [] [.ptr (b + 4) 1 0])]
def InvB (H : Heap) (D : Dv) : Bool → Nat → Heap → Prop
  | true, k, h => ∃ W x1 y, h = H ++ [⟨1, .var [W]⟩, x1, y, ⟨1, .loop 0 none (tB H.length) H.length 35 0⟩] ∧ BRow (H.length + 2) y W (D.S.take k).flatten
  | false, _, _ => False
theorem take_flat_len {D : Dv} (ok : D.Ok) (k : Nat) : (D.S.take k).flatten.length = (D.S.take k).length * 64 := flat_len fun s hs => ok.sec s (List.mem_of_mem_take hs)
theorem take_flat_succ {D : Dv} {k : Nat} (hk : k < D.S.length) : (D.S.take (k + 1)).flatten = (D.S.take k).flatten ++ D.S.getD k zeroS := by
  rw [List.take_add_one, List.flatten_append, List.getElem?_eq_getElem hk, List.getD_eq_getElem?_getD, List.getElem?_eq_getElem hk]
  simp
set_option maxHeartbeats 1000000 in
theorem bytes_taker {N n : Nat} (hn : 1 ≤ n) {H : Heap} {d so : Nat} {D : Dv} (h : DAt H d so D) : Taker D d so N n (H.length + 3) 1 (H.length + 4) (fun _ => false) (InvB H D) := by
  have ok := h.ok
  have s4 := ok.s4
  refine ⟨?_, ?_, ?_⟩
  · rintro (_ | _) k h1 hI
    · exact hI.elim
    · obtain ⟨W, x1, y, rfl, -⟩ := hI
      simp
  · rintro (_ | _) k h1 hI
    · exact hI.elim
    · obtain ⟨W, x1, y, rfl, -⟩ := hI
      exact h.app _
  · rintro k h1 tl hk ⟨W, x1, y, rfl, hR⟩
    obtain ⟨n, rfl⟩ : ∃ m, n = m + 1 := ⟨n - 1, by omega⟩
    obtain ⟨hW1, hW2, hW3, hW4, hW5⟩ := brow_one hR
    have hl : (D.S.getD k zeroS).length = 64 := by
      rw [List.getD_eq_getElem?_getD, List.getElem?_eq_getElem hk]
      exact ok.sec _ (List.getElem_mem hk)
    have hl' : ((D.S.getD k zeroS).map (V.int .u8)).length = 64 := by rw [List.length_map, hl]
    have oa := ints_one .u8 (D.S.getD k zeroS)
    have tk : List.take 64 ((D.S.getD k zeroS).map (V.int .u8)) = (D.S.getD k zeroS).map (V.int .u8) := List.take_of_length_le (by rw [hl']; exact Nat.le_refl _)
    obtain ⟨K, hK⟩ : ∃ K : Heap, K = H ++ (⟨1, .var [W]⟩ :: ⟨x1.ver + 1, .var ((D.S.getD k zeroS).map (V.int .u8))⟩ :: y :: ⟨1, .loop 1 none (tB H.length) H.length 35 0⟩ :: tl) := ⟨_, rfl⟩
    have k1 : K[H.length + 1]? = some ⟨x1.ver + 1, .var ((D.S.getD k zeroS).map (V.int .u8))⟩ := by rw [hK, app_get]; rfl
    have hbl : (D.S.take k).flatten.length + 64 ≤ 1000000 := by
      rw [take_flat_len ok]
      have : (D.S.take k).length ≤ k := by rw [List.length_take]; omega
      omega
    obtain ⟨v, ha⟩ := @brow_append K (H.length + 2) 64 y W (.view (H.length + 1) (x1.ver + 1) 0 64 1 (some 64)) _ (D.S.getD k zeroS) hR (by rw [hK, app_get]; rfl) rfl (by
      simp only [firstA, ↓reduceIte, Nat.le_refl, loadA, cellsAt, k1, hl', Nat.mul_one, Nat.zero_add, List.drop_zero, tk]) hl (by decide) hbl
    have hR2 : BRow (H.length + 2) ⟨v, .arr (((D.S.take k).flatten ++ D.S.getD k zeroS).map (V.int .u8))⟩ (.view (H.length + 2) v 0 ((D.S.take k).flatten ++ D.S.getD k zeroS).length 1 none) ((D.S.take (k + 1)).flatten) := by
      rw [take_flat_succ hk]
      exact brow_mk fun e => by rw [List.append_eq_nil_iff] at e; rw [e.2] at hl; cases hl
    refine ⟨H ++ [⟨1, .var [.view (H.length + 2) v 0 ((D.S.take k).flatten ++ D.S.getD k zeroS).length 1 none]⟩, ⟨x1.ver + 1, .var ((D.S.getD k zeroS).map (V.int .u8))⟩, ⟨v, .arr (((D.S.take k).flatten ++ D.S.getD k zeroS).map (V.int .u8))⟩, ⟨1, .loop 0 none (tB H.length) H.length 35 0⟩], ?_, ⟨_, _, _, rfl, hR2⟩⟩
    generalize ((D.S.take k).flatten ++ D.S.getD k zeroS).length = len at *
    generalize ((D.S.take k).flatten ++ D.S.getD k zeroS).map (V.int .u8) = new at *
    unfold secV
    generalize (D.S.getD k zeroS).map (V.int .u8) = as at *
    subst hK
    rw [List.append_assoc, List.append_assoc]
    simp only [List.cons_append, List.nil_append]
    refine call_yld (st := 0) (pd := none) (t := tB H.length) (fb := H.length) (f := 35) (k := 0) (af := am35) (ho := by rw [app_get]; rfl) (hp := at35) (hr := rfl) (hl := rfl) ?_
    unfold tB at *
    simp +contextual -implicitDefEqProofs (maxSteps := 10000000) only [sx_seq, sxL_succ, lpQ_norm, lpQ_exit, lpQ_ret, loopQ_norm, loopQ_exit, loopQ_ret, sqQ_norm, sqQ_ret, sqQ_exit, sx_block, blkQ_norm, blkQ_exit, blkQ_ret, sx_cond, cdP_true, cdP_false, cdP_bool, sx_region, sx_draw, plainD, List.all_cons, List.all_nil, List.isEmpty_nil, List.isEmpty_cons, sxo_nil, sxo_cons, sxo_guard, gdS_bool, gdS_eff, gdS_tup, gdS_sel, gdS_seleff, sxK_def, wcall_some, effP_ret, effP_set, effP_none, effP_ite, wop_call, wop_cv, cvP_func, sx_ret, sx_exit, sx_skip, sx_clr, sx_fresh, stays, ↓selV_wt, ↓selV_wf, ↓impB_wt, ↓impB_wf, ↓selV_nor, ↓impB_nor, ↓selV_nt, ↓selV_nf, ↓impB_nt, ↓impB_nf, wantB_true, wantB_false, ↓selV_true, ↓selV_false, ↓selV_and, ↓impB_true, ↓impB_false, ↓impB_and, impB_triv, valOf_some, retH_some, ↓prim_pick, pickO_true, pickO_false, pickO_and, pickO_or, pickO_andr, pickO_orr, pickO_orrn, pickO_orn, pickO_bb, pickAnd_bool, pickOr_bool, ↓selV_nn, ↓impB_nn, Bool.and_assoc, Bool.or_assoc, doOp, ev_fr, ev_cst, put_none, put_fr, get, ins, del, dels, Nat.reduceLT, Nat.reduceEqDiff, ↓reduceIte, reduceCtorEq, ne_eq, not_false_eq_true, implies_true, framed_pureF, framed_fb, framed_N, framed_pure, wop_prim, prim, YLD, mkA, V.cells, List.getElem?_cons_zero, List.getElem?_cons_succ, List.set_cons_zero, List.set_cons_succ, Nat.zero_add, Nat.add_zero, Nat.reduceAdd, Nat.reduceSub, Nat.reduceMul, Nat.reduceLeDiff, Nat.not_lt_zero, List.map_cons, List.map_nil, List.cons_append, List.nil_append, loadA, cellsAt, nAg, packA, opt_bind_some, opt_map_some, opt_bind_none, opt_map_none, List.drop, List.take, List.head?, List.length_cons, List.length_nil, binA, unA, eqCells, eqCell, negB, fillA, sr_nil, sr_cons, sr_succ, sr_all, sr_len, storeA, Ob.with, indexedI, V.oneCell, intOf?, retQ_ret, retQ_norm, resA, resA1, fr_getD, packR, sealDepth, shut_bool, shut_int, Option.some.injEq, V.bool.injEq, V.int.injEq, Bool.not_true, Bool.not_false, true_and, and_true, and_self, Bool.and_true, Bool.and_false, Bool.true_and, Bool.false_and, Bool.or_true, Bool.or_false, Bool.true_or, Bool.false_or, Bool.false_eq_true, Int.reduceLT, Int.reduceLE, Int.reduceToNat, Int.reduceNeg, shut_plain, freeL_cons, freeL_nil, free_int, free_bool, free_agg, free_str, free_nils, free_tup, free_sl, true_implies, false_implies, Nat.sub_zero, Int.natCast_nonneg, Int.toNat_natCast, Nat.le_refl, not_true_eq_false, Int.reduceAdd, Int.reduceSub, Int.reduceMul, wrap64, false_and, and_false, cond_true, cond_false, Bool.cond_true_left, Bool.cond_false_right, Int.reduceBNe, Int.reduceBEq, decide_true, decide_false, Int.cast_ofNat_Int, Nat.mul_one, eq_self, Bool.true_eq_false, Bool.not_eq_true, Bool.not_eq_false, deads, List.replicate, argsF, setPs_cons, setPs_nil, app_get0, app_get, app_set0, app_set, oa, hl', mkA]
    refine ⟨_, _, _, _, _, rfl, ?_⟩
    simp +contextual -implicitDefEqProofs (maxSteps := 10000000) only [sx_seq, sxL_succ, lpQ_norm, lpQ_exit, lpQ_ret, loopQ_norm, loopQ_exit, loopQ_ret, sqQ_norm, sqQ_ret, sqQ_exit, sx_block, blkQ_norm, blkQ_exit, blkQ_ret, sx_cond, cdP_true, cdP_false, cdP_bool, sx_region, sx_draw, plainD, List.all_cons, List.all_nil, List.isEmpty_nil, List.isEmpty_cons, sxo_nil, sxo_cons, sxo_guard, gdS_bool, gdS_eff, gdS_tup, gdS_sel, gdS_seleff, sxK_def, wcall_some, effP_ret, effP_set, effP_none, effP_ite, wop_call, wop_cv, cvP_func, sx_ret, sx_exit, sx_skip, sx_clr, sx_fresh, stays, ↓selV_wt, ↓selV_wf, ↓impB_wt, ↓impB_wf, ↓selV_nor, ↓impB_nor, ↓selV_nt, ↓selV_nf, ↓impB_nt, ↓impB_nf, wantB_true, wantB_false, ↓selV_true, ↓selV_false, ↓selV_and, ↓impB_true, ↓impB_false, ↓impB_and, impB_triv, valOf_some, retH_some, ↓prim_pick, pickO_true, pickO_false, pickO_and, pickO_or, pickO_andr, pickO_orr, pickO_orrn, pickO_orn, pickO_bb, pickAnd_bool, pickOr_bool, ↓selV_nn, ↓impB_nn, Bool.and_assoc, Bool.or_assoc, doOp, ev_fr, ev_cst, put_none, put_fr, get, ins, del, dels, Nat.reduceLT, Nat.reduceEqDiff, ↓reduceIte, reduceCtorEq, ne_eq, not_false_eq_true, implies_true, framed_pureF, framed_fb, framed_N, framed_pure, wop_prim, prim, YLD, mkA, V.cells, List.getElem?_cons_zero, List.getElem?_cons_succ, List.set_cons_zero, List.set_cons_succ, Nat.zero_add, Nat.add_zero, Nat.reduceAdd, Nat.reduceSub, Nat.reduceMul, Nat.reduceLeDiff, Nat.not_lt_zero, List.map_cons, List.map_nil, List.cons_append, List.nil_append, loadA, cellsAt, nAg, packA, opt_bind_some, opt_map_some, opt_bind_none, opt_map_none, List.drop, List.take, List.head?, List.length_cons, List.length_nil, binA, unA, eqCells, eqCell, negB, fillA, sr_nil, sr_cons, sr_succ, sr_all, sr_len, storeA, Ob.with, indexedI, V.oneCell, intOf?, retQ_ret, retQ_norm, resA, resA1, fr_getD, packR, sealDepth, shut_bool, shut_int, Option.some.injEq, V.bool.injEq, V.int.injEq, Bool.not_true, Bool.not_false, true_and, and_true, and_self, Bool.and_true, Bool.and_false, Bool.true_and, Bool.false_and, Bool.or_true, Bool.or_false, Bool.true_or, Bool.false_or, Bool.false_eq_true, Int.reduceLT, Int.reduceLE, Int.reduceToNat, Int.reduceNeg, shut_plain, freeL_cons, freeL_nil, free_int, free_bool, free_agg, free_str, free_nils, free_tup, free_sl, true_implies, false_implies, Nat.sub_zero, Int.natCast_nonneg, Int.toNat_natCast, Nat.le_refl, not_true_eq_false, Int.reduceAdd, Int.reduceSub, Int.reduceMul, wrap64, false_and, and_false, cond_true, cond_false, Bool.cond_true_left, Bool.cond_false_right, Int.reduceBNe, Int.reduceBEq, decide_true, decide_false, Int.cast_ofNat_Int, Nat.mul_one, eq_self, Bool.true_eq_false, Bool.not_eq_true, Bool.not_eq_false, deads, List.replicate, argsF, app_get0, app_get, app_set0, app_set, oa, hl', mkA, hW1, hW2, boundsA, Option.isNone, ha]
    exact ⟨_, _, _, _, _, _, rfl, rfl, rfl⟩
end Go.Am.T


set_option linter.unusedVariables false
set_option linter.unusedSimpArgs false
set_option maxRecDepth 10000
namespace Go.Am.T
attribute [local congr] selV_congr impB_congr
def Byt (H : Heap) (p : Nat) (W : V) (L : List Int) : Prop := ∃ o v, p ≤ o ∧ W = .view o v 0 L.length 1 none ∧ H[o]? = some ⟨v, .arr (L.map (V.int .u8))⟩
theorem flat_ne {D : Dv} (ok : D.Ok) : D.S.flatten ≠ [] := fun e => by
  have h1 := flat_len ok.sec
  have := ok.s1
  rw [e] at h1
  simp only [List.length_nil] at h1
  omega
theorem brow_byt {H : Heap} {o p : Nat} {y : Ob} {W : V} {L : List Int} (h : BRow o y W L) (ho : H[o]? = some y) (hp : p ≤ o) (hL : L ≠ []) : Byt H p W L := by
  rcases h with ⟨rfl, -⟩ | ⟨-, rfl, hy⟩
  · exact absurd rfl hL
  · obtain ⟨v, bd⟩ := y
    simp only at hy
    subst hy
    exact ⟨o, v, hp, rfl, ho⟩
set_option maxHeartbeats 1000000 in
theorem bytes_spec {N n : Nat} (hN : 5000 ≤ N) (hn : 5 ≤ n) {H : Heap} {d so : Nat} {D : Dv} (h : DAt H d so D) :
    ∃ H' W, callA am N n 35 [.ptr d 1 0] H = some (W, H') ∧ H.length ≤ H'.length ∧ (∀ p, p < H.length → H'[p]? = H[p]?) ∧ Byt H' H.length W D.S.flatten := by
  obtain ⟨n, rfl⟩ : ∃ m, n = m + 2 := ⟨n - 2, by omega⟩
  have ok := h.ok
  have c41 := fun H => @all_spec N (n + 1) (by omega) (.ptr d 1 0) (fun _ => V.noConfusion) V.noConfusion rfl rfl H
  have T := @bytes_taker N n (by omega) H d so D h
  obtain ⟨h', q, K, hc, hT⟩ := iter_spec hN (by omega) T (H ++ [⟨1, .var [.nils]⟩, ⟨0, .dead⟩, ⟨0, .dead⟩, ⟨1, .loop 0 none (tB H.length) H.length 35 0⟩]) [] ⟨.nils, _, _, rfl, .inl ⟨rfl, rfl⟩⟩
  cases q with
  | false => exact hT.inv.elim
  | true =>
    obtain ⟨W, x1, y, rfl, hR⟩ := hT.inv
    obtain ⟨rfl, -⟩ := hT.all rfl
    rw [List.take_length] at hR
    obtain ⟨hW1, hW2, hW3, hW4, hW5⟩ := brow_one hR
    refine ⟨H ++ [⟨1, .var [W]⟩, x1, y, ⟨1, .dead⟩, ⟨1, .var [.ptr d 1 0]⟩], W, ?_, by simp, fun p hp => List.getElem?_append_left hp, brow_byt hR (by rw [app_get]; rfl) (by omega) (flat_ne ok)⟩
    refine call_keep_eq at35 rfl rfl (by decide) (sx_wp ?_)
    rw [List.append_assoc, List.append_assoc] at hc
    simp only [List.cons_append, List.nil_append] at hc
    unfold tB at hc
    have l4 : ∀ a b c d : Ob, (H ++ [a, b, c, d]).length = H.length + 4 := fun _ _ _ _ => by simp
    simp +contextual -implicitDefEqProofs (maxSteps := 10000000) only [sx_seq, sxL_succ, lpQ_norm, lpQ_exit, lpQ_ret, loopQ_norm, loopQ_exit, loopQ_ret, sqQ_norm, sqQ_ret, sqQ_exit, sx_block, blkQ_norm, blkQ_exit, blkQ_ret, sx_cond, cdP_true, cdP_false, cdP_bool, sx_region, sx_draw, plainD, List.all_cons, List.all_nil, List.isEmpty_nil, List.isEmpty_cons, sxo_nil, sxo_cons, sxo_guard, gdS_bool, gdS_eff, gdS_tup, gdS_sel, gdS_seleff, sxK_def, wcall_some, effP_ret, effP_set, effP_none, effP_ite, wop_call, wop_cv, cvP_func, sx_ret, sx_exit, sx_skip, sx_clr, sx_fresh, stays, ↓selV_wt, ↓selV_wf, ↓impB_wt, ↓impB_wf, ↓selV_nor, ↓impB_nor, ↓selV_nt, ↓selV_nf, ↓impB_nt, ↓impB_nf, wantB_true, wantB_false, ↓selV_true, ↓selV_false, ↓selV_and, ↓impB_true, ↓impB_false, ↓impB_and, impB_triv, valOf_some, retH_some, ↓prim_pick, pickO_true, pickO_false, pickO_and, pickO_or, pickO_andr, pickO_orr, pickO_orrn, pickO_orn, pickO_bb, pickAnd_bool, pickOr_bool, ↓selV_nn, ↓impB_nn, Bool.and_assoc, Bool.or_assoc, doOp, ev_fr, ev_cst, put_none, put_fr, get, ins, del, dels, Nat.reduceLT, Nat.reduceEqDiff, ↓reduceIte, reduceCtorEq, ne_eq, not_false_eq_true, implies_true, framed_pureF, framed_fb, framed_N, framed_pure, wop_prim, prim, YLD, mkA, V.cells, List.getElem?_cons_zero, List.getElem?_cons_succ, List.set_cons_zero, List.set_cons_succ, Nat.zero_add, Nat.add_zero, Nat.reduceAdd, Nat.reduceSub, Nat.reduceMul, Nat.reduceLeDiff, Nat.not_lt_zero, List.map_cons, List.map_nil, List.cons_append, List.nil_append, loadA, cellsAt, nAg, packA, opt_bind_some, opt_map_some, opt_bind_none, opt_map_none, List.drop, List.take, List.head?, List.length_cons, List.length_nil, binA, unA, eqCells, eqCell, negB, fillA, sr_nil, sr_cons, sr_succ, sr_all, sr_len, storeA, Ob.with, indexedI, V.oneCell, intOf?, retQ_ret, retQ_norm, resA, resA1, fr_getD, packR, sealDepth, shut_bool, shut_int, Option.some.injEq, V.bool.injEq, V.int.injEq, Bool.not_true, Bool.not_false, true_and, and_true, and_self, Bool.and_true, Bool.and_false, Bool.true_and, Bool.false_and, Bool.or_true, Bool.or_false, Bool.true_or, Bool.false_or, Bool.false_eq_true, Int.reduceLT, Int.reduceLE, Int.reduceToNat, Int.reduceNeg, shut_plain, freeL_cons, freeL_nil, free_int, free_bool, free_agg, free_str, free_nils, free_tup, free_sl, true_implies, false_implies, Nat.sub_zero, Int.natCast_nonneg, Int.toNat_natCast, Nat.le_refl, not_true_eq_false, Int.reduceAdd, Int.reduceSub, Int.reduceMul, wrap64, false_and, and_false, cond_true, cond_false, Bool.cond_true_left, Bool.cond_false_right, Int.reduceBNe, Int.reduceBEq, decide_true, decide_false, Int.cast_ofNat_Int, Nat.mul_one, eq_self, Bool.true_eq_false, Bool.not_eq_true, Bool.not_eq_false, deads, List.replicate, argsF, am35, isNil, app_get0, app_get, app_set0, app_set, c41, mkA, List.append_assoc, List.cons_append, List.nil_append, l4]
    refine sx_rangeF (x := ⟨0, .dead⟩) (g := 59) (xs := []) (ys := [.ptr (H.length + 4) 1 0]) (by rw [app_get]; rfl) rfl (by simp only [app_set, List.set_cons_succ, List.set_cons_zero]; exact hc) (st := 0) (by rw [app_get]; rfl) (by decide) ?_
    simp only [jumpE, app_set]
    simp +contextual -implicitDefEqProofs (maxSteps := 10000000) only [sx_seq, sxL_succ, lpQ_norm, lpQ_exit, lpQ_ret, loopQ_norm, loopQ_exit, loopQ_ret, sqQ_norm, sqQ_ret, sqQ_exit, sx_block, blkQ_norm, blkQ_exit, blkQ_ret, sx_cond, cdP_true, cdP_false, cdP_bool, sx_region, sx_draw, plainD, List.all_cons, List.all_nil, List.isEmpty_nil, List.isEmpty_cons, sxo_nil, sxo_cons, sxo_guard, gdS_bool, gdS_eff, gdS_tup, gdS_sel, gdS_seleff, sxK_def, wcall_some, effP_ret, effP_set, effP_none, effP_ite, wop_call, wop_cv, cvP_func, sx_ret, sx_exit, sx_skip, sx_clr, sx_fresh, stays, ↓selV_wt, ↓selV_wf, ↓impB_wt, ↓impB_wf, ↓selV_nor, ↓impB_nor, ↓selV_nt, ↓selV_nf, ↓impB_nt, ↓impB_nf, wantB_true, wantB_false, ↓selV_true, ↓selV_false, ↓selV_and, ↓impB_true, ↓impB_false, ↓impB_and, impB_triv, valOf_some, retH_some, ↓prim_pick, pickO_true, pickO_false, pickO_and, pickO_or, pickO_andr, pickO_orr, pickO_orrn, pickO_orn, pickO_bb, pickAnd_bool, pickOr_bool, ↓selV_nn, ↓impB_nn, Bool.and_assoc, Bool.or_assoc, doOp, ev_fr, ev_cst, put_none, put_fr, get, ins, del, dels, Nat.reduceLT, Nat.reduceEqDiff, ↓reduceIte, reduceCtorEq, ne_eq, not_false_eq_true, implies_true, framed_pureF, framed_fb, framed_N, framed_pure, wop_prim, prim, YLD, mkA, V.cells, List.getElem?_cons_zero, List.getElem?_cons_succ, List.set_cons_zero, List.set_cons_succ, Nat.zero_add, Nat.add_zero, Nat.reduceAdd, Nat.reduceSub, Nat.reduceMul, Nat.reduceLeDiff, Nat.not_lt_zero, List.map_cons, List.map_nil, List.cons_append, List.nil_append, loadA, cellsAt, nAg, packA, opt_bind_some, opt_map_some, opt_bind_none, opt_map_none, List.drop, List.take, List.head?, List.length_cons, List.length_nil, binA, unA, eqCells, eqCell, negB, fillA, sr_nil, sr_cons, sr_succ, sr_all, sr_len, storeA, Ob.with, indexedI, V.oneCell, intOf?, retQ_ret, retQ_norm, resA, resA1, fr_getD, packR, sealDepth, shut_bool, shut_int, Option.some.injEq, V.bool.injEq, V.int.injEq, Bool.not_true, Bool.not_false, true_and, and_true, and_self, Bool.and_true, Bool.and_false, Bool.true_and, Bool.false_and, Bool.or_true, Bool.or_false, Bool.true_or, Bool.false_or, Bool.false_eq_true, Int.reduceLT, Int.reduceLE, Int.reduceToNat, Int.reduceNeg, shut_plain, freeL_cons, freeL_nil, free_int, free_bool, free_agg, free_str, free_nils, free_tup, free_sl, true_implies, false_implies, Nat.sub_zero, Int.natCast_nonneg, Int.toNat_natCast, Nat.le_refl, not_true_eq_false, Int.reduceAdd, Int.reduceSub, Int.reduceMul, wrap64, false_and, and_false, cond_true, cond_false, Bool.cond_true_left, Bool.cond_false_right, Int.reduceBNe, Int.reduceBEq, decide_true, decide_false, Int.cast_ofNat_Int, Nat.mul_one, eq_self, Bool.true_eq_false, Bool.not_eq_true, Bool.not_eq_false, deads, List.replicate, argsF, app_get0, app_get, app_set0, app_set, hW1, hW2, List.append_nil]
end Go.Am.T


set_option linter.unusedVariables false
set_option linter.unusedSimpArgs false
set_option maxRecDepth 10000
namespace Go.Am.T
attribute [local congr] selV_congr impB_congr
theorem flat_at1 {S : List (List Int)} {i j : Nat} (h : ∀ s ∈ S, s.length = 64) (hi : i < S.length) (hj : j < 64) : List.take 1 (List.drop (i * 64 + j) (S.flatten.map (V.int .u8))) = [.int .u8 ((S.getD i zeroS).getD j 0)] := by
  have h1 := flat_at h hi
  have hl : (S.getD i zeroS).length = 64 := by
    rw [List.getD_eq_getElem?_getD, List.getElem?_eq_getElem hi]
    exact h _ (List.getElem_mem hi)
  have h2 : List.take 1 (List.drop j (List.take 64 (List.drop (i * 64) (S.flatten.map (V.int .u8))))) = List.take 1 (List.drop (i * 64 + j) (S.flatten.map (V.int .u8))) := by
    rw [List.drop_take, List.take_take, List.drop_drop, show min 1 (64 - j) = 1 by omega]
  rw [← h2, h1, ← List.map_drop, List.drop_eq_getElem_cons (by omega)]
  rw [List.getD_eq_getElem?_getD (l := S.getD i zeroS), List.getElem?_eq_getElem (by omega : j < (S.getD i zeroS).length)]
  rfl
set_option maxHeartbeats 2000000 in
theorem rbytes_spec {N n : Nat} (hN : 5000 ≤ N) (hn : 1 ≤ n) {H : Heap} {r s e : Nat} {D : Dv} (h : RAt H r s e D) :
    ∃ H' W, callA am N n 36 [.ptr r 1 0] H = some (W, H') ∧ H.length ≤ H'.length ∧ (∀ p, p < H.length → H'[p]? = H[p]?) ∧ Byt H' H.length W D.S.flatten := by
  obtain ⟨n, rfl⟩ : ∃ m, n = m + 1 := ⟨n - 1, by omega⟩
  have ok := h.ok
  have s4 := ok.s4
  suffices Hs : ∃ W H', callA am N (n + 1) 36 [.ptr r 1 0] H = some (W, H') ∧ ∃ x y, H' = H ++ [x, y] ∧ BRow (H.length + 1) y W D.S.flatten by
    obtain ⟨W, H', h1, x, y, rfl, h2⟩ := Hs
    exact ⟨_, W, h1, by simp, fun p hp => List.getElem?_append_left hp, brow_byt h2 (by rw [app_get]; rfl) (by omega) (flat_ne ok)⟩
  refine call_keep at36 rfl rfl (by decide) (sx_wp ?_)
  simp +contextual -implicitDefEqProofs (maxSteps := 10000000) only [sx_seq, sxL_succ, lpQ_norm, lpQ_exit, lpQ_ret, loopQ_norm, loopQ_exit, loopQ_ret, sqQ_norm, sqQ_ret, sqQ_exit, sx_block, blkQ_norm, blkQ_exit, blkQ_ret, sx_cond, cdP_true, cdP_false, cdP_bool, sx_region, sx_draw, plainD, List.all_cons, List.all_nil, List.isEmpty_nil, List.isEmpty_cons, sxo_nil, sxo_cons, sxo_guard, gdS_bool, gdS_eff, gdS_tup, gdS_sel, gdS_seleff, sxK_def, wcall_some, effP_ret, effP_set, effP_none, effP_ite, wop_call, wop_cv, cvP_func, sx_ret, sx_exit, sx_skip, sx_clr, sx_fresh, stays, ↓selV_wt, ↓selV_wf, ↓impB_wt, ↓impB_wf, ↓selV_nor, ↓impB_nor, ↓selV_nt, ↓selV_nf, ↓impB_nt, ↓impB_nf, wantB_true, wantB_false, ↓selV_true, ↓selV_false, ↓selV_and, ↓impB_true, ↓impB_false, ↓impB_and, impB_triv, valOf_some, retH_some, ↓prim_pick, pickO_true, pickO_false, pickO_and, pickO_or, pickO_andr, pickO_orr, pickO_orrn, pickO_orn, pickO_bb, pickAnd_bool, pickOr_bool, ↓selV_nn, ↓impB_nn, Bool.and_assoc, Bool.or_assoc, doOp, ev_fr, ev_cst, put_none, put_fr, get, ins, del, dels, Nat.reduceLT, Nat.reduceEqDiff, ↓reduceIte, reduceCtorEq, ne_eq, not_false_eq_true, implies_true, framed_pureF, framed_fb, framed_N, framed_pure, wop_prim, prim, YLD, mkA, V.cells, List.getElem?_cons_zero, List.getElem?_cons_succ, List.set_cons_zero, List.set_cons_succ, Nat.zero_add, Nat.add_zero, Nat.reduceAdd, Nat.reduceSub, Nat.reduceMul, Nat.reduceLeDiff, Nat.not_lt_zero, List.map_cons, List.map_nil, List.cons_append, List.nil_append, loadA, cellsAt, nAg, packA, opt_bind_some, opt_map_some, opt_bind_none, opt_map_none, List.drop, List.take, List.head?, List.length_cons, List.length_nil, binA, unA, eqCells, eqCell, negB, fillA, sr_nil, sr_cons, sr_succ, sr_all, sr_len, storeA, Ob.with, indexedI, V.oneCell, intOf?, retQ_ret, retQ_norm, resA, resA1, fr_getD, packR, sealDepth, shut_bool, shut_int, Option.some.injEq, V.bool.injEq, V.int.injEq, Bool.not_true, Bool.not_false, true_and, and_true, and_self, Bool.and_true, Bool.and_false, Bool.true_and, Bool.false_and, Bool.or_true, Bool.or_false, Bool.true_or, Bool.false_or, Bool.false_eq_true, Int.reduceLT, Int.reduceLE, Int.reduceToNat, Int.reduceNeg, shut_plain, freeL_cons, freeL_nil, free_int, free_bool, free_agg, free_str, free_nils, free_tup, free_sl, true_implies, false_implies, Nat.sub_zero, Int.natCast_nonneg, Int.toNat_natCast, Nat.le_refl, not_true_eq_false, Int.reduceAdd, Int.reduceSub, Int.reduceMul, wrap64, false_and, and_false, cond_true, cond_false, Bool.cond_true_left, Bool.cond_false_right, Int.reduceBNe, Int.reduceBEq, decide_true, decide_false, Int.cast_ofNat_Int, Nat.mul_one, eq_self, Bool.true_eq_false, Bool.not_eq_true, Bool.not_eq_false, deads, List.replicate, argsF, am36, isNil]
  refine sx_loop (fun i t K => i ≤ D.S.length ∧ ∃ W x y, t = fr 36 [(0, .ptr r 1 0), (3, W), (4, .int .i64 i)] ∧ K = H ++ [x, y] ∧ BRow (H.length + 1) y W (D.S.take i).flatten) D.S.length (by show D.S.length < N; omega) ⟨Nat.zero_le _, .nils, _, _, rfl, rfl, .inl ⟨rfl, rfl⟩⟩ ?_
  rintro i t K hi ⟨hi', W, x, y, rfl, rfl, hR⟩
  obtain ⟨ver, cap, ver', cap', hr, hs, he⟩ := (h.app [x, y]).ob
  have fl : (D.S.flatten.map (V.int .u8)).length = D.S.length * 64 := by rw [List.length_map, flat_len ok.sec]
  have ercs : ∀ X Y, D.rcs X Y = [X, Y, .int .i64 D.rl, .bool D.lost, .int .i64 D.done] := fun X Y => rfl
  obtain ⟨hW1, hW2, hW3, hW4, hW5⟩ := brow_one hR
  by_cases hlt : i < D.S.length
  · have g1 : decide ((i : Int) < (D.S.length : Int)) = true := decide_eq_true (by omega)
    have w4 : IntKind.i64.wrap ((i : Int) + 1) = ((i + 1 : Nat) : Int) := (wrap64 (by omega) (by omega)).trans (by omega)
    have hi1 : i + 1 ≤ D.S.length := by omega
    have i0 : (0 : Int) ≤ (i : Int) := by omega
    have i1 : (i : Int) < (D.S.length : Int) := by omega
    have hl64 : (D.S.getD i zeroS).length = 64 := by
      rw [List.getD_eq_getElem?_getD, List.getElem?_eq_getElem hlt]
      exact ok.sec _ (List.getElem_mem hlt)
    have hfl := take_flat_len ok i
    have htl : (D.S.take i).length ≤ i := by rw [List.length_take]; omega
    simp +contextual -implicitDefEqProofs (maxSteps := 10000000) only [sx_seq, sxL_succ, lpQ_norm, lpQ_exit, lpQ_ret, loopQ_norm, loopQ_exit, loopQ_ret, sqQ_norm, sqQ_ret, sqQ_exit, sx_block, blkQ_norm, blkQ_exit, blkQ_ret, sx_cond, cdP_true, cdP_false, cdP_bool, sx_region, sx_draw, plainD, List.all_cons, List.all_nil, List.isEmpty_nil, List.isEmpty_cons, sxo_nil, sxo_cons, sxo_guard, gdS_bool, gdS_eff, gdS_tup, gdS_sel, gdS_seleff, sxK_def, wcall_some, effP_ret, effP_set, effP_none, effP_ite, wop_call, wop_cv, cvP_func, sx_ret, sx_exit, sx_skip, sx_clr, sx_fresh, stays, ↓selV_wt, ↓selV_wf, ↓impB_wt, ↓impB_wf, ↓selV_nor, ↓impB_nor, ↓selV_nt, ↓selV_nf, ↓impB_nt, ↓impB_nf, wantB_true, wantB_false, ↓selV_true, ↓selV_false, ↓selV_and, ↓impB_true, ↓impB_false, ↓impB_and, impB_triv, valOf_some, retH_some, ↓prim_pick, pickO_true, pickO_false, pickO_and, pickO_or, pickO_andr, pickO_orr, pickO_orrn, pickO_orn, pickO_bb, pickAnd_bool, pickOr_bool, ↓selV_nn, ↓impB_nn, Bool.and_assoc, Bool.or_assoc, doOp, ev_fr, ev_cst, put_none, put_fr, get, ins, del, dels, Nat.reduceLT, Nat.reduceEqDiff, ↓reduceIte, reduceCtorEq, ne_eq, not_false_eq_true, implies_true, framed_pureF, framed_fb, framed_N, framed_pure, wop_prim, prim, YLD, mkA, V.cells, List.getElem?_cons_zero, List.getElem?_cons_succ, List.set_cons_zero, List.set_cons_succ, Nat.zero_add, Nat.add_zero, Nat.reduceAdd, Nat.reduceSub, Nat.reduceMul, Nat.reduceLeDiff, Nat.not_lt_zero, List.map_cons, List.map_nil, List.cons_append, List.nil_append, loadA, cellsAt, nAg, packA, opt_bind_some, opt_map_some, opt_bind_none, opt_map_none, List.drop, List.take, List.head?, List.length_cons, List.length_nil, binA, unA, eqCells, eqCell, negB, fillA, sr_nil, sr_cons, sr_succ, sr_all, sr_len, storeA, Ob.with, indexedI, V.oneCell, intOf?, retQ_ret, retQ_norm, resA, resA1, fr_getD, packR, sealDepth, shut_bool, shut_int, Option.some.injEq, V.bool.injEq, V.int.injEq, Bool.not_true, Bool.not_false, true_and, and_true, and_self, Bool.and_true, Bool.and_false, Bool.true_and, Bool.false_and, Bool.or_true, Bool.or_false, Bool.true_or, Bool.false_or, Bool.false_eq_true, Int.reduceLT, Int.reduceLE, Int.reduceToNat, Int.reduceNeg, shut_plain, freeL_cons, freeL_nil, free_int, free_bool, free_agg, free_str, free_nils, free_tup, free_sl, true_implies, false_implies, Nat.sub_zero, Int.natCast_nonneg, Int.toNat_natCast, Nat.le_refl, not_true_eq_false, Int.reduceAdd, Int.reduceSub, Int.reduceMul, wrap64, false_and, and_false, cond_true, cond_false, Bool.cond_true_left, Bool.cond_false_right, Int.reduceBNe, Int.reduceBEq, decide_true, decide_false, Int.cast_ofNat_Int, Nat.mul_one, eq_self, Bool.true_eq_false, Bool.not_eq_true, Bool.not_eq_false, deads, List.replicate, argsF, isNil, hr, ercs, lenA, g1]
    refine sx_loop (fun j t K => j ≤ 64 ∧ ∃ W x y, t = fr 36 [(0, .ptr r 1 0), (3, W), (4, .int .i64 i), (5, .int .i64 j)] ∧ K = H ++ [x, y] ∧ BRow (H.length + 1) y W ((D.S.take i).flatten ++ (D.S.getD i zeroS).take j)) 64 (by show 64 < N; omega) ⟨by omega, W, x, y, rfl, rfl, by rw [List.take_zero, List.append_nil]; exact hR⟩ ?_
    clear hR hW1 hW2 hW3 hW4 hW5 hr hs he ver ver' cap cap'
    rintro j t K hj ⟨hj', W, x, y, rfl, rfl, hR⟩
    obtain ⟨hW1, hW2, hW3, hW4, hW5⟩ := brow_one hR
    by_cases hjt : j < 64
    · have g2 : decide ((j : Int) < 64) = true := decide_eq_true (by omega)
      have w5 : IntKind.i64.wrap ((j : Int) + 1) = ((j + 1 : Nat) : Int) := (wrap64 (by omega) (by omega)).trans (by omega)
      have j0 : (0 : Int) ≤ (j : Int) := by omega
      have j1 : (j : Int) < ((64 : Nat) : Int) := by omega
      have j1' : (j : Int) < 64 := by omega
      have hj1 : j + 1 ≤ 64 := by omega
      have fa := flat_at1 ok.sec hlt hjt
      have le : i * 64 + j + 1 ≤ D.S.length * 64 := by omega
      obtain ⟨ver, cap, ver', cap', hr, hs, he⟩ := (h.app [x, y]).ob
      obtain ⟨K, hK⟩ : ∃ K : Heap, K = H ++ [⟨x.ver + 1, .arr [.int .u8 ((D.S.getD i zeroS).getD j 0)]⟩, y] := ⟨_, rfl⟩
      have hbl : ((D.S.take i).flatten ++ (D.S.getD i zeroS).take j).length + 1 ≤ 1000000 := by
        rw [List.length_append, List.length_take]
        omega
      obtain ⟨v, ha⟩ := @brow_append K (H.length + 1) 1 y W (.view H.length (x.ver + 1) 0 1 1 (some 1)) _ [(D.S.getD i zeroS).getD j 0] hR (by rw [hK, app_get]; rfl) rfl (by
        have k1 : K[H.length]? = some ⟨x.ver + 1, .arr [.int .u8 ((D.S.getD i zeroS).getD j 0)]⟩ := by rw [hK, app_get0]; rfl
        simp [firstA, loadA, cellsAt, k1]) rfl (by decide) hbl
      have el : (D.S.take i).flatten ++ (D.S.getD i zeroS).take j ++ [(D.S.getD i zeroS).getD j 0] = (D.S.take i).flatten ++ (D.S.getD i zeroS).take (j + 1) := by
        rw [List.append_assoc, List.take_add_one, List.getElem?_eq_getElem (by omega : j < (D.S.getD i zeroS).length), List.getD_eq_getElem?_getD (l := D.S.getD i zeroS), List.getElem?_eq_getElem (by omega : j < (D.S.getD i zeroS).length)]
        rfl
      rw [el] at ha
      have hR2 : BRow (H.length + 1) ⟨v, .arr (((D.S.take i).flatten ++ (D.S.getD i zeroS).take (j + 1)).map (V.int .u8))⟩ (.view (H.length + 1) v 0 ((D.S.take i).flatten ++ (D.S.getD i zeroS).take (j + 1)).length 1 none) ((D.S.take i).flatten ++ (D.S.getD i zeroS).take (j + 1)) :=
        brow_mk fun e => by
          have := congrArg List.length e
          simp only [List.length_append, List.length_take, List.length_nil] at this
          omega
      clear hR
      generalize D.S.flatten.map (V.int .u8) = F at *
      subst hK
      simp +contextual -implicitDefEqProofs (maxSteps := 10000000) only [sx_seq, sxL_succ, lpQ_norm, lpQ_exit, lpQ_ret, loopQ_norm, loopQ_exit, loopQ_ret, sqQ_norm, sqQ_ret, sqQ_exit, sx_block, blkQ_norm, blkQ_exit, blkQ_ret, sx_cond, cdP_true, cdP_false, cdP_bool, sx_region, sx_draw, plainD, List.all_cons, List.all_nil, List.isEmpty_nil, List.isEmpty_cons, sxo_nil, sxo_cons, sxo_guard, gdS_bool, gdS_eff, gdS_tup, gdS_sel, gdS_seleff, sxK_def, wcall_some, effP_ret, effP_set, effP_none, effP_ite, wop_call, wop_cv, cvP_func, sx_ret, sx_exit, sx_skip, sx_clr, sx_fresh, stays, ↓selV_wt, ↓selV_wf, ↓impB_wt, ↓impB_wf, ↓selV_nor, ↓impB_nor, ↓selV_nt, ↓selV_nf, ↓impB_nt, ↓impB_nf, wantB_true, wantB_false, ↓selV_true, ↓selV_false, ↓selV_and, ↓impB_true, ↓impB_false, ↓impB_and, impB_triv, valOf_some, retH_some, ↓prim_pick, pickO_true, pickO_false, pickO_and, pickO_or, pickO_andr, pickO_orr, pickO_orrn, pickO_orn, pickO_bb, pickAnd_bool, pickOr_bool, ↓selV_nn, ↓impB_nn, Bool.and_assoc, Bool.or_assoc, doOp, ev_fr, ev_cst, put_none, put_fr, get, ins, del, dels, Nat.reduceLT, Nat.reduceEqDiff, ↓reduceIte, reduceCtorEq, ne_eq, not_false_eq_true, implies_true, framed_pureF, framed_fb, framed_N, framed_pure, wop_prim, prim, YLD, mkA, V.cells, List.getElem?_cons_zero, List.getElem?_cons_succ, List.set_cons_zero, List.set_cons_succ, Nat.zero_add, Nat.add_zero, Nat.reduceAdd, Nat.reduceSub, Nat.reduceMul, Nat.reduceLeDiff, Nat.not_lt_zero, List.map_cons, List.map_nil, List.cons_append, List.nil_append, loadA, cellsAt, nAg, packA, opt_bind_some, opt_map_some, opt_bind_none, opt_map_none, List.drop, List.take, List.head?, List.length_cons, List.length_nil, binA, unA, eqCells, eqCell, negB, fillA, sr_nil, sr_cons, sr_succ, sr_all, sr_len, storeA, Ob.with, indexedI, V.oneCell, intOf?, retQ_ret, retQ_norm, resA, resA1, fr_getD, packR, sealDepth, shut_bool, shut_int, Option.some.injEq, V.bool.injEq, V.int.injEq, Bool.not_true, Bool.not_false, true_and, and_true, and_self, Bool.and_true, Bool.and_false, Bool.true_and, Bool.false_and, Bool.or_true, Bool.or_false, Bool.true_or, Bool.false_or, Bool.false_eq_true, Int.reduceLT, Int.reduceLE, Int.reduceToNat, Int.reduceNeg, shut_plain, freeL_cons, freeL_nil, free_int, free_bool, free_agg, free_str, free_nils, free_tup, free_sl, true_implies, false_implies, Nat.sub_zero, Int.natCast_nonneg, Int.toNat_natCast, Nat.le_refl, not_true_eq_false, Int.reduceAdd, Int.reduceSub, Int.reduceMul, wrap64, false_and, and_false, cond_true, cond_false, Bool.cond_true_left, Bool.cond_false_right, Int.reduceBNe, Int.reduceBEq, decide_true, decide_false, Int.cast_ofNat_Int, Nat.mul_one, eq_self, Bool.true_eq_false, Bool.not_eq_true, Bool.not_eq_false, deads, List.replicate, argsF, isNil, hr, hs, ercs, lenA, g2, iaddrSA, i0, i1, j0, j1, j1', fl, fa, le, Int.toNat_natCast, app_get0, app_get, app_set0, app_set, mkA, ha, w5, hj1, hjt, hlt]
      exact ⟨_, _, _, rfl, rfl, hR2⟩
    · have e8 : j = 64 := by omega
      subst e8
      have g2 : decide (((64 : Nat) : Int) < 64) = false := rfl
      rw [List.take_of_length_le (l := D.S.getD i zeroS) (by omega), ← take_flat_succ hlt] at hR
      simp +contextual -implicitDefEqProofs (maxSteps := 10000000) only [sx_seq, sxL_succ, lpQ_norm, lpQ_exit, lpQ_ret, loopQ_norm, loopQ_exit, loopQ_ret, sqQ_norm, sqQ_ret, sqQ_exit, sx_block, blkQ_norm, blkQ_exit, blkQ_ret, sx_cond, cdP_true, cdP_false, cdP_bool, sx_region, sx_draw, plainD, List.all_cons, List.all_nil, List.isEmpty_nil, List.isEmpty_cons, sxo_nil, sxo_cons, sxo_guard, gdS_bool, gdS_eff, gdS_tup, gdS_sel, gdS_seleff, sxK_def, wcall_some, effP_ret, effP_set, effP_none, effP_ite, wop_call, wop_cv, cvP_func, sx_ret, sx_exit, sx_skip, sx_clr, sx_fresh, stays, ↓selV_wt, ↓selV_wf, ↓impB_wt, ↓impB_wf, ↓selV_nor, ↓impB_nor, ↓selV_nt, ↓selV_nf, ↓impB_nt, ↓impB_nf, wantB_true, wantB_false, ↓selV_true, ↓selV_false, ↓selV_and, ↓impB_true, ↓impB_false, ↓impB_and, impB_triv, valOf_some, retH_some, ↓prim_pick, pickO_true, pickO_false, pickO_and, pickO_or, pickO_andr, pickO_orr, pickO_orrn, pickO_orn, pickO_bb, pickAnd_bool, pickOr_bool, ↓selV_nn, ↓impB_nn, Bool.and_assoc, Bool.or_assoc, doOp, ev_fr, ev_cst, put_none, put_fr, get, ins, del, dels, Nat.reduceLT, Nat.reduceEqDiff, ↓reduceIte, reduceCtorEq, ne_eq, not_false_eq_true, implies_true, framed_pureF, framed_fb, framed_N, framed_pure, wop_prim, prim, YLD, mkA, V.cells, List.getElem?_cons_zero, List.getElem?_cons_succ, List.set_cons_zero, List.set_cons_succ, Nat.zero_add, Nat.add_zero, Nat.reduceAdd, Nat.reduceSub, Nat.reduceMul, Nat.reduceLeDiff, Nat.not_lt_zero, List.map_cons, List.map_nil, List.cons_append, List.nil_append, loadA, cellsAt, nAg, packA, opt_bind_some, opt_map_some, opt_bind_none, opt_map_none, List.drop, List.take, List.head?, List.length_cons, List.length_nil, binA, unA, eqCells, eqCell, negB, fillA, sr_nil, sr_cons, sr_succ, sr_all, sr_len, storeA, Ob.with, indexedI, V.oneCell, intOf?, retQ_ret, retQ_norm, resA, resA1, fr_getD, packR, sealDepth, shut_bool, shut_int, Option.some.injEq, V.bool.injEq, V.int.injEq, Bool.not_true, Bool.not_false, true_and, and_true, and_self, Bool.and_true, Bool.and_false, Bool.true_and, Bool.false_and, Bool.or_true, Bool.or_false, Bool.true_or, Bool.false_or, Bool.false_eq_true, Int.reduceLT, Int.reduceLE, Int.reduceToNat, Int.reduceNeg, shut_plain, freeL_cons, freeL_nil, free_int, free_bool, free_agg, free_str, free_nils, free_tup, free_sl, true_implies, false_implies, Nat.sub_zero, Int.natCast_nonneg, Int.toNat_natCast, Nat.le_refl, not_true_eq_false, Int.reduceAdd, Int.reduceSub, Int.reduceMul, wrap64, false_and, and_false, cond_true, cond_false, Bool.cond_true_left, Bool.cond_false_right, Int.reduceBNe, Int.reduceBEq, decide_true, decide_false, Int.cast_ofNat_Int, Nat.mul_one, eq_self, Bool.true_eq_false, Bool.not_eq_true, Bool.not_eq_false, deads, List.replicate, argsF, isNil, g2, w4, hi1, hlt]
      exact ⟨W, x, y, rfl, rfl, hR⟩
  · have e8 : i = D.S.length := by omega
    subst e8
    rw [List.take_length] at hR
    have g1 : decide ((D.S.length : Int) < (D.S.length : Int)) = false := decide_eq_false (by omega)
    simp +contextual -implicitDefEqProofs (maxSteps := 10000000) only [sx_seq, sxL_succ, lpQ_norm, lpQ_exit, lpQ_ret, loopQ_norm, loopQ_exit, loopQ_ret, sqQ_norm, sqQ_ret, sqQ_exit, sx_block, blkQ_norm, blkQ_exit, blkQ_ret, sx_cond, cdP_true, cdP_false, cdP_bool, sx_region, sx_draw, plainD, List.all_cons, List.all_nil, List.isEmpty_nil, List.isEmpty_cons, sxo_nil, sxo_cons, sxo_guard, gdS_bool, gdS_eff, gdS_tup, gdS_sel, gdS_seleff, sxK_def, wcall_some, effP_ret, effP_set, effP_none, effP_ite, wop_call, wop_cv, cvP_func, sx_ret, sx_exit, sx_skip, sx_clr, sx_fresh, stays, ↓selV_wt, ↓selV_wf, ↓impB_wt, ↓impB_wf, ↓selV_nor, ↓impB_nor, ↓selV_nt, ↓selV_nf, ↓impB_nt, ↓impB_nf, wantB_true, wantB_false, ↓selV_true, ↓selV_false, ↓selV_and, ↓impB_true, ↓impB_false, ↓impB_and, impB_triv, valOf_some, retH_some, ↓prim_pick, pickO_true, pickO_false, pickO_and, pickO_or, pickO_andr, pickO_orr, pickO_orrn, pickO_orn, pickO_bb, pickAnd_bool, pickOr_bool, ↓selV_nn, ↓impB_nn, Bool.and_assoc, Bool.or_assoc, doOp, ev_fr, ev_cst, put_none, put_fr, get, ins, del, dels, Nat.reduceLT, Nat.reduceEqDiff, ↓reduceIte, reduceCtorEq, ne_eq, not_false_eq_true, implies_true, framed_pureF, framed_fb, framed_N, framed_pure, wop_prim, prim, YLD, mkA, V.cells, List.getElem?_cons_zero, List.getElem?_cons_succ, List.set_cons_zero, List.set_cons_succ, Nat.zero_add, Nat.add_zero, Nat.reduceAdd, Nat.reduceSub, Nat.reduceMul, Nat.reduceLeDiff, Nat.not_lt_zero, List.map_cons, List.map_nil, List.cons_append, List.nil_append, loadA, cellsAt, nAg, packA, opt_bind_some, opt_map_some, opt_bind_none, opt_map_none, List.drop, List.take, List.head?, List.length_cons, List.length_nil, binA, unA, eqCells, eqCell, negB, fillA, sr_nil, sr_cons, sr_succ, sr_all, sr_len, storeA, Ob.with, indexedI, V.oneCell, intOf?, retQ_ret, retQ_norm, resA, resA1, fr_getD, packR, sealDepth, shut_bool, shut_int, Option.some.injEq, V.bool.injEq, V.int.injEq, Bool.not_true, Bool.not_false, true_and, and_true, and_self, Bool.and_true, Bool.and_false, Bool.true_and, Bool.false_and, Bool.or_true, Bool.or_false, Bool.true_or, Bool.false_or, Bool.false_eq_true, Int.reduceLT, Int.reduceLE, Int.reduceToNat, Int.reduceNeg, shut_plain, freeL_cons, freeL_nil, free_int, free_bool, free_agg, free_str, free_nils, free_tup, free_sl, true_implies, false_implies, Nat.sub_zero, Int.natCast_nonneg, Int.toNat_natCast, Nat.le_refl, not_true_eq_false, Int.reduceAdd, Int.reduceSub, Int.reduceMul, wrap64, false_and, and_false, cond_true, cond_false, Bool.cond_true_left, Bool.cond_false_right, Int.reduceBNe, Int.reduceBEq, decide_true, decide_false, Int.cast_ofNat_Int, Nat.mul_one, eq_self, Bool.true_eq_false, Bool.not_eq_true, Bool.not_eq_false, deads, List.replicate, argsF, isNil, hr, ercs, lenA, g1, hW1]
    exact ⟨x, y, rfl, hR⟩
end Go.Am.T


set_option linter.unusedVariables false
set_option linter.unusedSimpArgs false
set_option maxRecDepth 10000
namespace Go.Am.T
attribute [local congr] selV_congr impB_congr
def badE (x : Int) : Bool := decide (x < 0) || decide (x > 2147483647)
theorem bad_spec {N n : Nat} (hn : 1 ≤ n) (x : Int) (H : Heap) : callA am N n 31 [.int .i64 x] H = some (.bool (badE x), H) := by
  obtain ⟨n, rfl⟩ : ∃ m, n = m + 1 := ⟨n - 1, by omega⟩
  refine call_pure at31 rfl rfl (by decide) rfl (sx_wp ?_)
  simp +contextual -implicitDefEqProofs (maxSteps := 10000000) only [sx_seq, sxL_succ, lpQ_norm, lpQ_exit, lpQ_ret, loopQ_norm, loopQ_exit, loopQ_ret, sqQ_norm, sqQ_ret, sqQ_exit, sx_block, blkQ_norm, blkQ_exit, blkQ_ret, sx_cond, cdP_true, cdP_false, cdP_bool, sx_region, sx_draw, plainD, List.all_cons, List.all_nil, List.isEmpty_nil, List.isEmpty_cons, sxo_nil, sxo_cons, sxo_guard, gdS_bool, gdS_eff, gdS_tup, gdS_sel, gdS_seleff, sxK_def, wcall_some, effP_ret, effP_set, effP_none, effP_ite, wop_call, wop_cv, cvP_func, sx_ret, sx_exit, sx_skip, sx_clr, sx_fresh, stays, ↓selV_wt, ↓selV_wf, ↓impB_wt, ↓impB_wf, ↓selV_nor, ↓impB_nor, ↓selV_nt, ↓selV_nf, ↓impB_nt, ↓impB_nf, wantB_true, wantB_false, ↓selV_true, ↓selV_false, ↓selV_and, ↓impB_true, ↓impB_false, ↓impB_and, impB_triv, valOf_some, retH_some, ↓prim_pick, pickO_true, pickO_false, pickO_and, pickO_or, pickO_andr, pickO_orr, pickO_orrn, pickO_orn, pickO_bb, pickAnd_bool, pickOr_bool, ↓selV_nn, ↓impB_nn, Bool.and_assoc, Bool.or_assoc, doOp, ev_fr, ev_cst, put_none, put_fr, get, ins, del, dels, Nat.reduceLT, Nat.reduceEqDiff, ↓reduceIte, reduceCtorEq, ne_eq, not_false_eq_true, implies_true, framed_pureF, framed_fb, framed_N, framed_pure, wop_prim, prim, YLD, mkA, V.cells, List.getElem?_cons_zero, List.getElem?_cons_succ, List.set_cons_zero, List.set_cons_succ, Nat.zero_add, Nat.add_zero, Nat.reduceAdd, Nat.reduceSub, Nat.reduceMul, Nat.reduceLeDiff, Nat.not_lt_zero, List.map_cons, List.map_nil, List.cons_append, List.nil_append, loadA, cellsAt, nAg, packA, opt_bind_some, opt_map_some, opt_bind_none, opt_map_none, List.drop, List.take, List.head?, List.length_cons, List.length_nil, binA, unA, eqCells, eqCell, negB, fillA, sr_nil, sr_cons, sr_succ, sr_all, sr_len, storeA, Ob.with, indexedI, V.oneCell, intOf?, retQ_ret, retQ_norm, resA, resA1, fr_getD, packR, sealDepth, shut_bool, shut_int, Option.some.injEq, V.bool.injEq, V.int.injEq, Bool.not_true, Bool.not_false, true_and, and_true, and_self, Bool.and_true, Bool.and_false, Bool.true_and, Bool.false_and, Bool.or_true, Bool.or_false, Bool.true_or, Bool.false_or, Bool.false_eq_true, Int.reduceLT, Int.reduceLE, Int.reduceToNat, Int.reduceNeg, shut_plain, freeL_cons, freeL_nil, free_int, free_bool, free_agg, free_str, free_nils, free_tup, free_sl, true_implies, false_implies, Nat.sub_zero, Int.natCast_nonneg, Int.toNat_natCast, Nat.le_refl, not_true_eq_false, Int.reduceAdd, Int.reduceSub, Int.reduceMul, wrap64, false_and, and_false, cond_true, cond_false, Bool.cond_true_left, Bool.cond_false_right, Int.reduceBNe, Int.reduceBEq, decide_true, decide_false, Int.cast_ofNat_Int, Nat.mul_one, eq_self, Bool.true_eq_false, Bool.not_eq_true, Bool.not_eq_false, deads, List.replicate, argsF, am31, isNil, badE]
theorem ints_at {k : IntKind} {A X : List Int} {i : Nat} (hi : i < A.length) : List.take 1 (List.drop i ((A ++ X).map (V.int k))) = [.int k A[i]] := by
  rw [← List.map_drop, List.drop_eq_getElem_cons (by simp; omega), List.getElem_append_left hi]
  rfl
theorem index_spec {N n : Nat} (hn : 2 ≤ n) {H : Heap} {o v : Nat} {cap : Option Nat} {A X : List Int} (ho : H[o]? = some ⟨v, .arr ((A ++ X).map (V.int .i64))⟩) (hA : A.length < N) (hA' : A.length ≤ 100000) :
    ∃ i : Int, callA am N n 58 [.view o v 0 A.length 1 cap, .func 31 [] []] H = some (.int .i64 i, H) ∧ decide (i ≥ 0) = A.any badE := by
  obtain ⟨n, rfl⟩ : ∃ m, n = m + 1 := ⟨n - 1, by omega⟩
  have c31 := fun x => @bad_spec N n (by omega) x H
  suffices Hs : ∃ W H', callA am N (n + 1) 58 [.view o v 0 A.length 1 cap, .func 31 [] []] H = some (W, H') ∧ H' = H ∧ ∃ i : Int, W = .int .i64 i ∧ decide (i ≥ 0) = A.any badE by
    obtain ⟨W, H', h1, rfl, i, rfl, h2⟩ := Hs
    exact ⟨i, h1, h2⟩
  refine call_keep at58 rfl rfl (by decide) (sx_wp ?_)
  simp +contextual -implicitDefEqProofs (maxSteps := 10000000) only [sx_seq, sxL_succ, lpQ_norm, lpQ_exit, lpQ_ret, loopQ_norm, loopQ_exit, loopQ_ret, sqQ_norm, sqQ_ret, sqQ_exit, sx_block, blkQ_norm, blkQ_exit, blkQ_ret, sx_cond, cdP_true, cdP_false, cdP_bool, sx_region, sx_draw, plainD, List.all_cons, List.all_nil, List.isEmpty_nil, List.isEmpty_cons, sxo_nil, sxo_cons, sxo_guard, gdS_bool, gdS_eff, gdS_tup, gdS_sel, gdS_seleff, sxK_def, wcall_some, effP_ret, effP_set, effP_none, effP_ite, wop_call, wop_cv, cvP_func, sx_ret, sx_exit, sx_skip, sx_clr, sx_fresh, stays, ↓selV_wt, ↓selV_wf, ↓impB_wt, ↓impB_wf, ↓selV_nor, ↓impB_nor, ↓selV_nt, ↓selV_nf, ↓impB_nt, ↓impB_nf, wantB_true, wantB_false, ↓selV_true, ↓selV_false, ↓selV_and, ↓impB_true, ↓impB_false, ↓impB_and, impB_triv, valOf_some, retH_some, ↓prim_pick, pickO_true, pickO_false, pickO_and, pickO_or, pickO_andr, pickO_orr, pickO_orrn, pickO_orn, pickO_bb, pickAnd_bool, pickOr_bool, ↓selV_nn, ↓impB_nn, Bool.and_assoc, Bool.or_assoc, doOp, ev_fr, ev_cst, put_none, put_fr, get, ins, del, dels, Nat.reduceLT, Nat.reduceEqDiff, ↓reduceIte, reduceCtorEq, ne_eq, not_false_eq_true, implies_true, framed_pureF, framed_fb, framed_N, framed_pure, wop_prim, prim, YLD, mkA, V.cells, List.getElem?_cons_zero, List.getElem?_cons_succ, List.set_cons_zero, List.set_cons_succ, Nat.zero_add, Nat.add_zero, Nat.reduceAdd, Nat.reduceSub, Nat.reduceMul, Nat.reduceLeDiff, Nat.not_lt_zero, List.map_cons, List.map_nil, List.cons_append, List.nil_append, loadA, cellsAt, nAg, packA, opt_bind_some, opt_map_some, opt_bind_none, opt_map_none, List.drop, List.take, List.head?, List.length_cons, List.length_nil, binA, unA, eqCells, eqCell, negB, fillA, sr_nil, sr_cons, sr_succ, sr_all, sr_len, storeA, Ob.with, indexedI, V.oneCell, intOf?, retQ_ret, retQ_norm, resA, resA1, fr_getD, packR, sealDepth, shut_bool, shut_int, Option.some.injEq, V.bool.injEq, V.int.injEq, Bool.not_true, Bool.not_false, true_and, and_true, and_self, Bool.and_true, Bool.and_false, Bool.true_and, Bool.false_and, Bool.or_true, Bool.or_false, Bool.true_or, Bool.false_or, Bool.false_eq_true, Int.reduceLT, Int.reduceLE, Int.reduceToNat, Int.reduceNeg, shut_plain, freeL_cons, freeL_nil, free_int, free_bool, free_agg, free_str, free_nils, free_tup, free_sl, true_implies, false_implies, Nat.sub_zero, Int.natCast_nonneg, Int.toNat_natCast, Nat.le_refl, not_true_eq_false, Int.reduceAdd, Int.reduceSub, Int.reduceMul, wrap64, false_and, and_false, cond_true, cond_false, Bool.cond_true_left, Bool.cond_false_right, Int.reduceBNe, Int.reduceBEq, decide_true, decide_false, Int.cast_ofNat_Int, Nat.mul_one, eq_self, Bool.true_eq_false, Bool.not_eq_true, Bool.not_eq_false, deads, List.replicate, argsF, am58, isNil, lenA, List.append_nil]
  refine sx_loop (fun i t K => i ≤ A.length ∧ K = H ∧ (A.take i).any badE = false ∧ t = fr 19 [(0, .view o v 0 A.length 1 cap), (1, .func 31 [] []), (7, .int .i64 A.length), (8, .int .i64 i)]) A.length hA ⟨Nat.zero_le _, rfl, rfl, rfl⟩ ?_
  rintro i t K hi ⟨hi', rfl, hp, rfl⟩
  have hl : ((A ++ X).map (V.int .i64)).length = A.length + X.length := by simp
  by_cases hlt : i < A.length
  · have g1 : decide ((i : Int) < (A.length : Int)) = true := decide_eq_true (by omega)
    have w4 : IntKind.i64.wrap ((i : Int) + 1) = ((i + 1 : Nat) : Int) := (wrap64 (by omega) (by omega)).trans (by omega)
    have i0 : (0 : Int) ≤ (i : Int) := by omega
    have i1 : (i : Int) < (A.length : Int) := by omega
    have fa := ints_at (k := .i64) (X := X) hlt
    have le : i + 1 ≤ A.length + X.length := by omega
    have hi1 : i + 1 ≤ A.length := by omega
    have hp2 : (A.take (i + 1)).any badE = badE A[i] := by
      rw [List.take_add_one, List.any_append, hp, List.getElem?_eq_getElem hlt]
      simp
    cases gb : badE A[i] with
    | true =>
      have c31' := c31 A[i]
      rw [gb] at c31'
      have he : A.any badE = true := List.any_eq_true.2 ⟨A[i], List.getElem_mem hlt, gb⟩
      simp +contextual -implicitDefEqProofs (maxSteps := 10000000) only [sx_seq, sxL_succ, lpQ_norm, lpQ_exit, lpQ_ret, loopQ_norm, loopQ_exit, loopQ_ret, sqQ_norm, sqQ_ret, sqQ_exit, sx_block, blkQ_norm, blkQ_exit, blkQ_ret, sx_cond, cdP_true, cdP_false, cdP_bool, sx_region, sx_draw, plainD, List.all_cons, List.all_nil, List.isEmpty_nil, List.isEmpty_cons, sxo_nil, sxo_cons, sxo_guard, gdS_bool, gdS_eff, gdS_tup, gdS_sel, gdS_seleff, sxK_def, wcall_some, effP_ret, effP_set, effP_none, effP_ite, wop_call, wop_cv, cvP_func, sx_ret, sx_exit, sx_skip, sx_clr, sx_fresh, stays, ↓selV_wt, ↓selV_wf, ↓impB_wt, ↓impB_wf, ↓selV_nor, ↓impB_nor, ↓selV_nt, ↓selV_nf, ↓impB_nt, ↓impB_nf, wantB_true, wantB_false, ↓selV_true, ↓selV_false, ↓selV_and, ↓impB_true, ↓impB_false, ↓impB_and, impB_triv, valOf_some, retH_some, ↓prim_pick, pickO_true, pickO_false, pickO_and, pickO_or, pickO_andr, pickO_orr, pickO_orrn, pickO_orn, pickO_bb, pickAnd_bool, pickOr_bool, ↓selV_nn, ↓impB_nn, Bool.and_assoc, Bool.or_assoc, doOp, ev_fr, ev_cst, put_none, put_fr, get, ins, del, dels, Nat.reduceLT, Nat.reduceEqDiff, ↓reduceIte, reduceCtorEq, ne_eq, not_false_eq_true, implies_true, framed_pureF, framed_fb, framed_N, framed_pure, wop_prim, prim, YLD, mkA, V.cells, List.getElem?_cons_zero, List.getElem?_cons_succ, List.set_cons_zero, List.set_cons_succ, Nat.zero_add, Nat.add_zero, Nat.reduceAdd, Nat.reduceSub, Nat.reduceMul, Nat.reduceLeDiff, Nat.not_lt_zero, List.map_cons, List.map_nil, List.cons_append, List.nil_append, loadA, cellsAt, nAg, packA, opt_bind_some, opt_map_some, opt_bind_none, opt_map_none, List.drop, List.take, List.head?, List.length_cons, List.length_nil, binA, unA, eqCells, eqCell, negB, fillA, sr_nil, sr_cons, sr_succ, sr_all, sr_len, storeA, Ob.with, indexedI, V.oneCell, intOf?, retQ_ret, retQ_norm, resA, resA1, fr_getD, packR, sealDepth, shut_bool, shut_int, Option.some.injEq, V.bool.injEq, V.int.injEq, Bool.not_true, Bool.not_false, true_and, and_true, and_self, Bool.and_true, Bool.and_false, Bool.true_and, Bool.false_and, Bool.or_true, Bool.or_false, Bool.true_or, Bool.false_or, Bool.false_eq_true, Int.reduceLT, Int.reduceLE, Int.reduceToNat, Int.reduceNeg, shut_plain, freeL_cons, freeL_nil, free_int, free_bool, free_agg, free_str, free_nils, free_tup, free_sl, true_implies, false_implies, Nat.sub_zero, Int.natCast_nonneg, Int.toNat_natCast, Nat.le_refl, not_true_eq_false, Int.reduceAdd, Int.reduceSub, Int.reduceMul, wrap64, false_and, and_false, cond_true, cond_false, Bool.cond_true_left, Bool.cond_false_right, Int.reduceBNe, Int.reduceBEq, decide_true, decide_false, Int.cast_ofNat_Int, Nat.mul_one, eq_self, Bool.true_eq_false, Bool.not_eq_true, Bool.not_eq_false, deads, List.replicate, argsF, g1, iaddrSA, i0, i1, ho, hl, fa, le, cvP_func (g := 31) (by decide), c31', Int.toNat_natCast, he]
      exact ⟨_, rfl, decide_eq_true (by omega)⟩
    | false =>
      have c31' := c31 A[i]
      rw [gb] at c31' hp2
      simp +contextual -implicitDefEqProofs (maxSteps := 10000000) only [sx_seq, sxL_succ, lpQ_norm, lpQ_exit, lpQ_ret, loopQ_norm, loopQ_exit, loopQ_ret, sqQ_norm, sqQ_ret, sqQ_exit, sx_block, blkQ_norm, blkQ_exit, blkQ_ret, sx_cond, cdP_true, cdP_false, cdP_bool, sx_region, sx_draw, plainD, List.all_cons, List.all_nil, List.isEmpty_nil, List.isEmpty_cons, sxo_nil, sxo_cons, sxo_guard, gdS_bool, gdS_eff, gdS_tup, gdS_sel, gdS_seleff, sxK_def, wcall_some, effP_ret, effP_set, effP_none, effP_ite, wop_call, wop_cv, cvP_func, sx_ret, sx_exit, sx_skip, sx_clr, sx_fresh, stays, ↓selV_wt, ↓selV_wf, ↓impB_wt, ↓impB_wf, ↓selV_nor, ↓impB_nor, ↓selV_nt, ↓selV_nf, ↓impB_nt, ↓impB_nf, wantB_true, wantB_false, ↓selV_true, ↓selV_false, ↓selV_and, ↓impB_true, ↓impB_false, ↓impB_and, impB_triv, valOf_some, retH_some, ↓prim_pick, pickO_true, pickO_false, pickO_and, pickO_or, pickO_andr, pickO_orr, pickO_orrn, pickO_orn, pickO_bb, pickAnd_bool, pickOr_bool, ↓selV_nn, ↓impB_nn, Bool.and_assoc, Bool.or_assoc, doOp, ev_fr, ev_cst, put_none, put_fr, get, ins, del, dels, Nat.reduceLT, Nat.reduceEqDiff, ↓reduceIte, reduceCtorEq, ne_eq, not_false_eq_true, implies_true, framed_pureF, framed_fb, framed_N, framed_pure, wop_prim, prim, YLD, mkA, V.cells, List.getElem?_cons_zero, List.getElem?_cons_succ, List.set_cons_zero, List.set_cons_succ, Nat.zero_add, Nat.add_zero, Nat.reduceAdd, Nat.reduceSub, Nat.reduceMul, Nat.reduceLeDiff, Nat.not_lt_zero, List.map_cons, List.map_nil, List.cons_append, List.nil_append, loadA, cellsAt, nAg, packA, opt_bind_some, opt_map_some, opt_bind_none, opt_map_none, List.drop, List.take, List.head?, List.length_cons, List.length_nil, binA, unA, eqCells, eqCell, negB, fillA, sr_nil, sr_cons, sr_succ, sr_all, sr_len, storeA, Ob.with, indexedI, V.oneCell, intOf?, retQ_ret, retQ_norm, resA, resA1, fr_getD, packR, sealDepth, shut_bool, shut_int, Option.some.injEq, V.bool.injEq, V.int.injEq, Bool.not_true, Bool.not_false, true_and, and_true, and_self, Bool.and_true, Bool.and_false, Bool.true_and, Bool.false_and, Bool.or_true, Bool.or_false, Bool.true_or, Bool.false_or, Bool.false_eq_true, Int.reduceLT, Int.reduceLE, Int.reduceToNat, Int.reduceNeg, shut_plain, freeL_cons, freeL_nil, free_int, free_bool, free_agg, free_str, free_nils, free_tup, free_sl, true_implies, false_implies, Nat.sub_zero, Int.natCast_nonneg, Int.toNat_natCast, Nat.le_refl, not_true_eq_false, Int.reduceAdd, Int.reduceSub, Int.reduceMul, wrap64, false_and, and_false, cond_true, cond_false, Bool.cond_true_left, Bool.cond_false_right, Int.reduceBNe, Int.reduceBEq, decide_true, decide_false, Int.cast_ofNat_Int, Nat.mul_one, eq_self, Bool.true_eq_false, Bool.not_eq_true, Bool.not_eq_false, deads, List.replicate, argsF, g1, iaddrSA, i0, i1, ho, hl, fa, le, cvP_func (g := 31) (by decide), c31', Int.toNat_natCast, w4, hp2, hlt, hi1]
  · have e8 : i = A.length := by omega
    subst e8
    rw [List.take_length] at hp
    have g1 : decide ((A.length : Int) < (A.length : Int)) = false := decide_eq_false (by omega)
    simp +contextual -implicitDefEqProofs (maxSteps := 10000000) only [sx_seq, sxL_succ, lpQ_norm, lpQ_exit, lpQ_ret, loopQ_norm, loopQ_exit, loopQ_ret, sqQ_norm, sqQ_ret, sqQ_exit, sx_block, blkQ_norm, blkQ_exit, blkQ_ret, sx_cond, cdP_true, cdP_false, cdP_bool, sx_region, sx_draw, plainD, List.all_cons, List.all_nil, List.isEmpty_nil, List.isEmpty_cons, sxo_nil, sxo_cons, sxo_guard, gdS_bool, gdS_eff, gdS_tup, gdS_sel, gdS_seleff, sxK_def, wcall_some, effP_ret, effP_set, effP_none, effP_ite, wop_call, wop_cv, cvP_func, sx_ret, sx_exit, sx_skip, sx_clr, sx_fresh, stays, ↓selV_wt, ↓selV_wf, ↓impB_wt, ↓impB_wf, ↓selV_nor, ↓impB_nor, ↓selV_nt, ↓selV_nf, ↓impB_nt, ↓impB_nf, wantB_true, wantB_false, ↓selV_true, ↓selV_false, ↓selV_and, ↓impB_true, ↓impB_false, ↓impB_and, impB_triv, valOf_some, retH_some, ↓prim_pick, pickO_true, pickO_false, pickO_and, pickO_or, pickO_andr, pickO_orr, pickO_orrn, pickO_orn, pickO_bb, pickAnd_bool, pickOr_bool, ↓selV_nn, ↓impB_nn, Bool.and_assoc, Bool.or_assoc, doOp, ev_fr, ev_cst, put_none, put_fr, get, ins, del, dels, Nat.reduceLT, Nat.reduceEqDiff, ↓reduceIte, reduceCtorEq, ne_eq, not_false_eq_true, implies_true, framed_pureF, framed_fb, framed_N, framed_pure, wop_prim, prim, YLD, mkA, V.cells, List.getElem?_cons_zero, List.getElem?_cons_succ, List.set_cons_zero, List.set_cons_succ, Nat.zero_add, Nat.add_zero, Nat.reduceAdd, Nat.reduceSub, Nat.reduceMul, Nat.reduceLeDiff, Nat.not_lt_zero, List.map_cons, List.map_nil, List.cons_append, List.nil_append, loadA, cellsAt, nAg, packA, opt_bind_some, opt_map_some, opt_bind_none, opt_map_none, List.drop, List.take, List.head?, List.length_cons, List.length_nil, binA, unA, eqCells, eqCell, negB, fillA, sr_nil, sr_cons, sr_succ, sr_all, sr_len, storeA, Ob.with, indexedI, V.oneCell, intOf?, retQ_ret, retQ_norm, resA, resA1, fr_getD, packR, sealDepth, shut_bool, shut_int, Option.some.injEq, V.bool.injEq, V.int.injEq, Bool.not_true, Bool.not_false, true_and, and_true, and_self, Bool.and_true, Bool.and_false, Bool.true_and, Bool.false_and, Bool.or_true, Bool.or_false, Bool.true_or, Bool.false_or, Bool.false_eq_true, Int.reduceLT, Int.reduceLE, Int.reduceToNat, Int.reduceNeg, shut_plain, freeL_cons, freeL_nil, free_int, free_bool, free_agg, free_str, free_nils, free_tup, free_sl, true_implies, false_implies, Nat.sub_zero, Int.natCast_nonneg, Int.toNat_natCast, Nat.le_refl, not_true_eq_false, Int.reduceAdd, Int.reduceSub, Int.reduceMul, wrap64, false_and, and_false, cond_true, cond_false, Bool.cond_true_left, Bool.cond_false_right, Int.reduceBNe, Int.reduceBEq, decide_true, decide_false, Int.cast_ofNat_Int, Nat.mul_one, eq_self, Bool.true_eq_false, Bool.not_eq_true, Bool.not_eq_false, deads, List.replicate, argsF, g1, hp]
    exact ⟨_, rfl, rfl⟩
theorem contains_spec {N n : Nat} (hn : 3 ≤ n) {H : Heap} {o v : Nat} {cap : Option Nat} {A X : List Int} (ho : H[o]? = some ⟨v, .arr ((A ++ X).map (V.int .i64))⟩) (hA : A.length < N) (hA' : A.length ≤ 100000) :
    callA am N n 30 [.view o v 0 A.length 1 cap, .func 31 [] []] H = some (.bool (A.any badE), H) := by
  obtain ⟨n, rfl⟩ : ∃ m, n = m + 1 := ⟨n - 1, by omega⟩
  obtain ⟨i, c58, hi⟩ := @index_spec N n (by omega) H o v cap A X ho hA hA'
  refine call_keep_eq at30 rfl rfl (by decide) (sx_wp ?_)
  simp +contextual -implicitDefEqProofs (maxSteps := 10000000) only [sx_seq, sxL_succ, lpQ_norm, lpQ_exit, lpQ_ret, loopQ_norm, loopQ_exit, loopQ_ret, sqQ_norm, sqQ_ret, sqQ_exit, sx_block, blkQ_norm, blkQ_exit, blkQ_ret, sx_cond, cdP_true, cdP_false, cdP_bool, sx_region, sx_draw, plainD, List.all_cons, List.all_nil, List.isEmpty_nil, List.isEmpty_cons, sxo_nil, sxo_cons, sxo_guard, gdS_bool, gdS_eff, gdS_tup, gdS_sel, gdS_seleff, sxK_def, wcall_some, effP_ret, effP_set, effP_none, effP_ite, wop_call, wop_cv, cvP_func, sx_ret, sx_exit, sx_skip, sx_clr, sx_fresh, stays, ↓selV_wt, ↓selV_wf, ↓impB_wt, ↓impB_wf, ↓selV_nor, ↓impB_nor, ↓selV_nt, ↓selV_nf, ↓impB_nt, ↓impB_nf, wantB_true, wantB_false, ↓selV_true, ↓selV_false, ↓selV_and, ↓impB_true, ↓impB_false, ↓impB_and, impB_triv, valOf_some, retH_some, ↓prim_pick, pickO_true, pickO_false, pickO_and, pickO_or, pickO_andr, pickO_orr, pickO_orrn, pickO_orn, pickO_bb, pickAnd_bool, pickOr_bool, ↓selV_nn, ↓impB_nn, Bool.and_assoc, Bool.or_assoc, doOp, ev_fr, ev_cst, put_none, put_fr, get, ins, del, dels, Nat.reduceLT, Nat.reduceEqDiff, ↓reduceIte, reduceCtorEq, ne_eq, not_false_eq_true, implies_true, framed_pureF, framed_fb, framed_N, framed_pure, wop_prim, prim, YLD, mkA, V.cells, List.getElem?_cons_zero, List.getElem?_cons_succ, List.set_cons_zero, List.set_cons_succ, Nat.zero_add, Nat.add_zero, Nat.reduceAdd, Nat.reduceSub, Nat.reduceMul, Nat.reduceLeDiff, Nat.not_lt_zero, List.map_cons, List.map_nil, List.cons_append, List.nil_append, loadA, cellsAt, nAg, packA, opt_bind_some, opt_map_some, opt_bind_none, opt_map_none, List.drop, List.take, List.head?, List.length_cons, List.length_nil, binA, unA, eqCells, eqCell, negB, fillA, sr_nil, sr_cons, sr_succ, sr_all, sr_len, storeA, Ob.with, indexedI, V.oneCell, intOf?, retQ_ret, retQ_norm, resA, resA1, fr_getD, packR, sealDepth, shut_bool, shut_int, Option.some.injEq, V.bool.injEq, V.int.injEq, Bool.not_true, Bool.not_false, true_and, and_true, and_self, Bool.and_true, Bool.and_false, Bool.true_and, Bool.false_and, Bool.or_true, Bool.or_false, Bool.true_or, Bool.false_or, Bool.false_eq_true, Int.reduceLT, Int.reduceLE, Int.reduceToNat, Int.reduceNeg, shut_plain, freeL_cons, freeL_nil, free_int, free_bool, free_agg, free_str, free_nils, free_tup, free_sl, true_implies, false_implies, Nat.sub_zero, Int.natCast_nonneg, Int.toNat_natCast, Nat.le_refl, not_true_eq_false, Int.reduceAdd, Int.reduceSub, Int.reduceMul, wrap64, false_and, and_false, cond_true, cond_false, Bool.cond_true_left, Bool.cond_false_right, Int.reduceBNe, Int.reduceBEq, decide_true, decide_false, Int.cast_ofNat_Int, Nat.mul_one, eq_self, Bool.true_eq_false, Bool.not_eq_true, Bool.not_eq_false, deads, List.replicate, argsF, am30, isNil, c58, hi, List.append_nil]
end Go.Am.T


set_option linter.unusedVariables false
set_option linter.unusedSimpArgs false
set_option maxRecDepth 10000
namespace Go.Am.T
attribute [local congr] selV_congr impB_congr
structure Rd (H : Heap) (x : V) (k : IntKind) (L : List Int) : Prop where
  len : lenA x = some L.length
  nstr : ∀ b, x ≠ .str b
  at_ : ∀ i, (h : i < L.length) → iaddrSA 1 x (.int .i64 (i : Nat)) = some (.ret (.iptr [.int k L[i]] 0)) ∨
    ∃ o v off cs, iaddrSA 1 x (.int .i64 (i : Nat)) = some (.ret (.ptr o v off)) ∧ H[o]? = some ⟨v, .arr cs⟩ ∧ off + 1 ≤ cs.length ∧ List.take 1 (List.drop off cs) = [.int k L[i]]
theorem Rd.of_isL {H : Heap} {x : V} {k : IntKind} {L : List Int} (h : IsL x 1 (L.map fun n => [V.int k n])) : Rd H x k L := by
  refine ⟨by rw [h.len, List.length_map], h.nstr, fun i hi => .inl ?_⟩
  have := h.at_ i
  rw [List.getElem?_map, List.getElem?_eq_getElem hi] at this
  exact this
theorem Rd.app {H : Heap} {x : V} {k : IntKind} {L : List Int} (h : Rd H x k L) (l : Heap) : Rd (H ++ l) x k L := by
  refine ⟨h.len, h.nstr, fun i hi => ?_⟩
  rcases h.at_ i hi with q | ⟨o, v, off, cs, q1, q2, q3⟩
  · exact .inl q
  · exact .inr ⟨o, v, off, cs, q1, by rw [List.getElem?_append_left (lt_of_get q2)]; exact q2, q3⟩
def chunks (B : List Int) : List (List Int) := (List.range (B.length / 64)).map fun i => (B.drop (i * 64)).take 64
def ofOk (B Es : List Int) : Bool := (B.length % 64 == 0) && (newOk ((B.length / 64 : Nat) : Int) (Es.length : Int) && !Es.any badE)
def ofD (B Es : List Int) : Dv := ⟨chunks B, Es ++ List.replicate (8 - Es.length) 0, Es.length, false, 0, false, 0⟩
theorem chunks_sec {B : List Int} : ∀ s ∈ chunks B, s.length = 64 := fun s hs => by
  obtain ⟨i, hi, rfl⟩ := List.mem_map.1 hs
  have := List.mem_range.1 hi
  rw [List.length_take, List.length_drop]
  omega
theorem range_flat (B : List Int) : ∀ m, ((List.range m).map fun i => (B.drop (i * 64)).take 64).flatten = B.take (m * 64)
  | 0 => by simp
  | m + 1 => by
    rw [List.range_succ, List.map_append, List.flatten_append, range_flat B m, List.map_singleton, List.flatten_singleton, Nat.succ_mul, List.take_add]
theorem chunks_flat {B : List Int} (h : B.length % 64 = 0) : (chunks B).flatten = B := by
  rw [chunks, range_flat, List.take_of_length_le (by omega)]
theorem ofOk_true {B Es : List Int} (h : ofOk B Es = true) : B.length % 64 = 0 ∧ 1 ≤ B.length / 64 ∧ B.length / 64 ≤ 4096 ∧ 1 ≤ Es.length ∧ Es.length ≤ 8 ∧ Es.any badE = false := by
  simp only [ofOk, Bool.and_eq_true, beq_iff_eq, Bool.not_eq_true'] at h
  have := newOk_true h.2.1
  exact ⟨h.1, by omega, by omega, by omega, by omega, h.2.2⟩
theorem ofD_ok {B Es : List Int} (h : ofOk B Es = true) : (ofD B Es).Ok := by
  obtain ⟨h1, h2, h3, h4, h5, h6⟩ := ofOk_true h
  have hc : (chunks B).length = B.length / 64 := by simp [chunks]
  refine ⟨by simp [ofD]; omega, h4, h5, by show 1 ≤ (chunks B).length; omega, by show (chunks B).length ≤ 4096; omega, chunks_sec, fun h => (by cases h), (by decide : (0 : Int) ≤ _), fun i hi => ?_, fun e he => ?_⟩
  · show (Es ++ List.replicate (8 - Es.length) 0).getD i 0 = 0
    have hi : Es.length ≤ i := hi
    rw [List.getD_eq_getElem?_getD, List.getElem?_append_right hi, List.getElem?_replicate]
    split <;> rfl
  · rcases List.mem_append.1 he with he | he
    · have : badE e = false := by
        cases hb : badE e with
        | false => rfl
        | true => rw [List.any_eq_true.2 ⟨e, he, hb⟩] at h6; cases h6
      simp only [badE, Bool.or_eq_false_iff, decide_eq_false_iff_not] at this
      omega
    · rw [List.eq_of_mem_replicate he]
      exact ⟨Int.le_refl 0, by decide⟩
theorem ofD_eps {B Es : List Int} : (ofD B Es).eps = Es := by simp [Dv.eps, ofD]
theorem fill_step {k : IntKind} {B : List Int} {T i : Nat} (hi : i < B.length) (hT : B.length ≤ T) : setRange ((B.take i ++ List.replicate (T - i) 0).map (V.int k)) i [.int k B[i]] = (B.take (i + 1) ++ List.replicate (T - (i + 1)) 0).map (V.int k) := by
  have hl : ((B.take i).map (V.int k)).length = i := by simp; omega
  have e1 : T - i = T - (i + 1) + 1 := by omega
  have e2 : B.take (i + 1) = B.take i ++ [B[i]] := by rw [List.take_add_one, List.getElem?_eq_getElem hi]; rfl
  rw [e1, List.replicate_succ, e2, List.append_assoc]
  simp only [setRange, List.map_append, List.map_cons, List.map_nil, List.length_cons, List.length_nil, List.cons_append, List.nil_append]
  generalize (B.take i).map (V.int k) = A at hl ⊢
  subst hl
  rw [List.take_left', List.drop_append, List.drop_eq_nil_of_le (by omega), Nat.zero_add, Nat.add_sub_cancel_left]
  · simp
  · rfl
end Go.Am.T


set_option linter.unusedVariables false
set_option linter.unusedSimpArgs false
set_option maxRecDepth 10000
namespace Go.Am.T
attribute [local congr] selV_congr impB_congr
theorem iaddrS_v {o ver off len s : Nat} {cap : Option Nat} {i : Int} : iaddrSA s (.view o ver off len s cap) (.int .i64 i) = (indexedI len (.int .i64 i)).map fun i => .ret (.ptr o ver (off + i * s)) := by
  simp only [iaddrSA, ↓reduceIte]
set_option maxHeartbeats 2000000 in
theorem rof_spec {N n : Nat} (hN : 300000 < N) (hn : 2 ≤ n) {H : Heap} {x y : V} {B Es : List Int} (hx : Rd H x .u8 B) (hy : Rd H y .i64 Es) (hB : B.length ≤ 300000) (hE : Es.length ≤ 300000) :
    ∃ H', callA am N n 10 [x, y] H = some ((bif ofOk B Es then .ptr (H.length + 2) 1 0 else .nilp), H') ∧ H.length ≤ H'.length ∧ (∀ p, p < H.length → H'[p]? = H[p]?) ∧
      (ofOk B Es = true → RAt H' (H.length + 2) H.length (H.length + 1) (ofD B Es)) := by
  obtain ⟨n, rfl⟩ : ∃ m, n = m + 1 := ⟨n - 1, by omega⟩
  have lx := hx.len
  have ly := hy.len
  have nx := hx.nstr
  have ny := hy.nstr
  suffices Hs : ∃ W H', callA am N (n + 1) 10 [x, y] H = some (W, H') ∧ W = (bif ofOk B Es then .ptr (H.length + 2) 1 0 else .nilp) ∧ H.length ≤ H'.length ∧ (∀ p, p < H.length → H'[p]? = H[p]?) ∧
      (ofOk B Es = true → RAt H' (H.length + 2) H.length (H.length + 1) (ofD B Es)) by
    obtain ⟨W, H', h1, rfl, h2⟩ := Hs
    exact ⟨H', h1, h2⟩
  have em : Int.tmod (B.length : Int) 64 = ((B.length % 64 : Nat) : Int) := by rw [Int.tmod_eq_emod_of_nonneg (by omega)]; omega
  have eq : Int.tdiv (B.length : Int) 64 = ((B.length / 64 : Nat) : Int) := by rw [Int.tdiv_eq_ediv_of_nonneg (by omega)]; omega
  have if64 : ∀ a b : Option V, (if (64 : Int) = 0 then a else b) = b := fun a b => if_neg (by decide)
  have wq : IntKind.i64.wrap ((B.length / 64 : Nat) : Int) = ((B.length / 64 : Nat) : Int) := wrap64 (by omega) (by omega)
  by_cases hm : B.length % 64 = 0
  · have gm : (((B.length % 64 : Nat) : Int) != 0) = false := by rw [hm]; rfl
    obtain ⟨H1, c14, h1l, h1k, h1r⟩ := @rnew_spec N n (by omega) ((B.length / 64 : Nat) : Int) (Es.length : Int) H
    cases gn : newOk ((B.length / 64 : Nat) : Int) (Es.length : Int) with
    | false =>
      rw [gn] at c14
      have go : ofOk B Es = false := by rw [ofOk, gn]; simp
      refine call_keep at10 rfl rfl (by decide) (sx_wp ?_)
      simp +contextual -implicitDefEqProofs (maxSteps := 10000000) only [sx_seq, sxL_succ, lpQ_norm, lpQ_exit, lpQ_ret, loopQ_norm, loopQ_exit, loopQ_ret, sqQ_norm, sqQ_ret, sqQ_exit, sx_block, blkQ_norm, blkQ_exit, blkQ_ret, sx_cond, cdP_true, cdP_false, cdP_bool, sx_region, sx_draw, plainD, List.all_cons, List.all_nil, List.isEmpty_nil, List.isEmpty_cons, sxo_nil, sxo_cons, sxo_guard, gdS_bool, gdS_eff, gdS_tup, gdS_sel, gdS_seleff, sxK_def, wcall_some, effP_ret, effP_set, effP_none, effP_ite, wop_call, wop_cv, cvP_func, sx_ret, sx_exit, sx_skip, sx_clr, sx_fresh, stays, ↓selV_wt, ↓selV_wf, ↓impB_wt, ↓impB_wf, ↓selV_nor, ↓impB_nor, ↓selV_nt, ↓selV_nf, ↓impB_nt, ↓impB_nf, wantB_true, wantB_false, ↓selV_true, ↓selV_false, ↓selV_and, ↓impB_true, ↓impB_false, ↓impB_and, impB_triv, valOf_some, retH_some, ↓prim_pick, pickO_true, pickO_false, pickO_and, pickO_or, pickO_andr, pickO_orr, pickO_orrn, pickO_orn, pickO_bb, pickAnd_bool, pickOr_bool, ↓selV_nn, ↓impB_nn, Bool.and_assoc, Bool.or_assoc, doOp, ev_fr, ev_cst, put_none, put_fr, get, ins, del, dels, Nat.reduceLT, Nat.reduceEqDiff, ↓reduceIte, reduceCtorEq, ne_eq, not_false_eq_true, implies_true, framed_pureF, framed_fb, framed_N, framed_pure, wop_prim, prim, YLD, mkA, V.cells, List.getElem?_cons_zero, List.getElem?_cons_succ, List.set_cons_zero, List.set_cons_succ, Nat.zero_add, Nat.add_zero, Nat.reduceAdd, Nat.reduceSub, Nat.reduceMul, Nat.reduceLeDiff, Nat.not_lt_zero, List.map_cons, List.map_nil, List.cons_append, List.nil_append, loadA, cellsAt, nAg, packA, opt_bind_some, opt_map_some, opt_bind_none, opt_map_none, List.drop, List.take, List.head?, List.length_cons, List.length_nil, binA, unA, eqCells, eqCell, negB, fillA, sr_nil, sr_cons, sr_succ, sr_all, sr_len, storeA, Ob.with, indexedI, V.oneCell, intOf?, retQ_ret, retQ_norm, resA, resA1, fr_getD, packR, sealDepth, shut_bool, shut_int, Option.some.injEq, V.bool.injEq, V.int.injEq, Bool.not_true, Bool.not_false, true_and, and_true, and_self, Bool.and_true, Bool.and_false, Bool.true_and, Bool.false_and, Bool.or_true, Bool.or_false, Bool.true_or, Bool.false_or, Bool.false_eq_true, Int.reduceLT, Int.reduceLE, Int.reduceToNat, Int.reduceNeg, shut_plain, freeL_cons, freeL_nil, free_int, free_bool, free_agg, free_str, free_nils, free_tup, free_sl, true_implies, false_implies, Nat.sub_zero, Int.natCast_nonneg, Int.toNat_natCast, Nat.le_refl, not_true_eq_false, Int.reduceAdd, Int.reduceSub, Int.reduceMul, wrap64, false_and, and_false, cond_true, cond_false, Bool.cond_true_left, Bool.cond_false_right, Int.reduceBNe, Int.reduceBEq, decide_true, decide_false, Int.cast_ofNat_Int, Nat.mul_one, eq_self, Bool.true_eq_false, Bool.not_eq_true, Bool.not_eq_false, deads, List.replicate, argsF, am10, if64, isNil, lx, ly, em, eq, wq, gm, c14, List.append_nil]
      refine sx_unroll 1 (by show 1 ≤ N; omega) ?_
      simp +contextual -implicitDefEqProofs (maxSteps := 10000000) only [sx_seq, sxL_succ, lpQ_norm, lpQ_exit, lpQ_ret, loopQ_norm, loopQ_exit, loopQ_ret, sqQ_norm, sqQ_ret, sqQ_exit, sx_block, blkQ_norm, blkQ_exit, blkQ_ret, sx_cond, cdP_true, cdP_false, cdP_bool, sx_region, sx_draw, plainD, List.all_cons, List.all_nil, List.isEmpty_nil, List.isEmpty_cons, sxo_nil, sxo_cons, sxo_guard, gdS_bool, gdS_eff, gdS_tup, gdS_sel, gdS_seleff, sxK_def, wcall_some, effP_ret, effP_set, effP_none, effP_ite, wop_call, wop_cv, cvP_func, sx_ret, sx_exit, sx_skip, sx_clr, sx_fresh, stays, ↓selV_wt, ↓selV_wf, ↓impB_wt, ↓impB_wf, ↓selV_nor, ↓impB_nor, ↓selV_nt, ↓selV_nf, ↓impB_nt, ↓impB_nf, wantB_true, wantB_false, ↓selV_true, ↓selV_false, ↓selV_and, ↓impB_true, ↓impB_false, ↓impB_and, impB_triv, valOf_some, retH_some, ↓prim_pick, pickO_true, pickO_false, pickO_and, pickO_or, pickO_andr, pickO_orr, pickO_orrn, pickO_orn, pickO_bb, pickAnd_bool, pickOr_bool, ↓selV_nn, ↓impB_nn, Bool.and_assoc, Bool.or_assoc, doOp, ev_fr, ev_cst, put_none, put_fr, get, ins, del, dels, Nat.reduceLT, Nat.reduceEqDiff, ↓reduceIte, reduceCtorEq, ne_eq, not_false_eq_true, implies_true, framed_pureF, framed_fb, framed_N, framed_pure, wop_prim, prim, YLD, mkA, V.cells, List.getElem?_cons_zero, List.getElem?_cons_succ, List.set_cons_zero, List.set_cons_succ, Nat.zero_add, Nat.add_zero, Nat.reduceAdd, Nat.reduceSub, Nat.reduceMul, Nat.reduceLeDiff, Nat.not_lt_zero, List.map_cons, List.map_nil, List.cons_append, List.nil_append, loadA, cellsAt, nAg, packA, opt_bind_some, opt_map_some, opt_bind_none, opt_map_none, List.drop, List.take, List.head?, List.length_cons, List.length_nil, binA, unA, eqCells, eqCell, negB, fillA, sr_nil, sr_cons, sr_succ, sr_all, sr_len, storeA, Ob.with, indexedI, V.oneCell, intOf?, retQ_ret, retQ_norm, resA, resA1, fr_getD, packR, sealDepth, shut_bool, shut_int, Option.some.injEq, V.bool.injEq, V.int.injEq, Bool.not_true, Bool.not_false, true_and, and_true, and_self, Bool.and_true, Bool.and_false, Bool.true_and, Bool.false_and, Bool.or_true, Bool.or_false, Bool.true_or, Bool.false_or, Bool.false_eq_true, Int.reduceLT, Int.reduceLE, Int.reduceToNat, Int.reduceNeg, shut_plain, freeL_cons, freeL_nil, free_int, free_bool, free_agg, free_str, free_nils, free_tup, free_sl, true_implies, false_implies, Nat.sub_zero, Int.natCast_nonneg, Int.toNat_natCast, Nat.le_refl, not_true_eq_false, Int.reduceAdd, Int.reduceSub, Int.reduceMul, wrap64, false_and, and_false, cond_true, cond_false, Bool.cond_true_left, Bool.cond_false_right, Int.reduceBNe, Int.reduceBEq, decide_true, decide_false, Int.cast_ofNat_Int, Nat.mul_one, eq_self, Bool.true_eq_false, Bool.not_eq_true, Bool.not_eq_false, deads, List.replicate, argsF, isNil]
      refine sx_unroll 1 (by show 1 ≤ N; omega) ?_
      simp +contextual -implicitDefEqProofs (maxSteps := 10000000) only [sx_seq, sxL_succ, lpQ_norm, lpQ_exit, lpQ_ret, loopQ_norm, loopQ_exit, loopQ_ret, sqQ_norm, sqQ_ret, sqQ_exit, sx_block, blkQ_norm, blkQ_exit, blkQ_ret, sx_cond, cdP_true, cdP_false, cdP_bool, sx_region, sx_draw, plainD, List.all_cons, List.all_nil, List.isEmpty_nil, List.isEmpty_cons, sxo_nil, sxo_cons, sxo_guard, gdS_bool, gdS_eff, gdS_tup, gdS_sel, gdS_seleff, sxK_def, wcall_some, effP_ret, effP_set, effP_none, effP_ite, wop_call, wop_cv, cvP_func, sx_ret, sx_exit, sx_skip, sx_clr, sx_fresh, stays, ↓selV_wt, ↓selV_wf, ↓impB_wt, ↓impB_wf, ↓selV_nor, ↓impB_nor, ↓selV_nt, ↓selV_nf, ↓impB_nt, ↓impB_nf, wantB_true, wantB_false, ↓selV_true, ↓selV_false, ↓selV_and, ↓impB_true, ↓impB_false, ↓impB_and, impB_triv, valOf_some, retH_some, ↓prim_pick, pickO_true, pickO_false, pickO_and, pickO_or, pickO_andr, pickO_orr, pickO_orrn, pickO_orn, pickO_bb, pickAnd_bool, pickOr_bool, ↓selV_nn, ↓impB_nn, Bool.and_assoc, Bool.or_assoc, doOp, ev_fr, ev_cst, put_none, put_fr, get, ins, del, dels, Nat.reduceLT, Nat.reduceEqDiff, ↓reduceIte, reduceCtorEq, ne_eq, not_false_eq_true, implies_true, framed_pureF, framed_fb, framed_N, framed_pure, wop_prim, prim, YLD, mkA, V.cells, List.getElem?_cons_zero, List.getElem?_cons_succ, List.set_cons_zero, List.set_cons_succ, Nat.zero_add, Nat.add_zero, Nat.reduceAdd, Nat.reduceSub, Nat.reduceMul, Nat.reduceLeDiff, Nat.not_lt_zero, List.map_cons, List.map_nil, List.cons_append, List.nil_append, loadA, cellsAt, nAg, packA, opt_bind_some, opt_map_some, opt_bind_none, opt_map_none, List.drop, List.take, List.head?, List.length_cons, List.length_nil, binA, unA, eqCells, eqCell, negB, fillA, sr_nil, sr_cons, sr_succ, sr_all, sr_len, storeA, Ob.with, indexedI, V.oneCell, intOf?, retQ_ret, retQ_norm, resA, resA1, fr_getD, packR, sealDepth, shut_bool, shut_int, Option.some.injEq, V.bool.injEq, V.int.injEq, Bool.not_true, Bool.not_false, true_and, and_true, and_self, Bool.and_true, Bool.and_false, Bool.true_and, Bool.false_and, Bool.or_true, Bool.or_false, Bool.true_or, Bool.false_or, Bool.false_eq_true, Int.reduceLT, Int.reduceLE, Int.reduceToNat, Int.reduceNeg, shut_plain, freeL_cons, freeL_nil, free_int, free_bool, free_agg, free_str, free_nils, free_tup, free_sl, true_implies, false_implies, Nat.sub_zero, Int.natCast_nonneg, Int.toNat_natCast, Nat.le_refl, not_true_eq_false, Int.reduceAdd, Int.reduceSub, Int.reduceMul, wrap64, false_and, and_false, cond_true, cond_false, Bool.cond_true_left, Bool.cond_false_right, Int.reduceBNe, Int.reduceBEq, decide_true, decide_false, Int.cast_ofNat_Int, Nat.mul_one, eq_self, Bool.true_eq_false, Bool.not_eq_true, Bool.not_eq_false, deads, List.replicate, argsF, isNil, go]
      exact ⟨by omega, h1k⟩
    | true =>
      obtain ⟨n1, n2, n3, n4⟩ := newOk_true gn
      obtain ⟨-, h1e⟩ := h1r gn
      rw [gn] at c14
      simp only [cond_true] at c14
      rw [newD_flat, newD_eps (by omega), Int.toNat_natCast, Int.toNat_natCast] at h1e
      have e64 : B.length / 64 * 64 = B.length := by omega
      rw [e64] at h1e
      obtain ⟨R0, hR0⟩ : ∃ R0 : List V, R0 = [.view H.length 1 0 (B.length / 64) 64 (some (B.length / 64)), .view (H.length + 1) 1 0 Es.length 1 (some Es.length), .int .i64 (-1), .bool false, .int .i64 0] := ⟨_, rfl⟩
      have h1e : H1 = H ++ [⟨1, .arr ((List.replicate B.length 0).map (V.int .u8))⟩, ⟨1, .arr ((List.replicate Es.length 0).map (V.int .i64))⟩, ⟨1, .var R0⟩] := by rw [h1e, hR0]; rfl
      subst h1e
      refine call_keep at10 rfl rfl (by decide) (sx_wp ?_)
      simp +contextual -implicitDefEqProofs (maxSteps := 10000000) only [sx_seq, sxL_succ, lpQ_norm, lpQ_exit, lpQ_ret, loopQ_norm, loopQ_exit, loopQ_ret, sqQ_norm, sqQ_ret, sqQ_exit, sx_block, blkQ_norm, blkQ_exit, blkQ_ret, sx_cond, cdP_true, cdP_false, cdP_bool, sx_region, sx_draw, plainD, List.all_cons, List.all_nil, List.isEmpty_nil, List.isEmpty_cons, sxo_nil, sxo_cons, sxo_guard, gdS_bool, gdS_eff, gdS_tup, gdS_sel, gdS_seleff, sxK_def, wcall_some, effP_ret, effP_set, effP_none, effP_ite, wop_call, wop_cv, cvP_func, sx_ret, sx_exit, sx_skip, sx_clr, sx_fresh, stays, ↓selV_wt, ↓selV_wf, ↓impB_wt, ↓impB_wf, ↓selV_nor, ↓impB_nor, ↓selV_nt, ↓selV_nf, ↓impB_nt, ↓impB_nf, wantB_true, wantB_false, ↓selV_true, ↓selV_false, ↓selV_and, ↓impB_true, ↓impB_false, ↓impB_and, impB_triv, valOf_some, retH_some, ↓prim_pick, pickO_true, pickO_false, pickO_and, pickO_or, pickO_andr, pickO_orr, pickO_orrn, pickO_orn, pickO_bb, pickAnd_bool, pickOr_bool, ↓selV_nn, ↓impB_nn, Bool.and_assoc, Bool.or_assoc, doOp, ev_fr, ev_cst, put_none, put_fr, get, ins, del, dels, Nat.reduceLT, Nat.reduceEqDiff, ↓reduceIte, reduceCtorEq, ne_eq, not_false_eq_true, implies_true, framed_pureF, framed_fb, framed_N, framed_pure, wop_prim, prim, YLD, mkA, V.cells, List.getElem?_cons_zero, List.getElem?_cons_succ, List.set_cons_zero, List.set_cons_succ, Nat.zero_add, Nat.add_zero, Nat.reduceAdd, Nat.reduceSub, Nat.reduceMul, Nat.reduceLeDiff, Nat.not_lt_zero, List.map_cons, List.map_nil, List.cons_append, List.nil_append, loadA, cellsAt, nAg, packA, opt_bind_some, opt_map_some, opt_bind_none, opt_map_none, List.drop, List.take, List.head?, List.length_cons, List.length_nil, binA, unA, eqCells, eqCell, negB, fillA, sr_nil, sr_cons, sr_succ, sr_all, sr_len, storeA, Ob.with, indexedI, V.oneCell, intOf?, retQ_ret, retQ_norm, resA, resA1, fr_getD, packR, sealDepth, shut_bool, shut_int, Option.some.injEq, V.bool.injEq, V.int.injEq, Bool.not_true, Bool.not_false, true_and, and_true, and_self, Bool.and_true, Bool.and_false, Bool.true_and, Bool.false_and, Bool.or_true, Bool.or_false, Bool.true_or, Bool.false_or, Bool.false_eq_true, Int.reduceLT, Int.reduceLE, Int.reduceToNat, Int.reduceNeg, shut_plain, freeL_cons, freeL_nil, free_int, free_bool, free_agg, free_str, free_nils, free_tup, free_sl, true_implies, false_implies, Nat.sub_zero, Int.natCast_nonneg, Int.toNat_natCast, Nat.le_refl, not_true_eq_false, Int.reduceAdd, Int.reduceSub, Int.reduceMul, wrap64, false_and, and_false, cond_true, cond_false, Bool.cond_true_left, Bool.cond_false_right, Int.reduceBNe, Int.reduceBEq, decide_true, decide_false, Int.cast_ofNat_Int, Nat.mul_one, eq_self, Bool.true_eq_false, Bool.not_eq_true, Bool.not_eq_false, deads, List.replicate, argsF, am10, if64, isNil, lx, ly, em, eq, wq, gm, c14, List.append_nil]
      refine sx_loop (fun i t K => i ≤ Es.length ∧ (Es.take i).any badE = false ∧ t = fr 75 [(0, x), (1, y), (5, .ptr (H.length + 2) 1 0), (6, .int .i64 i)] ∧
        K = H ++ [⟨1, .arr ((List.replicate B.length 0).map (V.int .u8))⟩, ⟨1, .arr ((Es.take i ++ List.replicate (Es.length - i) 0).map (V.int .i64))⟩, ⟨1, .var R0⟩]) Es.length (by show Es.length < N; omega) ⟨Nat.zero_le _, rfl, rfl, rfl⟩ ?_
      rintro i t K hi ⟨hi', hp, rfl, rfl⟩
      by_cases hlt : i < Es.length
      · have g1 : decide ((i : Int) < (Es.length : Int)) = true := decide_eq_true (by omega)
        have w4 : IntKind.i64.wrap ((i : Int) + 1) = ((i + 1 : Nat) : Int) := (wrap64 (by omega) (by omega)).trans (by omega)
        have i0 : (0 : Int) ≤ (i : Int) := by omega
        have i1 : (i : Int) < (Es.length : Int) := by omega
        have hi1 : i + 1 ≤ Es.length := by omega
        have q := (hy.app [⟨1, .arr ((List.replicate B.length 0).map (V.int .u8))⟩, ⟨1, .arr ((Es.take i ++ List.replicate (Es.length - i) 0).map (V.int .i64))⟩, ⟨1, .var R0⟩]).at_ i hlt
        have hp2 : (Es.take (i + 1)).any badE = badE Es[i] := by
          rw [List.take_add_one, List.any_append, hp, List.getElem?_eq_getElem hlt]
          simp
        have fs := fill_step (k := .i64) hlt (Nat.le_refl _)
        have el : ((Es.take i ++ List.replicate (Es.length - i) 0).map (V.int .i64)).length = Es.length := by simp; omega
        generalize (List.replicate B.length (0 : Int)).map (V.int .u8) = F at *
        generalize (Es.take i ++ List.replicate (Es.length - i) 0).map (V.int .i64) = Ei at *
        have gb' : (decide (Es[i] < 0) || decide (Es[i] > 2147483647)) = badE Es[i] := rfl
        cases gb : badE Es[i] with
        | true =>
          rw [gb] at gb'
          have go : ofOk B Es = false := by
            have : Es.any badE = true := List.any_eq_true.2 ⟨_, List.getElem_mem hlt, gb⟩
            simp [ofOk, this]
          rcases q with q1 | ⟨o, v, off, cs, q1, q2, q3, q4⟩
          · simp +contextual -implicitDefEqProofs (maxSteps := 10000000) only [sx_seq, sxL_succ, lpQ_norm, lpQ_exit, lpQ_ret, loopQ_norm, loopQ_exit, loopQ_ret, sqQ_norm, sqQ_ret, sqQ_exit, sx_block, blkQ_norm, blkQ_exit, blkQ_ret, sx_cond, cdP_true, cdP_false, cdP_bool, sx_region, sx_draw, plainD, List.all_cons, List.all_nil, List.isEmpty_nil, List.isEmpty_cons, sxo_nil, sxo_cons, sxo_guard, gdS_bool, gdS_eff, gdS_tup, gdS_sel, gdS_seleff, sxK_def, wcall_some, effP_ret, effP_set, effP_none, effP_ite, wop_call, wop_cv, cvP_func, sx_ret, sx_exit, sx_skip, sx_clr, sx_fresh, stays, ↓selV_wt, ↓selV_wf, ↓impB_wt, ↓impB_wf, ↓selV_nor, ↓impB_nor, ↓selV_nt, ↓selV_nf, ↓impB_nt, ↓impB_nf, wantB_true, wantB_false, ↓selV_true, ↓selV_false, ↓selV_and, ↓impB_true, ↓impB_false, ↓impB_and, impB_triv, valOf_some, retH_some, ↓prim_pick, pickO_true, pickO_false, pickO_and, pickO_or, pickO_andr, pickO_orr, pickO_orrn, pickO_orn, pickO_bb, pickAnd_bool, pickOr_bool, ↓selV_nn, ↓impB_nn, Bool.and_assoc, Bool.or_assoc, doOp, ev_fr, ev_cst, put_none, put_fr, get, ins, del, dels, Nat.reduceLT, Nat.reduceEqDiff, ↓reduceIte, reduceCtorEq, ne_eq, not_false_eq_true, implies_true, framed_pureF, framed_fb, framed_N, framed_pure, wop_prim, prim, YLD, mkA, V.cells, List.getElem?_cons_zero, List.getElem?_cons_succ, List.set_cons_zero, List.set_cons_succ, Nat.zero_add, Nat.add_zero, Nat.reduceAdd, Nat.reduceSub, Nat.reduceMul, Nat.reduceLeDiff, Nat.not_lt_zero, List.map_cons, List.map_nil, List.cons_append, List.nil_append, loadA, cellsAt, nAg, packA, opt_bind_some, opt_map_some, opt_bind_none, opt_map_none, List.drop, List.take, List.head?, List.length_cons, List.length_nil, binA, unA, eqCells, eqCell, negB, fillA, sr_nil, sr_cons, sr_succ, sr_all, sr_len, storeA, Ob.with, indexedI, V.oneCell, intOf?, retQ_ret, retQ_norm, resA, resA1, fr_getD, packR, sealDepth, shut_bool, shut_int, Option.some.injEq, V.bool.injEq, V.int.injEq, Bool.not_true, Bool.not_false, true_and, and_true, and_self, Bool.and_true, Bool.and_false, Bool.true_and, Bool.false_and, Bool.or_true, Bool.or_false, Bool.true_or, Bool.false_or, Bool.false_eq_true, Int.reduceLT, Int.reduceLE, Int.reduceToNat, Int.reduceNeg, shut_plain, freeL_cons, freeL_nil, free_int, free_bool, free_agg, free_str, free_nils, free_tup, free_sl, true_implies, false_implies, Nat.sub_zero, Int.natCast_nonneg, Int.toNat_natCast, Nat.le_refl, not_true_eq_false, Int.reduceAdd, Int.reduceSub, Int.reduceMul, wrap64, false_and, and_false, cond_true, cond_false, Bool.cond_true_left, Bool.cond_false_right, Int.reduceBNe, Int.reduceBEq, decide_true, decide_false, Int.cast_ofNat_Int, Nat.mul_one, eq_self, Bool.true_eq_false, Bool.not_eq_true, Bool.not_eq_false, deads, List.replicate, argsF, isNil, ly, g1, q1, gb', go]
            exact ⟨by simp, fun p hp => List.getElem?_append_left hp⟩
          · simp +contextual -implicitDefEqProofs (maxSteps := 10000000) only [sx_seq, sxL_succ, lpQ_norm, lpQ_exit, lpQ_ret, loopQ_norm, loopQ_exit, loopQ_ret, sqQ_norm, sqQ_ret, sqQ_exit, sx_block, blkQ_norm, blkQ_exit, blkQ_ret, sx_cond, cdP_true, cdP_false, cdP_bool, sx_region, sx_draw, plainD, List.all_cons, List.all_nil, List.isEmpty_nil, List.isEmpty_cons, sxo_nil, sxo_cons, sxo_guard, gdS_bool, gdS_eff, gdS_tup, gdS_sel, gdS_seleff, sxK_def, wcall_some, effP_ret, effP_set, effP_none, effP_ite, wop_call, wop_cv, cvP_func, sx_ret, sx_exit, sx_skip, sx_clr, sx_fresh, stays, ↓selV_wt, ↓selV_wf, ↓impB_wt, ↓impB_wf, ↓selV_nor, ↓impB_nor, ↓selV_nt, ↓selV_nf, ↓impB_nt, ↓impB_nf, wantB_true, wantB_false, ↓selV_true, ↓selV_false, ↓selV_and, ↓impB_true, ↓impB_false, ↓impB_and, impB_triv, valOf_some, retH_some, ↓prim_pick, pickO_true, pickO_false, pickO_and, pickO_or, pickO_andr, pickO_orr, pickO_orrn, pickO_orn, pickO_bb, pickAnd_bool, pickOr_bool, ↓selV_nn, ↓impB_nn, Bool.and_assoc, Bool.or_assoc, doOp, ev_fr, ev_cst, put_none, put_fr, get, ins, del, dels, Nat.reduceLT, Nat.reduceEqDiff, ↓reduceIte, reduceCtorEq, ne_eq, not_false_eq_true, implies_true, framed_pureF, framed_fb, framed_N, framed_pure, wop_prim, prim, YLD, mkA, V.cells, List.getElem?_cons_zero, List.getElem?_cons_succ, List.set_cons_zero, List.set_cons_succ, Nat.zero_add, Nat.add_zero, Nat.reduceAdd, Nat.reduceSub, Nat.reduceMul, Nat.reduceLeDiff, Nat.not_lt_zero, List.map_cons, List.map_nil, List.cons_append, List.nil_append, loadA, cellsAt, nAg, packA, opt_bind_some, opt_map_some, opt_bind_none, opt_map_none, List.drop, List.take, List.head?, List.length_cons, List.length_nil, binA, unA, eqCells, eqCell, negB, fillA, sr_nil, sr_cons, sr_succ, sr_all, sr_len, storeA, Ob.with, indexedI, V.oneCell, intOf?, retQ_ret, retQ_norm, resA, resA1, fr_getD, packR, sealDepth, shut_bool, shut_int, Option.some.injEq, V.bool.injEq, V.int.injEq, Bool.not_true, Bool.not_false, true_and, and_true, and_self, Bool.and_true, Bool.and_false, Bool.true_and, Bool.false_and, Bool.or_true, Bool.or_false, Bool.true_or, Bool.false_or, Bool.false_eq_true, Int.reduceLT, Int.reduceLE, Int.reduceToNat, Int.reduceNeg, shut_plain, freeL_cons, freeL_nil, free_int, free_bool, free_agg, free_str, free_nils, free_tup, free_sl, true_implies, false_implies, Nat.sub_zero, Int.natCast_nonneg, Int.toNat_natCast, Nat.le_refl, not_true_eq_false, Int.reduceAdd, Int.reduceSub, Int.reduceMul, wrap64, false_and, and_false, cond_true, cond_false, Bool.cond_true_left, Bool.cond_false_right, Int.reduceBNe, Int.reduceBEq, decide_true, decide_false, Int.cast_ofNat_Int, Nat.mul_one, eq_self, Bool.true_eq_false, Bool.not_eq_true, Bool.not_eq_false, deads, List.replicate, argsF, isNil, ly, g1, q1, q2, q3, q4, gb', go]
            exact ⟨by simp, fun p hp => List.getElem?_append_left hp⟩
        | false =>
          rw [gb] at gb' hp2
          rcases q with q1 | ⟨o, v, off, cs, q1, q2, q3, q4⟩
          · simp +contextual -implicitDefEqProofs (maxSteps := 10000000) only [sx_seq, sxL_succ, lpQ_norm, lpQ_exit, lpQ_ret, loopQ_norm, loopQ_exit, loopQ_ret, sqQ_norm, sqQ_ret, sqQ_exit, sx_block, blkQ_norm, blkQ_exit, blkQ_ret, sx_cond, cdP_true, cdP_false, cdP_bool, sx_region, sx_draw, plainD, List.all_cons, List.all_nil, List.isEmpty_nil, List.isEmpty_cons, sxo_nil, sxo_cons, sxo_guard, gdS_bool, gdS_eff, gdS_tup, gdS_sel, gdS_seleff, sxK_def, wcall_some, effP_ret, effP_set, effP_none, effP_ite, wop_call, wop_cv, cvP_func, sx_ret, sx_exit, sx_skip, sx_clr, sx_fresh, stays, ↓selV_wt, ↓selV_wf, ↓impB_wt, ↓impB_wf, ↓selV_nor, ↓impB_nor, ↓selV_nt, ↓selV_nf, ↓impB_nt, ↓impB_nf, wantB_true, wantB_false, ↓selV_true, ↓selV_false, ↓selV_and, ↓impB_true, ↓impB_false, ↓impB_and, impB_triv, valOf_some, retH_some, ↓prim_pick, pickO_true, pickO_false, pickO_and, pickO_or, pickO_andr, pickO_orr, pickO_orrn, pickO_orn, pickO_bb, pickAnd_bool, pickOr_bool, ↓selV_nn, ↓impB_nn, Bool.and_assoc, Bool.or_assoc, doOp, ev_fr, ev_cst, put_none, put_fr, get, ins, del, dels, Nat.reduceLT, Nat.reduceEqDiff, ↓reduceIte, reduceCtorEq, ne_eq, not_false_eq_true, implies_true, framed_pureF, framed_fb, framed_N, framed_pure, wop_prim, prim, YLD, mkA, V.cells, List.getElem?_cons_zero, List.getElem?_cons_succ, List.set_cons_zero, List.set_cons_succ, Nat.zero_add, Nat.add_zero, Nat.reduceAdd, Nat.reduceSub, Nat.reduceMul, Nat.reduceLeDiff, Nat.not_lt_zero, List.map_cons, List.map_nil, List.cons_append, List.nil_append, loadA, cellsAt, nAg, packA, opt_bind_some, opt_map_some, opt_bind_none, opt_map_none, List.drop, List.take, List.head?, List.length_cons, List.length_nil, binA, unA, eqCells, eqCell, negB, fillA, sr_nil, sr_cons, sr_succ, sr_all, sr_len, storeA, Ob.with, indexedI, V.oneCell, intOf?, retQ_ret, retQ_norm, resA, resA1, fr_getD, packR, sealDepth, shut_bool, shut_int, Option.some.injEq, V.bool.injEq, V.int.injEq, Bool.not_true, Bool.not_false, true_and, and_true, and_self, Bool.and_true, Bool.and_false, Bool.true_and, Bool.false_and, Bool.or_true, Bool.or_false, Bool.true_or, Bool.false_or, Bool.false_eq_true, Int.reduceLT, Int.reduceLE, Int.reduceToNat, Int.reduceNeg, shut_plain, freeL_cons, freeL_nil, free_int, free_bool, free_agg, free_str, free_nils, free_tup, free_sl, true_implies, false_implies, Nat.sub_zero, Int.natCast_nonneg, Int.toNat_natCast, Nat.le_refl, not_true_eq_false, Int.reduceAdd, Int.reduceSub, Int.reduceMul, wrap64, false_and, and_false, cond_true, cond_false, Bool.cond_true_left, Bool.cond_false_right, Int.reduceBNe, Int.reduceBEq, decide_true, decide_false, Int.cast_ofNat_Int, Nat.mul_one, eq_self, Bool.true_eq_false, Bool.not_eq_true, Bool.not_eq_false, deads, List.replicate, argsF, isNil, ly, g1, q1, gb', app_get0, app_get, app_set0, app_set, hR0, iaddrS_v, i0, i1, el, hi1, fs, Int.toNat_natCast, w4, hp2, hlt]
          · rw [hR0] at q2
            simp +contextual -implicitDefEqProofs (maxSteps := 10000000) only [sx_seq, sxL_succ, lpQ_norm, lpQ_exit, lpQ_ret, loopQ_norm, loopQ_exit, loopQ_ret, sqQ_norm, sqQ_ret, sqQ_exit, sx_block, blkQ_norm, blkQ_exit, blkQ_ret, sx_cond, cdP_true, cdP_false, cdP_bool, sx_region, sx_draw, plainD, List.all_cons, List.all_nil, List.isEmpty_nil, List.isEmpty_cons, sxo_nil, sxo_cons, sxo_guard, gdS_bool, gdS_eff, gdS_tup, gdS_sel, gdS_seleff, sxK_def, wcall_some, effP_ret, effP_set, effP_none, effP_ite, wop_call, wop_cv, cvP_func, sx_ret, sx_exit, sx_skip, sx_clr, sx_fresh, stays, ↓selV_wt, ↓selV_wf, ↓impB_wt, ↓impB_wf, ↓selV_nor, ↓impB_nor, ↓selV_nt, ↓selV_nf, ↓impB_nt, ↓impB_nf, wantB_true, wantB_false, ↓selV_true, ↓selV_false, ↓selV_and, ↓impB_true, ↓impB_false, ↓impB_and, impB_triv, valOf_some, retH_some, ↓prim_pick, pickO_true, pickO_false, pickO_and, pickO_or, pickO_andr, pickO_orr, pickO_orrn, pickO_orn, pickO_bb, pickAnd_bool, pickOr_bool, ↓selV_nn, ↓impB_nn, Bool.and_assoc, Bool.or_assoc, doOp, ev_fr, ev_cst, put_none, put_fr, get, ins, del, dels, Nat.reduceLT, Nat.reduceEqDiff, ↓reduceIte, reduceCtorEq, ne_eq, not_false_eq_true, implies_true, framed_pureF, framed_fb, framed_N, framed_pure, wop_prim, prim, YLD, mkA, V.cells, List.getElem?_cons_zero, List.getElem?_cons_succ, List.set_cons_zero, List.set_cons_succ, Nat.zero_add, Nat.add_zero, Nat.reduceAdd, Nat.reduceSub, Nat.reduceMul, Nat.reduceLeDiff, Nat.not_lt_zero, List.map_cons, List.map_nil, List.cons_append, List.nil_append, loadA, cellsAt, nAg, packA, opt_bind_some, opt_map_some, opt_bind_none, opt_map_none, List.drop, List.take, List.head?, List.length_cons, List.length_nil, binA, unA, eqCells, eqCell, negB, fillA, sr_nil, sr_cons, sr_succ, sr_all, sr_len, storeA, Ob.with, indexedI, V.oneCell, intOf?, retQ_ret, retQ_norm, resA, resA1, fr_getD, packR, sealDepth, shut_bool, shut_int, Option.some.injEq, V.bool.injEq, V.int.injEq, Bool.not_true, Bool.not_false, true_and, and_true, and_self, Bool.and_true, Bool.and_false, Bool.true_and, Bool.false_and, Bool.or_true, Bool.or_false, Bool.true_or, Bool.false_or, Bool.false_eq_true, Int.reduceLT, Int.reduceLE, Int.reduceToNat, Int.reduceNeg, shut_plain, freeL_cons, freeL_nil, free_int, free_bool, free_agg, free_str, free_nils, free_tup, free_sl, true_implies, false_implies, Nat.sub_zero, Int.natCast_nonneg, Int.toNat_natCast, Nat.le_refl, not_true_eq_false, Int.reduceAdd, Int.reduceSub, Int.reduceMul, wrap64, false_and, and_false, cond_true, cond_false, Bool.cond_true_left, Bool.cond_false_right, Int.reduceBNe, Int.reduceBEq, decide_true, decide_false, Int.cast_ofNat_Int, Nat.mul_one, eq_self, Bool.true_eq_false, Bool.not_eq_true, Bool.not_eq_false, deads, List.replicate, argsF, isNil, ly, g1, q1, q2, q3, q4, gb', app_get0, app_get, app_set0, app_set, hR0, iaddrS_v, i0, i1, el, hi1, fs, Int.toNat_natCast, w4, hp2, hlt]
      · have e8 : i = Es.length := by omega
        subst e8
        have hbad : Es.any badE = false := by rw [List.take_length] at hp; exact hp
        have go : ofOk B Es = true := by rw [ofOk, gn, hm, hbad]; rfl
        have g1 : decide ((Es.length : Int) < (Es.length : Int)) = false := decide_eq_false (by omega)
        have eE : Es.take Es.length ++ List.replicate (Es.length - Es.length) 0 = Es := by rw [List.take_length, Nat.sub_self]; simp
        rw [eE]
        simp +contextual -implicitDefEqProofs (maxSteps := 10000000) only [sx_seq, sxL_succ, lpQ_norm, lpQ_exit, lpQ_ret, loopQ_norm, loopQ_exit, loopQ_ret, sqQ_norm, sqQ_ret, sqQ_exit, sx_block, blkQ_norm, blkQ_exit, blkQ_ret, sx_cond, cdP_true, cdP_false, cdP_bool, sx_region, sx_draw, plainD, List.all_cons, List.all_nil, List.isEmpty_nil, List.isEmpty_cons, sxo_nil, sxo_cons, sxo_guard, gdS_bool, gdS_eff, gdS_tup, gdS_sel, gdS_seleff, sxK_def, wcall_some, effP_ret, effP_set, effP_none, effP_ite, wop_call, wop_cv, cvP_func, sx_ret, sx_exit, sx_skip, sx_clr, sx_fresh, stays, ↓selV_wt, ↓selV_wf, ↓impB_wt, ↓impB_wf, ↓selV_nor, ↓impB_nor, ↓selV_nt, ↓selV_nf, ↓impB_nt, ↓impB_nf, wantB_true, wantB_false, ↓selV_true, ↓selV_false, ↓selV_and, ↓impB_true, ↓impB_false, ↓impB_and, impB_triv, valOf_some, retH_some, ↓prim_pick, pickO_true, pickO_false, pickO_and, pickO_or, pickO_andr, pickO_orr, pickO_orrn, pickO_orn, pickO_bb, pickAnd_bool, pickOr_bool, ↓selV_nn, ↓impB_nn, Bool.and_assoc, Bool.or_assoc, doOp, ev_fr, ev_cst, put_none, put_fr, get, ins, del, dels, Nat.reduceLT, Nat.reduceEqDiff, ↓reduceIte, reduceCtorEq, ne_eq, not_false_eq_true, implies_true, framed_pureF, framed_fb, framed_N, framed_pure, wop_prim, prim, YLD, mkA, V.cells, List.getElem?_cons_zero, List.getElem?_cons_succ, List.set_cons_zero, List.set_cons_succ, Nat.zero_add, Nat.add_zero, Nat.reduceAdd, Nat.reduceSub, Nat.reduceMul, Nat.reduceLeDiff, Nat.not_lt_zero, List.map_cons, List.map_nil, List.cons_append, List.nil_append, loadA, cellsAt, nAg, packA, opt_bind_some, opt_map_some, opt_bind_none, opt_map_none, List.drop, List.take, List.head?, List.length_cons, List.length_nil, binA, unA, eqCells, eqCell, negB, fillA, sr_nil, sr_cons, sr_succ, sr_all, sr_len, storeA, Ob.with, indexedI, V.oneCell, intOf?, retQ_ret, retQ_norm, resA, resA1, fr_getD, packR, sealDepth, shut_bool, shut_int, Option.some.injEq, V.bool.injEq, V.int.injEq, Bool.not_true, Bool.not_false, true_and, and_true, and_self, Bool.and_true, Bool.and_false, Bool.true_and, Bool.false_and, Bool.or_true, Bool.or_false, Bool.true_or, Bool.false_or, Bool.false_eq_true, Int.reduceLT, Int.reduceLE, Int.reduceToNat, Int.reduceNeg, shut_plain, freeL_cons, freeL_nil, free_int, free_bool, free_agg, free_str, free_nils, free_tup, free_sl, true_implies, false_implies, Nat.sub_zero, Int.natCast_nonneg, Int.toNat_natCast, Nat.le_refl, not_true_eq_false, Int.reduceAdd, Int.reduceSub, Int.reduceMul, wrap64, false_and, and_false, cond_true, cond_false, Bool.cond_true_left, Bool.cond_false_right, Int.reduceBNe, Int.reduceBEq, decide_true, decide_false, Int.cast_ofNat_Int, Nat.mul_one, eq_self, Bool.true_eq_false, Bool.not_eq_true, Bool.not_eq_false, deads, List.replicate, argsF, isNil, ly, g1]
        refine sx_loop (fun i t K => i ≤ B.length ∧ t = fr 75 [(0, x), (5, .ptr (H.length + 2) 1 0), (7, .int .i64 i)] ∧
          K = H ++ [⟨1, .arr ((B.take i ++ List.replicate (B.length - i) 0).map (V.int .u8))⟩, ⟨1, .arr (Es.map (V.int .i64))⟩, ⟨1, .var R0⟩]) B.length (by show B.length < N; omega) ⟨Nat.zero_le _, rfl, rfl⟩ ?_
        rintro i t K hi ⟨hi', rfl, rfl⟩
        by_cases hlt : i < B.length
        · have g1 : decide ((i : Int) < (B.length : Int)) = true := decide_eq_true (by omega)
          have w4 : IntKind.i64.wrap ((i : Int) + 1) = ((i + 1 : Nat) : Int) := (wrap64 (by omega) (by omega)).trans (by omega)
          have hi1 : i + 1 ≤ B.length := by omega
          have m1 : Int.tmod (i : Int) 64 = ((i % 64 : Nat) : Int) := by rw [Int.tmod_eq_emod_of_nonneg (by omega)]; omega
          have d1 : Int.tdiv (i : Int) 64 = ((i / 64 : Nat) : Int) := by rw [Int.tdiv_eq_ediv_of_nonneg (by omega)]; omega
          have wd : IntKind.i64.wrap ((i / 64 : Nat) : Int) = ((i / 64 : Nat) : Int) := wrap64 (by omega) (by omega)
          have i0 : (0 : Int) ≤ ((i / 64 : Nat) : Int) := by omega
          have i1 : ((i / 64 : Nat) : Int) < ((B.length / 64 : Nat) : Int) := by omega
          have j0 : (0 : Int) ≤ ((i % 64 : Nat) : Int) := by omega
          have j1 : ((i % 64 : Nat) : Int) < 64 := by omega
          have eo : i / 64 * 64 + i % 64 = i := by omega
          have q := (hx.app [⟨1, .arr ((B.take i ++ List.replicate (B.length - i) 0).map (V.int .u8))⟩, ⟨1, .arr (Es.map (V.int .i64))⟩, ⟨1, .var R0⟩]).at_ i hlt
          have fs := fill_step (k := .u8) hlt (Nat.le_refl _)
          have el : ((B.take i ++ List.replicate (B.length - i) 0).map (V.int .u8)).length = B.length := by simp; omega
          generalize (Es.map (V.int .i64)) = F at *
          generalize (B.take i ++ List.replicate (B.length - i) 0).map (V.int .u8) = Ei at *
          rcases q with q1 | ⟨o, v, off, cs, q1, q2, q3, q4⟩
          · simp +contextual -implicitDefEqProofs (maxSteps := 10000000) only [sx_seq, sxL_succ, lpQ_norm, lpQ_exit, lpQ_ret, loopQ_norm, loopQ_exit, loopQ_ret, sqQ_norm, sqQ_ret, sqQ_exit, sx_block, blkQ_norm, blkQ_exit, blkQ_ret, sx_cond, cdP_true, cdP_false, cdP_bool, sx_region, sx_draw, plainD, List.all_cons, List.all_nil, List.isEmpty_nil, List.isEmpty_cons, sxo_nil, sxo_cons, sxo_guard, gdS_bool, gdS_eff, gdS_tup, gdS_sel, gdS_seleff, sxK_def, wcall_some, effP_ret, effP_set, effP_none, effP_ite, wop_call, wop_cv, cvP_func, sx_ret, sx_exit, sx_skip, sx_clr, sx_fresh, stays, ↓selV_wt, ↓selV_wf, ↓impB_wt, ↓impB_wf, ↓selV_nor, ↓impB_nor, ↓selV_nt, ↓selV_nf, ↓impB_nt, ↓impB_nf, wantB_true, wantB_false, ↓selV_true, ↓selV_false, ↓selV_and, ↓impB_true, ↓impB_false, ↓impB_and, impB_triv, valOf_some, retH_some, ↓prim_pick, pickO_true, pickO_false, pickO_and, pickO_or, pickO_andr, pickO_orr, pickO_orrn, pickO_orn, pickO_bb, pickAnd_bool, pickOr_bool, ↓selV_nn, ↓impB_nn, Bool.and_assoc, Bool.or_assoc, doOp, ev_fr, ev_cst, put_none, put_fr, get, ins, del, dels, Nat.reduceLT, Nat.reduceEqDiff, ↓reduceIte, reduceCtorEq, ne_eq, not_false_eq_true, implies_true, framed_pureF, framed_fb, framed_N, framed_pure, wop_prim, prim, YLD, mkA, V.cells, List.getElem?_cons_zero, List.getElem?_cons_succ, List.set_cons_zero, List.set_cons_succ, Nat.zero_add, Nat.add_zero, Nat.reduceAdd, Nat.reduceSub, Nat.reduceMul, Nat.reduceLeDiff, Nat.not_lt_zero, List.map_cons, List.map_nil, List.cons_append, List.nil_append, loadA, cellsAt, nAg, packA, opt_bind_some, opt_map_some, opt_bind_none, opt_map_none, List.drop, List.take, List.head?, List.length_cons, List.length_nil, binA, unA, eqCells, eqCell, negB, fillA, sr_nil, sr_cons, sr_succ, sr_all, sr_len, storeA, Ob.with, indexedI, V.oneCell, intOf?, retQ_ret, retQ_norm, resA, resA1, fr_getD, packR, sealDepth, shut_bool, shut_int, Option.some.injEq, V.bool.injEq, V.int.injEq, Bool.not_true, Bool.not_false, true_and, and_true, and_self, Bool.and_true, Bool.and_false, Bool.true_and, Bool.false_and, Bool.or_true, Bool.or_false, Bool.true_or, Bool.false_or, Bool.false_eq_true, Int.reduceLT, Int.reduceLE, Int.reduceToNat, Int.reduceNeg, shut_plain, freeL_cons, freeL_nil, free_int, free_bool, free_agg, free_str, free_nils, free_tup, free_sl, true_implies, false_implies, Nat.sub_zero, Int.natCast_nonneg, Int.toNat_natCast, Nat.le_refl, not_true_eq_false, Int.reduceAdd, Int.reduceSub, Int.reduceMul, wrap64, false_and, and_false, cond_true, cond_false, Bool.cond_true_left, Bool.cond_false_right, Int.reduceBNe, Int.reduceBEq, decide_true, decide_false, Int.cast_ofNat_Int, Nat.mul_one, eq_self, Bool.true_eq_false, Bool.not_eq_true, Bool.not_eq_false, deads, List.replicate, argsF, isNil, lx, g1, q1, m1, d1, wd, if64, app_get0, app_get, app_set0, app_set, hR0, iaddrS_v, i0, i1, j0, j1, eo, el, hi1, fs, Int.toNat_natCast, w4, hlt]
          · rw [hR0] at q2
            simp +contextual -implicitDefEqProofs (maxSteps := 10000000) only [sx_seq, sxL_succ, lpQ_norm, lpQ_exit, lpQ_ret, loopQ_norm, loopQ_exit, loopQ_ret, sqQ_norm, sqQ_ret, sqQ_exit, sx_block, blkQ_norm, blkQ_exit, blkQ_ret, sx_cond, cdP_true, cdP_false, cdP_bool, sx_region, sx_draw, plainD, List.all_cons, List.all_nil, List.isEmpty_nil, List.isEmpty_cons, sxo_nil, sxo_cons, sxo_guard, gdS_bool, gdS_eff, gdS_tup, gdS_sel, gdS_seleff, sxK_def, wcall_some, effP_ret, effP_set, effP_none, effP_ite, wop_call, wop_cv, cvP_func, sx_ret, sx_exit, sx_skip, sx_clr, sx_fresh, stays, ↓selV_wt, ↓selV_wf, ↓impB_wt, ↓impB_wf, ↓selV_nor, ↓impB_nor, ↓selV_nt, ↓selV_nf, ↓impB_nt, ↓impB_nf, wantB_true, wantB_false, ↓selV_true, ↓selV_false, ↓selV_and, ↓impB_true, ↓impB_false, ↓impB_and, impB_triv, valOf_some, retH_some, ↓prim_pick, pickO_true, pickO_false, pickO_and, pickO_or, pickO_andr, pickO_orr, pickO_orrn, pickO_orn, pickO_bb, pickAnd_bool, pickOr_bool, ↓selV_nn, ↓impB_nn, Bool.and_assoc, Bool.or_assoc, doOp, ev_fr, ev_cst, put_none, put_fr, get, ins, del, dels, Nat.reduceLT, Nat.reduceEqDiff, ↓reduceIte, reduceCtorEq, ne_eq, not_false_eq_true, implies_true, framed_pureF, framed_fb, framed_N, framed_pure, wop_prim, prim, YLD, mkA, V.cells, List.getElem?_cons_zero, List.getElem?_cons_succ, List.set_cons_zero, List.set_cons_succ, Nat.zero_add, Nat.add_zero, Nat.reduceAdd, Nat.reduceSub, Nat.reduceMul, Nat.reduceLeDiff, Nat.not_lt_zero, List.map_cons, List.map_nil, List.cons_append, List.nil_append, loadA, cellsAt, nAg, packA, opt_bind_some, opt_map_some, opt_bind_none, opt_map_none, List.drop, List.take, List.head?, List.length_cons, List.length_nil, binA, unA, eqCells, eqCell, negB, fillA, sr_nil, sr_cons, sr_succ, sr_all, sr_len, storeA, Ob.with, indexedI, V.oneCell, intOf?, retQ_ret, retQ_norm, resA, resA1, fr_getD, packR, sealDepth, shut_bool, shut_int, Option.some.injEq, V.bool.injEq, V.int.injEq, Bool.not_true, Bool.not_false, true_and, and_true, and_self, Bool.and_true, Bool.and_false, Bool.true_and, Bool.false_and, Bool.or_true, Bool.or_false, Bool.true_or, Bool.false_or, Bool.false_eq_true, Int.reduceLT, Int.reduceLE, Int.reduceToNat, Int.reduceNeg, shut_plain, freeL_cons, freeL_nil, free_int, free_bool, free_agg, free_str, free_nils, free_tup, free_sl, true_implies, false_implies, Nat.sub_zero, Int.natCast_nonneg, Int.toNat_natCast, Nat.le_refl, not_true_eq_false, Int.reduceAdd, Int.reduceSub, Int.reduceMul, wrap64, false_and, and_false, cond_true, cond_false, Bool.cond_true_left, Bool.cond_false_right, Int.reduceBNe, Int.reduceBEq, decide_true, decide_false, Int.cast_ofNat_Int, Nat.mul_one, eq_self, Bool.true_eq_false, Bool.not_eq_true, Bool.not_eq_false, deads, List.replicate, argsF, isNil, lx, g1, q1, q2, q3, q4, m1, d1, wd, if64, app_get0, app_get, app_set0, app_set, hR0, iaddrS_v, i0, i1, j0, j1, eo, el, hi1, fs, Int.toNat_natCast, w4, hlt]
        · have e8 : i = B.length := by omega
          subst e8
          have g1 : decide ((B.length : Int) < (B.length : Int)) = false := decide_eq_false (by omega)
          have eB : B.take B.length ++ List.replicate (B.length - B.length) 0 = B := by rw [List.take_length, Nat.sub_self]; simp
          rw [eB]
          simp +contextual -implicitDefEqProofs (maxSteps := 10000000) only [sx_seq, sxL_succ, lpQ_norm, lpQ_exit, lpQ_ret, loopQ_norm, loopQ_exit, loopQ_ret, sqQ_norm, sqQ_ret, sqQ_exit, sx_block, blkQ_norm, blkQ_exit, blkQ_ret, sx_cond, cdP_true, cdP_false, cdP_bool, sx_region, sx_draw, plainD, List.all_cons, List.all_nil, List.isEmpty_nil, List.isEmpty_cons, sxo_nil, sxo_cons, sxo_guard, gdS_bool, gdS_eff, gdS_tup, gdS_sel, gdS_seleff, sxK_def, wcall_some, effP_ret, effP_set, effP_none, effP_ite, wop_call, wop_cv, cvP_func, sx_ret, sx_exit, sx_skip, sx_clr, sx_fresh, stays, ↓selV_wt, ↓selV_wf, ↓impB_wt, ↓impB_wf, ↓selV_nor, ↓impB_nor, ↓selV_nt, ↓selV_nf, ↓impB_nt, ↓impB_nf, wantB_true, wantB_false, ↓selV_true, ↓selV_false, ↓selV_and, ↓impB_true, ↓impB_false, ↓impB_and, impB_triv, valOf_some, retH_some, ↓prim_pick, pickO_true, pickO_false, pickO_and, pickO_or, pickO_andr, pickO_orr, pickO_orrn, pickO_orn, pickO_bb, pickAnd_bool, pickOr_bool, ↓selV_nn, ↓impB_nn, Bool.and_assoc, Bool.or_assoc, doOp, ev_fr, ev_cst, put_none, put_fr, get, ins, del, dels, Nat.reduceLT, Nat.reduceEqDiff, ↓reduceIte, reduceCtorEq, ne_eq, not_false_eq_true, implies_true, framed_pureF, framed_fb, framed_N, framed_pure, wop_prim, prim, YLD, mkA, V.cells, List.getElem?_cons_zero, List.getElem?_cons_succ, List.set_cons_zero, List.set_cons_succ, Nat.zero_add, Nat.add_zero, Nat.reduceAdd, Nat.reduceSub, Nat.reduceMul, Nat.reduceLeDiff, Nat.not_lt_zero, List.map_cons, List.map_nil, List.cons_append, List.nil_append, loadA, cellsAt, nAg, packA, opt_bind_some, opt_map_some, opt_bind_none, opt_map_none, List.drop, List.take, List.head?, List.length_cons, List.length_nil, binA, unA, eqCells, eqCell, negB, fillA, sr_nil, sr_cons, sr_succ, sr_all, sr_len, storeA, Ob.with, indexedI, V.oneCell, intOf?, retQ_ret, retQ_norm, resA, resA1, fr_getD, packR, sealDepth, shut_bool, shut_int, Option.some.injEq, V.bool.injEq, V.int.injEq, Bool.not_true, Bool.not_false, true_and, and_true, and_self, Bool.and_true, Bool.and_false, Bool.true_and, Bool.false_and, Bool.or_true, Bool.or_false, Bool.true_or, Bool.false_or, Bool.false_eq_true, Int.reduceLT, Int.reduceLE, Int.reduceToNat, Int.reduceNeg, shut_plain, freeL_cons, freeL_nil, free_int, free_bool, free_agg, free_str, free_nils, free_tup, free_sl, true_implies, false_implies, Nat.sub_zero, Int.natCast_nonneg, Int.toNat_natCast, Nat.le_refl, not_true_eq_false, Int.reduceAdd, Int.reduceSub, Int.reduceMul, wrap64, false_and, and_false, cond_true, cond_false, Bool.cond_true_left, Bool.cond_false_right, Int.reduceBNe, Int.reduceBEq, decide_true, decide_false, Int.cast_ofNat_Int, Nat.mul_one, eq_self, Bool.true_eq_false, Bool.not_eq_true, Bool.not_eq_false, deads, List.replicate, argsF, isNil, lx, g1, go]
          refine ⟨by simp, fun p hp => List.getElem?_append_left hp, ?_⟩
          have hc : (chunks B).length = B.length / 64 := by simp [chunks]
          refine ⟨ofD_ok go, ⟨1, some (B.length / 64), 1, some Es.length, ?_, ?_, ?_⟩, by omega, by omega, by omega⟩
          · rw [app_get, hR0, show (ofD B Es).S.length = B.length / 64 from hc]; rfl
          · rw [app_get0, show (ofD B Es).S.flatten = B from chunks_flat hm]; rfl
          · rw [app_get, ofD_eps]; rfl
  · have gm : (((B.length % 64 : Nat) : Int) != 0) = true := by simp; omega
    have go : ofOk B Es = false := by simp [ofOk, hm]
    refine call_keep at10 rfl rfl (by decide) (sx_wp ?_)
    simp +contextual -implicitDefEqProofs (maxSteps := 10000000) only [sx_seq, sxL_succ, lpQ_norm, lpQ_exit, lpQ_ret, loopQ_norm, loopQ_exit, loopQ_ret, sqQ_norm, sqQ_ret, sqQ_exit, sx_block, blkQ_norm, blkQ_exit, blkQ_ret, sx_cond, cdP_true, cdP_false, cdP_bool, sx_region, sx_draw, plainD, List.all_cons, List.all_nil, List.isEmpty_nil, List.isEmpty_cons, sxo_nil, sxo_cons, sxo_guard, gdS_bool, gdS_eff, gdS_tup, gdS_sel, gdS_seleff, sxK_def, wcall_some, effP_ret, effP_set, effP_none, effP_ite, wop_call, wop_cv, cvP_func, sx_ret, sx_exit, sx_skip, sx_clr, sx_fresh, stays, ↓selV_wt, ↓selV_wf, ↓impB_wt, ↓impB_wf, ↓selV_nor, ↓impB_nor, ↓selV_nt, ↓selV_nf, ↓impB_nt, ↓impB_nf, wantB_true, wantB_false, ↓selV_true, ↓selV_false, ↓selV_and, ↓impB_true, ↓impB_false, ↓impB_and, impB_triv, valOf_some, retH_some, ↓prim_pick, pickO_true, pickO_false, pickO_and, pickO_or, pickO_andr, pickO_orr, pickO_orrn, pickO_orn, pickO_bb, pickAnd_bool, pickOr_bool, ↓selV_nn, ↓impB_nn, Bool.and_assoc, Bool.or_assoc, doOp, ev_fr, ev_cst, put_none, put_fr, get, ins, del, dels, Nat.reduceLT, Nat.reduceEqDiff, ↓reduceIte, reduceCtorEq, ne_eq, not_false_eq_true, implies_true, framed_pureF, framed_fb, framed_N, framed_pure, wop_prim, prim, YLD, mkA, V.cells, List.getElem?_cons_zero, List.getElem?_cons_succ, List.set_cons_zero, List.set_cons_succ, Nat.zero_add, Nat.add_zero, Nat.reduceAdd, Nat.reduceSub, Nat.reduceMul, Nat.reduceLeDiff, Nat.not_lt_zero, List.map_cons, List.map_nil, List.cons_append, List.nil_append, loadA, cellsAt, nAg, packA, opt_bind_some, opt_map_some, opt_bind_none, opt_map_none, List.drop, List.take, List.head?, List.length_cons, List.length_nil, binA, unA, eqCells, eqCell, negB, fillA, sr_nil, sr_cons, sr_succ, sr_all, sr_len, storeA, Ob.with, indexedI, V.oneCell, intOf?, retQ_ret, retQ_norm, resA, resA1, fr_getD, packR, sealDepth, shut_bool, shut_int, Option.some.injEq, V.bool.injEq, V.int.injEq, Bool.not_true, Bool.not_false, true_and, and_true, and_self, Bool.and_true, Bool.and_false, Bool.true_and, Bool.false_and, Bool.or_true, Bool.or_false, Bool.true_or, Bool.false_or, Bool.false_eq_true, Int.reduceLT, Int.reduceLE, Int.reduceToNat, Int.reduceNeg, shut_plain, freeL_cons, freeL_nil, free_int, free_bool, free_agg, free_str, free_nils, free_tup, free_sl, true_implies, false_implies, Nat.sub_zero, Int.natCast_nonneg, Int.toNat_natCast, Nat.le_refl, not_true_eq_false, Int.reduceAdd, Int.reduceSub, Int.reduceMul, wrap64, false_and, and_false, cond_true, cond_false, Bool.cond_true_left, Bool.cond_false_right, Int.reduceBNe, Int.reduceBEq, decide_true, decide_false, Int.cast_ofNat_Int, Nat.mul_one, eq_self, Bool.true_eq_false, Bool.not_eq_true, Bool.not_eq_false, deads, List.replicate, argsF, am10, if64, isNil, lx, em, gm, List.append_nil, go]
end Go.Am.T


set_option linter.unusedVariables false
set_option linter.unusedSimpArgs false
set_option maxRecDepth 10000
namespace Go.Am.T
attribute [local congr] selV_congr impB_congr
theorem slice_tail {K : Heap} {ob vb len l : Nat} {cells : List V} (ho : K[ob]? = some ⟨vb, .arr cells⟩) (hlen : len ≤ cells.length) (hl : l < len) :
    sliceA (fun o => K[o]?) 1 (.view ob vb 0 len 1 none) (some (.int .i64 (l : Nat))) none none = some (.view ob vb l (len - l) 1 none) := by
  have h1 : (l : Int) ≤ (len : Int) := by omega
  have h0 : (0 : Int) ≤ (l : Int) := by omega
  have h2 : ((l : Nat) : Int).toNat = l := Int.toNat_natCast l
  simp only [sliceA, ↓reduceIte, cellsAt, ho, boundsA, Option.isNone, intOf?, Option.bind_some, h0, h1, h2]
  by_cases e : l = 0
  · subst e; simp
  · simp [e, hl]
theorem copy_eps {K : Heap} {d oe ve : Nat} {cap : Option Nat} {Es Y : List Int} {C : List V} (hd : K[d]? = some ⟨1, .var C⟩) (hC : C.length = 14) (ho : K[oe]? = some ⟨ve, .arr ((Es ++ Y).map (V.int .i64))⟩) (h8 : Es.length ≤ 8) (h1 : 1 ≤ Es.length) :
    copyA (fun o => K[o]?) 1 (.view d 1 1 8 1 (some 8)) (.view oe ve 0 Es.length 1 cap) = some (.set d ⟨1, .var (setRange C 1 (Es.map (V.int .i64)))⟩ (.int .i64 (Es.length : Nat))) := by
  have hm : Nat.min Es.length 8 = Es.length := Nat.min_eq_left h8
  have hl : Es.length ≤ ((Es ++ Y).map (V.int .i64)).length := by simp
  have ht : List.take Es.length ((Es ++ Y).map (V.int .i64)) = Es.map (V.int .i64) := by
    rw [List.map_append, List.take_append_of_le_length (by simp), List.take_of_length_le (by simp)]
  have hl' : Es.length ≤ (Es ++ Y).length := by simp
  have h0 : Es.length ≠ 0 := by omega
  have hs : 1 + Es.length ≤ 14 := by omega
  have := ints_one .i64 Es
  simp only [copyA, lenA, hm, firstA, ↓reduceIte, Nat.le_refl, loadA, cellsAt, ho, Nat.zero_add, Nat.mul_one, hl, hl', List.drop_zero, ht, this, h0, storeA, hd, List.length_map, hC, hs, Ob.with]
theorem fill_step64 {B : List Int} {i : Nat} (hi : (i + 1) * 64 ≤ B.length) : setRange ((B.take (i * 64) ++ List.replicate (B.length - i * 64) 0).map (V.int .u8)) (i * 64) (((B.drop (i * 64)).take 64).map (V.int .u8)) = (B.take ((i + 1) * 64) ++ List.replicate (B.length - (i + 1) * 64) 0).map (V.int .u8) := by
  have hl : ((B.take (i * 64)).map (V.int .u8)).length = i * 64 := by simp; omega
  have hl2 : (((B.drop (i * 64)).take 64).map (V.int .u8)).length = 64 := by simp; omega
  have e1 : B.length - i * 64 = 64 + (B.length - (i + 1) * 64) := by omega
  have e2 : B.take ((i + 1) * 64) = B.take (i * 64) ++ (B.drop (i * 64)).take 64 := by rw [Nat.succ_mul, List.take_add]
  rw [e1, ← List.replicate_append_replicate, e2]
  unfold setRange
  simp only [List.map_append]
  rw [hl2]
  generalize (B.take (i * 64)).map (V.int .u8) = A at hl ⊢
  generalize ((B.drop (i * 64)).take 64).map (V.int .u8) = M at hl2 ⊢
  generalize hZ : (List.replicate 64 (0 : Int)).map (V.int .u8) = Z
  have hZl : Z.length = 64 := by rw [← hZ]; simp
  rw [← hl, List.take_left', List.drop_append, List.drop_eq_nil_of_le (by omega), Nat.add_sub_cancel_left, List.nil_append, List.drop_left' hZl, List.append_assoc]
  rfl
theorem eps_set8 {X : V} {Es : List Int} {R : List V} (h : Es.length ≤ 8) : setRange (X :: ((List.replicate 8 (0 : Int)).map (V.int .i64) ++ R)) 1 (Es.map (V.int .i64)) = X :: ((Es ++ List.replicate (8 - Es.length) 0).map (V.int .i64) ++ R) := by
  unfold setRange
  rw [List.take_succ_cons, List.take_zero, List.length_map, Nat.add_comm, List.drop_succ_cons, List.drop_append_of_le_length (by simpa using h), List.map_replicate, List.drop_replicate]
  simp only [List.map_append, List.map_replicate, List.append_assoc, List.cons_append, List.nil_append]
set_option maxHeartbeats 2000000 in
theorem of_spec {N n : Nat} (hN : 300000 < N) (hn : 4 ≤ n) {H : Heap} {ob vb oe ve : Nat} {cap : Option Nat} {B X Es Y : List Int} (hb : H[ob]? = some ⟨vb, .arr ((B ++ X).map (V.int .u8))⟩) (he : H[oe]? = some ⟨ve, .arr ((Es ++ Y).map (V.int .i64))⟩) (hB : B.length ≤ 300000) (hE : Es.length ≤ 100000) :
    ∃ H', callA am N n 9 [.view ob vb 0 B.length 1 none, .view oe ve 0 Es.length 1 cap] H = some (.tup (bif ofOk B Es then [.ptr (H.length + 1) 1 0, .int .i64 0] else [.nilp, .int .i64 2]), H') ∧ H.length ≤ H'.length ∧ (∀ p, p < H.length → H'[p]? = H[p]?) ∧
      (ofOk B Es = true → DAt H' (H.length + 1) H.length (ofD B Es)) := by
  obtain ⟨n, rfl⟩ : ∃ m, n = m + 1 := ⟨n - 1, by omega⟩
  suffices Hs : ∃ W H', callA am N (n + 1) 9 [.view ob vb 0 B.length 1 none, .view oe ve 0 Es.length 1 cap] H = some (W, H') ∧ W = .tup (bif ofOk B Es then [.ptr (H.length + 1) 1 0, .int .i64 0] else [.nilp, .int .i64 2]) ∧ H.length ≤ H'.length ∧ (∀ p, p < H.length → H'[p]? = H[p]?) ∧
      (ofOk B Es = true → DAt H' (H.length + 1) H.length (ofD B Es)) by
    obtain ⟨W, H', h1, rfl, h2⟩ := Hs
    exact ⟨H', h1, h2⟩
  have em : Int.tmod (B.length : Int) 64 = ((B.length % 64 : Nat) : Int) := by rw [Int.tmod_eq_emod_of_nonneg (by omega)]; omega
  have eq : Int.tdiv (B.length : Int) 64 = ((B.length / 64 : Nat) : Int) := by rw [Int.tdiv_eq_ediv_of_nonneg (by omega)]; omega
  have if64 : ∀ a b : Option V, (if (64 : Int) = 0 then a else b) = b := fun a b => if_neg (by decide)
  have wq : IntKind.i64.wrap ((B.length / 64 : Nat) : Int) = ((B.length / 64 : Nat) : Int) := wrap64 (by omega) (by omega)
  have c30 := @contains_spec N n (by omega) H oe ve cap Es Y he (by omega) hE
  by_cases hm : B.length % 64 = 0
  · have gm : (((B.length % 64 : Nat) : Int) != 0) = false := by rw [hm]; rfl
    cases gb : Es.any badE with
    | true =>
      rw [gb] at c30
      have go : ofOk B Es = false := by rw [ofOk, gb]; simp
      refine call_keep at9 rfl rfl (by decide) (sx_wp ?_)
      simp +contextual -implicitDefEqProofs (maxSteps := 10000000) only [sx_seq, sxL_succ, lpQ_norm, lpQ_exit, lpQ_ret, loopQ_norm, loopQ_exit, loopQ_ret, sqQ_norm, sqQ_ret, sqQ_exit, sx_block, blkQ_norm, blkQ_exit, blkQ_ret, sx_cond, cdP_true, cdP_false, cdP_bool, sx_region, sx_draw, plainD, List.all_cons, List.all_nil, List.isEmpty_nil, List.isEmpty_cons, sxo_nil, sxo_cons, sxo_guard, gdS_bool, gdS_eff, gdS_tup, gdS_sel, gdS_seleff, sxK_def, wcall_some, effP_ret, effP_set, effP_none, effP_ite, wop_call, wop_cv, cvP_func, sx_ret, sx_exit, sx_skip, sx_clr, sx_fresh, stays, ↓selV_wt, ↓selV_wf, ↓impB_wt, ↓impB_wf, ↓selV_nor, ↓impB_nor, ↓selV_nt, ↓selV_nf, ↓impB_nt, ↓impB_nf, wantB_true, wantB_false, ↓selV_true, ↓selV_false, ↓selV_and, ↓impB_true, ↓impB_false, ↓impB_and, impB_triv, valOf_some, retH_some, ↓prim_pick, pickO_true, pickO_false, pickO_and, pickO_or, pickO_andr, pickO_orr, pickO_orrn, pickO_orn, pickO_bb, pickAnd_bool, pickOr_bool, ↓selV_nn, ↓impB_nn, Bool.and_assoc, Bool.or_assoc, doOp, ev_fr, ev_cst, put_none, put_fr, get, ins, del, dels, Nat.reduceLT, Nat.reduceEqDiff, ↓reduceIte, reduceCtorEq, ne_eq, not_false_eq_true, implies_true, framed_pureF, framed_fb, framed_N, framed_pure, wop_prim, prim, YLD, mkA, V.cells, List.getElem?_cons_zero, List.getElem?_cons_succ, List.set_cons_zero, List.set_cons_succ, Nat.zero_add, Nat.add_zero, Nat.reduceAdd, Nat.reduceSub, Nat.reduceMul, Nat.reduceLeDiff, Nat.not_lt_zero, List.map_cons, List.map_nil, List.cons_append, List.nil_append, loadA, cellsAt, nAg, packA, opt_bind_some, opt_map_some, opt_bind_none, opt_map_none, List.drop, List.take, List.head?, List.length_cons, List.length_nil, binA, unA, eqCells, eqCell, negB, fillA, sr_nil, sr_cons, sr_succ, sr_all, sr_len, storeA, Ob.with, indexedI, V.oneCell, intOf?, retQ_ret, retQ_norm, resA, resA1, fr_getD, packR, sealDepth, shut_bool, shut_int, Option.some.injEq, V.bool.injEq, V.int.injEq, Bool.not_true, Bool.not_false, true_and, and_true, and_self, Bool.and_true, Bool.and_false, Bool.true_and, Bool.false_and, Bool.or_true, Bool.or_false, Bool.true_or, Bool.false_or, Bool.false_eq_true, Int.reduceLT, Int.reduceLE, Int.reduceToNat, Int.reduceNeg, shut_plain, freeL_cons, freeL_nil, free_int, free_bool, free_agg, free_str, free_nils, free_tup, free_sl, true_implies, false_implies, Nat.sub_zero, Int.natCast_nonneg, Int.toNat_natCast, Nat.le_refl, not_true_eq_false, Int.reduceAdd, Int.reduceSub, Int.reduceMul, wrap64, false_and, and_false, cond_true, cond_false, Bool.cond_true_left, Bool.cond_false_right, Int.reduceBNe, Int.reduceBEq, decide_true, decide_false, Int.cast_ofNat_Int, Nat.mul_one, eq_self, Bool.true_eq_false, Bool.not_eq_true, Bool.not_eq_false, deads, List.replicate, argsF, am9, if64, isNil, lenA, em, gm, c30, pm30, List.append_nil, go]
    | false =>
      rw [gb] at c30
      obtain ⟨H1, c15, h1l, h1k, h1r⟩ := @new_spec N n (by omega) ((B.length / 64 : Nat) : Int) (Es.length : Int) H
      cases gn : newOk ((B.length / 64 : Nat) : Int) (Es.length : Int) with
      | false =>
        rw [gn] at c15
        simp only [cond_false] at c15
        have go : ofOk B Es = false := by rw [ofOk, gn]; simp
        refine call_keep at9 rfl rfl (by decide) (sx_wp ?_)
        simp +contextual -implicitDefEqProofs (maxSteps := 10000000) only [sx_seq, sxL_succ, lpQ_norm, lpQ_exit, lpQ_ret, loopQ_norm, loopQ_exit, loopQ_ret, sqQ_norm, sqQ_ret, sqQ_exit, sx_block, blkQ_norm, blkQ_exit, blkQ_ret, sx_cond, cdP_true, cdP_false, cdP_bool, sx_region, sx_draw, plainD, List.all_cons, List.all_nil, List.isEmpty_nil, List.isEmpty_cons, sxo_nil, sxo_cons, sxo_guard, gdS_bool, gdS_eff, gdS_tup, gdS_sel, gdS_seleff, sxK_def, wcall_some, effP_ret, effP_set, effP_none, effP_ite, wop_call, wop_cv, cvP_func, sx_ret, sx_exit, sx_skip, sx_clr, sx_fresh, stays, ↓selV_wt, ↓selV_wf, ↓impB_wt, ↓impB_wf, ↓selV_nor, ↓impB_nor, ↓selV_nt, ↓selV_nf, ↓impB_nt, ↓impB_nf, wantB_true, wantB_false, ↓selV_true, ↓selV_false, ↓selV_and, ↓impB_true, ↓impB_false, ↓impB_and, impB_triv, valOf_some, retH_some, ↓prim_pick, pickO_true, pickO_false, pickO_and, pickO_or, pickO_andr, pickO_orr, pickO_orrn, pickO_orn, pickO_bb, pickAnd_bool, pickOr_bool, ↓selV_nn, ↓impB_nn, Bool.and_assoc, Bool.or_assoc, doOp, ev_fr, ev_cst, put_none, put_fr, get, ins, del, dels, Nat.reduceLT, Nat.reduceEqDiff, ↓reduceIte, reduceCtorEq, ne_eq, not_false_eq_true, implies_true, framed_pureF, framed_fb, framed_N, framed_pure, wop_prim, prim, YLD, mkA, V.cells, List.getElem?_cons_zero, List.getElem?_cons_succ, List.set_cons_zero, List.set_cons_succ, Nat.zero_add, Nat.add_zero, Nat.reduceAdd, Nat.reduceSub, Nat.reduceMul, Nat.reduceLeDiff, Nat.not_lt_zero, List.map_cons, List.map_nil, List.cons_append, List.nil_append, loadA, cellsAt, nAg, packA, opt_bind_some, opt_map_some, opt_bind_none, opt_map_none, List.drop, List.take, List.head?, List.length_cons, List.length_nil, binA, unA, eqCells, eqCell, negB, fillA, sr_nil, sr_cons, sr_succ, sr_all, sr_len, storeA, Ob.with, indexedI, V.oneCell, intOf?, retQ_ret, retQ_norm, resA, resA1, fr_getD, packR, sealDepth, shut_bool, shut_int, Option.some.injEq, V.bool.injEq, V.int.injEq, Bool.not_true, Bool.not_false, true_and, and_true, and_self, Bool.and_true, Bool.and_false, Bool.true_and, Bool.false_and, Bool.or_true, Bool.or_false, Bool.true_or, Bool.false_or, Bool.false_eq_true, Int.reduceLT, Int.reduceLE, Int.reduceToNat, Int.reduceNeg, shut_plain, freeL_cons, freeL_nil, free_int, free_bool, free_agg, free_str, free_nils, free_tup, free_sl, true_implies, false_implies, Nat.sub_zero, Int.natCast_nonneg, Int.toNat_natCast, Nat.le_refl, not_true_eq_false, Int.reduceAdd, Int.reduceSub, Int.reduceMul, wrap64, false_and, and_false, cond_true, cond_false, Bool.cond_true_left, Bool.cond_false_right, Int.reduceBNe, Int.reduceBEq, decide_true, decide_false, Int.cast_ofNat_Int, Nat.mul_one, eq_self, Bool.true_eq_false, Bool.not_eq_true, Bool.not_eq_false, deads, List.replicate, argsF, am9, if64, isNil, lenA, em, eq, wq, gm, c30, pm30, c15, List.append_nil, go]
        exact ⟨by omega, h1k⟩
      | true =>
        obtain ⟨n1, n2, n3, n4⟩ := newOk_true gn
        obtain ⟨-, h1e⟩ := h1r gn
        rw [gn] at c15
        simp only [cond_true] at c15
        rw [newD_flat, Int.toNat_natCast, Int.toNat_natCast] at h1e
        have e64 : B.length / 64 * 64 = B.length := by omega
        rw [e64] at h1e
        have go : ofOk B Es = true := by rw [ofOk, gn, hm, gb]; rfl
        obtain ⟨Xv, hXv⟩ : ∃ Xv : V, Xv = .view H.length 1 0 (B.length / 64) 64 (some (B.length / 64)) := ⟨_, rfl⟩
        obtain ⟨C0, hC0⟩ : ∃ C0 : List V, C0 = (newD (B.length / 64) Es.length).cs Xv := ⟨_, rfl⟩
        have h1e : H1 = H ++ [⟨1, .arr ((List.replicate B.length 0).map (V.int .u8))⟩, ⟨1, .var C0⟩] := by rw [h1e, hC0, hXv]
        have lC0 : C0.length = 14 := by rw [hC0]; exact dv_len rfl
        have hs8 := @eps_set8 Xv Es [.int .i64 (Es.length : Int), .bool false, .int .i64 0, .bool false, .int .i64 0] (by omega)
        have hC1 : setRange C0 1 (Es.map (V.int .i64)) = (ofD B Es).cs Xv := by rw [hC0]; exact hs8
        have okD := ofD_ok go
        have lC1 : ((ofD B Es).cs Xv).length = 14 := dv_len okD.e8
        have tC1 : List.take 1 ((ofD B Es).cs Xv) = [Xv] := rfl
        have hc : (chunks B).length = B.length / 64 := by simp [chunks]
        have lF : ((List.replicate B.length (0 : Int)).map (V.int .u8)).length = B.length := by simp
        subst h1e
        have cp := @copy_eps (H ++ [⟨1, .arr ((List.replicate B.length 0).map (V.int .u8))⟩, ⟨1, .var C0⟩]) (H.length + 1) oe ve cap Es Y C0 (by rw [app_get]; rfl) lC0 (by rw [List.getElem?_append_left (lt_of_get he)]; exact he) (by omega) (by omega)
        rw [hC1] at cp
        refine call_keep at9 rfl rfl (by decide) (sx_wp ?_)
        generalize hC1v : (ofD B Es).cs Xv = C1 at *
        simp +contextual -implicitDefEqProofs (maxSteps := 10000000) only [sx_seq, sxL_succ, lpQ_norm, lpQ_exit, lpQ_ret, loopQ_norm, loopQ_exit, loopQ_ret, sqQ_norm, sqQ_ret, sqQ_exit, sx_block, blkQ_norm, blkQ_exit, blkQ_ret, sx_cond, cdP_true, cdP_false, cdP_bool, sx_region, sx_draw, plainD, List.all_cons, List.all_nil, List.isEmpty_nil, List.isEmpty_cons, sxo_nil, sxo_cons, sxo_guard, gdS_bool, gdS_eff, gdS_tup, gdS_sel, gdS_seleff, sxK_def, wcall_some, effP_ret, effP_set, effP_none, effP_ite, wop_call, wop_cv, cvP_func, sx_ret, sx_exit, sx_skip, sx_clr, sx_fresh, stays, ↓selV_wt, ↓selV_wf, ↓impB_wt, ↓impB_wf, ↓selV_nor, ↓impB_nor, ↓selV_nt, ↓selV_nf, ↓impB_nt, ↓impB_nf, wantB_true, wantB_false, ↓selV_true, ↓selV_false, ↓selV_and, ↓impB_true, ↓impB_false, ↓impB_and, impB_triv, valOf_some, retH_some, ↓prim_pick, pickO_true, pickO_false, pickO_and, pickO_or, pickO_andr, pickO_orr, pickO_orrn, pickO_orn, pickO_bb, pickAnd_bool, pickOr_bool, ↓selV_nn, ↓impB_nn, Bool.and_assoc, Bool.or_assoc, doOp, ev_fr, ev_cst, put_none, put_fr, get, ins, del, dels, Nat.reduceLT, Nat.reduceEqDiff, ↓reduceIte, reduceCtorEq, ne_eq, not_false_eq_true, implies_true, framed_pureF, framed_fb, framed_N, framed_pure, wop_prim, prim, YLD, mkA, V.cells, List.getElem?_cons_zero, List.getElem?_cons_succ, List.set_cons_zero, List.set_cons_succ, Nat.zero_add, Nat.add_zero, Nat.reduceAdd, Nat.reduceSub, Nat.reduceMul, Nat.reduceLeDiff, Nat.not_lt_zero, List.map_cons, List.map_nil, List.cons_append, List.nil_append, loadA, cellsAt, nAg, packA, opt_bind_some, opt_map_some, opt_bind_none, opt_map_none, List.drop, List.take, List.head?, List.length_cons, List.length_nil, binA, unA, eqCells, eqCell, negB, fillA, sr_nil, sr_cons, sr_succ, sr_all, sr_len, storeA, Ob.with, indexedI, V.oneCell, intOf?, retQ_ret, retQ_norm, resA, resA1, fr_getD, packR, sealDepth, shut_bool, shut_int, Option.some.injEq, V.bool.injEq, V.int.injEq, Bool.not_true, Bool.not_false, true_and, and_true, and_self, Bool.and_true, Bool.and_false, Bool.true_and, Bool.false_and, Bool.or_true, Bool.or_false, Bool.true_or, Bool.false_or, Bool.false_eq_true, Int.reduceLT, Int.reduceLE, Int.reduceToNat, Int.reduceNeg, shut_plain, freeL_cons, freeL_nil, free_int, free_bool, free_agg, free_str, free_nils, free_tup, free_sl, true_implies, false_implies, Nat.sub_zero, Int.natCast_nonneg, Int.toNat_natCast, Nat.le_refl, not_true_eq_false, Int.reduceAdd, Int.reduceSub, Int.reduceMul, wrap64, false_and, and_false, cond_true, cond_false, Bool.cond_true_left, Bool.cond_false_right, Int.reduceBNe, Int.reduceBEq, decide_true, decide_false, Int.cast_ofNat_Int, Nat.mul_one, eq_self, Bool.true_eq_false, Bool.not_eq_true, Bool.not_eq_false, deads, List.replicate, argsF, am9, if64, isNil, lenA, em, eq, wq, gm, c30, pm30, c15, List.append_nil, boundsA, Option.isNone, app_get0, app_get, app_set0, app_set, lC0, cp, lC1, tC1, hXv]
        refine sx_loop (fun i t K => i ≤ B.length / 64 ∧ t = fr 57 [(0, .view ob vb 0 B.length 1 none), (6, .ptr (H.length + 1) 1 0), (39, .int .i64 ((B.length / 64 : Nat) : Int)), (40, .int .i64 i)] ∧
          K = H ++ [⟨1, .arr ((B.take (i * 64) ++ List.replicate (B.length - i * 64) 0).map (V.int .u8))⟩, ⟨1, .var C1⟩]) (B.length / 64) (by show B.length / 64 < N; omega) ⟨Nat.zero_le _, rfl, by simp⟩ ?_
        rintro i t K hi ⟨hi', rfl, rfl⟩
        by_cases hlt : i < B.length / 64
        · have g1 : decide ((i : Int) < ((B.length / 64 : Nat) : Int)) = true := decide_eq_true (by omega)
          have w4 : IntKind.i64.wrap ((i : Int) + 1) = ((i + 1 : Nat) : Int) := (wrap64 (by omega) (by omega)).trans (by omega)
          have w6 : IntKind.i64.wrap ((i : Int) * 64) = ((i * 64 : Nat) : Int) := (wrap64 (by omega) (by omega)).trans (by omega)
          have hi1 : i + 1 ≤ B.length / 64 := by omega
          have i0 : (0 : Int) ≤ (i : Int) := by omega
          have i1 : (i : Int) < ((B.length / 64 : Nat) : Int) := by omega
          have hbK : (H ++ [⟨1, .arr ((B.take (i * 64) ++ List.replicate (B.length - i * 64) 0).map (V.int .u8))⟩, ⟨1, .var C1⟩] : Heap)[ob]? = some ⟨vb, .arr ((B ++ X).map (V.int .u8))⟩ := by rw [List.getElem?_append_left (lt_of_get hb)]; exact hb
          have lB : ((B ++ X).map (V.int .u8)).length = B.length + X.length := by simp
          have sl := @slice_tail _ ob vb B.length (i * 64) _ hbK (by omega) (by omega)
          have s64 : 64 ≤ B.length - i * 64 := by omega
          have le : i * 64 + 64 ≤ B.length + X.length := by omega
          have le2 : i * 64 + 64 ≤ B.length := by omega
          have tk : List.take 64 (List.drop (i * 64) ((B ++ X).map (V.int .u8))) = ((B.drop (i * 64)).take 64).map (V.int .u8) := by
            rw [← List.map_drop, ← List.map_take, List.drop_append_of_le_length (by omega), List.take_append_of_le_length (by rw [List.length_drop]; omega)]
          have fs := @fill_step64 B i (by omega)
          have l64 : (((B.drop (i * 64)).take 64).map (V.int .u8)).length = 64 := by simp; omega
          have o64 := ints_one .u8 ((B.drop (i * 64)).take 64)
          have el : ((B.take (i * 64) ++ List.replicate (B.length - i * 64) 0).map (V.int .u8)).length = B.length := by simp; omega
          generalize (B.take (i * 64) ++ List.replicate (B.length - i * 64) 0).map (V.int .u8) = Ei at *
          generalize ((B.drop (i * 64)).take 64).map (V.int .u8) = as at *
          generalize (B ++ X).map (V.int .u8) = F at *
          simp +contextual -implicitDefEqProofs (maxSteps := 10000000) only [sx_seq, sxL_succ, lpQ_norm, lpQ_exit, lpQ_ret, loopQ_norm, loopQ_exit, loopQ_ret, sqQ_norm, sqQ_ret, sqQ_exit, sx_block, blkQ_norm, blkQ_exit, blkQ_ret, sx_cond, cdP_true, cdP_false, cdP_bool, sx_region, sx_draw, plainD, List.all_cons, List.all_nil, List.isEmpty_nil, List.isEmpty_cons, sxo_nil, sxo_cons, sxo_guard, gdS_bool, gdS_eff, gdS_tup, gdS_sel, gdS_seleff, sxK_def, wcall_some, effP_ret, effP_set, effP_none, effP_ite, wop_call, wop_cv, cvP_func, sx_ret, sx_exit, sx_skip, sx_clr, sx_fresh, stays, ↓selV_wt, ↓selV_wf, ↓impB_wt, ↓impB_wf, ↓selV_nor, ↓impB_nor, ↓selV_nt, ↓selV_nf, ↓impB_nt, ↓impB_nf, wantB_true, wantB_false, ↓selV_true, ↓selV_false, ↓selV_and, ↓impB_true, ↓impB_false, ↓impB_and, impB_triv, valOf_some, retH_some, ↓prim_pick, pickO_true, pickO_false, pickO_and, pickO_or, pickO_andr, pickO_orr, pickO_orrn, pickO_orn, pickO_bb, pickAnd_bool, pickOr_bool, ↓selV_nn, ↓impB_nn, Bool.and_assoc, Bool.or_assoc, doOp, ev_fr, ev_cst, put_none, put_fr, get, ins, del, dels, Nat.reduceLT, Nat.reduceEqDiff, ↓reduceIte, reduceCtorEq, ne_eq, not_false_eq_true, implies_true, framed_pureF, framed_fb, framed_N, framed_pure, wop_prim, prim, YLD, mkA, V.cells, List.getElem?_cons_zero, List.getElem?_cons_succ, List.set_cons_zero, List.set_cons_succ, Nat.zero_add, Nat.add_zero, Nat.reduceAdd, Nat.reduceSub, Nat.reduceMul, Nat.reduceLeDiff, Nat.not_lt_zero, List.map_cons, List.map_nil, List.cons_append, List.nil_append, loadA, cellsAt, nAg, packA, opt_bind_some, opt_map_some, opt_bind_none, opt_map_none, List.drop, List.take, List.head?, List.length_cons, List.length_nil, binA, unA, eqCells, eqCell, negB, fillA, sr_nil, sr_cons, sr_succ, sr_all, sr_len, storeA, Ob.with, indexedI, V.oneCell, intOf?, retQ_ret, retQ_norm, resA, resA1, fr_getD, packR, sealDepth, shut_bool, shut_int, Option.some.injEq, V.bool.injEq, V.int.injEq, Bool.not_true, Bool.not_false, true_and, and_true, and_self, Bool.and_true, Bool.and_false, Bool.true_and, Bool.false_and, Bool.or_true, Bool.or_false, Bool.true_or, Bool.false_or, Bool.false_eq_true, Int.reduceLT, Int.reduceLE, Int.reduceToNat, Int.reduceNeg, shut_plain, freeL_cons, freeL_nil, free_int, free_bool, free_agg, free_str, free_nils, free_tup, free_sl, true_implies, false_implies, Nat.sub_zero, Int.natCast_nonneg, Int.toNat_natCast, Nat.le_refl, not_true_eq_false, Int.reduceAdd, Int.reduceSub, Int.reduceMul, wrap64, false_and, and_false, cond_true, cond_false, Bool.cond_true_left, Bool.cond_false_right, Int.reduceBNe, Int.reduceBEq, decide_true, decide_false, Int.cast_ofNat_Int, Nat.mul_one, eq_self, Bool.true_eq_false, Bool.not_eq_true, Bool.not_eq_false, deads, List.replicate, argsF, g1, app_get0, app_get, app_set0, app_set, lC1, tC1, hXv, w6, sl, s2apA, s64, hbK, lB, le, le2, tk, l64, o64, iaddrSA, i0, i1, el, fs, Int.toNat_natCast, w4, hi1, hlt]
        · have e8 : i = B.length / 64 := by omega
          subst e8
          have g1 : decide (((B.length / 64 : Nat) : Int) < ((B.length / 64 : Nat) : Int)) = false := decide_eq_false (by omega)
          have eB : B.take (B.length / 64 * 64) ++ List.replicate (B.length - B.length / 64 * 64) 0 = B := by rw [e64, List.take_length, Nat.sub_self]; simp
          rw [eB]
          simp +contextual -implicitDefEqProofs (maxSteps := 10000000) only [sx_seq, sxL_succ, lpQ_norm, lpQ_exit, lpQ_ret, loopQ_norm, loopQ_exit, loopQ_ret, sqQ_norm, sqQ_ret, sqQ_exit, sx_block, blkQ_norm, blkQ_exit, blkQ_ret, sx_cond, cdP_true, cdP_false, cdP_bool, sx_region, sx_draw, plainD, List.all_cons, List.all_nil, List.isEmpty_nil, List.isEmpty_cons, sxo_nil, sxo_cons, sxo_guard, gdS_bool, gdS_eff, gdS_tup, gdS_sel, gdS_seleff, sxK_def, wcall_some, effP_ret, effP_set, effP_none, effP_ite, wop_call, wop_cv, cvP_func, sx_ret, sx_exit, sx_skip, sx_clr, sx_fresh, stays, ↓selV_wt, ↓selV_wf, ↓impB_wt, ↓impB_wf, ↓selV_nor, ↓impB_nor, ↓selV_nt, ↓selV_nf, ↓impB_nt, ↓impB_nf, wantB_true, wantB_false, ↓selV_true, ↓selV_false, ↓selV_and, ↓impB_true, ↓impB_false, ↓impB_and, impB_triv, valOf_some, retH_some, ↓prim_pick, pickO_true, pickO_false, pickO_and, pickO_or, pickO_andr, pickO_orr, pickO_orrn, pickO_orn, pickO_bb, pickAnd_bool, pickOr_bool, ↓selV_nn, ↓impB_nn, Bool.and_assoc, Bool.or_assoc, doOp, ev_fr, ev_cst, put_none, put_fr, get, ins, del, dels, Nat.reduceLT, Nat.reduceEqDiff, ↓reduceIte, reduceCtorEq, ne_eq, not_false_eq_true, implies_true, framed_pureF, framed_fb, framed_N, framed_pure, wop_prim, prim, YLD, mkA, V.cells, List.getElem?_cons_zero, List.getElem?_cons_succ, List.set_cons_zero, List.set_cons_succ, Nat.zero_add, Nat.add_zero, Nat.reduceAdd, Nat.reduceSub, Nat.reduceMul, Nat.reduceLeDiff, Nat.not_lt_zero, List.map_cons, List.map_nil, List.cons_append, List.nil_append, loadA, cellsAt, nAg, packA, opt_bind_some, opt_map_some, opt_bind_none, opt_map_none, List.drop, List.take, List.head?, List.length_cons, List.length_nil, binA, unA, eqCells, eqCell, negB, fillA, sr_nil, sr_cons, sr_succ, sr_all, sr_len, storeA, Ob.with, indexedI, V.oneCell, intOf?, retQ_ret, retQ_norm, resA, resA1, fr_getD, packR, sealDepth, shut_bool, shut_int, Option.some.injEq, V.bool.injEq, V.int.injEq, Bool.not_true, Bool.not_false, true_and, and_true, and_self, Bool.and_true, Bool.and_false, Bool.true_and, Bool.false_and, Bool.or_true, Bool.or_false, Bool.true_or, Bool.false_or, Bool.false_eq_true, Int.reduceLT, Int.reduceLE, Int.reduceToNat, Int.reduceNeg, shut_plain, freeL_cons, freeL_nil, free_int, free_bool, free_agg, free_str, free_nils, free_tup, free_sl, true_implies, false_implies, Nat.sub_zero, Int.natCast_nonneg, Int.toNat_natCast, Nat.le_refl, not_true_eq_false, Int.reduceAdd, Int.reduceSub, Int.reduceMul, wrap64, false_and, and_false, cond_true, cond_false, Bool.cond_true_left, Bool.cond_false_right, Int.reduceBNe, Int.reduceBEq, decide_true, decide_false, Int.cast_ofNat_Int, Nat.mul_one, eq_self, Bool.true_eq_false, Bool.not_eq_true, Bool.not_eq_false, deads, List.replicate, argsF, g1, go]
          refine ⟨by simp, fun p hp => List.getElem?_append_left hp, ?_⟩
          refine ⟨okD, ⟨1, some (B.length / 64), ?_, ?_⟩, by omega⟩
          · rw [app_get, show (ofD B Es).S.length = B.length / 64 from hc, ← hC1v, hXv]; rfl
          · rw [app_get0, show (ofD B Es).S.flatten = B from chunks_flat hm]; rfl
  · have gm : (((B.length % 64 : Nat) : Int) != 0) = true := by simp; omega
    have go : ofOk B Es = false := by simp [ofOk, hm]
    refine call_keep at9 rfl rfl (by decide) (sx_wp ?_)
    simp +contextual -implicitDefEqProofs (maxSteps := 10000000) only [sx_seq, sxL_succ, lpQ_norm, lpQ_exit, lpQ_ret, loopQ_norm, loopQ_exit, loopQ_ret, sqQ_norm, sqQ_ret, sqQ_exit, sx_block, blkQ_norm, blkQ_exit, blkQ_ret, sx_cond, cdP_true, cdP_false, cdP_bool, sx_region, sx_draw, plainD, List.all_cons, List.all_nil, List.isEmpty_nil, List.isEmpty_cons, sxo_nil, sxo_cons, sxo_guard, gdS_bool, gdS_eff, gdS_tup, gdS_sel, gdS_seleff, sxK_def, wcall_some, effP_ret, effP_set, effP_none, effP_ite, wop_call, wop_cv, cvP_func, sx_ret, sx_exit, sx_skip, sx_clr, sx_fresh, stays, ↓selV_wt, ↓selV_wf, ↓impB_wt, ↓impB_wf, ↓selV_nor, ↓impB_nor, ↓selV_nt, ↓selV_nf, ↓impB_nt, ↓impB_nf, wantB_true, wantB_false, ↓selV_true, ↓selV_false, ↓selV_and, ↓impB_true, ↓impB_false, ↓impB_and, impB_triv, valOf_some, retH_some, ↓prim_pick, pickO_true, pickO_false, pickO_and, pickO_or, pickO_andr, pickO_orr, pickO_orrn, pickO_orn, pickO_bb, pickAnd_bool, pickOr_bool, ↓selV_nn, ↓impB_nn, Bool.and_assoc, Bool.or_assoc, doOp, ev_fr, ev_cst, put_none, put_fr, get, ins, del, dels, Nat.reduceLT, Nat.reduceEqDiff, ↓reduceIte, reduceCtorEq, ne_eq, not_false_eq_true, implies_true, framed_pureF, framed_fb, framed_N, framed_pure, wop_prim, prim, YLD, mkA, V.cells, List.getElem?_cons_zero, List.getElem?_cons_succ, List.set_cons_zero, List.set_cons_succ, Nat.zero_add, Nat.add_zero, Nat.reduceAdd, Nat.reduceSub, Nat.reduceMul, Nat.reduceLeDiff, Nat.not_lt_zero, List.map_cons, List.map_nil, List.cons_append, List.nil_append, loadA, cellsAt, nAg, packA, opt_bind_some, opt_map_some, opt_bind_none, opt_map_none, List.drop, List.take, List.head?, List.length_cons, List.length_nil, binA, unA, eqCells, eqCell, negB, fillA, sr_nil, sr_cons, sr_succ, sr_all, sr_len, storeA, Ob.with, indexedI, V.oneCell, intOf?, retQ_ret, retQ_norm, resA, resA1, fr_getD, packR, sealDepth, shut_bool, shut_int, Option.some.injEq, V.bool.injEq, V.int.injEq, Bool.not_true, Bool.not_false, true_and, and_true, and_self, Bool.and_true, Bool.and_false, Bool.true_and, Bool.false_and, Bool.or_true, Bool.or_false, Bool.true_or, Bool.false_or, Bool.false_eq_true, Int.reduceLT, Int.reduceLE, Int.reduceToNat, Int.reduceNeg, shut_plain, freeL_cons, freeL_nil, free_int, free_bool, free_agg, free_str, free_nils, free_tup, free_sl, true_implies, false_implies, Nat.sub_zero, Int.natCast_nonneg, Int.toNat_natCast, Nat.le_refl, not_true_eq_false, Int.reduceAdd, Int.reduceSub, Int.reduceMul, wrap64, false_and, and_false, cond_true, cond_false, Bool.cond_true_left, Bool.cond_false_right, Int.reduceBNe, Int.reduceBEq, decide_true, decide_false, Int.cast_ofNat_Int, Nat.mul_one, eq_self, Bool.true_eq_false, Bool.not_eq_true, Bool.not_eq_false, deads, List.replicate, argsF, am9, if64, isNil, lenA, em, gm, pm30, List.append_nil, go]
end Go.Am.T


set_option linter.unusedVariables false
set_option linter.unusedSimpArgs false
namespace Go.Am
def InV (S : Nat → Prop) (v : V) : Prop := ∀ o ∈ v.objs, S o
def InL (S : Nat → Prop) (l : List V) : Prop := ∀ v ∈ l, InV S v
section
variable {S : Nat → Prop}
theorem mem_objsL' : ∀ {l : List V} {o : Nat}, o ∈ V.objsL l → ∃ c ∈ l, o ∈ c.objs
  | [], o, h => by cases h
  | v :: l, o, h => by
    have h' : o ∈ v.objs ++ V.objsL l := h
    rcases List.mem_append.1 h' with h | h
    · exact ⟨v, by simp, h⟩
    · obtain ⟨c, h1, h2⟩ := mem_objsL' h
      exact ⟨c, by simp [h1], h2⟩
theorem inL_iff {l : List V} : InL S l ↔ ∀ o ∈ V.objsL l, S o := by
  constructor
  · intro h o ho
    obtain ⟨c, h1, h2⟩ := mem_objsL' ho
    exact h c h1 o h2
  · intro h c hc o ho
    exact h o (mem_objsL hc o ho)
theorem inV_nil {v : V} (h : v.objs = []) : InV S v := fun o ho => by rw [h] at ho; cases ho
mutual
theorem free_objs : ∀ (v : V), v.free = true → v.objs = []
  | .junk, _ | .bool _, _ | .int .., _ | .str _, _ | .nilp, _ | .nils, _ | .nilm, _ | .nilf, _ | .nili, _ => rfl
  | .ptr .., h | .view .., h | .vend .., h | .map .., h | .yld .., h => by simp [V.free] at h
  | .iptr cs _, h => by simp only [V.objs]; exact free_objsL cs (by simpa [V.free] using h)
  | .sl L _ _, h => by simp only [V.objs]; exact free_objsL L (by simpa [V.free] using h)
  | .func _ xs ys, h => by
    simp only [V.free, Bool.and_eq_true] at h
    simp only [V.objs, free_objsL xs h.1, free_objsL ys h.2, List.append_nil]
  | .iface _ v, h => by simp only [V.objs]; exact free_objs v (by simpa [V.free] using h)
  | .agg cs, h => by simp only [V.objs]; exact free_objsL cs (by simpa [V.free] using h)
  | .tup cs, h => by simp only [V.objs]; exact free_objsL cs (by simpa [V.free] using h)
  termination_by structural v => v
theorem free_objsL : ∀ (l : List V), V.freeL l = true → V.objsL l = []
  | [], _ => rfl
  | v :: l, h => by
    simp only [V.freeL, Bool.and_eq_true] at h
    simp only [V.objsL, free_objs v h.1, free_objsL l h.2, List.append_nil]
  termination_by structural l => l
end
theorem inV_free {v : V} (h : v.free = true) : InV S v := inV_nil (free_objs v h)
theorem inL_free {l : List V} (h : V.freeL l = true) : InL S l := inL_iff.2 fun o ho => by rw [free_objsL l h] at ho; cases ho
theorem InL.sub {l m : List V} (h : InL S l) (hs : ∀ v ∈ m, v ∈ l) : InL S m := fun v hv => h v (hs v hv)
theorem InL.take {l : List V} (h : InL S l) (n : Nat) : InL S (l.take n) := h.sub fun v hv => List.mem_of_mem_take hv
theorem InL.drop {l : List V} (h : InL S l) (n : Nat) : InL S (l.drop n) := h.sub fun v hv => List.mem_of_mem_drop hv
theorem InL.app {l m : List V} (h1 : InL S l) (h2 : InL S m) : InL S (l ++ m) := fun v hv => by
  rcases List.mem_append.1 hv with h | h
  · exact h1 v h
  · exact h2 v h
theorem InL.cons {v : V} {l : List V} (h1 : InV S v) (h2 : InL S l) : InL S (v :: l) := fun u hu => by
  rcases List.mem_cons.1 hu with rfl | h
  · exact h1
  · exact h2 u h
theorem inL_nil : InL S [] := fun v hv => by cases hv
theorem InV.agg {l : List V} (h : InL S l) : InV S (.agg l) := fun o ho => inL_iff.1 h o (by simpa [V.objs] using ho)
theorem InV.tup {l : List V} (h : InL S l) : InV S (.tup l) := fun o ho => inL_iff.1 h o (by simpa [V.objs] using ho)
theorem InV.sl {l : List V} {s : Nat} {c : Option Nat} (h : InL S l) : InV S (.sl l s c) := fun o ho => inL_iff.1 h o (by simpa [V.objs] using ho)
theorem InV.iptr {l : List V} {f : Nat} (h : InL S l) : InV S (.iptr l f) := fun o ho => inL_iff.1 h o (by simpa [V.objs] using ho)
theorem InV.agg' {l : List V} (h : InV S (.agg l)) : InL S l := inL_iff.2 fun o ho => h o (by simpa [V.objs] using ho)
theorem InV.tup' {l : List V} (h : InV S (.tup l)) : InL S l := inL_iff.2 fun o ho => h o (by simpa [V.objs] using ho)
theorem InV.sl' {l : List V} {s : Nat} {c : Option Nat} (h : InV S (.sl l s c)) : InL S l := inL_iff.2 fun o ho => h o (by simpa [V.objs] using ho)
theorem InV.iptr' {l : List V} {f : Nat} (h : InV S (.iptr l f)) : InL S l := inL_iff.2 fun o ho => h o (by simpa [V.objs] using ho)
theorem InV.cells {v : V} (h : InV S v) : InL S v.cells := by
  cases v <;> first | exact h.agg' | exact InL.cons h inL_nil
theorem inL_flat {l : List V} (h : InL S l) : InL S (l.flatMap V.cells) := fun v hv => by
  obtain ⟨e, h1, h2⟩ := List.mem_flatMap.1 hv
  exact (h e h1).cells v h2
theorem inV_wrap {l : List V} (h : InL S l) : InV S (wrapV l) := by
  unfold wrapV
  split
  · exact h _ (by simp)
  · exact .agg h
theorem inV_pack {ag : Option Nat} {cs : List V} {v : V} (h : InL S cs) (hp : packA ag cs = some v) : InV S v := by
  unfold packA at hp
  split at hp
  · cases hp; exact .agg h
  · exact h v (List.mem_of_mem_head? hp)
theorem inL_set {a b : List V} {n : Nat} (h1 : InL S a) (h2 : InL S b) : InL S (setRange a n b) := ((h1.take n).app h2).app (h1.drop _)
theorem inL_fill : ∀ {ps : List (Nat × Nat × V)} {cs ds : List V}, InL S cs → (∀ p ∈ ps, InV S p.2.2) → fillA cs ps = some ds → InL S ds
  | [], cs, ds, h, _, hf => by simp [fillA] at hf; subst hf; exact h
  | (o, n, v) :: ps, cs, ds, h, hp, hf => by
    simp only [fillA] at hf
    have hv := hp _ (by simp : (o, n, v) ∈ (o, n, v) :: ps)
    split at hf
    · cases hf
    · split at hf
      · split at hf
        · exact inL_fill (inL_set h hv.cells) (fun p hp' => hp p (by simp [hp'])) hf
        · cases hf
      · cases hf
def InG (S : Nat → Prop) (get : Nat → Option Ob) : Prop := ∀ o x, get o = some x → ∀ i ∈ x.bd.objs, S i
theorem inL_cellsAt {get : Nat → Option Ob} (hg : InG S get) {o ver : Nat} {cs : List V} (h : cellsAt get o ver = some cs) : InL S cs := by
  unfold cellsAt at h
  split at h
  · rename_i v cs' he
    split at h
    · cases h; exact inL_iff.2 fun i hi => hg o _ he i hi
    · cases h
  · rename_i v cs' he
    split at h
    · cases h; exact inL_iff.2 fun i hi => hg o _ he i hi
    · cases h
  · cases h
theorem inL_loadA {get : Nat → Option Ob} (hg : InG S get) {n : Nat} {p : V} (hp : InV S p) {cs : List V} (h : loadA get n p = some cs) : InL S cs := by
  unfold loadA at h
  split at h
  · split at h
    · rename_i all hc
      split at h
      · cases h; exact ((inL_cellsAt hg hc).drop _).take _
      · cases h
    · cases h
  · split at h
    · cases h; exact (hp.iptr'.drop _).take _
    · cases h
  · cases h
theorem inL_firstA {get : Nat → Option Ob} (hg : InG S get) {s n : Nat} {p : V} (hp : InV S p) {cs : List V} (h : firstA get s n p = some cs) : InL S cs := by
  cases p <;> simp only [firstA, reduceCtorEq] at h
  case nils => split at h <;> cases h; exact inL_nil
  case vend o ver s' =>
    split at h
    · split at h <;> cases h; exact inL_nil
    · cases h
  case view o ver off len s' cap =>
    split at h
    · split at h
      · exact inL_loadA hg (p := .ptr o ver off) (fun i hi => hp i (by simpa [V.objs] using hi)) h
      · cases h
    · cases h
  case sl L s' cap =>
    split at h
    · split at h
      · cases h; exact inL_flat (hp.sl'.take _)
      · cases h
    · cases h
  case str b =>
    split at h
    · split at h
      · cases h
        intro v hv
        obtain ⟨x, -, rfl⟩ := List.mem_map.1 hv
        exact inV_nil rfl
      · cases h
    · cases h
theorem binA_objs {op : BinOp} {a b v : V} (h : binA op a b = some v) : v.objs = [] := by
  unfold binA at h
  repeat' split at h
  all_goals first | (cases h; rfl) | (cases h; done) | skip
theorem unA_objs {op : UnOp} {a v : V} (h : unA op a = some v) : v.objs = [] := by
  unfold unA at h
  repeat' split at h
  all_goals first | (cases h; rfl) | (cases h; done)
theorem mmA_objs {mx : Bool} {a b v : V} (h : mmA mx a b = some v) : v.objs = [] := by
  unfold mmA at h
  split at h
  · cases h; rfl
  · cases h
def Bd.plainBd : Bd → Bool
  | .loop .. => false
  | _ => true
def Eff.inV (S : Nat → Prop) : Eff → Prop
  | .ret v => InV S v
  | .set o x v => InV S v ∧ (∀ i ∈ x.bd.objs, S i) ∧ x.bd.plainBd = true
theorem inV_ptr {o ver off : Nat} (h : S o) : InV S (.ptr o ver off) := fun i hi => by simp [V.objs] at hi; subst hi; exact h
theorem inV_view {o ver off len s : Nat} {cap : Option Nat} (h : S o) : InV S (.view o ver off len s cap) := fun i hi => by simp [V.objs] at hi; subst hi; exact h
theorem inV_vend {o ver s : Nat} (h : S o) : InV S (.vend o ver s) := fun i hi => by simp [V.objs] at hi; subst hi; exact h
theorem inV_map {o ver : Nat} (h : S o) : InV S (.map o ver) := fun i hi => by simp [V.objs] at hi; subst hi; exact h
theorem mkA_in {get : Nat → Option Ob} {o : Nat} {bd : Bd} {v : Nat → V} {eff : Eff} (h : mkA get o bd v = some eff) (hb : ∀ i ∈ bd.objs, S i) (hv : ∀ n, InV S (v n)) (hl : bd.plainBd = true := by rfl) : eff.inV S := by
  unfold mkA at h
  split at h
  · cases h; exact ⟨hv _, hb, hl⟩
  · cases h
theorem arr_in {l : List V} (h : InL S l) : ∀ i ∈ (Bd.arr l).objs, S i := fun i hi => inL_iff.1 h i hi
theorem var_in {l : List V} (h : InL S l) : ∀ i ∈ (Bd.var l).objs, S i := fun i hi => inL_iff.1 h i hi
theorem with_in {x : Ob} {l : List V} (hx : ∀ i ∈ x.bd.objs, S i) (h : InL S l) : ∀ i ∈ (x.with l).bd.objs, S i := by
  unfold Ob.with
  split
  · exact var_in h
  · exact arr_in h
  · exact hx
theorem storeA_in {get : Nat → Option Ob} (hg : InG S get) {o ver off : Nat} {new : List V} {v : V} {eff : Eff} (h : storeA get o ver off new v = some eff) (hn : InL S new) (hv : InV S v) : eff.inV S := by
  unfold storeA at h
  split at h
  · rename_i cs x hc hx
    split at h
    · cases h
      refine ⟨hv, with_in (hg o x hx) (inL_set (inL_cellsAt hg hc) hn), ?_⟩
      unfold cellsAt at hc
      rw [hx] at hc
      obtain ⟨v0, bd⟩ := x
      cases bd <;> simp at hc <;> rfl
    · cases h
  · cases h
theorem sliceA_in {get : Nat → Option Ob} {s : Nat} {x : V} (hx : InV S x) {lo hi mx : Option V} {v : V} (h : sliceA get s x lo hi mx = some v) : InV S v := by
  cases x <;> simp only [sliceA, reduceCtorEq] at h
  case nils => simp only [Option.map_eq_some_iff] at h; obtain ⟨_, -, rfl⟩ := h; exact inV_nil rfl
  case vend o ver s' =>
    split at h
    · simp only [Option.map_eq_some_iff] at h; obtain ⟨_, -, rfl⟩ := h; exact fun i hi => hx i (by simpa [V.objs] using hi)
    · cases h
  case view o ver off len s' cap =>
    have ho : S o := hx o (by simp [V.objs])
    cases cap with
    | some c =>
      simp only [sliceA] at h
      split at h
      · simp only [Option.map_eq_some_iff] at h; obtain ⟨⟨l, k, m⟩, -, rfl⟩ := h; exact inV_view ho
      · cases h
    | none =>
      simp only [sliceA] at h
      split at h
      · split at h
        · split at h
          · simp only [Option.bind_eq_some_iff] at h
            obtain ⟨⟨l, k, m⟩, -, h⟩ := h
            simp only at h
            split at h
            · cases h; exact inV_view ho
            · split at h
              · cases h; exact inV_view ho
              · cases h; exact inV_vend ho
          · simp only [Option.map_eq_some_iff] at h; obtain ⟨⟨l, k, m⟩, -, rfl⟩ := h; exact inV_view ho
        · cases h
      · cases h
  case sl L s' cap =>
    cases cap with
    | some c =>
      simp only [sliceA] at h
      split at h
      · simp only [Option.bind_eq_some_iff] at h
        obtain ⟨⟨l, k, m⟩, -, h⟩ := h
        simp only at h
        split at h
        · cases h; exact .sl ((hx.sl'.take _).drop _)
        · cases h
      · cases h
    | none =>
      simp only [sliceA] at h
      split at h
      · simp only [Option.map_eq_some_iff] at h; obtain ⟨⟨l, k, m⟩, -, rfl⟩ := h; exact .sl ((hx.sl'.take _).drop _)
      · cases h
theorem appendA_in {get : Nat → Option Ob} (hg : InG S get) {o s b : Nat} (ho : S o) {x y : V} (hx : InV S x) (hy : InV S y) {eff : Eff} (h : appendA get o s b x y = some eff) : eff.inV S := by
  unfold appendA at h
  split at h
  · cases h
  rename_i n hn
  split at h
  · cases h
  rename_i new hf
  have hnew := inL_firstA hg hy hf
  split at h
  case isFalse => cases h
  have hxo : ∀ i ∈ x.objs, S i := hx
  split at h
  · split at h
    · cases h; exact inV_nil rfl
    · split at h
      · exact mkA_in h (arr_in hnew) fun v => inV_view ho
      · cases h
  · rename_i L s' c
    split at h
    · split at h
      · cases h; exact hx
      · split at h
        · split at h
          · exact mkA_in h (arr_in ((inL_flat hx.sl').app hnew)) fun v => inV_view ho
          · cases h
        · cases h
    · cases h
  · rename_i o' ver s'
    have ho' : S o' := hx o' (by simp [V.objs])
    split at h
    · split at h
      · cases h
      · split at h
        · cases h; exact hx
        · split at h
          · cases h; exact ⟨inV_view ho', arr_in hnew, rfl⟩
          · cases h
    · cases h
  · rename_i o' ver off len s' cap
    have ho' : S o' := hx o' (by simp [V.objs])
    split at h
    · split at h
      · cases h
      · rename_i cs hc
        have hcs := inL_cellsAt hg hc
        split at h
        · cases h; exact hx
        · split at h
          · split at h
            · split at h
              · exact storeA_in hg h hnew (inV_view ho')
              · split at h
                · exact mkA_in h (arr_in (((hcs.drop _).take _).app hnew)) fun v => inV_view ho
                · cases h
            · split at h
              · split at h
                · cases h; exact ⟨inV_view ho', arr_in ((hcs.drop _).app hnew), rfl⟩
                · cases h
              · exact storeA_in hg h hnew (inV_view ho')
          · cases h
    · cases h
  · cases h
theorem copyA_in {get : Nat → Option Ob} (hg : InG S get) {s : Nat} {x y : V} (hx : InV S x) (hy : InV S y) {eff : Eff} (h : copyA get s x y = some eff) : eff.inV S := by
  unfold copyA at h
  split at h
  case h_2 => cases h
  simp only at h
  split at h
  · cases h
  rename_i new hf
  have hnew := inL_firstA hg hy hf
  split at h
  case isFalse => cases h
  split at h
  · cases h; exact inV_nil rfl
  · cases h; exact inV_nil rfl
  · split at h
    · split at h
      · cases h; exact inV_nil rfl
      · exact storeA_in hg h hnew (inV_nil rfl)
    · cases h
  · cases h
theorem mapAt_in {get : Nat → Option Ob} (hg : InG S get) {o ver : Nat} {es : List (V × V)} (h : mapAt get o ver = some es) : ∀ e ∈ es, InV S e.1 ∧ InV S e.2 := by
  unfold mapAt at h
  split at h
  · rename_i v es' he
    split at h
    · cases h
      have := hg o _ he
      intro e hm
      exact ⟨fun i hi => this i (List.mem_flatMap.2 ⟨e, hm, by simp [hi]⟩), fun i hi => this i (List.mem_flatMap.2 ⟨e, hm, by simp [hi]⟩)⟩
    · cases h
  · cases h
theorem map_in {es : List (V × V)} (h : ∀ e ∈ es, InV S e.1 ∧ InV S e.2) : ∀ i ∈ (Bd.map es).objs, S i := by
  intro i hi
  obtain ⟨e, he, hi⟩ := List.mem_flatMap.1 hi
  rcases List.mem_append.1 hi with hi | hi
  · exact (h e he).1 i hi
  · exact (h e he).2 i hi
theorem okV_in {ok b : Bool} {v : V} (h : InV S v) : InV S (okV ok v b) := by
  unfold okV
  cases ok
  · exact h
  · exact .tup (.cons h (.cons (inV_nil rfl) inL_nil))
def cleanO (x : Opd) : Bool := match x with | .cst v => v.free | .tmp _ => true
def AOp.clean (op : AOp) : Bool :=
  op.opds.all cleanO && match op with
  | .allocz _ z | .build z _ | .bslice z _ _ _ | .clearS _ z _ | .bnew _ z _ _ _ | .mkslice _ z _ _ _ _ => V.freeL z
  | .mget _ _ z _ _ _ => z.free
  | _ => true
theorem inV_ev {t : List V} (ht : InL S t) {x : Opd} (hx : cleanO x = true) : InV S (ev t x) := by
  cases x with
  | cst v => exact inV_free hx
  | tmp i =>
    simp only [ev, List.getD_eq_getElem?_getD]
    cases h : t[i]? with
    | none => exact inV_nil rfl
    | some v => exact ht v (List.mem_of_getElem? h)
theorem inL_chunks {cs : List V} (h : InL S cs) (n : Nat) (f : Nat → Nat) (s : Nat) : InL S ((List.range n).map fun i => wrapV ((cs.drop (f i)).take s)) := fun v hv => by
  obtain ⟨i, -, rfl⟩ := List.mem_map.1 hv
  exact inV_wrap ((h.drop _).take _)
theorem fold_mm : ∀ {l : List V} {a v : V} {mx : Bool}, InV S a → l.foldlM (mmA mx) a = some v → InV S v
  | [], a, v, mx, h, hf => by simp at hf; subst hf; exact h
  | x :: l, a, v, mx, h, hf => by
    simp only [List.foldlM_cons, Option.bind_eq_bind, Option.bind_eq_some_iff] at hf
    obtain ⟨b, hb, hf⟩ := hf
    exact fold_mm (inV_nil (mmA_objs hb)) hf
theorem prim_in {fb : Nat} {t : List V} (ht : InL S t) {get : Nat → Option Ob} (hg : InG S get) (hs : ∀ i, fb ≤ i → S i) {op : AOp} (hc : op.clean = true) {eff : Eff} (h : prim fb (ev t) get op = some eff) : eff.inV S := by
  unfold AOp.clean at hc
  simp only [Bool.and_eq_true, List.all_eq_true] at hc
  obtain ⟨hc, hz⟩ := hc
  have e : ∀ x ∈ op.opds, InV S (ev t x) := fun x hx => inV_ev ht (hc x hx)
  have st : ∀ s, S (fb + s) := fun s => hs _ (by omega)
  cases op <;> simp only [AOp.opds, List.mem_cons, List.not_mem_nil, or_false, forall_eq_or_imp, forall_eq] at e <;> simp only [prim] at h
  case move x => cases h; exact e
  case pick c a b =>
    split at h
    · rename_i tt _; cases h; cases tt
      · exact e.2.2
      · exact e.2.1
    · cases h
  case allocz s z => exact mkA_in h (var_in (inL_free hz)) fun v => inV_ptr (st s)
  case box s x =>
    split at h
    · cases h
    · exact mkA_in h (var_in e.cells) fun v => inV_ptr (st s)
  case build z ps =>
    simp only [Option.map_eq_some_iff] at h
    obtain ⟨cs, hf, rfl⟩ := h
    refine .agg (inL_fill (inL_free hz) (fun p hp => ?_) hf)
    obtain ⟨q, hq, rfl⟩ := List.mem_map.1 hp
    exact e _ (List.mem_map.2 ⟨q, hq, rfl⟩)
  case bslice z len s ps =>
    split at h
    · rename_i cs hf
      split at h
      · cases h
        refine .sl (inL_chunks (inL_fill (inL_free hz) (fun p hp => ?_) hf) _ _ _)
        obtain ⟨q, hq, rfl⟩ := List.mem_map.1 hp
        exact e _ (List.mem_map.2 ⟨q, hq, rfl⟩)
      · cases h
    · cases h
  case load ag a =>
    simp only [Option.bind_eq_some_iff, Option.map_eq_some_iff] at h
    obtain ⟨cs, hl, v, hv, rfl⟩ := h
    exact inV_pack (inL_loadA hg e hl) hv
  case store n a x =>
    split at h
    · split at h
      · split at h
        · exact storeA_in hg h e.2.cells (inV_nil rfl)
        · cases h
      · cases h
    · cases h
  case nilck x =>
    split at h
    · rename_i o v f hx; cases h; rw [hx] at e; exact e
    · rename_i c f hx; cases h; rw [hx] at e; exact e
    · rename_i f a b hx; cases h; rw [hx] at e; exact e
    · cases h
  case bin op x y =>
    simp only [Option.map_eq_some_iff] at h
    obtain ⟨v, hv, rfl⟩ := h
    exact inV_nil (binA_objs hv)
  case eqc neg ag ks x y =>
    cases ag <;> simp only [prim] at h
    · simp only [Option.map_eq_some_iff] at h
      obtain ⟨b, -, rfl⟩ := h
      exact inV_nil rfl
    · split at h
      · simp only [Option.map_eq_some_iff] at h
        obtain ⟨b, -, rfl⟩ := h
        exact inV_nil rfl
      · cases h
  case eqnil neg k x =>
    simp only [Option.map_eq_some_iff] at h
    obtain ⟨b, -, rfl⟩ := h
    exact inV_nil rfl
  case un op x =>
    simp only [Option.map_eq_some_iff] at h
    obtain ⟨v, hv, rfl⟩ := h
    exact inV_nil (unA_objs hv)
  case cint k x => split at h <;> cases h; exact inV_nil rfl
  case cstr x => split at h <;> cases h; exact inV_nil rfl
  case b2s x =>
    split at h
    · cases h
    · simp only [Option.bind_eq_some_iff, Option.map_eq_some_iff] at h
      obtain ⟨n, -, cs, -, l, -, rfl⟩ := h
      exact inV_nil rfl
  case s2b s x =>
    split at h
    · refine mkA_in h (arr_in fun v hv => ?_) fun v => inV_view (st s)
      obtain ⟨x, -, rfl⟩ := List.mem_map.1 hv
      exact inV_nil rfl
    · cases h
  case mkfunc f xs ys =>
    cases h
    intro o ho
    simp only [V.objs, List.mem_append] at ho
    rcases ho with ho | ho
    · obtain ⟨c, hc', ho⟩ := mem_objsL' ho
      obtain ⟨x, hx, rfl⟩ := List.mem_map.1 hc'
      exact e x (by simp [hx]) o ho
    · obtain ⟨c, hc', ho⟩ := mem_objsL' ho
      obtain ⟨x, hx, rfl⟩ := List.mem_map.1 hc'
      exact e x (by simp [hx]) o ho
  case mkiface ty x =>
    have h' : eff = .ret (.iface ty (ev t x)) := by
      generalize ev t x = v at h
      cases v <;> first | (cases h; done) | (simp at h; exact h.symm)
    subst h'
    exact fun o ho => e o (by simpa [V.objs] using ho)
  case mkslice s z sz by' l c =>
    split at h
    · split at h
      · split at h
        · split at h
          · split at h
            · refine mkA_in h (arr_in fun v hv => ?_) fun v => inV_view (st s)
              obtain ⟨l', hl', hv⟩ := List.mem_flatten.1 hv
              rw [List.eq_of_mem_replicate hl'] at hv
              exact inL_free hz v hv
            · cases h
          · cases h
        · cases h
      · cases h
    · cases h
  case slA n s x lo hi mx =>
    split at h
    · rename_i o ver off hx
      have ho : S o := by have := e.1; rw [hx] at this; exact this o (by simp [V.objs])
      split at h
      · simp only [Option.map_eq_some_iff] at h
        obtain ⟨⟨l, k, m⟩, -, rfl⟩ := h
        exact inV_view ho
      · cases h
    · rename_i cs off hx
      have hcs : InL S cs := by have := e.1; rw [hx] at this; exact this.iptr'
      simp only [Option.bind_eq_some_iff] at h
      obtain ⟨⟨l, k, m⟩, -, h⟩ := h
      simp only at h
      split at h
      · split at h
        · cases h
          exact .sl (inL_chunks hcs _ _ _)
        · cases h
      · cases h
    · cases h
  case slS s x lo hi mx =>
    simp only [Option.map_eq_some_iff] at h
    obtain ⟨v, hv, rfl⟩ := h
    exact sliceA_in e.1 hv
  case slStr x lo hi =>
    split at h
    · simp only [Option.map_eq_some_iff] at h
      obtain ⟨⟨l, k, m⟩, -, rfl⟩ := h
      exact inV_nil rfl
    · cases h
  case faddr off x =>
    split at h
    · rename_i o v f hx; cases h; rw [hx] at e; exact inV_ptr (e o (by simp [V.objs]))
    · rename_i c f hx; cases h; rw [hx] at e; exact .iptr e.iptr'
    · cases h
  case field ag off x =>
    split at h
    · rename_i cs hx
      rw [hx] at e
      split at h
      · simp only [Option.map_eq_some_iff] at h
        obtain ⟨v, hv, rfl⟩ := h
        exact inV_pack ((e.agg'.drop _).take _) hv
      · cases h
    · cases h
  case iaddrA n s x i =>
    simp only [Option.bind_eq_some_iff] at h
    obtain ⟨j, -, h⟩ := h
    split at h
    · rename_i o v f hx; cases h; rw [hx] at e; exact inV_ptr (e.1 o (by simp [V.objs]))
    · rename_i c f hx; cases h; rw [hx] at e; exact .iptr e.1.iptr'
    · cases h
  case iaddrS s x i =>
    unfold iaddrSA at h
    split at h
    · rename_i o ver off len s' cap hx
      split at h
      · simp only [Option.map_eq_some_iff] at h
        obtain ⟨j, -, rfl⟩ := h
        rw [hx] at e
        exact inV_ptr (e.1 o (by simp [V.objs]))
      · cases h
    · rename_i L s' cap hx
      split at h
      · simp only [Option.bind_eq_some_iff, Option.map_eq_some_iff] at h
        obtain ⟨j, -, c, hcj, rfl⟩ := h
        rw [hx] at e
        exact .iptr (e.1.sl' c (List.mem_of_getElem? hcj)).cells
      · cases h
    · cases h
  case indexA n s ag x i =>
    simp only [Option.bind_eq_some_iff] at h
    obtain ⟨j, -, h⟩ := h
    split at h
    · rename_i cs hx
      rw [hx] at e
      split at h
      · simp only [Option.map_eq_some_iff] at h
        obtain ⟨v, hv, rfl⟩ := h
        exact inV_pack ((e.1.agg'.drop _).take _) hv
      · cases h
    · cases h
  case indexStr x i =>
    split at h
    · simp only [Option.bind_eq_some_iff, Option.map_eq_some_iff] at h
      obtain ⟨j, -, c, -, rfl⟩ := h
      exact inV_nil rfl
    · cases h
  case extract x i =>
    split at h
    · rename_i vs hx
      rw [hx] at e
      simp only [Option.map_eq_some_iff] at h
      obtain ⟨v, hv, rfl⟩ := h
      exact e.tup' v (List.mem_of_getElem? hv)
    · cases h
  case lenS x =>
    split at h
    · cases h
    · simp only [Option.map_eq_some_iff] at h
      obtain ⟨n, -, rfl⟩ := h
      exact inV_nil rfl
  case lenStr x => split at h <;> cases h; exact inV_nil rfl
  case lenK n => cases h; exact inV_nil rfl
  case append s sz b x y => exact appendA_in hg (st s) e.1 e.2 h
  case copy s x y => exact copyA_in hg e.1 e.2 h
  case call => cases h
  case callv => cases h
  case minmax mx xs =>
    split at h
    · rename_i a rest hm
      simp only [Option.map_eq_some_iff] at h
      obtain ⟨v, hv, rfl⟩ := h
      refine fold_mm ?_ hv
      have : a ∈ xs.map (ev t) := by rw [hm]; simp
      obtain ⟨x, hx, rfl⟩ := List.mem_map.1 this
      exact e x hx
    · cases h
  case clearS s z x =>
    unfold clearA at h
    split at h
    · cases h; exact inV_nil rfl
    · cases h; exact inV_nil rfl
    · cases h; exact inV_nil rfl
    · split at h
      · cases h; exact inV_nil rfl
      · split at h
        · refine storeA_in hg h (fun v hv => ?_) (inV_nil rfl)
          obtain ⟨l', hl', hv⟩ := List.mem_flatten.1 hv
          rw [List.eq_of_mem_replicate hl'] at hv
          exact inL_free hz v hv
        · cases h
    · cases h
  case bnew s row len sz ps =>
    split at h
    · rename_i cs hf
      refine mkA_in h (arr_in (inL_fill (inL_free hz) (fun p hp => ?_) hf)) fun v => inV_view (st s)
      obtain ⟨q, hq, rfl⟩ := List.mem_map.1 hp
      exact e _ (List.mem_map.2 ⟨q, hq, rfl⟩)
    · cases h
  case mark x =>
    split at h
    · rename_i o ver off len sz cap hx
      split at h
      · cases h; rw [hx] at e; exact e
      · cases h
    · cases h
  case s2ap n s x =>
    simp only [Option.map_eq_some_iff] at h
    obtain ⟨v, hv, rfl⟩ := h
    unfold s2apA at hv
    split at hv
    · rename_i o ver off len s' cap hx
      split at hv
      · split at hv
        · cases hv; rw [hx] at e; exact inV_ptr (e o (by simp [V.objs]))
        · cases hv
      · cases hv
    · rename_i L s' cap hx
      split at hv
      · split at hv
        · cases hv; rw [hx] at e; exact .iptr (inL_flat (e.sl'.take _))
        · cases hv
      · cases hv
    · cases hv
  case mkmap s => exact mkA_in h (map_in fun e he => by cases he) fun v => inV_map (st s)
  case mget ag ks z ok m k =>
    simp only [Option.map_eq_some_iff] at h
    obtain ⟨v, hv, rfl⟩ := h
    have hzv : InV S z := inV_free hz
    unfold mgetA at hv
    split at hv
    · cases hv
    · split at hv
      · split at hv <;> cases hv; exact okV_in hzv
      · split at hv
        · cases hv
        · rename_i es hes
          split at hv
          · split at hv
            · rename_i y hy
              cases hv
              exact okV_in (mapAt_in hg hes y (List.mem_of_find?_eq_some hy)).2
            · cases hv; exact okV_in hzv
          · cases hv
      · cases hv
  case mput ag ks m k v =>
    unfold mputA at h
    split at h
    · cases h
    · split at h
      · split at h
        · cases h
        · rename_i es hes
          split at h
          · cases h
            refine ⟨inV_nil rfl, map_in ?_, rfl⟩
            have hm := mapAt_in hg hes
            unfold mputL
            split
            · intro x hx
              obtain ⟨y, hy, rfl⟩ := List.mem_map.1 hx
              split
              · exact ⟨e.2.1, e.2.2⟩
              · exact hm y hy
            · intro x hx
              rcases List.mem_append.1 hx with hx | hx
              · exact hm x hx
              · obtain rfl := List.mem_singleton.1 hx; exact ⟨e.2.1, e.2.2⟩
          · cases h
      · cases h
  case mdel ag ks m k =>
    unfold mdelA at h
    split at h
    · cases h
    · split at h
      · split at h <;> cases h; exact inV_nil rfl
      · split at h
        · cases h
        · rename_i es hes
          split at h
          · cases h
            exact ⟨inV_nil rfl, map_in fun x hx => mapAt_in hg hes x (List.mem_filter.1 hx).1, rfl⟩
          · cases h
      · cases h
  case mclear m =>
    unfold mclearA at h
    split at h
    · cases h; exact inV_nil rfl
    · split at h
      · cases h
      · cases h; exact ⟨inV_nil rfl, map_in (fun e he => by cases he), rfl⟩
    · cases h
  case mlen m =>
    simp only [Option.map_eq_some_iff] at h
    obtain ⟨v, hv, rfl⟩ := h
    unfold mlenA at hv
    split at hv
    · cases hv; exact inV_nil rfl
    · simp only [Option.map_eq_some_iff] at hv
      obtain ⟨es, -, rfl⟩ := hv
      exact inV_nil rfl
    · cases hv
  case stuck => cases h
end
end Go.Am


set_option linter.unusedVariables false
set_option linter.unusedSimpArgs false
namespace Go.Am
structure Good (S : Nat → Prop) (n0 : Nat) (h : Heap) : Prop where
  names : InG S (fun o => h[o]?)
  base : ∀ (o v st : Nat) pd t fb f k, h[o]? = some ⟨v, .loop st pd t fb f k⟩ → n0 ≤ fb
  len : n0 ≤ h.length
section
variable {S : Nat → Prop} {n0 : Nat}
theorem Good.set {h : Heap} (H : Good S n0 h) {o : Nat} {x : Ob} (hx : ∀ i ∈ x.bd.objs, S i) (hl : ∀ st pd t fb f k, x.bd = .loop st pd t fb f k → n0 ≤ fb) : Good S n0 (h.set o x) := by
  refine ⟨fun i y hy => ?_, fun i v st pd t fb f k hy => ?_, by rw [List.length_set]; exact H.len⟩
  · simp only [List.getElem?_set] at hy
    split at hy
    · split at hy
      · cases hy; exact hx
      · cases hy
    · exact H.names i y hy
  · simp only [List.getElem?_set] at hy
    split at hy
    · split at hy
      · cases hy; exact hl _ _ _ _ _ _ rfl
      · cases hy
    · exact H.base i v st pd t fb f k hy
theorem Good.setP {h : Heap} (H : Good S n0 h) {o : Nat} {x : Ob} (hx : ∀ i ∈ x.bd.objs, S i) (hl : x.bd.plainBd = true) : Good S n0 (h.set o x) :=
  H.set hx fun st pd t fb f k e => by rw [e] at hl; cases hl
theorem Good.dead {h : Heap} (H : Good S n0 h) {o v : Nat} : Good S n0 (h.set o ⟨v, .dead⟩) := H.setP (fun i hi => by cases hi) rfl
theorem Good.app {h : Heap} (H : Good S n0 h) (n : Nat) : Good S n0 (h ++ deads n) := by
  refine ⟨fun i y hy => ?_, fun i v st pd t fb f k hy => ?_, by have := H.len; simp; omega⟩
  · simp only at hy
    rcases Nat.lt_or_ge i h.length with hl | hl
    · rw [List.getElem?_append_left hl] at hy; exact H.names i y hy
    · rw [List.getElem?_append_right hl] at hy
      obtain rfl := List.eq_of_mem_replicate (List.mem_of_getElem? hy)
      intro j hj; cases hj
  · rcases Nat.lt_or_ge i h.length with hl | hl
    · rw [List.getElem?_append_left hl] at hy; exact H.base i v st pd t fb f k hy
    · rw [List.getElem?_append_right hl] at hy
      have := List.eq_of_mem_replicate (List.mem_of_getElem? hy)
      cases this
def CallIn (S : Nat → Prop) (n0 : Nat) (call : Caller) : Prop := ∀ f args h v h', InL S args → Good S n0 h → call f args h = some (v, h') → InV S v ∧ Good S n0 h'
theorem InL.put {t : List V} (h : InL S t) {d : Option Nat} {v : V} (hv : InV S v) : InL S (put t d v) := by
  cases d with
  | none => exact h
  | some d =>
    intro u hu
    rcases List.mem_or_eq_of_mem_set hu with hu | rfl
    · exact h u hu
    · exact hv
theorem InL.clear {t : List V} : ∀ (l : List Nat), InL S t → InL S (clear l t) := by
  intro l
  induction l generalizing t with
  | nil => exact fun h => h
  | cons i l ih => exact fun h => ih (h.put (d := some i) (v := .junk) (inV_nil rfl))
theorem Good.kill {h : Heap} (fb : Nat) : ∀ (l : List Nat), Good S n0 h → Good S n0 (killA fb l h) := by
  intro l
  induction l generalizing h with
  | nil => exact fun H => H
  | cons i l ih =>
    intro H
    unfold killA
    simp only [List.foldl_cons]
    split
    · exact ih H.dead
    · exact ih H
variable (hS : ∀ i, n0 ≤ i → S i)
theorem opds_in {t : List V} (ht : InL S t) {xs : List Opd} (hx : ∀ x ∈ xs, cleanO x = true) : InL S (xs.map (ev t)) := fun v hv => by
  obtain ⟨x, hx', rfl⟩ := List.mem_map.1 hv
  exact inV_ev ht (hx x hx')
include hS in
theorem stepOp_in {call : Caller} (hcall : CallIn S n0 call) {fb : Nat} (hfb : n0 ≤ fb) {o : AOper} (hc : o.op.clean = true) {t : List V} {h : Heap} (ht : InL S t) (H : Good S n0 h) {t' : List V} {h' : Heap} (hr : stepOp call fb o t h = some (t', h')) : InL S t' ∧ Good S n0 h' := by
  unfold stepOp at hr
  split at hr
  · cases hr
  · cases hr; exact ⟨ht.put (inV_nil rfl), H⟩
  · split at hr
    case h_2 => cases hr
    rename_i v h1 hd
    cases hr
    suffices q : InV S v ∧ Good S n0 h' from ⟨ht.put q.1, q.2⟩
    have hcl := hc
    unfold AOp.clean at hcl
    simp only [Bool.and_eq_true, List.all_eq_true] at hcl
    have hopd := hcl.1
    unfold doOp at hd
    split at hd
    · rename_i f args hop
      rw [hop] at hopd
      split at hd
      · cases hd
      · exact hcall _ _ _ _ _ (opds_in ht fun x hx => hopd x hx) H hd
    · rename_i f args hop
      rw [hop] at hopd
      have hf := inV_ev ht (hopd f (by simp [AOp.opds]))
      have ha := opds_in (S := S) ht (xs := args) fun x hx => hopd x (by simp [AOp.opds, hx])
      split at hd
      · rename_i g xs ys hv
        rw [hv] at hf
        split at hd
        · cases hd
        · refine hcall _ _ _ _ _ (((inL_iff.2 fun i hi => hf i (by simp [V.objs, hi])).app ha).app (inL_iff.2 fun i hi => hf i (by simp [V.objs, hi]))) H hd
      · rename_i oo ver hv
        rw [hv] at hf
        exact hcall _ _ _ _ _ (.cons hf ha) H hd
      · cases hd
    · split at hd
      · rename_i hp
        cases hd
        exact ⟨prim_in ht H.names (fun i hi => hS i (by omega)) hc hp, H⟩
      · rename_i i x v' hp
        cases hd
        have := prim_in ht H.names (fun i hi => hS i (by omega)) hc hp
        exact ⟨this.1, H.setP this.2.1 this.2.2⟩
      · cases hd
include hS in
theorem runOps_in {call : Caller} (hcall : CallIn S n0 call) {fb : Nat} (hfb : n0 ≤ fb) : ∀ {ops : List AOper} (hc : ∀ o ∈ ops, o.op.clean = true) {t : List V} {h : Heap} (ht : InL S t) (H : Good S n0 h) {t' : List V} {h' : Heap} (hr : runOps call fb ops t h = some (t', h')), InL S t' ∧ Good S n0 h'
  | [], _, t, h, ht, H, t', h', hr => by simp only [runOps, Option.some.injEq, Prod.mk.injEq] at hr; obtain ⟨rfl, rfl⟩ := hr; exact ⟨ht, H⟩
  | o :: os, hc, t, h, ht, H, t', h', hr => by
    simp only [runOps] at hr
    split at hr
    · rename_i t1 h1 hs
      obtain ⟨a, b⟩ := stepOp_in hS hcall hfb (hc o (by simp)) ht H hs
      exact runOps_in hcall hfb (fun o ho => hc o (by simp [ho])) a b hr
    · cases hr
include hS in
theorem runDraw_in {pureF : FuncId → FMode} {call : Caller} (hcall : CallIn S n0 call) {fb n : Nat} (hfb : n0 ≤ fb) : ∀ {ops : List (AOper × List Nat)} (hc : ∀ o ∈ ops, o.1.op.clean = true) {fps : List FpT} {t : List V} {h : Heap} (ht : InL S t) (H : Good S n0 h) {t' : List V} {h' : Heap} (hr : runDraw pureF call fb n ops fps t h = some (t', h')), InL S t' ∧ Good S n0 h'
  | [], _, fps, t, h, ht, H, t', h', hr => by simp only [runDraw, Option.some.injEq, Prod.mk.injEq] at hr; obtain ⟨rfl, rfl⟩ := hr; exact ⟨ht, H⟩
  | (o, ps) :: os, hc, fps, t, h, ht, H, t', h', hr => by
    simp only [runDraw] at hr
    split at hr
    · split at hr
      · rename_i t1 h1 hs
        obtain ⟨a, b⟩ := stepOp_in hS hcall hfb (hc (o, ps) (by simp)) ht H hs
        exact runDraw_in hcall hfb (fun o ho => hc o (by simp [ho])) a b hr
      · cases hr
    · cases hr
theorem keepOnly_good {R : List Nat} {h : Heap} (H : Good S n0 h) : Good S n0 (keepOnly R h) := by
  refine ⟨fun o x hx => ?_, fun o v st pd t fb f k hx => ?_, by rw [keepOnly_length]; exact H.len⟩
  · simp only at hx
    rw [keepOnly_get] at hx
    simp only [Option.map_eq_some_iff] at hx
    obtain ⟨y, hy, rfl⟩ := hx
    split
    · exact H.names o y hy
    · intro i hi; cases hi
  · rw [keepOnly_get] at hx
    simp only [Option.map_eq_some_iff] at hx
    obtain ⟨y, hy, hx⟩ := hx
    split at hx
    · subst hx; exact H.base o v st pd t fb f k hy
    · cases hx
theorem frameC_in {pureF : FuncId → FMode} {call : Caller} (hcall : CallIn S n0 call) : CallIn S n0 (frameC pureF call) := by
  intro f args h v h' ha H hr
  unfold frameC at hr
  split at hr
  · split at hr
    · rename_i e
      split at hr
      · cases hr; exact hcall _ _ _ _ _ ha H e
      · cases hr
    · cases hr
  · split at hr
    · exact hcall _ _ _ _ _ ha H hr
    · split at hr
      · exact hcall _ _ _ _ _ ha H hr
      · cases hr
    · split at hr
      · rename_i v1 h1 e1 e2
        split at hr
        · rename_i hok
          cases hr
          obtain ⟨q1, q2⟩ := hcall _ _ _ _ _ ha (keepOnly_good H) e2
          have hle : h.length ≤ h1.length := by
            simp only [Bool.and_eq_true, decide_eq_true_eq] at hok
            exact hok.1.1
          refine ⟨q1, ⟨fun o x hx => ?_, fun o v st pd t fb f k hx => ?_, by rw [mergeH_length]; exact q2.len⟩⟩
          · simp only at hx
            rw [mergeH_get] at hx
            simp only [Option.map_eq_some_iff] at hx
            obtain ⟨y, hy, rfl⟩ := hx
            split
            · exact q2.names o y hy
            · rename_i hin
              have hlt : o < h.length := by simp [inside] at hin; omega
              have : h.getD o y = h[o] := by simp [List.getD_eq_getElem?_getD, hlt]
              rw [this]
              exact H.names o _ (List.getElem?_eq_getElem hlt)
          · rw [mergeH_get] at hx
            simp only [Option.map_eq_some_iff] at hx
            obtain ⟨y, hy, hx⟩ := hx
            split at hx
            · subst hx; exact q2.base o v st pd t fb f k hy
            · rename_i hin
              have hlt : o < h.length := by simp [inside] at hin; omega
              have : h.getD o y = h[o] := by simp [List.getD_eq_getElem?_getD, hlt]
              rw [this] at hx
              exact H.base o v st pd t fb f k (by rw [List.getElem?_eq_getElem hlt, hx])
        · cases hr
      · cases hr
def ACode.clean : ACode → Bool
  | .region ops => ops.all fun o => o.op.clean
  | .draw ops => ops.all fun x => x.1.op.clean
  | .seq a b => a.clean && b.clean
  | .cond c a b => cleanO c && (a.clean && b.clean)
  | .block _ b | .loop _ _ b | .fresh _ b => b.clean
  | .rangeF f _ a b _ _ _ => cleanO f && (a.clean && b.clean)
  | _ => true
theorem loopN_in {f : List V → Heap → Option (Ex × List V × Heap)} {pre : List V → Heap → List V × Heap} (hf : ∀ t h e t' h', InL S t → Good S n0 h → f t h = some (e, t', h') → InL S t' ∧ Good S n0 h') (hp : ∀ t h, InL S t → Good S n0 h → InL S (pre t h).1 ∧ Good S n0 (pre t h).2) :
    ∀ (n : Nat) {t : List V} {h : Heap} {e : Ex} {t' : List V} {h' : Heap}, InL S t → Good S n0 h → loopN f pre n t h = some (e, t', h') → InL S t' ∧ Good S n0 h'
  | 0, t, h, e, t', h', _, _, hr => by simp [loopN] at hr
  | n + 1, t, h, e, t', h', ht, H, hr => by
    simp only [loopN] at hr
    obtain ⟨p1, p2⟩ := hp t h ht H
    split at hr
    · rename_i t1 h1 he
      obtain ⟨a, b⟩ := hf _ _ _ _ _ p1 p2 he
      exact loopN_in hf hp n a b hr
    · exact hf _ _ _ _ _ p1 p2 hr
include hS in
theorem exec_in {pureF : FuncId → FMode} {call : Caller} (hcall : CallIn S n0 call) {N : Nat} : ∀ (c : ACode) (hc : c.clean = true) {fb : Nat} (hfb : n0 ≤ fb) {t : List V} {h : Heap} (ht : InL S t) (H : Good S n0 h) {e : Ex} {t' : List V} {h' : Heap} (hr : exec pureF call N fb c t h = some (e, t', h')), InL S t' ∧ Good S n0 h' := by
  intro c
  induction c with
  | skip => intro _ fb _ t h ht H e t' h' hr; simp only [exec, Option.some.injEq, Prod.mk.injEq] at hr; obtain ⟨-, rfl, rfl⟩ := hr; exact ⟨ht, H⟩
  | region ops =>
    intro hc fb hfb t h ht H e t' h' hr
    simp only [exec] at hr
    split at hr
    · rename_i t1 h1 he
      simp only [Option.some.injEq, Prod.mk.injEq] at hr
      obtain ⟨-, rfl, rfl⟩ := hr
      exact runOps_in hS hcall hfb (List.all_eq_true.1 hc) ht H he
    · cases hr
  | draw ops =>
    intro hc fb hfb t h ht H e t' h' hr
    simp only [exec] at hr
    split at hr
    · rename_i t1 h1 he
      simp only [Option.some.injEq, Prod.mk.injEq] at hr
      obtain ⟨-, rfl, rfl⟩ := hr
      exact runDraw_in hS (frameC_in hcall) hfb (List.all_eq_true.1 hc) ht H he
    · cases hr
  | seq a b iha ihb =>
    intro hc fb hfb t h ht H e t' h' hr
    simp only [ACode.clean, Bool.and_eq_true] at hc
    simp only [exec] at hr
    split at hr
    · rename_i t1 h1 he
      obtain ⟨q1, q2⟩ := iha hc.1 hfb ht H he
      exact ihb hc.2 hfb q1 q2 hr
    · exact iha hc.1 hfb ht H hr
  | cond x a b iha ihb =>
    intro hc fb hfb t h ht H e t' h' hr
    simp only [ACode.clean, Bool.and_eq_true] at hc
    simp only [exec] at hr
    split at hr
    · exact iha hc.2.1 hfb ht H hr
    · exact ihb hc.2.2 hfb ht H hr
    · cases hr
  | block id b ih =>
    intro hc fb hfb t h ht H e t' h' hr
    simp only [exec] at hr
    split at hr
    · rename_i i t1 h1 he
      obtain ⟨q1, q2⟩ := ih hc hfb ht H he
      split at hr <;> (simp only [Option.some.injEq, Prod.mk.injEq] at hr; obtain ⟨-, rfl, rfl⟩ := hr; exact ⟨q1, q2⟩)
    · exact ih hc hfb ht H hr
  | loop clr kill b ih =>
    intro hc fb hfb t h ht H e t' h' hr
    simp only [exec] at hr
    exact loopN_in (fun t h e t' h' ht H hr => ih hc hfb ht H hr) (fun t h ht H => ⟨ht.clear clr, H.kill fb kill⟩) N ht H hr
  | exit id => intro _ fb _ t h ht H e t' h' hr; simp only [exec, Option.some.injEq, Prod.mk.injEq] at hr; obtain ⟨-, rfl, rfl⟩ := hr; exact ⟨ht, H⟩
  | ret => intro _ fb _ t h ht H e t' h' hr; simp only [exec, Option.some.injEq, Prod.mk.injEq] at hr; obtain ⟨-, rfl, rfl⟩ := hr; exact ⟨ht, H⟩
  | clr l => intro _ fb _ t h ht H e t' h' hr; simp only [exec, Option.some.injEq, Prod.mk.injEq] at hr; obtain ⟨-, rfl, rfl⟩ := hr; exact ⟨ht.clear l, H⟩
  | fresh n b ih =>
    intro hc fb hfb t h ht H e t' h' hr
    simp only [exec] at hr
    exact ih hc (fb := h.length) H.len ht (H.app n) hr
  | rangeF f ps a b fid k site iha ihb =>
    intro hc fb hfb t h ht H e t' h' hr
    simp only [ACode.clean, Bool.and_eq_true] at hc
    simp only [exec] at hr
    split at hr
    case h_2 => cases hr
    rename_i x hx
    split at hr
    case h_2 => cases hr
    rename_i g xs ys hv
    have hf := inV_ev ht hc.1
    rw [hv] at hf
    split at hr
    · cases hr
    split at hr
    case h_2 => cases hr
    rename_i v h2 hcl
    have hyl : InV S (.yld (fb + site) (x.ver + 1)) := fun i hi => by simp [V.objs] at hi; subst hi; exact hS _ (by omega)
    obtain ⟨-, q2⟩ := hcall _ _ _ _ _ (((inL_iff.2 fun i hi => hf i (by simp [V.objs, hi])).app (.cons hyl inL_nil)).app (inL_iff.2 fun i hi => hf i (by simp [V.objs, hi])))
      (H.set (x := ⟨x.ver + 1, .loop 0 none t fb fid k⟩) (fun i hi => inL_iff.1 ht i hi) (fun st pd t' fb' f' k' e => by cases e; exact hfb)) hcl
    split at hr
    · split at hr
      · split at hr
        · cases hr
        · simp only [Option.some.injEq, Prod.mk.injEq] at hr
          obtain ⟨-, rfl, rfl⟩ := hr
          exact ⟨ht, q2.dead⟩
      · cases hr
    · cases hr
theorem ranges_clean : ∀ (c : ACode), c.clean = true → ∀ r ∈ rangesA c, r.2.1.clean = true ∧ r.2.2.clean = true
  | .skip, _, r, h | .region _, _, r, h | .draw _, _, r, h | .exit _, _, r, h | .ret, _, r, h | .clr _, _, r, h => by simp [rangesA] at h
  | .seq a b, hc, r, h => by
    simp only [ACode.clean, Bool.and_eq_true] at hc
    simp only [rangesA, List.mem_append] at h
    rcases h with h | h
    · exact ranges_clean a hc.1 r h
    · exact ranges_clean b hc.2 r h
  | .cond _ a b, hc, r, h => by
    simp only [ACode.clean, Bool.and_eq_true] at hc
    simp only [rangesA, List.mem_append] at h
    rcases h with h | h
    · exact ranges_clean a hc.2.1 r h
    · exact ranges_clean b hc.2.2 r h
  | .block _ b, hc, r, h => ranges_clean b hc r (by simpa [rangesA] using h)
  | .loop _ _ b, hc, r, h => ranges_clean b hc r (by simpa [rangesA] using h)
  | .fresh _ b, hc, r, h => ranges_clean b hc r (by simpa [rangesA] using h)
  | .rangeF _ ps a b _ _ _, hc, r, h => by
    simp only [ACode.clean, Bool.and_eq_true] at hc
    simp only [rangesA, List.mem_cons, List.mem_append] at h
    rcases h with rfl | h | h
    · exact hc.2
    · exact ranges_clean a hc.2.1 r h
    · exact ranges_clean b hc.2.2 r h
def cleanP (p : AProg) : Bool := p.all fun | some f => f.body.clean | none => true
theorem cleanP_get {p : AProg} (h : cleanP p = true) {f : FuncId} {af : AFunc} (hf : p[f]? = some (some af)) : af.body.clean = true := by
  have := List.all_eq_true.1 h _ (List.mem_of_getElem? hf)
  exact this
theorem mapM_shutF {f : V → Option V} (hf : ∀ a b, f a = some b → b.free = true) : ∀ {l l' : List V}, l.mapM f = some l' → V.freeL l' = true
  | [], l', h => by simp at h; subst h; rfl
  | x :: l, l', h => by
    simp only [List.mapM_cons, Option.bind_eq_bind, Option.bind_eq_some_iff, Option.pure_def, Option.some.injEq] at h
    obtain ⟨y, hy, l2, hl, rfl⟩ := h
    simp only [V.freeL, hf _ _ hy, mapM_shutF hf hl, Bool.and_self]
theorem shut_is_free {get : Nat → Option Ob} : ∀ (d : Nat) (v v' : V), V.shut get d v = some v' → v'.free = true
  | 0, v, v', h => by simp [V.shut] at h
  | d + 1, v, v', h => by
    have ih := shut_is_free (get := get) d
    unfold V.shut at h
    split at h
    · rename_i hf; cases h; exact hf
    split at h
    · split at h
      · split at h
        · rename_i cs hm
          split at h
          · cases h
            have hfr := mapM_shutF ih hm
            refine freeL_of fun c hc => ?_
            obtain ⟨i, -, rfl⟩ := List.mem_map.1 hc
            refine wrapV_free fun c hc => ?_
            exact freeL_mem hfr c (List.mem_of_mem_drop (List.mem_of_mem_take hc))
          · cases h
        · cases h
      · cases h
    · split at h <;> cases h; rfl
    · simp only [Option.map_eq_some_iff] at h; obtain ⟨cs, hm, rfl⟩ := h; exact mapM_shutF ih hm
    · simp only [Option.map_eq_some_iff] at h; obtain ⟨cs, hm, rfl⟩ := h; exact mapM_shutF ih hm
    · simp only [Option.map_eq_some_iff] at h; obtain ⟨x, hm, rfl⟩ := h; show x.free = true; exact ih _ _ hm
    · split at h
      · simp only [Option.map_eq_some_iff] at h; obtain ⟨cs, hm, rfl⟩ := h; exact mapM_shutF ih hm
      · cases h
    · split at h
      · rename_i xs' ys' h1 h2
        cases h
        show (V.freeL xs' && V.freeL ys') = true
        rw [mapM_shutF ih h1, mapM_shutF ih h2]; rfl
      · cases h
    · cases h
mutual
theorem plain_free : ∀ (v : V), v.plain = true → v.free = true
  | .bool _, _ | .int .., _ | .str _, _ | .nilp, _ | .nils, _ | .nilm, _ | .nilf, _ | .nili, _ => rfl
  | .agg cs, h => plainL_free cs (by simpa [V.plain] using h)
  | .tup cs, h => plainL_free cs (by simpa [V.plain] using h)
  | .iface _ v, h => plain_free v (by simpa [V.plain] using h)
  | .junk, h | .ptr .., h | .iptr .., h | .view .., h | .vend .., h | .sl .., h | .map .., h | .func .., h | .yld .., h => by simp [V.plain] at h
  termination_by structural v => v
theorem plainL_free : ∀ (l : List V), V.plainL l = true → V.freeL l = true
  | [], _ => rfl
  | v :: l, h => by
    simp only [V.plainL, Bool.and_eq_true] at h
    simp only [V.freeL, plain_free v h.1, plainL_free l h.2, Bool.and_self]
  termination_by structural l => l
end
theorem resA_in {get : Nat → Option Ob} (hg : InG S get) {t : List V} (ht : InL S t) : ∀ {rs : List ARes} {vs : List V}, resA get t rs = some vs → InL S vs
  | [], vs, h => by simp [resA] at h; subst h; exact inL_nil
  | r :: rs, vs, h => by
    simp only [resA] at h
    split at h
    · rename_i v vs' h1 h2
      cases h
      refine .cons ?_ (resA_in hg ht h2)
      have hd : ∀ i, InV S (t.getD i .junk) := fun i => by
        have := inV_ev (S := S) ht (x := .tmp i) rfl
        exact this
      cases r with
      | tmp i => simp only [resA1, Option.some.injEq] at h1; subst h1; exact hd i
      | cell i ag =>
        simp only [resA1, Option.bind_eq_some_iff] at h1
        obtain ⟨cs, hl, hp⟩ := h1
        exact inV_pack (inL_loadA hg (hd i) hl) hp
    · cases h
theorem packR_in {vs : List V} (h : InL S vs) : InV S (packR vs) := by
  unfold packR
  split
  · exact h _ (by simp)
  · exact .tup h
include hS in
theorem bodyA_in {p : AProg} (hp : cleanP p = true) {call : Caller} (hcall : CallIn S n0 call) {N fb : Nat} (hfb : n0 ≤ fb) {f : FuncId} {fn : AFunc} (hfn : p[f]? = some (some fn)) {args : List V} {h : Heap} (ha : InL S args) (H : Good S n0 h) {v : V} {h' : Heap}
    (hr : bodyA p call N fb fn args h = some (v, h')) : InV S v ∧ Good S n0 h' := by
  have hc := cleanP_get hp hfn
  have ht : InL S (args ++ List.replicate (fn.nt - args.length) .junk) := ha.app fun v hv => by
    rw [List.eq_of_mem_replicate hv]; exact inV_nil rfl
  unfold bodyA at hr
  split at hr
  · rename_i t1 h1 he
    split at hr
    · rename_i vs hres
      cases hr
      obtain ⟨q1, q2⟩ := exec_in hS hcall _ hc hfb ht H he
      exact ⟨packR_in (resA_in q2.names q1 hres), q2⟩
    · cases hr
  · rename_i t1 h1 he
    split at hr
    · rename_i vs hres
      cases hr
      obtain ⟨q1, q2⟩ := exec_in hS hcall _ hc hfb ht H he
      exact ⟨packR_in (resA_in q2.names q1 hres), q2⟩
    · cases hr
  · cases hr
theorem setPs_in : ∀ (ps : List Nat) (xs : List V) {t : List V}, InL S t → InL S xs → InL S (setPs ps xs t)
  | [], xs, t, ht, _ => by simp [setPs]; exact ht
  | p :: ps, [], t, ht, _ => by simp [setPs]; exact ht
  | p :: ps, x :: xs, t, ht, hx => by
    have := setPs_in ps xs (ht.put (d := some p) (hx x (by simp))) (fun v hv => hx v (by simp [hv]))
    simpa [setPs, put] using this
include hS in
theorem yieldA_in {p : AProg} (hp : cleanP p = true) {call : Caller} (hcall : CallIn S n0 call) {N : Nat} {args : List V} {h : Heap} (ha : InL S args) (H : Good S n0 h) {v : V} {h' : Heap} (hr : yieldA p call N args h = some (v, h')) : InV S v ∧ Good S n0 h' := by
  unfold yieldA at hr
  split at hr
  case h_2 => cases hr
  rename_i o ver xs
  split at hr
  case h_2 => cases hr
  rename_i v0 st0 pd0 t fb f k hx
  have hfb := H.base _ _ _ _ _ _ _ _ hx
  have ht : InL S t := inL_iff.2 fun i hi => H.names o _ hx i hi
  split at hr
  case isFalse => cases hr
  split at hr
  case h_2 => cases hr
  rename_i af haf
  split at hr
  case h_2 => cases hr
  rename_i ps asn body hrg
  obtain ⟨c1, c2⟩ := ranges_clean _ (cleanP_get hp haf) _ (List.mem_of_getElem? hrg)
  split at hr
  case isFalse => cases hr
  split at hr
  case h_2 => cases hr
  rename_i t1 h1 he
  obtain ⟨q1, q2⟩ := exec_in hS hcall _ c1 hfb (setPs_in ps xs ht (fun v hv => ha v (by simp [hv]))) H he
  split at hr
  case h_2 => cases hr
  rename_i v1 p1 t2 fb2 f2 k2 hx1
  split at hr
  case isFalse => cases hr
  split at hr
  case h_2 => cases hr
  rename_i x t1' h2 he2
  obtain ⟨q3, q4⟩ := exec_in hS hcall _ c2 hfb q1 (q2.set (x := ⟨ver, .loop 1 p1 t2 fb2 f2 k2⟩) (fun i hi => q2.names o _ hx1 i hi) (fun st pd t' fb' f' k' e => by cases e; exact q2.base _ _ _ _ _ _ _ _ hx1)) he2
  split at hr
  case h_2 => cases hr
  rename_i v2 st2 pd2 t3 fb3 f3 k3 hx2
  split at hr
  case isFalse => cases hr
  have fin : ∀ st pd, Good S n0 (h2.set o ⟨ver, .loop st pd t3 fb3 f3 k3⟩) := fun st pd => q4.set (fun i hi => q4.names o _ hx2 i hi) (fun st pd t' fb' f' k' e => by cases e; exact q4.base _ _ _ _ _ _ _ _ hx2)
  split at hr <;> (cases hr; exact ⟨inV_nil rfl, fin _ _⟩)
include hS in
theorem callA_in {p : AProg} (hp : cleanP p = true) (N : Nat) : ∀ n, CallIn S n0 (callA p N n)
  | 0, f, args, h, v, h', _, _, hr => by simp [callA] at hr
  | n + 1, f, args, h, v, h', ha, H, hr => by
    have ih := callA_in hp N n
    unfold callA at hr
    split at hr
    · exact yieldA_in hS hp ih ha H hr
    split at hr
    case h_2 => cases hr
    rename_i fn hfn
    split at hr
    case isFalse => cases hr
    have keep : ∀ {v h'}, bodyA p (callA p N n) N h.length fn args (h ++ deads fn.sites) = some (v, h') → InV S v ∧ Good S n0 h' := fun hr => bodyA_in hS hp ih H.len hfn ha (H.app _) hr
    have shut : ∀ {v h'}, (match bodyA p (callA p N n) N 0 fn args (deads fn.sites) with | some (v, h') => (match V.shut (fun o => h'[o]?) sealDepth v with | some v' => some (v', h) | none => none) | none => none) = some (v, h') → InV S v ∧ Good S n0 h' := by
      intro v h' hr
      split at hr
      · split at hr
        · rename_i v' hs
          cases hr
          exact ⟨inV_free (shut_is_free _ _ _ hs), H⟩
        · cases hr
      · cases hr
    cases hmode : fn.mode with
    | keep => simp only [hmode] at hr; exact keep hr
    | auto =>
      simp only [hmode] at hr
      split at hr
      · exact shut hr
      · exact keep hr
    | pure =>
      simp only [hmode] at hr
      split at hr
      · exact shut hr
      · cases hr
    | look =>
      simp only [hmode] at hr
      split at hr
      · split at hr
        · split at hr
          · rename_i hpl
            cases hr
            exact ⟨inV_free (plain_free _ hpl), H⟩
          · cases hr
        · cases hr
      · cases hr
end
theorem frame_all {m : FMode} {p : AProg} (hp : cleanP p = true) {N n : Nat} {f : FuncId} {args : List V} {h h1 : Heap} {v : V} {R : List Nat} (hm : pureOf p f = m) (hk : m = .keep ∨ m = .auto) (hR : reachC h (V.objsL args) = R)
    (hcl : ∀ o ∈ R, ∀ y, h[o]? = some y → (∀ i ∈ y.bd.objs, i ∈ R) ∧ y.bd.plainBd = true) (hc : callA p N n f args (keepOnly R h) = some (v, h1)) (hy : f ≠ YLD := by decide) :
    frameC (pureOf p) (callA p N n) f args h = some (v, mergeH R h h1) ∧ h.length ≤ h1.length := by
  have hRs := reachC_sub h (V.objsL args)
  rw [hR] at hRs
  have G0 : Good (fun i => i ∈ R ∨ h.length ≤ i) h.length (keepOnly R h) := by
    refine ⟨fun o x hx i hi => ?_, fun o v st pd t fb f k hx => ?_, by rw [keepOnly_length]; exact Nat.le_refl _⟩
    · simp only at hx
      rw [keepOnly_get] at hx
      simp only [Option.map_eq_some_iff] at hx
      obtain ⟨y, hy', rfl⟩ := hx
      split at hi
      · rename_i hcn
        exact .inl ((hcl o (by simpa using hcn) y hy').1 i hi)
      · cases hi
    · rw [keepOnly_get] at hx
      simp only [Option.map_eq_some_iff] at hx
      obtain ⟨y, hy', hx⟩ := hx
      split at hx
      · rename_i hcn
        subst hx
        have := (hcl o (by simpa using hcn) _ hy').2
        cases this
      · cases hx
  obtain ⟨q1, q2⟩ := callA_in (S := fun i => i ∈ R ∨ h.length ≤ i) (n0 := h.length) (fun i hi => .inr hi) hp N n f args _ _ _ (inL_iff.2 fun o ho => .inl (hRs o ho)) G0 hc
  refine ⟨frame_gen hm hk hR (fun o ho y hy' => (hcl o ho y hy').1) hc q2.len q1 (fun o y hy' _ => q2.names o y hy') hy, q2.len⟩
end Go.Am

