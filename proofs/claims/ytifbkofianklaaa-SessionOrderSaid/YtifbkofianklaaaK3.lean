import Derived.Test.YtifbkofianklaaaK2
set_option linter.unusedVariables false
set_option linter.unusedSimpArgs false
set_option maxRecDepth 10000
namespace Go.Am.T
attribute [local congr] selV_congr impB_congr
structure Dg where
  frm : Int
  to : Int
  view : Int
  seq : Int
  ack : Int
def Dg.cs (d : Dg) (b : V) : List V := [.int .i64 d.frm, .int .i64 d.to, .int .i64 d.view, .int .i64 d.seq, .int .i64 d.ack, b]
def rejD (s : Ses) (n : Nat) (d : Dg) (k : Nat) : Bool :=
  (d.frm != s.other) || ((d.to != s.me) || ((d.view != s.view) || (decide (d.seq < 0) || (decide (d.seq > 4611686018427387904) || (decide (d.ack < 0) || (decide (d.ack > s.first + n - 1) || (decide ((k : Int) > 256) || ((d.seq == 0) && decide ((k : Int) > 0)))))))))
def ackS (s : Ses) (d : Dg) : Ses := bif decide (d.ack ≥ s.first) then { s with first := d.ack + 1 } else s
def seqS (s : Ses) (d : Dg) : Ses := bif (d.seq == 0) then s else bif (d.seq != s.got + 1) then { s with owes := true } else { s with owes := true, got := s.got + 1 }
def comeS (s : Ses) (n : Nat) (d : Dg) (k : Nat) : Ses := bif rejD s n d k then s else seqS (ackS s d) d
def comeK (s : Ses) (n : Nat) (d : Dg) (k : Nat) : Nat := bif rejD s n d k then 0 else bif decide (d.ack ≥ s.first) then (d.ack - s.first + 1).toNat else 0
def comeB (s : Ses) (n : Nat) (d : Dg) (k : Nat) : Bool := !rejD s n d k && (!(d.seq == 0) && !(d.seq != s.got + 1))
structure Ses.Ok (s : Ses) (n : Nat) : Prop where
  f0 : 1 ≤ s.first
  f1 : s.first + n ≤ 2000
  g0 : 0 ≤ s.got
  g1 : s.got ≤ 4611686018427387904
  n1 : n ≤ 1000
def OutV (t : Bool) (l : List Int) (v : V) : Prop := match t with | true => ∃ b, By l b ∧ v = .tup [b, .bool true] | false => v = .tup [.nils, .bool false]
theorem cut_cs {s : Ses} {W W' : V} : setRange (s.cs W) 4 [W'] = s.cs W' := rfl
theorem cut_first {s : Ses} {W : V} {x : Int} : setRange (s.cs W) 5 [.int .i64 x] = ({ s with first := x } : Ses).cs W := rfl
theorem cut_owes {s : Ses} {W : V} {x : Bool} : setRange (s.cs W) 8 [.bool x] = ({ s with owes := x } : Ses).cs W := rfl
theorem cut_got {s : Ses} {W : V} {x : Int} : setRange (s.cs W) 7 [.int .i64 x] = ({ s with got := x } : Ses).cs W := rfl
set_option maxHeartbeats 4000000 in
theorem come_spec {N n : Nat} (hn : 2 ≤ n) {a : Nat} {s : Ses} {W : V} {L : List V} {R : List Nat} {h : Heap} (ha : SAt h a s L W R) (hok : s.Ok L.length) (d : Dg) {l : List Int} {b : V} (hb : By l b) :
    ∃ v' h', callA am N n 18 [.ptr a 1 0, .agg (d.cs b)] h = some (v', h') ∧ OutV (comeB s L.length d l.length) l v' ∧ ∃ W', SAt h' a (comeS s L.length d l.length) (L.drop (comeK s L.length d l.length)) W' R ∧ Beyond h h' a R R := by
  obtain ⟨n, rfl⟩ : ∃ m, n = m + 1 := ⟨n - 1, by omega⟩
  have hal := lt_of_get ha.ob
  obtain ⟨h0, e0⟩ : ∃ h0, h0 = h ++ [(⟨1, .var (d.cs b)⟩ : Ob)] := ⟨_, rfl⟩
  have x0 : ∀ o, o < h.length → h0[o]? = h[o]? := fun o ho => by rw [e0, List.getElem?_append_left ho]
  have l0 : h0.length = h.length + 1 := by rw [e0]; simp
  have d0 : h0[h.length]? = some ⟨1, .var (d.cs b)⟩ := by rw [e0, app_get0]; rfl
  have ha0 : SAt h0 a s L W R := ⟨by rw [x0 a hal]; exact ha.ob, ha.row.keep (fun o ho => x0 o (ha.row.lt o ho)), ha.bods, ha.apart⟩
  have e0' := e0.symm
  have c22 := @is_spec N n (by omega) _ _ _ _ _ _ ha0
  have hlen := hb.len
  have hns := hb.nstr
  have hlW := ha0.row.len
  obtain ⟨v1, v2, v3, v4, v5, v6⟩ := ha0.row.shape
  have oa := ha0.ob
  have hne : h.length ≠ a := by omega
  have hal0 : a < h0.length := by omega
  have p1 : ∀ x, (h0.set a x)[a]? = some x := fun x => List.getElem?_set_self hal0
  have p2 : ∀ x, (h0.set a x)[h.length]? = some ⟨1, .var (d.cs b)⟩ := fun x => by rw [List.getElem?_set_ne (Ne.symm hne)]; exact d0
  have p3 : ∀ x y, (h0.set a x).set a y = h0.set a y := fun x y => by simp
  have p4 : ∀ x, (h0.set a x).length = h0.length := fun x => by simp
  obtain ⟨f0, f1, g0', g1', n1⟩ := hok
  have wl : IntKind.i64.wrap (IntKind.i64.wrap (s.first + (L.length : Int)) - 1) = s.first + (L.length : Int) - 1 := by
    rw [wrap64 (n := s.first + (L.length : Int)) (by omega) (by omega), wrap64 (by omega) (by omega)]
  have wg : IntKind.i64.wrap (s.got + 1) = s.got + 1 := wrap64 (by omega) (by omega)
  have q1 : ∀ (s : Ses) (W : V), (s.cs W).length = 9 := fun _ _ => rfl
  have q2 : (d.cs b).length = 6 := rfl
  have r0 : List.take 1 (d.cs b) = [.int .i64 d.frm] := rfl
  have r1 : List.take 1 (List.drop 1 (d.cs b)) = [.int .i64 d.to] := rfl
  have r2 : List.take 1 (List.drop 2 (d.cs b)) = [.int .i64 d.view] := rfl
  have r3 : List.take 1 (List.drop 3 (d.cs b)) = [.int .i64 d.seq] := rfl
  have r4 : List.take 1 (List.drop 4 (d.cs b)) = [.int .i64 d.ack] := rfl
  have r5 : List.take 1 (List.drop 5 (d.cs b)) = [b] := rfl
  have t1 : ∀ (s : Ses) (W : V), List.take 1 (List.drop 1 (s.cs W)) = [.int .i64 s.me] := fun _ _ => rfl
  have t2 : ∀ (s : Ses) (W : V), List.take 1 (List.drop 2 (s.cs W)) = [.int .i64 s.other] := fun _ _ => rfl
  have t3 : ∀ (s : Ses) (W : V), List.take 1 (List.drop 3 (s.cs W)) = [.int .i64 s.view] := fun _ _ => rfl
  have t4 : ∀ (s : Ses) (W : V), List.take 1 (List.drop 4 (s.cs W)) = [W] := fun _ _ => rfl
  have t5 : ∀ (s : Ses) (W : V), List.take 1 (List.drop 5 (s.cs W)) = [.int .i64 s.first] := fun _ _ => rfl
  have t7 : ∀ (s : Ses) (W : V), List.take 1 (List.drop 7 (s.cs W)) = [.int .i64 s.got] := fun _ _ => rfl
  have ko : ∀ (s' : Ses) (W' : V), WRow h0 W' (L.drop 0) R → True := fun _ _ _ => trivial
  have bey : ∀ x, Beyond h (h0.set a x) a R R := fun x => ⟨by simp; omega, fun o ho hoa hoR => by rw [List.getElem?_set_ne (Ne.symm hoa), x0 o ho], fun o ho => .inl ho⟩
  have bey0 : Beyond h h0 a R R := ⟨by omega, fun o ho hoa hoR => x0 o ho, fun o ho => .inl ho⟩
  have sat : ∀ (s' : Ses) (L' : List V) (W' : V), WRow h0 W' L' R → (∀ c ∈ L', c ∈ L) → SAt (h0.set a ⟨1, .var (s'.cs W')⟩) a s' L' W' R := fun s' L' W' hr hs =>
    ⟨p1 _, hr.keep (fun o ho => by rw [List.getElem?_set_ne]; rintro rfl; exact ha.apart ho), fun c hc => ha.bods c (hs c hc), ha.apart⟩
  have dcs : d.cs b = [.int .i64 d.frm, .int .i64 d.to, .int .i64 d.view, .int .i64 d.seq, .int .i64 d.ack, b] := rfl
  refine call_keep at18 rfl rfl (by decide) (sx_wp ?_)
  cases x1 : (d.frm != s.other) with
  | true =>
    have hr : rejD s L.length d l.length = true := by simp only [rejD, x1, Bool.or_true, Bool.true_or, Bool.false_or, Bool.or_false]
    simp only [comeS, comeK, comeB, hr, cond_true, Bool.not_true, Bool.false_and]
    simp +contextual -implicitDefEqProofs (maxSteps := 10000000) only [sx_seq, sxL_succ, lpQ_norm, lpQ_exit, lpQ_ret, loopQ_norm, loopQ_exit, loopQ_ret, sqQ_norm, sqQ_ret, sqQ_exit, sx_block, blkQ_norm, blkQ_exit, blkQ_ret, sx_cond, cdP_true, cdP_false, cdP_bool, sx_region, sx_draw, plainD, List.all_cons, List.all_nil, List.isEmpty_nil, List.isEmpty_cons, sxo_nil, sxo_cons, sxo_guard, gdS_bool, gdS_eff, gdS_tup, gdS_sel, gdS_seleff, sxK_def, wcall_some, effP_ret, effP_set, effP_none, effP_ite, wop_call, wop_cv, cvP_func, sx_ret, sx_exit, sx_skip, sx_clr, sx_fresh, stays, ↓selV_wt, ↓selV_wf, ↓impB_wt, ↓impB_wf, ↓selV_nor, ↓impB_nor, ↓selV_nt, ↓selV_nf, ↓impB_nt, ↓impB_nf, wantB_true, wantB_false, ↓selV_true, ↓selV_false, ↓selV_and, ↓impB_true, ↓impB_false, ↓impB_and, impB_triv, valOf_some, retH_some, ↓prim_pick, pickO_true, pickO_false, pickO_and, pickO_or, pickO_andr, pickO_orr, pickO_orrn, pickO_orn, pickO_bb, pickAnd_bool, pickOr_bool, ↓selV_nn, ↓impB_nn, Bool.and_assoc, Bool.or_assoc, doOp, ev_fr, ev_cst, put_none, put_fr, get, ins, del, dels, Nat.reduceLT, Nat.reduceEqDiff, ↓reduceIte, reduceCtorEq, ne_eq, not_false_eq_true, implies_true, framed_pureF, framed_fb, framed_N, framed_pure, wop_prim, prim, YLD, mkA, V.cells, List.getElem?_cons_zero, List.getElem?_cons_succ, List.set_cons_zero, List.set_cons_succ, Nat.zero_add, Nat.add_zero, Nat.reduceAdd, Nat.reduceSub, Nat.reduceMul, Nat.reduceLeDiff, Nat.not_lt_zero, List.map_cons, List.map_nil, List.cons_append, List.nil_append, loadA, cellsAt, nAg, packA, opt_bind_some, opt_map_some, opt_bind_none, opt_map_none, List.drop, List.take, List.head?, List.length_cons, List.length_nil, binA, unA, eqCells, eqCell, negB, fillA, sr_nil, sr_cons, sr_succ, sr_all, sr_len, storeA, Ob.with, indexedI, V.oneCell, intOf?, retQ_ret, retQ_norm, resA, resA1, fr_getD, packR, sealDepth, shut_bool, shut_int, Option.some.injEq, V.bool.injEq, V.int.injEq, Bool.not_true, Bool.not_false, true_and, and_true, and_self, Bool.and_true, Bool.and_false, Bool.true_and, Bool.false_and, Bool.or_true, Bool.or_false, Bool.true_or, Bool.false_or, Bool.false_eq_true, Int.reduceLT, Int.reduceLE, Int.reduceToNat, Int.reduceNeg, shut_plain, freeL_cons, freeL_nil, free_int, free_bool, free_agg, free_str, free_nils, free_tup, free_sl, true_implies, false_implies, Nat.sub_zero, Int.natCast_nonneg, Int.toNat_natCast, Nat.le_refl, not_true_eq_false, Int.reduceAdd, Int.reduceSub, Int.reduceMul, wrap64, false_and, and_false, cond_true, cond_false, Bool.cond_true_left, Bool.cond_false_right, Int.reduceBNe, Int.reduceBEq, decide_true, decide_false, Int.cast_ofNat_Int, Nat.mul_one, eq_self, Bool.true_eq_false, Bool.not_eq_true, Bool.not_eq_false, deads, List.replicate, argsF, am18, sx_drawd, reachC_nil, wpd_nil, wpd_cons, wdK_def, fpOf, fpV, fpCall, Fp.ok, disj, List.contains_cons, List.contains_nil, Nat.reduceBEq, List.all_append, V.objsL, V.objs,  List.getD_cons_zero, List.getD_cons_succ, List.append_nil, app_get0, app_get, app_set0, app_set, e0', d0, c22, hlen, hlW, oa, p1, p2, p3, p4, hal0, q1, q2, r0, r1, r2, r3, r4, r5, t1, t2, t3, t4, t5, t7, wl, wg, v1, v2, isNil, cut_cs, cut_first, cut_owes, cut_got, -List.drop, -List.take, x1]
    exact ⟨rfl, W, (by first | exact ha0 | (rw [List.drop_zero]; exact ha0)), bey0⟩
  | false =>
    cases x2 : (d.to != s.me) with
    | true =>
      have hr : rejD s L.length d l.length = true := by simp only [rejD, x1, x2, Bool.or_true, Bool.true_or, Bool.false_or, Bool.or_false]
      simp only [comeS, comeK, comeB, hr, cond_true, Bool.not_true, Bool.false_and]
      simp +contextual -implicitDefEqProofs (maxSteps := 10000000) only [sx_seq, sxL_succ, lpQ_norm, lpQ_exit, lpQ_ret, loopQ_norm, loopQ_exit, loopQ_ret, sqQ_norm, sqQ_ret, sqQ_exit, sx_block, blkQ_norm, blkQ_exit, blkQ_ret, sx_cond, cdP_true, cdP_false, cdP_bool, sx_region, sx_draw, plainD, List.all_cons, List.all_nil, List.isEmpty_nil, List.isEmpty_cons, sxo_nil, sxo_cons, sxo_guard, gdS_bool, gdS_eff, gdS_tup, gdS_sel, gdS_seleff, sxK_def, wcall_some, effP_ret, effP_set, effP_none, effP_ite, wop_call, wop_cv, cvP_func, sx_ret, sx_exit, sx_skip, sx_clr, sx_fresh, stays, ↓selV_wt, ↓selV_wf, ↓impB_wt, ↓impB_wf, ↓selV_nor, ↓impB_nor, ↓selV_nt, ↓selV_nf, ↓impB_nt, ↓impB_nf, wantB_true, wantB_false, ↓selV_true, ↓selV_false, ↓selV_and, ↓impB_true, ↓impB_false, ↓impB_and, impB_triv, valOf_some, retH_some, ↓prim_pick, pickO_true, pickO_false, pickO_and, pickO_or, pickO_andr, pickO_orr, pickO_orrn, pickO_orn, pickO_bb, pickAnd_bool, pickOr_bool, ↓selV_nn, ↓impB_nn, Bool.and_assoc, Bool.or_assoc, doOp, ev_fr, ev_cst, put_none, put_fr, get, ins, del, dels, Nat.reduceLT, Nat.reduceEqDiff, ↓reduceIte, reduceCtorEq, ne_eq, not_false_eq_true, implies_true, framed_pureF, framed_fb, framed_N, framed_pure, wop_prim, prim, YLD, mkA, V.cells, List.getElem?_cons_zero, List.getElem?_cons_succ, List.set_cons_zero, List.set_cons_succ, Nat.zero_add, Nat.add_zero, Nat.reduceAdd, Nat.reduceSub, Nat.reduceMul, Nat.reduceLeDiff, Nat.not_lt_zero, List.map_cons, List.map_nil, List.cons_append, List.nil_append, loadA, cellsAt, nAg, packA, opt_bind_some, opt_map_some, opt_bind_none, opt_map_none, List.drop, List.take, List.head?, List.length_cons, List.length_nil, binA, unA, eqCells, eqCell, negB, fillA, sr_nil, sr_cons, sr_succ, sr_all, sr_len, storeA, Ob.with, indexedI, V.oneCell, intOf?, retQ_ret, retQ_norm, resA, resA1, fr_getD, packR, sealDepth, shut_bool, shut_int, Option.some.injEq, V.bool.injEq, V.int.injEq, Bool.not_true, Bool.not_false, true_and, and_true, and_self, Bool.and_true, Bool.and_false, Bool.true_and, Bool.false_and, Bool.or_true, Bool.or_false, Bool.true_or, Bool.false_or, Bool.false_eq_true, Int.reduceLT, Int.reduceLE, Int.reduceToNat, Int.reduceNeg, shut_plain, freeL_cons, freeL_nil, free_int, free_bool, free_agg, free_str, free_nils, free_tup, free_sl, true_implies, false_implies, Nat.sub_zero, Int.natCast_nonneg, Int.toNat_natCast, Nat.le_refl, not_true_eq_false, Int.reduceAdd, Int.reduceSub, Int.reduceMul, wrap64, false_and, and_false, cond_true, cond_false, Bool.cond_true_left, Bool.cond_false_right, Int.reduceBNe, Int.reduceBEq, decide_true, decide_false, Int.cast_ofNat_Int, Nat.mul_one, eq_self, Bool.true_eq_false, Bool.not_eq_true, Bool.not_eq_false, deads, List.replicate, argsF, am18, sx_drawd, reachC_nil, wpd_nil, wpd_cons, wdK_def, fpOf, fpV, fpCall, Fp.ok, disj, List.contains_cons, List.contains_nil, Nat.reduceBEq, List.all_append, V.objsL, V.objs,  List.getD_cons_zero, List.getD_cons_succ, List.append_nil, app_get0, app_get, app_set0, app_set, e0', d0, c22, hlen, hlW, oa, p1, p2, p3, p4, hal0, q1, q2, r0, r1, r2, r3, r4, r5, t1, t2, t3, t4, t5, t7, wl, wg, v1, v2, isNil, cut_cs, cut_first, cut_owes, cut_got, -List.drop, -List.take, x1, x2]
      exact ⟨rfl, W, (by first | exact ha0 | (rw [List.drop_zero]; exact ha0)), bey0⟩
    | false =>
      cases x3 : (d.view != s.view) with
      | true =>
        have hr : rejD s L.length d l.length = true := by simp only [rejD, x1, x2, x3, Bool.or_true, Bool.true_or, Bool.false_or, Bool.or_false]
        simp only [comeS, comeK, comeB, hr, cond_true, Bool.not_true, Bool.false_and]
        simp +contextual -implicitDefEqProofs (maxSteps := 10000000) only [sx_seq, sxL_succ, lpQ_norm, lpQ_exit, lpQ_ret, loopQ_norm, loopQ_exit, loopQ_ret, sqQ_norm, sqQ_ret, sqQ_exit, sx_block, blkQ_norm, blkQ_exit, blkQ_ret, sx_cond, cdP_true, cdP_false, cdP_bool, sx_region, sx_draw, plainD, List.all_cons, List.all_nil, List.isEmpty_nil, List.isEmpty_cons, sxo_nil, sxo_cons, sxo_guard, gdS_bool, gdS_eff, gdS_tup, gdS_sel, gdS_seleff, sxK_def, wcall_some, effP_ret, effP_set, effP_none, effP_ite, wop_call, wop_cv, cvP_func, sx_ret, sx_exit, sx_skip, sx_clr, sx_fresh, stays, ↓selV_wt, ↓selV_wf, ↓impB_wt, ↓impB_wf, ↓selV_nor, ↓impB_nor, ↓selV_nt, ↓selV_nf, ↓impB_nt, ↓impB_nf, wantB_true, wantB_false, ↓selV_true, ↓selV_false, ↓selV_and, ↓impB_true, ↓impB_false, ↓impB_and, impB_triv, valOf_some, retH_some, ↓prim_pick, pickO_true, pickO_false, pickO_and, pickO_or, pickO_andr, pickO_orr, pickO_orrn, pickO_orn, pickO_bb, pickAnd_bool, pickOr_bool, ↓selV_nn, ↓impB_nn, Bool.and_assoc, Bool.or_assoc, doOp, ev_fr, ev_cst, put_none, put_fr, get, ins, del, dels, Nat.reduceLT, Nat.reduceEqDiff, ↓reduceIte, reduceCtorEq, ne_eq, not_false_eq_true, implies_true, framed_pureF, framed_fb, framed_N, framed_pure, wop_prim, prim, YLD, mkA, V.cells, List.getElem?_cons_zero, List.getElem?_cons_succ, List.set_cons_zero, List.set_cons_succ, Nat.zero_add, Nat.add_zero, Nat.reduceAdd, Nat.reduceSub, Nat.reduceMul, Nat.reduceLeDiff, Nat.not_lt_zero, List.map_cons, List.map_nil, List.cons_append, List.nil_append, loadA, cellsAt, nAg, packA, opt_bind_some, opt_map_some, opt_bind_none, opt_map_none, List.drop, List.take, List.head?, List.length_cons, List.length_nil, binA, unA, eqCells, eqCell, negB, fillA, sr_nil, sr_cons, sr_succ, sr_all, sr_len, storeA, Ob.with, indexedI, V.oneCell, intOf?, retQ_ret, retQ_norm, resA, resA1, fr_getD, packR, sealDepth, shut_bool, shut_int, Option.some.injEq, V.bool.injEq, V.int.injEq, Bool.not_true, Bool.not_false, true_and, and_true, and_self, Bool.and_true, Bool.and_false, Bool.true_and, Bool.false_and, Bool.or_true, Bool.or_false, Bool.true_or, Bool.false_or, Bool.false_eq_true, Int.reduceLT, Int.reduceLE, Int.reduceToNat, Int.reduceNeg, shut_plain, freeL_cons, freeL_nil, free_int, free_bool, free_agg, free_str, free_nils, free_tup, free_sl, true_implies, false_implies, Nat.sub_zero, Int.natCast_nonneg, Int.toNat_natCast, Nat.le_refl, not_true_eq_false, Int.reduceAdd, Int.reduceSub, Int.reduceMul, wrap64, false_and, and_false, cond_true, cond_false, Bool.cond_true_left, Bool.cond_false_right, Int.reduceBNe, Int.reduceBEq, decide_true, decide_false, Int.cast_ofNat_Int, Nat.mul_one, eq_self, Bool.true_eq_false, Bool.not_eq_true, Bool.not_eq_false, deads, List.replicate, argsF, am18, sx_drawd, reachC_nil, wpd_nil, wpd_cons, wdK_def, fpOf, fpV, fpCall, Fp.ok, disj, List.contains_cons, List.contains_nil, Nat.reduceBEq, List.all_append, V.objsL, V.objs,  List.getD_cons_zero, List.getD_cons_succ, List.append_nil, app_get0, app_get, app_set0, app_set, e0', d0, c22, hlen, hlW, oa, p1, p2, p3, p4, hal0, q1, q2, r0, r1, r2, r3, r4, r5, t1, t2, t3, t4, t5, t7, wl, wg, v1, v2, isNil, cut_cs, cut_first, cut_owes, cut_got, -List.drop, -List.take, x1, x2, x3]
        exact ⟨rfl, W, (by first | exact ha0 | (rw [List.drop_zero]; exact ha0)), bey0⟩
      | false =>
        cases x4 : (decide (d.seq < 0)) with
        | true =>
          have hr : rejD s L.length d l.length = true := by simp only [rejD, x1, x2, x3, x4, Bool.or_true, Bool.true_or, Bool.false_or, Bool.or_false]
          simp only [comeS, comeK, comeB, hr, cond_true, Bool.not_true, Bool.false_and]
          simp +contextual -implicitDefEqProofs (maxSteps := 10000000) only [sx_seq, sxL_succ, lpQ_norm, lpQ_exit, lpQ_ret, loopQ_norm, loopQ_exit, loopQ_ret, sqQ_norm, sqQ_ret, sqQ_exit, sx_block, blkQ_norm, blkQ_exit, blkQ_ret, sx_cond, cdP_true, cdP_false, cdP_bool, sx_region, sx_draw, plainD, List.all_cons, List.all_nil, List.isEmpty_nil, List.isEmpty_cons, sxo_nil, sxo_cons, sxo_guard, gdS_bool, gdS_eff, gdS_tup, gdS_sel, gdS_seleff, sxK_def, wcall_some, effP_ret, effP_set, effP_none, effP_ite, wop_call, wop_cv, cvP_func, sx_ret, sx_exit, sx_skip, sx_clr, sx_fresh, stays, ↓selV_wt, ↓selV_wf, ↓impB_wt, ↓impB_wf, ↓selV_nor, ↓impB_nor, ↓selV_nt, ↓selV_nf, ↓impB_nt, ↓impB_nf, wantB_true, wantB_false, ↓selV_true, ↓selV_false, ↓selV_and, ↓impB_true, ↓impB_false, ↓impB_and, impB_triv, valOf_some, retH_some, ↓prim_pick, pickO_true, pickO_false, pickO_and, pickO_or, pickO_andr, pickO_orr, pickO_orrn, pickO_orn, pickO_bb, pickAnd_bool, pickOr_bool, ↓selV_nn, ↓impB_nn, Bool.and_assoc, Bool.or_assoc, doOp, ev_fr, ev_cst, put_none, put_fr, get, ins, del, dels, Nat.reduceLT, Nat.reduceEqDiff, ↓reduceIte, reduceCtorEq, ne_eq, not_false_eq_true, implies_true, framed_pureF, framed_fb, framed_N, framed_pure, wop_prim, prim, YLD, mkA, V.cells, List.getElem?_cons_zero, List.getElem?_cons_succ, List.set_cons_zero, List.set_cons_succ, Nat.zero_add, Nat.add_zero, Nat.reduceAdd, Nat.reduceSub, Nat.reduceMul, Nat.reduceLeDiff, Nat.not_lt_zero, List.map_cons, List.map_nil, List.cons_append, List.nil_append, loadA, cellsAt, nAg, packA, opt_bind_some, opt_map_some, opt_bind_none, opt_map_none, List.drop, List.take, List.head?, List.length_cons, List.length_nil, binA, unA, eqCells, eqCell, negB, fillA, sr_nil, sr_cons, sr_succ, sr_all, sr_len, storeA, Ob.with, indexedI, V.oneCell, intOf?, retQ_ret, retQ_norm, resA, resA1, fr_getD, packR, sealDepth, shut_bool, shut_int, Option.some.injEq, V.bool.injEq, V.int.injEq, Bool.not_true, Bool.not_false, true_and, and_true, and_self, Bool.and_true, Bool.and_false, Bool.true_and, Bool.false_and, Bool.or_true, Bool.or_false, Bool.true_or, Bool.false_or, Bool.false_eq_true, Int.reduceLT, Int.reduceLE, Int.reduceToNat, Int.reduceNeg, shut_plain, freeL_cons, freeL_nil, free_int, free_bool, free_agg, free_str, free_nils, free_tup, free_sl, true_implies, false_implies, Nat.sub_zero, Int.natCast_nonneg, Int.toNat_natCast, Nat.le_refl, not_true_eq_false, Int.reduceAdd, Int.reduceSub, Int.reduceMul, wrap64, false_and, and_false, cond_true, cond_false, Bool.cond_true_left, Bool.cond_false_right, Int.reduceBNe, Int.reduceBEq, decide_true, decide_false, Int.cast_ofNat_Int, Nat.mul_one, eq_self, Bool.true_eq_false, Bool.not_eq_true, Bool.not_eq_false, deads, List.replicate, argsF, am18, sx_drawd, reachC_nil, wpd_nil, wpd_cons, wdK_def, fpOf, fpV, fpCall, Fp.ok, disj, List.contains_cons, List.contains_nil, Nat.reduceBEq, List.all_append, V.objsL, V.objs,  List.getD_cons_zero, List.getD_cons_succ, List.append_nil, app_get0, app_get, app_set0, app_set, e0', d0, c22, hlen, hlW, oa, p1, p2, p3, p4, hal0, q1, q2, r0, r1, r2, r3, r4, r5, t1, t2, t3, t4, t5, t7, wl, wg, v1, v2, isNil, cut_cs, cut_first, cut_owes, cut_got, -List.drop, -List.take, x1, x2, x3, x4]
          exact ⟨rfl, W, (by first | exact ha0 | (rw [List.drop_zero]; exact ha0)), bey0⟩
        | false =>
          cases x5 : (decide (d.seq > 4611686018427387904)) with
          | true =>
            have hr : rejD s L.length d l.length = true := by simp only [rejD, x1, x2, x3, x4, x5, Bool.or_true, Bool.true_or, Bool.false_or, Bool.or_false]
            simp only [comeS, comeK, comeB, hr, cond_true, Bool.not_true, Bool.false_and]
            simp +contextual -implicitDefEqProofs (maxSteps := 10000000) only [sx_seq, sxL_succ, lpQ_norm, lpQ_exit, lpQ_ret, loopQ_norm, loopQ_exit, loopQ_ret, sqQ_norm, sqQ_ret, sqQ_exit, sx_block, blkQ_norm, blkQ_exit, blkQ_ret, sx_cond, cdP_true, cdP_false, cdP_bool, sx_region, sx_draw, plainD, List.all_cons, List.all_nil, List.isEmpty_nil, List.isEmpty_cons, sxo_nil, sxo_cons, sxo_guard, gdS_bool, gdS_eff, gdS_tup, gdS_sel, gdS_seleff, sxK_def, wcall_some, effP_ret, effP_set, effP_none, effP_ite, wop_call, wop_cv, cvP_func, sx_ret, sx_exit, sx_skip, sx_clr, sx_fresh, stays, ↓selV_wt, ↓selV_wf, ↓impB_wt, ↓impB_wf, ↓selV_nor, ↓impB_nor, ↓selV_nt, ↓selV_nf, ↓impB_nt, ↓impB_nf, wantB_true, wantB_false, ↓selV_true, ↓selV_false, ↓selV_and, ↓impB_true, ↓impB_false, ↓impB_and, impB_triv, valOf_some, retH_some, ↓prim_pick, pickO_true, pickO_false, pickO_and, pickO_or, pickO_andr, pickO_orr, pickO_orrn, pickO_orn, pickO_bb, pickAnd_bool, pickOr_bool, ↓selV_nn, ↓impB_nn, Bool.and_assoc, Bool.or_assoc, doOp, ev_fr, ev_cst, put_none, put_fr, get, ins, del, dels, Nat.reduceLT, Nat.reduceEqDiff, ↓reduceIte, reduceCtorEq, ne_eq, not_false_eq_true, implies_true, framed_pureF, framed_fb, framed_N, framed_pure, wop_prim, prim, YLD, mkA, V.cells, List.getElem?_cons_zero, List.getElem?_cons_succ, List.set_cons_zero, List.set_cons_succ, Nat.zero_add, Nat.add_zero, Nat.reduceAdd, Nat.reduceSub, Nat.reduceMul, Nat.reduceLeDiff, Nat.not_lt_zero, List.map_cons, List.map_nil, List.cons_append, List.nil_append, loadA, cellsAt, nAg, packA, opt_bind_some, opt_map_some, opt_bind_none, opt_map_none, List.drop, List.take, List.head?, List.length_cons, List.length_nil, binA, unA, eqCells, eqCell, negB, fillA, sr_nil, sr_cons, sr_succ, sr_all, sr_len, storeA, Ob.with, indexedI, V.oneCell, intOf?, retQ_ret, retQ_norm, resA, resA1, fr_getD, packR, sealDepth, shut_bool, shut_int, Option.some.injEq, V.bool.injEq, V.int.injEq, Bool.not_true, Bool.not_false, true_and, and_true, and_self, Bool.and_true, Bool.and_false, Bool.true_and, Bool.false_and, Bool.or_true, Bool.or_false, Bool.true_or, Bool.false_or, Bool.false_eq_true, Int.reduceLT, Int.reduceLE, Int.reduceToNat, Int.reduceNeg, shut_plain, freeL_cons, freeL_nil, free_int, free_bool, free_agg, free_str, free_nils, free_tup, free_sl, true_implies, false_implies, Nat.sub_zero, Int.natCast_nonneg, Int.toNat_natCast, Nat.le_refl, not_true_eq_false, Int.reduceAdd, Int.reduceSub, Int.reduceMul, wrap64, false_and, and_false, cond_true, cond_false, Bool.cond_true_left, Bool.cond_false_right, Int.reduceBNe, Int.reduceBEq, decide_true, decide_false, Int.cast_ofNat_Int, Nat.mul_one, eq_self, Bool.true_eq_false, Bool.not_eq_true, Bool.not_eq_false, deads, List.replicate, argsF, am18, sx_drawd, reachC_nil, wpd_nil, wpd_cons, wdK_def, fpOf, fpV, fpCall, Fp.ok, disj, List.contains_cons, List.contains_nil, Nat.reduceBEq, List.all_append, V.objsL, V.objs,  List.getD_cons_zero, List.getD_cons_succ, List.append_nil, app_get0, app_get, app_set0, app_set, e0', d0, c22, hlen, hlW, oa, p1, p2, p3, p4, hal0, q1, q2, r0, r1, r2, r3, r4, r5, t1, t2, t3, t4, t5, t7, wl, wg, v1, v2, isNil, cut_cs, cut_first, cut_owes, cut_got, -List.drop, -List.take, x1, x2, x3, x4, x5]
            exact ⟨rfl, W, (by first | exact ha0 | (rw [List.drop_zero]; exact ha0)), bey0⟩
          | false =>
            cases x6 : (decide (d.ack < 0)) with
            | true =>
              have hr : rejD s L.length d l.length = true := by simp only [rejD, x1, x2, x3, x4, x5, x6, Bool.or_true, Bool.true_or, Bool.false_or, Bool.or_false]
              simp only [comeS, comeK, comeB, hr, cond_true, Bool.not_true, Bool.false_and]
              simp +contextual -implicitDefEqProofs (maxSteps := 10000000) only [sx_seq, sxL_succ, lpQ_norm, lpQ_exit, lpQ_ret, loopQ_norm, loopQ_exit, loopQ_ret, sqQ_norm, sqQ_ret, sqQ_exit, sx_block, blkQ_norm, blkQ_exit, blkQ_ret, sx_cond, cdP_true, cdP_false, cdP_bool, sx_region, sx_draw, plainD, List.all_cons, List.all_nil, List.isEmpty_nil, List.isEmpty_cons, sxo_nil, sxo_cons, sxo_guard, gdS_bool, gdS_eff, gdS_tup, gdS_sel, gdS_seleff, sxK_def, wcall_some, effP_ret, effP_set, effP_none, effP_ite, wop_call, wop_cv, cvP_func, sx_ret, sx_exit, sx_skip, sx_clr, sx_fresh, stays, ↓selV_wt, ↓selV_wf, ↓impB_wt, ↓impB_wf, ↓selV_nor, ↓impB_nor, ↓selV_nt, ↓selV_nf, ↓impB_nt, ↓impB_nf, wantB_true, wantB_false, ↓selV_true, ↓selV_false, ↓selV_and, ↓impB_true, ↓impB_false, ↓impB_and, impB_triv, valOf_some, retH_some, ↓prim_pick, pickO_true, pickO_false, pickO_and, pickO_or, pickO_andr, pickO_orr, pickO_orrn, pickO_orn, pickO_bb, pickAnd_bool, pickOr_bool, ↓selV_nn, ↓impB_nn, Bool.and_assoc, Bool.or_assoc, doOp, ev_fr, ev_cst, put_none, put_fr, get, ins, del, dels, Nat.reduceLT, Nat.reduceEqDiff, ↓reduceIte, reduceCtorEq, ne_eq, not_false_eq_true, implies_true, framed_pureF, framed_fb, framed_N, framed_pure, wop_prim, prim, YLD, mkA, V.cells, List.getElem?_cons_zero, List.getElem?_cons_succ, List.set_cons_zero, List.set_cons_succ, Nat.zero_add, Nat.add_zero, Nat.reduceAdd, Nat.reduceSub, Nat.reduceMul, Nat.reduceLeDiff, Nat.not_lt_zero, List.map_cons, List.map_nil, List.cons_append, List.nil_append, loadA, cellsAt, nAg, packA, opt_bind_some, opt_map_some, opt_bind_none, opt_map_none, List.drop, List.take, List.head?, List.length_cons, List.length_nil, binA, unA, eqCells, eqCell, negB, fillA, sr_nil, sr_cons, sr_succ, sr_all, sr_len, storeA, Ob.with, indexedI, V.oneCell, intOf?, retQ_ret, retQ_norm, resA, resA1, fr_getD, packR, sealDepth, shut_bool, shut_int, Option.some.injEq, V.bool.injEq, V.int.injEq, Bool.not_true, Bool.not_false, true_and, and_true, and_self, Bool.and_true, Bool.and_false, Bool.true_and, Bool.false_and, Bool.or_true, Bool.or_false, Bool.true_or, Bool.false_or, Bool.false_eq_true, Int.reduceLT, Int.reduceLE, Int.reduceToNat, Int.reduceNeg, shut_plain, freeL_cons, freeL_nil, free_int, free_bool, free_agg, free_str, free_nils, free_tup, free_sl, true_implies, false_implies, Nat.sub_zero, Int.natCast_nonneg, Int.toNat_natCast, Nat.le_refl, not_true_eq_false, Int.reduceAdd, Int.reduceSub, Int.reduceMul, wrap64, false_and, and_false, cond_true, cond_false, Bool.cond_true_left, Bool.cond_false_right, Int.reduceBNe, Int.reduceBEq, decide_true, decide_false, Int.cast_ofNat_Int, Nat.mul_one, eq_self, Bool.true_eq_false, Bool.not_eq_true, Bool.not_eq_false, deads, List.replicate, argsF, am18, sx_drawd, reachC_nil, wpd_nil, wpd_cons, wdK_def, fpOf, fpV, fpCall, Fp.ok, disj, List.contains_cons, List.contains_nil, Nat.reduceBEq, List.all_append, V.objsL, V.objs,  List.getD_cons_zero, List.getD_cons_succ, List.append_nil, app_get0, app_get, app_set0, app_set, e0', d0, c22, hlen, hlW, oa, p1, p2, p3, p4, hal0, q1, q2, r0, r1, r2, r3, r4, r5, t1, t2, t3, t4, t5, t7, wl, wg, v1, v2, isNil, cut_cs, cut_first, cut_owes, cut_got, -List.drop, -List.take, x1, x2, x3, x4, x5, x6]
              exact ⟨rfl, W, (by first | exact ha0 | (rw [List.drop_zero]; exact ha0)), bey0⟩
            | false =>
              cases x7 : (decide (d.ack > s.first + (L.length : Int) - 1)) with
              | true =>
                have hr : rejD s L.length d l.length = true := by simp only [rejD, x1, x2, x3, x4, x5, x6, x7, Bool.or_true, Bool.true_or, Bool.false_or, Bool.or_false]
                simp only [comeS, comeK, comeB, hr, cond_true, Bool.not_true, Bool.false_and]
                simp +contextual -implicitDefEqProofs (maxSteps := 10000000) only [sx_seq, sxL_succ, lpQ_norm, lpQ_exit, lpQ_ret, loopQ_norm, loopQ_exit, loopQ_ret, sqQ_norm, sqQ_ret, sqQ_exit, sx_block, blkQ_norm, blkQ_exit, blkQ_ret, sx_cond, cdP_true, cdP_false, cdP_bool, sx_region, sx_draw, plainD, List.all_cons, List.all_nil, List.isEmpty_nil, List.isEmpty_cons, sxo_nil, sxo_cons, sxo_guard, gdS_bool, gdS_eff, gdS_tup, gdS_sel, gdS_seleff, sxK_def, wcall_some, effP_ret, effP_set, effP_none, effP_ite, wop_call, wop_cv, cvP_func, sx_ret, sx_exit, sx_skip, sx_clr, sx_fresh, stays, ↓selV_wt, ↓selV_wf, ↓impB_wt, ↓impB_wf, ↓selV_nor, ↓impB_nor, ↓selV_nt, ↓selV_nf, ↓impB_nt, ↓impB_nf, wantB_true, wantB_false, ↓selV_true, ↓selV_false, ↓selV_and, ↓impB_true, ↓impB_false, ↓impB_and, impB_triv, valOf_some, retH_some, ↓prim_pick, pickO_true, pickO_false, pickO_and, pickO_or, pickO_andr, pickO_orr, pickO_orrn, pickO_orn, pickO_bb, pickAnd_bool, pickOr_bool, ↓selV_nn, ↓impB_nn, Bool.and_assoc, Bool.or_assoc, doOp, ev_fr, ev_cst, put_none, put_fr, get, ins, del, dels, Nat.reduceLT, Nat.reduceEqDiff, ↓reduceIte, reduceCtorEq, ne_eq, not_false_eq_true, implies_true, framed_pureF, framed_fb, framed_N, framed_pure, wop_prim, prim, YLD, mkA, V.cells, List.getElem?_cons_zero, List.getElem?_cons_succ, List.set_cons_zero, List.set_cons_succ, Nat.zero_add, Nat.add_zero, Nat.reduceAdd, Nat.reduceSub, Nat.reduceMul, Nat.reduceLeDiff, Nat.not_lt_zero, List.map_cons, List.map_nil, List.cons_append, List.nil_append, loadA, cellsAt, nAg, packA, opt_bind_some, opt_map_some, opt_bind_none, opt_map_none, List.drop, List.take, List.head?, List.length_cons, List.length_nil, binA, unA, eqCells, eqCell, negB, fillA, sr_nil, sr_cons, sr_succ, sr_all, sr_len, storeA, Ob.with, indexedI, V.oneCell, intOf?, retQ_ret, retQ_norm, resA, resA1, fr_getD, packR, sealDepth, shut_bool, shut_int, Option.some.injEq, V.bool.injEq, V.int.injEq, Bool.not_true, Bool.not_false, true_and, and_true, and_self, Bool.and_true, Bool.and_false, Bool.true_and, Bool.false_and, Bool.or_true, Bool.or_false, Bool.true_or, Bool.false_or, Bool.false_eq_true, Int.reduceLT, Int.reduceLE, Int.reduceToNat, Int.reduceNeg, shut_plain, freeL_cons, freeL_nil, free_int, free_bool, free_agg, free_str, free_nils, free_tup, free_sl, true_implies, false_implies, Nat.sub_zero, Int.natCast_nonneg, Int.toNat_natCast, Nat.le_refl, not_true_eq_false, Int.reduceAdd, Int.reduceSub, Int.reduceMul, wrap64, false_and, and_false, cond_true, cond_false, Bool.cond_true_left, Bool.cond_false_right, Int.reduceBNe, Int.reduceBEq, decide_true, decide_false, Int.cast_ofNat_Int, Nat.mul_one, eq_self, Bool.true_eq_false, Bool.not_eq_true, Bool.not_eq_false, deads, List.replicate, argsF, am18, sx_drawd, reachC_nil, wpd_nil, wpd_cons, wdK_def, fpOf, fpV, fpCall, Fp.ok, disj, List.contains_cons, List.contains_nil, Nat.reduceBEq, List.all_append, V.objsL, V.objs,  List.getD_cons_zero, List.getD_cons_succ, List.append_nil, app_get0, app_get, app_set0, app_set, e0', d0, c22, hlen, hlW, oa, p1, p2, p3, p4, hal0, q1, q2, r0, r1, r2, r3, r4, r5, t1, t2, t3, t4, t5, t7, wl, wg, v1, v2, isNil, cut_cs, cut_first, cut_owes, cut_got, -List.drop, -List.take, x1, x2, x3, x4, x5, x6, x7]
                exact ⟨rfl, W, (by first | exact ha0 | (rw [List.drop_zero]; exact ha0)), bey0⟩
              | false =>
                cases x8 : (decide ((l.length : Int) > 256)) with
                | true =>
                  have hr : rejD s L.length d l.length = true := by simp only [rejD, x1, x2, x3, x4, x5, x6, x7, x8, Bool.or_true, Bool.true_or, Bool.false_or, Bool.or_false]
                  simp only [comeS, comeK, comeB, hr, cond_true, Bool.not_true, Bool.false_and]
                  simp +contextual -implicitDefEqProofs (maxSteps := 10000000) only [sx_seq, sxL_succ, lpQ_norm, lpQ_exit, lpQ_ret, loopQ_norm, loopQ_exit, loopQ_ret, sqQ_norm, sqQ_ret, sqQ_exit, sx_block, blkQ_norm, blkQ_exit, blkQ_ret, sx_cond, cdP_true, cdP_false, cdP_bool, sx_region, sx_draw, plainD, List.all_cons, List.all_nil, List.isEmpty_nil, List.isEmpty_cons, sxo_nil, sxo_cons, sxo_guard, gdS_bool, gdS_eff, gdS_tup, gdS_sel, gdS_seleff, sxK_def, wcall_some, effP_ret, effP_set, effP_none, effP_ite, wop_call, wop_cv, cvP_func, sx_ret, sx_exit, sx_skip, sx_clr, sx_fresh, stays, ↓selV_wt, ↓selV_wf, ↓impB_wt, ↓impB_wf, ↓selV_nor, ↓impB_nor, ↓selV_nt, ↓selV_nf, ↓impB_nt, ↓impB_nf, wantB_true, wantB_false, ↓selV_true, ↓selV_false, ↓selV_and, ↓impB_true, ↓impB_false, ↓impB_and, impB_triv, valOf_some, retH_some, ↓prim_pick, pickO_true, pickO_false, pickO_and, pickO_or, pickO_andr, pickO_orr, pickO_orrn, pickO_orn, pickO_bb, pickAnd_bool, pickOr_bool, ↓selV_nn, ↓impB_nn, Bool.and_assoc, Bool.or_assoc, doOp, ev_fr, ev_cst, put_none, put_fr, get, ins, del, dels, Nat.reduceLT, Nat.reduceEqDiff, ↓reduceIte, reduceCtorEq, ne_eq, not_false_eq_true, implies_true, framed_pureF, framed_fb, framed_N, framed_pure, wop_prim, prim, YLD, mkA, V.cells, List.getElem?_cons_zero, List.getElem?_cons_succ, List.set_cons_zero, List.set_cons_succ, Nat.zero_add, Nat.add_zero, Nat.reduceAdd, Nat.reduceSub, Nat.reduceMul, Nat.reduceLeDiff, Nat.not_lt_zero, List.map_cons, List.map_nil, List.cons_append, List.nil_append, loadA, cellsAt, nAg, packA, opt_bind_some, opt_map_some, opt_bind_none, opt_map_none, List.drop, List.take, List.head?, List.length_cons, List.length_nil, binA, unA, eqCells, eqCell, negB, fillA, sr_nil, sr_cons, sr_succ, sr_all, sr_len, storeA, Ob.with, indexedI, V.oneCell, intOf?, retQ_ret, retQ_norm, resA, resA1, fr_getD, packR, sealDepth, shut_bool, shut_int, Option.some.injEq, V.bool.injEq, V.int.injEq, Bool.not_true, Bool.not_false, true_and, and_true, and_self, Bool.and_true, Bool.and_false, Bool.true_and, Bool.false_and, Bool.or_true, Bool.or_false, Bool.true_or, Bool.false_or, Bool.false_eq_true, Int.reduceLT, Int.reduceLE, Int.reduceToNat, Int.reduceNeg, shut_plain, freeL_cons, freeL_nil, free_int, free_bool, free_agg, free_str, free_nils, free_tup, free_sl, true_implies, false_implies, Nat.sub_zero, Int.natCast_nonneg, Int.toNat_natCast, Nat.le_refl, not_true_eq_false, Int.reduceAdd, Int.reduceSub, Int.reduceMul, wrap64, false_and, and_false, cond_true, cond_false, Bool.cond_true_left, Bool.cond_false_right, Int.reduceBNe, Int.reduceBEq, decide_true, decide_false, Int.cast_ofNat_Int, Nat.mul_one, eq_self, Bool.true_eq_false, Bool.not_eq_true, Bool.not_eq_false, deads, List.replicate, argsF, am18, sx_drawd, reachC_nil, wpd_nil, wpd_cons, wdK_def, fpOf, fpV, fpCall, Fp.ok, disj, List.contains_cons, List.contains_nil, Nat.reduceBEq, List.all_append, V.objsL, V.objs,  List.getD_cons_zero, List.getD_cons_succ, List.append_nil, app_get0, app_get, app_set0, app_set, e0', d0, c22, hlen, hlW, oa, p1, p2, p3, p4, hal0, q1, q2, r0, r1, r2, r3, r4, r5, t1, t2, t3, t4, t5, t7, wl, wg, v1, v2, isNil, cut_cs, cut_first, cut_owes, cut_got, -List.drop, -List.take, x1, x2, x3, x4, x5, x6, x7, x8]
                  exact ⟨rfl, W, (by first | exact ha0 | (rw [List.drop_zero]; exact ha0)), bey0⟩
                | false =>
                  cases x9 : ((d.seq == 0) && decide ((l.length : Int) > 0)) with
                  | true =>
                    have hr : rejD s L.length d l.length = true := by simp only [rejD, x1, x2, x3, x4, x5, x6, x7, x8, x9, Bool.or_true, Bool.true_or, Bool.false_or, Bool.or_false]
                    simp only [comeS, comeK, comeB, hr, cond_true, Bool.not_true, Bool.false_and]
                    simp +contextual -implicitDefEqProofs (maxSteps := 10000000) only [sx_seq, sxL_succ, lpQ_norm, lpQ_exit, lpQ_ret, loopQ_norm, loopQ_exit, loopQ_ret, sqQ_norm, sqQ_ret, sqQ_exit, sx_block, blkQ_norm, blkQ_exit, blkQ_ret, sx_cond, cdP_true, cdP_false, cdP_bool, sx_region, sx_draw, plainD, List.all_cons, List.all_nil, List.isEmpty_nil, List.isEmpty_cons, sxo_nil, sxo_cons, sxo_guard, gdS_bool, gdS_eff, gdS_tup, gdS_sel, gdS_seleff, sxK_def, wcall_some, effP_ret, effP_set, effP_none, effP_ite, wop_call, wop_cv, cvP_func, sx_ret, sx_exit, sx_skip, sx_clr, sx_fresh, stays, ↓selV_wt, ↓selV_wf, ↓impB_wt, ↓impB_wf, ↓selV_nor, ↓impB_nor, ↓selV_nt, ↓selV_nf, ↓impB_nt, ↓impB_nf, wantB_true, wantB_false, ↓selV_true, ↓selV_false, ↓selV_and, ↓impB_true, ↓impB_false, ↓impB_and, impB_triv, valOf_some, retH_some, ↓prim_pick, pickO_true, pickO_false, pickO_and, pickO_or, pickO_andr, pickO_orr, pickO_orrn, pickO_orn, pickO_bb, pickAnd_bool, pickOr_bool, ↓selV_nn, ↓impB_nn, Bool.and_assoc, Bool.or_assoc, doOp, ev_fr, ev_cst, put_none, put_fr, get, ins, del, dels, Nat.reduceLT, Nat.reduceEqDiff, ↓reduceIte, reduceCtorEq, ne_eq, not_false_eq_true, implies_true, framed_pureF, framed_fb, framed_N, framed_pure, wop_prim, prim, YLD, mkA, V.cells, List.getElem?_cons_zero, List.getElem?_cons_succ, List.set_cons_zero, List.set_cons_succ, Nat.zero_add, Nat.add_zero, Nat.reduceAdd, Nat.reduceSub, Nat.reduceMul, Nat.reduceLeDiff, Nat.not_lt_zero, List.map_cons, List.map_nil, List.cons_append, List.nil_append, loadA, cellsAt, nAg, packA, opt_bind_some, opt_map_some, opt_bind_none, opt_map_none, List.drop, List.take, List.head?, List.length_cons, List.length_nil, binA, unA, eqCells, eqCell, negB, fillA, sr_nil, sr_cons, sr_succ, sr_all, sr_len, storeA, Ob.with, indexedI, V.oneCell, intOf?, retQ_ret, retQ_norm, resA, resA1, fr_getD, packR, sealDepth, shut_bool, shut_int, Option.some.injEq, V.bool.injEq, V.int.injEq, Bool.not_true, Bool.not_false, true_and, and_true, and_self, Bool.and_true, Bool.and_false, Bool.true_and, Bool.false_and, Bool.or_true, Bool.or_false, Bool.true_or, Bool.false_or, Bool.false_eq_true, Int.reduceLT, Int.reduceLE, Int.reduceToNat, Int.reduceNeg, shut_plain, freeL_cons, freeL_nil, free_int, free_bool, free_agg, free_str, free_nils, free_tup, free_sl, true_implies, false_implies, Nat.sub_zero, Int.natCast_nonneg, Int.toNat_natCast, Nat.le_refl, not_true_eq_false, Int.reduceAdd, Int.reduceSub, Int.reduceMul, wrap64, false_and, and_false, cond_true, cond_false, Bool.cond_true_left, Bool.cond_false_right, Int.reduceBNe, Int.reduceBEq, decide_true, decide_false, Int.cast_ofNat_Int, Nat.mul_one, eq_self, Bool.true_eq_false, Bool.not_eq_true, Bool.not_eq_false, deads, List.replicate, argsF, am18, sx_drawd, reachC_nil, wpd_nil, wpd_cons, wdK_def, fpOf, fpV, fpCall, Fp.ok, disj, List.contains_cons, List.contains_nil, Nat.reduceBEq, List.all_append, V.objsL, V.objs,  List.getD_cons_zero, List.getD_cons_succ, List.append_nil, app_get0, app_get, app_set0, app_set, e0', d0, c22, hlen, hlW, oa, p1, p2, p3, p4, hal0, q1, q2, r0, r1, r2, r3, r4, r5, t1, t2, t3, t4, t5, t7, wl, wg, v1, v2, isNil, cut_cs, cut_first, cut_owes, cut_got, -List.drop, -List.take, x1, x2, x3, x4, x5, x6, x7, x8, x9]
                    exact ⟨rfl, W, (by first | exact ha0 | (rw [List.drop_zero]; exact ha0)), bey0⟩
                  | false =>
                    have hr : rejD s L.length d l.length = false := by simp only [rejD, x1, x2, x3, x4, x5, x6, x7, x8, x9, Bool.or_true, Bool.true_or, Bool.false_or, Bool.or_false]
                    have hl : l.length ≤ 256 := by
                      have : (l.length : Int) ≤ 256 := by simpa using x8
                      omega
                    have ha1 : d.ack ≤ s.first + (L.length : Int) - 1 := by simpa using x7
                    obtain ⟨b', hb', c23⟩ := @clone_spec N n (by omega) l b hb (by omega)
                    have hcls : ∀ (z : Int), (z == 0) = true → z = 0 := fun z hz => by simpa using hz
                    cases y1 : decide (d.ack ≥ s.first) with
                    | true =>
                      have ha2 : d.ack ≥ s.first := of_decide_eq_true y1
                      obtain ⟨k, hk⟩ := Int.eq_ofNat_of_zero_le (show 0 ≤ d.ack - s.first + 1 by omega)
                      have hkt : (d.ack - s.first + 1).toNat = k := by rw [hk, Int.toNat_natCast]
                      have wk : IntKind.i64.wrap (IntKind.i64.wrap (d.ack - s.first) + 1) = (k : Int) := by
                        rw [wrap64 (n := d.ack - s.first) (by omega) (by omega), wrap64 (by omega) (by omega), hk]
                      have wa : IntKind.i64.wrap (d.ack + 1) = d.ack + 1 := wrap64 (by omega) (by omega)
                      obtain ⟨W', hS, hrow'⟩ := ha0.row.drop ha.bods.objs (k := k) (by omega)
                      obtain ⟨u1, u2, u3, u4, u5, u6⟩ := hrow'.shape
                      have hsub : ∀ c ∈ L.drop k, c ∈ L := fun c hc => List.mem_of_mem_drop hc
                      cases z1 : (d.seq == 0) with
                      | true =>
                        have x9' := x9
                        rw [z1, Bool.true_and] at x9'
                        simp only [comeS, comeK, comeB, hr, ackS, seqS, y1, z1, hkt, cond_true, cond_false, Bool.not_true, Bool.not_false, Bool.true_and, Bool.false_and]
                        simp +contextual -implicitDefEqProofs (maxSteps := 10000000) only [sx_seq, sxL_succ, lpQ_norm, lpQ_exit, lpQ_ret, loopQ_norm, loopQ_exit, loopQ_ret, sqQ_norm, sqQ_ret, sqQ_exit, sx_block, blkQ_norm, blkQ_exit, blkQ_ret, sx_cond, cdP_true, cdP_false, cdP_bool, sx_region, sx_draw, plainD, List.all_cons, List.all_nil, List.isEmpty_nil, List.isEmpty_cons, sxo_nil, sxo_cons, sxo_guard, gdS_bool, gdS_eff, gdS_tup, gdS_sel, gdS_seleff, sxK_def, wcall_some, effP_ret, effP_set, effP_none, effP_ite, wop_call, wop_cv, cvP_func, sx_ret, sx_exit, sx_skip, sx_clr, sx_fresh, stays, ↓selV_wt, ↓selV_wf, ↓impB_wt, ↓impB_wf, ↓selV_nor, ↓impB_nor, ↓selV_nt, ↓selV_nf, ↓impB_nt, ↓impB_nf, wantB_true, wantB_false, ↓selV_true, ↓selV_false, ↓selV_and, ↓impB_true, ↓impB_false, ↓impB_and, impB_triv, valOf_some, retH_some, ↓prim_pick, pickO_true, pickO_false, pickO_and, pickO_or, pickO_andr, pickO_orr, pickO_orrn, pickO_orn, pickO_bb, pickAnd_bool, pickOr_bool, ↓selV_nn, ↓impB_nn, Bool.and_assoc, Bool.or_assoc, doOp, ev_fr, ev_cst, put_none, put_fr, get, ins, del, dels, Nat.reduceLT, Nat.reduceEqDiff, ↓reduceIte, reduceCtorEq, ne_eq, not_false_eq_true, implies_true, framed_pureF, framed_fb, framed_N, framed_pure, wop_prim, prim, YLD, mkA, V.cells, List.getElem?_cons_zero, List.getElem?_cons_succ, List.set_cons_zero, List.set_cons_succ, Nat.zero_add, Nat.add_zero, Nat.reduceAdd, Nat.reduceSub, Nat.reduceMul, Nat.reduceLeDiff, Nat.not_lt_zero, List.map_cons, List.map_nil, List.cons_append, List.nil_append, loadA, cellsAt, nAg, packA, opt_bind_some, opt_map_some, opt_bind_none, opt_map_none, List.drop, List.take, List.head?, List.length_cons, List.length_nil, binA, unA, eqCells, eqCell, negB, fillA, sr_nil, sr_cons, sr_succ, sr_all, sr_len, storeA, Ob.with, indexedI, V.oneCell, intOf?, retQ_ret, retQ_norm, resA, resA1, fr_getD, packR, sealDepth, shut_bool, shut_int, Option.some.injEq, V.bool.injEq, V.int.injEq, Bool.not_true, Bool.not_false, true_and, and_true, and_self, Bool.and_true, Bool.and_false, Bool.true_and, Bool.false_and, Bool.or_true, Bool.or_false, Bool.true_or, Bool.false_or, Bool.false_eq_true, Int.reduceLT, Int.reduceLE, Int.reduceToNat, Int.reduceNeg, shut_plain, freeL_cons, freeL_nil, free_int, free_bool, free_agg, free_str, free_nils, free_tup, free_sl, true_implies, false_implies, Nat.sub_zero, Int.natCast_nonneg, Int.toNat_natCast, Nat.le_refl, not_true_eq_false, Int.reduceAdd, Int.reduceSub, Int.reduceMul, wrap64, false_and, and_false, cond_true, cond_false, Bool.cond_true_left, Bool.cond_false_right, Int.reduceBNe, Int.reduceBEq, decide_true, decide_false, Int.cast_ofNat_Int, Nat.mul_one, eq_self, Bool.true_eq_false, Bool.not_eq_true, Bool.not_eq_false, deads, List.replicate, argsF, am18, sx_drawd, reachC_nil, wpd_nil, wpd_cons, wdK_def, fpOf, fpV, fpCall, Fp.ok, disj, List.contains_cons, List.contains_nil, Nat.reduceBEq, List.all_append, V.objsL, V.objs,  List.getD_cons_zero, List.getD_cons_succ, List.append_nil, app_get0, app_get, app_set0, app_set, e0', d0, c22, hlen, hlW, oa, p1, p2, p3, p4, hal0, q1, q2, r0, r1, r2, r3, r4, r5, t1, t2, t3, t4, t5, t7, wl, wg, v1, v2, isNil, cut_cs, cut_first, cut_owes, cut_got, -List.drop, -List.take, x1, x2, x3, x4, x5, x6, x7, x8, x9', y1, z1, wk, wa, hS, u1, u2]
                        exact ⟨rfl, W', sat _ _ _ hrow' hsub, bey _⟩
                      | false =>
                        cases z2 : (d.seq != s.got + 1) with
                        | true =>
                          simp only [comeS, comeK, comeB, hr, ackS, seqS, y1, z1, z2, hkt, cond_true, cond_false, Bool.not_true, Bool.not_false, Bool.true_and, Bool.false_and, Bool.and_true, Bool.and_false]
                          simp +contextual -implicitDefEqProofs (maxSteps := 10000000) only [sx_seq, sxL_succ, lpQ_norm, lpQ_exit, lpQ_ret, loopQ_norm, loopQ_exit, loopQ_ret, sqQ_norm, sqQ_ret, sqQ_exit, sx_block, blkQ_norm, blkQ_exit, blkQ_ret, sx_cond, cdP_true, cdP_false, cdP_bool, sx_region, sx_draw, plainD, List.all_cons, List.all_nil, List.isEmpty_nil, List.isEmpty_cons, sxo_nil, sxo_cons, sxo_guard, gdS_bool, gdS_eff, gdS_tup, gdS_sel, gdS_seleff, sxK_def, wcall_some, effP_ret, effP_set, effP_none, effP_ite, wop_call, wop_cv, cvP_func, sx_ret, sx_exit, sx_skip, sx_clr, sx_fresh, stays, ↓selV_wt, ↓selV_wf, ↓impB_wt, ↓impB_wf, ↓selV_nor, ↓impB_nor, ↓selV_nt, ↓selV_nf, ↓impB_nt, ↓impB_nf, wantB_true, wantB_false, ↓selV_true, ↓selV_false, ↓selV_and, ↓impB_true, ↓impB_false, ↓impB_and, impB_triv, valOf_some, retH_some, ↓prim_pick, pickO_true, pickO_false, pickO_and, pickO_or, pickO_andr, pickO_orr, pickO_orrn, pickO_orn, pickO_bb, pickAnd_bool, pickOr_bool, ↓selV_nn, ↓impB_nn, Bool.and_assoc, Bool.or_assoc, doOp, ev_fr, ev_cst, put_none, put_fr, get, ins, del, dels, Nat.reduceLT, Nat.reduceEqDiff, ↓reduceIte, reduceCtorEq, ne_eq, not_false_eq_true, implies_true, framed_pureF, framed_fb, framed_N, framed_pure, wop_prim, prim, YLD, mkA, V.cells, List.getElem?_cons_zero, List.getElem?_cons_succ, List.set_cons_zero, List.set_cons_succ, Nat.zero_add, Nat.add_zero, Nat.reduceAdd, Nat.reduceSub, Nat.reduceMul, Nat.reduceLeDiff, Nat.not_lt_zero, List.map_cons, List.map_nil, List.cons_append, List.nil_append, loadA, cellsAt, nAg, packA, opt_bind_some, opt_map_some, opt_bind_none, opt_map_none, List.drop, List.take, List.head?, List.length_cons, List.length_nil, binA, unA, eqCells, eqCell, negB, fillA, sr_nil, sr_cons, sr_succ, sr_all, sr_len, storeA, Ob.with, indexedI, V.oneCell, intOf?, retQ_ret, retQ_norm, resA, resA1, fr_getD, packR, sealDepth, shut_bool, shut_int, Option.some.injEq, V.bool.injEq, V.int.injEq, Bool.not_true, Bool.not_false, true_and, and_true, and_self, Bool.and_true, Bool.and_false, Bool.true_and, Bool.false_and, Bool.or_true, Bool.or_false, Bool.true_or, Bool.false_or, Bool.false_eq_true, Int.reduceLT, Int.reduceLE, Int.reduceToNat, Int.reduceNeg, shut_plain, freeL_cons, freeL_nil, free_int, free_bool, free_agg, free_str, free_nils, free_tup, free_sl, true_implies, false_implies, Nat.sub_zero, Int.natCast_nonneg, Int.toNat_natCast, Nat.le_refl, not_true_eq_false, Int.reduceAdd, Int.reduceSub, Int.reduceMul, wrap64, false_and, and_false, cond_true, cond_false, Bool.cond_true_left, Bool.cond_false_right, Int.reduceBNe, Int.reduceBEq, decide_true, decide_false, Int.cast_ofNat_Int, Nat.mul_one, eq_self, Bool.true_eq_false, Bool.not_eq_true, Bool.not_eq_false, deads, List.replicate, argsF, am18, sx_drawd, reachC_nil, wpd_nil, wpd_cons, wdK_def, fpOf, fpV, fpCall, Fp.ok, disj, List.contains_cons, List.contains_nil, Nat.reduceBEq, List.all_append, V.objsL, V.objs,  List.getD_cons_zero, List.getD_cons_succ, List.append_nil, app_get0, app_get, app_set0, app_set, e0', d0, c22, hlen, hlW, oa, p1, p2, p3, p4, hal0, q1, q2, r0, r1, r2, r3, r4, r5, t1, t2, t3, t4, t5, t7, wl, wg, v1, v2, isNil, cut_cs, cut_first, cut_owes, cut_got, -List.drop, -List.take, x1, x2, x3, x4, x5, x6, x7, x8, y1, z1, z2, wk, wa, hS, u1, u2]
                          exact ⟨rfl, W', sat _ _ _ hrow' hsub, bey _⟩
                        | false =>
                          simp only [comeS, comeK, comeB, hr, ackS, seqS, y1, z1, z2, hkt, cond_true, cond_false, Bool.not_true, Bool.not_false, Bool.true_and, Bool.false_and, Bool.and_true, Bool.and_false]
                          simp +contextual -implicitDefEqProofs (maxSteps := 10000000) only [sx_seq, sxL_succ, lpQ_norm, lpQ_exit, lpQ_ret, loopQ_norm, loopQ_exit, loopQ_ret, sqQ_norm, sqQ_ret, sqQ_exit, sx_block, blkQ_norm, blkQ_exit, blkQ_ret, sx_cond, cdP_true, cdP_false, cdP_bool, sx_region, sx_draw, plainD, List.all_cons, List.all_nil, List.isEmpty_nil, List.isEmpty_cons, sxo_nil, sxo_cons, sxo_guard, gdS_bool, gdS_eff, gdS_tup, gdS_sel, gdS_seleff, sxK_def, wcall_some, effP_ret, effP_set, effP_none, effP_ite, wop_call, wop_cv, cvP_func, sx_ret, sx_exit, sx_skip, sx_clr, sx_fresh, stays, ↓selV_wt, ↓selV_wf, ↓impB_wt, ↓impB_wf, ↓selV_nor, ↓impB_nor, ↓selV_nt, ↓selV_nf, ↓impB_nt, ↓impB_nf, wantB_true, wantB_false, ↓selV_true, ↓selV_false, ↓selV_and, ↓impB_true, ↓impB_false, ↓impB_and, impB_triv, valOf_some, retH_some, ↓prim_pick, pickO_true, pickO_false, pickO_and, pickO_or, pickO_andr, pickO_orr, pickO_orrn, pickO_orn, pickO_bb, pickAnd_bool, pickOr_bool, ↓selV_nn, ↓impB_nn, Bool.and_assoc, Bool.or_assoc, doOp, ev_fr, ev_cst, put_none, put_fr, get, ins, del, dels, Nat.reduceLT, Nat.reduceEqDiff, ↓reduceIte, reduceCtorEq, ne_eq, not_false_eq_true, implies_true, framed_pureF, framed_fb, framed_N, framed_pure, wop_prim, prim, YLD, mkA, V.cells, List.getElem?_cons_zero, List.getElem?_cons_succ, List.set_cons_zero, List.set_cons_succ, Nat.zero_add, Nat.add_zero, Nat.reduceAdd, Nat.reduceSub, Nat.reduceMul, Nat.reduceLeDiff, Nat.not_lt_zero, List.map_cons, List.map_nil, List.cons_append, List.nil_append, loadA, cellsAt, nAg, packA, opt_bind_some, opt_map_some, opt_bind_none, opt_map_none, List.drop, List.take, List.head?, List.length_cons, List.length_nil, binA, unA, eqCells, eqCell, negB, fillA, sr_nil, sr_cons, sr_succ, sr_all, sr_len, storeA, Ob.with, indexedI, V.oneCell, intOf?, retQ_ret, retQ_norm, resA, resA1, fr_getD, packR, sealDepth, shut_bool, shut_int, Option.some.injEq, V.bool.injEq, V.int.injEq, Bool.not_true, Bool.not_false, true_and, and_true, and_self, Bool.and_true, Bool.and_false, Bool.true_and, Bool.false_and, Bool.or_true, Bool.or_false, Bool.true_or, Bool.false_or, Bool.false_eq_true, Int.reduceLT, Int.reduceLE, Int.reduceToNat, Int.reduceNeg, shut_plain, freeL_cons, freeL_nil, free_int, free_bool, free_agg, free_str, free_nils, free_tup, free_sl, true_implies, false_implies, Nat.sub_zero, Int.natCast_nonneg, Int.toNat_natCast, Nat.le_refl, not_true_eq_false, Int.reduceAdd, Int.reduceSub, Int.reduceMul, wrap64, false_and, and_false, cond_true, cond_false, Bool.cond_true_left, Bool.cond_false_right, Int.reduceBNe, Int.reduceBEq, decide_true, decide_false, Int.cast_ofNat_Int, Nat.mul_one, eq_self, Bool.true_eq_false, Bool.not_eq_true, Bool.not_eq_false, deads, List.replicate, argsF, am18, sx_drawd, reachC_nil, wpd_nil, wpd_cons, wdK_def, fpOf, fpV, fpCall, Fp.ok, disj, List.contains_cons, List.contains_nil, Nat.reduceBEq, List.all_append, V.objsL, V.objs,  List.getD_cons_zero, List.getD_cons_succ, List.append_nil, app_get0, app_get, app_set0, app_set, e0', d0, c22, hlen, hlW, oa, p1, p2, p3, p4, hal0, q1, q2, r0, r1, r2, r3, r4, r5, t1, t2, t3, t4, t5, t7, wl, wg, v1, v2, isNil, cut_cs, cut_first, cut_owes, cut_got, -List.drop, -List.take, x1, x2, x3, x4, x5, x6, x7, x8, y1, z1, z2, wk, wa, hS, u1, u2, c23]
                          exact ⟨⟨b', hb', rfl⟩, W', sat _ _ _ hrow' hsub, bey _⟩
                    | false =>
                      have hrow' : WRow h0 W (L.drop 0) R := by rw [List.drop_zero]; exact ha0.row
                      have hsub : ∀ c ∈ L.drop 0, c ∈ L := fun c hc => by rw [List.drop_zero] at hc; exact hc
                      have wk := wg
                      cases z1 : (d.seq == 0) with
                      | true =>
                        have x9' := x9
                        rw [z1, Bool.true_and] at x9'
                        simp only [comeS, comeK, comeB, hr, ackS, seqS, y1, z1, cond_true, cond_false, Bool.not_true, Bool.not_false, Bool.true_and, Bool.false_and]
                        simp +contextual -implicitDefEqProofs (maxSteps := 10000000) only [sx_seq, sxL_succ, lpQ_norm, lpQ_exit, lpQ_ret, loopQ_norm, loopQ_exit, loopQ_ret, sqQ_norm, sqQ_ret, sqQ_exit, sx_block, blkQ_norm, blkQ_exit, blkQ_ret, sx_cond, cdP_true, cdP_false, cdP_bool, sx_region, sx_draw, plainD, List.all_cons, List.all_nil, List.isEmpty_nil, List.isEmpty_cons, sxo_nil, sxo_cons, sxo_guard, gdS_bool, gdS_eff, gdS_tup, gdS_sel, gdS_seleff, sxK_def, wcall_some, effP_ret, effP_set, effP_none, effP_ite, wop_call, wop_cv, cvP_func, sx_ret, sx_exit, sx_skip, sx_clr, sx_fresh, stays, ↓selV_wt, ↓selV_wf, ↓impB_wt, ↓impB_wf, ↓selV_nor, ↓impB_nor, ↓selV_nt, ↓selV_nf, ↓impB_nt, ↓impB_nf, wantB_true, wantB_false, ↓selV_true, ↓selV_false, ↓selV_and, ↓impB_true, ↓impB_false, ↓impB_and, impB_triv, valOf_some, retH_some, ↓prim_pick, pickO_true, pickO_false, pickO_and, pickO_or, pickO_andr, pickO_orr, pickO_orrn, pickO_orn, pickO_bb, pickAnd_bool, pickOr_bool, ↓selV_nn, ↓impB_nn, Bool.and_assoc, Bool.or_assoc, doOp, ev_fr, ev_cst, put_none, put_fr, get, ins, del, dels, Nat.reduceLT, Nat.reduceEqDiff, ↓reduceIte, reduceCtorEq, ne_eq, not_false_eq_true, implies_true, framed_pureF, framed_fb, framed_N, framed_pure, wop_prim, prim, YLD, mkA, V.cells, List.getElem?_cons_zero, List.getElem?_cons_succ, List.set_cons_zero, List.set_cons_succ, Nat.zero_add, Nat.add_zero, Nat.reduceAdd, Nat.reduceSub, Nat.reduceMul, Nat.reduceLeDiff, Nat.not_lt_zero, List.map_cons, List.map_nil, List.cons_append, List.nil_append, loadA, cellsAt, nAg, packA, opt_bind_some, opt_map_some, opt_bind_none, opt_map_none, List.drop, List.take, List.head?, List.length_cons, List.length_nil, binA, unA, eqCells, eqCell, negB, fillA, sr_nil, sr_cons, sr_succ, sr_all, sr_len, storeA, Ob.with, indexedI, V.oneCell, intOf?, retQ_ret, retQ_norm, resA, resA1, fr_getD, packR, sealDepth, shut_bool, shut_int, Option.some.injEq, V.bool.injEq, V.int.injEq, Bool.not_true, Bool.not_false, true_and, and_true, and_self, Bool.and_true, Bool.and_false, Bool.true_and, Bool.false_and, Bool.or_true, Bool.or_false, Bool.true_or, Bool.false_or, Bool.false_eq_true, Int.reduceLT, Int.reduceLE, Int.reduceToNat, Int.reduceNeg, shut_plain, freeL_cons, freeL_nil, free_int, free_bool, free_agg, free_str, free_nils, free_tup, free_sl, true_implies, false_implies, Nat.sub_zero, Int.natCast_nonneg, Int.toNat_natCast, Nat.le_refl, not_true_eq_false, Int.reduceAdd, Int.reduceSub, Int.reduceMul, wrap64, false_and, and_false, cond_true, cond_false, Bool.cond_true_left, Bool.cond_false_right, Int.reduceBNe, Int.reduceBEq, decide_true, decide_false, Int.cast_ofNat_Int, Nat.mul_one, eq_self, Bool.true_eq_false, Bool.not_eq_true, Bool.not_eq_false, deads, List.replicate, argsF, am18, sx_drawd, reachC_nil, wpd_nil, wpd_cons, wdK_def, fpOf, fpV, fpCall, Fp.ok, disj, List.contains_cons, List.contains_nil, Nat.reduceBEq, List.all_append, V.objsL, V.objs,  List.getD_cons_zero, List.getD_cons_succ, List.append_nil, app_get0, app_get, app_set0, app_set, e0', d0, c22, hlen, hlW, oa, p1, p2, p3, p4, hal0, q1, q2, r0, r1, r2, r3, r4, r5, t1, t2, t3, t4, t5, t7, wl, wg, v1, v2, isNil, cut_cs, cut_first, cut_owes, cut_got, -List.drop, -List.take, x1, x2, x3, x4, x5, x6, x7, x8, x9', y1, z1, wk]
                        exact ⟨rfl, W, (by first | exact ha0 | (rw [List.drop_zero]; exact ha0)), bey0⟩
                      | false =>
                        cases z2 : (d.seq != s.got + 1) with
                        | true =>
                          simp only [comeS, comeK, comeB, hr, ackS, seqS, y1, z1, z2, cond_true, cond_false, Bool.not_true, Bool.not_false, Bool.true_and, Bool.false_and, Bool.and_true, Bool.and_false]
                          simp +contextual -implicitDefEqProofs (maxSteps := 10000000) only [sx_seq, sxL_succ, lpQ_norm, lpQ_exit, lpQ_ret, loopQ_norm, loopQ_exit, loopQ_ret, sqQ_norm, sqQ_ret, sqQ_exit, sx_block, blkQ_norm, blkQ_exit, blkQ_ret, sx_cond, cdP_true, cdP_false, cdP_bool, sx_region, sx_draw, plainD, List.all_cons, List.all_nil, List.isEmpty_nil, List.isEmpty_cons, sxo_nil, sxo_cons, sxo_guard, gdS_bool, gdS_eff, gdS_tup, gdS_sel, gdS_seleff, sxK_def, wcall_some, effP_ret, effP_set, effP_none, effP_ite, wop_call, wop_cv, cvP_func, sx_ret, sx_exit, sx_skip, sx_clr, sx_fresh, stays, ↓selV_wt, ↓selV_wf, ↓impB_wt, ↓impB_wf, ↓selV_nor, ↓impB_nor, ↓selV_nt, ↓selV_nf, ↓impB_nt, ↓impB_nf, wantB_true, wantB_false, ↓selV_true, ↓selV_false, ↓selV_and, ↓impB_true, ↓impB_false, ↓impB_and, impB_triv, valOf_some, retH_some, ↓prim_pick, pickO_true, pickO_false, pickO_and, pickO_or, pickO_andr, pickO_orr, pickO_orrn, pickO_orn, pickO_bb, pickAnd_bool, pickOr_bool, ↓selV_nn, ↓impB_nn, Bool.and_assoc, Bool.or_assoc, doOp, ev_fr, ev_cst, put_none, put_fr, get, ins, del, dels, Nat.reduceLT, Nat.reduceEqDiff, ↓reduceIte, reduceCtorEq, ne_eq, not_false_eq_true, implies_true, framed_pureF, framed_fb, framed_N, framed_pure, wop_prim, prim, YLD, mkA, V.cells, List.getElem?_cons_zero, List.getElem?_cons_succ, List.set_cons_zero, List.set_cons_succ, Nat.zero_add, Nat.add_zero, Nat.reduceAdd, Nat.reduceSub, Nat.reduceMul, Nat.reduceLeDiff, Nat.not_lt_zero, List.map_cons, List.map_nil, List.cons_append, List.nil_append, loadA, cellsAt, nAg, packA, opt_bind_some, opt_map_some, opt_bind_none, opt_map_none, List.drop, List.take, List.head?, List.length_cons, List.length_nil, binA, unA, eqCells, eqCell, negB, fillA, sr_nil, sr_cons, sr_succ, sr_all, sr_len, storeA, Ob.with, indexedI, V.oneCell, intOf?, retQ_ret, retQ_norm, resA, resA1, fr_getD, packR, sealDepth, shut_bool, shut_int, Option.some.injEq, V.bool.injEq, V.int.injEq, Bool.not_true, Bool.not_false, true_and, and_true, and_self, Bool.and_true, Bool.and_false, Bool.true_and, Bool.false_and, Bool.or_true, Bool.or_false, Bool.true_or, Bool.false_or, Bool.false_eq_true, Int.reduceLT, Int.reduceLE, Int.reduceToNat, Int.reduceNeg, shut_plain, freeL_cons, freeL_nil, free_int, free_bool, free_agg, free_str, free_nils, free_tup, free_sl, true_implies, false_implies, Nat.sub_zero, Int.natCast_nonneg, Int.toNat_natCast, Nat.le_refl, not_true_eq_false, Int.reduceAdd, Int.reduceSub, Int.reduceMul, wrap64, false_and, and_false, cond_true, cond_false, Bool.cond_true_left, Bool.cond_false_right, Int.reduceBNe, Int.reduceBEq, decide_true, decide_false, Int.cast_ofNat_Int, Nat.mul_one, eq_self, Bool.true_eq_false, Bool.not_eq_true, Bool.not_eq_false, deads, List.replicate, argsF, am18, sx_drawd, reachC_nil, wpd_nil, wpd_cons, wdK_def, fpOf, fpV, fpCall, Fp.ok, disj, List.contains_cons, List.contains_nil, Nat.reduceBEq, List.all_append, V.objsL, V.objs,  List.getD_cons_zero, List.getD_cons_succ, List.append_nil, app_get0, app_get, app_set0, app_set, e0', d0, c22, hlen, hlW, oa, p1, p2, p3, p4, hal0, q1, q2, r0, r1, r2, r3, r4, r5, t1, t2, t3, t4, t5, t7, wl, wg, v1, v2, isNil, cut_cs, cut_first, cut_owes, cut_got, -List.drop, -List.take, x1, x2, x3, x4, x5, x6, x7, x8, y1, z1, z2, wk]
                          exact ⟨rfl, W, sat _ _ _ hrow' hsub, bey _⟩
                        | false =>
                          simp only [comeS, comeK, comeB, hr, ackS, seqS, y1, z1, z2, cond_true, cond_false, Bool.not_true, Bool.not_false, Bool.true_and, Bool.false_and, Bool.and_true, Bool.and_false]
                          simp +contextual -implicitDefEqProofs (maxSteps := 10000000) only [sx_seq, sxL_succ, lpQ_norm, lpQ_exit, lpQ_ret, loopQ_norm, loopQ_exit, loopQ_ret, sqQ_norm, sqQ_ret, sqQ_exit, sx_block, blkQ_norm, blkQ_exit, blkQ_ret, sx_cond, cdP_true, cdP_false, cdP_bool, sx_region, sx_draw, plainD, List.all_cons, List.all_nil, List.isEmpty_nil, List.isEmpty_cons, sxo_nil, sxo_cons, sxo_guard, gdS_bool, gdS_eff, gdS_tup, gdS_sel, gdS_seleff, sxK_def, wcall_some, effP_ret, effP_set, effP_none, effP_ite, wop_call, wop_cv, cvP_func, sx_ret, sx_exit, sx_skip, sx_clr, sx_fresh, stays, ↓selV_wt, ↓selV_wf, ↓impB_wt, ↓impB_wf, ↓selV_nor, ↓impB_nor, ↓selV_nt, ↓selV_nf, ↓impB_nt, ↓impB_nf, wantB_true, wantB_false, ↓selV_true, ↓selV_false, ↓selV_and, ↓impB_true, ↓impB_false, ↓impB_and, impB_triv, valOf_some, retH_some, ↓prim_pick, pickO_true, pickO_false, pickO_and, pickO_or, pickO_andr, pickO_orr, pickO_orrn, pickO_orn, pickO_bb, pickAnd_bool, pickOr_bool, ↓selV_nn, ↓impB_nn, Bool.and_assoc, Bool.or_assoc, doOp, ev_fr, ev_cst, put_none, put_fr, get, ins, del, dels, Nat.reduceLT, Nat.reduceEqDiff, ↓reduceIte, reduceCtorEq, ne_eq, not_false_eq_true, implies_true, framed_pureF, framed_fb, framed_N, framed_pure, wop_prim, prim, YLD, mkA, V.cells, List.getElem?_cons_zero, List.getElem?_cons_succ, List.set_cons_zero, List.set_cons_succ, Nat.zero_add, Nat.add_zero, Nat.reduceAdd, Nat.reduceSub, Nat.reduceMul, Nat.reduceLeDiff, Nat.not_lt_zero, List.map_cons, List.map_nil, List.cons_append, List.nil_append, loadA, cellsAt, nAg, packA, opt_bind_some, opt_map_some, opt_bind_none, opt_map_none, List.drop, List.take, List.head?, List.length_cons, List.length_nil, binA, unA, eqCells, eqCell, negB, fillA, sr_nil, sr_cons, sr_succ, sr_all, sr_len, storeA, Ob.with, indexedI, V.oneCell, intOf?, retQ_ret, retQ_norm, resA, resA1, fr_getD, packR, sealDepth, shut_bool, shut_int, Option.some.injEq, V.bool.injEq, V.int.injEq, Bool.not_true, Bool.not_false, true_and, and_true, and_self, Bool.and_true, Bool.and_false, Bool.true_and, Bool.false_and, Bool.or_true, Bool.or_false, Bool.true_or, Bool.false_or, Bool.false_eq_true, Int.reduceLT, Int.reduceLE, Int.reduceToNat, Int.reduceNeg, shut_plain, freeL_cons, freeL_nil, free_int, free_bool, free_agg, free_str, free_nils, free_tup, free_sl, true_implies, false_implies, Nat.sub_zero, Int.natCast_nonneg, Int.toNat_natCast, Nat.le_refl, not_true_eq_false, Int.reduceAdd, Int.reduceSub, Int.reduceMul, wrap64, false_and, and_false, cond_true, cond_false, Bool.cond_true_left, Bool.cond_false_right, Int.reduceBNe, Int.reduceBEq, decide_true, decide_false, Int.cast_ofNat_Int, Nat.mul_one, eq_self, Bool.true_eq_false, Bool.not_eq_true, Bool.not_eq_false, deads, List.replicate, argsF, am18, sx_drawd, reachC_nil, wpd_nil, wpd_cons, wdK_def, fpOf, fpV, fpCall, Fp.ok, disj, List.contains_cons, List.contains_nil, Nat.reduceBEq, List.all_append, V.objsL, V.objs,  List.getD_cons_zero, List.getD_cons_succ, List.append_nil, app_get0, app_get, app_set0, app_set, e0', d0, c22, hlen, hlW, oa, p1, p2, p3, p4, hal0, q1, q2, r0, r1, r2, r3, r4, r5, t1, t2, t3, t4, t5, t7, wl, wg, v1, v2, isNil, cut_cs, cut_first, cut_owes, cut_got, -List.drop, -List.take, x1, x2, x3, x4, x5, x6, x7, x8, y1, z1, z2, wk, c23]
                          exact ⟨⟨b', hb', rfl⟩, W, sat _ _ _ hrow' hsub, bey _⟩
end Go.Am.T


set_option linter.unusedVariables false
set_option linter.unusedSimpArgs false
set_option maxRecDepth 10000
namespace Go.Am.T
attribute [local congr] selV_congr impB_congr
def dgC (frm to view seq ack : Int) (b : V) : List V := [.int .i64 frm, .int .i64 to, .int .i64 view, .int .i64 seq, .int .i64 ack, b]
def dgS (s : Ses) (seq : Int) (b : V) : List V := dgC s.me s.other s.view seq s.got b
theorem SAt.app {H : Heap} {a : Nat} {s : Ses} {L : List V} {W : V} {R : List Nat} (h : SAt H a s L W R) (y : List Ob) : SAt (H ++ y) a s L W R :=
  ⟨by rw [List.getElem?_append_left (lt_of_get h.ob)]; exact h.ob, h.row.keep (fun o ho => List.getElem?_append_left (h.row.lt o ho)), h.bods, h.apart⟩
theorem make_spec {N n : Nat} (hn : 2 ≤ n) {a p : Nat} {s : Ses} {W : V} {L : List V} {R : List Nat} {H : Heap} (ha : SAt H a s L W R) (hp : H[p]? = some ⟨1, .var [.ptr a 1 0]⟩) (seq : Int) {l : List Int} {b : V} (hb : By l b) (hl : l.length ≤ 256) :
    ∃ b' y, By l b' ∧ callA am N n 27 [.int .i64 seq, b, .ptr p 1 0] H = some (.agg (dgS s seq b'), H ++ [y]) := by
  obtain ⟨n, rfl⟩ : ∃ m, n = m + 1 := ⟨n - 1, by omega⟩
  obtain ⟨b', hb', c23⟩ := @clone_spec N n (by omega) l b hb (by omega)
  refine ⟨b', ⟨1, .var (dgS s seq b')⟩, hb', ?_⟩
  obtain ⟨h0, e0⟩ : ∃ h0, h0 = H ++ [(⟨1, .var [.int .i64 0, .int .i64 0, .int .i64 0, .int .i64 0, .int .i64 0, .nils]⟩ : Ob)] := ⟨_, rfl⟩
  have e0' := e0.symm
  have l0 : h0.length = H.length + 1 := by rw [e0]; simp
  have d0 : h0[H.length]? = some ⟨1, .var [.int .i64 0, .int .i64 0, .int .i64 0, .int .i64 0, .int .i64 0, .nils]⟩ := by rw [e0, app_get0]; rfl
  have d1 : ∀ x, h0.set H.length x = H ++ [x] := fun x => by rw [e0, app_set0]; rfl
  have d2 : ∀ x, (H ++ [x])[H.length]? = some x := fun x => by rw [app_get0]; rfl
  have hpl := lt_of_get hp
  have hal := lt_of_get ha.ob
  have p0 : h0[p]? = some ⟨1, .var [.ptr a 1 0]⟩ := by rw [e0, List.getElem?_append_left hpl]; exact hp
  have a0 : h0[a]? = some ⟨1, .var (s.cs W)⟩ := by rw [e0, List.getElem?_append_left hal]; exact ha.ob
  have hobb : b.objs = [] := hb.objs
  have f23 : ∀ fb (h : Heap), ({ pureF := pureOf am, call := callA am N n, N := N, fb := fb } : Env).framed.call 23 [b] h = some (b', h) := fun fb h =>
    frame_free pm23 (.inr rfl) (by simp [V.objsL, hobb]) c23 hb'.objs
  have k1 := hb'.cells
  have k2 := hb'.one
  have k3 := hb'.njunk
  have k4 := hb'.nagg
  have k5 := hb'.ntup
  have q3 : (s.cs W).length = 9 := rfl
  have t1 : List.take 1 (List.drop 1 (s.cs W)) = [.int .i64 s.me] := rfl
  have t2 : List.take 1 (List.drop 2 (s.cs W)) = [.int .i64 s.other] := rfl
  have t3 : List.take 1 (List.drop 3 (s.cs W)) = [.int .i64 s.view] := rfl
  have t7 : List.take 1 (List.drop 7 (s.cs W)) = [.int .i64 s.got] := rfl
  have n1 : p ≠ H.length := by omega
  have n2 : a ≠ H.length := by omega
  have e1 : (p == H.length) = false := by simp; omega
  have e2 : (H.length == p) = false := by simp; omega
  have e3 : (a == H.length) = false := by simp; omega
  have e4 : (H.length == a) = false := by simp; omega
  have m1 : p < h0.length := by omega
  have m2 : a < h0.length := by omega
  refine call_keep_eq at27 rfl rfl (by decide) (sx_wp ?_)
  unfold dgS dgC
  simp +contextual -implicitDefEqProofs (maxSteps := 10000000) only [sx_seq, sxL_succ, lpQ_norm, lpQ_exit, lpQ_ret, loopQ_norm, loopQ_exit, loopQ_ret, sqQ_norm, sqQ_ret, sqQ_exit, sx_block, blkQ_norm, blkQ_exit, blkQ_ret, sx_cond, cdP_true, cdP_false, cdP_bool, sx_region, sx_draw, plainD, List.all_cons, List.all_nil, List.isEmpty_nil, List.isEmpty_cons, sxo_nil, sxo_cons, sxo_guard, gdS_bool, gdS_eff, gdS_tup, gdS_sel, gdS_seleff, sxK_def, wcall_some, effP_ret, effP_set, effP_none, effP_ite, wop_call, wop_cv, cvP_func, sx_ret, sx_exit, sx_skip, sx_clr, sx_fresh, stays, ↓selV_wt, ↓selV_wf, ↓impB_wt, ↓impB_wf, ↓selV_nor, ↓impB_nor, ↓selV_nt, ↓selV_nf, ↓impB_nt, ↓impB_nf, wantB_true, wantB_false, ↓selV_true, ↓selV_false, ↓selV_and, ↓impB_true, ↓impB_false, ↓impB_and, impB_triv, valOf_some, retH_some, ↓prim_pick, pickO_true, pickO_false, pickO_and, pickO_or, pickO_andr, pickO_orr, pickO_orrn, pickO_orn, pickO_bb, pickAnd_bool, pickOr_bool, ↓selV_nn, ↓impB_nn, Bool.and_assoc, Bool.or_assoc, doOp, ev_fr, ev_cst, put_none, put_fr, get, ins, del, dels, Nat.reduceLT, Nat.reduceEqDiff, ↓reduceIte, reduceCtorEq, ne_eq, not_false_eq_true, implies_true, framed_pureF, framed_fb, framed_N, framed_pure, wop_prim, prim, YLD, mkA, V.cells, List.getElem?_cons_zero, List.getElem?_cons_succ, List.set_cons_zero, List.set_cons_succ, Nat.zero_add, Nat.add_zero, Nat.reduceAdd, Nat.reduceSub, Nat.reduceMul, Nat.reduceLeDiff, Nat.not_lt_zero, List.map_cons, List.map_nil, List.cons_append, List.nil_append, loadA, cellsAt, nAg, packA, opt_bind_some, opt_map_some, opt_bind_none, opt_map_none, List.drop, List.take, List.head?, List.length_cons, List.length_nil, binA, unA, eqCells, eqCell, negB, fillA, sr_nil, sr_cons, sr_succ, sr_all, sr_len, storeA, Ob.with, indexedI, V.oneCell, intOf?, retQ_ret, retQ_norm, resA, resA1, fr_getD, packR, sealDepth, shut_bool, shut_int, Option.some.injEq, V.bool.injEq, V.int.injEq, Bool.not_true, Bool.not_false, true_and, and_true, and_self, Bool.and_true, Bool.and_false, Bool.true_and, Bool.false_and, Bool.or_true, Bool.or_false, Bool.true_or, Bool.false_or, Bool.false_eq_true, Int.reduceLT, Int.reduceLE, Int.reduceToNat, Int.reduceNeg, shut_plain, freeL_cons, freeL_nil, free_int, free_bool, free_agg, free_str, free_nils, free_tup, free_sl, true_implies, false_implies, Nat.sub_zero, Int.natCast_nonneg, Int.toNat_natCast, Nat.le_refl, not_true_eq_false, Int.reduceAdd, Int.reduceSub, Int.reduceMul, wrap64, false_and, and_false, cond_true, cond_false, Bool.cond_true_left, Bool.cond_false_right, Int.reduceBNe, Int.reduceBEq, decide_true, decide_false, Int.cast_ofNat_Int, Nat.mul_one, eq_self, Bool.true_eq_false, Bool.not_eq_true, Bool.not_eq_false, deads, List.replicate, argsF, am27, sx_drawd, reachC_nil, wpd_nil, wpd_cons, wdK_def, fpOf, fpV, fpCall, Fp.ok, disj, List.contains_cons, List.contains_nil, Nat.reduceBEq, List.all_append, V.objsL, V.objs,  List.getD_cons_zero, List.getD_cons_succ, List.append_nil, app_get0, app_get, app_set0, app_set, e0', d0, d1, d2, p0, a0, hobb, pm23, f23, k1, k2, q3, t1, t2, t3, t7, isNil, e1, e2, e3, e4, m1, m2]
def Cells6 (C : List (List V)) : Prop := ∀ c ∈ C, c.length = 6 ∧ c.all V.oneCell = true
def DRow (p : Nat) (H : Heap) (sl : V) (C : List (List V)) : Prop :=
  (C = [] ∧ sl = .nils) ∨ (C ≠ [] ∧ ∃ o ver, p ≤ o ∧ sl = .view o ver 0 C.length 6 none ∧ H[o]? = some ⟨ver, .arr C.flatten⟩)
theorem DRow.keep {p : Nat} {H H' : Heap} {sl : V} {C : List (List V)} (h : DRow p H sl C) (hk : ∀ o, p ≤ o → o < H.length → H'[o]? = H[o]?) : DRow p H' sl C := by
  rcases h with h | ⟨hL, o, ver, hp, rfl, ho⟩
  · exact .inl h
  · exact .inr ⟨hL, o, ver, hp, rfl, by rw [hk o hp (lt_of_get ho)]; exact ho⟩
theorem DRow.len {p : Nat} {H : Heap} {sl : V} {C : List (List V)} (h : DRow p H sl C) : lenA sl = some C.length ∧ (∀ s, sl ≠ .str s) ∧ sl.cells = [sl] := by
  rcases h with ⟨rfl, rfl⟩ | ⟨hL, o, ver, hp, rfl, ho⟩
  · exact ⟨rfl, fun _ => V.noConfusion, rfl⟩
  · exact ⟨rfl, fun _ => V.noConfusion, rfl⟩
theorem flat6 {C : List (List V)} (h : Cells6 C) : C.flatten.length = C.length * 6 := flat_length (fun c hc => (h c hc).1)
theorem DRow.append {p o0 : Nat} {H : Heap} {sl : V} {C : List (List V)} {x : Ob} {c : List V} (h : DRow p H sl C) (hC : Cells6 C) (hc : c.length = 6) (h1 : c.all V.oneCell = true) (h0 : H[o0]? = some x) (hp : p ≤ o0) (hL : C.length ≤ 1100) :
    ∃ o1 y v, appendA (fun o => H[o]?) o0 6 64 sl (.sl [.agg c] 6 (some 1)) = some (.set o1 y v) ∧ DRow p (H.set o1 y) v (C ++ [c]) ∧ p ≤ o1 ∧ o1 < H.length := by
  have hl1 : lenA (.sl [.agg c] 6 (some 1)) = some 1 := rfl
  have hf1 : firstA (fun o => H[o]?) 6 1 (.sl [.agg c] 6 (some 1)) = some c := by rw [firstA_sl1]; rfl
  rcases h with ⟨rfl, rfl⟩ | ⟨hne, o, ver, hpo, rfl, hob⟩
  · refine ⟨o0, ⟨x.ver + 1, .arr c⟩, .view o0 (x.ver + 1) 0 1 6 none, ?_, .inr ⟨by simp, o0, x.ver + 1, hp, rfl, ?_⟩, hp, lt_of_get h0⟩
    · unfold appendA
      simp [hl1, hf1, h1, mkA, h0, maxBytes]
    · rw [List.getElem?_set_self (lt_of_get h0)]; simp
  · refine ⟨o, ⟨ver + 1, .arr (C.flatten ++ c)⟩, .view o (ver + 1) 0 (C.length + 1) 6 none, ?_, .inr ⟨by simp, o, ver + 1, hpo, by simp, ?_⟩, hpo, lt_of_get hob⟩
    · have : (C.length + 1) * 64 ≤ maxBytes := by unfold maxBytes; omega
      have h6 := flat6 hC
      unfold appendA
      simp [hl1, hf1, h1, cellsAt, hob, this, h6]
    · rw [List.getElem?_set_self (lt_of_get hob)]; simp
def tellI (first from_ : Int) : Nat → List Nat
  | 0 => []
  | i + 1 => tellI first from_ i ++ (if first + (i : Int) ≥ from_ then [i] else [])
theorem tellI_len (f g : Int) : ∀ i, (tellI f g i).length ≤ i
  | 0 => Nat.le_refl _
  | i + 1 => by
    have := tellI_len f g i
    simp only [tellI, List.length_append]
    split <;> simp <;> omega
inductive TD (s : Ses) (L : List V) : List Nat → List (List V) → Prop
  | nil : TD s L [] []
  | snoc {I : List Nat} {C : List (List V)} {j : Nat} {c b : V} {l : List Int} (h : TD s L I C) (hj : L[j]? = some c) (hc : By l c) (hb : By l b) : TD s L (I ++ [j]) (C ++ [dgS s (s.first + (j : Int)) b])
theorem TD.len {s : Ses} {L : List V} {I : List Nat} {C : List (List V)} (h : TD s L I C) : C.length = I.length := by
  induction h with
  | nil => rfl
  | snoc _ _ _ _ ih => simp [ih]
theorem dgS_six {s : Ses} {seq : Int} {l : List Int} {b : V} (hb : By l b) : (dgS s seq b).length = 6 ∧ (dgS s seq b).all V.oneCell = true := by
  refine ⟨rfl, ?_⟩
  simp [dgS, dgC, V.oneCell]
  have := hb.one
  unfold V.oneCell at this
  exact this
theorem TD.six {s : Ses} {L : List V} {I : List Nat} {C : List (List V)} (h : TD s L I C) : Cells6 C := by
  induction h with
  | nil => intro c hc; cases hc
  | snoc _ _ _ hb ih =>
    intro c hc
    rcases List.mem_append.1 hc with hc | hc
    · exact ih c hc
    · obtain rfl := List.mem_singleton.1 hc
      exact dgS_six hb
end Go.Am.T


set_option linter.unusedVariables false
set_option linter.unusedSimpArgs false
set_option maxRecDepth 10000
namespace Go.Am.T
attribute [local congr] selV_congr impB_congr
theorem WRow.cell {H : Heap} {W : V} {L : List V} {R : List Nat} (h : WRow H W L R) {i : Nat} {b : V} (hi : L[i]? = some b) :
    ∃ o ver off cs, iaddrSA 1 W (.int .i64 i) = some (.ret (.ptr o ver off)) ∧ H[o]? = some ⟨ver, .arr cs⟩ ∧ off + 1 ≤ cs.length ∧ List.take 1 (List.drop off cs) = [b] ∧ R = [o] := by
  have hlt := (List.getElem?_eq_some_iff.1 hi).1
  rcases h with ⟨rfl, rfl, rfl⟩ | ⟨o, ver, x, rfl, ho, ⟨rfl, rfl⟩ | ⟨hne, rfl⟩, hx⟩
  · simp at hi
  · simp at hi
  · refine ⟨o, ver, x.length + i * 1, x ++ L, ?_, ho, ?_, ?_, rfl⟩
    · simp [iaddrSA, indexedI, hlt]
    · simp; omega
    · rw [Nat.mul_one, List.drop_append, List.drop_eq_nil_of_le (by omega), List.nil_append, show x.length + i - x.length = i by omega]
      rw [List.drop_eq_getElem_cons hlt]
      have := (List.getElem?_eq_some_iff.1 hi).2
      simp [this]
def toldS (s : Ses) (n : Nat) : Ses := { s with told := s.first + n - 1, owes := false }
structure Tells (s : Ses) (L : List V) (from_ : Int) (C : List (List V)) : Prop where
  six : Cells6 C
  len : C.length ≤ L.length + 1
  told : ∃ C', TD s L (tellI s.first from_ L.length) C' ∧ ((C = C' ∧ (C' = [] → s.owes = false)) ∨ (C' = [] ∧ s.owes = true ∧ ∃ b, By [] b ∧ C = [dgS s 0 b]))
set_option maxHeartbeats 2000000 in
theorem tell_spec {N n : Nat} (hN : 1500 ≤ N) (hn : 3 ≤ n) {a : Nat} {s : Ses} {W : V} {L : List V} {R : List Nat} {h : Heap} (ha : SAt h a s L W R) (from_ : Int) (f0 : 1 ≤ s.first) (f1 : s.first + L.length ≤ 2000) (hL : L.length ≤ 1000) :
    ∃ v' h', callA am N n 24 [.ptr a 1 0, .int .i64 from_] h = some (v', h') ∧ SAt h' a (toldS s L.length) L W R ∧ Beyond h h' a R R ∧ ∃ C, DRow h.length h' v' C ∧ Tells s L from_ C := by
  obtain ⟨n, rfl⟩ : ∃ m, n = m + 1 := ⟨n - 1, by omega⟩
  have hal := lt_of_get ha.ob
  obtain ⟨h0, e0⟩ : ∃ h0, h0 = h ++ [(⟨1, .var [.ptr a 1 0]⟩ : Ob), ⟨0, .dead⟩, ⟨0, .dead⟩] := ⟨_, rfl⟩
  have e0' := e0.symm
  have l0 : h0.length = h.length + 3 := by rw [e0]; simp
  have x0 : ∀ o, o < h.length → h0[o]? = h[o]? := fun o ho => by rw [e0, List.getElem?_append_left ho]
  have hp0 : h0[h.length]? = some ⟨1, .var [.ptr a 1 0]⟩ := by rw [e0, app_get0]; rfl
  have ha0 : SAt h0 a s L W R := by rw [e0]; exact ha.app _
  have q3 : ∀ (s : Ses) (W : V), (s.cs W).length = 9 := fun _ _ => rfl
  have t4 : ∀ (s : Ses) (W : V), List.take 1 (List.drop 4 (s.cs W)) = [W] := fun _ _ => rfl
  have t5 : ∀ (s : Ses) (W : V), List.take 1 (List.drop 5 (s.cs W)) = [.int .i64 s.first] := fun _ _ => rfl
  have t8 : ∀ (s : Ses) (W : V), List.take 1 (List.drop 8 (s.cs W)) = [.bool s.owes] := fun _ _ => rfl
  have oa0 := ha0.ob
  have hlW := ha.row.len
  obtain ⟨v1, v2, v3, v4, v5, v6⟩ := ha.row.shape
  have hlt0 : h.length < h0.length := by omega
  refine call_keep at24 rfl rfl (by decide) (sx_wp ?_)
  simp +contextual -implicitDefEqProofs (maxSteps := 10000000) only [sx_seq, sxL_succ, lpQ_norm, lpQ_exit, lpQ_ret, loopQ_norm, loopQ_exit, loopQ_ret, sqQ_norm, sqQ_ret, sqQ_exit, sx_block, blkQ_norm, blkQ_exit, blkQ_ret, sx_cond, cdP_true, cdP_false, cdP_bool, sx_region, sx_draw, plainD, List.all_cons, List.all_nil, List.isEmpty_nil, List.isEmpty_cons, sxo_nil, sxo_cons, sxo_guard, gdS_bool, gdS_eff, gdS_tup, gdS_sel, gdS_seleff, sxK_def, wcall_some, effP_ret, effP_set, effP_none, effP_ite, wop_call, wop_cv, cvP_func, sx_ret, sx_exit, sx_skip, sx_clr, sx_fresh, stays, ↓selV_wt, ↓selV_wf, ↓impB_wt, ↓impB_wf, ↓selV_nor, ↓impB_nor, ↓selV_nt, ↓selV_nf, ↓impB_nt, ↓impB_nf, wantB_true, wantB_false, ↓selV_true, ↓selV_false, ↓selV_and, ↓impB_true, ↓impB_false, ↓impB_and, impB_triv, valOf_some, retH_some, ↓prim_pick, pickO_true, pickO_false, pickO_and, pickO_or, pickO_andr, pickO_orr, pickO_orrn, pickO_orn, pickO_bb, pickAnd_bool, pickOr_bool, ↓selV_nn, ↓impB_nn, Bool.and_assoc, Bool.or_assoc, doOp, ev_fr, ev_cst, put_none, put_fr, get, ins, del, dels, Nat.reduceLT, Nat.reduceEqDiff, ↓reduceIte, reduceCtorEq, ne_eq, not_false_eq_true, implies_true, framed_pureF, framed_fb, framed_N, framed_pure, wop_prim, prim, YLD, mkA, V.cells, List.getElem?_cons_zero, List.getElem?_cons_succ, List.set_cons_zero, List.set_cons_succ, Nat.zero_add, Nat.add_zero, Nat.reduceAdd, Nat.reduceSub, Nat.reduceMul, Nat.reduceLeDiff, Nat.not_lt_zero, List.map_cons, List.map_nil, List.cons_append, List.nil_append, loadA, cellsAt, nAg, packA, opt_bind_some, opt_map_some, opt_bind_none, opt_map_none, List.drop, List.take, List.head?, List.length_cons, List.length_nil, binA, unA, eqCells, eqCell, negB, fillA, sr_nil, sr_cons, sr_succ, sr_all, sr_len, storeA, Ob.with, indexedI, V.oneCell, intOf?, retQ_ret, retQ_norm, resA, resA1, fr_getD, packR, sealDepth, shut_bool, shut_int, Option.some.injEq, V.bool.injEq, V.int.injEq, Bool.not_true, Bool.not_false, true_and, and_true, and_self, Bool.and_true, Bool.and_false, Bool.true_and, Bool.false_and, Bool.or_true, Bool.or_false, Bool.true_or, Bool.false_or, Bool.false_eq_true, Int.reduceLT, Int.reduceLE, Int.reduceToNat, Int.reduceNeg, shut_plain, freeL_cons, freeL_nil, free_int, free_bool, free_agg, free_str, free_nils, free_tup, free_sl, true_implies, false_implies, Nat.sub_zero, Int.natCast_nonneg, Int.toNat_natCast, Nat.le_refl, not_true_eq_false, Int.reduceAdd, Int.reduceSub, Int.reduceMul, wrap64, false_and, and_false, cond_true, cond_false, Bool.cond_true_left, Bool.cond_false_right, Int.reduceBNe, Int.reduceBEq, decide_true, decide_false, Int.cast_ofNat_Int, Nat.mul_one, eq_self, Bool.true_eq_false, Bool.not_eq_true, Bool.not_eq_false, deads, List.replicate, argsF, am24, app_get0, app_get, app_set0, app_set, e0', hp0, oa0, q3, t4, v1, v2, hlW, isNil, -List.drop, -List.take]
  have hbx : ∀ H : Heap, H[h.length]? = some ⟨1, .var [.ptr a 1 0]⟩ → h.length < H.length := fun H hH => lt_of_get hH
  refine sx_loop (fun i t H => ∃ sl C, t = fr 70 [(1, .int .i64 from_), (2, .ptr h.length 1 0), (5, .func 27 [] [.ptr h.length 1 0]), (6, sl), (14, W), (15, .int .i64 L.length), (16, .int .i64 i)] ∧ i ≤ L.length ∧ SAt H a s L W R ∧ H[h.length]? = some ⟨1, .var [.ptr a 1 0]⟩ ∧ DRow (h.length + 1) H sl C ∧ TD s L (tellI s.first from_ i) C ∧ h.length + 3 ≤ H.length ∧ ∀ o, o < h.length → H[o]? = h[o]?) L.length (by show L.length < N; omega)
    ⟨.nils, [], rfl, Nat.zero_le _, ha0, hp0, .inl ⟨rfl, rfl⟩, .nil, by omega, x0⟩ ?_
  rintro i t H hi ⟨sl, C, rfl, hiL, haH, hpH, hD, hTD, hHl, hoth⟩
  have oaH := haH.ob
  have hCl := hTD.len
  have hCl2 := tellI_len s.first from_ i
  by_cases hlt : i < L.length
  · have g1 : decide ((i : Int) < (L.length : Int)) = true := decide_eq_true (by omega)
    obtain ⟨b, hbi⟩ : ∃ b, L[i]? = some b := ⟨_, List.getElem?_eq_getElem hlt⟩
    obtain ⟨l, hb, hl⟩ := ha.bods b (List.mem_of_getElem? hbi)
    obtain ⟨o, ver, off, cs, hia, hoc, hle, hld, hRo⟩ := haH.row.cell hbi
    have wf : IntKind.i64.wrap (s.first + (i : Int)) = s.first + (i : Int) := wrap64 (by omega) (by omega)
    have w4 : IntKind.i64.wrap ((i : Int) + 1) = ((i + 1 : Nat) : Int) := (wrap64 (by omega) (by omega)).trans (by omega)
    have hi1 : i + 1 ≤ L.length := by omega
    have bc := hb.cells
    have b1 := hb.njunk
    have b2 := hb.nagg
    by_cases hge : s.first + (i : Int) ≥ from_
    · have g2 : decide (s.first + (i : Int) ≥ from_) = true := decide_eq_true hge
      have hI : tellI s.first from_ (i + 1) = tellI s.first from_ i ++ [i] := by simp only [tellI]; rw [if_pos hge]
      obtain ⟨b', y, hb', c27⟩ := @make_spec N n (by omega) _ _ _ _ _ _ _ haH hpH (s.first + (i : Int)) _ _ hb hl
      obtain ⟨K, hK⟩ : ∃ K : Heap, K = H ++ [y] := ⟨_, rfl⟩
      have hK' := hK.symm
      have kx : ∀ o, o < H.length → K[o]? = H[o]? := fun o ho => by rw [hK, List.getElem?_append_left ho]
      have kl : K.length = H.length + 1 := by rw [hK]; simp
      have hx : K[h.length + 1]? = some (H[h.length + 1]'(by omega)) := by
        rw [kx _ (by omega)]
        exact List.getElem?_eq_getElem _
      obtain ⟨o1, z, sl', hA, hD', hpo, hol⟩ := (hD.keep (H' := K) (fun o _ ho => kx o ho)).append (c := dgS s (s.first + (i : Int)) b') hTD.six (dgS_six hb').1 (dgS_six hb').2 hx (Nat.le_refl _) (by omega)
      have r1 : List.range 1 = [0] := rfl
      have d6 : (dgS s (s.first + (i : Int)) b').length = 6 := rfl
      have dr : setRange [V.int .i64 0, .int .i64 0, .int .i64 0, .int .i64 0, .int .i64 0, .nils] 0 (dgS s (s.first + (i : Int)) b') = dgS s (s.first + (i : Int)) b' := sr_all rfl
      have wr : wrapV (dgS s (s.first + (i : Int)) b') = .agg (dgS s (s.first + (i : Int)) b') := rfl
      have dt : List.take 6 (dgS s (s.first + (i : Int)) b') = dgS s (s.first + (i : Int)) b' := rfl
      have done := (dgS_six (s := s) (seq := s.first + (i : Int)) hb').2
      simp +contextual -implicitDefEqProofs (maxSteps := 10000000) only [sx_seq, sxL_succ, lpQ_norm, lpQ_exit, lpQ_ret, loopQ_norm, loopQ_exit, loopQ_ret, sqQ_norm, sqQ_ret, sqQ_exit, sx_block, blkQ_norm, blkQ_exit, blkQ_ret, sx_cond, cdP_true, cdP_false, cdP_bool, sx_region, sx_draw, plainD, List.all_cons, List.all_nil, List.isEmpty_nil, List.isEmpty_cons, sxo_nil, sxo_cons, sxo_guard, gdS_bool, gdS_eff, gdS_tup, gdS_sel, gdS_seleff, sxK_def, wcall_some, effP_ret, effP_set, effP_none, effP_ite, wop_call, wop_cv, cvP_func, sx_ret, sx_exit, sx_skip, sx_clr, sx_fresh, stays, ↓selV_wt, ↓selV_wf, ↓impB_wt, ↓impB_wf, ↓selV_nor, ↓impB_nor, ↓selV_nt, ↓selV_nf, ↓impB_nt, ↓impB_nf, wantB_true, wantB_false, ↓selV_true, ↓selV_false, ↓selV_and, ↓impB_true, ↓impB_false, ↓impB_and, impB_triv, valOf_some, retH_some, ↓prim_pick, pickO_true, pickO_false, pickO_and, pickO_or, pickO_andr, pickO_orr, pickO_orrn, pickO_orn, pickO_bb, pickAnd_bool, pickOr_bool, ↓selV_nn, ↓impB_nn, Bool.and_assoc, Bool.or_assoc, doOp, ev_fr, ev_cst, put_none, put_fr, get, ins, del, dels, Nat.reduceLT, Nat.reduceEqDiff, ↓reduceIte, reduceCtorEq, ne_eq, not_false_eq_true, implies_true, framed_pureF, framed_fb, framed_N, framed_pure, wop_prim, prim, YLD, mkA, V.cells, List.getElem?_cons_zero, List.getElem?_cons_succ, List.set_cons_zero, List.set_cons_succ, Nat.zero_add, Nat.add_zero, Nat.reduceAdd, Nat.reduceSub, Nat.reduceMul, Nat.reduceLeDiff, Nat.not_lt_zero, List.map_cons, List.map_nil, List.cons_append, List.nil_append, loadA, cellsAt, nAg, packA, opt_bind_some, opt_map_some, opt_bind_none, opt_map_none, List.drop, List.take, List.head?, List.length_cons, List.length_nil, binA, unA, eqCells, eqCell, negB, fillA, sr_nil, sr_cons, sr_succ, sr_all, sr_len, storeA, Ob.with, indexedI, V.oneCell, intOf?, retQ_ret, retQ_norm, resA, resA1, fr_getD, packR, sealDepth, shut_bool, shut_int, Option.some.injEq, V.bool.injEq, V.int.injEq, Bool.not_true, Bool.not_false, true_and, and_true, and_self, Bool.and_true, Bool.and_false, Bool.true_and, Bool.false_and, Bool.or_true, Bool.or_false, Bool.true_or, Bool.false_or, Bool.false_eq_true, Int.reduceLT, Int.reduceLE, Int.reduceToNat, Int.reduceNeg, shut_plain, freeL_cons, freeL_nil, free_int, free_bool, free_agg, free_str, free_nils, free_tup, free_sl, true_implies, false_implies, Nat.sub_zero, Int.natCast_nonneg, Int.toNat_natCast, Nat.le_refl, not_true_eq_false, Int.reduceAdd, Int.reduceSub, Int.reduceMul, wrap64, false_and, and_false, cond_true, cond_false, Bool.cond_true_left, Bool.cond_false_right, Int.reduceBNe, Int.reduceBEq, decide_true, decide_false, Int.cast_ofNat_Int, Nat.mul_one, eq_self, Bool.true_eq_false, Bool.not_eq_true, Bool.not_eq_false, deads, List.replicate, argsF, g1, hia, hoc, hle, hld, hpH, oaH, q3, t5, wf, g2, c27, hK', isNil, bc, hA, r1, d6, dr, wr, dt, done, w4, hi1, hlt, -List.drop, -List.take]
      rw [hI]
      refine ⟨sl', _, rfl, ⟨?_, ?_, haH.bods, haH.apart⟩, ?_, hD', .snoc hTD hbi hb hb', by simp; omega, fun o ho => ?_⟩
      · rw [List.getElem?_set_ne (by omega), kx _ (by omega)]; exact oaH
      · refine haH.row.keep (fun q hq => ?_)
        have hqr : q < h.length := ha.row.lt q hq
        rw [List.getElem?_set_ne (by omega), kx _ (by omega)]
      · rw [List.getElem?_set_ne (by omega), kx _ (by omega)]; exact hpH
      · rw [List.getElem?_set_ne (by omega), kx _ (by omega)]; exact hoth o ho
    · have g2 : decide (s.first + (i : Int) ≥ from_) = false := decide_eq_false hge
      have hI : tellI s.first from_ (i + 1) = tellI s.first from_ i := by simp only [tellI]; rw [if_neg hge, List.append_nil]
      simp +contextual -implicitDefEqProofs (maxSteps := 10000000) only [sx_seq, sxL_succ, lpQ_norm, lpQ_exit, lpQ_ret, loopQ_norm, loopQ_exit, loopQ_ret, sqQ_norm, sqQ_ret, sqQ_exit, sx_block, blkQ_norm, blkQ_exit, blkQ_ret, sx_cond, cdP_true, cdP_false, cdP_bool, sx_region, sx_draw, plainD, List.all_cons, List.all_nil, List.isEmpty_nil, List.isEmpty_cons, sxo_nil, sxo_cons, sxo_guard, gdS_bool, gdS_eff, gdS_tup, gdS_sel, gdS_seleff, sxK_def, wcall_some, effP_ret, effP_set, effP_none, effP_ite, wop_call, wop_cv, cvP_func, sx_ret, sx_exit, sx_skip, sx_clr, sx_fresh, stays, ↓selV_wt, ↓selV_wf, ↓impB_wt, ↓impB_wf, ↓selV_nor, ↓impB_nor, ↓selV_nt, ↓selV_nf, ↓impB_nt, ↓impB_nf, wantB_true, wantB_false, ↓selV_true, ↓selV_false, ↓selV_and, ↓impB_true, ↓impB_false, ↓impB_and, impB_triv, valOf_some, retH_some, ↓prim_pick, pickO_true, pickO_false, pickO_and, pickO_or, pickO_andr, pickO_orr, pickO_orrn, pickO_orn, pickO_bb, pickAnd_bool, pickOr_bool, ↓selV_nn, ↓impB_nn, Bool.and_assoc, Bool.or_assoc, doOp, ev_fr, ev_cst, put_none, put_fr, get, ins, del, dels, Nat.reduceLT, Nat.reduceEqDiff, ↓reduceIte, reduceCtorEq, ne_eq, not_false_eq_true, implies_true, framed_pureF, framed_fb, framed_N, framed_pure, wop_prim, prim, YLD, mkA, V.cells, List.getElem?_cons_zero, List.getElem?_cons_succ, List.set_cons_zero, List.set_cons_succ, Nat.zero_add, Nat.add_zero, Nat.reduceAdd, Nat.reduceSub, Nat.reduceMul, Nat.reduceLeDiff, Nat.not_lt_zero, List.map_cons, List.map_nil, List.cons_append, List.nil_append, loadA, cellsAt, nAg, packA, opt_bind_some, opt_map_some, opt_bind_none, opt_map_none, List.drop, List.take, List.head?, List.length_cons, List.length_nil, binA, unA, eqCells, eqCell, negB, fillA, sr_nil, sr_cons, sr_succ, sr_all, sr_len, storeA, Ob.with, indexedI, V.oneCell, intOf?, retQ_ret, retQ_norm, resA, resA1, fr_getD, packR, sealDepth, shut_bool, shut_int, Option.some.injEq, V.bool.injEq, V.int.injEq, Bool.not_true, Bool.not_false, true_and, and_true, and_self, Bool.and_true, Bool.and_false, Bool.true_and, Bool.false_and, Bool.or_true, Bool.or_false, Bool.true_or, Bool.false_or, Bool.false_eq_true, Int.reduceLT, Int.reduceLE, Int.reduceToNat, Int.reduceNeg, shut_plain, freeL_cons, freeL_nil, free_int, free_bool, free_agg, free_str, free_nils, free_tup, free_sl, true_implies, false_implies, Nat.sub_zero, Int.natCast_nonneg, Int.toNat_natCast, Nat.le_refl, not_true_eq_false, Int.reduceAdd, Int.reduceSub, Int.reduceMul, wrap64, false_and, and_false, cond_true, cond_false, Bool.cond_true_left, Bool.cond_false_right, Int.reduceBNe, Int.reduceBEq, decide_true, decide_false, Int.cast_ofNat_Int, Nat.mul_one, eq_self, Bool.true_eq_false, Bool.not_eq_true, Bool.not_eq_false, deads, List.replicate, argsF, g1, hia, hoc, hle, hld, hpH, oaH, q3, t5, wf, g2, isNil, bc, w4, hi1, hlt, hI, -List.drop, -List.take]
      exact ⟨sl, C, rfl, haH, hD, hTD, hHl, hoth⟩
  · have e : i = L.length := by omega
    subst e
    have g1 : decide ((L.length : Int) < (L.length : Int)) = false := decide_eq_false (by omega)
    obtain ⟨dl, dn, dc⟩ := hD.len
    have wt : IntKind.i64.wrap (IntKind.i64.wrap (s.first + (L.length : Int)) - 1) = s.first + (L.length : Int) - 1 := by
      rw [wrap64 (n := s.first + (L.length : Int)) (by omega) (by omega), wrap64 (by omega) (by omega)]
    have c6 : ∀ (s : Ses) (W : V) (x : Int), setRange (s.cs W) 6 [.int .i64 x] = ({ s with told := x } : Ses).cs W := fun _ _ _ => rfl
    have c8 : ∀ (s : Ses) (W : V) (x : Bool), setRange (s.cs W) 8 [.bool x] = ({ s with owes := x } : Ses).cs W := fun _ _ _ => rfl
    have fin : ∀ K : Heap, K[a]? = some ⟨1, .var (s.cs W)⟩ → K[h.length]? = some ⟨1, .var [.ptr a 1 0]⟩ → (∀ x, (K.set a x)[a]? = some x) ∧ (∀ x, (K.set a x)[h.length]? = some ⟨1, .var [.ptr a 1 0]⟩) ∧ (∀ x y, (K.set a x).set a y = K.set a y) ∧ a < K.length ∧ h.length < K.length := fun K h1 h2 =>
      ⟨fun x => List.getElem?_set_self (lt_of_get h1), fun x => by rw [List.getElem?_set_ne (by omega)]; exact h2, fun x y => by simp, lt_of_get h1, lt_of_get h2⟩
    have fe1 : (a == h.length) = false := by simp; omega
    have fe2 : (h.length == a) = false := by simp; omega
    have satK : ∀ K : Heap, (∀ o, o < h.length → K[o]? = h[o]?) → a < K.length → SAt (K.set a ⟨1, .var ((toldS s L.length).cs W)⟩) a (toldS s L.length) L W R := fun K hK hk =>
      ⟨List.getElem?_set_self hk, ha.row.keep (fun o ho => by rw [List.getElem?_set_ne (by rintro rfl; exact ha.apart ho)]; exact hK o (ha.row.lt o ho)), ha.bods, ha.apart⟩
    have beyK : ∀ K : Heap, (∀ o, o < h.length → K[o]? = h[o]?) → h.length ≤ K.length → ∀ x, Beyond h (K.set a x) a R R := fun K hK hk x =>
      ⟨by simpa using hk, fun o ho hoa _ => by rw [List.getElem?_set_ne (Ne.symm hoa)]; exact hK o ho, fun o ho => .inl ho⟩
    have drK : ∀ (K : Heap) (v : V) (C : List (List V)), DRow (h.length + 1) K v C → ∀ x, DRow h.length (K.set a x) v C := fun K v C hd x => by
      rcases hd with hd | ⟨hL, o, ver, hp, rfl, ho⟩
      · exact .inl hd
      · exact .inr ⟨hL, o, ver, by omega, rfl, by rw [List.getElem?_set_ne (by omega)]; exact ho⟩
    cases hz : ((C.length : Int) == 0 && s.owes) with
    | false =>
      obtain ⟨z1, z2, z3, z4, z5⟩ := fin H oaH hpH
      simp +contextual -implicitDefEqProofs (maxSteps := 10000000) only [sx_seq, sxL_succ, lpQ_norm, lpQ_exit, lpQ_ret, loopQ_norm, loopQ_exit, loopQ_ret, sqQ_norm, sqQ_ret, sqQ_exit, sx_block, blkQ_norm, blkQ_exit, blkQ_ret, sx_cond, cdP_true, cdP_false, cdP_bool, sx_region, sx_draw, plainD, List.all_cons, List.all_nil, List.isEmpty_nil, List.isEmpty_cons, sxo_nil, sxo_cons, sxo_guard, gdS_bool, gdS_eff, gdS_tup, gdS_sel, gdS_seleff, sxK_def, wcall_some, effP_ret, effP_set, effP_none, effP_ite, wop_call, wop_cv, cvP_func, sx_ret, sx_exit, sx_skip, sx_clr, sx_fresh, stays, ↓selV_wt, ↓selV_wf, ↓impB_wt, ↓impB_wf, ↓selV_nor, ↓impB_nor, ↓selV_nt, ↓selV_nf, ↓impB_nt, ↓impB_nf, wantB_true, wantB_false, ↓selV_true, ↓selV_false, ↓selV_and, ↓impB_true, ↓impB_false, ↓impB_and, impB_triv, valOf_some, retH_some, ↓prim_pick, pickO_true, pickO_false, pickO_and, pickO_or, pickO_andr, pickO_orr, pickO_orrn, pickO_orn, pickO_bb, pickAnd_bool, pickOr_bool, ↓selV_nn, ↓impB_nn, Bool.and_assoc, Bool.or_assoc, doOp, ev_fr, ev_cst, put_none, put_fr, get, ins, del, dels, Nat.reduceLT, Nat.reduceEqDiff, ↓reduceIte, reduceCtorEq, ne_eq, not_false_eq_true, implies_true, framed_pureF, framed_fb, framed_N, framed_pure, wop_prim, prim, YLD, mkA, V.cells, List.getElem?_cons_zero, List.getElem?_cons_succ, List.set_cons_zero, List.set_cons_succ, Nat.zero_add, Nat.add_zero, Nat.reduceAdd, Nat.reduceSub, Nat.reduceMul, Nat.reduceLeDiff, Nat.not_lt_zero, List.map_cons, List.map_nil, List.cons_append, List.nil_append, loadA, cellsAt, nAg, packA, opt_bind_some, opt_map_some, opt_bind_none, opt_map_none, List.drop, List.take, List.head?, List.length_cons, List.length_nil, binA, unA, eqCells, eqCell, negB, fillA, sr_nil, sr_cons, sr_succ, sr_all, sr_len, storeA, Ob.with, indexedI, V.oneCell, intOf?, retQ_ret, retQ_norm, resA, resA1, fr_getD, packR, sealDepth, shut_bool, shut_int, Option.some.injEq, V.bool.injEq, V.int.injEq, Bool.not_true, Bool.not_false, true_and, and_true, and_self, Bool.and_true, Bool.and_false, Bool.true_and, Bool.false_and, Bool.or_true, Bool.or_false, Bool.true_or, Bool.false_or, Bool.false_eq_true, Int.reduceLT, Int.reduceLE, Int.reduceToNat, Int.reduceNeg, shut_plain, freeL_cons, freeL_nil, free_int, free_bool, free_agg, free_str, free_nils, free_tup, free_sl, true_implies, false_implies, Nat.sub_zero, Int.natCast_nonneg, Int.toNat_natCast, Nat.le_refl, not_true_eq_false, Int.reduceAdd, Int.reduceSub, Int.reduceMul, wrap64, false_and, and_false, cond_true, cond_false, Bool.cond_true_left, Bool.cond_false_right, Int.reduceBNe, Int.reduceBEq, decide_true, decide_false, Int.cast_ofNat_Int, Nat.mul_one, eq_self, Bool.true_eq_false, Bool.not_eq_true, Bool.not_eq_false, deads, List.replicate, argsF, sx_drawd, reachC_nil, wpd_nil, wpd_cons, wdK_def, fpOf, fpV, fpCall, Fp.ok, disj, List.contains_cons, List.contains_nil, Nat.reduceBEq, List.all_append, V.objsL, V.objs,  List.getD_cons_zero, List.getD_cons_succ, List.append_nil, g1, dl, hpH, oaH, q3, t4, t5, t8, isNil, hz, hlW, wt, c6, c8, z1, z2, z3, z4, z5, fe1, fe2, -List.drop, -List.take]
      refine ⟨satK H hoth z4, beyK H hoth (by omega) _, C, drK H sl C hD _, hTD.six, by omega, C, hTD, .inl ⟨rfl, fun e => ?_⟩⟩
      subst e
      simpa using hz
    | true =>
      simp only [Bool.and_eq_true, beq_iff_eq] at hz
      obtain ⟨hz1, hz2⟩ := hz
      have hC0 : C = [] := List.length_eq_zero_iff.1 (by omega)
      subst hC0
      have hz : (((([] : List (List V)).length : Nat) : Int) == 0 && s.owes) = true := by rw [hz2]; rfl
      obtain ⟨b', y, hb', c27⟩ := @make_spec N n (by omega) _ _ _ _ _ _ _ haH hpH 0 _ _ (.inl ⟨rfl, rfl⟩ : By [] .nils) (by decide)
      obtain ⟨K0, hK0⟩ : ∃ K : Heap, K = H ++ [y] := ⟨_, rfl⟩
      have hK0' := hK0.symm
      have kx : ∀ o, o < H.length → K0[o]? = H[o]? := fun o ho => by rw [hK0, List.getElem?_append_left ho]
      have kl0 : K0.length = H.length + 1 := by rw [hK0]; simp
      have hx : K0[h.length + 2]? = some (H[h.length + 2]'(by omega)) := by
        rw [kx _ (by omega)]
        exact List.getElem?_eq_getElem _
      obtain ⟨o1, z, sl', hA, hD', hpo, hol⟩ := (hD.keep (H' := K0) (fun o _ ho => kx o ho)).append (c := dgS s 0 b') hTD.six (dgS_six hb').1 (dgS_six hb').2 hx (show h.length + 1 ≤ h.length + 2 by omega) (by simp)
      have r1 : List.range 1 = [0] := rfl
      have d6 : (dgS s 0 b').length = 6 := rfl
      have dr : setRange [V.int .i64 0, .int .i64 0, .int .i64 0, .int .i64 0, .int .i64 0, .nils] 0 (dgS s 0 b') = dgS s 0 b' := sr_all rfl
      have wr : wrapV (dgS s 0 b') = .agg (dgS s 0 b') := rfl
      have dt : List.take 6 (dgS s 0 b') = dgS s 0 b' := rfl
      have done := (dgS_six (s := s) (seq := 0) hb').2
      obtain ⟨K, hK⟩ : ∃ K, K = K0.set o1 z := ⟨_, rfl⟩
      have hK' := hK.symm
      have kl : K.length = H.length + 1 := by rw [hK]; simp; omega
      have ka : K[a]? = some ⟨1, .var (s.cs W)⟩ := by rw [hK, List.getElem?_set_ne (by omega), kx _ (by omega)]; exact oaH
      have kp : K[h.length]? = some ⟨1, .var [.ptr a 1 0]⟩ := by rw [hK, List.getElem?_set_ne (by omega), kx _ (by omega)]; exact hpH
      have ko : ∀ o, o < h.length → K[o]? = h[o]? := fun o ho => by rw [hK, List.getElem?_set_ne (by omega), kx _ (by omega)]; exact hoth o ho
      rw [hK'] at hD'
      obtain ⟨z1, z2, z3, z4, z5⟩ := fin K ka kp
      simp +contextual -implicitDefEqProofs (maxSteps := 10000000) only [sx_seq, sxL_succ, lpQ_norm, lpQ_exit, lpQ_ret, loopQ_norm, loopQ_exit, loopQ_ret, sqQ_norm, sqQ_ret, sqQ_exit, sx_block, blkQ_norm, blkQ_exit, blkQ_ret, sx_cond, cdP_true, cdP_false, cdP_bool, sx_region, sx_draw, plainD, List.all_cons, List.all_nil, List.isEmpty_nil, List.isEmpty_cons, sxo_nil, sxo_cons, sxo_guard, gdS_bool, gdS_eff, gdS_tup, gdS_sel, gdS_seleff, sxK_def, wcall_some, effP_ret, effP_set, effP_none, effP_ite, wop_call, wop_cv, cvP_func, sx_ret, sx_exit, sx_skip, sx_clr, sx_fresh, stays, ↓selV_wt, ↓selV_wf, ↓impB_wt, ↓impB_wf, ↓selV_nor, ↓impB_nor, ↓selV_nt, ↓selV_nf, ↓impB_nt, ↓impB_nf, wantB_true, wantB_false, ↓selV_true, ↓selV_false, ↓selV_and, ↓impB_true, ↓impB_false, ↓impB_and, impB_triv, valOf_some, retH_some, ↓prim_pick, pickO_true, pickO_false, pickO_and, pickO_or, pickO_andr, pickO_orr, pickO_orrn, pickO_orn, pickO_bb, pickAnd_bool, pickOr_bool, ↓selV_nn, ↓impB_nn, Bool.and_assoc, Bool.or_assoc, doOp, ev_fr, ev_cst, put_none, put_fr, get, ins, del, dels, Nat.reduceLT, Nat.reduceEqDiff, ↓reduceIte, reduceCtorEq, ne_eq, not_false_eq_true, implies_true, framed_pureF, framed_fb, framed_N, framed_pure, wop_prim, prim, YLD, mkA, V.cells, List.getElem?_cons_zero, List.getElem?_cons_succ, List.set_cons_zero, List.set_cons_succ, Nat.zero_add, Nat.add_zero, Nat.reduceAdd, Nat.reduceSub, Nat.reduceMul, Nat.reduceLeDiff, Nat.not_lt_zero, List.map_cons, List.map_nil, List.cons_append, List.nil_append, loadA, cellsAt, nAg, packA, opt_bind_some, opt_map_some, opt_bind_none, opt_map_none, List.drop, List.take, List.head?, List.length_cons, List.length_nil, binA, unA, eqCells, eqCell, negB, fillA, sr_nil, sr_cons, sr_succ, sr_all, sr_len, storeA, Ob.with, indexedI, V.oneCell, intOf?, retQ_ret, retQ_norm, resA, resA1, fr_getD, packR, sealDepth, shut_bool, shut_int, Option.some.injEq, V.bool.injEq, V.int.injEq, Bool.not_true, Bool.not_false, true_and, and_true, and_self, Bool.and_true, Bool.and_false, Bool.true_and, Bool.false_and, Bool.or_true, Bool.or_false, Bool.true_or, Bool.false_or, Bool.false_eq_true, Int.reduceLT, Int.reduceLE, Int.reduceToNat, Int.reduceNeg, shut_plain, freeL_cons, freeL_nil, free_int, free_bool, free_agg, free_str, free_nils, free_tup, free_sl, true_implies, false_implies, Nat.sub_zero, Int.natCast_nonneg, Int.toNat_natCast, Nat.le_refl, not_true_eq_false, Int.reduceAdd, Int.reduceSub, Int.reduceMul, wrap64, false_and, and_false, cond_true, cond_false, Bool.cond_true_left, Bool.cond_false_right, Int.reduceBNe, Int.reduceBEq, decide_true, decide_false, Int.cast_ofNat_Int, Nat.mul_one, eq_self, Bool.true_eq_false, Bool.not_eq_true, Bool.not_eq_false, deads, List.replicate, argsF, sx_drawd, reachC_nil, wpd_nil, wpd_cons, wdK_def, fpOf, fpV, fpCall, Fp.ok, disj, List.contains_cons, List.contains_nil, Nat.reduceBEq, List.all_append, V.objsL, V.objs,  List.getD_cons_zero, List.getD_cons_succ, List.append_nil, g1, dl, hpH, oaH, q3, t4, t5, t8, isNil, hz, hz2, hlW, wt, c6, c8, c27, hK0', hA, hK', ka, kp, r1, d6, dr, wr, dt, done, z1, z2, z3, z4, z5, fe1, fe2, -List.drop, -List.take]
      exact ⟨satK K ko z4, beyK K ko (by omega) _, _, drK K sl' _ hD' _, fun c hc => by
        obtain rfl := List.mem_singleton.1 hc
        exact dgS_six hb', by simp, [], hTD, .inr ⟨rfl, hz2, b', hb', rfl⟩⟩
end Go.Am.T


set_option linter.unusedVariables false
set_option linter.unusedSimpArgs false
set_option maxRecDepth 10000
namespace Go.Am.T
attribute [local congr] selV_congr impB_congr
theorem fresh_spec {N n : Nat} (hN : 1500 ≤ N) (hn : 4 ≤ n) {a : Nat} {s : Ses} {W : V} {L : List V} {R : List Nat} {h : Heap} (ha : SAt h a s L W R) (f0 : 1 ≤ s.first) (f1 : s.first + L.length ≤ 2000) (hL : L.length ≤ 1000) (t0 : 0 ≤ s.told) (t1 : s.told ≤ 2000) :
    ∃ v' h', callA am N n 11 [.ptr a 1 0] h = some (v', h') ∧ SAt h' a (toldS s L.length) L W R ∧ Beyond h h' a R R ∧ ∃ C, DRow h.length h' v' C ∧ Tells s L (s.told + 1) C := by
  obtain ⟨n, rfl⟩ : ∃ m, n = m + 1 := ⟨n - 1, by omega⟩
  have c22 := @is_spec N n (by omega) _ _ _ _ _ _ ha
  obtain ⟨v', h', c24, q⟩ := @tell_spec N n hN (by omega) _ _ _ _ _ _ ha (s.told + 1) f0 f1 hL
  have wt : IntKind.i64.wrap (s.told + 1) = s.told + 1 := wrap64 (by omega) (by omega)
  have oa := ha.ob
  have q3 : (s.cs W).length = 9 := rfl
  have t6 : List.take 1 (List.drop 6 (s.cs W)) = [.int .i64 s.told] := rfl
  refine call_keep at11 rfl rfl (by decide) (sx_wp ?_)
  simp +contextual -implicitDefEqProofs (maxSteps := 10000000) only [sx_seq, sxL_succ, lpQ_norm, lpQ_exit, lpQ_ret, loopQ_norm, loopQ_exit, loopQ_ret, sqQ_norm, sqQ_ret, sqQ_exit, sx_block, blkQ_norm, blkQ_exit, blkQ_ret, sx_cond, cdP_true, cdP_false, cdP_bool, sx_region, sx_draw, plainD, List.all_cons, List.all_nil, List.isEmpty_nil, List.isEmpty_cons, sxo_nil, sxo_cons, sxo_guard, gdS_bool, gdS_eff, gdS_tup, gdS_sel, gdS_seleff, sxK_def, wcall_some, effP_ret, effP_set, effP_none, effP_ite, wop_call, wop_cv, cvP_func, sx_ret, sx_exit, sx_skip, sx_clr, sx_fresh, stays, ↓selV_wt, ↓selV_wf, ↓impB_wt, ↓impB_wf, ↓selV_nor, ↓impB_nor, ↓selV_nt, ↓selV_nf, ↓impB_nt, ↓impB_nf, wantB_true, wantB_false, ↓selV_true, ↓selV_false, ↓selV_and, ↓impB_true, ↓impB_false, ↓impB_and, impB_triv, valOf_some, retH_some, ↓prim_pick, pickO_true, pickO_false, pickO_and, pickO_or, pickO_andr, pickO_orr, pickO_orrn, pickO_orn, pickO_bb, pickAnd_bool, pickOr_bool, ↓selV_nn, ↓impB_nn, Bool.and_assoc, Bool.or_assoc, doOp, ev_fr, ev_cst, put_none, put_fr, get, ins, del, dels, Nat.reduceLT, Nat.reduceEqDiff, ↓reduceIte, reduceCtorEq, ne_eq, not_false_eq_true, implies_true, framed_pureF, framed_fb, framed_N, framed_pure, wop_prim, prim, YLD, mkA, V.cells, List.getElem?_cons_zero, List.getElem?_cons_succ, List.set_cons_zero, List.set_cons_succ, Nat.zero_add, Nat.add_zero, Nat.reduceAdd, Nat.reduceSub, Nat.reduceMul, Nat.reduceLeDiff, Nat.not_lt_zero, List.map_cons, List.map_nil, List.cons_append, List.nil_append, loadA, cellsAt, nAg, packA, opt_bind_some, opt_map_some, opt_bind_none, opt_map_none, List.drop, List.take, List.head?, List.length_cons, List.length_nil, binA, unA, eqCells, eqCell, negB, fillA, sr_nil, sr_cons, sr_succ, sr_all, sr_len, storeA, Ob.with, indexedI, V.oneCell, intOf?, retQ_ret, retQ_norm, resA, resA1, fr_getD, packR, sealDepth, shut_bool, shut_int, Option.some.injEq, V.bool.injEq, V.int.injEq, Bool.not_true, Bool.not_false, true_and, and_true, and_self, Bool.and_true, Bool.and_false, Bool.true_and, Bool.false_and, Bool.or_true, Bool.or_false, Bool.true_or, Bool.false_or, Bool.false_eq_true, Int.reduceLT, Int.reduceLE, Int.reduceToNat, Int.reduceNeg, shut_plain, freeL_cons, freeL_nil, free_int, free_bool, free_agg, free_str, free_nils, free_tup, free_sl, true_implies, false_implies, Nat.sub_zero, Int.natCast_nonneg, Int.toNat_natCast, Nat.le_refl, not_true_eq_false, Int.reduceAdd, Int.reduceSub, Int.reduceMul, wrap64, false_and, and_false, cond_true, cond_false, Bool.cond_true_left, Bool.cond_false_right, Int.reduceBNe, Int.reduceBEq, decide_true, decide_false, Int.cast_ofNat_Int, Nat.mul_one, eq_self, Bool.true_eq_false, Bool.not_eq_true, Bool.not_eq_false, deads, List.replicate, argsF, am11, List.append_nil, c22, isNil, oa, q3, t6, wt, c24, -List.drop, -List.take]
  exact q
theorem again_spec {N n : Nat} (hN : 1500 ≤ N) (hn : 4 ≤ n) {a : Nat} {s : Ses} {W : V} {L : List V} {R : List Nat} {h : Heap} (ha : SAt h a s L W R) (f0 : 1 ≤ s.first) (f1 : s.first + L.length ≤ 2000) (hL : L.length ≤ 1000) :
    ∃ v' h', callA am N n 12 [.ptr a 1 0] h = some (v', h') ∧ SAt h' a (toldS s L.length) L W R ∧ Beyond h h' a R R ∧ ∃ C, DRow h.length h' v' C ∧ Tells s L s.first C := by
  obtain ⟨n, rfl⟩ : ∃ m, n = m + 1 := ⟨n - 1, by omega⟩
  have c22 := @is_spec N n (by omega) _ _ _ _ _ _ ha
  obtain ⟨v', h', c24, q⟩ := @tell_spec N n hN (by omega) _ _ _ _ _ _ ha s.first f0 f1 hL
  have oa := ha.ob
  have q3 : (s.cs W).length = 9 := rfl
  have t5 : List.take 1 (List.drop 5 (s.cs W)) = [.int .i64 s.first] := rfl
  refine call_keep at12 rfl rfl (by decide) (sx_wp ?_)
  simp +contextual -implicitDefEqProofs (maxSteps := 10000000) only [sx_seq, sxL_succ, lpQ_norm, lpQ_exit, lpQ_ret, loopQ_norm, loopQ_exit, loopQ_ret, sqQ_norm, sqQ_ret, sqQ_exit, sx_block, blkQ_norm, blkQ_exit, blkQ_ret, sx_cond, cdP_true, cdP_false, cdP_bool, sx_region, sx_draw, plainD, List.all_cons, List.all_nil, List.isEmpty_nil, List.isEmpty_cons, sxo_nil, sxo_cons, sxo_guard, gdS_bool, gdS_eff, gdS_tup, gdS_sel, gdS_seleff, sxK_def, wcall_some, effP_ret, effP_set, effP_none, effP_ite, wop_call, wop_cv, cvP_func, sx_ret, sx_exit, sx_skip, sx_clr, sx_fresh, stays, ↓selV_wt, ↓selV_wf, ↓impB_wt, ↓impB_wf, ↓selV_nor, ↓impB_nor, ↓selV_nt, ↓selV_nf, ↓impB_nt, ↓impB_nf, wantB_true, wantB_false, ↓selV_true, ↓selV_false, ↓selV_and, ↓impB_true, ↓impB_false, ↓impB_and, impB_triv, valOf_some, retH_some, ↓prim_pick, pickO_true, pickO_false, pickO_and, pickO_or, pickO_andr, pickO_orr, pickO_orrn, pickO_orn, pickO_bb, pickAnd_bool, pickOr_bool, ↓selV_nn, ↓impB_nn, Bool.and_assoc, Bool.or_assoc, doOp, ev_fr, ev_cst, put_none, put_fr, get, ins, del, dels, Nat.reduceLT, Nat.reduceEqDiff, ↓reduceIte, reduceCtorEq, ne_eq, not_false_eq_true, implies_true, framed_pureF, framed_fb, framed_N, framed_pure, wop_prim, prim, YLD, mkA, V.cells, List.getElem?_cons_zero, List.getElem?_cons_succ, List.set_cons_zero, List.set_cons_succ, Nat.zero_add, Nat.add_zero, Nat.reduceAdd, Nat.reduceSub, Nat.reduceMul, Nat.reduceLeDiff, Nat.not_lt_zero, List.map_cons, List.map_nil, List.cons_append, List.nil_append, loadA, cellsAt, nAg, packA, opt_bind_some, opt_map_some, opt_bind_none, opt_map_none, List.drop, List.take, List.head?, List.length_cons, List.length_nil, binA, unA, eqCells, eqCell, negB, fillA, sr_nil, sr_cons, sr_succ, sr_all, sr_len, storeA, Ob.with, indexedI, V.oneCell, intOf?, retQ_ret, retQ_norm, resA, resA1, fr_getD, packR, sealDepth, shut_bool, shut_int, Option.some.injEq, V.bool.injEq, V.int.injEq, Bool.not_true, Bool.not_false, true_and, and_true, and_self, Bool.and_true, Bool.and_false, Bool.true_and, Bool.false_and, Bool.or_true, Bool.or_false, Bool.true_or, Bool.false_or, Bool.false_eq_true, Int.reduceLT, Int.reduceLE, Int.reduceToNat, Int.reduceNeg, shut_plain, freeL_cons, freeL_nil, free_int, free_bool, free_agg, free_str, free_nils, free_tup, free_sl, true_implies, false_implies, Nat.sub_zero, Int.natCast_nonneg, Int.toNat_natCast, Nat.le_refl, not_true_eq_false, Int.reduceAdd, Int.reduceSub, Int.reduceMul, wrap64, false_and, and_false, cond_true, cond_false, Bool.cond_true_left, Bool.cond_false_right, Int.reduceBNe, Int.reduceBEq, decide_true, decide_false, Int.cast_ofNat_Int, Nat.mul_one, eq_self, Bool.true_eq_false, Bool.not_eq_true, Bool.not_eq_false, deads, List.replicate, argsF, am12, List.append_nil, c22, isNil, oa, q3, t5, c24, -List.drop, -List.take]
  exact q
def Bys (B : List (List Int)) (L : List V) : Prop := L.length = B.length ∧ ∀ (i : Nat) (b : V) (l : List Int), L[i]? = some b → B[i]? = some l → By l b ∧ l.length ≤ 256
theorem Bys.bods {B : List (List Int)} {L : List V} (h : Bys B L) : Bods L := by
  intro b hb
  obtain ⟨i, hi, rfl⟩ := List.getElem_of_mem hb
  have hlt : i < B.length := by rw [← h.1]; exact hi
  exact ⟨B[i], h.2 i _ _ (List.getElem?_eq_getElem hi) (List.getElem?_eq_getElem hlt)⟩
theorem Bys.snoc {B : List (List Int)} {L : List V} {l : List Int} {b : V} (h : Bys B L) (hb : By l b) (hl : l.length ≤ 256) : Bys (B ++ [l]) (L ++ [b]) := by
  refine ⟨by simp [h.1], fun i c m h1 h2 => ?_⟩
  by_cases hi : i < L.length
  · rw [List.getElem?_append_left hi] at h1
    rw [List.getElem?_append_left (by rw [← h.1]; exact hi)] at h2
    exact h.2 i c m h1 h2
  · rw [List.getElem?_append_right (by omega)] at h1
    rw [List.getElem?_append_right (by rw [← h.1]; omega), ← h.1] at h2
    have h3 := List.mem_of_getElem? h1
    have h4 := List.mem_of_getElem? h2
    obtain rfl := List.mem_singleton.1 h3
    obtain rfl := List.mem_singleton.1 h4
    exact ⟨hb, hl⟩
end Go.Am.T


set_option linter.unusedVariables false
set_option linter.unusedSimpArgs false
set_option maxRecDepth 10000
namespace Go.Am.T
attribute [local congr] selV_congr impB_congr
def strB (l : List Int) : List UInt8 := l.map fun n => UInt8.ofNat n.toNat
theorem prim_b2s {l : List Int} {b : V} (hb : By l b) (fb : Nat) (ρ : Opd → V) (get : Nat → Option Ob) (x : Opd) (hx : ρ x = b) : prim fb ρ get (.b2s x) = some (.ret (.str (strB l))) := by
  have key : ∀ (l : List Int), ((l.map (V.int .u8)).mapM fun (c : V) => match c with | .int .u8 n => some (UInt8.ofNat n.toNat) | _ => none) = some (strB l) := by
    intro l
    induction l with
    | nil => rfl
    | cons a l ih => rw [List.map_cons, List.mapM_cons, ih]; rfl
  have h1 := hb.len
  have h2 := hb.first get
  have h3 := hb.nstr
  unfold prim
  simp only [hx]
  rw [h1]
  simp only [Option.bind_some]
  rw [h2]
  simp only [Option.bind_some]
  exact (congrArg (Option.map fun l => Eff.ret (V.str l)) (key l)).trans rfl
end Go.Am.T


set_option linter.unusedVariables false
set_option linter.unusedSimpArgs false
set_option maxRecDepth 10000
namespace Go.Am.T
attribute [local congr] selV_congr impB_congr
theorem WRow.plain {H : Heap} {W : V} {L : List V} {R : List Nat} (h : WRow H W L R) (hB : Bods L) : ∀ o ∈ R, ∀ y, H[o]? = some y → y.bd.objs = [] := by
  rcases h with ⟨-, -, rfl⟩ | ⟨o, ver, x, rfl, ho, -, hx⟩
  · intro o ho; cases ho
  · intro o' h' y hy
    obtain rfl := List.mem_singleton.1 h'
    rw [ho] at hy
    cases hy
    show V.objsL (x ++ L) = []
    rw [objsL_app, hx, hB.objs]; rfl
end Go.Am.T


set_option linter.unusedVariables false
set_option linter.unusedSimpArgs false
set_option maxRecDepth 10000
namespace Go.Am.T
attribute [local congr] selV_congr impB_congr
def El (H : Heap) (l : List Int) (e : V) : Prop := By l e ∨ ∃ o ver, l ≠ [] ∧ e = .view o ver 0 l.length 1 none ∧ H[o]? = some ⟨ver, .arr (l.map (V.int .u8))⟩
theorem El.shut {H : Heap} {l : List Int} {e : V} (h : El H l e) (d : Nat) : ∃ b, V.shut (fun o => H[o]?) (d + 2) e = some b ∧ By l b := by
  rcases h with h | ⟨o, ver, hl, rfl, ho⟩
  · exact ⟨e, shut_plain h.free, h⟩
  · refine ⟨.sl (l.map (V.int .u8)) 1 none, shut_view (by decide) ?_ (by simp) ?_, .inr ⟨_, rfl⟩⟩
    · intro e he
      obtain ⟨y, -, rfl⟩ := List.mem_map.1 he
      exact ⟨rfl, rfl, fun c hc => by cases hc with | head => exact ⟨rfl, rfl⟩ | tail _ h => cases h⟩
    · rw [flat_ints]
      simp only [loadA, cellsAt, ho, ↓reduceIte]
      rw [if_pos (by simp), List.drop_zero, List.take_of_length_le (by simp)]
def Els (H : Heap) (B : List (List Int)) (L : List V) : Prop := L.length = B.length ∧ ∀ (i : Nat) (e : V) (l : List Int), L[i]? = some e → B[i]? = some l → El H l e
theorem Els.nil {H : Heap} : Els H [] [] := ⟨rfl, fun i e l h => by simp at h⟩
theorem Els.snoc {H : Heap} {B : List (List Int)} {L : List V} {l : List Int} {e : V} (h : Els H B L) (he : El H l e) : Els H (B ++ [l]) (L ++ [e]) := by
  refine ⟨by simp [h.1], fun i c m h1 h2 => ?_⟩
  by_cases hi : i < L.length
  · rw [List.getElem?_append_left hi] at h1
    rw [List.getElem?_append_left (by rw [← h.1]; exact hi)] at h2
    exact h.2 i c m h1 h2
  · rw [List.getElem?_append_right (by omega)] at h1
    rw [List.getElem?_append_right (by rw [← h.1]; omega), ← h.1] at h2
    obtain rfl := List.mem_singleton.1 (List.mem_of_getElem? h1)
    obtain rfl := List.mem_singleton.1 (List.mem_of_getElem? h2)
    exact he
theorem Els.keep {H H' : Heap} {B : List (List Int)} {L : List V} (h : Els H B L) (hk : ∀ o ∈ V.objsL L, H'[o]? = H[o]?) : Els H' B L := by
  refine ⟨h.1, fun i e l h1 h2 => ?_⟩
  rcases h.2 i e l h1 h2 with hb | ⟨o, ver, hl, rfl, ho⟩
  · exact .inl hb
  · exact .inr ⟨o, ver, hl, rfl, by rw [hk o (objsL_get h1 o (by simp [V.objs]))]; exact ho⟩
theorem Els.shut {H : Heap} (d : Nat) : ∀ {L : List V} {B : List (List Int)}, Els H B L → ∃ M : List V, L.mapM (V.shut (fun o => H[o]?) (d + 2)) = some M ∧ M.length = B.length ∧ ∀ (i : Nat) (b : V) (l : List Int), M[i]? = some b → B[i]? = some l → By l b
  | [], B, h => ⟨[], rfl, h.1, fun i b l h => by simp at h⟩
  | e :: L, [], h => by have := h.1; simp at this
  | e :: L, l :: B, h => by
    obtain ⟨b, h1, h2⟩ := (h.2 0 e l rfl rfl).shut d
    obtain ⟨M, m1, m2, m3⟩ := Els.shut d (L := L) (B := B) ⟨by simpa using h.1, fun i e l h1 h2 => h.2 (i + 1) e l (by simpa using h1) (by simpa using h2)⟩
    refine ⟨b :: M, by rw [List.mapM_cons, h1, m1]; rfl, by simp [m2], fun i c m h3 h4 => ?_⟩
    cases i with
    | zero => simp at h3 h4; subst h3; subst h4; exact h2
    | succ i => exact m3 i c m (by simpa using h3) (by simpa using h4)
def ERow (H : Heap) (W : V) (B : List (List Int)) : Prop :=
  (B = [] ∧ W = .nils) ∨ (B = [] ∧ ∃ o ver cs, W = .vend o ver 1 ∧ H[o]? = some ⟨ver, .arr cs⟩) ∨ ∃ o ver x L, B ≠ [] ∧ H[o]? = some ⟨ver, .arr (x ++ L)⟩ ∧ W = .view o ver x.length L.length 1 none ∧ Els H B L
theorem WRow.erow {H : Heap} {W : V} {L : List V} {R : List Nat} (h : WRow H W L R) {B : List (List Int)} (hE : Els H B L) : ERow H W B := by
  rcases h with ⟨rfl, rfl, -⟩ | ⟨o, ver, x, -, ho, ⟨rfl, rfl⟩ | ⟨hne, rfl⟩, -⟩
  · exact .inl ⟨List.length_eq_zero_iff.1 hE.1.symm, rfl⟩
  · exact .inr (.inl ⟨List.length_eq_zero_iff.1 hE.1.symm, o, ver, _, rfl, ho⟩)
  · refine .inr (.inr ⟨o, ver, x, L, ?_, ho, rfl, hE⟩)
    rintro rfl
    exact hne (List.length_eq_zero_iff.1 hE.1)
def SRow (S : V) (B : List (List Int)) : Prop := ∃ M : List V, IsL S 1 (M.map fun b => [b]) ∧ M.length = B.length ∧ ∀ (i : Nat) (b : V) (l : List Int), M[i]? = some b → B[i]? = some l → By l b
theorem map_free {M : List V} {B : List (List Int)} (hl : M.length = B.length) (h : ∀ (i : Nat) (b : V) (l : List Int), M[i]? = some b → B[i]? = some l → By l b) : ∀ b ∈ M, ∃ l, By l b := by
  intro b hb
  obtain ⟨i, hi, rfl⟩ := List.getElem_of_mem hb
  exact ⟨B[i]'(by omega), h i _ _ (List.getElem?_eq_getElem hi) (List.getElem?_eq_getElem (by omega))⟩
theorem ERow.shut {H : Heap} {W : V} {B : List (List Int)} (h : ERow H W B) (d : Nat) : ∃ S, V.shut (fun o => H[o]?) (d + 3) W = some S ∧ SRow S B ∧ S.free = true ∧ S.cells = [S] ∧ (∀ s, S ≠ .str s) ∧ S ≠ .junk ∧ (∀ s, S ≠ .agg s) := by
  rcases h with ⟨rfl, rfl⟩ | ⟨rfl, o, ver, cs, rfl, ho⟩ | ⟨o, ver, x, L, hB, ho, rfl, hE⟩
  · exact ⟨.nils, rfl, ⟨[], isL_nils 1, rfl, fun i b l h => by simp at h⟩, rfl, rfl, fun _ => V.noConfusion, V.noConfusion, fun _ => V.noConfusion⟩
  · refine ⟨.sl [] 1 none, ?_, ⟨[], isL_sl rfl rfl, rfl, fun i b l h => by simp at h⟩, rfl, rfl, fun _ => V.noConfusion, V.noConfusion, fun _ => V.noConfusion⟩
    have e : V.shut (fun o => H[o]?) (d + 3) (.vend o ver 1) = match cellsAt (fun o => H[o]?) o ver with | some _ => some (.sl [] 1 none) | none => none := rfl
    rw [e]
    simp [cellsAt, ho]
  · obtain ⟨M, m1, m2, m3⟩ := hE.shut d
    have hMb := map_free m2 m3
    have hlen : M.length = L.length := by rw [m2, hE.1]
    have hf : V.freeL M = true := freeL_of_mem fun c hc => by obtain ⟨l, hl⟩ := hMb c hc; exact hl.free
    have hcl : ∀ b ∈ M, b.cells = [b] := fun b hb => by obtain ⟨l, hl⟩ := hMb b hb; exact hl.cells
    have hone : M.all V.oneCell = true := by
      rw [List.all_eq_true]
      intro c hc
      obtain ⟨l, hl⟩ := hMb c hc
      exact hl.one
    have hld : loadA (fun o => H[o]?) (L.length * 1) (.ptr o ver x.length) = some L := by
      simp only [loadA, cellsAt, ho, ↓reduceIte]
      rw [if_pos (by simp), List.drop_left, List.take_of_length_le (by simp)]
    have hch : (List.range L.length).map (fun i => wrapV ((M.drop (i * 1)).take 1)) = M := by
      rw [← hlen]
      apply List.ext_getElem?
      intro i
      rw [List.getElem?_map]
      rcases Nat.lt_or_ge i M.length with hi | hi
      · rw [List.getElem?_range hi, List.getElem?_eq_getElem hi]
        simp only [Option.map_some, Nat.mul_one]
        rw [List.drop_eq_getElem_cons hi]
        rfl
      · rw [List.getElem?_eq_none (by simpa using hi), List.getElem?_eq_none hi]; rfl
    have e : V.shut (fun o => H[o]?) (d + 3) (.view o ver x.length L.length 1 none) = match loadA (fun o => H[o]?) (L.length * 1) (.ptr o ver x.length) with
      | some cs => match cs.mapM (V.shut (fun o => H[o]?) (d + 2)) with
        | some cs => if cs.all V.oneCell then some (.sl ((List.range L.length).map fun i => wrapV ((cs.drop (i * 1)).take 1)) 1 none) else none
        | none => none
      | none => none := rfl
    refine ⟨.sl M 1 none, ?_, ⟨M, isL_sl hf ?_, m2, m3⟩, hf, rfl, fun _ => V.noConfusion, V.noConfusion, fun _ => V.noConfusion⟩
    · rw [e, hld]
      simp only [m1, hone, ↓reduceIte, hch]
    · exact List.map_congr_left fun b hb => hcl b hb
end Go.Am.T


set_option linter.unusedVariables false
set_option linter.unusedSimpArgs false
set_option maxRecDepth 10000
namespace Go.Am.T
attribute [local congr] selV_congr impB_congr
theorem SRow.len {S : V} {B : List (List Int)} (h : SRow S B) : lenA S = some B.length := by
  obtain ⟨M, h1, h2, -⟩ := h
  have := h1.len
  rw [List.length_map, h2] at this
  exact this
theorem SRow.at_ {S : V} {B : List (List Int)} (h : SRow S B) {i : Nat} {l : List Int} (hi : B[i]? = some l) : ∃ b, iaddrSA 1 S (.int .i64 i) = some (.ret (.iptr [b] 0)) ∧ By l b := by
  obtain ⟨M, h1, h2, h3⟩ := h
  have hlt := (List.getElem?_eq_some_iff.1 hi).1
  have hm : M[i]? = some (M[i]'(by omega)) := List.getElem?_eq_getElem _
  refine ⟨M[i]'(by omega), ?_, h3 i _ _ hm hi⟩
  rw [h1.at_ i, List.getElem?_map, hm]; rfl
set_option maxHeartbeats 2000000 in
theorem right_i {N n : Nat} (hN : 1500 ≤ N) (hn : 1 ≤ n) {x0 x1 on S0 S1 O0 O1 : V} {A0 A1 B0 B1 : List (List Int)} (hfree : V.freeL [x0, x1, on, S0, S1, O0, O1] = true) (hS0 : SRow S0 A0) (hS1 : SRow S1 A1) (hO0 : SRow O0 B0) (hO1 : SRow O1 B1)
    (nS0 : ∀ s, S0 ≠ .str s) (nS1 : ∀ s, S1 ≠ .str s) (nO0 : ∀ s, O0 ≠ .str s) (nO1 : ∀ s, O1 ≠ .str s) {r0 r1 : List (List Int)} (p0 : A1 = B0 ++ r0) (p1 : A0 = B1 ++ r1) (hA0 : A0.length ≤ 1000) (hA1 : A1.length ≤ 1000)
    {args : List V} {h : Heap} (ha : args.mapM (V.shut (fun o => h[o]?) sealDepth) = some [.iptr [x0, x1, on, S0, S1, O0, O1] 0]) (hal : args.length = 1) : callA am N n 14 args h = some (.bool true, h) := by
  obtain ⟨n, rfl⟩ : ∃ m, n = m + 1 := ⟨n - 1, by omega⟩
  have s0 := hS0.len
  have s1 := hS1.len
  have o0 := hO0.len
  have o1 := hO1.len
  have g0 : decide ((B0.length : Int) > (A1.length : Int)) = false := decide_eq_false (by rw [p0]; simp; omega)
  have g1 : decide ((B1.length : Int) > (A0.length : Int)) = false := decide_eq_false (by rw [p1]; simp; omega)
  have hB0 : B0.length ≤ 1000 := by rw [p0] at hA1; simp at hA1; omega
  have hB1 : B1.length ≤ 1000 := by rw [p1] at hA0; simp at hA0; omega
  refine call_look at14 rfl hal (by decide) ha (sx_wp ?_)
  simp +contextual -implicitDefEqProofs (maxSteps := 10000000) only [sx_seq, sxL_succ, lpQ_norm, lpQ_exit, lpQ_ret, loopQ_norm, loopQ_exit, loopQ_ret, sqQ_norm, sqQ_ret, sqQ_exit, sx_block, blkQ_norm, blkQ_exit, blkQ_ret, sx_cond, cdP_true, cdP_false, cdP_bool, sx_region, sx_draw, plainD, List.all_cons, List.all_nil, List.isEmpty_nil, List.isEmpty_cons, sxo_nil, sxo_cons, sxo_guard, gdS_bool, gdS_eff, gdS_tup, gdS_sel, gdS_seleff, sxK_def, wcall_some, effP_ret, effP_set, effP_none, effP_ite, wop_call, wop_cv, cvP_func, sx_ret, sx_exit, sx_skip, sx_clr, sx_fresh, stays, ↓selV_wt, ↓selV_wf, ↓impB_wt, ↓impB_wf, ↓selV_nor, ↓impB_nor, ↓selV_nt, ↓selV_nf, ↓impB_nt, ↓impB_nf, wantB_true, wantB_false, ↓selV_true, ↓selV_false, ↓selV_and, ↓impB_true, ↓impB_false, ↓impB_and, impB_triv, valOf_some, retH_some, ↓prim_pick, pickO_true, pickO_false, pickO_and, pickO_or, pickO_andr, pickO_orr, pickO_orrn, pickO_orn, pickO_bb, pickAnd_bool, pickOr_bool, ↓selV_nn, ↓impB_nn, Bool.and_assoc, Bool.or_assoc, doOp, ev_fr, ev_cst, put_none, put_fr, get, ins, del, dels, Nat.reduceLT, Nat.reduceEqDiff, ↓reduceIte, reduceCtorEq, ne_eq, not_false_eq_true, implies_true, framed_pureF, framed_fb, framed_N, framed_pure, wop_prim, prim, YLD, mkA, V.cells, List.getElem?_cons_zero, List.getElem?_cons_succ, List.set_cons_zero, List.set_cons_succ, Nat.zero_add, Nat.add_zero, Nat.reduceAdd, Nat.reduceSub, Nat.reduceMul, Nat.reduceLeDiff, Nat.not_lt_zero, List.map_cons, List.map_nil, List.cons_append, List.nil_append, loadA, cellsAt, nAg, packA, opt_bind_some, opt_map_some, opt_bind_none, opt_map_none, List.drop, List.take, List.head?, List.length_cons, List.length_nil, binA, unA, eqCells, eqCell, negB, fillA, sr_nil, sr_cons, sr_succ, sr_all, sr_len, storeA, Ob.with, indexedI, V.oneCell, intOf?, retQ_ret, retQ_norm, resA, resA1, fr_getD, packR, sealDepth, shut_bool, shut_int, Option.some.injEq, V.bool.injEq, V.int.injEq, Bool.not_true, Bool.not_false, true_and, and_true, and_self, Bool.and_true, Bool.and_false, Bool.true_and, Bool.false_and, Bool.or_true, Bool.or_false, Bool.true_or, Bool.false_or, Bool.false_eq_true, Int.reduceLT, Int.reduceLE, Int.reduceToNat, Int.reduceNeg, shut_plain, freeL_cons, freeL_nil, free_int, free_bool, free_agg, free_str, free_nils, free_tup, free_sl, true_implies, false_implies, Nat.sub_zero, Int.natCast_nonneg, Int.toNat_natCast, Nat.le_refl, not_true_eq_false, Int.reduceAdd, Int.reduceSub, Int.reduceMul, wrap64, false_and, and_false, cond_true, cond_false, Bool.cond_true_left, Bool.cond_false_right, Int.reduceBNe, Int.reduceBEq, decide_true, decide_false, Int.cast_ofNat_Int, Nat.mul_one, eq_self, Bool.true_eq_false, Bool.not_eq_true, Bool.not_eq_false, deads, List.replicate, argsF, am14]
  refine sx_unroll 3 (by show 3 ≤ N; omega) ?_
  simp +contextual -implicitDefEqProofs (maxSteps := 10000000) only [sx_seq, sxL_succ, lpQ_norm, lpQ_exit, lpQ_ret, loopQ_norm, loopQ_exit, loopQ_ret, sqQ_norm, sqQ_ret, sqQ_exit, sx_block, blkQ_norm, blkQ_exit, blkQ_ret, sx_cond, cdP_true, cdP_false, cdP_bool, sx_region, sx_draw, plainD, List.all_cons, List.all_nil, List.isEmpty_nil, List.isEmpty_cons, sxo_nil, sxo_cons, sxo_guard, gdS_bool, gdS_eff, gdS_tup, gdS_sel, gdS_seleff, sxK_def, wcall_some, effP_ret, effP_set, effP_none, effP_ite, wop_call, wop_cv, cvP_func, sx_ret, sx_exit, sx_skip, sx_clr, sx_fresh, stays, ↓selV_wt, ↓selV_wf, ↓impB_wt, ↓impB_wf, ↓selV_nor, ↓impB_nor, ↓selV_nt, ↓selV_nf, ↓impB_nt, ↓impB_nf, wantB_true, wantB_false, ↓selV_true, ↓selV_false, ↓selV_and, ↓impB_true, ↓impB_false, ↓impB_and, impB_triv, valOf_some, retH_some, ↓prim_pick, pickO_true, pickO_false, pickO_and, pickO_or, pickO_andr, pickO_orr, pickO_orrn, pickO_orn, pickO_bb, pickAnd_bool, pickOr_bool, ↓selV_nn, ↓impB_nn, Bool.and_assoc, Bool.or_assoc, doOp, ev_fr, ev_cst, put_none, put_fr, get, ins, del, dels, Nat.reduceLT, Nat.reduceEqDiff, ↓reduceIte, reduceCtorEq, ne_eq, not_false_eq_true, implies_true, framed_pureF, framed_fb, framed_N, framed_pure, wop_prim, prim, YLD, mkA, V.cells, List.getElem?_cons_zero, List.getElem?_cons_succ, List.set_cons_zero, List.set_cons_succ, Nat.zero_add, Nat.add_zero, Nat.reduceAdd, Nat.reduceSub, Nat.reduceMul, Nat.reduceLeDiff, Nat.not_lt_zero, List.map_cons, List.map_nil, List.cons_append, List.nil_append, loadA, cellsAt, nAg, packA, opt_bind_some, opt_map_some, opt_bind_none, opt_map_none, List.drop, List.take, List.head?, List.length_cons, List.length_nil, binA, unA, eqCells, eqCell, negB, fillA, sr_nil, sr_cons, sr_succ, sr_all, sr_len, storeA, Ob.with, indexedI, V.oneCell, intOf?, retQ_ret, retQ_norm, resA, resA1, fr_getD, packR, sealDepth, shut_bool, shut_int, Option.some.injEq, V.bool.injEq, V.int.injEq, Bool.not_true, Bool.not_false, true_and, and_true, and_self, Bool.and_true, Bool.and_false, Bool.true_and, Bool.false_and, Bool.or_true, Bool.or_false, Bool.true_or, Bool.false_or, Bool.false_eq_true, Int.reduceLT, Int.reduceLE, Int.reduceToNat, Int.reduceNeg, shut_plain, freeL_cons, freeL_nil, free_int, free_bool, free_agg, free_str, free_nils, free_tup, free_sl, true_implies, false_implies, Nat.sub_zero, Int.natCast_nonneg, Int.toNat_natCast, Nat.le_refl, not_true_eq_false, Int.reduceAdd, Int.reduceSub, Int.reduceMul, wrap64, false_and, and_false, cond_true, cond_false, Bool.cond_true_left, Bool.cond_false_right, Int.reduceBNe, Int.reduceBEq, decide_true, decide_false, Int.cast_ofNat_Int, Nat.mul_one, eq_self, Bool.true_eq_false, Bool.not_eq_true, Bool.not_eq_false, deads, List.replicate, argsF, sx_drawd, reachC_nil, wpd_nil, wpd_cons, wdK_def, fpOf, fpV, fpCall, Fp.ok, disj, List.contains_cons, List.contains_nil, Nat.reduceBEq, List.all_append, V.objsL, V.objs,  List.getD_cons_zero, List.getD_cons_succ, List.append_nil, isNil, o0, s1, g0]
  refine sx_loop (fun i t H => t = fr 46 [(0, .iptr [x0, x1, on, S0, S1, O0, O1] 0), (3, .int .i64 0), (4, O0), (5, S1), (6, .int .i64 i)] ∧ i ≤ B0.length ∧ H = []) B0.length (by show B0.length < N; omega) ⟨rfl, Nat.zero_le _, rfl⟩ ?_
  rintro i t H hi ⟨rfl, hiB, rfl⟩
  by_cases hlt : i < B0.length
  · have d1 : decide ((i : Int) < (B0.length : Int)) = true := decide_eq_true (by omega)
    have w4 : IntKind.i64.wrap ((i : Int) + 1) = ((i + 1 : Nat) : Int) := (wrap64 (by omega) (by omega)).trans (by omega)
    have hi1 : i + 1 ≤ B0.length := by omega
    obtain ⟨l, hl⟩ : ∃ l, B0[i]? = some l := ⟨_, List.getElem?_eq_getElem hlt⟩
    obtain ⟨b, hb1, hb⟩ := hO0.at_ hl
    obtain ⟨c, hc1, hc⟩ := hS1.at_ (i := i) (l := l) (by rw [p0, List.getElem?_append_left hlt]; exact hl)
    have q1 := prim_b2s hb
    have q2 := prim_b2s hc
    have k1 := hb.njunk
    have k2 := hc.njunk
    have e0 : (strB l == strB l) = true := by simp
    simp +contextual -implicitDefEqProofs (maxSteps := 10000000) only [sx_seq, sxL_succ, lpQ_norm, lpQ_exit, lpQ_ret, loopQ_norm, loopQ_exit, loopQ_ret, sqQ_norm, sqQ_ret, sqQ_exit, sx_block, blkQ_norm, blkQ_exit, blkQ_ret, sx_cond, cdP_true, cdP_false, cdP_bool, sx_region, sx_draw, plainD, List.all_cons, List.all_nil, List.isEmpty_nil, List.isEmpty_cons, sxo_nil, sxo_cons, sxo_guard, gdS_bool, gdS_eff, gdS_tup, gdS_sel, gdS_seleff, sxK_def, wcall_some, effP_ret, effP_set, effP_none, effP_ite, wop_call, wop_cv, cvP_func, sx_ret, sx_exit, sx_skip, sx_clr, sx_fresh, stays, ↓selV_wt, ↓selV_wf, ↓impB_wt, ↓impB_wf, ↓selV_nor, ↓impB_nor, ↓selV_nt, ↓selV_nf, ↓impB_nt, ↓impB_nf, wantB_true, wantB_false, ↓selV_true, ↓selV_false, ↓selV_and, ↓impB_true, ↓impB_false, ↓impB_and, impB_triv, valOf_some, retH_some, ↓prim_pick, pickO_true, pickO_false, pickO_and, pickO_or, pickO_andr, pickO_orr, pickO_orrn, pickO_orn, pickO_bb, pickAnd_bool, pickOr_bool, ↓selV_nn, ↓impB_nn, Bool.and_assoc, Bool.or_assoc, doOp, ev_fr, ev_cst, put_none, put_fr, get, ins, del, dels, Nat.reduceLT, Nat.reduceEqDiff, ↓reduceIte, reduceCtorEq, ne_eq, not_false_eq_true, implies_true, framed_pureF, framed_fb, framed_N, framed_pure, wop_prim, prim, YLD, mkA, V.cells, List.getElem?_cons_zero, List.getElem?_cons_succ, List.set_cons_zero, List.set_cons_succ, Nat.zero_add, Nat.add_zero, Nat.reduceAdd, Nat.reduceSub, Nat.reduceMul, Nat.reduceLeDiff, Nat.not_lt_zero, List.map_cons, List.map_nil, List.cons_append, List.nil_append, loadA, cellsAt, nAg, packA, opt_bind_some, opt_map_some, opt_bind_none, opt_map_none, List.drop, List.take, List.head?, List.length_cons, List.length_nil, binA, unA, eqCells, eqCell, negB, fillA, sr_nil, sr_cons, sr_succ, sr_all, sr_len, storeA, Ob.with, indexedI, V.oneCell, intOf?, retQ_ret, retQ_norm, resA, resA1, fr_getD, packR, sealDepth, shut_bool, shut_int, Option.some.injEq, V.bool.injEq, V.int.injEq, Bool.not_true, Bool.not_false, true_and, and_true, and_self, Bool.and_true, Bool.and_false, Bool.true_and, Bool.false_and, Bool.or_true, Bool.or_false, Bool.true_or, Bool.false_or, Bool.false_eq_true, Int.reduceLT, Int.reduceLE, Int.reduceToNat, Int.reduceNeg, shut_plain, freeL_cons, freeL_nil, free_int, free_bool, free_agg, free_str, free_nils, free_tup, free_sl, true_implies, false_implies, Nat.sub_zero, Int.natCast_nonneg, Int.toNat_natCast, Nat.le_refl, not_true_eq_false, Int.reduceAdd, Int.reduceSub, Int.reduceMul, wrap64, false_and, and_false, cond_true, cond_false, Bool.cond_true_left, Bool.cond_false_right, Int.reduceBNe, Int.reduceBEq, decide_true, decide_false, Int.cast_ofNat_Int, Nat.mul_one, eq_self, Bool.true_eq_false, Bool.not_eq_true, Bool.not_eq_false, deads, List.replicate, argsF, sx_drawd, reachC_nil, wpd_nil, wpd_cons, wdK_def, fpOf, fpV, fpCall, Fp.ok, disj, List.contains_cons, List.contains_nil, Nat.reduceBEq, List.all_append, V.objsL, V.objs,  List.getD_cons_zero, List.getD_cons_succ, List.append_nil, o0, d1, hb1, hc1, ↓q1, ↓q2, e0, w4, hi1, hlt]
  have e : i = B0.length := by omega
  subst e
  have d1 : decide ((B0.length : Int) < (B0.length : Int)) = false := decide_eq_false (by omega)
  simp +contextual -implicitDefEqProofs (maxSteps := 10000000) only [sx_seq, sxL_succ, lpQ_norm, lpQ_exit, lpQ_ret, loopQ_norm, loopQ_exit, loopQ_ret, sqQ_norm, sqQ_ret, sqQ_exit, sx_block, blkQ_norm, blkQ_exit, blkQ_ret, sx_cond, cdP_true, cdP_false, cdP_bool, sx_region, sx_draw, plainD, List.all_cons, List.all_nil, List.isEmpty_nil, List.isEmpty_cons, sxo_nil, sxo_cons, sxo_guard, gdS_bool, gdS_eff, gdS_tup, gdS_sel, gdS_seleff, sxK_def, wcall_some, effP_ret, effP_set, effP_none, effP_ite, wop_call, wop_cv, cvP_func, sx_ret, sx_exit, sx_skip, sx_clr, sx_fresh, stays, ↓selV_wt, ↓selV_wf, ↓impB_wt, ↓impB_wf, ↓selV_nor, ↓impB_nor, ↓selV_nt, ↓selV_nf, ↓impB_nt, ↓impB_nf, wantB_true, wantB_false, ↓selV_true, ↓selV_false, ↓selV_and, ↓impB_true, ↓impB_false, ↓impB_and, impB_triv, valOf_some, retH_some, ↓prim_pick, pickO_true, pickO_false, pickO_and, pickO_or, pickO_andr, pickO_orr, pickO_orrn, pickO_orn, pickO_bb, pickAnd_bool, pickOr_bool, ↓selV_nn, ↓impB_nn, Bool.and_assoc, Bool.or_assoc, doOp, ev_fr, ev_cst, put_none, put_fr, get, ins, del, dels, Nat.reduceLT, Nat.reduceEqDiff, ↓reduceIte, reduceCtorEq, ne_eq, not_false_eq_true, implies_true, framed_pureF, framed_fb, framed_N, framed_pure, wop_prim, prim, YLD, mkA, V.cells, List.getElem?_cons_zero, List.getElem?_cons_succ, List.set_cons_zero, List.set_cons_succ, Nat.zero_add, Nat.add_zero, Nat.reduceAdd, Nat.reduceSub, Nat.reduceMul, Nat.reduceLeDiff, Nat.not_lt_zero, List.map_cons, List.map_nil, List.cons_append, List.nil_append, loadA, cellsAt, nAg, packA, opt_bind_some, opt_map_some, opt_bind_none, opt_map_none, List.drop, List.take, List.head?, List.length_cons, List.length_nil, binA, unA, eqCells, eqCell, negB, fillA, sr_nil, sr_cons, sr_succ, sr_all, sr_len, storeA, Ob.with, indexedI, V.oneCell, intOf?, retQ_ret, retQ_norm, resA, resA1, fr_getD, packR, sealDepth, shut_bool, shut_int, Option.some.injEq, V.bool.injEq, V.int.injEq, Bool.not_true, Bool.not_false, true_and, and_true, and_self, Bool.and_true, Bool.and_false, Bool.true_and, Bool.false_and, Bool.or_true, Bool.or_false, Bool.true_or, Bool.false_or, Bool.false_eq_true, Int.reduceLT, Int.reduceLE, Int.reduceToNat, Int.reduceNeg, shut_plain, freeL_cons, freeL_nil, free_int, free_bool, free_agg, free_str, free_nils, free_tup, free_sl, true_implies, false_implies, Nat.sub_zero, Int.natCast_nonneg, Int.toNat_natCast, Nat.le_refl, not_true_eq_false, Int.reduceAdd, Int.reduceSub, Int.reduceMul, wrap64, false_and, and_false, cond_true, cond_false, Bool.cond_true_left, Bool.cond_false_right, Int.reduceBNe, Int.reduceBEq, decide_true, decide_false, Int.cast_ofNat_Int, Nat.mul_one, eq_self, Bool.true_eq_false, Bool.not_eq_true, Bool.not_eq_false, deads, List.replicate, argsF, sx_drawd, reachC_nil, wpd_nil, wpd_cons, wdK_def, fpOf, fpV, fpCall, Fp.ok, disj, List.contains_cons, List.contains_nil, Nat.reduceBEq, List.all_append, V.objsL, V.objs,  List.getD_cons_zero, List.getD_cons_succ, List.append_nil, isNil, o0, d1, o1, s0, g1]
  refine sx_loop (fun i t H => t = fr 46 [(0, .iptr [x0, x1, on, S0, S1, O0, O1] 0), (3, .int .i64 1), (4, O1), (5, S0), (6, .int .i64 i)] ∧ i ≤ B1.length ∧ H = []) B1.length (by show B1.length < N; omega) ⟨rfl, Nat.zero_le _, rfl⟩ ?_
  rintro i t H hi ⟨rfl, hiB, rfl⟩
  by_cases hlt : i < B1.length
  · have d1 : decide ((i : Int) < (B1.length : Int)) = true := decide_eq_true (by omega)
    have w4 : IntKind.i64.wrap ((i : Int) + 1) = ((i + 1 : Nat) : Int) := (wrap64 (by omega) (by omega)).trans (by omega)
    have hi1 : i + 1 ≤ B1.length := by omega
    obtain ⟨l, hl⟩ : ∃ l, B1[i]? = some l := ⟨_, List.getElem?_eq_getElem hlt⟩
    obtain ⟨b, hb1, hb⟩ := hO1.at_ hl
    obtain ⟨c, hc1, hc⟩ := hS0.at_ (i := i) (l := l) (by rw [p1, List.getElem?_append_left hlt]; exact hl)
    have q1 := prim_b2s hb
    have q2 := prim_b2s hc
    have k1 := hb.njunk
    have k2 := hc.njunk
    have e0 : (strB l == strB l) = true := by simp
    simp +contextual -implicitDefEqProofs (maxSteps := 10000000) only [sx_seq, sxL_succ, lpQ_norm, lpQ_exit, lpQ_ret, loopQ_norm, loopQ_exit, loopQ_ret, sqQ_norm, sqQ_ret, sqQ_exit, sx_block, blkQ_norm, blkQ_exit, blkQ_ret, sx_cond, cdP_true, cdP_false, cdP_bool, sx_region, sx_draw, plainD, List.all_cons, List.all_nil, List.isEmpty_nil, List.isEmpty_cons, sxo_nil, sxo_cons, sxo_guard, gdS_bool, gdS_eff, gdS_tup, gdS_sel, gdS_seleff, sxK_def, wcall_some, effP_ret, effP_set, effP_none, effP_ite, wop_call, wop_cv, cvP_func, sx_ret, sx_exit, sx_skip, sx_clr, sx_fresh, stays, ↓selV_wt, ↓selV_wf, ↓impB_wt, ↓impB_wf, ↓selV_nor, ↓impB_nor, ↓selV_nt, ↓selV_nf, ↓impB_nt, ↓impB_nf, wantB_true, wantB_false, ↓selV_true, ↓selV_false, ↓selV_and, ↓impB_true, ↓impB_false, ↓impB_and, impB_triv, valOf_some, retH_some, ↓prim_pick, pickO_true, pickO_false, pickO_and, pickO_or, pickO_andr, pickO_orr, pickO_orrn, pickO_orn, pickO_bb, pickAnd_bool, pickOr_bool, ↓selV_nn, ↓impB_nn, Bool.and_assoc, Bool.or_assoc, doOp, ev_fr, ev_cst, put_none, put_fr, get, ins, del, dels, Nat.reduceLT, Nat.reduceEqDiff, ↓reduceIte, reduceCtorEq, ne_eq, not_false_eq_true, implies_true, framed_pureF, framed_fb, framed_N, framed_pure, wop_prim, prim, YLD, mkA, V.cells, List.getElem?_cons_zero, List.getElem?_cons_succ, List.set_cons_zero, List.set_cons_succ, Nat.zero_add, Nat.add_zero, Nat.reduceAdd, Nat.reduceSub, Nat.reduceMul, Nat.reduceLeDiff, Nat.not_lt_zero, List.map_cons, List.map_nil, List.cons_append, List.nil_append, loadA, cellsAt, nAg, packA, opt_bind_some, opt_map_some, opt_bind_none, opt_map_none, List.drop, List.take, List.head?, List.length_cons, List.length_nil, binA, unA, eqCells, eqCell, negB, fillA, sr_nil, sr_cons, sr_succ, sr_all, sr_len, storeA, Ob.with, indexedI, V.oneCell, intOf?, retQ_ret, retQ_norm, resA, resA1, fr_getD, packR, sealDepth, shut_bool, shut_int, Option.some.injEq, V.bool.injEq, V.int.injEq, Bool.not_true, Bool.not_false, true_and, and_true, and_self, Bool.and_true, Bool.and_false, Bool.true_and, Bool.false_and, Bool.or_true, Bool.or_false, Bool.true_or, Bool.false_or, Bool.false_eq_true, Int.reduceLT, Int.reduceLE, Int.reduceToNat, Int.reduceNeg, shut_plain, freeL_cons, freeL_nil, free_int, free_bool, free_agg, free_str, free_nils, free_tup, free_sl, true_implies, false_implies, Nat.sub_zero, Int.natCast_nonneg, Int.toNat_natCast, Nat.le_refl, not_true_eq_false, Int.reduceAdd, Int.reduceSub, Int.reduceMul, wrap64, false_and, and_false, cond_true, cond_false, Bool.cond_true_left, Bool.cond_false_right, Int.reduceBNe, Int.reduceBEq, decide_true, decide_false, Int.cast_ofNat_Int, Nat.mul_one, eq_self, Bool.true_eq_false, Bool.not_eq_true, Bool.not_eq_false, deads, List.replicate, argsF, sx_drawd, reachC_nil, wpd_nil, wpd_cons, wdK_def, fpOf, fpV, fpCall, Fp.ok, disj, List.contains_cons, List.contains_nil, Nat.reduceBEq, List.all_append, V.objsL, V.objs,  List.getD_cons_zero, List.getD_cons_succ, List.append_nil, o1, d1, hb1, hc1, ↓q1, ↓q2, e0, w4, hi1, hlt]
  have e : i = B1.length := by omega
  subst e
  have d1 : decide ((B1.length : Int) < (B1.length : Int)) = false := decide_eq_false (by omega)
  simp +contextual -implicitDefEqProofs (maxSteps := 10000000) only [sx_seq, sxL_succ, lpQ_norm, lpQ_exit, lpQ_ret, loopQ_norm, loopQ_exit, loopQ_ret, sqQ_norm, sqQ_ret, sqQ_exit, sx_block, blkQ_norm, blkQ_exit, blkQ_ret, sx_cond, cdP_true, cdP_false, cdP_bool, sx_region, sx_draw, plainD, List.all_cons, List.all_nil, List.isEmpty_nil, List.isEmpty_cons, sxo_nil, sxo_cons, sxo_guard, gdS_bool, gdS_eff, gdS_tup, gdS_sel, gdS_seleff, sxK_def, wcall_some, effP_ret, effP_set, effP_none, effP_ite, wop_call, wop_cv, cvP_func, sx_ret, sx_exit, sx_skip, sx_clr, sx_fresh, stays, ↓selV_wt, ↓selV_wf, ↓impB_wt, ↓impB_wf, ↓selV_nor, ↓impB_nor, ↓selV_nt, ↓selV_nf, ↓impB_nt, ↓impB_nf, wantB_true, wantB_false, ↓selV_true, ↓selV_false, ↓selV_and, ↓impB_true, ↓impB_false, ↓impB_and, impB_triv, valOf_some, retH_some, ↓prim_pick, pickO_true, pickO_false, pickO_and, pickO_or, pickO_andr, pickO_orr, pickO_orrn, pickO_orn, pickO_bb, pickAnd_bool, pickOr_bool, ↓selV_nn, ↓impB_nn, Bool.and_assoc, Bool.or_assoc, doOp, ev_fr, ev_cst, put_none, put_fr, get, ins, del, dels, Nat.reduceLT, Nat.reduceEqDiff, ↓reduceIte, reduceCtorEq, ne_eq, not_false_eq_true, implies_true, framed_pureF, framed_fb, framed_N, framed_pure, wop_prim, prim, YLD, mkA, V.cells, List.getElem?_cons_zero, List.getElem?_cons_succ, List.set_cons_zero, List.set_cons_succ, Nat.zero_add, Nat.add_zero, Nat.reduceAdd, Nat.reduceSub, Nat.reduceMul, Nat.reduceLeDiff, Nat.not_lt_zero, List.map_cons, List.map_nil, List.cons_append, List.nil_append, loadA, cellsAt, nAg, packA, opt_bind_some, opt_map_some, opt_bind_none, opt_map_none, List.drop, List.take, List.head?, List.length_cons, List.length_nil, binA, unA, eqCells, eqCell, negB, fillA, sr_nil, sr_cons, sr_succ, sr_all, sr_len, storeA, Ob.with, indexedI, V.oneCell, intOf?, retQ_ret, retQ_norm, resA, resA1, fr_getD, packR, sealDepth, shut_bool, shut_int, Option.some.injEq, V.bool.injEq, V.int.injEq, Bool.not_true, Bool.not_false, true_and, and_true, and_self, Bool.and_true, Bool.and_false, Bool.true_and, Bool.false_and, Bool.or_true, Bool.or_false, Bool.true_or, Bool.false_or, Bool.false_eq_true, Int.reduceLT, Int.reduceLE, Int.reduceToNat, Int.reduceNeg, shut_plain, freeL_cons, freeL_nil, free_int, free_bool, free_agg, free_str, free_nils, free_tup, free_sl, true_implies, false_implies, Nat.sub_zero, Int.natCast_nonneg, Int.toNat_natCast, Nat.le_refl, not_true_eq_false, Int.reduceAdd, Int.reduceSub, Int.reduceMul, wrap64, false_and, and_false, cond_true, cond_false, Bool.cond_true_left, Bool.cond_false_right, Int.reduceBNe, Int.reduceBEq, decide_true, decide_false, Int.cast_ofNat_Int, Nat.mul_one, eq_self, Bool.true_eq_false, Bool.not_eq_true, Bool.not_eq_false, deads, List.replicate, argsF, sx_drawd, reachC_nil, wpd_nil, wpd_cons, wdK_def, fpOf, fpV, fpCall, Fp.ok, disj, List.contains_cons, List.contains_nil, Nat.reduceBEq, List.all_append, V.objsL, V.objs,  List.getD_cons_zero, List.getD_cons_succ, List.append_nil, isNil, o1, d1, plain_bool]
end Go.Am.T


set_option linter.unusedVariables false
set_option linter.unusedSimpArgs false
set_option maxRecDepth 10000
namespace Go.Am.T
attribute [local congr] selV_congr impB_congr
def twoC (a c : Nat) (on S0 S1 O0 O1 : V) : List V := [.ptr a 1 0, .ptr c 1 0, on, S0, S1, O0, O1]
structure Sep (w a : Nat) (R Ro : List Nat) : Prop where
  wa : w ≠ a
  wR : w ∉ R
  aO : a ∉ Ro
  wO : w ∉ Ro
  RO : ∀ o ∈ Ro, o ∉ R
structure ComeTo (H h' : Heap) (w a : Nat) (s : Ses) (L Lo Lo' : List V) (R Ro Ro' : List Nat) (O' : V) (d : Dg) (lb : List Int) : Prop where
  ses : ∃ W', SAt h' a (comeS s L.length d lb.length) (L.drop (comeK s L.length d lb.length)) W' R
  row : WRow h' O' Lo' Ro'
  out : (Lo' = Lo ∧ comeB s L.length d lb.length = false) ∨ ∃ b', By lb b' ∧ Lo' = Lo ++ [b'] ∧ comeB s L.length d lb.length = true
  len : H.length ≤ h'.length
  oth : ∀ o, o < H.length → o ≠ w → o ≠ a → o ∉ R → o ∉ Ro → h'[o]? = H[o]?
  new : ∀ o ∈ Ro', o ∈ Ro ∨ H.length ≤ o
theorem fp_row {H : Heap} {W : V} {L : List V} {R : List Nat} (h : WRow H W L R) {n : Nat} (hn : ∀ o ∈ R, o ≠ n) : (fpV W).all (fun x => !x == n) = true := by
  rcases h with ⟨rfl, rfl, rfl⟩ | ⟨o, ver, x, rfl, ho, ⟨rfl, rfl⟩ | ⟨-, rfl⟩, -⟩
  · rfl
  · have := hn o (by simp)
    simp [fpV]; omega
  · have := hn o (by simp)
    simp [fpV]; omega
set_option maxHeartbeats 2000000 in
theorem come0_spec {N n : Nat} (hn : 4 ≤ n) {w a c : Nat} {on S0 S1 O0 O1 : V} {H : Heap} (hw : H[w]? = some ⟨1, .var (twoC a c on S0 S1 O0 O1)⟩) {s : Ses} {W : V} {L : List V} {R : List Nat} (ha : SAt H a s L W R) (hok : s.Ok L.length)
    {Lo : List V} {Ro : List Nat} (hO : WRow H O0 Lo Ro) (hLo : Lo.length ≤ 1000) (sep : Sep w a R Ro) (d : Dg) {lb : List Int} {b : V} (hb : By lb b) (hd : d.to = 0) :
    ∃ v' h', callA am N n 13 [.ptr w 1 0, .agg (d.cs b)] H = some (v', h') ∧ ∃ O' Lo' Ro', h'[w]? = some ⟨1, .var (twoC a c on S0 S1 O' O1)⟩ ∧ ComeTo H h' w a s L Lo Lo' R Ro Ro' O' d lb := by
  obtain ⟨n, rfl⟩ : ∃ m, n = m + 1 := ⟨n - 1, by omega⟩
  have hwl := lt_of_get hw
  have hal := lt_of_get ha.ob
  obtain ⟨h0, e0⟩ : ∃ h0, h0 = H ++ [(⟨1, .var (d.cs b)⟩ : Ob), ⟨0, .dead⟩] := ⟨_, rfl⟩
  have e0' := e0.symm
  have l0 : h0.length = H.length + 2 := by rw [e0]; simp
  have x0 : ∀ o, o < H.length → h0[o]? = H[o]? := fun o ho => by rw [e0, List.getElem?_append_left ho]
  have d0 : h0[H.length]? = some ⟨1, .var (d.cs b)⟩ := by rw [e0, app_get0]; rfl
  have d1 : h0[H.length + 1]? = some ⟨0, .dead⟩ := by rw [e0, app_get]; rfl
  have ha0 : SAt h0 a s L W R := by rw [e0]; exact ha.app _
  have hO0 : WRow h0 O0 Lo Ro := hO.keep (fun o ho => x0 o (hO.lt o ho))
  obtain ⟨v1, h1, c18, hv1, W', S1', be⟩ := @come_spec N n (by omega) _ _ _ _ _ _ ha0 hok d _ _ hb
  have hRl := ha.row.lt
  have hRol := hO.lt
  have w0 : h0[w]? = some ⟨1, .var (twoC a c on S0 S1 O0 O1)⟩ := by rw [x0 w hwl]; exact hw
  have w1 : h1[w]? = some ⟨1, .var (twoC a c on S0 S1 O0 O1)⟩ := by rw [be.oth w (by omega) sep.wa sep.wR]; exact w0
  have b1 : h1[H.length]? = some ⟨1, .var (d.cs b)⟩ := by rw [be.oth H.length (by omega) (by omega) (fun hm => by have := hRl _ hm; omega)]; exact d0
  have f1 : h1[H.length + 1]? = some ⟨0, .dead⟩ := by rw [be.oth (H.length + 1) (by omega) (by omega) (fun hm => by have := hRl _ hm; omega)]; exact d1
  have hO1' : WRow h1 O0 Lo Ro := hO0.keep (fun o ho => be.oth o (by have := hRol o ho; omega) (fun e => sep.aO (e ▸ ho)) (sep.RO o ho))
  have h1l := be.len
  have oth1 : ∀ o, o < H.length → o ≠ a → o ∉ R → h1[o]? = H[o]? := fun o ho h2 h3 => by rw [be.oth o (by omega) h2 h3, x0 o ho]
  have q2 : (d.cs b).length = 6 := rfl
  have q6 : List.take 6 (d.cs b) = d.cs b := rfl
  have r1 : List.take 1 (List.drop 1 (d.cs b)) = [.int .i64 0] := by rw [← hd]; rfl
  have hb6 := hb.njunk
  have hb7 := hb.nagg
  have tl : (twoC a c on S0 S1 O0 O1).length = 7 := rfl
  have ta : List.take 1 (twoC a c on S0 S1 O0 O1) = [.ptr a 1 0] := rfl
  have gk : decide ((0 : Int) > 1) = false := rfl
  have gk2 : decide ((0 : Int) < 0) = false := rfl
  have to_ : List.take 1 (List.drop 5 (twoC a c on S0 S1 O0 O1)) = [O0] := rfl
  have ts : ∀ O', setRange (twoC a c on S0 S1 O0 O1) 5 [O'] = twoC a c on S0 S1 O' O1 := fun _ => rfl
  cases ht : comeB s L.length d lb.length with
  | false =>
    rw [ht] at hv1
    have hv1 : v1 = .tup [.nils, .bool false] := hv1
    subst hv1
    refine call_keep at13 rfl rfl (by decide) (sx_wp ?_)
    simp +contextual -implicitDefEqProofs (maxSteps := 10000000) only [sx_seq, sxL_succ, lpQ_norm, lpQ_exit, lpQ_ret, loopQ_norm, loopQ_exit, loopQ_ret, sqQ_norm, sqQ_ret, sqQ_exit, sx_block, blkQ_norm, blkQ_exit, blkQ_ret, sx_cond, cdP_true, cdP_false, cdP_bool, sx_region, sx_draw, plainD, List.all_cons, List.all_nil, List.isEmpty_nil, List.isEmpty_cons, sxo_nil, sxo_cons, sxo_guard, gdS_bool, gdS_eff, gdS_tup, gdS_sel, gdS_seleff, sxK_def, wcall_some, effP_ret, effP_set, effP_none, effP_ite, wop_call, wop_cv, cvP_func, sx_ret, sx_exit, sx_skip, sx_clr, sx_fresh, stays, ↓selV_wt, ↓selV_wf, ↓impB_wt, ↓impB_wf, ↓selV_nor, ↓impB_nor, ↓selV_nt, ↓selV_nf, ↓impB_nt, ↓impB_nf, wantB_true, wantB_false, ↓selV_true, ↓selV_false, ↓selV_and, ↓impB_true, ↓impB_false, ↓impB_and, impB_triv, valOf_some, retH_some, ↓prim_pick, pickO_true, pickO_false, pickO_and, pickO_or, pickO_andr, pickO_orr, pickO_orrn, pickO_orn, pickO_bb, pickAnd_bool, pickOr_bool, ↓selV_nn, ↓impB_nn, Bool.and_assoc, Bool.or_assoc, doOp, ev_fr, ev_cst, put_none, put_fr, get, ins, del, dels, Nat.reduceLT, Nat.reduceEqDiff, ↓reduceIte, reduceCtorEq, ne_eq, not_false_eq_true, implies_true, framed_pureF, framed_fb, framed_N, framed_pure, wop_prim, prim, YLD, mkA, V.cells, List.getElem?_cons_zero, List.getElem?_cons_succ, List.set_cons_zero, List.set_cons_succ, Nat.zero_add, Nat.add_zero, Nat.reduceAdd, Nat.reduceSub, Nat.reduceMul, Nat.reduceLeDiff, Nat.not_lt_zero, List.map_cons, List.map_nil, List.cons_append, List.nil_append, loadA, cellsAt, nAg, packA, opt_bind_some, opt_map_some, opt_bind_none, opt_map_none, List.drop, List.take, List.head?, List.length_cons, List.length_nil, binA, unA, eqCells, eqCell, negB, fillA, sr_nil, sr_cons, sr_succ, sr_all, sr_len, storeA, Ob.with, indexedI, V.oneCell, intOf?, retQ_ret, retQ_norm, resA, resA1, fr_getD, packR, sealDepth, shut_bool, shut_int, Option.some.injEq, V.bool.injEq, V.int.injEq, Bool.not_true, Bool.not_false, true_and, and_true, and_self, Bool.and_true, Bool.and_false, Bool.true_and, Bool.false_and, Bool.or_true, Bool.or_false, Bool.true_or, Bool.false_or, Bool.false_eq_true, Int.reduceLT, Int.reduceLE, Int.reduceToNat, Int.reduceNeg, shut_plain, freeL_cons, freeL_nil, free_int, free_bool, free_agg, free_str, free_nils, free_tup, free_sl, true_implies, false_implies, Nat.sub_zero, Int.natCast_nonneg, Int.toNat_natCast, Nat.le_refl, not_true_eq_false, Int.reduceAdd, Int.reduceSub, Int.reduceMul, wrap64, false_and, and_false, cond_true, cond_false, Bool.cond_true_left, Bool.cond_false_right, Int.reduceBNe, Int.reduceBEq, decide_true, decide_false, Int.cast_ofNat_Int, Nat.mul_one, eq_self, Bool.true_eq_false, Bool.not_eq_true, Bool.not_eq_false, deads, List.replicate, argsF, am13, app_get0, app_get, app_set0, app_set, e0', d0, w0, q2, q6, r1, tl, ta, gk, gk2, isNil, c18, -List.drop, -List.take]
    exact ⟨O0, Lo, Ro, w1, ⟨_, S1'⟩, hO1', .inl ⟨rfl, ht⟩, by omega, fun o ho _ h2 h3 _ => oth1 o ho h2 h3, fun o ho => .inl ho⟩
  | true =>
    rw [ht] at hv1
    obtain ⟨b', hb', rfl⟩ := hv1
    have k1 := hb'.cells
    have k2 := hb'.one
    have k3 := hb'.njunk
    have k4 := hb'.nagg
    have k5 := hb'.ntup
    obtain ⟨o1, y, O', hA, hrow, ho1, hol⟩ := hO1'.append f1 k1 k2 hLo
    obtain ⟨u1, u2, u3, u4, u5, u6⟩ := hrow.shape
    obtain ⟨z1, z2, z3, z4, z5, z6⟩ := hO1'.shape
    have hne : o1 ≠ w := by
      rcases ho1 with rfl | ho1
      · omega
      · intro e; exact sep.wO (e ▸ ho1)
    have hne2 : o1 ≠ a := by
      rcases ho1 with rfl | ho1
      · omega
      · intro e; exact sep.aO (e ▸ ho1)
    have hneR : o1 ∉ R := by
      rcases ho1 with rfl | ho1
      · intro hm; have := hRl _ hm; omega
      · exact sep.RO o1 ho1
    have w2 : (h1.set o1 y)[w]? = some ⟨1, .var (twoC a c on S0 S1 O0 O1)⟩ := by rw [List.getElem?_set_ne hne]; exact w1
    have hneb : o1 ≠ H.length := by
      rcases ho1 with rfl | ho1
      · omega
      · have := hRol _ ho1; omega
    have b2 : (h1.set o1 y)[H.length]? = some ⟨1, .var (d.cs b)⟩ := by rw [List.getElem?_set_ne hneb]; exact b1
    have rr : List.range 1 = [0] := rfl
    have wr : wrapV [b'] = b' := rfl
    have hw1l : w < h1.length := by omega
    have hb1l : H.length < h1.length := by omega
    have fpO : (fpV O0).all (fun x => !x == H.length) = true := fp_row hO1' (fun o ho => by have := hRol o ho; omega)
    refine call_keep at13 rfl rfl (by decide) (sx_wp ?_)
    simp +contextual -implicitDefEqProofs (maxSteps := 10000000) only [sx_seq, sxL_succ, lpQ_norm, lpQ_exit, lpQ_ret, loopQ_norm, loopQ_exit, loopQ_ret, sqQ_norm, sqQ_ret, sqQ_exit, sx_block, blkQ_norm, blkQ_exit, blkQ_ret, sx_cond, cdP_true, cdP_false, cdP_bool, sx_region, sx_draw, plainD, List.all_cons, List.all_nil, List.isEmpty_nil, List.isEmpty_cons, sxo_nil, sxo_cons, sxo_guard, gdS_bool, gdS_eff, gdS_tup, gdS_sel, gdS_seleff, sxK_def, wcall_some, effP_ret, effP_set, effP_none, effP_ite, wop_call, wop_cv, cvP_func, sx_ret, sx_exit, sx_skip, sx_clr, sx_fresh, stays, ↓selV_wt, ↓selV_wf, ↓impB_wt, ↓impB_wf, ↓selV_nor, ↓impB_nor, ↓selV_nt, ↓selV_nf, ↓impB_nt, ↓impB_nf, wantB_true, wantB_false, ↓selV_true, ↓selV_false, ↓selV_and, ↓impB_true, ↓impB_false, ↓impB_and, impB_triv, valOf_some, retH_some, ↓prim_pick, pickO_true, pickO_false, pickO_and, pickO_or, pickO_andr, pickO_orr, pickO_orrn, pickO_orn, pickO_bb, pickAnd_bool, pickOr_bool, ↓selV_nn, ↓impB_nn, Bool.and_assoc, Bool.or_assoc, doOp, ev_fr, ev_cst, put_none, put_fr, get, ins, del, dels, Nat.reduceLT, Nat.reduceEqDiff, ↓reduceIte, reduceCtorEq, ne_eq, not_false_eq_true, implies_true, framed_pureF, framed_fb, framed_N, framed_pure, wop_prim, prim, YLD, mkA, V.cells, List.getElem?_cons_zero, List.getElem?_cons_succ, List.set_cons_zero, List.set_cons_succ, Nat.zero_add, Nat.add_zero, Nat.reduceAdd, Nat.reduceSub, Nat.reduceMul, Nat.reduceLeDiff, Nat.not_lt_zero, List.map_cons, List.map_nil, List.cons_append, List.nil_append, loadA, cellsAt, nAg, packA, opt_bind_some, opt_map_some, opt_bind_none, opt_map_none, List.drop, List.take, List.head?, List.length_cons, List.length_nil, binA, unA, eqCells, eqCell, negB, fillA, sr_nil, sr_cons, sr_succ, sr_all, sr_len, storeA, Ob.with, indexedI, V.oneCell, intOf?, retQ_ret, retQ_norm, resA, resA1, fr_getD, packR, sealDepth, shut_bool, shut_int, Option.some.injEq, V.bool.injEq, V.int.injEq, Bool.not_true, Bool.not_false, true_and, and_true, and_self, Bool.and_true, Bool.and_false, Bool.true_and, Bool.false_and, Bool.or_true, Bool.or_false, Bool.true_or, Bool.false_or, Bool.false_eq_true, Int.reduceLT, Int.reduceLE, Int.reduceToNat, Int.reduceNeg, shut_plain, freeL_cons, freeL_nil, free_int, free_bool, free_agg, free_str, free_nils, free_tup, free_sl, true_implies, false_implies, Nat.sub_zero, Int.natCast_nonneg, Int.toNat_natCast, Nat.le_refl, not_true_eq_false, Int.reduceAdd, Int.reduceSub, Int.reduceMul, wrap64, false_and, and_false, cond_true, cond_false, Bool.cond_true_left, Bool.cond_false_right, Int.reduceBNe, Int.reduceBEq, decide_true, decide_false, Int.cast_ofNat_Int, Nat.mul_one, eq_self, Bool.true_eq_false, Bool.not_eq_true, Bool.not_eq_false, deads, List.replicate, argsF, am13, sx_drawd, reachC_nil, wpd_nil, wpd_cons, wdK_def, fpOf, fpV, fpCall, Fp.ok, disj, List.contains_cons, List.contains_nil, Nat.reduceBEq, List.all_append, V.objsL, V.objs,  List.getD_cons_zero, List.getD_cons_succ, List.append_nil, app_get0, app_get, app_set0, app_set, e0', d0, w0, w1, w2, b1, b2, q2, q6, r1, tl, ta, gk, gk2, to_, ts, isNil, c18, k1, k2, rr, wr, hA, u1, u2, z1, z2, hw1l, hb1l, -List.drop, -List.take]
    refine ⟨by simp only [Bool.and_eq_true]; exact ⟨by simp, fpO⟩, O', Lo ++ [b'], [o1], by rw [List.getElem?_set_self (by simp; omega)], ⟨⟨W', ?_, ?_, S1'.bods, S1'.apart⟩, ?_, .inr ⟨b', hb', rfl, ht⟩, by simp; omega, ?_, ?_⟩⟩
    · rw [List.getElem?_set_ne sep.wa, List.getElem?_set_ne hne2]; exact S1'.ob
    · refine S1'.row.keep (fun q hq => ?_)
      rw [List.getElem?_set_ne (by rintro rfl; exact sep.wR hq), List.getElem?_set_ne (by rintro rfl; exact hneR hq)]
    · refine hrow.keep (fun q hq => ?_)
      obtain rfl := List.mem_singleton.1 hq
      rw [List.getElem?_set_ne (Ne.symm hne)]
    · intro o ho hw' ha' hR' hO'
      rw [List.getElem?_set_ne (Ne.symm hw'), List.getElem?_set_ne, oth1 o ho ha' hR']
      rintro rfl
      rcases ho1 with rfl | ho1
      · omega
      · exact hO' ho1
    · intro o ho
      obtain rfl := List.mem_singleton.1 ho
      rcases ho1 with rfl | ho1
      · exact .inr (by omega)
      · exact .inl ho1
set_option maxHeartbeats 2000000 in
theorem come1_spec {N n : Nat} (hn : 4 ≤ n) {w a c : Nat} {on S0 S1 O0 O1 : V} {H : Heap} (hw : H[w]? = some ⟨1, .var (twoC a c on S0 S1 O0 O1)⟩) {s : Ses} {W : V} {L : List V} {R : List Nat} (ha : SAt H c s L W R) (hok : s.Ok L.length)
    {Lo : List V} {Ro : List Nat} (hO : WRow H O1 Lo Ro) (hLo : Lo.length ≤ 1000) (sep : Sep w c R Ro) (d : Dg) {lb : List Int} {b : V} (hb : By lb b) (hd : d.to = 1) :
    ∃ v' h', callA am N n 13 [.ptr w 1 0, .agg (d.cs b)] H = some (v', h') ∧ ∃ O' Lo' Ro', h'[w]? = some ⟨1, .var (twoC a c on S0 S1 O0 O')⟩ ∧ ComeTo H h' w c s L Lo Lo' R Ro Ro' O' d lb := by
  obtain ⟨n, rfl⟩ : ∃ m, n = m + 1 := ⟨n - 1, by omega⟩
  have hwl := lt_of_get hw
  have hal := lt_of_get ha.ob
  obtain ⟨h0, e0⟩ : ∃ h0, h0 = H ++ [(⟨1, .var (d.cs b)⟩ : Ob), ⟨0, .dead⟩] := ⟨_, rfl⟩
  have e0' := e0.symm
  have l0 : h0.length = H.length + 2 := by rw [e0]; simp
  have x0 : ∀ o, o < H.length → h0[o]? = H[o]? := fun o ho => by rw [e0, List.getElem?_append_left ho]
  have d0 : h0[H.length]? = some ⟨1, .var (d.cs b)⟩ := by rw [e0, app_get0]; rfl
  have d1 : h0[H.length + 1]? = some ⟨0, .dead⟩ := by rw [e0, app_get]; rfl
  have ha0 : SAt h0 c s L W R := by rw [e0]; exact ha.app _
  have hO0 : WRow h0 O1 Lo Ro := hO.keep (fun o ho => x0 o (hO.lt o ho))
  obtain ⟨v1, h1, c18, hv1, W', S1', be⟩ := @come_spec N n (by omega) _ _ _ _ _ _ ha0 hok d _ _ hb
  have hRl := ha.row.lt
  have hRol := hO.lt
  have w0 : h0[w]? = some ⟨1, .var (twoC a c on S0 S1 O0 O1)⟩ := by rw [x0 w hwl]; exact hw
  have w1 : h1[w]? = some ⟨1, .var (twoC a c on S0 S1 O0 O1)⟩ := by rw [be.oth w (by omega) sep.wa sep.wR]; exact w0
  have b1 : h1[H.length]? = some ⟨1, .var (d.cs b)⟩ := by rw [be.oth H.length (by omega) (by omega) (fun hm => by have := hRl _ hm; omega)]; exact d0
  have f1 : h1[H.length + 1]? = some ⟨0, .dead⟩ := by rw [be.oth (H.length + 1) (by omega) (by omega) (fun hm => by have := hRl _ hm; omega)]; exact d1
  have hO1' : WRow h1 O1 Lo Ro := hO0.keep (fun o ho => be.oth o (by have := hRol o ho; omega) (fun e => sep.aO (e ▸ ho)) (sep.RO o ho))
  have h1l := be.len
  have oth1 : ∀ o, o < H.length → o ≠ c → o ∉ R → h1[o]? = H[o]? := fun o ho h2 h3 => by rw [be.oth o (by omega) h2 h3, x0 o ho]
  have q2 : (d.cs b).length = 6 := rfl
  have q6 : List.take 6 (d.cs b) = d.cs b := rfl
  have r1 : List.take 1 (List.drop 1 (d.cs b)) = [.int .i64 1] := by rw [← hd]; rfl
  have hb6 := hb.njunk
  have hb7 := hb.nagg
  have tl : (twoC a c on S0 S1 O0 O1).length = 7 := rfl
  have ta : List.take 1 (List.drop 1 (twoC a c on S0 S1 O0 O1)) = [.ptr c 1 0] := rfl
  have gk : decide ((1 : Int) > 1) = false := rfl
  have gk2 : decide ((1 : Int) < 0) = false := rfl
  have to_ : List.take 1 (List.drop 6 (twoC a c on S0 S1 O0 O1)) = [O1] := rfl
  have ts : ∀ O', setRange (twoC a c on S0 S1 O0 O1) 6 [O'] = twoC a c on S0 S1 O0 O' := fun _ => rfl
  cases ht : comeB s L.length d lb.length with
  | false =>
    rw [ht] at hv1
    have hv1 : v1 = .tup [.nils, .bool false] := hv1
    subst hv1
    refine call_keep at13 rfl rfl (by decide) (sx_wp ?_)
    simp +contextual -implicitDefEqProofs (maxSteps := 10000000) only [sx_seq, sxL_succ, lpQ_norm, lpQ_exit, lpQ_ret, loopQ_norm, loopQ_exit, loopQ_ret, sqQ_norm, sqQ_ret, sqQ_exit, sx_block, blkQ_norm, blkQ_exit, blkQ_ret, sx_cond, cdP_true, cdP_false, cdP_bool, sx_region, sx_draw, plainD, List.all_cons, List.all_nil, List.isEmpty_nil, List.isEmpty_cons, sxo_nil, sxo_cons, sxo_guard, gdS_bool, gdS_eff, gdS_tup, gdS_sel, gdS_seleff, sxK_def, wcall_some, effP_ret, effP_set, effP_none, effP_ite, wop_call, wop_cv, cvP_func, sx_ret, sx_exit, sx_skip, sx_clr, sx_fresh, stays, ↓selV_wt, ↓selV_wf, ↓impB_wt, ↓impB_wf, ↓selV_nor, ↓impB_nor, ↓selV_nt, ↓selV_nf, ↓impB_nt, ↓impB_nf, wantB_true, wantB_false, ↓selV_true, ↓selV_false, ↓selV_and, ↓impB_true, ↓impB_false, ↓impB_and, impB_triv, valOf_some, retH_some, ↓prim_pick, pickO_true, pickO_false, pickO_and, pickO_or, pickO_andr, pickO_orr, pickO_orrn, pickO_orn, pickO_bb, pickAnd_bool, pickOr_bool, ↓selV_nn, ↓impB_nn, Bool.and_assoc, Bool.or_assoc, doOp, ev_fr, ev_cst, put_none, put_fr, get, ins, del, dels, Nat.reduceLT, Nat.reduceEqDiff, ↓reduceIte, reduceCtorEq, ne_eq, not_false_eq_true, implies_true, framed_pureF, framed_fb, framed_N, framed_pure, wop_prim, prim, YLD, mkA, V.cells, List.getElem?_cons_zero, List.getElem?_cons_succ, List.set_cons_zero, List.set_cons_succ, Nat.zero_add, Nat.add_zero, Nat.reduceAdd, Nat.reduceSub, Nat.reduceMul, Nat.reduceLeDiff, Nat.not_lt_zero, List.map_cons, List.map_nil, List.cons_append, List.nil_append, loadA, cellsAt, nAg, packA, opt_bind_some, opt_map_some, opt_bind_none, opt_map_none, List.drop, List.take, List.head?, List.length_cons, List.length_nil, binA, unA, eqCells, eqCell, negB, fillA, sr_nil, sr_cons, sr_succ, sr_all, sr_len, storeA, Ob.with, indexedI, V.oneCell, intOf?, retQ_ret, retQ_norm, resA, resA1, fr_getD, packR, sealDepth, shut_bool, shut_int, Option.some.injEq, V.bool.injEq, V.int.injEq, Bool.not_true, Bool.not_false, true_and, and_true, and_self, Bool.and_true, Bool.and_false, Bool.true_and, Bool.false_and, Bool.or_true, Bool.or_false, Bool.true_or, Bool.false_or, Bool.false_eq_true, Int.reduceLT, Int.reduceLE, Int.reduceToNat, Int.reduceNeg, shut_plain, freeL_cons, freeL_nil, free_int, free_bool, free_agg, free_str, free_nils, free_tup, free_sl, true_implies, false_implies, Nat.sub_zero, Int.natCast_nonneg, Int.toNat_natCast, Nat.le_refl, not_true_eq_false, Int.reduceAdd, Int.reduceSub, Int.reduceMul, wrap64, false_and, and_false, cond_true, cond_false, Bool.cond_true_left, Bool.cond_false_right, Int.reduceBNe, Int.reduceBEq, decide_true, decide_false, Int.cast_ofNat_Int, Nat.mul_one, eq_self, Bool.true_eq_false, Bool.not_eq_true, Bool.not_eq_false, deads, List.replicate, argsF, am13, app_get0, app_get, app_set0, app_set, e0', d0, w0, q2, q6, r1, tl, ta, gk, gk2, isNil, c18, -List.drop, -List.take]
    exact ⟨O1, Lo, Ro, w1, ⟨_, S1'⟩, hO1', .inl ⟨rfl, ht⟩, by omega, fun o ho _ h2 h3 _ => oth1 o ho h2 h3, fun o ho => .inl ho⟩
  | true =>
    rw [ht] at hv1
    obtain ⟨b', hb', rfl⟩ := hv1
    have k1 := hb'.cells
    have k2 := hb'.one
    have k3 := hb'.njunk
    have k4 := hb'.nagg
    have k5 := hb'.ntup
    obtain ⟨o1, y, O', hA, hrow, ho1, hol⟩ := hO1'.append f1 k1 k2 hLo
    obtain ⟨u1, u2, u3, u4, u5, u6⟩ := hrow.shape
    obtain ⟨z1, z2, z3, z4, z5, z6⟩ := hO1'.shape
    have hne : o1 ≠ w := by
      rcases ho1 with rfl | ho1
      · omega
      · intro e; exact sep.wO (e ▸ ho1)
    have hne2 : o1 ≠ c := by
      rcases ho1 with rfl | ho1
      · omega
      · intro e; exact sep.aO (e ▸ ho1)
    have hneR : o1 ∉ R := by
      rcases ho1 with rfl | ho1
      · intro hm; have := hRl _ hm; omega
      · exact sep.RO o1 ho1
    have w2 : (h1.set o1 y)[w]? = some ⟨1, .var (twoC a c on S0 S1 O0 O1)⟩ := by rw [List.getElem?_set_ne hne]; exact w1
    have hneb : o1 ≠ H.length := by
      rcases ho1 with rfl | ho1
      · omega
      · have := hRol _ ho1; omega
    have b2 : (h1.set o1 y)[H.length]? = some ⟨1, .var (d.cs b)⟩ := by rw [List.getElem?_set_ne hneb]; exact b1
    have rr : List.range 1 = [0] := rfl
    have wr : wrapV [b'] = b' := rfl
    have hw1l : w < h1.length := by omega
    have hb1l : H.length < h1.length := by omega
    have fpO : (fpV O1).all (fun x => !x == H.length) = true := fp_row hO1' (fun o ho => by have := hRol o ho; omega)
    refine call_keep at13 rfl rfl (by decide) (sx_wp ?_)
    simp +contextual -implicitDefEqProofs (maxSteps := 10000000) only [sx_seq, sxL_succ, lpQ_norm, lpQ_exit, lpQ_ret, loopQ_norm, loopQ_exit, loopQ_ret, sqQ_norm, sqQ_ret, sqQ_exit, sx_block, blkQ_norm, blkQ_exit, blkQ_ret, sx_cond, cdP_true, cdP_false, cdP_bool, sx_region, sx_draw, plainD, List.all_cons, List.all_nil, List.isEmpty_nil, List.isEmpty_cons, sxo_nil, sxo_cons, sxo_guard, gdS_bool, gdS_eff, gdS_tup, gdS_sel, gdS_seleff, sxK_def, wcall_some, effP_ret, effP_set, effP_none, effP_ite, wop_call, wop_cv, cvP_func, sx_ret, sx_exit, sx_skip, sx_clr, sx_fresh, stays, ↓selV_wt, ↓selV_wf, ↓impB_wt, ↓impB_wf, ↓selV_nor, ↓impB_nor, ↓selV_nt, ↓selV_nf, ↓impB_nt, ↓impB_nf, wantB_true, wantB_false, ↓selV_true, ↓selV_false, ↓selV_and, ↓impB_true, ↓impB_false, ↓impB_and, impB_triv, valOf_some, retH_some, ↓prim_pick, pickO_true, pickO_false, pickO_and, pickO_or, pickO_andr, pickO_orr, pickO_orrn, pickO_orn, pickO_bb, pickAnd_bool, pickOr_bool, ↓selV_nn, ↓impB_nn, Bool.and_assoc, Bool.or_assoc, doOp, ev_fr, ev_cst, put_none, put_fr, get, ins, del, dels, Nat.reduceLT, Nat.reduceEqDiff, ↓reduceIte, reduceCtorEq, ne_eq, not_false_eq_true, implies_true, framed_pureF, framed_fb, framed_N, framed_pure, wop_prim, prim, YLD, mkA, V.cells, List.getElem?_cons_zero, List.getElem?_cons_succ, List.set_cons_zero, List.set_cons_succ, Nat.zero_add, Nat.add_zero, Nat.reduceAdd, Nat.reduceSub, Nat.reduceMul, Nat.reduceLeDiff, Nat.not_lt_zero, List.map_cons, List.map_nil, List.cons_append, List.nil_append, loadA, cellsAt, nAg, packA, opt_bind_some, opt_map_some, opt_bind_none, opt_map_none, List.drop, List.take, List.head?, List.length_cons, List.length_nil, binA, unA, eqCells, eqCell, negB, fillA, sr_nil, sr_cons, sr_succ, sr_all, sr_len, storeA, Ob.with, indexedI, V.oneCell, intOf?, retQ_ret, retQ_norm, resA, resA1, fr_getD, packR, sealDepth, shut_bool, shut_int, Option.some.injEq, V.bool.injEq, V.int.injEq, Bool.not_true, Bool.not_false, true_and, and_true, and_self, Bool.and_true, Bool.and_false, Bool.true_and, Bool.false_and, Bool.or_true, Bool.or_false, Bool.true_or, Bool.false_or, Bool.false_eq_true, Int.reduceLT, Int.reduceLE, Int.reduceToNat, Int.reduceNeg, shut_plain, freeL_cons, freeL_nil, free_int, free_bool, free_agg, free_str, free_nils, free_tup, free_sl, true_implies, false_implies, Nat.sub_zero, Int.natCast_nonneg, Int.toNat_natCast, Nat.le_refl, not_true_eq_false, Int.reduceAdd, Int.reduceSub, Int.reduceMul, wrap64, false_and, and_false, cond_true, cond_false, Bool.cond_true_left, Bool.cond_false_right, Int.reduceBNe, Int.reduceBEq, decide_true, decide_false, Int.cast_ofNat_Int, Nat.mul_one, eq_self, Bool.true_eq_false, Bool.not_eq_true, Bool.not_eq_false, deads, List.replicate, argsF, am13, sx_drawd, reachC_nil, wpd_nil, wpd_cons, wdK_def, fpOf, fpV, fpCall, Fp.ok, disj, List.contains_cons, List.contains_nil, Nat.reduceBEq, List.all_append, V.objsL, V.objs,  List.getD_cons_zero, List.getD_cons_succ, List.append_nil, app_get0, app_get, app_set0, app_set, e0', d0, w0, w1, w2, b1, b2, q2, q6, r1, tl, ta, gk, gk2, to_, ts, isNil, c18, k1, k2, rr, wr, hA, u1, u2, z1, z2, hw1l, hb1l, -List.drop, -List.take]
    refine ⟨by simp only [Bool.and_eq_true]; exact ⟨by simp, fpO⟩, O', Lo ++ [b'], [o1], by rw [List.getElem?_set_self (by simp; omega)], ⟨⟨W', ?_, ?_, S1'.bods, S1'.apart⟩, ?_, .inr ⟨b', hb', rfl, ht⟩, by simp; omega, ?_, ?_⟩⟩
    · rw [List.getElem?_set_ne sep.wa, List.getElem?_set_ne hne2]; exact S1'.ob
    · refine S1'.row.keep (fun q hq => ?_)
      rw [List.getElem?_set_ne (by rintro rfl; exact sep.wR hq), List.getElem?_set_ne (by rintro rfl; exact hneR hq)]
    · refine hrow.keep (fun q hq => ?_)
      obtain rfl := List.mem_singleton.1 hq
      rw [List.getElem?_set_ne (Ne.symm hne)]
    · intro o ho hw' ha' hR' hO'
      rw [List.getElem?_set_ne (Ne.symm hw'), List.getElem?_set_ne, oth1 o ho ha' hR']
      rintro rfl
      rcases ho1 with rfl | ho1
      · omega
      · exact hO' ho1
    · intro o ho
      obtain rfl := List.mem_singleton.1 ho
      rcases ho1 with rfl | ho1
      · exact .inr (by omega)
      · exact .inl ho1
end Go.Am.T


set_option linter.unusedVariables false
set_option linter.unusedSimpArgs false
set_option maxRecDepth 10000
namespace Go.Am.T
structure End (s : Ses) (n : Nat) (sent out : List (List Int)) (g : Nat) : Prop where
  f0 : 1 ≤ s.first
  sum : s.first - 1 + (n : Int) = sent.length
  ack : s.first - 1 ≤ (g : Int)
  lim : g ≤ sent.length
  got : s.got = out.length
  most : sent.length ≤ 80
theorem End.ok {s : Ses} {n : Nat} {sent out : List (List Int)} {g : Nat} (h : End s n sent out g) (ho : out.length ≤ 80) : s.Ok n := by
  obtain ⟨h1, h2, h3, h4, h5, h6⟩ := h
  exact ⟨h1, by omega, by omega, by omega, by omega⟩
end Go.Am.T


set_option linter.unusedVariables false
set_option linter.unusedSimpArgs false
set_option maxRecDepth 10000
namespace Go.Am.T
theorem End.grow {s : Ses} {n : Nat} {sent out : List (List Int)} {g g' : Nat} (h : End s n sent out g) (hg : g ≤ g') (hl : g' ≤ sent.length) : End s n sent out g' :=
  ⟨h.f0, h.sum, by have := h.ack; omega, hl, h.got, h.most⟩
theorem End.told {s : Ses} {n m : Nat} {sent out : List (List Int)} {g : Nat} (h : End s n sent out g) : End (toldS s m) n sent out g := ⟨h.f0, h.sum, h.ack, h.lim, h.got, h.most⟩
theorem End.send {s : Ses} {n : Nat} {sent out : List (List Int)} {g : Nat} (h : End s n sent out g) (l : List Int) (hm : sent.length < 80) : End s (n + 1) (sent ++ [l]) out g := by
  obtain ⟨h1, h2, h3, h4, h5, h6⟩ := h
  exact ⟨h1, by simp; omega, h3, by simp; omega, h5, by simp; omega⟩
theorem Bys.drop {B : List (List Int)} {L : List V} (h : Bys B L) (k : Nat) : Bys (B.drop k) (L.drop k) := by
  refine ⟨by simp [h.1], fun i b l h1 h2 => ?_⟩
  rw [List.getElem?_drop] at h1 h2
  exact h.2 _ b l h1 h2
theorem seqS_first (s : Ses) (d : Dg) : (seqS s d).first = s.first := by
  unfold seqS
  cases (d.seq == 0) <;> cases (d.seq != s.got + 1) <;> rfl
theorem wait_come {s : Ses} {n : Nat} {d : Dg} {k : Nat} {sent : List (List Int)} {L : List V} (f0 : 1 ≤ s.first) (h : Bys (sent.drop (s.first - 1).toNat) L) : Bys (sent.drop ((comeS s n d k).first - 1).toNat) (L.drop (comeK s n d k)) := by
  cases hr : rejD s n d k with
  | true =>
    simp only [comeS, comeK, hr, cond_true, List.drop_zero]
    exact h
  | false =>
    simp only [comeS, comeK, hr, cond_false, seqS_first]
    cases y : decide (d.ack ≥ s.first) with
    | true =>
      have hy := of_decide_eq_true y
      simp only [ackS, y, cond_true]
      have := h.drop (d.ack - s.first + 1).toNat
      rw [List.drop_drop] at this
      rw [show (d.ack + 1 - 1).toNat = (s.first - 1).toNat + (d.ack - s.first + 1).toNat by omega]
      exact this
    | false =>
      simp only [ackS, y, cond_false, List.drop_zero]
      exact h
theorem wait_send {s : Ses} {n : Nat} {sent : List (List Int)} {L : List V} {l : List Int} {b : V} (h : Bys (sent.drop (s.first - 1).toNat) L) (hs : (s.first - 1).toNat ≤ sent.length) (hb : By l b) (hl : l.length ≤ 256) : Bys ((sent ++ [l]).drop (s.first - 1).toNat) (L ++ [b]) := by
  rw [List.drop_append_of_le_length hs]
  exact h.snoc hb hl
end Go.Am.T


set_option linter.unusedVariables false
set_option linter.unusedSimpArgs false
set_option maxRecDepth 10000
namespace Go.Am.T
theorem tellI_all (f : Int) : ∀ n, tellI f f n = List.range n
  | 0 => rfl
  | n + 1 => by
    simp only [tellI, tellI_all f n]
    rw [if_pos (by omega), List.range_succ]
theorem tellI_mem {f g : Int} : ∀ {n i : Nat}, i ∈ tellI f g n → i < n ∧ f + (i : Int) ≥ g
  | 0, i, h => by simp [tellI] at h
  | n + 1, i, h => by
    simp only [tellI, List.mem_append] at h
    rcases h with h | h
    · obtain ⟨h1, h2⟩ := tellI_mem h
      exact ⟨by omega, h2⟩
    · split at h
      · rename_i hg
        obtain rfl := List.mem_singleton.1 h
        exact ⟨by omega, hg⟩
      · cases h
theorem TD.at_ {s : Ses} {L : List V} {I : List Nat} {C : List (List V)} (h : TD s L I C) : ∀ {k j : Nat}, I[k]? = some j → ∃ b c l, C[k]? = some (dgS s (s.first + (j : Int)) b) ∧ L[j]? = some c ∧ By l c ∧ By l b := by
  induction h with
  | nil => intro k j hk; simp at hk
  | @snoc I C j' c b l h hj hc hb ih =>
    intro k j hk
    have hl := h.len
    by_cases hlt : k < I.length
    · rw [List.getElem?_append_left hlt] at hk
      obtain ⟨b', c', l', h1, h2⟩ := ih hk
      exact ⟨b', c', l', by rw [List.getElem?_append_left (by omega)]; exact h1, h2⟩
    · rw [List.getElem?_append_right (by omega)] at hk
      obtain rfl := List.mem_singleton.1 (List.mem_of_getElem? hk)
      have hk0 : k - I.length = 0 := by
        have := (List.getElem?_eq_some_iff.1 hk).1
        simp at this
        omega
      refine ⟨b, c, l, ?_, hj, hc, hb⟩
      rw [List.getElem?_append_right (by omega), hl, hk0]
      rfl
theorem again_all {s : Ses} {L : List V} {C : List (List V)} (h : Tells s L s.first C) (hL : L ≠ []) : C.length = L.length ∧ ∀ {j : Nat}, j < L.length → ∃ b c l, C[j]? = some (dgS s (s.first + (j : Int)) b) ∧ L[j]? = some c ∧ By l c ∧ By l b := by
  obtain ⟨C', h1, h2⟩ := h.told
  rw [tellI_all] at h1
  have hlen := h1.len
  rw [List.length_range] at hlen
  have hC : C = C' := by
    rcases h2 with ⟨h2, -⟩ | ⟨h2, -⟩
    · exact h2
    · rw [h2] at hlen
      exact absurd (List.length_eq_zero_iff.1 hlen.symm) hL
  subst hC
  refine ⟨hlen, fun {j} hj => h1.at_ (by rw [List.getElem?_range hj])⟩
end Go.Am.T


set_option linter.unusedVariables false
set_option linter.unusedSimpArgs false
set_option maxRecDepth 10000
namespace Go.Am.T
theorem ints_inj : ∀ {l m : List Int}, l.map (V.int .u8) = m.map (V.int .u8) → l = m
  | [], [], _ => rfl
  | [], y :: m, h => by simp at h
  | x :: l, [], h => by simp at h
  | x :: l, y :: m, h => by
    simp only [List.map_cons, List.cons.injEq, V.int.injEq, true_and] at h
    rw [h.1, ints_inj h.2]
theorem By.inj {l m : List Int} {b : V} (h1 : By l b) (h2 : By m b) : l = m := by
  rcases h1 with ⟨rfl, rfl⟩ | ⟨c, rfl⟩
  · rcases h2 with ⟨-, rfl⟩ | ⟨c, h⟩
    · rfl
    · cases h
  · rcases h2 with ⟨h, -⟩ | ⟨c', h⟩
    · cases h
    · simp only [V.sl.injEq, true_and] at h
      exact ints_inj h.1
theorem wait_at {s : Ses} {sent : List (List Int)} {L : List V} (h : Bys (sent.drop (s.first - 1).toNat) L) (f0 : 1 ≤ s.first) {j : Nat} {c : V} {l : List Int} (hj : L[j]? = some c) (hc : By l c) : sent[(s.first + (j : Int) - 1).toNat]? = some l ∧ l.length ≤ 256 := by
  have hlt := (List.getElem?_eq_some_iff.1 hj).1
  have hB : j < (sent.drop (s.first - 1).toNat).length := by rw [← h.1]; exact hlt
  obtain ⟨m, hm⟩ : ∃ m, (sent.drop (s.first - 1).toNat)[j]? = some m := ⟨_, List.getElem?_eq_getElem hB⟩
  obtain ⟨h1, h2⟩ := h.2 j c m hj hm
  obtain rfl := By.inj hc h1
  rw [List.getElem?_drop] at hm
  rw [show (s.first + (j : Int) - 1).toNat = (s.first - 1).toNat + j by omega]
  exact ⟨hm, h2⟩
theorem told_each {s : Ses} {sent : List (List Int)} {L : List V} {from_ : Int} {C : List (List V)} (h : Tells s L from_ C) (hw : Bys (sent.drop (s.first - 1).toNat) L) (f0 : 1 ≤ s.first) (hsum : s.first - 1 + (L.length : Int) = sent.length) {k : Nat} {c : List V} (hk : C[k]? = some c) :
    ∃ seq b l, c = dgS s seq b ∧ By l b ∧ l.length ≤ 256 ∧ (seq = 0 ∧ l = [] ∨ 1 ≤ seq ∧ seq ≤ sent.length ∧ sent[(seq - 1).toNat]? = some l) := by
  obtain ⟨C', h1, h2⟩ := h.told
  rcases h2 with ⟨rfl, -⟩ | ⟨-, -, b, hb, rfl⟩
  · have hlt := (List.getElem?_eq_some_iff.1 hk).1
    rw [h1.len] at hlt
    have hI : (tellI s.first from_ L.length)[k]? = some ((tellI s.first from_ L.length)[k]) := List.getElem?_eq_getElem hlt
    obtain ⟨hj, -⟩ := tellI_mem (List.mem_of_getElem? hI)
    generalize (tellI s.first from_ L.length)[k] = j at hI hj
    obtain ⟨b, c', l, e1, e2, e3, e4⟩ := h1.at_ hI
    rw [hk] at e1
    obtain rfl := Option.some.inj e1
    obtain ⟨q1, q2⟩ := wait_at hw f0 e2 e3
    exact ⟨_, b, l, rfl, e4, q2, .inr ⟨by omega, by omega, q1⟩⟩
  · obtain rfl := List.mem_singleton.1 (List.mem_of_getElem? hk)
    exact ⟨0, b, [], rfl, hb, by simp, .inl ⟨rfl, rfl⟩⟩
end Go.Am.T


set_option linter.unusedVariables false
set_option linter.unusedSimpArgs false
set_option maxRecDepth 10000
namespace Go.Am.T
theorem WRow.shutD {H : Heap} {W : V} {L : List V} {R : List Nat} (h : WRow H W L R) (hB : Bods L) (d : Nat) : V.shut (fun o => H[o]?) (d + 2) W = some (sealW W L) ∧ (sealW W L).free = true := by
  refine ⟨?_, (h.shut hB).2.1⟩
  rcases h with ⟨rfl, rfl, -⟩ | ⟨o, ver, x, rfl, ho, ⟨rfl, rfl⟩ | ⟨hne, rfl⟩, -⟩
  · rfl
  · have e : V.shut (fun o => H[o]?) (d + 2) (.vend o ver 1) = match cellsAt (fun o => H[o]?) o ver with | some _ => some (.sl [] 1 none) | none => none := rfl
    rw [e]
    simp [cellsAt, ho, sealW]
  · refine shut_view (by decide) (fun e he => ?_) rfl ?_
    · obtain ⟨l, hl, -⟩ := hB e he
      exact hl.elem
    · rw [flat_self (fun b hb => by obtain ⟨l, hl, -⟩ := hB b hb; exact hl.cells)]
      simp only [loadA, cellsAt, ho, ↓reduceIte]
      rw [if_pos (by simp), List.drop_left, List.take_of_length_le (by simp)]
theorem SAt.shutD {H : Heap} {a : Nat} {s : Ses} {L : List V} {W : V} {R : List Nat} (h : SAt H a s L W R) (d : Nat) : ∃ v, V.shut (fun o => H[o]?) (d + 3) (.ptr a 1 0) = some v ∧ v.free = true := by
  refine ⟨.iptr (s.cs (sealW W L)) 0, ?_, cs_free (h.row.shut h.bods).2.1⟩
  have e : V.shut (fun o => H[o]?) (d + 3) (.ptr a 1 0) = match cellsAt (fun o => H[o]?) a 1 with
      | some all => (all.mapM (V.shut (fun o => H[o]?) (d + 2))).map fun cs => .iptr cs 0
      | none => none := rfl
  rw [e]
  simp only [cellsAt, h.ob, ↓reduceIte]
  have hp : ∀ v : V, v.free = true → V.shut (fun o => H[o]?) (d + 2) v = some v := fun v hv => shut_plain (d := d + 1) hv
  simp only [Ses.cs, List.mapM_cons, List.mapM_nil, hp (.bool true) rfl, hp (.int .i64 _) rfl, hp (.bool _) rfl, (h.row.shutD h.bods d).1, Option.bind_eq_bind, Option.bind_some, Option.pure_def, Option.map_some]
end Go.Am.T


set_option linter.unusedVariables false
set_option linter.unusedSimpArgs false
set_option maxRecDepth 10000
namespace Go.Am.T
structure EndAt (H : Heap) (a : Nat) (s : Ses) (sent out : List (List Int)) (g : Nat) (S O : V) (Rs : List Nat) : Prop where
  all : ∃ (L : List V) (W : V) (R : List Nat) (LS : List V) (RS : List Nat) (LO : List V) (RO : List Nat),
    SAt H a s L W R ∧ Bys (sent.drop (s.first - 1).toNat) L ∧ WRow H S LS RS ∧ Els H sent LS ∧ WRow H O LO RO ∧ Bys out LO ∧ End s L.length sent out g ∧ Rs = a :: (R ++ (RS ++ (V.objsL LS ++ RO))) ∧ Rs.Nodup
theorem EndAt.keep {H H' : Heap} {a : Nat} {s : Ses} {sent out : List (List Int)} {g : Nat} {S O : V} {Rs : List Nat} (h : EndAt H a s sent out g S O Rs) (hk : ∀ o ∈ Rs, H'[o]? = H[o]?) : EndAt H' a s sent out g S O Rs := by
  obtain ⟨L, W, R, LS, RS, LO, RO, h1, h2, h3, h4, h5, h6, h7, h8, h9⟩ := h.all
  refine ⟨L, W, R, LS, RS, LO, RO, ⟨?_, h1.row.keep (fun o ho => hk o (by rw [h8]; simp [ho])), h1.bods, h1.apart⟩, h2, h3.keep (fun o ho => hk o (by rw [h8]; simp [ho])), h4.keep (fun o ho => hk o (by rw [h8]; simp [ho])), h5.keep (fun o ho => hk o (by rw [h8]; simp [ho])), h6, h7, h8, h9⟩
  rw [hk a (by rw [h8]; simp)]
  exact h1.ob
theorem El.lt {H : Heap} {l : List Int} {e : V} (h : El H l e) : ∀ o ∈ e.objs, o < H.length := by
  rcases h with h | ⟨o, ver, -, rfl, ho⟩
  · rw [h.objs]; intro o ho; cases ho
  · intro o' h'
    obtain rfl : o' = o := by simpa [V.objs] using h'
    exact lt_of_get ho
theorem Els.lt {H : Heap} : ∀ {L : List V} {B : List (List Int)}, Els H B L → ∀ o ∈ V.objsL L, o < H.length
  | [], B, h, o, ho => by cases ho
  | e :: L, [], h, o, ho => by have := h.1; simp at this
  | e :: L, l :: B, h, o, ho => by
    have ho' : o ∈ e.objs ++ V.objsL L := ho
    rcases List.mem_append.1 ho' with ho | ho
    · exact (h.2 0 e l rfl rfl).lt o ho
    · exact Els.lt (L := L) (B := B) ⟨by simpa using h.1, fun i e l h1 h2 => h.2 (i + 1) e l (by simpa using h1) (by simpa using h2)⟩ o ho
theorem EndAt.lt {H : Heap} {a : Nat} {s : Ses} {sent out : List (List Int)} {g : Nat} {S O : V} {Rs : List Nat} (h : EndAt H a s sent out g S O Rs) : ∀ o ∈ Rs, o < H.length := by
  obtain ⟨L, W, R, LS, RS, LO, RO, h1, h2, h3, h4, h5, h6, h7, rfl, h9⟩ := h.all
  intro o ho
  simp only [List.mem_cons, List.mem_append] at ho
  rcases ho with rfl | ho | ho | ho | ho
  · exact lt_of_get h1.ob
  · exact h1.row.lt o ho
  · exact h3.lt o ho
  · exact h4.lt o ho
  · exact h5.lt o ho
end Go.Am.T


set_option linter.unusedVariables false
set_option linter.unusedSimpArgs false
namespace Go.Am
theorem frame_gen {m : FMode} {pureF : FuncId → FMode} {call : Caller} {f : FuncId} {args : List V} {h h1 : Heap} {v : V} {R : List Nat} (hm : pureF f = m) (hk : m = .keep ∨ m = .auto) (hR : reachC h (V.objsL args) = R)
    (hcl : ∀ o ∈ R, ∀ y, h[o]? = some y → ∀ i ∈ y.bd.objs, i ∈ R) (hc : call f args (keepOnly R h) = some (v, h1)) (hle : h.length ≤ h1.length) (hv : ∀ o ∈ v.objs, o ∈ R ∨ h.length ≤ o)
    (hn : ∀ (o : Nat) (y : Ob), h1[o]? = some y → (o ∈ R ∨ h.length ≤ o) → ∀ i ∈ y.bd.objs, i ∈ R ∨ h.length ≤ i) (hy : f ≠ YLD := by decide) :
    frameC pureF call f args h = some (v, mergeH R h h1) := by
  have ins : ∀ o, inside R h.length o = true ↔ (o ∈ R ∨ h.length ≤ o) := fun o => by simp [inside]
  have c1 : closedIn R h.length (keepOnly R h) = true := closedIn_of fun o y hy' hi i hi' => by
    rw [keepOnly_get] at hy'
    simp only [Option.map_eq_some_iff] at hy'
    obtain ⟨z, hz, rfl⟩ := hy'
    split at hi'
    · rename_i hcn
      exact (ins i).2 (.inl (hcl o (by simpa using hcn) z hz i hi'))
    · simp [Bd.objs] at hi'
  have c2 : closedIn R h.length h1 = true := closedIn_of fun o y hy' hi i hi' => (ins i).2 (hn o y hy' ((ins o).1 hi) i hi')
  have c3 : v.objs.all (inside R h.length) = true := List.all_eq_true.2 fun o ho => (ins o).2 (hv o ho)
  unfold frameC
  rw [if_neg hy, hR]
  rcases hk with rfl | rfl <;> simp only [hm, c1, hc, c2, c3, hle, decide_true, Bool.and_self, ↓reduceIte]
theorem merge_in {R : List Nat} {h h1 : Heap} {o : Nat} (ho : o ∈ R ∨ h.length ≤ o) : (mergeH R h h1)[o]? = h1[o]? := by
  rw [mergeH_get]
  have : inside R h.length o = true := by simpa [inside] using ho
  cases h1[o]? <;> simp [this]
theorem merge_out {R : List Nat} {h h1 : Heap} {o : Nat} (ho : o ∉ R) (hl : o < h.length) (hle : h.length ≤ h1.length) : (mergeH R h h1)[o]? = h[o]? := by
  rw [mergeH_get]
  have : inside R h.length o = false := by simp [inside, ho]; omega
  rw [List.getElem?_eq_getElem (show o < h1.length by omega), List.getElem?_eq_getElem hl]
  simp [this, List.getD_eq_getElem?_getD, hl]
end Go.Am


set_option linter.unusedVariables false
set_option linter.unusedSimpArgs false
set_option maxRecDepth 10000
namespace Go.Am.T
theorem wp_cutM {E : Env} {a b : ACode} {t : List V} {h : Heap} {Q : Post} (M : List V → Heap → Prop) (h1 : wp E a t h fun e t' h' => e = .norm ∧ M t' h') (h2 : ∀ t' h', M t' h' → wp E b t' h' Q) : wp E (.seq a b) t h Q := by
  rw [wp_seq]
  refine wp_mono h1 ?_
  rintro e t' h' ⟨rfl, hM⟩
  exact h2 t' h' hM
theorem wp_fresh {E : Env} {n : Nat} {c : ACode} {t : List V} {h : Heap} {Q : Post} : wp E (.fresh n c) t h Q = wp { E with fb := h.length } c t (h ++ deads n) Q := rfl
def tw (k : Nat) (on : V) (a c : Nat) (S T O U : V) : List V := if k = 0 then twoC a c on S T O U else twoC c a on T S U O
section
variable {k : Nat} {on : V} {a c : Nat} {S T O U S' O' on' T' U' : V}
theorem two_cases (hk : k < 2) : k = 0 ∨ k = 1 := by omega
theorem tw_len : (tw k on a c S T O U).length = 7 := by unfold tw; split <;> rfl
theorem tw_near (hk : k < 2) : List.take 1 (List.drop k (tw k on a c S T O U)) = [.ptr a 1 0] := by rcases two_cases hk with rfl | rfl <;> rfl
theorem tw_sent (hk : k < 2) : List.take 1 (List.drop (3 + k) (tw k on a c S T O U)) = [S] := by rcases two_cases hk with rfl | rfl <;> rfl
theorem tw_on (hk : k < 2) : List.take 1 (List.drop 2 (tw k on a c S T O U)) = [on] := by rcases two_cases hk with rfl | rfl <;> rfl
theorem tw_setS (hk : k < 2) : setRange (tw k on a c S T O U) (3 + k) [S'] = tw k on a c S' T O U := by rcases two_cases hk with rfl | rfl <;> rfl
theorem tw_setOn (hk : k < 2) : setRange (tw k on a c S T O U) 2 [on'] = tw k on' a c S T O U := by rcases two_cases hk with rfl | rfl <;> rfl
theorem tw_swap (hk : k < 2) : tw k on a c S T O U = tw (1 - k) on c a T S U O := by rcases two_cases hk with rfl | rfl <;> rfl
end
structure Duo (H : Heap) (w k : Nat) (on : V) (a c : Nat) (sa sc : Ses) (sent sent' out out' : List (List Int)) (S T O U : V) (R R' : List Nat) : Prop where
  ob : H[w]? = some ⟨1, .var (tw k on a c S T O U)⟩
  near : EndAt H a sa sent out out'.length S O R
  far : EndAt H c sc sent' out' out.length T U R'
  wR : w ∉ R
  wR' : w ∉ R'
  apart : ∀ o ∈ R, o ∉ R'
  me : sa.me = k
  other : sa.other = 1 - k
  me' : sc.me = 1 - k
  other' : sc.other = k
  view : sa.view = sc.view
  pre : ∃ r, sent' = out ++ r
  pre' : ∃ r, sent = out' ++ r
  told : 0 ≤ sa.told ∧ sa.told ≤ 2000
  told' : 0 ≤ sc.told ∧ sc.told ≤ 2000
theorem Duo.swap {H : Heap} {w k : Nat} {on : V} {a c : Nat} {sa sc : Ses} {sent sent' out out' : List (List Int)} {S T O U : V} {R R' : List Nat} (hk : k < 2) (D : Duo H w k on a c sa sc sent sent' out out' S T O U R R') : Duo H w (1 - k) on c a sc sa sent' sent out' out T S U O R' R := by
  obtain ⟨d1, d2, d3, d4, d5, d6, d7, d8, d9, d10, d11, d12, d13, d14, d15⟩ := D
  exact ⟨by rw [← tw_swap hk]; exact d1, d3, d2, d5, d4, fun o ho hn => d6 o hn ho, by rw [d9]; omega, by rw [d10]; omega, by rw [d7]; omega, by rw [d8]; omega, d11.symm, d13, d12, d15, d14⟩
theorem Duo.keep {H H' : Heap} {w k : Nat} {on : V} {a c : Nat} {sa sc : Ses} {sent sent' out out' : List (List Int)} {S T O U : V} {R R' : List Nat} (D : Duo H w k on a c sa sc sent sent' out out' S T O U R R') (h : ∀ o, o = w ∨ o ∈ R ∨ o ∈ R' → H'[o]? = H[o]?) : Duo H' w k on a c sa sc sent sent' out out' S T O U R R' := by
  obtain ⟨d1, d2, d3, d4, d5, d6, d7, d8, d9, d10, d11, d12, d13, d14, d15⟩ := D
  exact ⟨by rw [h w (.inl rfl)]; exact d1, d2.keep (fun o ho => h o (.inr (.inl ho))), d3.keep (fun o ho => h o (.inr (.inr ho))), d4, d5, d6, d7, d8, d9, d10, d11, d12, d13, d14, d15⟩
theorem Duo.lt {H : Heap} {w k : Nat} {on : V} {a c : Nat} {sa sc : Ses} {sent sent' out out' : List (List Int)} {S T O U : V} {R R' : List Nat} (D : Duo H w k on a c sa sc sent sent' out out' S T O U R R') : ∀ o, o = w ∨ o ∈ R ∨ o ∈ R' → o < H.length := by
  rintro o (rfl | ho | ho)
  · exact lt_of_get D.ob
  · exact D.near.lt o ho
  · exact D.far.lt o ho
theorem and_one (x : Int) : ∃ k : Nat, k < 2 ∧ IntKind.i64.wrap ((BitVec.ofInt IntKind.i64.bits x) &&& (BitVec.ofInt IntKind.i64.bits 1)).toNat = (k : Int) := by
  refine ⟨((BitVec.ofInt IntKind.i64.bits x) &&& (BitVec.ofInt IntKind.i64.bits 1)).toNat, ?_, ?_⟩
  · rw [BitVec.toNat_and]
    have : (BitVec.ofInt IntKind.i64.bits 1).toNat = 1 := by decide
    rw [this]
    exact Nat.lt_of_le_of_lt Nat.and_le_right (by decide)
  · have h : ((BitVec.ofInt IntKind.i64.bits x) &&& (BitVec.ofInt IntKind.i64.bits 1)).toNat < 2 := by
      rw [BitVec.toNat_and]
      have : (BitVec.ofInt IntKind.i64.bits 1).toNat = 1 := by decide
      rw [this]
      exact Nat.lt_of_le_of_lt Nat.and_le_right (by decide)
    exact wrap64 (by omega) (by omega)
theorem copy_bytes {H : Heap} {o : Nat} {l : List Int} {b : V} (hb : By l b) (ho : H[o]? = some ⟨0, .dead⟩) (hl : l.length ≤ 100000) :
    (l = [] ∧ appendA (fun o => H[o]?) o 1 1 .nils b = some (.ret .nils)) ∨
    (l ≠ [] ∧ appendA (fun o => H[o]?) o 1 1 .nils b = some (.set o ⟨1, .arr (l.map (V.int .u8))⟩ (.view o 1 0 l.length 1 none))) := by
  have h1 := hb.len
  have h2 := hb.first (fun o => H[o]?)
  by_cases hn : l = []
  · subst hn
    refine .inl ⟨rfl, ?_⟩
    unfold appendA
    simp only [List.length_nil] at h1 h2
    simp [h1, h2]
  · refine .inr ⟨hn, ?_⟩
    have hne : l.length ≠ 0 := fun e => hn (List.length_eq_zero_iff.1 e)
    have hm : l.length ≤ maxBytes := by unfold maxBytes; omega
    unfold appendA
    simp only [h1, h2, allOne_ints, ↓reduceIte, hne, mkA, ho, Nat.mul_one, hm, Nat.zero_add]
end Go.Am.T


set_option linter.unusedVariables false
set_option linter.unusedSimpArgs false
set_option maxRecDepth 10000
namespace Go.Am.T
attribute [local congr] selV_congr impB_congr
def mvC (kind who nn : Int) (b : V) : List V := [.int .i64 kind, .int .i64 who, .int .i64 nn, b]
theorem nodup_send {a fb o1 m : Nat} {R R' RS E RO E2 : List Nat} (h : (a :: (R ++ (RS ++ (E ++ RO)))).Nodup) (hlt : ∀ o ∈ a :: (R ++ (RS ++ (E ++ RO))), o < fb) (hR' : ∀ o ∈ R', o ∈ R ∨ m ≤ o) (hm : fb + 3 < m) (nR' : R'.Nodup) (ha : a ∉ R')
    (ho1 : o1 = fb + 3 ∨ o1 ∈ RS) (hE2 : ∀ o ∈ E2, o = fb + 2) (nE2 : E2.Nodup) : (a :: (R' ++ ([o1] ++ ((E ++ E2) ++ RO)))).Nodup := by
  simp only [List.nodup_cons, List.nodup_append, List.mem_append, List.mem_cons, List.not_mem_nil, or_false] at *
  grind
end Go.Am.T


set_option linter.unusedVariables false
set_option linter.unusedSimpArgs false
set_option maxRecDepth 10000
namespace Go.Am.T
attribute [local congr] selV_congr impB_congr
theorem DRow.at_ {p : Nat} {H : Heap} {sl : V} {C : List (List V)} (h : DRow p H sl C) (hC : Cells6 C) {i : Nat} {c : List V} (hi : C[i]? = some c) :
    ∃ o ver off cs, iaddrSA 6 sl (.int .i64 i) = some (.ret (.ptr o ver off)) ∧ H[o]? = some ⟨ver, .arr cs⟩ ∧ off + 6 ≤ cs.length ∧ List.take 6 (List.drop off cs) = c ∧ p ≤ o := by
  have hlt := (List.getElem?_eq_some_iff.1 hi).1
  rcases h with ⟨rfl, rfl⟩ | ⟨hL, o, ver, hp, rfl, ho⟩
  · simp at hi
  · refine ⟨o, ver, 0 + i * 6, C.flatten, ?_, ho, ?_, ?_, hp⟩
    · simp [iaddrSA, indexedI, hlt]
    · have := flat6 hC; omega
    · have := flat_at (s := 6) (rest := []) (fun c hc => (hC c hc).1) hi
      simpa using this
theorem come_far {N n : Nat} (hn : 4 ≤ n) {H : Heap} {w k : Nat} (hk : k < 2) {on : V} {a c : Nat} {S T O U : V} (hw : H[w]? = some ⟨1, .var (tw k on a c S T O U)⟩) {s : Ses} {W : V} {L : List V} {R : List Nat} (hc : SAt H c s L W R) (hok : s.Ok L.length)
    {Lo : List V} {Ro : List Nat} (hO : WRow H U Lo Ro) (hLo : Lo.length ≤ 1000) (sep : Sep w c R Ro) (d : Dg) {lb : List Int} {b : V} (hb : By lb b) (hd : d.to = 1 - (k : Int)) :
    ∃ v' h', callA am N n 13 [.ptr w 1 0, .agg (d.cs b)] H = some (v', h') ∧ ∃ U' Lo' Ro', h'[w]? = some ⟨1, .var (tw k on a c S T O U')⟩ ∧ ComeTo H h' w c s L Lo Lo' R Ro Ro' U' d lb := by
  rcases two_cases hk with rfl | rfl
  · exact come1_spec hn (a := a) (S0 := S) (O0 := O) (on := on) (S1 := T) hw hc hok hO hLo sep d hb (by simpa using hd)
  · exact come0_spec hn (c := a) (S1 := S) (O1 := O) (on := on) (S0 := T) hw hc hok hO hLo sep d hb (by simpa using hd)
theorem nodup_come {c m : Nat} {R RS E RO RO' : List Nat} (h : (c :: (R ++ (RS ++ (E ++ RO)))).Nodup) (hlt : ∀ o ∈ c :: (R ++ (RS ++ (E ++ RO))), o < m) (hn : ∀ o ∈ RO', o ∈ RO ∨ m ≤ o) (nd : RO'.Nodup) : (c :: (R ++ (RS ++ (E ++ RO')))).Nodup := by
  simp only [List.nodup_cons, List.nodup_append, List.mem_append, List.mem_cons] at *
  grind
theorem sep_of {w c : Nat} {R RS E RO : List Nat} (dw : w ∉ c :: (R ++ (RS ++ (E ++ RO)))) (h : (c :: (R ++ (RS ++ (E ++ RO)))).Nodup) : Sep w c R RO := by
  simp only [List.nodup_cons, List.nodup_append, List.mem_append, List.mem_cons] at dw h
  refine ⟨?_, ?_, ?_, ?_, ?_⟩ <;> grind
theorem mem_new {c m : Nat} {R RS E RO RO' : List Nat} (hn : ∀ o ∈ RO', o ∈ RO ∨ m ≤ o) : ∀ o ∈ c :: (R ++ (RS ++ (E ++ RO'))), o ∈ c :: (R ++ (RS ++ (E ++ RO))) ∨ m ≤ o := by
  intro o ho
  simp only [List.mem_append, List.mem_cons] at ho ⊢
  grind
theorem mem_mid {c w m : Nat} {R RS E RO : List Nat} (dw : w ∉ c :: (R ++ (RS ++ (E ++ RO)))) (h : (c :: (R ++ (RS ++ (E ++ RO)))).Nodup) (hlt : ∀ o ∈ c :: (R ++ (RS ++ (E ++ RO))), o < m) : ∀ o, o ∈ RS ++ E → o < m ∧ o ≠ w ∧ o ≠ c ∧ o ∉ R ∧ o ∉ RO := by
  intro o ho
  have := hlt o
  simp only [List.nodup_cons, List.nodup_append, List.mem_append, List.mem_cons] at dw h ho this
  grind
theorem WRow.nodup {H : Heap} {W : V} {L : List V} {R : List Nat} (h : WRow H W L R) : R.Nodup := by
  rcases h with ⟨-, -, rfl⟩ | ⟨o, ver, x, rfl, -⟩ <;> simp
end Go.Am.T


set_option linter.unusedVariables false
set_option linter.unusedSimpArgs false
set_option maxRecDepth 10000
namespace Go.Am.T
attribute [local congr] selV_congr impB_congr
theorem duo_told {H h' : Heap} {w k : Nat} {on : V} {a c : Nat} {sa sc : Ses} {sent sent' out out' : List (List Int)} {S T O U : V} {R R' : List Nat} (D : Duo H w k on a c sa sc sent sent' out out' S T O U R R')
    {L : List V} {W : V} {Rc : List Nat} (hS0 : SAt H a sa L W Rc) (hS : SAt h' a (toldS sa L.length) L W Rc) (hbe : Beyond H h' a Rc Rc) (hin : ∃ LS RS LO RO, Bys (sent.drop (sa.first - 1).toNat) L ∧ WRow H S LS RS ∧ Els H sent LS ∧ WRow H O LO RO ∧ Bys out LO ∧ End sa L.length sent out out'.length ∧ R = a :: (Rc ++ (RS ++ (V.objsL LS ++ RO))) ∧ R.Nodup) :
    Duo h' w k on a c (toldS sa L.length) sc sent sent' out out' S T O U R R' := by
  obtain ⟨LS, RS, LO, RO, hB, hSr, hEl, hO, hBo, hE, hRs, hnd⟩ := hin
  have oth := hbe.oth
  have rlt := D.near.lt
  have rlt' := D.far.lt
  have sub : ∀ o, o = a ∨ o ∈ Rc → o ∈ R := fun o ho => by rw [hRs]; simp only [List.mem_cons, List.mem_append]; rcases ho with h | h <;> simp [h]
  have out_ : ∀ o, o < H.length → o ∉ R → h'[o]? = H[o]? := fun o h1 h2 => oth o h1 (fun e => h2 (sub o (.inl e))) (fun h => h2 (sub o (.inr h)))
  have mid : ∀ o, o ∈ RS ++ V.objsL LS → o < H.length ∧ o ≠ w ∧ o ≠ a ∧ o ∉ Rc ∧ o ∉ RO := mem_mid (by rw [← hRs]; exact D.wR) (by rw [← hRs]; exact hnd) (by rw [← hRs]; exact rlt)
  have hsep : Sep w a Rc RO := sep_of (by rw [← hRs]; exact D.wR) (by rw [← hRs]; exact hnd)
  have k2 : ∀ o ∈ RS ++ V.objsL LS, h'[o]? = H[o]? := fun o ho => by
    obtain ⟨a1, a2, a3, a4, a5⟩ := mid o ho
    exact oth o a1 a3 a4
  have hwl := lt_of_get D.ob
  have hfs : sa.first + (L.length : Int) - 1 = sent.length := by have := hE.sum; omega
  refine ⟨by rw [out_ w hwl D.wR]; exact D.ob, ⟨L, W, Rc, LS, RS, LO, RO, hS, hB, hSr.keep (fun o ho => k2 o (by simp [ho])), hEl.keep (fun o ho => k2 o (by simp [ho])), hO.keep (fun o ho => ?_), hBo, hE.told, hRs, hnd⟩, D.far.keep (fun o ho => out_ o (rlt' o ho) (fun h => D.apart o h ho)), D.wR, D.wR', D.apart, D.me, D.other, D.me', D.other', D.view, D.pre, D.pre', ?_, D.told'⟩
  · have : o < H.length := rlt o (by rw [hRs]; simp [ho])
    exact oth o this (fun e => hsep.aO (e ▸ ho)) (hsep.RO o ho)
  · have := hE.most
    show 0 ≤ sa.first + (L.length : Int) - 1 ∧ sa.first + (L.length : Int) - 1 ≤ 2000
    omega
end Go.Am.T


set_option linter.unusedVariables false
set_option linter.unusedSimpArgs false
set_option maxRecDepth 10000
namespace Go.Am.T
attribute [local congr] selV_congr impB_congr
theorem El.str {H : Heap} {l : List Int} {e : V} (h : El H l e) (fb : Nat) (ρ : Opd → V) (x : Opd) (hx : ρ x = e) : prim fb ρ (fun o => H[o]?) (.b2s x) = some (.ret (.str (strB l))) := by
  rcases h with h | ⟨o, ver, hl, rfl, ho⟩
  · exact prim_b2s h fb ρ _ x hx
  · have hl1 : lenA (.view o ver 0 l.length 1 none) = some l.length := rfl
    have hf : firstA (fun o => H[o]?) 1 l.length (.view o ver 0 l.length 1 none) = some (l.map (V.int .u8)) := by
      simp only [firstA, ↓reduceIte, Nat.le_refl, loadA, cellsAt, ho, Nat.mul_one, Nat.zero_add, List.length_map, List.drop_zero]
      rw [List.take_of_length_le (by simp)]
    have key : ∀ m : List Int, (m.map (V.int .u8)).mapM (fun c => match c with | .int .u8 n => some (UInt8.ofNat n.toNat) | _ => none) = some (strB m) := by
      intro m
      induction m with
      | nil => rfl
      | cons y m ih => rw [List.map_cons, List.mapM_cons, ih]; rfl
    unfold prim
    simp only [hx]
    rw [hl1]
    simp only [Option.bind_some]
    rw [hf]
    simp only [Option.bind_some]
    exact (congrArg (Option.map fun l => Eff.ret (V.str l)) (key l)).trans rfl
end Go.Am.T


set_option linter.unusedVariables false
set_option linter.unusedSimpArgs false
set_option maxRecDepth 10000
namespace Go.Am.T
attribute [local congr] selV_congr impB_congr
structure Again (s s1 : Ses) (n n1 : Nat) (d : Dg) (k : Nat) : Prop where
  other : s1.other = s.other
  me : s1.me = s.me
  view : s1.view = s.view
  told : s1.told = s.told
  sum : s1.first + (n1 : Int) = s.first + (n : Int)
  past : rejD s n d k = false → decide (d.ack ≥ s1.first) = false
  next : rejD s n d k = false → (d.seq == 0) = false → (d.seq != s1.got + 1) = true
  ok : s1.Ok n1
  le : comeK s n d k ≤ n
theorem known_spec {N n : Nat} (hN : 1000 ≤ N) (hn : 20 ≤ n) (h : Heap) : callA am N n 9 [] h = some (.bool true, h) :=
  closed_quick pm9 (show callB am 1000 20 9 [] [] = some (.bool true, []) by kernel_rfl) hN hn h
def bySh : Sh := .sl false 1 (.int .u8)
theorem by_in {u : List V} (h : InSh bySh u) : ∃ b m, u = [b] ∧ By m b := by
  rcases h with rfl | ⟨us, c, rfl, -, -, hu⟩
  · exact ⟨.nils, [], rfl, .inl ⟨rfl, rfl⟩⟩
  · have : ∀ us : List (List V), (∀ u ∈ us, u.length = 1 ∧ InSh (.int .u8) u) → ∃ m : List Int, us.map (elemV false) = m.map (V.int .u8) := by
      intro us
      induction us with
      | nil => exact fun _ => ⟨[], rfl⟩
      | cons u us ih =>
        intro hu
        obtain ⟨m, hm⟩ := ih (fun v hv => hu v (by simp [hv]))
        obtain ⟨x, rfl, -⟩ := in_u8 (hu u (by simp)).2
        exact ⟨x :: m, by rw [List.map_cons, hm]; rfl⟩
    obtain ⟨m, hm⟩ := this us hu
    rw [hm]
    exact ⟨_, m, rfl, .inr ⟨some c, rfl⟩⟩
end Go.Am.T


set_option linter.unusedVariables false
set_option linter.unusedSimpArgs false
set_option maxRecDepth 10000
namespace Go.Am.T
attribute [local congr] selV_congr impB_congr
theorem am8_wp {N n : Nat} {args : List V} {h : Heap} {v : V} (ha : args.length = 3) (hfree : V.freeL args = true)
    (H : sx ⟨pureOf am, callA am N n, N, 0⟩ am8.body (fr am8.nt (argsF 0 args)) (deads am8.sites) (retQ am8.res fun x h' => V.shut (fun o => h'[o]?) sealDepth x = some v)) : callA am N (n + 1) 8 args h = some (v, h) :=
  call_pure at8 rfl ha (by decide) hfree (sx_wp H)
theorem may_spec {N n : Nat} (hn : 1 ≤ n) (view : Int) (h : Heap) : callA am N n 8 [.int .i64 0, .int .i64 1, .int .i64 view] h = some (.bool (mayS 0 1 view), h) := by
  obtain ⟨n, rfl⟩ : ∃ m, n = m + 1 := ⟨n - 1, by omega⟩
  have e : mayS 0 1 view = (decide (view ≥ 0) && decide (view ≤ 4611686018427387904)) := by
    unfold mayS nodeB
    simp
  refine am8_wp rfl rfl ?_
  simp +contextual -implicitDefEqProofs (maxSteps := 10000000) only [sx_seq, sxL_succ, lpQ_norm, lpQ_exit, lpQ_ret, loopQ_norm, loopQ_exit, loopQ_ret, sqQ_norm, sqQ_ret, sqQ_exit, sx_block, blkQ_norm, blkQ_exit, blkQ_ret, sx_cond, cdP_true, cdP_false, cdP_bool, sx_region, sx_draw, plainD, List.all_cons, List.all_nil, List.isEmpty_nil, List.isEmpty_cons, sxo_nil, sxo_cons, sxo_guard, gdS_bool, gdS_eff, gdS_tup, gdS_sel, gdS_seleff, sxK_def, wcall_some, effP_ret, effP_set, effP_none, effP_ite, wop_call, wop_cv, cvP_func, sx_ret, sx_exit, sx_skip, sx_clr, sx_fresh, stays, ↓selV_wt, ↓selV_wf, ↓impB_wt, ↓impB_wf, ↓selV_nor, ↓impB_nor, ↓selV_nt, ↓selV_nf, ↓impB_nt, ↓impB_nf, wantB_true, wantB_false, ↓selV_true, ↓selV_false, ↓selV_and, ↓impB_true, ↓impB_false, ↓impB_and, impB_triv, valOf_some, retH_some, ↓prim_pick, pickO_true, pickO_false, pickO_and, pickO_or, pickO_andr, pickO_orr, pickO_orrn, pickO_orn, pickO_bb, pickAnd_bool, pickOr_bool, ↓selV_nn, ↓impB_nn, Bool.and_assoc, Bool.or_assoc, doOp, ev_fr, ev_cst, put_none, put_fr, get, ins, del, dels, Nat.reduceLT, Nat.reduceEqDiff, ↓reduceIte, reduceCtorEq, ne_eq, not_false_eq_true, implies_true, framed_pureF, framed_fb, framed_N, framed_pure, wop_prim, prim, YLD, mkA, V.cells, List.getElem?_cons_zero, List.getElem?_cons_succ, List.set_cons_zero, List.set_cons_succ, Nat.zero_add, Nat.add_zero, Nat.reduceAdd, Nat.reduceSub, Nat.reduceMul, Nat.reduceLeDiff, Nat.not_lt_zero, List.map_cons, List.map_nil, List.cons_append, List.nil_append, loadA, cellsAt, nAg, packA, opt_bind_some, opt_map_some, opt_bind_none, opt_map_none, List.drop, List.take, List.head?, List.length_cons, List.length_nil, binA, unA, eqCells, eqCell, negB, fillA, sr_nil, sr_cons, sr_succ, sr_all, sr_len, storeA, Ob.with, indexedI, V.oneCell, intOf?, retQ_ret, retQ_norm, resA, resA1, fr_getD, packR, sealDepth, shut_bool, shut_int, Option.some.injEq, V.bool.injEq, V.int.injEq, Bool.not_true, Bool.not_false, true_and, and_true, and_self, Bool.and_true, Bool.and_false, Bool.true_and, Bool.false_and, Bool.or_true, Bool.or_false, Bool.true_or, Bool.false_or, Bool.false_eq_true, Int.reduceLT, Int.reduceLE, Int.reduceToNat, Int.reduceNeg, shut_plain, freeL_cons, freeL_nil, free_int, free_bool, free_agg, free_str, free_nils, free_tup, free_sl, true_implies, false_implies, Nat.sub_zero, Int.natCast_nonneg, Int.toNat_natCast, Nat.le_refl, not_true_eq_false, Int.reduceAdd, Int.reduceSub, Int.reduceMul, wrap64, false_and, and_false, cond_true, cond_false, Bool.cond_true_left, Bool.cond_false_right, Int.reduceBNe, Int.reduceBEq, decide_true, decide_false, Int.cast_ofNat_Int, Nat.mul_one, eq_self, Bool.true_eq_false, Bool.not_eq_true, Bool.not_eq_false, deads, List.replicate, argsF, am8, e]
  simp
theorem mayS_swap (view : Int) : mayS 1 0 view = mayS 0 1 view := by
  unfold mayS nodeB
  simp
structure Mv where
  kind : Int
  who : Int
  nn : Int
  bytes : List Int
  b : V
  ok : By bytes b
def Mv.cs (m : Mv) : List V := mvC m.kind m.who m.nn m.b
theorem Bys.els {H : Heap} {B : List (List Int)} {L : List V} (h : Bys B L) : Els H B L := ⟨h.1, fun i e l h1 h2 => .inl (h.2 i e l h1 h2).1⟩
def mvSh : Sh := .pair (.int .i64) (.pair (.int .i64) (.pair (.int .i64) (.pair bySh .unit)))
def mvsSh : Sh := .sl true 4 mvSh
theorem mv_in {u : List V} (h : InSh mvSh u) : ∃ m : Mv, u = m.cs := by
  obtain ⟨u1, v1, rfl, h1, u2, v2, rfl, h2, u3, v3, rfl, h3, u4, v4, rfl, h4, rfl⟩ := h
  obtain ⟨a1, rfl, -⟩ := in_i64 h1
  obtain ⟨a2, rfl, -⟩ := in_i64 h2
  obtain ⟨a3, rfl, -⟩ := in_i64 h3
  obtain ⟨b, m, rfl, hm⟩ := by_in h4
  exact ⟨⟨a1, a2, a3, m, b, hm⟩, rfl⟩
theorem mvs_in {u : V} (h : InP false mvsSh u) : ∃ M : List Mv, IsL u 4 (M.map Mv.cs) := by
  rcases h with h | ⟨us, c, h, -, -, hu⟩
  · cases h
    exact ⟨[], isL_nils 4⟩
  · cases h
    have key : ∀ us : List (List V), (∀ u ∈ us, u.length = 4 ∧ InSh mvSh u) → ∃ M : List Mv, us.map (elemV true) = M.map (fun m => V.agg m.cs) := by
      intro us
      induction us with
      | nil => exact fun _ => ⟨[], rfl⟩
      | cons u us ih =>
        intro hu
        obtain ⟨M, hM⟩ := ih (fun v hv => hu v (by simp [hv]))
        obtain ⟨m, rfl⟩ := mv_in (hu u (by simp)).2
        exact ⟨m :: M, by rw [List.map_cons, hM]; rfl⟩
    obtain ⟨M, hM⟩ := key us hu
    rw [hM]
    refine ⟨M, isL_sl (freeL_of_mem fun b hb => ?_) ?_⟩
    · obtain ⟨m, -, rfl⟩ := List.mem_map.1 hb
      show V.freeL m.cs = true
      unfold Mv.cs mvC
      simp only [freeL_cons, freeL_nil, free_int, m.ok.free, Bool.and_self]
    · rw [List.map_map]; rfl
end Go.Am.T


set_option linter.unusedVariables false
set_option linter.unusedSimpArgs false
namespace Go.Am
def InV (S : Nat → Prop) (v : V) : Prop := ∀ o ∈ v.objs, S o
def InL (S : Nat → Prop) (l : List V) : Prop := ∀ v ∈ l, InV S v
section
variable {S : Nat → Prop}
theorem mem_objsL' : ∀ {l : List V} {o : Nat}, o ∈ V.objsL l → ∃ c ∈ l, o ∈ c.objs
  | [], o, h => by cases h
  | v :: l, o, h => by
    have h' : o ∈ v.objs ++ V.objsL l := h
    rcases List.mem_append.1 h' with h | h
    · exact ⟨v, by simp, h⟩
    · obtain ⟨c, h1, h2⟩ := mem_objsL' h
      exact ⟨c, by simp [h1], h2⟩
theorem inL_iff {l : List V} : InL S l ↔ ∀ o ∈ V.objsL l, S o := by
  constructor
  · intro h o ho
    obtain ⟨c, h1, h2⟩ := mem_objsL' ho
    exact h c h1 o h2
  · intro h c hc o ho
    exact h o (mem_objsL hc o ho)
theorem inV_nil {v : V} (h : v.objs = []) : InV S v := fun o ho => by rw [h] at ho; cases ho
mutual
theorem free_objs : ∀ (v : V), v.free = true → v.objs = []
  | .junk, _ | .bool _, _ | .int .., _ | .str _, _ | .nilp, _ | .nils, _ | .nilm, _ | .nilf, _ | .nili, _ => rfl
  | .ptr .., h | .view .., h | .vend .., h | .map .., h | .yld .., h => by simp [V.free] at h
  | .iptr cs _, h => by simp only [V.objs]; exact free_objsL cs (by simpa [V.free] using h)
  | .sl L _ _, h => by simp only [V.objs]; exact free_objsL L (by simpa [V.free] using h)
  | .func _ xs ys, h => by
    simp only [V.free, Bool.and_eq_true] at h
    simp only [V.objs, free_objsL xs h.1, free_objsL ys h.2, List.append_nil]
  | .iface _ v, h => by simp only [V.objs]; exact free_objs v (by simpa [V.free] using h)
  | .agg cs, h => by simp only [V.objs]; exact free_objsL cs (by simpa [V.free] using h)
  | .tup cs, h => by simp only [V.objs]; exact free_objsL cs (by simpa [V.free] using h)
  termination_by structural v => v
theorem free_objsL : ∀ (l : List V), V.freeL l = true → V.objsL l = []
  | [], _ => rfl
  | v :: l, h => by
    simp only [V.freeL, Bool.and_eq_true] at h
    simp only [V.objsL, free_objs v h.1, free_objsL l h.2, List.append_nil]
  termination_by structural l => l
end
theorem inV_free {v : V} (h : v.free = true) : InV S v := inV_nil (free_objs v h)
theorem inL_free {l : List V} (h : V.freeL l = true) : InL S l := inL_iff.2 fun o ho => by rw [free_objsL l h] at ho; cases ho
theorem InL.sub {l m : List V} (h : InL S l) (hs : ∀ v ∈ m, v ∈ l) : InL S m := fun v hv => h v (hs v hv)
theorem InL.take {l : List V} (h : InL S l) (n : Nat) : InL S (l.take n) := h.sub fun v hv => List.mem_of_mem_take hv
theorem InL.drop {l : List V} (h : InL S l) (n : Nat) : InL S (l.drop n) := h.sub fun v hv => List.mem_of_mem_drop hv
theorem InL.app {l m : List V} (h1 : InL S l) (h2 : InL S m) : InL S (l ++ m) := fun v hv => by
  rcases List.mem_append.1 hv with h | h
  · exact h1 v h
  · exact h2 v h
theorem InL.cons {v : V} {l : List V} (h1 : InV S v) (h2 : InL S l) : InL S (v :: l) := fun u hu => by
  rcases List.mem_cons.1 hu with rfl | h
  · exact h1
  · exact h2 u h
theorem inL_nil : InL S [] := fun v hv => by cases hv
theorem InV.agg {l : List V} (h : InL S l) : InV S (.agg l) := fun o ho => inL_iff.1 h o (by simpa [V.objs] using ho)
theorem InV.tup {l : List V} (h : InL S l) : InV S (.tup l) := fun o ho => inL_iff.1 h o (by simpa [V.objs] using ho)
theorem InV.sl {l : List V} {s : Nat} {c : Option Nat} (h : InL S l) : InV S (.sl l s c) := fun o ho => inL_iff.1 h o (by simpa [V.objs] using ho)
theorem InV.iptr {l : List V} {f : Nat} (h : InL S l) : InV S (.iptr l f) := fun o ho => inL_iff.1 h o (by simpa [V.objs] using ho)
theorem InV.agg' {l : List V} (h : InV S (.agg l)) : InL S l := inL_iff.2 fun o ho => h o (by simpa [V.objs] using ho)
theorem InV.tup' {l : List V} (h : InV S (.tup l)) : InL S l := inL_iff.2 fun o ho => h o (by simpa [V.objs] using ho)
theorem InV.sl' {l : List V} {s : Nat} {c : Option Nat} (h : InV S (.sl l s c)) : InL S l := inL_iff.2 fun o ho => h o (by simpa [V.objs] using ho)
theorem InV.iptr' {l : List V} {f : Nat} (h : InV S (.iptr l f)) : InL S l := inL_iff.2 fun o ho => h o (by simpa [V.objs] using ho)
theorem InV.cells {v : V} (h : InV S v) : InL S v.cells := by
  cases v <;> first | exact h.agg' | exact InL.cons h inL_nil
theorem inL_flat {l : List V} (h : InL S l) : InL S (l.flatMap V.cells) := fun v hv => by
  obtain ⟨e, h1, h2⟩ := List.mem_flatMap.1 hv
  exact (h e h1).cells v h2
theorem inV_wrap {l : List V} (h : InL S l) : InV S (wrapV l) := by
  unfold wrapV
  split
  · exact h _ (by simp)
  · exact .agg h
theorem inV_pack {ag : Option Nat} {cs : List V} {v : V} (h : InL S cs) (hp : packA ag cs = some v) : InV S v := by
  unfold packA at hp
  split at hp
  · cases hp; exact .agg h
  · exact h v (List.mem_of_mem_head? hp)
theorem inL_set {a b : List V} {n : Nat} (h1 : InL S a) (h2 : InL S b) : InL S (setRange a n b) := ((h1.take n).app h2).app (h1.drop _)
theorem inL_fill : ∀ {ps : List (Nat × Nat × V)} {cs ds : List V}, InL S cs → (∀ p ∈ ps, InV S p.2.2) → fillA cs ps = some ds → InL S ds
  | [], cs, ds, h, _, hf => by simp [fillA] at hf; subst hf; exact h
  | (o, n, v) :: ps, cs, ds, h, hp, hf => by
    simp only [fillA] at hf
    have hv := hp _ (by simp : (o, n, v) ∈ (o, n, v) :: ps)
    split at hf
    · cases hf
    · split at hf
      · split at hf
        · exact inL_fill (inL_set h hv.cells) (fun p hp' => hp p (by simp [hp'])) hf
        · cases hf
      · cases hf
def InG (S : Nat → Prop) (get : Nat → Option Ob) : Prop := ∀ o x, get o = some x → ∀ i ∈ x.bd.objs, S i
theorem inL_cellsAt {get : Nat → Option Ob} (hg : InG S get) {o ver : Nat} {cs : List V} (h : cellsAt get o ver = some cs) : InL S cs := by
  unfold cellsAt at h
  split at h
  · rename_i v cs' he
    split at h
    · cases h; exact inL_iff.2 fun i hi => hg o _ he i hi
    · cases h
  · rename_i v cs' he
    split at h
    · cases h; exact inL_iff.2 fun i hi => hg o _ he i hi
    · cases h
  · cases h
theorem inL_loadA {get : Nat → Option Ob} (hg : InG S get) {n : Nat} {p : V} (hp : InV S p) {cs : List V} (h : loadA get n p = some cs) : InL S cs := by
  unfold loadA at h
  split at h
  · split at h
    · rename_i all hc
      split at h
      · cases h; exact ((inL_cellsAt hg hc).drop _).take _
      · cases h
    · cases h
  · split at h
    · cases h; exact (hp.iptr'.drop _).take _
    · cases h
  · cases h
theorem inL_firstA {get : Nat → Option Ob} (hg : InG S get) {s n : Nat} {p : V} (hp : InV S p) {cs : List V} (h : firstA get s n p = some cs) : InL S cs := by
  cases p <;> simp only [firstA, reduceCtorEq] at h
  case nils => split at h <;> cases h; exact inL_nil
  case vend o ver s' =>
    split at h
    · split at h <;> cases h; exact inL_nil
    · cases h
  case view o ver off len s' cap =>
    split at h
    · split at h
      · exact inL_loadA hg (p := .ptr o ver off) (fun i hi => hp i (by simpa [V.objs] using hi)) h
      · cases h
    · cases h
  case sl L s' cap =>
    split at h
    · split at h
      · cases h; exact inL_flat (hp.sl'.take _)
      · cases h
    · cases h
  case str b =>
    split at h
    · split at h
      · cases h
        intro v hv
        obtain ⟨x, -, rfl⟩ := List.mem_map.1 hv
        exact inV_nil rfl
      · cases h
    · cases h
theorem binA_objs {op : BinOp} {a b v : V} (h : binA op a b = some v) : v.objs = [] := by
  unfold binA at h
  repeat' split at h
  all_goals first | (cases h; rfl) | (cases h; done) | skip
theorem unA_objs {op : UnOp} {a v : V} (h : unA op a = some v) : v.objs = [] := by
  unfold unA at h
  repeat' split at h
  all_goals first | (cases h; rfl) | (cases h; done)
theorem mmA_objs {mx : Bool} {a b v : V} (h : mmA mx a b = some v) : v.objs = [] := by
  unfold mmA at h
  split at h
  · cases h; rfl
  · cases h
def Bd.plainBd : Bd → Bool
  | .loop .. => false
  | _ => true
def Eff.inV (S : Nat → Prop) : Eff → Prop
  | .ret v => InV S v
  | .set o x v => InV S v ∧ (∀ i ∈ x.bd.objs, S i) ∧ x.bd.plainBd = true
theorem inV_ptr {o ver off : Nat} (h : S o) : InV S (.ptr o ver off) := fun i hi => by simp [V.objs] at hi; subst hi; exact h
theorem inV_view {o ver off len s : Nat} {cap : Option Nat} (h : S o) : InV S (.view o ver off len s cap) := fun i hi => by simp [V.objs] at hi; subst hi; exact h
theorem inV_vend {o ver s : Nat} (h : S o) : InV S (.vend o ver s) := fun i hi => by simp [V.objs] at hi; subst hi; exact h
theorem inV_map {o ver : Nat} (h : S o) : InV S (.map o ver) := fun i hi => by simp [V.objs] at hi; subst hi; exact h
theorem mkA_in {get : Nat → Option Ob} {o : Nat} {bd : Bd} {v : Nat → V} {eff : Eff} (h : mkA get o bd v = some eff) (hb : ∀ i ∈ bd.objs, S i) (hv : ∀ n, InV S (v n)) (hl : bd.plainBd = true := by rfl) : eff.inV S := by
  unfold mkA at h
  split at h
  · cases h; exact ⟨hv _, hb, hl⟩
  · cases h
theorem arr_in {l : List V} (h : InL S l) : ∀ i ∈ (Bd.arr l).objs, S i := fun i hi => inL_iff.1 h i hi
theorem var_in {l : List V} (h : InL S l) : ∀ i ∈ (Bd.var l).objs, S i := fun i hi => inL_iff.1 h i hi
theorem with_in {x : Ob} {l : List V} (hx : ∀ i ∈ x.bd.objs, S i) (h : InL S l) : ∀ i ∈ (x.with l).bd.objs, S i := by
  unfold Ob.with
  split
  · exact var_in h
  · exact arr_in h
  · exact hx
theorem storeA_in {get : Nat → Option Ob} (hg : InG S get) {o ver off : Nat} {new : List V} {v : V} {eff : Eff} (h : storeA get o ver off new v = some eff) (hn : InL S new) (hv : InV S v) : eff.inV S := by
  unfold storeA at h
  split at h
  · rename_i cs x hc hx
    split at h
    · cases h
      refine ⟨hv, with_in (hg o x hx) (inL_set (inL_cellsAt hg hc) hn), ?_⟩
      unfold cellsAt at hc
      rw [hx] at hc
      obtain ⟨v0, bd⟩ := x
      cases bd <;> simp at hc <;> rfl
    · cases h
  · cases h
theorem sliceA_in {get : Nat → Option Ob} {s : Nat} {x : V} (hx : InV S x) {lo hi mx : Option V} {v : V} (h : sliceA get s x lo hi mx = some v) : InV S v := by
  cases x <;> simp only [sliceA, reduceCtorEq] at h
  case nils => simp only [Option.map_eq_some_iff] at h; obtain ⟨_, -, rfl⟩ := h; exact inV_nil rfl
  case vend o ver s' =>
    split at h
    · simp only [Option.map_eq_some_iff] at h; obtain ⟨_, -, rfl⟩ := h; exact fun i hi => hx i (by simpa [V.objs] using hi)
    · cases h
  case view o ver off len s' cap =>
    have ho : S o := hx o (by simp [V.objs])
    cases cap with
    | some c =>
      simp only [sliceA] at h
      split at h
      · simp only [Option.map_eq_some_iff] at h; obtain ⟨⟨l, k, m⟩, -, rfl⟩ := h; exact inV_view ho
      · cases h
    | none =>
      simp only [sliceA] at h
      split at h
      · split at h
        · split at h
          · simp only [Option.bind_eq_some_iff] at h
            obtain ⟨⟨l, k, m⟩, -, h⟩ := h
            simp only at h
            split at h
            · cases h; exact inV_view ho
            · split at h
              · cases h; exact inV_view ho
              · cases h; exact inV_vend ho
          · simp only [Option.map_eq_some_iff] at h; obtain ⟨⟨l, k, m⟩, -, rfl⟩ := h; exact inV_view ho
        · cases h
      · cases h
  case sl L s' cap =>
    cases cap with
    | some c =>
      simp only [sliceA] at h
      split at h
      · simp only [Option.bind_eq_some_iff] at h
        obtain ⟨⟨l, k, m⟩, -, h⟩ := h
        simp only at h
        split at h
        · cases h; exact .sl ((hx.sl'.take _).drop _)
        · cases h
      · cases h
    | none =>
      simp only [sliceA] at h
      split at h
      · simp only [Option.map_eq_some_iff] at h; obtain ⟨⟨l, k, m⟩, -, rfl⟩ := h; exact .sl ((hx.sl'.take _).drop _)
      · cases h
theorem appendA_in {get : Nat → Option Ob} (hg : InG S get) {o s b : Nat} (ho : S o) {x y : V} (hx : InV S x) (hy : InV S y) {eff : Eff} (h : appendA get o s b x y = some eff) : eff.inV S := by
  unfold appendA at h
  split at h
  · cases h
  rename_i n hn
  split at h
  · cases h
  rename_i new hf
  have hnew := inL_firstA hg hy hf
  split at h
  case isFalse => cases h
  have hxo : ∀ i ∈ x.objs, S i := hx
  split at h
  · split at h
    · cases h; exact inV_nil rfl
    · split at h
      · exact mkA_in h (arr_in hnew) fun v => inV_view ho
      · cases h
  · rename_i L s' c
    split at h
    · split at h
      · cases h; exact hx
      · split at h
        · split at h
          · exact mkA_in h (arr_in ((inL_flat hx.sl').app hnew)) fun v => inV_view ho
          · cases h
        · cases h
    · cases h
  · rename_i o' ver s'
    have ho' : S o' := hx o' (by simp [V.objs])
    split at h
    · split at h
      · cases h
      · split at h
        · cases h; exact hx
        · split at h
          · cases h; exact ⟨inV_view ho', arr_in hnew, rfl⟩
          · cases h
    · cases h
  · rename_i o' ver off len s' cap
    have ho' : S o' := hx o' (by simp [V.objs])
    split at h
    · split at h
      · cases h
      · rename_i cs hc
        have hcs := inL_cellsAt hg hc
        split at h
        · cases h; exact hx
        · split at h
          · split at h
            · split at h
              · exact storeA_in hg h hnew (inV_view ho')
              · split at h
                · exact mkA_in h (arr_in (((hcs.drop _).take _).app hnew)) fun v => inV_view ho
                · cases h
            · split at h
              · split at h
                · cases h; exact ⟨inV_view ho', arr_in ((hcs.drop _).app hnew), rfl⟩
                · cases h
              · exact storeA_in hg h hnew (inV_view ho')
          · cases h
    · cases h
  · cases h
theorem copyA_in {get : Nat → Option Ob} (hg : InG S get) {s : Nat} {x y : V} (hx : InV S x) (hy : InV S y) {eff : Eff} (h : copyA get s x y = some eff) : eff.inV S := by
  unfold copyA at h
  split at h
  case h_2 => cases h
  simp only at h
  split at h
  · cases h
  rename_i new hf
  have hnew := inL_firstA hg hy hf
  split at h
  case isFalse => cases h
  split at h
  · cases h; exact inV_nil rfl
  · cases h; exact inV_nil rfl
  · split at h
    · split at h
      · cases h; exact inV_nil rfl
      · exact storeA_in hg h hnew (inV_nil rfl)
    · cases h
  · cases h
theorem mapAt_in {get : Nat → Option Ob} (hg : InG S get) {o ver : Nat} {es : List (V × V)} (h : mapAt get o ver = some es) : ∀ e ∈ es, InV S e.1 ∧ InV S e.2 := by
  unfold mapAt at h
  split at h
  · rename_i v es' he
    split at h
    · cases h
      have := hg o _ he
      intro e hm
      exact ⟨fun i hi => this i (List.mem_flatMap.2 ⟨e, hm, by simp [hi]⟩), fun i hi => this i (List.mem_flatMap.2 ⟨e, hm, by simp [hi]⟩)⟩
    · cases h
  · cases h
theorem map_in {es : List (V × V)} (h : ∀ e ∈ es, InV S e.1 ∧ InV S e.2) : ∀ i ∈ (Bd.map es).objs, S i := by
  intro i hi
  obtain ⟨e, he, hi⟩ := List.mem_flatMap.1 hi
  rcases List.mem_append.1 hi with hi | hi
  · exact (h e he).1 i hi
  · exact (h e he).2 i hi
theorem okV_in {ok b : Bool} {v : V} (h : InV S v) : InV S (okV ok v b) := by
  unfold okV
  cases ok
  · exact h
  · exact .tup (.cons h (.cons (inV_nil rfl) inL_nil))
def cleanO (x : Opd) : Bool := match x with | .cst v => v.free | .tmp _ => true
def AOp.clean (op : AOp) : Bool :=
  op.opds.all cleanO && match op with
  | .allocz _ z | .build z _ | .bslice z _ _ _ | .clearS _ z _ | .bnew _ z _ _ _ | .mkslice _ z _ _ _ _ => V.freeL z
  | .mget _ _ z _ _ _ => z.free
  | _ => true
theorem inV_ev {t : List V} (ht : InL S t) {x : Opd} (hx : cleanO x = true) : InV S (ev t x) := by
  cases x with
  | cst v => exact inV_free hx
  | tmp i =>
    simp only [ev, List.getD_eq_getElem?_getD]
    cases h : t[i]? with
    | none => exact inV_nil rfl
    | some v => exact ht v (List.mem_of_getElem? h)
theorem inL_chunks {cs : List V} (h : InL S cs) (n : Nat) (f : Nat → Nat) (s : Nat) : InL S ((List.range n).map fun i => wrapV ((cs.drop (f i)).take s)) := fun v hv => by
  obtain ⟨i, -, rfl⟩ := List.mem_map.1 hv
  exact inV_wrap ((h.drop _).take _)
theorem fold_mm : ∀ {l : List V} {a v : V} {mx : Bool}, InV S a → l.foldlM (mmA mx) a = some v → InV S v
  | [], a, v, mx, h, hf => by simp at hf; subst hf; exact h
  | x :: l, a, v, mx, h, hf => by
    simp only [List.foldlM_cons, Option.bind_eq_bind, Option.bind_eq_some_iff] at hf
    obtain ⟨b, hb, hf⟩ := hf
    exact fold_mm (inV_nil (mmA_objs hb)) hf
theorem prim_in {fb : Nat} {t : List V} (ht : InL S t) {get : Nat → Option Ob} (hg : InG S get) (hs : ∀ i, fb ≤ i → S i) {op : AOp} (hc : op.clean = true) {eff : Eff} (h : prim fb (ev t) get op = some eff) : eff.inV S := by
  unfold AOp.clean at hc
  simp only [Bool.and_eq_true, List.all_eq_true] at hc
  obtain ⟨hc, hz⟩ := hc
  have e : ∀ x ∈ op.opds, InV S (ev t x) := fun x hx => inV_ev ht (hc x hx)
  have st : ∀ s, S (fb + s) := fun s => hs _ (by omega)
  cases op <;> simp only [AOp.opds, List.mem_cons, List.not_mem_nil, or_false, forall_eq_or_imp, forall_eq] at e <;> simp only [prim] at h
  case move x => cases h; exact e
  case pick c a b =>
    split at h
    · rename_i tt _; cases h; cases tt
      · exact e.2.2
      · exact e.2.1
    · cases h
  case allocz s z => exact mkA_in h (var_in (inL_free hz)) fun v => inV_ptr (st s)
  case box s x =>
    split at h
    · cases h
    · exact mkA_in h (var_in e.cells) fun v => inV_ptr (st s)
  case build z ps =>
    simp only [Option.map_eq_some_iff] at h
    obtain ⟨cs, hf, rfl⟩ := h
    refine .agg (inL_fill (inL_free hz) (fun p hp => ?_) hf)
    obtain ⟨q, hq, rfl⟩ := List.mem_map.1 hp
    exact e _ (List.mem_map.2 ⟨q, hq, rfl⟩)
  case bslice z len s ps =>
    split at h
    · rename_i cs hf
      split at h
      · cases h
        refine .sl (inL_chunks (inL_fill (inL_free hz) (fun p hp => ?_) hf) _ _ _)
        obtain ⟨q, hq, rfl⟩ := List.mem_map.1 hp
        exact e _ (List.mem_map.2 ⟨q, hq, rfl⟩)
      · cases h
    · cases h
  case load ag a =>
    simp only [Option.bind_eq_some_iff, Option.map_eq_some_iff] at h
    obtain ⟨cs, hl, v, hv, rfl⟩ := h
    exact inV_pack (inL_loadA hg e hl) hv
  case store n a x =>
    split at h
    · split at h
      · split at h
        · exact storeA_in hg h e.2.cells (inV_nil rfl)
        · cases h
      · cases h
    · cases h
  case nilck x =>
    split at h
    · rename_i o v f hx; cases h; rw [hx] at e; exact e
    · rename_i c f hx; cases h; rw [hx] at e; exact e
    · rename_i f a b hx; cases h; rw [hx] at e; exact e
    · cases h
  case bin op x y =>
    simp only [Option.map_eq_some_iff] at h
    obtain ⟨v, hv, rfl⟩ := h
    exact inV_nil (binA_objs hv)
  case eqc neg ag ks x y =>
    cases ag <;> simp only [prim] at h
    · simp only [Option.map_eq_some_iff] at h
      obtain ⟨b, -, rfl⟩ := h
      exact inV_nil rfl
    · split at h
      · simp only [Option.map_eq_some_iff] at h
        obtain ⟨b, -, rfl⟩ := h
        exact inV_nil rfl
      · cases h
  case eqnil neg k x =>
    simp only [Option.map_eq_some_iff] at h
    obtain ⟨b, -, rfl⟩ := h
    exact inV_nil rfl
  case un op x =>
    simp only [Option.map_eq_some_iff] at h
    obtain ⟨v, hv, rfl⟩ := h
    exact inV_nil (unA_objs hv)
  case cint k x => split at h <;> cases h; exact inV_nil rfl
  case cstr x => split at h <;> cases h; exact inV_nil rfl
  case b2s x =>
    split at h
    · cases h
    · simp only [Option.bind_eq_some_iff, Option.map_eq_some_iff] at h
      obtain ⟨n, -, cs, -, l, -, rfl⟩ := h
      exact inV_nil rfl
  case s2b s x =>
    split at h
    · refine mkA_in h (arr_in fun v hv => ?_) fun v => inV_view (st s)
      obtain ⟨x, -, rfl⟩ := List.mem_map.1 hv
      exact inV_nil rfl
    · cases h
  case mkfunc f xs ys =>
    cases h
    intro o ho
    simp only [V.objs, List.mem_append] at ho
    rcases ho with ho | ho
    · obtain ⟨c, hc', ho⟩ := mem_objsL' ho
      obtain ⟨x, hx, rfl⟩ := List.mem_map.1 hc'
      exact e x (by simp [hx]) o ho
    · obtain ⟨c, hc', ho⟩ := mem_objsL' ho
      obtain ⟨x, hx, rfl⟩ := List.mem_map.1 hc'
      exact e x (by simp [hx]) o ho
  case mkiface ty x =>
    have h' : eff = .ret (.iface ty (ev t x)) := by
      generalize ev t x = v at h
      cases v <;> first | (cases h; done) | (simp at h; exact h.symm)
    subst h'
    exact fun o ho => e o (by simpa [V.objs] using ho)
  case mkslice s z sz by' l c =>
    split at h
    · split at h
      · split at h
        · split at h
          · split at h
            · refine mkA_in h (arr_in fun v hv => ?_) fun v => inV_view (st s)
              obtain ⟨l', hl', hv⟩ := List.mem_flatten.1 hv
              rw [List.eq_of_mem_replicate hl'] at hv
              exact inL_free hz v hv
            · cases h
          · cases h
        · cases h
      · cases h
    · cases h
  case slA n s x lo hi mx =>
    split at h
    · rename_i o ver off hx
      have ho : S o := by have := e.1; rw [hx] at this; exact this o (by simp [V.objs])
      split at h
      · simp only [Option.map_eq_some_iff] at h
        obtain ⟨⟨l, k, m⟩, -, rfl⟩ := h
        exact inV_view ho
      · cases h
    · rename_i cs off hx
      have hcs : InL S cs := by have := e.1; rw [hx] at this; exact this.iptr'
      simp only [Option.bind_eq_some_iff] at h
      obtain ⟨⟨l, k, m⟩, -, h⟩ := h
      simp only at h
      split at h
      · split at h
        · cases h
          exact .sl (inL_chunks hcs _ _ _)
        · cases h
      · cases h
    · cases h
  case slS s x lo hi mx =>
    simp only [Option.map_eq_some_iff] at h
    obtain ⟨v, hv, rfl⟩ := h
    exact sliceA_in e.1 hv
  case slStr x lo hi =>
    split at h
    · simp only [Option.map_eq_some_iff] at h
      obtain ⟨⟨l, k, m⟩, -, rfl⟩ := h
      exact inV_nil rfl
    · cases h
  case faddr off x =>
    split at h
    · rename_i o v f hx; cases h; rw [hx] at e; exact inV_ptr (e o (by simp [V.objs]))
    · rename_i c f hx; cases h; rw [hx] at e; exact .iptr e.iptr'
    · cases h
  case field ag off x =>
    split at h
    · rename_i cs hx
      rw [hx] at e
      split at h
      · simp only [Option.map_eq_some_iff] at h
        obtain ⟨v, hv, rfl⟩ := h
        exact inV_pack ((e.agg'.drop _).take _) hv
      · cases h
    · cases h
  case iaddrA n s x i =>
    simp only [Option.bind_eq_some_iff] at h
    obtain ⟨j, -, h⟩ := h
    split at h
    · rename_i o v f hx; cases h; rw [hx] at e; exact inV_ptr (e.1 o (by simp [V.objs]))
    · rename_i c f hx; cases h; rw [hx] at e; exact .iptr e.1.iptr'
    · cases h
  case iaddrS s x i =>
    unfold iaddrSA at h
    split at h
    · rename_i o ver off len s' cap hx
      split at h
      · simp only [Option.map_eq_some_iff] at h
        obtain ⟨j, -, rfl⟩ := h
        rw [hx] at e
        exact inV_ptr (e.1 o (by simp [V.objs]))
      · cases h
    · rename_i L s' cap hx
      split at h
      · simp only [Option.bind_eq_some_iff, Option.map_eq_some_iff] at h
        obtain ⟨j, -, c, hcj, rfl⟩ := h
        rw [hx] at e
        exact .iptr (e.1.sl' c (List.mem_of_getElem? hcj)).cells
      · cases h
    · cases h
  case indexA n s ag x i =>
    simp only [Option.bind_eq_some_iff] at h
    obtain ⟨j, -, h⟩ := h
    split at h
    · rename_i cs hx
      rw [hx] at e
      split at h
      · simp only [Option.map_eq_some_iff] at h
        obtain ⟨v, hv, rfl⟩ := h
        exact inV_pack ((e.1.agg'.drop _).take _) hv
      · cases h
    · cases h
  case indexStr x i =>
    split at h
    · simp only [Option.bind_eq_some_iff, Option.map_eq_some_iff] at h
      obtain ⟨j, -, c, -, rfl⟩ := h
      exact inV_nil rfl
    · cases h
  case extract x i =>
    split at h
    · rename_i vs hx
      rw [hx] at e
      simp only [Option.map_eq_some_iff] at h
      obtain ⟨v, hv, rfl⟩ := h
      exact e.tup' v (List.mem_of_getElem? hv)
    · cases h
  case lenS x =>
    split at h
    · cases h
    · simp only [Option.map_eq_some_iff] at h
      obtain ⟨n, -, rfl⟩ := h
      exact inV_nil rfl
  case lenStr x => split at h <;> cases h; exact inV_nil rfl
  case lenK n => cases h; exact inV_nil rfl
  case append s sz b x y => exact appendA_in hg (st s) e.1 e.2 h
  case copy s x y => exact copyA_in hg e.1 e.2 h
  case call => cases h
  case callv => cases h
  case minmax mx xs =>
    split at h
    · rename_i a rest hm
      simp only [Option.map_eq_some_iff] at h
      obtain ⟨v, hv, rfl⟩ := h
      refine fold_mm ?_ hv
      have : a ∈ xs.map (ev t) := by rw [hm]; simp
      obtain ⟨x, hx, rfl⟩ := List.mem_map.1 this
      exact e x hx
    · cases h
  case clearS s z x =>
    unfold clearA at h
    split at h
    · cases h; exact inV_nil rfl
    · cases h; exact inV_nil rfl
    · cases h; exact inV_nil rfl
    · split at h
      · cases h; exact inV_nil rfl
      · split at h
        · refine storeA_in hg h (fun v hv => ?_) (inV_nil rfl)
          obtain ⟨l', hl', hv⟩ := List.mem_flatten.1 hv
          rw [List.eq_of_mem_replicate hl'] at hv
          exact inL_free hz v hv
        · cases h
    · cases h
  case bnew s row len sz ps =>
    split at h
    · rename_i cs hf
      refine mkA_in h (arr_in (inL_fill (inL_free hz) (fun p hp => ?_) hf)) fun v => inV_view (st s)
      obtain ⟨q, hq, rfl⟩ := List.mem_map.1 hp
      exact e _ (List.mem_map.2 ⟨q, hq, rfl⟩)
    · cases h
  case mark x =>
    split at h
    · rename_i o ver off len sz cap hx
      split at h
      · cases h; rw [hx] at e; exact e
      · cases h
    · cases h
  case s2ap n s x =>
    simp only [Option.map_eq_some_iff] at h
    obtain ⟨v, hv, rfl⟩ := h
    unfold s2apA at hv
    split at hv
    · rename_i o ver off len s' cap hx
      split at hv
      · split at hv
        · cases hv; rw [hx] at e; exact inV_ptr (e o (by simp [V.objs]))
        · cases hv
      · cases hv
    · rename_i L s' cap hx
      split at hv
      · split at hv
        · cases hv; rw [hx] at e; exact .iptr (inL_flat (e.sl'.take _))
        · cases hv
      · cases hv
    · cases hv
  case mkmap s => exact mkA_in h (map_in fun e he => by cases he) fun v => inV_map (st s)
  case mget ag ks z ok m k =>
    simp only [Option.map_eq_some_iff] at h
    obtain ⟨v, hv, rfl⟩ := h
    have hzv : InV S z := inV_free hz
    unfold mgetA at hv
    split at hv
    · cases hv
    · split at hv
      · split at hv <;> cases hv; exact okV_in hzv
      · split at hv
        · cases hv
        · rename_i es hes
          split at hv
          · split at hv
            · rename_i y hy
              cases hv
              exact okV_in (mapAt_in hg hes y (List.mem_of_find?_eq_some hy)).2
            · cases hv; exact okV_in hzv
          · cases hv
      · cases hv
  case mput ag ks m k v =>
    unfold mputA at h
    split at h
    · cases h
    · split at h
      · split at h
        · cases h
        · rename_i es hes
          split at h
          · cases h
            refine ⟨inV_nil rfl, map_in ?_, rfl⟩
            have hm := mapAt_in hg hes
            unfold mputL
            split
            · intro x hx
              obtain ⟨y, hy, rfl⟩ := List.mem_map.1 hx
              split
              · exact ⟨e.2.1, e.2.2⟩
              · exact hm y hy
            · intro x hx
              rcases List.mem_append.1 hx with hx | hx
              · exact hm x hx
              · obtain rfl := List.mem_singleton.1 hx; exact ⟨e.2.1, e.2.2⟩
          · cases h
      · cases h
  case mdel ag ks m k =>
    unfold mdelA at h
    split at h
    · cases h
    · split at h
      · split at h <;> cases h; exact inV_nil rfl
      · split at h
        · cases h
        · rename_i es hes
          split at h
          · cases h
            exact ⟨inV_nil rfl, map_in fun x hx => mapAt_in hg hes x (List.mem_filter.1 hx).1, rfl⟩
          · cases h
      · cases h
  case mclear m =>
    unfold mclearA at h
    split at h
    · cases h; exact inV_nil rfl
    · split at h
      · cases h
      · cases h; exact ⟨inV_nil rfl, map_in (fun e he => by cases he), rfl⟩
    · cases h
  case mlen m =>
    simp only [Option.map_eq_some_iff] at h
    obtain ⟨v, hv, rfl⟩ := h
    unfold mlenA at hv
    split at hv
    · cases hv; exact inV_nil rfl
    · simp only [Option.map_eq_some_iff] at hv
      obtain ⟨es, -, rfl⟩ := hv
      exact inV_nil rfl
    · cases hv
  case stuck => cases h
end
end Go.Am


set_option linter.unusedVariables false
set_option linter.unusedSimpArgs false
namespace Go.Am
structure Good (S : Nat → Prop) (n0 : Nat) (h : Heap) : Prop where
  names : InG S (fun o => h[o]?)
  base : ∀ (o v st : Nat) pd t fb f k, h[o]? = some ⟨v, .loop st pd t fb f k⟩ → n0 ≤ fb
  len : n0 ≤ h.length
section
variable {S : Nat → Prop} {n0 : Nat}
theorem Good.set {h : Heap} (H : Good S n0 h) {o : Nat} {x : Ob} (hx : ∀ i ∈ x.bd.objs, S i) (hl : ∀ st pd t fb f k, x.bd = .loop st pd t fb f k → n0 ≤ fb) : Good S n0 (h.set o x) := by
  refine ⟨fun i y hy => ?_, fun i v st pd t fb f k hy => ?_, by rw [List.length_set]; exact H.len⟩
  · simp only [List.getElem?_set] at hy
    split at hy
    · split at hy
      · cases hy; exact hx
      · cases hy
    · exact H.names i y hy
  · simp only [List.getElem?_set] at hy
    split at hy
    · split at hy
      · cases hy; exact hl _ _ _ _ _ _ rfl
      · cases hy
    · exact H.base i v st pd t fb f k hy
theorem Good.setP {h : Heap} (H : Good S n0 h) {o : Nat} {x : Ob} (hx : ∀ i ∈ x.bd.objs, S i) (hl : x.bd.plainBd = true) : Good S n0 (h.set o x) :=
  H.set hx fun st pd t fb f k e => by rw [e] at hl; cases hl
theorem Good.dead {h : Heap} (H : Good S n0 h) {o v : Nat} : Good S n0 (h.set o ⟨v, .dead⟩) := H.setP (fun i hi => by cases hi) rfl
theorem Good.app {h : Heap} (H : Good S n0 h) (n : Nat) : Good S n0 (h ++ deads n) := by
  refine ⟨fun i y hy => ?_, fun i v st pd t fb f k hy => ?_, by have := H.len; simp; omega⟩
  · simp only at hy
    rcases Nat.lt_or_ge i h.length with hl | hl
    · rw [List.getElem?_append_left hl] at hy; exact H.names i y hy
    · rw [List.getElem?_append_right hl] at hy
      obtain rfl := List.eq_of_mem_replicate (List.mem_of_getElem? hy)
      intro j hj; cases hj
  · rcases Nat.lt_or_ge i h.length with hl | hl
    · rw [List.getElem?_append_left hl] at hy; exact H.base i v st pd t fb f k hy
    · rw [List.getElem?_append_right hl] at hy
      have := List.eq_of_mem_replicate (List.mem_of_getElem? hy)
      cases this
def CallIn (S : Nat → Prop) (n0 : Nat) (call : Caller) : Prop := ∀ f args h v h', InL S args → Good S n0 h → call f args h = some (v, h') → InV S v ∧ Good S n0 h'
theorem InL.put {t : List V} (h : InL S t) {d : Option Nat} {v : V} (hv : InV S v) : InL S (put t d v) := by
  cases d with
  | none => exact h
  | some d =>
    intro u hu
    rcases List.mem_or_eq_of_mem_set hu with hu | rfl
    · exact h u hu
    · exact hv
theorem InL.clear {t : List V} : ∀ (l : List Nat), InL S t → InL S (clear l t) := by
  intro l
  induction l generalizing t with
  | nil => exact fun h => h
  | cons i l ih => exact fun h => ih (h.put (d := some i) (v := .junk) (inV_nil rfl))
theorem Good.kill {h : Heap} (fb : Nat) : ∀ (l : List Nat), Good S n0 h → Good S n0 (killA fb l h) := by
  intro l
  induction l generalizing h with
  | nil => exact fun H => H
  | cons i l ih =>
    intro H
    unfold killA
    simp only [List.foldl_cons]
    split
    · exact ih H.dead
    · exact ih H
variable (hS : ∀ i, n0 ≤ i → S i)
theorem opds_in {t : List V} (ht : InL S t) {xs : List Opd} (hx : ∀ x ∈ xs, cleanO x = true) : InL S (xs.map (ev t)) := fun v hv => by
  obtain ⟨x, hx', rfl⟩ := List.mem_map.1 hv
  exact inV_ev ht (hx x hx')
include hS in
theorem stepOp_in {call : Caller} (hcall : CallIn S n0 call) {fb : Nat} (hfb : n0 ≤ fb) {o : AOper} (hc : o.op.clean = true) {t : List V} {h : Heap} (ht : InL S t) (H : Good S n0 h) {t' : List V} {h' : Heap} (hr : stepOp call fb o t h = some (t', h')) : InL S t' ∧ Good S n0 h' := by
  unfold stepOp at hr
  split at hr
  · cases hr
  · cases hr; exact ⟨ht.put (inV_nil rfl), H⟩
  · split at hr
    case h_2 => cases hr
    rename_i v h1 hd
    cases hr
    suffices q : InV S v ∧ Good S n0 h' from ⟨ht.put q.1, q.2⟩
    have hcl := hc
    unfold AOp.clean at hcl
    simp only [Bool.and_eq_true, List.all_eq_true] at hcl
    have hopd := hcl.1
    unfold doOp at hd
    split at hd
    · rename_i f args hop
      rw [hop] at hopd
      split at hd
      · cases hd
      · exact hcall _ _ _ _ _ (opds_in ht fun x hx => hopd x hx) H hd
    · rename_i f args hop
      rw [hop] at hopd
      have hf := inV_ev ht (hopd f (by simp [AOp.opds]))
      have ha := opds_in (S := S) ht (xs := args) fun x hx => hopd x (by simp [AOp.opds, hx])
      split at hd
      · rename_i g xs ys hv
        rw [hv] at hf
        split at hd
        · cases hd
        · refine hcall _ _ _ _ _ (((inL_iff.2 fun i hi => hf i (by simp [V.objs, hi])).app ha).app (inL_iff.2 fun i hi => hf i (by simp [V.objs, hi]))) H hd
      · rename_i oo ver hv
        rw [hv] at hf
        exact hcall _ _ _ _ _ (.cons hf ha) H hd
      · cases hd
    · split at hd
      · rename_i hp
        cases hd
        exact ⟨prim_in ht H.names (fun i hi => hS i (by omega)) hc hp, H⟩
      · rename_i i x v' hp
        cases hd
        have := prim_in ht H.names (fun i hi => hS i (by omega)) hc hp
        exact ⟨this.1, H.setP this.2.1 this.2.2⟩
      · cases hd
include hS in
theorem runOps_in {call : Caller} (hcall : CallIn S n0 call) {fb : Nat} (hfb : n0 ≤ fb) : ∀ {ops : List AOper} (hc : ∀ o ∈ ops, o.op.clean = true) {t : List V} {h : Heap} (ht : InL S t) (H : Good S n0 h) {t' : List V} {h' : Heap} (hr : runOps call fb ops t h = some (t', h')), InL S t' ∧ Good S n0 h'
  | [], _, t, h, ht, H, t', h', hr => by simp only [runOps, Option.some.injEq, Prod.mk.injEq] at hr; obtain ⟨rfl, rfl⟩ := hr; exact ⟨ht, H⟩
  | o :: os, hc, t, h, ht, H, t', h', hr => by
    simp only [runOps] at hr
    split at hr
    · rename_i t1 h1 hs
      obtain ⟨a, b⟩ := stepOp_in hS hcall hfb (hc o (by simp)) ht H hs
      exact runOps_in hcall hfb (fun o ho => hc o (by simp [ho])) a b hr
    · cases hr
include hS in
theorem runDraw_in {pureF : FuncId → FMode} {call : Caller} (hcall : CallIn S n0 call) {fb n : Nat} (hfb : n0 ≤ fb) : ∀ {ops : List (AOper × List Nat)} (hc : ∀ o ∈ ops, o.1.op.clean = true) {fps : List Fp} {t : List V} {h : Heap} (ht : InL S t) (H : Good S n0 h) {t' : List V} {h' : Heap} (hr : runDraw pureF call fb n ops fps t h = some (t', h')), InL S t' ∧ Good S n0 h'
  | [], _, fps, t, h, ht, H, t', h', hr => by simp only [runDraw, Option.some.injEq, Prod.mk.injEq] at hr; obtain ⟨rfl, rfl⟩ := hr; exact ⟨ht, H⟩
  | (o, ps) :: os, hc, fps, t, h, ht, H, t', h', hr => by
    simp only [runDraw] at hr
    split at hr
    · split at hr
      · rename_i t1 h1 hs
        obtain ⟨a, b⟩ := stepOp_in hS hcall hfb (hc (o, ps) (by simp)) ht H hs
        exact runDraw_in hcall hfb (fun o ho => hc o (by simp [ho])) a b hr
      · cases hr
    · cases hr
theorem keepOnly_good {R : List Nat} {h : Heap} (H : Good S n0 h) : Good S n0 (keepOnly R h) := by
  refine ⟨fun o x hx => ?_, fun o v st pd t fb f k hx => ?_, by rw [keepOnly_length]; exact H.len⟩
  · simp only at hx
    rw [keepOnly_get] at hx
    simp only [Option.map_eq_some_iff] at hx
    obtain ⟨y, hy, rfl⟩ := hx
    split
    · exact H.names o y hy
    · intro i hi; cases hi
  · rw [keepOnly_get] at hx
    simp only [Option.map_eq_some_iff] at hx
    obtain ⟨y, hy, hx⟩ := hx
    split at hx
    · subst hx; exact H.base o v st pd t fb f k hy
    · cases hx
theorem frameC_in {pureF : FuncId → FMode} {call : Caller} (hcall : CallIn S n0 call) : CallIn S n0 (frameC pureF call) := by
  intro f args h v h' ha H hr
  unfold frameC at hr
  split at hr
  · split at hr
    · rename_i e
      split at hr
      · cases hr; exact hcall _ _ _ _ _ ha H e
      · cases hr
    · cases hr
  · split at hr
    · exact hcall _ _ _ _ _ ha H hr
    · split at hr
      · exact hcall _ _ _ _ _ ha H hr
      · cases hr
    · split at hr
      · rename_i v1 h1 e1 e2
        split at hr
        · rename_i hok
          cases hr
          obtain ⟨q1, q2⟩ := hcall _ _ _ _ _ ha (keepOnly_good H) e2
          have hle : h.length ≤ h1.length := by
            simp only [Bool.and_eq_true, decide_eq_true_eq] at hok
            exact hok.1.1
          refine ⟨q1, ⟨fun o x hx => ?_, fun o v st pd t fb f k hx => ?_, by rw [mergeH_length]; exact q2.len⟩⟩
          · simp only at hx
            rw [mergeH_get] at hx
            simp only [Option.map_eq_some_iff] at hx
            obtain ⟨y, hy, rfl⟩ := hx
            split
            · exact q2.names o y hy
            · rename_i hin
              have hlt : o < h.length := by simp [inside] at hin; omega
              have : h.getD o y = h[o] := by simp [List.getD_eq_getElem?_getD, hlt]
              rw [this]
              exact H.names o _ (List.getElem?_eq_getElem hlt)
          · rw [mergeH_get] at hx
            simp only [Option.map_eq_some_iff] at hx
            obtain ⟨y, hy, hx⟩ := hx
            split at hx
            · subst hx; exact q2.base o v st pd t fb f k hy
            · rename_i hin
              have hlt : o < h.length := by simp [inside] at hin; omega
              have : h.getD o y = h[o] := by simp [List.getD_eq_getElem?_getD, hlt]
              rw [this] at hx
              exact H.base o v st pd t fb f k (by rw [List.getElem?_eq_getElem hlt, hx])
        · cases hr
      · cases hr
def ACode.clean : ACode → Bool
  | .region ops => ops.all fun o => o.op.clean
  | .draw ops => ops.all fun x => x.1.op.clean
  | .seq a b => a.clean && b.clean
  | .cond c a b => cleanO c && (a.clean && b.clean)
  | .block _ b | .loop _ _ b | .fresh _ b => b.clean
  | .rangeF f _ a b _ _ _ => cleanO f && (a.clean && b.clean)
  | _ => true
theorem loopN_in {f : List V → Heap → Option (Ex × List V × Heap)} {pre : List V → Heap → List V × Heap} (hf : ∀ t h e t' h', InL S t → Good S n0 h → f t h = some (e, t', h') → InL S t' ∧ Good S n0 h') (hp : ∀ t h, InL S t → Good S n0 h → InL S (pre t h).1 ∧ Good S n0 (pre t h).2) :
    ∀ (n : Nat) {t : List V} {h : Heap} {e : Ex} {t' : List V} {h' : Heap}, InL S t → Good S n0 h → loopN f pre n t h = some (e, t', h') → InL S t' ∧ Good S n0 h'
  | 0, t, h, e, t', h', _, _, hr => by simp [loopN] at hr
  | n + 1, t, h, e, t', h', ht, H, hr => by
    simp only [loopN] at hr
    obtain ⟨p1, p2⟩ := hp t h ht H
    split at hr
    · rename_i t1 h1 he
      obtain ⟨a, b⟩ := hf _ _ _ _ _ p1 p2 he
      exact loopN_in hf hp n a b hr
    · exact hf _ _ _ _ _ p1 p2 hr
include hS in
theorem exec_in {pureF : FuncId → FMode} {call : Caller} (hcall : CallIn S n0 call) {N : Nat} : ∀ (c : ACode) (hc : c.clean = true) {fb : Nat} (hfb : n0 ≤ fb) {t : List V} {h : Heap} (ht : InL S t) (H : Good S n0 h) {e : Ex} {t' : List V} {h' : Heap} (hr : exec pureF call N fb c t h = some (e, t', h')), InL S t' ∧ Good S n0 h' := by
  intro c
  induction c with
  | skip => intro _ fb _ t h ht H e t' h' hr; simp only [exec, Option.some.injEq, Prod.mk.injEq] at hr; obtain ⟨-, rfl, rfl⟩ := hr; exact ⟨ht, H⟩
  | region ops =>
    intro hc fb hfb t h ht H e t' h' hr
    simp only [exec] at hr
    split at hr
    · rename_i t1 h1 he
      simp only [Option.some.injEq, Prod.mk.injEq] at hr
      obtain ⟨-, rfl, rfl⟩ := hr
      exact runOps_in hS hcall hfb (List.all_eq_true.1 hc) ht H he
    · cases hr
  | draw ops =>
    intro hc fb hfb t h ht H e t' h' hr
    simp only [exec] at hr
    split at hr
    · rename_i t1 h1 he
      simp only [Option.some.injEq, Prod.mk.injEq] at hr
      obtain ⟨-, rfl, rfl⟩ := hr
      exact runDraw_in hS (frameC_in hcall) hfb (List.all_eq_true.1 hc) ht H he
    · cases hr
  | seq a b iha ihb =>
    intro hc fb hfb t h ht H e t' h' hr
    simp only [ACode.clean, Bool.and_eq_true] at hc
    simp only [exec] at hr
    split at hr
    · rename_i t1 h1 he
      obtain ⟨q1, q2⟩ := iha hc.1 hfb ht H he
      exact ihb hc.2 hfb q1 q2 hr
    · exact iha hc.1 hfb ht H hr
  | cond x a b iha ihb =>
    intro hc fb hfb t h ht H e t' h' hr
    simp only [ACode.clean, Bool.and_eq_true] at hc
    simp only [exec] at hr
    split at hr
    · exact iha hc.2.1 hfb ht H hr
    · exact ihb hc.2.2 hfb ht H hr
    · cases hr
  | block id b ih =>
    intro hc fb hfb t h ht H e t' h' hr
    simp only [exec] at hr
    split at hr
    · rename_i i t1 h1 he
      obtain ⟨q1, q2⟩ := ih hc hfb ht H he
      split at hr <;> (simp only [Option.some.injEq, Prod.mk.injEq] at hr; obtain ⟨-, rfl, rfl⟩ := hr; exact ⟨q1, q2⟩)
    · exact ih hc hfb ht H hr
  | loop clr kill b ih =>
    intro hc fb hfb t h ht H e t' h' hr
    simp only [exec] at hr
    exact loopN_in (fun t h e t' h' ht H hr => ih hc hfb ht H hr) (fun t h ht H => ⟨ht.clear clr, H.kill fb kill⟩) N ht H hr
  | exit id => intro _ fb _ t h ht H e t' h' hr; simp only [exec, Option.some.injEq, Prod.mk.injEq] at hr; obtain ⟨-, rfl, rfl⟩ := hr; exact ⟨ht, H⟩
  | ret => intro _ fb _ t h ht H e t' h' hr; simp only [exec, Option.some.injEq, Prod.mk.injEq] at hr; obtain ⟨-, rfl, rfl⟩ := hr; exact ⟨ht, H⟩
  | clr l => intro _ fb _ t h ht H e t' h' hr; simp only [exec, Option.some.injEq, Prod.mk.injEq] at hr; obtain ⟨-, rfl, rfl⟩ := hr; exact ⟨ht.clear l, H⟩
  | fresh n b ih =>
    intro hc fb hfb t h ht H e t' h' hr
    simp only [exec] at hr
    exact ih hc (fb := h.length) H.len ht (H.app n) hr
  | rangeF f ps a b fid k site iha ihb =>
    intro hc fb hfb t h ht H e t' h' hr
    simp only [ACode.clean, Bool.and_eq_true] at hc
    simp only [exec] at hr
    split at hr
    case h_2 => cases hr
    rename_i x hx
    split at hr
    case h_2 => cases hr
    rename_i g xs ys hv
    have hf := inV_ev ht hc.1
    rw [hv] at hf
    split at hr
    · cases hr
    split at hr
    case h_2 => cases hr
    rename_i v h2 hcl
    have hyl : InV S (.yld (fb + site) (x.ver + 1)) := fun i hi => by simp [V.objs] at hi; subst hi; exact hS _ (by omega)
    obtain ⟨-, q2⟩ := hcall _ _ _ _ _ (((inL_iff.2 fun i hi => hf i (by simp [V.objs, hi])).app (.cons hyl inL_nil)).app (inL_iff.2 fun i hi => hf i (by simp [V.objs, hi])))
      (H.set (x := ⟨x.ver + 1, .loop 0 none t fb fid k⟩) (fun i hi => inL_iff.1 ht i hi) (fun st pd t' fb' f' k' e => by cases e; exact hfb)) hcl
    split at hr
    · split at hr
      · split at hr
        · cases hr
        · simp only [Option.some.injEq, Prod.mk.injEq] at hr
          obtain ⟨-, rfl, rfl⟩ := hr
          exact ⟨ht, q2.dead⟩
      · cases hr
    · cases hr
theorem ranges_clean : ∀ (c : ACode), c.clean = true → ∀ r ∈ rangesA c, r.2.1.clean = true ∧ r.2.2.clean = true
  | .skip, _, r, h | .region _, _, r, h | .draw _, _, r, h | .exit _, _, r, h | .ret, _, r, h | .clr _, _, r, h => by simp [rangesA] at h
  | .seq a b, hc, r, h => by
    simp only [ACode.clean, Bool.and_eq_true] at hc
    simp only [rangesA, List.mem_append] at h
    rcases h with h | h
    · exact ranges_clean a hc.1 r h
    · exact ranges_clean b hc.2 r h
  | .cond _ a b, hc, r, h => by
    simp only [ACode.clean, Bool.and_eq_true] at hc
    simp only [rangesA, List.mem_append] at h
    rcases h with h | h
    · exact ranges_clean a hc.2.1 r h
    · exact ranges_clean b hc.2.2 r h
  | .block _ b, hc, r, h => ranges_clean b hc r (by simpa [rangesA] using h)
  | .loop _ _ b, hc, r, h => ranges_clean b hc r (by simpa [rangesA] using h)
  | .fresh _ b, hc, r, h => ranges_clean b hc r (by simpa [rangesA] using h)
  | .rangeF _ ps a b _ _ _, hc, r, h => by
    simp only [ACode.clean, Bool.and_eq_true] at hc
    simp only [rangesA, List.mem_cons, List.mem_append] at h
    rcases h with rfl | h | h
    · exact hc.2
    · exact ranges_clean a hc.2.1 r h
    · exact ranges_clean b hc.2.2 r h
def cleanP (p : AProg) : Bool := p.all fun | some f => f.body.clean | none => true
theorem cleanP_get {p : AProg} (h : cleanP p = true) {f : FuncId} {af : AFunc} (hf : p[f]? = some (some af)) : af.body.clean = true := by
  have := List.all_eq_true.1 h _ (List.mem_of_getElem? hf)
  exact this
theorem mapM_shutF {f : V → Option V} (hf : ∀ a b, f a = some b → b.free = true) : ∀ {l l' : List V}, l.mapM f = some l' → V.freeL l' = true
  | [], l', h => by simp at h; subst h; rfl
  | x :: l, l', h => by
    simp only [List.mapM_cons, Option.bind_eq_bind, Option.bind_eq_some_iff, Option.pure_def, Option.some.injEq] at h
    obtain ⟨y, hy, l2, hl, rfl⟩ := h
    simp only [V.freeL, hf _ _ hy, mapM_shutF hf hl, Bool.and_self]
theorem shut_is_free {get : Nat → Option Ob} : ∀ (d : Nat) (v v' : V), V.shut get d v = some v' → v'.free = true
  | 0, v, v', h => by simp [V.shut] at h
  | d + 1, v, v', h => by
    have ih := shut_is_free (get := get) d
    unfold V.shut at h
    split at h
    · rename_i hf; cases h; exact hf
    split at h
    · split at h
      · split at h
        · rename_i cs hm
          split at h
          · cases h
            have hfr := mapM_shutF ih hm
            refine freeL_of fun c hc => ?_
            obtain ⟨i, -, rfl⟩ := List.mem_map.1 hc
            refine wrapV_free fun c hc => ?_
            exact freeL_mem hfr c (List.mem_of_mem_drop (List.mem_of_mem_take hc))
          · cases h
        · cases h
      · cases h
    · split at h <;> cases h; rfl
    · simp only [Option.map_eq_some_iff] at h; obtain ⟨cs, hm, rfl⟩ := h; exact mapM_shutF ih hm
    · simp only [Option.map_eq_some_iff] at h; obtain ⟨cs, hm, rfl⟩ := h; exact mapM_shutF ih hm
    · simp only [Option.map_eq_some_iff] at h; obtain ⟨x, hm, rfl⟩ := h; show x.free = true; exact ih _ _ hm
    · split at h
      · simp only [Option.map_eq_some_iff] at h; obtain ⟨cs, hm, rfl⟩ := h; exact mapM_shutF ih hm
      · cases h
    · split at h
      · rename_i xs' ys' h1 h2
        cases h
        show (V.freeL xs' && V.freeL ys') = true
        rw [mapM_shutF ih h1, mapM_shutF ih h2]; rfl
      · cases h
    · cases h
mutual
theorem plain_free : ∀ (v : V), v.plain = true → v.free = true
  | .bool _, _ | .int .., _ | .str _, _ | .nilp, _ | .nils, _ | .nilm, _ | .nilf, _ | .nili, _ => rfl
  | .agg cs, h => plainL_free cs (by simpa [V.plain] using h)
  | .tup cs, h => plainL_free cs (by simpa [V.plain] using h)
  | .iface _ v, h => plain_free v (by simpa [V.plain] using h)
  | .junk, h | .ptr .., h | .iptr .., h | .view .., h | .vend .., h | .sl .., h | .map .., h | .func .., h | .yld .., h => by simp [V.plain] at h
  termination_by structural v => v
theorem plainL_free : ∀ (l : List V), V.plainL l = true → V.freeL l = true
  | [], _ => rfl
  | v :: l, h => by
    simp only [V.plainL, Bool.and_eq_true] at h
    simp only [V.freeL, plain_free v h.1, plainL_free l h.2, Bool.and_self]
  termination_by structural l => l
end
theorem resA_in {get : Nat → Option Ob} (hg : InG S get) {t : List V} (ht : InL S t) : ∀ {rs : List ARes} {vs : List V}, resA get t rs = some vs → InL S vs
  | [], vs, h => by simp [resA] at h; subst h; exact inL_nil
  | r :: rs, vs, h => by
    simp only [resA] at h
    split at h
    · rename_i v vs' h1 h2
      cases h
      refine .cons ?_ (resA_in hg ht h2)
      have hd : ∀ i, InV S (t.getD i .junk) := fun i => by
        have := inV_ev (S := S) ht (x := .tmp i) rfl
        exact this
      cases r with
      | tmp i => simp only [resA1, Option.some.injEq] at h1; subst h1; exact hd i
      | cell i ag =>
        simp only [resA1, Option.bind_eq_some_iff] at h1
        obtain ⟨cs, hl, hp⟩ := h1
        exact inV_pack (inL_loadA hg (hd i) hl) hp
    · cases h
theorem packR_in {vs : List V} (h : InL S vs) : InV S (packR vs) := by
  unfold packR
  split
  · exact h _ (by simp)
  · exact .tup h
include hS in
theorem bodyA_in {p : AProg} (hp : cleanP p = true) {call : Caller} (hcall : CallIn S n0 call) {N fb : Nat} (hfb : n0 ≤ fb) {f : FuncId} {fn : AFunc} (hfn : p[f]? = some (some fn)) {args : List V} {h : Heap} (ha : InL S args) (H : Good S n0 h) {v : V} {h' : Heap}
    (hr : bodyA p call N fb fn args h = some (v, h')) : InV S v ∧ Good S n0 h' := by
  have hc := cleanP_get hp hfn
  have ht : InL S (args ++ List.replicate (fn.nt - args.length) .junk) := ha.app fun v hv => by
    rw [List.eq_of_mem_replicate hv]; exact inV_nil rfl
  unfold bodyA at hr
  split at hr
  · rename_i t1 h1 he
    split at hr
    · rename_i vs hres
      cases hr
      obtain ⟨q1, q2⟩ := exec_in hS hcall _ hc hfb ht H he
      exact ⟨packR_in (resA_in q2.names q1 hres), q2⟩
    · cases hr
  · rename_i t1 h1 he
    split at hr
    · rename_i vs hres
      cases hr
      obtain ⟨q1, q2⟩ := exec_in hS hcall _ hc hfb ht H he
      exact ⟨packR_in (resA_in q2.names q1 hres), q2⟩
    · cases hr
  · cases hr
theorem setPs_in : ∀ (ps : List Nat) (xs : List V) {t : List V}, InL S t → InL S xs → InL S (setPs ps xs t)
  | [], xs, t, ht, _ => by simp [setPs]; exact ht
  | p :: ps, [], t, ht, _ => by simp [setPs]; exact ht
  | p :: ps, x :: xs, t, ht, hx => by
    have := setPs_in ps xs (ht.put (d := some p) (hx x (by simp))) (fun v hv => hx v (by simp [hv]))
    simpa [setPs, put] using this
include hS in
theorem yieldA_in {p : AProg} (hp : cleanP p = true) {call : Caller} (hcall : CallIn S n0 call) {N : Nat} {args : List V} {h : Heap} (ha : InL S args) (H : Good S n0 h) {v : V} {h' : Heap} (hr : yieldA p call N args h = some (v, h')) : InV S v ∧ Good S n0 h' := by
  unfold yieldA at hr
  split at hr
  case h_2 => cases hr
  rename_i o ver xs
  split at hr
  case h_2 => cases hr
  rename_i v0 st0 pd0 t fb f k hx
  have hfb := H.base _ _ _ _ _ _ _ _ hx
  have ht : InL S t := inL_iff.2 fun i hi => H.names o _ hx i hi
  split at hr
  case isFalse => cases hr
  split at hr
  case h_2 => cases hr
  rename_i af haf
  split at hr
  case h_2 => cases hr
  rename_i ps asn body hrg
  obtain ⟨c1, c2⟩ := ranges_clean _ (cleanP_get hp haf) _ (List.mem_of_getElem? hrg)
  split at hr
  case isFalse => cases hr
  split at hr
  case h_2 => cases hr
  rename_i t1 h1 he
  obtain ⟨q1, q2⟩ := exec_in hS hcall _ c1 hfb (setPs_in ps xs ht (fun v hv => ha v (by simp [hv]))) H he
  split at hr
  case h_2 => cases hr
  rename_i v1 p1 t2 fb2 f2 k2 hx1
  split at hr
  case isFalse => cases hr
  split at hr
  case h_2 => cases hr
  rename_i x t1' h2 he2
  obtain ⟨q3, q4⟩ := exec_in hS hcall _ c2 hfb q1 (q2.set (x := ⟨ver, .loop 1 p1 t2 fb2 f2 k2⟩) (fun i hi => q2.names o _ hx1 i hi) (fun st pd t' fb' f' k' e => by cases e; exact q2.base _ _ _ _ _ _ _ _ hx1)) he2
  split at hr
  case h_2 => cases hr
  rename_i v2 st2 pd2 t3 fb3 f3 k3 hx2
  split at hr
  case isFalse => cases hr
  have fin : ∀ st pd, Good S n0 (h2.set o ⟨ver, .loop st pd t3 fb3 f3 k3⟩) := fun st pd => q4.set (fun i hi => q4.names o _ hx2 i hi) (fun st pd t' fb' f' k' e => by cases e; exact q4.base _ _ _ _ _ _ _ _ hx2)
  split at hr <;> (cases hr; exact ⟨inV_nil rfl, fin _ _⟩)
include hS in
theorem callA_in {p : AProg} (hp : cleanP p = true) (N : Nat) : ∀ n, CallIn S n0 (callA p N n)
  | 0, f, args, h, v, h', _, _, hr => by simp [callA] at hr
  | n + 1, f, args, h, v, h', ha, H, hr => by
    have ih := callA_in hp N n
    unfold callA at hr
    split at hr
    · exact yieldA_in hS hp ih ha H hr
    split at hr
    case h_2 => cases hr
    rename_i fn hfn
    split at hr
    case isFalse => cases hr
    have keep : ∀ {v h'}, bodyA p (callA p N n) N h.length fn args (h ++ deads fn.sites) = some (v, h') → InV S v ∧ Good S n0 h' := fun hr => bodyA_in hS hp ih H.len hfn ha (H.app _) hr
    have shut : ∀ {v h'}, (match bodyA p (callA p N n) N 0 fn args (deads fn.sites) with | some (v, h') => (match V.shut (fun o => h'[o]?) sealDepth v with | some v' => some (v', h) | none => none) | none => none) = some (v, h') → InV S v ∧ Good S n0 h' := by
      intro v h' hr
      split at hr
      · split at hr
        · rename_i v' hs
          cases hr
          exact ⟨inV_free (shut_is_free _ _ _ hs), H⟩
        · cases hr
      · cases hr
    cases hmode : fn.mode with
    | keep => simp only [hmode] at hr; exact keep hr
    | auto =>
      simp only [hmode] at hr
      split at hr
      · exact shut hr
      · exact keep hr
    | pure =>
      simp only [hmode] at hr
      split at hr
      · exact shut hr
      · cases hr
    | look =>
      simp only [hmode] at hr
      split at hr
      · split at hr
        · split at hr
          · rename_i hpl
            cases hr
            exact ⟨inV_free (plain_free _ hpl), H⟩
          · cases hr
        · cases hr
      · cases hr
end
theorem frame_all {m : FMode} {p : AProg} (hp : cleanP p = true) {N n : Nat} {f : FuncId} {args : List V} {h h1 : Heap} {v : V} {R : List Nat} (hm : pureOf p f = m) (hk : m = .keep ∨ m = .auto) (hR : reachC h (V.objsL args) = R)
    (hcl : ∀ o ∈ R, ∀ y, h[o]? = some y → (∀ i ∈ y.bd.objs, i ∈ R) ∧ y.bd.plainBd = true) (hc : callA p N n f args (keepOnly R h) = some (v, h1)) (hy : f ≠ YLD := by decide) :
    frameC (pureOf p) (callA p N n) f args h = some (v, mergeH R h h1) ∧ h.length ≤ h1.length := by
  have hRs := reachC_sub h (V.objsL args)
  rw [hR] at hRs
  have G0 : Good (fun i => i ∈ R ∨ h.length ≤ i) h.length (keepOnly R h) := by
    refine ⟨fun o x hx i hi => ?_, fun o v st pd t fb f k hx => ?_, by rw [keepOnly_length]; exact Nat.le_refl _⟩
    · simp only at hx
      rw [keepOnly_get] at hx
      simp only [Option.map_eq_some_iff] at hx
      obtain ⟨y, hy', rfl⟩ := hx
      split at hi
      · rename_i hcn
        exact .inl ((hcl o (by simpa using hcn) y hy').1 i hi)
      · cases hi
    · rw [keepOnly_get] at hx
      simp only [Option.map_eq_some_iff] at hx
      obtain ⟨y, hy', hx⟩ := hx
      split at hx
      · rename_i hcn
        subst hx
        have := (hcl o (by simpa using hcn) _ hy').2
        cases this
      · cases hx
  obtain ⟨q1, q2⟩ := callA_in (S := fun i => i ∈ R ∨ h.length ≤ i) (n0 := h.length) (fun i hi => .inr hi) hp N n f args _ _ _ (inL_iff.2 fun o ho => .inl (hRs o ho)) G0 hc
  refine ⟨frame_gen hm hk hR (fun o ho y hy' => (hcl o ho y hy').1) hc q2.len q1 (fun o y hy' _ => q2.names o y hy') hy, q2.len⟩
end Go.Am


set_option linter.unusedVariables false
set_option linter.unusedSimpArgs false
set_option maxRecDepth 10000
namespace Go.Am.T
attribute [local congr] selV_congr impB_congr
theorem not_rej' {sr sx : Ses} {nr k : Nat} {seq ack : Int} (hv : sx.view = sr.view) (h1 : sx.me = sr.other) (h2 : sx.other = sr.me) (hs0 : 0 ≤ seq) (hs1 : seq ≤ 4611686018427387904) (ha0 : 0 ≤ ack) (ha1 : ack ≤ sr.first + (nr : Int) - 1) (hk : k ≤ 256) (hz : seq = 0 → k = 0) :
    rejD sr nr ⟨sx.me, sx.other, sx.view, seq, ack⟩ k = false := by
  unfold rejD
  simp only [h1, h2, hv, bne_self_eq_false, Bool.false_or, Bool.or_eq_false_iff, decide_eq_false_iff_not, Bool.and_eq_false_iff, beq_eq_false_iff_ne, ne_eq]
  refine ⟨by omega, by omega, by omega, by omega, by omega, ?_⟩
  by_cases h : seq = 0
  · exact .inr (by have := hz h; omega)
  · exact .inl h
def cameS (s : Ses) (seq ack : Int) : Ses := { s with first := max s.first (ack + 1), owes := s.owes || !(seq == 0), got := if seq = s.got + 1 then s.got + 1 else s.got }
theorem come_came {s : Ses} {n k : Nat} {d : Dg} (hr : rejD s n d k = false) (hg : 0 ≤ s.got) : comeS s n d k = cameS s d.seq d.ack ∧ comeK s n d k = ((max s.first (d.ack + 1)) - s.first).toNat ∧ comeB s n d k = decide (d.seq = s.got + 1) := by
  have e1 : comeS s n d k = seqS (ackS s d) d := by simp only [comeS, hr, cond_false]
  have e2 : comeK s n d k = bif decide (d.ack ≥ s.first) then (d.ack - s.first + 1).toNat else 0 := by simp only [comeK, hr, cond_false]
  have e3 : comeB s n d k = (!(d.seq == 0) && !(d.seq != s.got + 1)) := by simp only [comeB, hr, Bool.not_false, Bool.true_and]
  have A : ackS s d = { s with first := max s.first (d.ack + 1) } := by
    unfold ackS
    cases y : decide (d.ack ≥ s.first) with
    | true => have := of_decide_eq_true y; simp only [cond_true]; rw [Int.max_eq_right (by omega)]
    | false => have := of_decide_eq_false y; simp only [cond_false]; rw [Int.max_eq_left (by omega)]
  refine ⟨?_, ?_, ?_⟩
  · rw [e1, A]
    unfold seqS cameS
    cases z1 : (d.seq == 0) with
    | true =>
      have : d.seq = 0 := by simpa using z1
      simp only [cond_true, Bool.not_true, Bool.or_false, this]
      rw [if_neg (by omega)]
    | false =>
      cases z2 : (d.seq != s.got + 1) with
      | true =>
        have : d.seq ≠ s.got + 1 := by simpa using z2
        simp only [cond_true, cond_false, Bool.not_false, Bool.or_true, z2]
        rw [if_neg this]
      | false =>
        have : d.seq = s.got + 1 := by simpa using z2
        simp only [cond_false, Bool.not_false, Bool.or_true, z2]
        rw [if_pos this]
  · rw [e2]
    cases y : decide (d.ack ≥ s.first) with
    | true => have := of_decide_eq_true y; simp only [cond_true]; omega
    | false => have := of_decide_eq_false y; simp only [cond_false]; omega
  · rw [e3]
    by_cases h : d.seq = s.got + 1
    · have : d.seq ≠ 0 := by omega
      simp [h]; omega
    · simp [h]
theorem End.come' {sx sr : Ses} {nx nr : Nat} {sentx outx sentr outr : List (List Int)} (hx : End sx nx sentx outx outr.length) (hr : End sr nr sentr outr outx.length)
    (hv : sx.view = sr.view) (h1 : sx.me = sr.other) (h2 : sx.other = sr.me) {seq ack : Int} {l : List Int} (hl : l.length ≤ 256) (ha0 : 0 ≤ ack) (ha1 : ack ≤ outx.length)
    (hq : seq = 0 ∧ l = [] ∨ 1 ≤ seq ∧ seq ≤ sentx.length ∧ sentx[(seq - 1).toNat]? = some l) (hp : ∃ r, sentx = outr ++ r) :
    rejD sr nr ⟨sx.me, sx.other, sx.view, seq, ack⟩ l.length = false ∧ ∃ outr', End (cameS sr seq ack) (nr - comeK sr nr ⟨sx.me, sx.other, sx.view, seq, ack⟩ l.length) sentr outr' outx.length ∧
      (∃ r, sentx = outr' ++ r) ∧ outr.length ≤ outr'.length ∧ outr'.length ≤ sentx.length ∧
      outr' = (if seq = (outr.length : Int) + 1 then outr ++ [l] else outr) := by
  obtain ⟨x1, x2, x3, x4, x5, x6⟩ := hx
  obtain ⟨r1, r2, r3, r4, r5, r6⟩ := hr
  have hs : 0 ≤ seq ∧ seq ≤ 80 := by rcases hq with ⟨h, -⟩ | ⟨h, h', -⟩ <;> omega
  have hrej : rejD sr nr ⟨sx.me, sx.other, sx.view, seq, ack⟩ l.length = false := not_rej' hv h1 h2 hs.1 (by omega) ha0 (by omega) hl (fun hz => by
    rcases hq with ⟨-, h⟩ | ⟨h, -⟩
    · rw [h]; rfl
    · omega)
  obtain ⟨c1, c2, c3⟩ := come_came hrej (by omega)
  obtain ⟨rest, hrest⟩ := hp
  refine ⟨hrej, _, ?_, ?_, ?_, ?_, rfl⟩
  · rw [c2]
    refine ⟨?_, ?_, ?_, r4, ?_, r6⟩
    · show 1 ≤ max sr.first (ack + 1); omega
    · show max sr.first (ack + 1) - 1 + _ = _
      have : (max sr.first (ack + 1) - sr.first).toNat ≤ nr := by omega
      simp only at *
      omega
    · show max sr.first (ack + 1) - 1 ≤ _; omega
    · show (if seq = sr.got + 1 then sr.got + 1 else sr.got) = _
      rw [r5]
      split <;> simp
  all_goals split
  · rename_i hz
    rcases hq with ⟨h, -⟩ | ⟨q1, q2, q3⟩
    · omega
    · have hidx : (seq - 1).toNat = outr.length := by omega
      rw [hidx, hrest, List.getElem?_append_right (Nat.le_refl _), Nat.sub_self] at q3
      obtain ⟨rest', rfl⟩ : ∃ rest', rest = l :: rest' := by
        cases rest with
        | nil => simp at q3
        | cons a t => simp at q3; exact ⟨t, by rw [q3]⟩
      exact ⟨rest', by rw [hrest]; simp⟩
  · exact ⟨rest, hrest⟩
  · simp
  · exact Nat.le_refl _
  · simp only [List.length_append, List.length_cons, List.length_nil]; omega
  · omega
theorem duo_come' {N n : Nat} (hn : 4 ≤ n) {H : Heap} {w k : Nat} (hk : k < 2) {on : V} {a c : Nat} {sa sc : Ses} {sent sent' out out' : List (List Int)} {S T O U : V} {R R' : List Nat} (D : Duo H w k on a c sa sc sent sent' out out' S T O U R R')
    {seq ack : Int} {l : List Int} {b : V} (hb : By l b) (hl : l.length ≤ 256) (ha0 : 0 ≤ ack) (ha1 : ack ≤ out.length) (hq : seq = 0 ∧ l = [] ∨ 1 ≤ seq ∧ seq ≤ sent.length ∧ sent[(seq - 1).toNat]? = some l) :
    ∃ v' h', callA am N n 13 [.ptr w 1 0, .agg ((⟨sa.me, sa.other, sa.view, seq, ack⟩ : Dg).cs b)] H = some (v', h') ∧ H.length ≤ h'.length ∧ (∀ o, o < H.length → o ≠ w → o ∉ R' → h'[o]? = H[o]?) ∧
      ∃ out1 U1 R1, Duo h' w k on a c sa (cameS sc seq ack) sent sent' out out1 S T O U1 R R1 ∧ (∀ o ∈ R1, o ∈ R' ∨ H.length ≤ o) ∧ out'.length ≤ out1.length ∧
        out1 = (if seq = (out'.length : Int) + 1 then out' ++ [l] else out') := by
  obtain ⟨L, W, Rc, LS, RS, LO, RO, hS, hB, hSr, hEl, hO, hBo, hE, hRs, hnd⟩ := D.far.all
  obtain ⟨L0, W0, Rc0, LS0, RS0, LO0, RO0, hS0, hB0, hSr0, hEl0, hO0, hBo0, hE0, hRs0, hnd0⟩ := D.near.all
  have hol : out'.length ≤ 80 := by
    obtain ⟨r, hr⟩ := D.pre'
    have := hE0.most
    rw [hr] at this
    simp at this
    omega
  have hok : sc.Ok L.length := hE.ok hol
  have hLol : LO.length ≤ 1000 := by have := hBo.1; omega
  have sep : Sep w c Rc RO := sep_of (by rw [← hRs]; exact D.wR') (by rw [← hRs]; exact hnd)
  obtain ⟨v', h', hcall, U', Lo', Ro', hw', hct⟩ := come_far hn hk D.ob hS hok hO hLol sep ⟨sa.me, sa.other, sa.view, seq, ack⟩ hb (by show sa.other = _; exact D.other)
  obtain ⟨hrej, out1, e1, e2, e3, e4, e5⟩ := hE0.come' hE (D.view) (by rw [D.me, D.other']) (by rw [D.other, D.me']) hl ha0 ha1 hq D.pre'
  obtain ⟨c1, c2, c3⟩ := come_came hrej (by have := hE.got; omega)
  obtain ⟨W', hses⟩ := hct.ses
  rw [c1] at hses
  have oth := hct.oth
  have rlt := D.far.lt
  have rlt0 := D.near.lt
  have rnd := hct.row.nodup
  have hnd' : (c :: (Rc ++ (RS ++ (V.objsL LS ++ Ro')))).Nodup := nodup_come (by rw [← hRs]; exact hnd) (by rw [← hRs]; exact rlt) hct.new rnd
  have hwl := lt_of_get D.ob
  have keepR : ∀ o, o < H.length → o ≠ w → o ∉ R' → h'[o]? = H[o]? := fun o h1 h2 h3 => by
    rw [hRs] at h3
    simp only [List.mem_append, List.mem_cons, not_or] at h3
    exact oth o h1 h2 h3.1 h3.2.1 h3.2.2.2.2
  have hnew : ∀ o ∈ c :: (Rc ++ (RS ++ (V.objsL LS ++ Ro'))), o ∈ R' ∨ H.length ≤ o := fun o ho => by
    rw [hRs]
    exact mem_new hct.new o ho
  have hw2 := wait_come (n := L.length) (d := ⟨sa.me, sa.other, sa.view, seq, ack⟩) (k := l.length) hE.f0 hB
  rw [c1] at hw2
  refine ⟨v', h', hcall, hct.len, keepR, out1, U', c :: (Rc ++ (RS ++ (V.objsL LS ++ Ro'))), ?_, hnew, e3, e5⟩
  have inR : ∀ o, o ∈ RS ++ V.objsL LS → o < H.length ∧ o ≠ w ∧ o ≠ c ∧ o ∉ Rc ∧ o ∉ RO := fun o ho => by
    exact mem_mid (by rw [← hRs]; exact D.wR') (by rw [← hRs]; exact hnd) (by rw [← hRs]; exact rlt) o ho
  have k2 : ∀ o ∈ RS ++ V.objsL LS, h'[o]? = H[o]? := fun o ho => by
    obtain ⟨a1, a2, a3, a4, a5⟩ := inR o ho
    exact oth o a1 a2 a3 a4 a5
  refine ⟨hw', ⟨L0, W0, Rc0, LS0, RS0, LO0, RO0, ?_, hB0, ?_, ?_, ?_, hBo0, hE0.grow e3 e4, hRs0, hnd0⟩, ⟨L.drop _, W', Rc, LS, RS, Lo', Ro', hses, hw2, hSr.keep (fun o ho => k2 o (by simp [ho])), hEl.keep (fun o ho => k2 o (by simp [ho])), hct.row, ?_, by rw [List.length_drop]; exact e1, rfl, hnd'⟩, D.wR, ?_, ?_, D.me, D.other, D.me', D.other', D.view, D.pre, e2, D.told, D.told'⟩
  · have near : ∀ o ∈ R, h'[o]? = H[o]? := fun o ho => keepR o (rlt0 o ho) (fun e => D.wR (e ▸ ho)) (D.apart o ho)
    rw [hRs0] at near
    exact ⟨by rw [near a (by simp)]; exact hS0.ob, hS0.row.keep (fun o ho => near o (by simp [ho])), hS0.bods, hS0.apart⟩
  · exact hSr0.keep fun o ho => keepR o (rlt0 o (by rw [hRs0]; simp [ho])) (fun e => D.wR (by rw [hRs0, ← e]; simp [ho])) (D.apart o (by rw [hRs0]; simp [ho]))
  · exact hEl0.keep fun o ho => keepR o (rlt0 o (by rw [hRs0]; simp [ho])) (fun e => D.wR (by rw [hRs0, ← e]; simp [ho])) (D.apart o (by rw [hRs0]; simp [ho]))
  · exact hO0.keep fun o ho => keepR o (rlt0 o (by rw [hRs0]; simp [ho])) (fun e => D.wR (by rw [hRs0, ← e]; simp [ho])) (D.apart o (by rw [hRs0]; simp [ho]))
  · have hgot := hE.got
    rw [e5]
    rcases hct.out with ⟨rfl, hf⟩ | ⟨b', hb', rfl, ht⟩
    · rw [c3] at hf
      have : ¬ seq = (out'.length : Int) + 1 := by have := of_decide_eq_false hf; simp only at this; omega
      rw [if_neg this]; exact hBo
    · rw [c3] at ht
      have : seq = (out'.length : Int) + 1 := by have := of_decide_eq_true ht; simp only at this; omega
      rw [if_pos this]; exact hBo.snoc hb' hl
  · intro h
    rcases hnew w h with h | h
    · exact D.wR' h
    · omega
  · intro o ho h
    rcases hnew o h with h | h
    · exact D.apart o ho h
    · have := rlt0 o ho; omega
end Go.Am.T

