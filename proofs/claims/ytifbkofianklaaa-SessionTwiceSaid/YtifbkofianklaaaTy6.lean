import Derived.Test.YtifbkofianklaaaTy5
set_option linter.unusedVariables false
set_option linter.unusedSimpArgs false
set_option maxRecDepth 10000
namespace Go.Am.T
attribute [local congr] selV_congr impB_congr

/-- One of them. -/
theorem WRow.cell {H : Heap} {W : V} {L : List V} {R : List Nat} (h : WRow H W L R) {i : Nat} {b : V} (hi : L[i]? = some b) :
    ∃ o ver off cs, iaddrSA 1 W (.int .i64 i) = some (.ret (.ptr o ver off)) ∧ H[o]? = some ⟨ver, .arr cs⟩ ∧ off + 1 ≤ cs.length ∧ List.take 1 (List.drop off cs) = [b] ∧ R = [o] := by
  have hlt := (List.getElem?_eq_some_iff.1 hi).1
  rcases h with ⟨rfl, rfl, rfl⟩ | ⟨o, ver, x, rfl, ho, ⟨rfl, rfl⟩ | ⟨hne, rfl⟩, hx⟩
  · simp at hi
  · simp at hi
  · refine ⟨o, ver, x.length + i * 1, x ++ L, ?_, ho, ?_, ?_, rfl⟩
    · simp [iaddrSA, indexedI, hlt]
    · simp; omega
    · rw [Nat.mul_one, List.drop_append, List.drop_eq_nil_of_le (by omega), List.nil_append, show x.length + i - x.length = i by omega]
      rw [List.drop_eq_getElem_cons hlt]
      have := (List.getElem?_eq_some_iff.1 hi).2
      simp [this]

/-- A session behind a telling. -/
def toldS (s : Ses) (n : Nat) : Ses := { s with told := s.first + n - 1, owes := false }

/-- The datagrams that are told: those of the waiting ones from a number on, or one of none, if an answer is owed. -/
structure Tells (s : Ses) (L : List V) (from_ : Int) (C : List (List V)) : Prop where
  six : Cells6 C
  len : C.length ≤ L.length + 1
  told : ∃ C', TD s L (tellI s.first from_ L.length) C' ∧ ((C = C' ∧ (C' = [] → s.owes = false)) ∨ (C' = [] ∧ s.owes = true ∧ ∃ b, By [] b ∧ C = [dgS s 0 b]))

set_option maxHeartbeats 2000000 in
theorem tell_spec {N n : Nat} (hN : 1500 ≤ N) (hn : 3 ≤ n) {a : Nat} {s : Ses} {W : V} {L : List V} {R : List Nat} {h : Heap} (ha : SAt h a s L W R) (from_ : Int) (f0 : 1 ≤ s.first) (f1 : s.first + L.length ≤ 2000) (hL : L.length ≤ 1000) :
    ∃ v' h', callA am N n 24 [.ptr a 1 0, .int .i64 from_] h = some (v', h') ∧ SAt h' a (toldS s L.length) L W R ∧ Beyond h h' a R R ∧ ∃ C, DRow h.length h' v' C ∧ Tells s L from_ C := by
  obtain ⟨n, rfl⟩ : ∃ m, n = m + 1 := ⟨n - 1, by omega⟩
  have hal := lt_of_get ha.ob
  obtain ⟨h0, e0⟩ : ∃ h0, h0 = h ++ [(⟨1, .var [.ptr a 1 0]⟩ : Ob), ⟨0, .dead⟩, ⟨0, .dead⟩] := ⟨_, rfl⟩
  have e0' := e0.symm
  have l0 : h0.length = h.length + 3 := by rw [e0]; simp
  have x0 : ∀ o, o < h.length → h0[o]? = h[o]? := fun o ho => by rw [e0, List.getElem?_append_left ho]
  have hp0 : h0[h.length]? = some ⟨1, .var [.ptr a 1 0]⟩ := by rw [e0, app_get0]; rfl
  have ha0 : SAt h0 a s L W R := by rw [e0]; exact ha.app _
  have q3 : ∀ (s : Ses) (W : V), (s.cs W).length = 9 := fun _ _ => rfl
  have t4 : ∀ (s : Ses) (W : V), List.take 1 (List.drop 4 (s.cs W)) = [W] := fun _ _ => rfl
  have t5 : ∀ (s : Ses) (W : V), List.take 1 (List.drop 5 (s.cs W)) = [.int .i64 s.first] := fun _ _ => rfl
  have t8 : ∀ (s : Ses) (W : V), List.take 1 (List.drop 8 (s.cs W)) = [.bool s.owes] := fun _ _ => rfl
  have oa0 := ha0.ob
  have hlW := ha.row.len
  obtain ⟨v1, v2, v3, v4, v5, v6⟩ := ha.row.shape
  have hlt0 : h.length < h0.length := by omega
  refine call_keep at24 rfl rfl (by decide) (sx_wp ?_)
  simp +contextual -implicitDefEqProofs (maxSteps := 10000000) only [sx_seq, sxL_succ, lpQ_norm, lpQ_exit, lpQ_ret, loopQ_norm, loopQ_exit, loopQ_ret, sqQ_norm, sqQ_ret, sqQ_exit, sx_block, blkQ_norm, blkQ_exit, blkQ_ret, sx_cond, cdP_true, cdP_false, cdP_bool, sx_region, sx_draw, plainD, List.all_cons, List.all_nil, List.isEmpty_nil, List.isEmpty_cons, sxo_nil, sxo_cons, sxo_guard, gdS_bool, gdS_eff, gdS_tup, gdS_sel, gdS_seleff, sxK_def, wcall_some, effP_ret, effP_set, effP_none, effP_ite, wop_call, wop_cv, cvP_func, sx_ret, sx_exit, sx_skip, sx_clr, stays, ↓selV_wt, ↓selV_wf, ↓impB_wt, ↓impB_wf, ↓selV_nor, ↓impB_nor, ↓selV_nt, ↓selV_nf, ↓impB_nt, ↓impB_nf, wantB_true, wantB_false, ↓selV_true, ↓selV_false, ↓selV_and, ↓impB_true, ↓impB_false, ↓impB_and, impB_triv, valOf_some, retH_some, ↓prim_pick, pickO_true, pickO_false, pickO_and, pickO_or, pickO_andr, pickO_orr, pickO_orrn, pickO_orn, pickO_bb, pickAnd_bool, pickOr_bool, ↓selV_nn, ↓impB_nn, Bool.and_assoc, Bool.or_assoc, doOp, ev_fr, ev_cst, put_none, put_fr, get, ins, del, dels, Nat.reduceLT, Nat.reduceEqDiff, ↓reduceIte, reduceCtorEq, ne_eq, not_false_eq_true, implies_true, framed_pureF, framed_fb, framed_N, framed_pure, wop_prim, prim, YLD, mkA, V.cells, List.getElem?_cons_zero, List.getElem?_cons_succ, List.set_cons_zero, List.set_cons_succ, Nat.zero_add, Nat.add_zero, Nat.reduceAdd, Nat.reduceSub, Nat.reduceMul, Nat.reduceLeDiff, Nat.not_lt_zero, List.map_cons, List.map_nil, List.cons_append, List.nil_append, loadA, cellsAt, nAg, packA, opt_bind_some, opt_map_some, opt_bind_none, opt_map_none, List.drop, List.take, List.head?, List.length_cons, List.length_nil, binA, unA, eqCells, eqCell, negB, fillA, sr_nil, sr_cons, sr_succ, sr_all, sr_len, storeA, Ob.with, indexedI, V.oneCell, intOf?, retQ_ret, retQ_norm, resA, resA1, fr_getD, packR, sealDepth, shut_bool, shut_int, Option.some.injEq, V.bool.injEq, V.int.injEq, Bool.not_true, Bool.not_false, true_and, and_true, and_self, Bool.and_true, Bool.and_false, Bool.true_and, Bool.false_and, Bool.or_true, Bool.or_false, Bool.true_or, Bool.false_or, Bool.false_eq_true, Int.reduceLT, Int.reduceLE, Int.reduceToNat, Int.reduceNeg, shut_plain, freeL_cons, freeL_nil, free_int, free_bool, free_agg, free_str, free_nils, free_tup, free_sl, true_implies, false_implies, Nat.sub_zero, Int.natCast_nonneg, Int.toNat_natCast, Nat.le_refl, not_true_eq_false, Int.reduceAdd, Int.reduceSub, Int.reduceMul, wrap64, false_and, and_false, cond_true, cond_false, Bool.cond_true_left, Bool.cond_false_right, Int.reduceBNe, Int.reduceBEq, decide_true, decide_false, Int.cast_ofNat_Int, Nat.mul_one, eq_self, Bool.true_eq_false, Bool.not_eq_true, Bool.not_eq_false, deads, List.replicate, argsF, am24, app_get0, app_get, app_set0, app_set, e0', hp0, oa0, q3, t4, v1, v2, hlW, isNil, -List.drop, -List.take]
  have hbx : ∀ H : Heap, H[h.length]? = some ⟨1, .var [.ptr a 1 0]⟩ → h.length < H.length := fun H hH => lt_of_get hH
  refine sx_loop (fun i t H => ∃ sl C, t = fr 70 [(1, .int .i64 from_), (2, .ptr h.length 1 0), (5, .func 27 [] [.ptr h.length 1 0]), (6, sl), (14, W), (15, .int .i64 L.length), (16, .int .i64 i)] ∧ i ≤ L.length ∧ SAt H a s L W R ∧ H[h.length]? = some ⟨1, .var [.ptr a 1 0]⟩ ∧ DRow (h.length + 1) H sl C ∧ TD s L (tellI s.first from_ i) C ∧ h.length + 3 ≤ H.length ∧ ∀ o, o < h.length → H[o]? = h[o]?) L.length (by show L.length < N; omega)
    ⟨.nils, [], rfl, Nat.zero_le _, ha0, hp0, .inl ⟨rfl, rfl⟩, .nil, by omega, x0⟩ ?_
  rintro i t H hi ⟨sl, C, rfl, hiL, haH, hpH, hD, hTD, hHl, hoth⟩
  have oaH := haH.ob
  have hCl := hTD.len
  have hCl2 := tellI_len s.first from_ i
  by_cases hlt : i < L.length
  · have g1 : decide ((i : Int) < (L.length : Int)) = true := decide_eq_true (by omega)
    obtain ⟨b, hbi⟩ : ∃ b, L[i]? = some b := ⟨_, List.getElem?_eq_getElem hlt⟩
    obtain ⟨l, hb, hl⟩ := ha.bods b (List.mem_of_getElem? hbi)
    obtain ⟨o, ver, off, cs, hia, hoc, hle, hld, hRo⟩ := haH.row.cell hbi
    have wf : IntKind.i64.wrap (s.first + (i : Int)) = s.first + (i : Int) := wrap64 (by omega) (by omega)
    have w4 : IntKind.i64.wrap ((i : Int) + 1) = ((i + 1 : Nat) : Int) := (wrap64 (by omega) (by omega)).trans (by omega)
    have hi1 : i + 1 ≤ L.length := by omega
    have bc := hb.cells
    have b1 := hb.njunk
    have b2 := hb.nagg
    by_cases hge : s.first + (i : Int) ≥ from_
    · have g2 : decide (s.first + (i : Int) ≥ from_) = true := decide_eq_true hge
      have hI : tellI s.first from_ (i + 1) = tellI s.first from_ i ++ [i] := by simp only [tellI]; rw [if_pos hge]
      obtain ⟨b', y, hb', c27⟩ := @make_spec N n (by omega) _ _ _ _ _ _ _ haH hpH (s.first + (i : Int)) _ _ hb hl
      obtain ⟨K, hK⟩ : ∃ K : Heap, K = H ++ [y] := ⟨_, rfl⟩
      have hK' := hK.symm
      have kx : ∀ o, o < H.length → K[o]? = H[o]? := fun o ho => by rw [hK, List.getElem?_append_left ho]
      have kl : K.length = H.length + 1 := by rw [hK]; simp
      have hx : K[h.length + 1]? = some (H[h.length + 1]'(by omega)) := by
        rw [kx _ (by omega)]
        exact List.getElem?_eq_getElem _
      obtain ⟨o1, z, sl', hA, hD', hpo, hol⟩ := (hD.keep (H' := K) (fun o _ ho => kx o ho)).append (c := dgS s (s.first + (i : Int)) b') hTD.six (dgS_six hb').1 (dgS_six hb').2 hx (Nat.le_refl _) (by omega)
      have r1 : List.range 1 = [0] := rfl
      have d6 : (dgS s (s.first + (i : Int)) b').length = 6 := rfl
      have dr : setRange [V.int .i64 0, .int .i64 0, .int .i64 0, .int .i64 0, .int .i64 0, .nils] 0 (dgS s (s.first + (i : Int)) b') = dgS s (s.first + (i : Int)) b' := sr_all rfl
      have wr : wrapV (dgS s (s.first + (i : Int)) b') = .agg (dgS s (s.first + (i : Int)) b') := rfl
      have dt : List.take 6 (dgS s (s.first + (i : Int)) b') = dgS s (s.first + (i : Int)) b' := rfl
      have done := (dgS_six (s := s) (seq := s.first + (i : Int)) hb').2
      simp +contextual -implicitDefEqProofs (maxSteps := 10000000) only [sx_seq, sxL_succ, lpQ_norm, lpQ_exit, lpQ_ret, loopQ_norm, loopQ_exit, loopQ_ret, sqQ_norm, sqQ_ret, sqQ_exit, sx_block, blkQ_norm, blkQ_exit, blkQ_ret, sx_cond, cdP_true, cdP_false, cdP_bool, sx_region, sx_draw, plainD, List.all_cons, List.all_nil, List.isEmpty_nil, List.isEmpty_cons, sxo_nil, sxo_cons, sxo_guard, gdS_bool, gdS_eff, gdS_tup, gdS_sel, gdS_seleff, sxK_def, wcall_some, effP_ret, effP_set, effP_none, effP_ite, wop_call, wop_cv, cvP_func, sx_ret, sx_exit, sx_skip, sx_clr, stays, ↓selV_wt, ↓selV_wf, ↓impB_wt, ↓impB_wf, ↓selV_nor, ↓impB_nor, ↓selV_nt, ↓selV_nf, ↓impB_nt, ↓impB_nf, wantB_true, wantB_false, ↓selV_true, ↓selV_false, ↓selV_and, ↓impB_true, ↓impB_false, ↓impB_and, impB_triv, valOf_some, retH_some, ↓prim_pick, pickO_true, pickO_false, pickO_and, pickO_or, pickO_andr, pickO_orr, pickO_orrn, pickO_orn, pickO_bb, pickAnd_bool, pickOr_bool, ↓selV_nn, ↓impB_nn, Bool.and_assoc, Bool.or_assoc, doOp, ev_fr, ev_cst, put_none, put_fr, get, ins, del, dels, Nat.reduceLT, Nat.reduceEqDiff, ↓reduceIte, reduceCtorEq, ne_eq, not_false_eq_true, implies_true, framed_pureF, framed_fb, framed_N, framed_pure, wop_prim, prim, YLD, mkA, V.cells, List.getElem?_cons_zero, List.getElem?_cons_succ, List.set_cons_zero, List.set_cons_succ, Nat.zero_add, Nat.add_zero, Nat.reduceAdd, Nat.reduceSub, Nat.reduceMul, Nat.reduceLeDiff, Nat.not_lt_zero, List.map_cons, List.map_nil, List.cons_append, List.nil_append, loadA, cellsAt, nAg, packA, opt_bind_some, opt_map_some, opt_bind_none, opt_map_none, List.drop, List.take, List.head?, List.length_cons, List.length_nil, binA, unA, eqCells, eqCell, negB, fillA, sr_nil, sr_cons, sr_succ, sr_all, sr_len, storeA, Ob.with, indexedI, V.oneCell, intOf?, retQ_ret, retQ_norm, resA, resA1, fr_getD, packR, sealDepth, shut_bool, shut_int, Option.some.injEq, V.bool.injEq, V.int.injEq, Bool.not_true, Bool.not_false, true_and, and_true, and_self, Bool.and_true, Bool.and_false, Bool.true_and, Bool.false_and, Bool.or_true, Bool.or_false, Bool.true_or, Bool.false_or, Bool.false_eq_true, Int.reduceLT, Int.reduceLE, Int.reduceToNat, Int.reduceNeg, shut_plain, freeL_cons, freeL_nil, free_int, free_bool, free_agg, free_str, free_nils, free_tup, free_sl, true_implies, false_implies, Nat.sub_zero, Int.natCast_nonneg, Int.toNat_natCast, Nat.le_refl, not_true_eq_false, Int.reduceAdd, Int.reduceSub, Int.reduceMul, wrap64, false_and, and_false, cond_true, cond_false, Bool.cond_true_left, Bool.cond_false_right, Int.reduceBNe, Int.reduceBEq, decide_true, decide_false, Int.cast_ofNat_Int, Nat.mul_one, eq_self, Bool.true_eq_false, Bool.not_eq_true, Bool.not_eq_false, deads, List.replicate, argsF, g1, hia, hoc, hle, hld, hpH, oaH, q3, t5, wf, g2, c27, hK', isNil, bc, hA, r1, d6, dr, wr, dt, done, w4, hi1, hlt, -List.drop, -List.take]
      rw [hI]
      refine ⟨sl', _, rfl, ⟨?_, ?_, haH.bods, haH.apart⟩, ?_, hD', .snoc hTD hbi hb hb', by simp; omega, fun o ho => ?_⟩
      · rw [List.getElem?_set_ne (by omega), kx _ (by omega)]; exact oaH
      · refine haH.row.keep (fun q hq => ?_)
        have hqr : q < h.length := ha.row.lt q hq
        rw [List.getElem?_set_ne (by omega), kx _ (by omega)]
      · rw [List.getElem?_set_ne (by omega), kx _ (by omega)]; exact hpH
      · rw [List.getElem?_set_ne (by omega), kx _ (by omega)]; exact hoth o ho
    · have g2 : decide (s.first + (i : Int) ≥ from_) = false := decide_eq_false hge
      have hI : tellI s.first from_ (i + 1) = tellI s.first from_ i := by simp only [tellI]; rw [if_neg hge, List.append_nil]
      simp +contextual -implicitDefEqProofs (maxSteps := 10000000) only [sx_seq, sxL_succ, lpQ_norm, lpQ_exit, lpQ_ret, loopQ_norm, loopQ_exit, loopQ_ret, sqQ_norm, sqQ_ret, sqQ_exit, sx_block, blkQ_norm, blkQ_exit, blkQ_ret, sx_cond, cdP_true, cdP_false, cdP_bool, sx_region, sx_draw, plainD, List.all_cons, List.all_nil, List.isEmpty_nil, List.isEmpty_cons, sxo_nil, sxo_cons, sxo_guard, gdS_bool, gdS_eff, gdS_tup, gdS_sel, gdS_seleff, sxK_def, wcall_some, effP_ret, effP_set, effP_none, effP_ite, wop_call, wop_cv, cvP_func, sx_ret, sx_exit, sx_skip, sx_clr, stays, ↓selV_wt, ↓selV_wf, ↓impB_wt, ↓impB_wf, ↓selV_nor, ↓impB_nor, ↓selV_nt, ↓selV_nf, ↓impB_nt, ↓impB_nf, wantB_true, wantB_false, ↓selV_true, ↓selV_false, ↓selV_and, ↓impB_true, ↓impB_false, ↓impB_and, impB_triv, valOf_some, retH_some, ↓prim_pick, pickO_true, pickO_false, pickO_and, pickO_or, pickO_andr, pickO_orr, pickO_orrn, pickO_orn, pickO_bb, pickAnd_bool, pickOr_bool, ↓selV_nn, ↓impB_nn, Bool.and_assoc, Bool.or_assoc, doOp, ev_fr, ev_cst, put_none, put_fr, get, ins, del, dels, Nat.reduceLT, Nat.reduceEqDiff, ↓reduceIte, reduceCtorEq, ne_eq, not_false_eq_true, implies_true, framed_pureF, framed_fb, framed_N, framed_pure, wop_prim, prim, YLD, mkA, V.cells, List.getElem?_cons_zero, List.getElem?_cons_succ, List.set_cons_zero, List.set_cons_succ, Nat.zero_add, Nat.add_zero, Nat.reduceAdd, Nat.reduceSub, Nat.reduceMul, Nat.reduceLeDiff, Nat.not_lt_zero, List.map_cons, List.map_nil, List.cons_append, List.nil_append, loadA, cellsAt, nAg, packA, opt_bind_some, opt_map_some, opt_bind_none, opt_map_none, List.drop, List.take, List.head?, List.length_cons, List.length_nil, binA, unA, eqCells, eqCell, negB, fillA, sr_nil, sr_cons, sr_succ, sr_all, sr_len, storeA, Ob.with, indexedI, V.oneCell, intOf?, retQ_ret, retQ_norm, resA, resA1, fr_getD, packR, sealDepth, shut_bool, shut_int, Option.some.injEq, V.bool.injEq, V.int.injEq, Bool.not_true, Bool.not_false, true_and, and_true, and_self, Bool.and_true, Bool.and_false, Bool.true_and, Bool.false_and, Bool.or_true, Bool.or_false, Bool.true_or, Bool.false_or, Bool.false_eq_true, Int.reduceLT, Int.reduceLE, Int.reduceToNat, Int.reduceNeg, shut_plain, freeL_cons, freeL_nil, free_int, free_bool, free_agg, free_str, free_nils, free_tup, free_sl, true_implies, false_implies, Nat.sub_zero, Int.natCast_nonneg, Int.toNat_natCast, Nat.le_refl, not_true_eq_false, Int.reduceAdd, Int.reduceSub, Int.reduceMul, wrap64, false_and, and_false, cond_true, cond_false, Bool.cond_true_left, Bool.cond_false_right, Int.reduceBNe, Int.reduceBEq, decide_true, decide_false, Int.cast_ofNat_Int, Nat.mul_one, eq_self, Bool.true_eq_false, Bool.not_eq_true, Bool.not_eq_false, deads, List.replicate, argsF, g1, hia, hoc, hle, hld, hpH, oaH, q3, t5, wf, g2, isNil, bc, w4, hi1, hlt, hI, -List.drop, -List.take]
      exact ⟨sl, C, rfl, haH, hD, hTD, hHl, hoth⟩
  · have e : i = L.length := by omega
    subst e
    have g1 : decide ((L.length : Int) < (L.length : Int)) = false := decide_eq_false (by omega)
    obtain ⟨dl, dn, dc⟩ := hD.len
    have wt : IntKind.i64.wrap (IntKind.i64.wrap (s.first + (L.length : Int)) - 1) = s.first + (L.length : Int) - 1 := by
      rw [wrap64 (n := s.first + (L.length : Int)) (by omega) (by omega), wrap64 (by omega) (by omega)]
    have c6 : ∀ (s : Ses) (W : V) (x : Int), setRange (s.cs W) 6 [.int .i64 x] = ({ s with told := x } : Ses).cs W := fun _ _ _ => rfl
    have c8 : ∀ (s : Ses) (W : V) (x : Bool), setRange (s.cs W) 8 [.bool x] = ({ s with owes := x } : Ses).cs W := fun _ _ _ => rfl
    have fin : ∀ K : Heap, K[a]? = some ⟨1, .var (s.cs W)⟩ → K[h.length]? = some ⟨1, .var [.ptr a 1 0]⟩ → (∀ x, (K.set a x)[a]? = some x) ∧ (∀ x, (K.set a x)[h.length]? = some ⟨1, .var [.ptr a 1 0]⟩) ∧ (∀ x y, (K.set a x).set a y = K.set a y) ∧ a < K.length ∧ h.length < K.length := fun K h1 h2 =>
      ⟨fun x => List.getElem?_set_self (lt_of_get h1), fun x => by rw [List.getElem?_set_ne (by omega)]; exact h2, fun x y => by simp, lt_of_get h1, lt_of_get h2⟩
    have fe1 : (a == h.length) = false := by simp; omega
    have fe2 : (h.length == a) = false := by simp; omega
    have satK : ∀ K : Heap, (∀ o, o < h.length → K[o]? = h[o]?) → a < K.length → SAt (K.set a ⟨1, .var ((toldS s L.length).cs W)⟩) a (toldS s L.length) L W R := fun K hK hk =>
      ⟨List.getElem?_set_self hk, ha.row.keep (fun o ho => by rw [List.getElem?_set_ne (by rintro rfl; exact ha.apart ho)]; exact hK o (ha.row.lt o ho)), ha.bods, ha.apart⟩
    have beyK : ∀ K : Heap, (∀ o, o < h.length → K[o]? = h[o]?) → h.length ≤ K.length → ∀ x, Beyond h (K.set a x) a R R := fun K hK hk x =>
      ⟨by simpa using hk, fun o ho hoa _ => by rw [List.getElem?_set_ne (Ne.symm hoa)]; exact hK o ho, fun o ho => .inl ho⟩
    have drK : ∀ (K : Heap) (v : V) (C : List (List V)), DRow (h.length + 1) K v C → ∀ x, DRow h.length (K.set a x) v C := fun K v C hd x => by
      rcases hd with hd | ⟨hL, o, ver, hp, rfl, ho⟩
      · exact .inl hd
      · exact .inr ⟨hL, o, ver, by omega, rfl, by rw [List.getElem?_set_ne (by omega)]; exact ho⟩
    cases hz : ((C.length : Int) == 0 && s.owes) with
    | false =>
      obtain ⟨z1, z2, z3, z4, z5⟩ := fin H oaH hpH
      simp +contextual -implicitDefEqProofs (maxSteps := 10000000) only [sx_seq, sxL_succ, lpQ_norm, lpQ_exit, lpQ_ret, loopQ_norm, loopQ_exit, loopQ_ret, sqQ_norm, sqQ_ret, sqQ_exit, sx_block, blkQ_norm, blkQ_exit, blkQ_ret, sx_cond, cdP_true, cdP_false, cdP_bool, sx_region, sx_draw, plainD, List.all_cons, List.all_nil, List.isEmpty_nil, List.isEmpty_cons, sxo_nil, sxo_cons, sxo_guard, gdS_bool, gdS_eff, gdS_tup, gdS_sel, gdS_seleff, sxK_def, wcall_some, effP_ret, effP_set, effP_none, effP_ite, wop_call, wop_cv, cvP_func, sx_ret, sx_exit, sx_skip, sx_clr, stays, ↓selV_wt, ↓selV_wf, ↓impB_wt, ↓impB_wf, ↓selV_nor, ↓impB_nor, ↓selV_nt, ↓selV_nf, ↓impB_nt, ↓impB_nf, wantB_true, wantB_false, ↓selV_true, ↓selV_false, ↓selV_and, ↓impB_true, ↓impB_false, ↓impB_and, impB_triv, valOf_some, retH_some, ↓prim_pick, pickO_true, pickO_false, pickO_and, pickO_or, pickO_andr, pickO_orr, pickO_orrn, pickO_orn, pickO_bb, pickAnd_bool, pickOr_bool, ↓selV_nn, ↓impB_nn, Bool.and_assoc, Bool.or_assoc, doOp, ev_fr, ev_cst, put_none, put_fr, get, ins, del, dels, Nat.reduceLT, Nat.reduceEqDiff, ↓reduceIte, reduceCtorEq, ne_eq, not_false_eq_true, implies_true, framed_pureF, framed_fb, framed_N, framed_pure, wop_prim, prim, YLD, mkA, V.cells, List.getElem?_cons_zero, List.getElem?_cons_succ, List.set_cons_zero, List.set_cons_succ, Nat.zero_add, Nat.add_zero, Nat.reduceAdd, Nat.reduceSub, Nat.reduceMul, Nat.reduceLeDiff, Nat.not_lt_zero, List.map_cons, List.map_nil, List.cons_append, List.nil_append, loadA, cellsAt, nAg, packA, opt_bind_some, opt_map_some, opt_bind_none, opt_map_none, List.drop, List.take, List.head?, List.length_cons, List.length_nil, binA, unA, eqCells, eqCell, negB, fillA, sr_nil, sr_cons, sr_succ, sr_all, sr_len, storeA, Ob.with, indexedI, V.oneCell, intOf?, retQ_ret, retQ_norm, resA, resA1, fr_getD, packR, sealDepth, shut_bool, shut_int, Option.some.injEq, V.bool.injEq, V.int.injEq, Bool.not_true, Bool.not_false, true_and, and_true, and_self, Bool.and_true, Bool.and_false, Bool.true_and, Bool.false_and, Bool.or_true, Bool.or_false, Bool.true_or, Bool.false_or, Bool.false_eq_true, Int.reduceLT, Int.reduceLE, Int.reduceToNat, Int.reduceNeg, shut_plain, freeL_cons, freeL_nil, free_int, free_bool, free_agg, free_str, free_nils, free_tup, free_sl, true_implies, false_implies, Nat.sub_zero, Int.natCast_nonneg, Int.toNat_natCast, Nat.le_refl, not_true_eq_false, Int.reduceAdd, Int.reduceSub, Int.reduceMul, wrap64, false_and, and_false, cond_true, cond_false, Bool.cond_true_left, Bool.cond_false_right, Int.reduceBNe, Int.reduceBEq, decide_true, decide_false, Int.cast_ofNat_Int, Nat.mul_one, eq_self, Bool.true_eq_false, Bool.not_eq_true, Bool.not_eq_false, deads, List.replicate, argsF, sx_drawd, wpd_nil, wpd_cons, wdK_def, fpOf, fpV, fpCall, Fp.ok, disj, List.contains_cons, List.contains_nil, Nat.reduceBEq, List.all_append, V.objsL, V.objs,  List.getD_cons_zero, List.getD_cons_succ, List.append_nil, g1, dl, hpH, oaH, q3, t4, t5, t8, isNil, hz, hlW, wt, c6, c8, z1, z2, z3, z4, z5, fe1, fe2, -List.drop, -List.take]
      refine ⟨satK H hoth z4, beyK H hoth (by omega) _, C, drK H sl C hD _, hTD.six, by omega, C, hTD, .inl ⟨rfl, fun e => ?_⟩⟩
      subst e
      simpa using hz
    | true =>
      simp only [Bool.and_eq_true, beq_iff_eq] at hz
      obtain ⟨hz1, hz2⟩ := hz
      have hC0 : C = [] := List.length_eq_zero_iff.1 (by omega)
      subst hC0
      have hz : (((([] : List (List V)).length : Nat) : Int) == 0 && s.owes) = true := by rw [hz2]; rfl
      obtain ⟨b', y, hb', c27⟩ := @make_spec N n (by omega) _ _ _ _ _ _ _ haH hpH 0 _ _ (.inl ⟨rfl, rfl⟩ : By [] .nils) (by decide)
      obtain ⟨K0, hK0⟩ : ∃ K : Heap, K = H ++ [y] := ⟨_, rfl⟩
      have hK0' := hK0.symm
      have kx : ∀ o, o < H.length → K0[o]? = H[o]? := fun o ho => by rw [hK0, List.getElem?_append_left ho]
      have kl0 : K0.length = H.length + 1 := by rw [hK0]; simp
      have hx : K0[h.length + 2]? = some (H[h.length + 2]'(by omega)) := by
        rw [kx _ (by omega)]
        exact List.getElem?_eq_getElem _
      obtain ⟨o1, z, sl', hA, hD', hpo, hol⟩ := (hD.keep (H' := K0) (fun o _ ho => kx o ho)).append (c := dgS s 0 b') hTD.six (dgS_six hb').1 (dgS_six hb').2 hx (show h.length + 1 ≤ h.length + 2 by omega) (by simp)
      have r1 : List.range 1 = [0] := rfl
      have d6 : (dgS s 0 b').length = 6 := rfl
      have dr : setRange [V.int .i64 0, .int .i64 0, .int .i64 0, .int .i64 0, .int .i64 0, .nils] 0 (dgS s 0 b') = dgS s 0 b' := sr_all rfl
      have wr : wrapV (dgS s 0 b') = .agg (dgS s 0 b') := rfl
      have dt : List.take 6 (dgS s 0 b') = dgS s 0 b' := rfl
      have done := (dgS_six (s := s) (seq := 0) hb').2
      obtain ⟨K, hK⟩ : ∃ K, K = K0.set o1 z := ⟨_, rfl⟩
      have hK' := hK.symm
      have kl : K.length = H.length + 1 := by rw [hK]; simp; omega
      have ka : K[a]? = some ⟨1, .var (s.cs W)⟩ := by rw [hK, List.getElem?_set_ne (by omega), kx _ (by omega)]; exact oaH
      have kp : K[h.length]? = some ⟨1, .var [.ptr a 1 0]⟩ := by rw [hK, List.getElem?_set_ne (by omega), kx _ (by omega)]; exact hpH
      have ko : ∀ o, o < h.length → K[o]? = h[o]? := fun o ho => by rw [hK, List.getElem?_set_ne (by omega), kx _ (by omega)]; exact hoth o ho
      rw [hK'] at hD'
      obtain ⟨z1, z2, z3, z4, z5⟩ := fin K ka kp
      simp +contextual -implicitDefEqProofs (maxSteps := 10000000) only [sx_seq, sxL_succ, lpQ_norm, lpQ_exit, lpQ_ret, loopQ_norm, loopQ_exit, loopQ_ret, sqQ_norm, sqQ_ret, sqQ_exit, sx_block, blkQ_norm, blkQ_exit, blkQ_ret, sx_cond, cdP_true, cdP_false, cdP_bool, sx_region, sx_draw, plainD, List.all_cons, List.all_nil, List.isEmpty_nil, List.isEmpty_cons, sxo_nil, sxo_cons, sxo_guard, gdS_bool, gdS_eff, gdS_tup, gdS_sel, gdS_seleff, sxK_def, wcall_some, effP_ret, effP_set, effP_none, effP_ite, wop_call, wop_cv, cvP_func, sx_ret, sx_exit, sx_skip, sx_clr, stays, ↓selV_wt, ↓selV_wf, ↓impB_wt, ↓impB_wf, ↓selV_nor, ↓impB_nor, ↓selV_nt, ↓selV_nf, ↓impB_nt, ↓impB_nf, wantB_true, wantB_false, ↓selV_true, ↓selV_false, ↓selV_and, ↓impB_true, ↓impB_false, ↓impB_and, impB_triv, valOf_some, retH_some, ↓prim_pick, pickO_true, pickO_false, pickO_and, pickO_or, pickO_andr, pickO_orr, pickO_orrn, pickO_orn, pickO_bb, pickAnd_bool, pickOr_bool, ↓selV_nn, ↓impB_nn, Bool.and_assoc, Bool.or_assoc, doOp, ev_fr, ev_cst, put_none, put_fr, get, ins, del, dels, Nat.reduceLT, Nat.reduceEqDiff, ↓reduceIte, reduceCtorEq, ne_eq, not_false_eq_true, implies_true, framed_pureF, framed_fb, framed_N, framed_pure, wop_prim, prim, YLD, mkA, V.cells, List.getElem?_cons_zero, List.getElem?_cons_succ, List.set_cons_zero, List.set_cons_succ, Nat.zero_add, Nat.add_zero, Nat.reduceAdd, Nat.reduceSub, Nat.reduceMul, Nat.reduceLeDiff, Nat.not_lt_zero, List.map_cons, List.map_nil, List.cons_append, List.nil_append, loadA, cellsAt, nAg, packA, opt_bind_some, opt_map_some, opt_bind_none, opt_map_none, List.drop, List.take, List.head?, List.length_cons, List.length_nil, binA, unA, eqCells, eqCell, negB, fillA, sr_nil, sr_cons, sr_succ, sr_all, sr_len, storeA, Ob.with, indexedI, V.oneCell, intOf?, retQ_ret, retQ_norm, resA, resA1, fr_getD, packR, sealDepth, shut_bool, shut_int, Option.some.injEq, V.bool.injEq, V.int.injEq, Bool.not_true, Bool.not_false, true_and, and_true, and_self, Bool.and_true, Bool.and_false, Bool.true_and, Bool.false_and, Bool.or_true, Bool.or_false, Bool.true_or, Bool.false_or, Bool.false_eq_true, Int.reduceLT, Int.reduceLE, Int.reduceToNat, Int.reduceNeg, shut_plain, freeL_cons, freeL_nil, free_int, free_bool, free_agg, free_str, free_nils, free_tup, free_sl, true_implies, false_implies, Nat.sub_zero, Int.natCast_nonneg, Int.toNat_natCast, Nat.le_refl, not_true_eq_false, Int.reduceAdd, Int.reduceSub, Int.reduceMul, wrap64, false_and, and_false, cond_true, cond_false, Bool.cond_true_left, Bool.cond_false_right, Int.reduceBNe, Int.reduceBEq, decide_true, decide_false, Int.cast_ofNat_Int, Nat.mul_one, eq_self, Bool.true_eq_false, Bool.not_eq_true, Bool.not_eq_false, deads, List.replicate, argsF, sx_drawd, wpd_nil, wpd_cons, wdK_def, fpOf, fpV, fpCall, Fp.ok, disj, List.contains_cons, List.contains_nil, Nat.reduceBEq, List.all_append, V.objsL, V.objs,  List.getD_cons_zero, List.getD_cons_succ, List.append_nil, g1, dl, hpH, oaH, q3, t4, t5, t8, isNil, hz, hz2, hlW, wt, c6, c8, c27, hK0', hA, hK', ka, kp, r1, d6, dr, wr, dt, done, z1, z2, z3, z4, z5, fe1, fe2, -List.drop, -List.take]
      exact ⟨satK K ko z4, beyK K ko (by omega) _, _, drK K sl' _ hD' _, fun c hc => by
        obtain rfl := List.mem_singleton.1 hc
        exact dgS_six hb', by simp, [], hTD, .inr ⟨rfl, hz2, b', hb', rfl⟩⟩

end Go.Am.T
