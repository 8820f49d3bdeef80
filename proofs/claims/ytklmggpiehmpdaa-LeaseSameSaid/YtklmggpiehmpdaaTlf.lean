import Derived.Test.YtklmggpiehmpdaaTle
set_option linter.unusedVariables false
set_option linter.unusedSimpArgs false
set_option maxRecDepth 10000
namespace Go.Am.T
attribute [local congr] selV_congr impB_congr

/-- A framed call that makes one new object without objects. -/
theorem frame_new {pureF : FuncId → FMode} {call : Caller} {f : FuncId} {args : List V} {h : Heap} {x : Ob} {v : Nat → V} (hm : pureF f = .keep) (hR : V.objsL args = [])
    (hc : ∀ h, call f args h = some (v h.length, h ++ [x])) (hv : ∀ n, ∀ o ∈ (v n).objs, n ≤ o) (hx : x.bd.objs = []) : frameC pureF call f args h = some (v h.length, h ++ [x]) := by
  have hlen : (keepOnly [] h).length = h.length := keepOnly_length _ _
  have c1 : closedIn [] h.length (keepOnly [] h) = true := closedIn_of fun o y hy hi => by
    have : o < h.length := by rw [← hlen]; exact (List.getElem?_eq_some_iff.1 hy).1
    simp [inside] at hi
    omega
  have c2 : closedIn [] h.length (keepOnly [] h ++ [x]) = true := closedIn_of fun o y hy hi => by
    have h1 : h.length ≤ o := by simpa [inside] using hi
    rw [List.getElem?_append_right (by omega)] at hy
    have : o - (keepOnly [] h).length = 0 := by
      have := (List.getElem?_eq_some_iff.1 hy).1
      simp at this
      omega
    rw [this] at hy
    cases hy
    rw [hx]
    intro i hi
    cases hi
  have c3 : (v h.length).objs.all (inside [] h.length) = true := by
    rw [List.all_eq_true]
    intro o ho
    simp [inside, hv _ o ho]
  unfold frameC
  rw [hm]
  simp only [hR, c1, hc, hlen, c2, c3, List.length_append, List.length_cons, List.length_nil, Nat.le_add_right, decide_true, Bool.and_self, ↓reduceIte]
  congr 2
  apply List.ext_getElem?
  intro o
  rw [mergeH_get]
  rcases Nat.lt_or_ge o h.length with ho | ho
  · rw [List.getElem?_append_left (by omega), List.getElem?_append_left ho, keepOnly_get, List.getElem?_eq_getElem ho]
    simp [inside, Nat.not_le.2 ho, List.getD_eq_getElem?_getD, ho]
  · rw [List.getElem?_append_right (by omega), List.getElem?_append_right ho, hlen]
    cases hh : [x][o - h.length]? with
    | none => rfl
    | some y => simp [inside, ho]

/-- A watch and the document's one: of both none is there, or both are and tell the same. -/
def Pr (H : Heap) (u v : V) (xs : List Nat) : Prop :=
  (u = .nilp ∧ v = .nilp ∧ xs = []) ∨ ∃ a b w, u = .ptr a 1 0 ∧ v = .ptr b 1 0 ∧ Wt.Ok w ∧ H[a]? = some (obW w) ∧ H[b]? = some (obW w) ∧ a ≠ b ∧ xs = [a, b]

theorem Pr.keep {H H' : Heap} {u v : V} {xs : List Nat} (h : Pr H u v xs) (hk : ∀ o ∈ xs, o < H.length → H'[o]? = H[o]?) : Pr H' u v xs := by
  rcases h with h | ⟨a, b, w, rfl, rfl, hw, ha, hb, hab, rfl⟩
  · exact .inl h
  · exact .inr ⟨a, b, w, rfl, rfl, hw, by rw [hk a (by simp) (lt_of_get ha)]; exact ha, by rw [hk b (by simp) (lt_of_get hb)]; exact hb, hab, rfl⟩

theorem Pr.lt {H : Heap} {u v : V} {xs : List Nat} (h : Pr H u v xs) : ∀ o ∈ xs, o < H.length := by
  rcases h with ⟨-, -, rfl⟩ | ⟨a, b, w, rfl, rfl, hw, ha, hb, hab, rfl⟩
  · intro o ho; cases ho
  · intro o ho
    simp only [List.mem_cons, List.not_mem_nil, or_false] at ho
    rcases ho with rfl | rfl
    · exact lt_of_get ha
    · exact lt_of_get hb

theorem Pr.nil {H : Heap} {u v : V} {xs : List Nat} (h : Pr H u v xs) : ∃ nb, isNil .p v = some nb ∧ (nb = false → ∃ a b w, u = .ptr a 1 0 ∧ v = .ptr b 1 0 ∧ Wt.Ok w ∧ H[a]? = some (obW w) ∧ H[b]? = some (obW w) ∧ a ≠ b ∧ xs = [a, b]) := by
  rcases h with ⟨rfl, rfl, rfl⟩ | ⟨a, b, w, rfl, rfl, hw, ha, hb, hab, rfl⟩
  · exact ⟨true, rfl, fun h => by cases h⟩
  · exact ⟨false, rfl, fun _ => ⟨a, b, w, rfl, rfl, hw, ha, hb, hab, rfl⟩⟩

theorem am6_wp {N n : Nat} {args : List V} {h : Heap} {v : V} (ha : args.length = 3) (hfree : V.freeL args = true)
    (H : sx ⟨pureOf am, callA am N n, N, 0⟩ am6.body (fr am6.nt (argsF 0 args)) (deads am6.sites) (retQ am6.res fun x h' => V.shut (fun o => h'[o]?) sealDepth x = some v)) : callA am N (n + 1) 6 args h = some (v, h) :=
  call_auto at6 rfl ha (by decide) hfree (sx_wp H)

theorem Pr.same {N n : Nat} (hn : 3 ≤ n) {H : Heap} {u v u' v' : V} {xs ys : List Nat} (h : Pr H u v xs) (h' : Pr H u' v' ys) : ∃ r, callA am N n 21 [u, u'] H = some (.bool r, H) ∧ callA am N n 22 [v, v'] H = some (.bool r, H) := by
  rcases h with ⟨rfl, rfl, -⟩ | ⟨a, b, w, rfl, rfl, hw, ha, hb, hab, -⟩
  · rcases h' with ⟨rfl, rfl, -⟩ | ⟨a', b', w', rfl, rfl, hw', ha', hb', hab', -⟩
    · exact ⟨true, same_nn hn H, refSame_nn hn H⟩
    · exact ⟨false, same_np hn hw' ha', refSame_np hn hw' hb'⟩
  · rcases h' with ⟨rfl, rfl, -⟩ | ⟨a', b', w', rfl, rfl, hw', ha', hb', hab', -⟩
    · exact ⟨false, same_pn hn hw ha, refSame_pn hn hw hb⟩
    · exact ⟨_, same_eq hn hw hw' ha ha', refSame_eq hn hw hw' hb hb'⟩

theorem Pr.self {N n : Nat} (hn : 3 ≤ n) {H : Heap} {u v : V} {xs : List Nat} (h : Pr H u v xs) : callA am N n 21 [u, u] H = some (.bool true, H) := by
  rcases h with ⟨rfl, rfl, -⟩ | ⟨a, b, w, rfl, rfl, hw, ha, hb, hab, -⟩
  · exact same_nn hn H
  · rw [same_eq hn hw hw ha ha, decide_eq_true rfl]

/-- The two that were made. -/
theorem pr_new {x p : Int} {H : Heap} {a b : Nat} (ha : H[a]? = some (bif newB x p then ⟨0, .dead⟩ else obW (newW x p))) (hb : H[b]? = some (bif newB x p then ⟨0, .dead⟩ else obW (newW x p))) (hab : a ≠ b) :
    ∃ xs, Pr H (bif newB x p then .nilp else .ptr a 1 0) (bif newB x p then .nilp else .ptr b 1 0) xs ∧ ∀ o ∈ xs, o = a ∨ o = b := by
  cases h : newB x p with
  | true => exact ⟨[], .inl ⟨rfl, rfl, rfl⟩, fun o ho => by cases ho⟩
  | false =>
    rw [h] at ha hb
    exact ⟨[a, b], .inr ⟨a, b, newW x p, rfl, rfl, newW_ok h, ha, hb, hab, rfl⟩, by simp⟩

set_option maxHeartbeats 4000000 in
theorem same_spec {N n : Nat} (hN : 1000 ≤ N) (hn : 21 ≤ n) (x1 p1 x2 p2 : Int) (l m : V) (A B : List Stp) (hl : IsL l 5 (A.map Stp.cs)) (hm : IsL m 5 (B.map Stp.cs)) (h : Heap) :
    callA am N n 6 [.agg [.int .i64 x1, .int .i64 p1, .int .i64 x2, .int .i64 p2], l, m] h = some (.bool true, h) := by
  obtain ⟨n, rfl⟩ : ∃ m, n = m + 1 := ⟨n - 1, by omega⟩
  have c13 := @known_spec N n (by omega) (by omega)
  obtain ⟨o1, e1⟩ : ∃ o, o = (bif newB x1 p1 then ⟨0, .dead⟩ else obW (newW x1 p1) : Ob) := ⟨_, rfl⟩
  obtain ⟨o2, e2⟩ : ∃ o, o = (bif newB x2 p2 then ⟨0, .dead⟩ else obW (newW x2 p2) : Ob) := ⟨_, rfl⟩
  have hx1 : o1.bd.objs = [] := by rw [e1]; cases newB x1 p1 <;> first | rfl | exact Wt.objs _
  have hx2 : o2.bd.objs = [] := by rw [e2]; cases newB x2 p2 <;> first | rfl | exact Wt.objs _
  have hsel : ∀ (c : Bool) (a : Nat), (bif c then V.tup [.nilp, .int .i64 2] else .tup [.ptr a 1 0, .int .i64 0]) = .tup [bif c then .nilp else .ptr a 1 0, .int .i64 (bif c then 2 else 0)] := fun c a => by cases c <;> rfl
  have c1 := @new_spec N n (by omega) x1 p1
  have c2 := @new_spec N n (by omega) x2 p2
  simp only [← e1, hsel] at c1
  simp only [← e2, hsel] at c2
  have d1 := @refNew_spec N n (by omega) x1 p1
  have d2 := @refNew_spec N n (by omega) x2 p2
  rw [← e1] at d1
  rw [← e2] at d2
  have hv : ∀ (c : Bool) (k : Nat), ∀ o ∈ (bif c then V.nilp else .ptr k 1 0).objs, k ≤ o := fun c k o ho => by
    cases c
    · simp [V.objs] at ho; omega
    · cases ho
  have f1 : ∀ fb (h : Heap), ({ pureF := pureOf am, call := callA am N n, N := N, fb := fb } : Env).framed.call 18 [.int .i64 x1, .int .i64 p1] h = some (bif newB x1 p1 then .nilp else .ptr h.length 1 0, h ++ [o1]) := fun fb h =>
    frame_new (v := fun k => bif newB x1 p1 then .nilp else .ptr k 1 0) pm18 rfl d1 (hv _) hx1
  have f2 : ∀ fb (h : Heap), ({ pureF := pureOf am, call := callA am N n, N := N, fb := fb } : Env).framed.call 18 [.int .i64 x2, .int .i64 p2] h = some (bif newB x2 p2 then .nilp else .ptr h.length 1 0, h ++ [o2]) := fun fb h =>
    frame_new (v := fun k => bif newB x2 p2 then .nilp else .ptr k 1 0) pm18 rfl d2 (hv _) hx2
  have hlA := hl.len
  rw [List.length_map] at hlA
  have hlB := hm.len
  rw [List.length_map] at hlB
  have hna := hl.nstr
  have hnb := hm.nstr
  obtain ⟨H0, hH0⟩ : ∃ H0 : Heap, H0 = [⟨1, .var [.int .i64 x1, .int .i64 p1, .int .i64 x2, .int .i64 p2]⟩, o1, o2, o1, o2] := ⟨_, rfl⟩
  obtain ⟨xs, hP, hxs⟩ := @pr_new x1 p1 H0 1 3 (by rw [hH0, ← e1]; rfl) (by rw [hH0, ← e1]; rfl) (by decide)
  obtain ⟨ys, hQ, hys⟩ := @pr_new x2 p2 H0 2 4 (by rw [hH0, ← e2]; rfl) (by rw [hH0, ← e2]; rfl) (by decide)
  generalize hu : (bif newB x1 p1 then V.nilp else .ptr 1 1 0) = u at hP
  generalize hv' : (bif newB x1 p1 then V.nilp else .ptr 3 1 0) = v at hP
  generalize hy : (bif newB x2 p2 then V.nilp else .ptr 2 1 0) = y at hQ
  generalize hq : (bif newB x2 p2 then V.nilp else .ptr 4 1 0) = q at hQ
  have hdis : ∀ o ∈ xs, o ∉ ys := fun o ho ho' => by
    rcases hxs o ho with rfl | rfl <;> rcases hys _ ho' with h | h <;> cases h
  have hH0' := hH0.symm
  refine am6_wp rfl (by simp [freeL_cons, freeL_nil, free_agg, free_int, hl.free, hm.free]) ?_
  simp +contextual -implicitDefEqProofs (maxSteps := 10000000) only [sx_seq, sxL_succ, lpQ_norm, lpQ_exit, lpQ_ret, loopQ_norm, loopQ_exit, loopQ_ret, sqQ_norm, sqQ_ret, sqQ_exit, sx_block, blkQ_norm, blkQ_exit, blkQ_ret, sx_cond, cdP_true, cdP_false, cdP_bool, sx_region, sx_draw, plainD, List.all_cons, List.all_nil, List.isEmpty_nil, List.isEmpty_cons, sxo_nil, sxo_cons, sxo_guard, gdS_bool, gdS_eff, gdS_tup, gdS_sel, gdS_seleff, sxK_def, wcall_some, effP_ret, effP_set, effP_none, effP_ite, wop_call, wop_cv, cvP_func, sx_ret, sx_exit, sx_skip, sx_clr, stays, ↓selV_wt, ↓selV_wf, ↓impB_wt, ↓impB_wf, ↓selV_nor, ↓impB_nor, ↓selV_nt, ↓selV_nf, ↓impB_nt, ↓impB_nf, wantB_true, wantB_false, ↓selV_true, ↓selV_false, ↓selV_and, ↓impB_true, ↓impB_false, ↓impB_and, impB_triv, valOf_some, retH_some, ↓prim_pick, pickO_true, pickO_false, pickO_and, pickO_or, pickO_andr, pickO_orr, pickO_orrn, pickO_orn, pickO_bb, pickAnd_bool, pickOr_bool, ↓selV_nn, ↓impB_nn, Bool.and_assoc, Bool.or_assoc, doOp, ev_fr, ev_cst, put_none, put_fr, get, ins, del, dels, Nat.reduceLT, Nat.reduceEqDiff, ↓reduceIte, reduceCtorEq, ne_eq, not_false_eq_true, implies_true, framed_pureF, framed_fb, framed_N, framed_pure, wop_prim, prim, mkA, V.cells, List.getElem?_cons_zero, List.getElem?_cons_succ, List.set_cons_zero, List.set_cons_succ, Nat.zero_add, Nat.add_zero, Nat.reduceAdd, Nat.reduceSub, Nat.reduceMul, Nat.reduceLeDiff, Nat.not_lt_zero, List.map_cons, List.map_nil, List.cons_append, List.nil_append, loadA, cellsAt, nAg, packA, opt_bind_some, opt_map_some, opt_bind_none, opt_map_none, List.drop, List.take, List.head?, List.length_cons, List.length_nil, binA, unA, eqCells, eqCell, negB, fillA, sr_nil, sr_cons, sr_succ, sr_all, sr_len, storeA, Ob.with, indexedI, V.oneCell, intOf?, retQ_ret, retQ_norm, resA, resA1, fr_getD, packR, sealDepth, shut_bool, shut_int, Option.some.injEq, V.bool.injEq, V.int.injEq, Bool.not_true, Bool.not_false, true_and, and_true, and_self, Bool.and_true, Bool.and_false, Bool.true_and, Bool.false_and, Bool.or_true, Bool.or_false, Bool.true_or, Bool.false_or, Bool.false_eq_true, Int.reduceLT, Int.reduceLE, Int.reduceToNat, Int.reduceNeg, shut_plain, freeL_cons, freeL_nil, free_int, free_bool, free_agg, free_str, free_nils, free_tup, free_sl, true_implies, false_implies, Nat.sub_zero, Int.natCast_nonneg, Int.toNat_natCast, Nat.le_refl, not_true_eq_false, Int.reduceAdd, Int.reduceSub, Int.reduceMul, wrap64, false_and, and_false, cond_true, cond_false, Bool.cond_true_left, Bool.cond_false_right, Int.reduceBNe, Int.reduceBEq, decide_true, decide_false, Int.cast_ofNat_Int, Nat.mul_one, eq_self, Bool.true_eq_false, Bool.not_eq_true, Bool.not_eq_false, deads, List.replicate, argsF, am6, sx_drawd, wpd_nil, wpd_cons, wdK_def, fpOf, fpV, fpCall, Fp.ok, disj, List.contains_cons, List.contains_nil, Nat.reduceBEq, List.all_append, V.objsL, V.objs,  List.getD_cons_zero, List.getD_cons_succ, List.append_nil, c1, c2, f1, f2, hu, hv', hy, hq, hH0', pm18, disj_nil']
  refine sx_loop (fun i t H => ∃ u v xs, t = fr 124 [(1, l), (2, m), (7, u), (9, y), (11, v), (12, q), (13, .bool true), (14, .int .i64 i)] ∧ i ≤ A.length ∧ i ≤ 60 ∧ Pr H u v xs ∧ Pr H y q ys ∧ ∀ o ∈ xs, o ∉ ys) (min A.length 60) (by show _ < N; omega)
    ⟨u, v, xs, rfl, by omega, by omega, hP, hQ, hdis⟩ ?_
  rintro i t H hi ⟨u, v, xs, rfl, hiA, hi6, hP, hQ, hdis⟩
  obtain ⟨nb, hnb', hnbv⟩ := hP.nil
  cases hc : (decide ((i : Int) < (A.length : Int)) && (decide ((i : Int) < 60) && !nb)) with
  | true =>
    simp only [Bool.and_eq_true, decide_eq_true_eq, Bool.not_eq_true'] at hc
    obtain ⟨h1, h2, rfl⟩ := hc
    obtain ⟨a, b, w, rfl, rfl, hw, ha, hb, hab, rfl⟩ := hnbv rfl
    have hltA : i < A.length := by omega
    have g1 : decide ((i : Int) < (A.length : Int)) = true := decide_eq_true h1
    have g2 : decide ((i : Int) < 60) = true := decide_eq_true h2
    obtain ⟨s, hs⟩ : ∃ s, A[i]? = some s := ⟨_, List.getElem?_eq_getElem hltA⟩
    have hat := hl.at_ i
    rw [List.getElem?_map, hs] at hat
    have hat' : iaddrSA 5 l (.int .i64 i) = some (.ret (.iptr [.int .i64 s.k, .int .i64 s.n, .int .i64 s.e, .int .i64 s.b, .int .i64 s.r] 0)) := hat
    have w4 : IntKind.i64.wrap ((i : Int) + 1) = ((i + 1 : Nat) : Int) := (wrap64 (by omega) (by omega)).trans (by omega)
    obtain ⟨v, h', c19, ⟨a', w', rfl, hw', ha', hb', hab', haa⟩, hlen, hoth⟩ := @do_spec N n (by omega) w hw s.k s.n s.e s.b s.r a b H ha hb hab
    have hi1 : i + 1 ≤ A.length := by omega
    have hi2 : i + 1 ≤ 60 := by omega
    have hi3 : i < min A.length 60 := by omega
    simp +contextual -implicitDefEqProofs (maxSteps := 10000000) only [sx_seq, sxL_succ, lpQ_norm, lpQ_exit, lpQ_ret, loopQ_norm, loopQ_exit, loopQ_ret, sqQ_norm, sqQ_ret, sqQ_exit, sx_block, blkQ_norm, blkQ_exit, blkQ_ret, sx_cond, cdP_true, cdP_false, cdP_bool, sx_region, sx_draw, plainD, List.all_cons, List.all_nil, List.isEmpty_nil, List.isEmpty_cons, sxo_nil, sxo_cons, sxo_guard, gdS_bool, gdS_eff, gdS_tup, gdS_sel, gdS_seleff, sxK_def, wcall_some, effP_ret, effP_set, effP_none, effP_ite, wop_call, wop_cv, cvP_func, sx_ret, sx_exit, sx_skip, sx_clr, stays, ↓selV_wt, ↓selV_wf, ↓impB_wt, ↓impB_wf, ↓selV_nor, ↓impB_nor, ↓selV_nt, ↓selV_nf, ↓impB_nt, ↓impB_nf, wantB_true, wantB_false, ↓selV_true, ↓selV_false, ↓selV_and, ↓impB_true, ↓impB_false, ↓impB_and, impB_triv, valOf_some, retH_some, ↓prim_pick, pickO_true, pickO_false, pickO_and, pickO_or, pickO_andr, pickO_orr, pickO_orrn, pickO_orn, pickO_bb, pickAnd_bool, pickOr_bool, ↓selV_nn, ↓impB_nn, Bool.and_assoc, Bool.or_assoc, doOp, ev_fr, ev_cst, put_none, put_fr, get, ins, del, dels, Nat.reduceLT, Nat.reduceEqDiff, ↓reduceIte, reduceCtorEq, ne_eq, not_false_eq_true, implies_true, framed_pureF, framed_fb, framed_N, framed_pure, wop_prim, prim, mkA, V.cells, List.getElem?_cons_zero, List.getElem?_cons_succ, List.set_cons_zero, List.set_cons_succ, Nat.zero_add, Nat.add_zero, Nat.reduceAdd, Nat.reduceSub, Nat.reduceMul, Nat.reduceLeDiff, Nat.not_lt_zero, List.map_cons, List.map_nil, List.cons_append, List.nil_append, loadA, cellsAt, nAg, packA, opt_bind_some, opt_map_some, opt_bind_none, opt_map_none, List.drop, List.take, List.head?, List.length_cons, List.length_nil, binA, unA, eqCells, eqCell, negB, fillA, sr_nil, sr_cons, sr_succ, sr_all, sr_len, storeA, Ob.with, indexedI, V.oneCell, intOf?, retQ_ret, retQ_norm, resA, resA1, fr_getD, packR, sealDepth, shut_bool, shut_int, Option.some.injEq, V.bool.injEq, V.int.injEq, Bool.not_true, Bool.not_false, true_and, and_true, and_self, Bool.and_true, Bool.and_false, Bool.true_and, Bool.false_and, Bool.or_true, Bool.or_false, Bool.true_or, Bool.false_or, Bool.false_eq_true, Int.reduceLT, Int.reduceLE, Int.reduceToNat, Int.reduceNeg, shut_plain, freeL_cons, freeL_nil, free_int, free_bool, free_agg, free_str, free_nils, free_tup, free_sl, true_implies, false_implies, Nat.sub_zero, Int.natCast_nonneg, Int.toNat_natCast, Nat.le_refl, not_true_eq_false, Int.reduceAdd, Int.reduceSub, Int.reduceMul, wrap64, false_and, and_false, cond_true, cond_false, Bool.cond_true_left, Bool.cond_false_right, Int.reduceBNe, Int.reduceBEq, decide_true, decide_false, Int.cast_ofNat_Int, Nat.mul_one, eq_self, Bool.true_eq_false, Bool.not_eq_true, Bool.not_eq_false, deads, List.replicate, argsF, hlA, isNil, g1, g2, hat', c19, w4, hi1, hi2, hi3]
    refine ⟨_, _, [a', b], rfl, .inr ⟨a', b, w', rfl, rfl, hw', ha', hb', hab', rfl⟩, hQ.keep (fun o ho hlt => hoth o ?_ ?_ hlt), ?_⟩
    · rintro rfl; exact hdis _ (by simp) ho
    · rintro rfl; exact hdis _ (by simp) ho
    · intro o ho ho'
      simp only [List.mem_cons, List.not_mem_nil, or_false] at ho
      rcases ho with rfl | rfl
      · rcases haa with rfl | haa
        · exact hdis _ (by simp) ho'
        · have := hQ.lt _ ho'
          omega
      · exact hdis _ (by simp) ho'
  | false =>
    clear hnbv
    simp +contextual -implicitDefEqProofs (maxSteps := 10000000) only [sx_seq, sxL_succ, lpQ_norm, lpQ_exit, lpQ_ret, loopQ_norm, loopQ_exit, loopQ_ret, sqQ_norm, sqQ_ret, sqQ_exit, sx_block, blkQ_norm, blkQ_exit, blkQ_ret, sx_cond, cdP_true, cdP_false, cdP_bool, sx_region, sx_draw, plainD, List.all_cons, List.all_nil, List.isEmpty_nil, List.isEmpty_cons, sxo_nil, sxo_cons, sxo_guard, gdS_bool, gdS_eff, gdS_tup, gdS_sel, gdS_seleff, sxK_def, wcall_some, effP_ret, effP_set, effP_none, effP_ite, wop_call, wop_cv, cvP_func, sx_ret, sx_exit, sx_skip, sx_clr, stays, ↓selV_wt, ↓selV_wf, ↓impB_wt, ↓impB_wf, ↓selV_nor, ↓impB_nor, ↓selV_nt, ↓selV_nf, ↓impB_nt, ↓impB_nf, wantB_true, wantB_false, ↓selV_true, ↓selV_false, ↓selV_and, ↓impB_true, ↓impB_false, ↓impB_and, impB_triv, valOf_some, retH_some, ↓prim_pick, pickO_true, pickO_false, pickO_and, pickO_or, pickO_andr, pickO_orr, pickO_orrn, pickO_orn, pickO_bb, pickAnd_bool, pickOr_bool, ↓selV_nn, ↓impB_nn, Bool.and_assoc, Bool.or_assoc, doOp, ev_fr, ev_cst, put_none, put_fr, get, ins, del, dels, Nat.reduceLT, Nat.reduceEqDiff, ↓reduceIte, reduceCtorEq, ne_eq, not_false_eq_true, implies_true, framed_pureF, framed_fb, framed_N, framed_pure, wop_prim, prim, mkA, V.cells, List.getElem?_cons_zero, List.getElem?_cons_succ, List.set_cons_zero, List.set_cons_succ, Nat.zero_add, Nat.add_zero, Nat.reduceAdd, Nat.reduceSub, Nat.reduceMul, Nat.reduceLeDiff, Nat.not_lt_zero, List.map_cons, List.map_nil, List.cons_append, List.nil_append, loadA, cellsAt, nAg, packA, opt_bind_some, opt_map_some, opt_bind_none, opt_map_none, List.drop, List.take, List.head?, List.length_cons, List.length_nil, binA, unA, eqCells, eqCell, negB, fillA, sr_nil, sr_cons, sr_succ, sr_all, sr_len, storeA, Ob.with, indexedI, V.oneCell, intOf?, retQ_ret, retQ_norm, resA, resA1, fr_getD, packR, sealDepth, shut_bool, shut_int, Option.some.injEq, V.bool.injEq, V.int.injEq, Bool.not_true, Bool.not_false, true_and, and_true, and_self, Bool.and_true, Bool.and_false, Bool.true_and, Bool.false_and, Bool.or_true, Bool.or_false, Bool.true_or, Bool.false_or, Bool.false_eq_true, Int.reduceLT, Int.reduceLE, Int.reduceToNat, Int.reduceNeg, shut_plain, freeL_cons, freeL_nil, free_int, free_bool, free_agg, free_str, free_nils, free_tup, free_sl, true_implies, false_implies, Nat.sub_zero, Int.natCast_nonneg, Int.toNat_natCast, Nat.le_refl, not_true_eq_false, Int.reduceAdd, Int.reduceSub, Int.reduceMul, wrap64, false_and, and_false, cond_true, cond_false, Bool.cond_true_left, Bool.cond_false_right, Int.reduceBNe, Int.reduceBEq, decide_true, decide_false, Int.cast_ofNat_Int, Nat.mul_one, eq_self, Bool.true_eq_false, Bool.not_eq_true, Bool.not_eq_false, deads, List.replicate, argsF, hlA, hnb', hc]
    clear hc hnb' nb
    refine sx_loop (fun i t H => ∃ y q ys, t = fr 124 [(2, m), (7, u), (9, y), (11, v), (12, q), (13, .bool true), (15, .int .i64 i)] ∧ i ≤ B.length ∧ i ≤ 60 ∧ Pr H u v xs ∧ Pr H y q ys ∧ ∀ o ∈ xs, o ∉ ys) (min B.length 60) (by show _ < N; omega)
      ⟨y, q, ys, rfl, by omega, by omega, hP, hQ, hdis⟩ ?_
    clear hP hQ hdis
    rintro i t H hi ⟨y, q, ys, rfl, hiA, hi6, hP, hQ, hdis⟩
    obtain ⟨nb, hnb', hnbv⟩ := hQ.nil
    cases hc : (decide ((i : Int) < (B.length : Int)) && (decide ((i : Int) < 60) && !nb)) with
    | true =>
      simp only [Bool.and_eq_true, decide_eq_true_eq, Bool.not_eq_true'] at hc
      obtain ⟨h1, h2, rfl⟩ := hc
      obtain ⟨a, b, w, rfl, rfl, hw, ha, hb, hab, rfl⟩ := hnbv rfl
      have hltA : i < B.length := by omega
      have g1 : decide ((i : Int) < (B.length : Int)) = true := decide_eq_true h1
      have g2 : decide ((i : Int) < 60) = true := decide_eq_true h2
      obtain ⟨s, hs⟩ : ∃ s, B[i]? = some s := ⟨_, List.getElem?_eq_getElem hltA⟩
      have hat := hm.at_ i
      rw [List.getElem?_map, hs] at hat
      have hat' : iaddrSA 5 m (.int .i64 i) = some (.ret (.iptr [.int .i64 s.k, .int .i64 s.n, .int .i64 s.e, .int .i64 s.b, .int .i64 s.r] 0)) := hat
      have w4 : IntKind.i64.wrap ((i : Int) + 1) = ((i + 1 : Nat) : Int) := (wrap64 (by omega) (by omega)).trans (by omega)
      obtain ⟨v', h', c19, ⟨a', w', rfl, hw', ha', hb', hab', haa⟩, hlen, hoth⟩ := @do_spec N n (by omega) w hw s.k s.n s.e s.b s.r a b H ha hb hab
      have hi1 : i + 1 ≤ B.length := by omega
      have hi2 : i + 1 ≤ 60 := by omega
      have hi3 : i < min B.length 60 := by omega
      simp +contextual -implicitDefEqProofs (maxSteps := 10000000) only [sx_seq, sxL_succ, lpQ_norm, lpQ_exit, lpQ_ret, loopQ_norm, loopQ_exit, loopQ_ret, sqQ_norm, sqQ_ret, sqQ_exit, sx_block, blkQ_norm, blkQ_exit, blkQ_ret, sx_cond, cdP_true, cdP_false, cdP_bool, sx_region, sx_draw, plainD, List.all_cons, List.all_nil, List.isEmpty_nil, List.isEmpty_cons, sxo_nil, sxo_cons, sxo_guard, gdS_bool, gdS_eff, gdS_tup, gdS_sel, gdS_seleff, sxK_def, wcall_some, effP_ret, effP_set, effP_none, effP_ite, wop_call, wop_cv, cvP_func, sx_ret, sx_exit, sx_skip, sx_clr, stays, ↓selV_wt, ↓selV_wf, ↓impB_wt, ↓impB_wf, ↓selV_nor, ↓impB_nor, ↓selV_nt, ↓selV_nf, ↓impB_nt, ↓impB_nf, wantB_true, wantB_false, ↓selV_true, ↓selV_false, ↓selV_and, ↓impB_true, ↓impB_false, ↓impB_and, impB_triv, valOf_some, retH_some, ↓prim_pick, pickO_true, pickO_false, pickO_and, pickO_or, pickO_andr, pickO_orr, pickO_orrn, pickO_orn, pickO_bb, pickAnd_bool, pickOr_bool, ↓selV_nn, ↓impB_nn, Bool.and_assoc, Bool.or_assoc, doOp, ev_fr, ev_cst, put_none, put_fr, get, ins, del, dels, Nat.reduceLT, Nat.reduceEqDiff, ↓reduceIte, reduceCtorEq, ne_eq, not_false_eq_true, implies_true, framed_pureF, framed_fb, framed_N, framed_pure, wop_prim, prim, mkA, V.cells, List.getElem?_cons_zero, List.getElem?_cons_succ, List.set_cons_zero, List.set_cons_succ, Nat.zero_add, Nat.add_zero, Nat.reduceAdd, Nat.reduceSub, Nat.reduceMul, Nat.reduceLeDiff, Nat.not_lt_zero, List.map_cons, List.map_nil, List.cons_append, List.nil_append, loadA, cellsAt, nAg, packA, opt_bind_some, opt_map_some, opt_bind_none, opt_map_none, List.drop, List.take, List.head?, List.length_cons, List.length_nil, binA, unA, eqCells, eqCell, negB, fillA, sr_nil, sr_cons, sr_succ, sr_all, sr_len, storeA, Ob.with, indexedI, V.oneCell, intOf?, retQ_ret, retQ_norm, resA, resA1, fr_getD, packR, sealDepth, shut_bool, shut_int, Option.some.injEq, V.bool.injEq, V.int.injEq, Bool.not_true, Bool.not_false, true_and, and_true, and_self, Bool.and_true, Bool.and_false, Bool.true_and, Bool.false_and, Bool.or_true, Bool.or_false, Bool.true_or, Bool.false_or, Bool.false_eq_true, Int.reduceLT, Int.reduceLE, Int.reduceToNat, Int.reduceNeg, shut_plain, freeL_cons, freeL_nil, free_int, free_bool, free_agg, free_str, free_nils, free_tup, free_sl, true_implies, false_implies, Nat.sub_zero, Int.natCast_nonneg, Int.toNat_natCast, Nat.le_refl, not_true_eq_false, Int.reduceAdd, Int.reduceSub, Int.reduceMul, wrap64, false_and, and_false, cond_true, cond_false, Bool.cond_true_left, Bool.cond_false_right, Int.reduceBNe, Int.reduceBEq, decide_true, decide_false, Int.cast_ofNat_Int, Nat.mul_one, eq_self, Bool.true_eq_false, Bool.not_eq_true, Bool.not_eq_false, deads, List.replicate, argsF, hlB, isNil, g1, g2, hat', c19, w4, hi1, hi2, hi3]
      refine ⟨_, _, [a', b], rfl, hP.keep (fun o ho hlt => hoth o ?_ ?_ hlt), .inr ⟨a', b, w', rfl, rfl, hw', ha', hb', hab', rfl⟩, ?_⟩
      · rintro rfl; exact hdis _ ho (by simp)
      · rintro rfl; exact hdis _ ho (by simp)
      · intro o ho ho'
        simp only [List.mem_cons, List.not_mem_nil, or_false] at ho'
        rcases ho' with rfl | rfl
        · rcases haa with rfl | haa
          · exact hdis _ ho (by simp)
          · have := hP.lt _ ho
            omega
        · exact hdis _ ho (by simp)
    | false =>
      clear hnbv
      obtain ⟨r, s1, s2⟩ := hP.same (N := N) (n := n) (by omega) hQ
      have s3 := hP.self (N := N) (n := n) (by omega)
      simp +contextual -implicitDefEqProofs (maxSteps := 10000000) only [sx_seq, sxL_succ, lpQ_norm, lpQ_exit, lpQ_ret, loopQ_norm, loopQ_exit, loopQ_ret, sqQ_norm, sqQ_ret, sqQ_exit, sx_block, blkQ_norm, blkQ_exit, blkQ_ret, sx_cond, cdP_true, cdP_false, cdP_bool, sx_region, sx_draw, plainD, List.all_cons, List.all_nil, List.isEmpty_nil, List.isEmpty_cons, sxo_nil, sxo_cons, sxo_guard, gdS_bool, gdS_eff, gdS_tup, gdS_sel, gdS_seleff, sxK_def, wcall_some, effP_ret, effP_set, effP_none, effP_ite, wop_call, wop_cv, cvP_func, sx_ret, sx_exit, sx_skip, sx_clr, stays, ↓selV_wt, ↓selV_wf, ↓impB_wt, ↓impB_wf, ↓selV_nor, ↓impB_nor, ↓selV_nt, ↓selV_nf, ↓impB_nt, ↓impB_nf, wantB_true, wantB_false, ↓selV_true, ↓selV_false, ↓selV_and, ↓impB_true, ↓impB_false, ↓impB_and, impB_triv, valOf_some, retH_some, ↓prim_pick, pickO_true, pickO_false, pickO_and, pickO_or, pickO_andr, pickO_orr, pickO_orrn, pickO_orn, pickO_bb, pickAnd_bool, pickOr_bool, ↓selV_nn, ↓impB_nn, Bool.and_assoc, Bool.or_assoc, doOp, ev_fr, ev_cst, put_none, put_fr, get, ins, del, dels, Nat.reduceLT, Nat.reduceEqDiff, ↓reduceIte, reduceCtorEq, ne_eq, not_false_eq_true, implies_true, framed_pureF, framed_fb, framed_N, framed_pure, wop_prim, prim, mkA, V.cells, List.getElem?_cons_zero, List.getElem?_cons_succ, List.set_cons_zero, List.set_cons_succ, Nat.zero_add, Nat.add_zero, Nat.reduceAdd, Nat.reduceSub, Nat.reduceMul, Nat.reduceLeDiff, Nat.not_lt_zero, List.map_cons, List.map_nil, List.cons_append, List.nil_append, loadA, cellsAt, nAg, packA, opt_bind_some, opt_map_some, opt_bind_none, opt_map_none, List.drop, List.take, List.head?, List.length_cons, List.length_nil, binA, unA, eqCells, eqCell, negB, fillA, sr_nil, sr_cons, sr_succ, sr_all, sr_len, storeA, Ob.with, indexedI, V.oneCell, intOf?, retQ_ret, retQ_norm, resA, resA1, fr_getD, packR, sealDepth, shut_bool, shut_int, Option.some.injEq, V.bool.injEq, V.int.injEq, Bool.not_true, Bool.not_false, true_and, and_true, and_self, Bool.and_true, Bool.and_false, Bool.true_and, Bool.false_and, Bool.or_true, Bool.or_false, Bool.true_or, Bool.false_or, Bool.false_eq_true, Int.reduceLT, Int.reduceLE, Int.reduceToNat, Int.reduceNeg, shut_plain, freeL_cons, freeL_nil, free_int, free_bool, free_agg, free_str, free_nils, free_tup, free_sl, true_implies, false_implies, Nat.sub_zero, Int.natCast_nonneg, Int.toNat_natCast, Nat.le_refl, not_true_eq_false, Int.reduceAdd, Int.reduceSub, Int.reduceMul, wrap64, false_and, and_false, cond_true, cond_false, Bool.cond_true_left, Bool.cond_false_right, Int.reduceBNe, Int.reduceBEq, decide_true, decide_false, Int.cast_ofNat_Int, Nat.mul_one, eq_self, Bool.true_eq_false, Bool.not_eq_true, Bool.not_eq_false, deads, List.replicate, argsF, hlB, hnb', hc, s1, s2, s3, c13, pm13, pm21, pm22, beq_self_eq_true]

def sizesSh : Sh := .arr 2 (.arr 2 (.int .i64))

theorem sizes_in {u : List V} (h : InSh sizesSh u) : ∃ a b c d : Int, u = [.int .i64 a, .int .i64 b, .int .i64 c, .int .i64 d] := by
  obtain ⟨us, hn, rfl, hu⟩ := h
  match us, hn with
  | [u1, u2], _ =>
    obtain ⟨a, b, rfl⟩ := size_in (hu u1 (by simp))
    obtain ⟨c, d, rfl⟩ := size_in (hu u2 (by simp))
    exact ⟨a, b, c, d, rfl⟩

theorem runsLeaseSame {u1 u2 u3 : V} (h1 : InP true sizesSh u1) (h2 : InP false (.sl true 5 stpSh) u2) (h3 : InP false (.sl true 5 stpSh) u3) : ∃ N n, callA am N n 6 [u1, u2, u3] [] = some (.bool true, []) := by
  obtain ⟨cs, rfl, h⟩ := h1
  obtain ⟨a, b, c, d, rfl⟩ := sizes_in h
  obtain ⟨A, hl, -⟩ := slice_in (f := Stp.cs) (fun u hu => stp_in hu) h2
  obtain ⟨B, hm, -⟩ := slice_in (f := Stp.cs) (fun u hu => stp_in hu) h3
  exact ⟨1000, 30, same_spec (by omega) (by omega) a b c d u2 u3 A B hl hm []⟩
end Go.Am.T
