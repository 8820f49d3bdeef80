import Derived.Test.YtojiebcpmkjblaaTv4
set_option linter.unusedVariables false
set_option linter.unusedSimpArgs false
set_option maxRecDepth 10000
namespace Go.Am.T
attribute [local congr] selV_congr impB_congr

theorem sl_part {S : List Int} {at_ len : Nat} (h : at_ + len ≤ S.length) : List.map (fun i => wrapV (List.take 1 (List.drop (at_ + i) (S.map (V.int .u8))))) (List.range (at_ + len - at_)) = ((S.drop at_).take len).map (V.int .u8) := by
  rw [Nat.add_sub_cancel_left]
  apply List.ext_getElem?
  intro i
  rcases Nat.lt_or_ge i len with hi | hi
  · rw [List.getElem?_map, List.getElem?_range hi, Option.map_some, List.getElem?_map, List.getElem?_take_of_lt hi, List.getElem?_drop, ints_at .u8 (by omega), List.getElem?_eq_getElem (by omega)]
    simp [wrapV, List.getD_eq_getElem?_getD, show at_ + i < S.length by omega]
  · rw [List.getElem?_eq_none (by simpa using hi), List.getElem?_eq_none (by simp; omega)]

theorem am34_wp {N n : Nat} {args args' : List V} {h : Heap} {v : V} (ha : args.length = 3) (hs : args.mapM (V.shut (fun o => h[o]?) sealDepth) = some args')
    (H : sx ⟨pureOf am, callA am N n, N, 0⟩ am34.body (fr am34.nt (argsF 0 args')) (deads am34.sites) (retQ am34.res fun x h' => x = v ∧ v.plain = true)) : callA am N (n + 1) 34 args h = some (v, h) :=
  call_look at34 rfl ha (by decide) hs (sx_wp H)

theorem shut_sec {h : Heap} {o off : Nat} {S : List Int} (ha : h[o]? = some ⟨1, .var (S.map (V.int .u8))⟩) : V.shut (fun o => h[o]?) sealDepth (.ptr o 1 off) = some (.iptr (S.map (V.int .u8)) off) := by
  have e : V.shut (fun o => h[o]?) sealDepth (.ptr o 1 off) = match cellsAt (fun o => h[o]?) o 1 with
      | some all => (all.mapM (V.shut (fun o => h[o]?) 63)).map fun cs => .iptr cs off
      | none => none := rfl
  rw [e]
  simp only [cellsAt, ha, ↓reduceIte]
  rw [mapM_shut_id (freeL_ints _ _)]
  rfl

set_option maxHeartbeats 1000000 in
theorem take_spec {N n : Nat} (hN : 20 ≤ N) (hn : 1 ≤ n) {S : List Int} (hS : S.length = 64) (hb : Bytes S) (a l : Int) (at_ len : Nat) (hA : a = (at_ : Int)) (hL : l = (len : Int)) (hal : at_ + len ≤ 64) (hl8 : len ≤ 8) {o : Nat} {h : Heap} (ho : h[o]? = some ⟨1, .var (S.map (V.int .u8))⟩) :
    callA am N n 34 [.int .i64 a, .int .i64 l, .ptr o 1 0] h = some (.int .i64 (numF ((S.drop at_).take len)), h) := by
  subst hA hL
  obtain ⟨n, rfl⟩ : ∃ m, n = m + 1 := ⟨n - 1, by omega⟩
  refine am34_wp (args' := [.int .i64 at_, .int .i64 len, .iptr (S.map (V.int .u8)) 0]) rfl (by rw [List.mapM_cons, List.mapM_cons, List.mapM_cons, shut_sec ho]; rfl) ?_
  have hp := @sl_part S at_ len (by omega)
  have w0 : IntKind.i64.wrap ((at_ : Int) + (len : Int)) = ((at_ + len : Nat) : Int) := (wrap64 (by omega) (by omega)).trans (by omega)
  have i1 : ((at_ + len : Nat) : Int) ≤ 64 := by omega
  have i2 : (at_ : Int) ≤ ((at_ + len : Nat) : Int) := by omega
  have hlm : (S.map (V.int .u8)).length = 64 := by rw [List.length_map, hS]
  have o1 := allOne_ints .u8 S
  obtain ⟨T, hT⟩ : ∃ T, T = (S.drop at_).take len := ⟨_, rfl⟩
  have hTl : T.length = len := by rw [hT]; simp; omega
  have hTb : Bytes T := fun x hx => hb x (List.mem_of_mem_drop (List.mem_of_mem_take (by rw [← hT]; exact hx)))
  rw [← hT] at hp ⊢
  obtain ⟨C, hC⟩ : ∃ C, C = some (64 - at_) := ⟨_, rfl⟩
  have hln : lenA (.sl (T.map (V.int .u8)) 1 C) = some len := by simp [lenA, hTl]
  have hstr : ∀ b, V.sl (T.map (V.int .u8)) 1 C ≠ .str b := fun b h => by cases h
  have hC' := hC.symm
  simp +contextual -implicitDefEqProofs (maxSteps := 10000000) only [sx_seq, sxL_succ, lpQ_norm, lpQ_exit, lpQ_ret, loopQ_norm, loopQ_exit, loopQ_ret, sqQ_norm, sqQ_ret, sqQ_exit, sx_block, blkQ_norm, blkQ_exit, blkQ_ret, sx_cond, cdP_true, cdP_false, cdP_bool, sx_region, sx_draw, plainD, List.all_cons, List.all_nil, List.isEmpty_nil, List.isEmpty_cons, sxo_nil, sxo_cons, sxo_guard, gdS_bool, gdS_eff, gdS_tup, gdS_sel, gdS_seleff, sxK_def, wcall_some, effP_ret, effP_set, effP_none, effP_ite, wop_call, wop_cv, cvP_func, sx_ret, sx_exit, sx_skip, sx_clr, stays, ↓selV_wt, ↓selV_wf, ↓impB_wt, ↓impB_wf, ↓selV_nor, ↓impB_nor, ↓selV_nt, ↓selV_nf, ↓impB_nt, ↓impB_nf, wantB_true, wantB_false, ↓selV_true, ↓selV_false, ↓selV_and, ↓impB_true, ↓impB_false, ↓impB_and, impB_triv, valOf_some, retH_some, ↓prim_pick, pickO_true, pickO_false, pickO_and, pickO_or, pickO_andr, pickO_orr, pickO_orrn, pickO_orn, pickO_bb, pickAnd_bool, pickOr_bool, ↓selV_nn, ↓impB_nn, Bool.and_assoc, Bool.or_assoc, doOp, ev_fr, ev_cst, put_none, put_fr, get, ins, del, dels, Nat.reduceLT, Nat.reduceEqDiff, ↓reduceIte, reduceCtorEq, ne_eq, not_false_eq_true, implies_true, framed_pureF, framed_fb, framed_N, framed_pure, wop_prim, prim, YLD, mkA, V.cells, List.getElem?_cons_zero, List.getElem?_cons_succ, List.set_cons_zero, List.set_cons_succ, Nat.zero_add, Nat.add_zero, Nat.reduceAdd, Nat.reduceSub, Nat.reduceMul, Nat.reduceLeDiff, Nat.not_lt_zero, List.map_cons, List.map_nil, List.cons_append, List.nil_append, loadA, cellsAt, nAg, packA, opt_bind_some, opt_map_some, opt_bind_none, opt_map_none, List.drop, List.take, List.head?, List.length_cons, List.length_nil, binA, unA, eqCells, eqCell, negB, fillA, sr_nil, sr_cons, sr_succ, sr_all, sr_len, storeA, Ob.with, indexedI, V.oneCell, intOf?, retQ_ret, retQ_norm, resA, resA1, fr_getD, packR, sealDepth, shut_bool, shut_int, Option.some.injEq, V.bool.injEq, V.int.injEq, Bool.not_true, Bool.not_false, true_and, and_true, and_self, Bool.and_true, Bool.and_false, Bool.true_and, Bool.false_and, Bool.or_true, Bool.or_false, Bool.true_or, Bool.false_or, Bool.false_eq_true, Int.reduceLT, Int.reduceLE, Int.reduceToNat, Int.reduceNeg, shut_plain, freeL_cons, freeL_nil, free_int, free_bool, free_agg, free_str, free_nils, free_tup, free_sl, true_implies, false_implies, Nat.sub_zero, Int.natCast_nonneg, Int.toNat_natCast, Nat.le_refl, not_true_eq_false, Int.reduceAdd, Int.reduceSub, Int.reduceMul, wrap64, false_and, and_false, cond_true, cond_false, Bool.cond_true_left, Bool.cond_false_right, Int.reduceBNe, Int.reduceBEq, decide_true, decide_false, Int.cast_ofNat_Int, Nat.mul_one, eq_self, Bool.true_eq_false, Bool.not_eq_true, Bool.not_eq_false, deads, List.replicate, argsF, am34, w0, boundsA, Option.isNone, i1, i2, hlm, o1, hp, hC', hln]
  refine sx_loop (fun i t k => t = fr 26 [(6, .int .i64 (numF (T.take i))), (13, .sl (T.map (V.int .u8)) 1 C), (14, .int .i64 len), (15, .int .i64 i)] ∧ i ≤ len ∧ k = []) len (by show len < N; omega) ⟨rfl, by omega, rfl⟩ ?_
  rintro i t k hi ⟨rfl, hil, rfl⟩
  by_cases hlt : i < len
  · have d1 : decide ((i : Int) < (len : Int)) = true := decide_eq_true (by omega)
    have hltT : i < T.length := by omega
    have hat : iaddrSA 1 (.sl (T.map (V.int .u8)) 1 C) (.int .i64 i) = some (.ret (.iptr [.int .u8 (T.getD i 0)] 0)) := by
      have h1 : (i : Int) < ((T.map (V.int .u8)).length : Int) := by rw [List.length_map]; omega
      simp only [iaddrSA, indexedI, ↓reduceIte, Int.natCast_nonneg, h1, Int.toNat_natCast, Option.bind_some, List.getElem?_map, List.getElem?_eq_getElem hltT, Option.map_some]
      simp [List.getD_eq_getElem?_getD, hltT, V.cells]
    have hc : 0 ≤ T.getD i 0 ∧ T.getD i 0 ≤ 255 := by
      have : T.getD i 0 = T[i] := by simp [List.getD_eq_getElem?_getD, hltT]
      rw [this]
      exact hTb _ (List.getElem_mem hltT)
    have hw : IntKind.i64.wrap (T.getD i 0) = T.getD i 0 := wrap64 (by omega) (by omega)
    have m1 : min 8 IntKind.i64.bits = 8 := rfl
    have ho := or_byte (numF (T.take i)) hc
    unfold orI at ho
    rw [numF_take hltT] at ho
    have w4 : IntKind.i64.wrap ((i : Int) + 1) = ((i + 1 : Nat) : Int) := (wrap64 (by omega) (by omega)).trans (by omega)
    have hi1 : i + 1 ≤ len := by omega
    simp +contextual -implicitDefEqProofs (maxSteps := 10000000) only [sx_seq, sxL_succ, lpQ_norm, lpQ_exit, lpQ_ret, loopQ_norm, loopQ_exit, loopQ_ret, sqQ_norm, sqQ_ret, sqQ_exit, sx_block, blkQ_norm, blkQ_exit, blkQ_ret, sx_cond, cdP_true, cdP_false, cdP_bool, sx_region, sx_draw, plainD, List.all_cons, List.all_nil, List.isEmpty_nil, List.isEmpty_cons, sxo_nil, sxo_cons, sxo_guard, gdS_bool, gdS_eff, gdS_tup, gdS_sel, gdS_seleff, sxK_def, wcall_some, effP_ret, effP_set, effP_none, effP_ite, wop_call, wop_cv, cvP_func, sx_ret, sx_exit, sx_skip, sx_clr, stays, ↓selV_wt, ↓selV_wf, ↓impB_wt, ↓impB_wf, ↓selV_nor, ↓impB_nor, ↓selV_nt, ↓selV_nf, ↓impB_nt, ↓impB_nf, wantB_true, wantB_false, ↓selV_true, ↓selV_false, ↓selV_and, ↓impB_true, ↓impB_false, ↓impB_and, impB_triv, valOf_some, retH_some, ↓prim_pick, pickO_true, pickO_false, pickO_and, pickO_or, pickO_andr, pickO_orr, pickO_orrn, pickO_orn, pickO_bb, pickAnd_bool, pickOr_bool, ↓selV_nn, ↓impB_nn, Bool.and_assoc, Bool.or_assoc, doOp, ev_fr, ev_cst, put_none, put_fr, get, ins, del, dels, Nat.reduceLT, Nat.reduceEqDiff, ↓reduceIte, reduceCtorEq, ne_eq, not_false_eq_true, implies_true, framed_pureF, framed_fb, framed_N, framed_pure, wop_prim, prim, YLD, mkA, V.cells, List.getElem?_cons_zero, List.getElem?_cons_succ, List.set_cons_zero, List.set_cons_succ, Nat.zero_add, Nat.add_zero, Nat.reduceAdd, Nat.reduceSub, Nat.reduceMul, Nat.reduceLeDiff, Nat.not_lt_zero, List.map_cons, List.map_nil, List.cons_append, List.nil_append, loadA, cellsAt, nAg, packA, opt_bind_some, opt_map_some, opt_bind_none, opt_map_none, List.drop, List.take, List.head?, List.length_cons, List.length_nil, binA, unA, eqCells, eqCell, negB, fillA, sr_nil, sr_cons, sr_succ, sr_all, sr_len, storeA, Ob.with, indexedI, V.oneCell, intOf?, retQ_ret, retQ_norm, resA, resA1, fr_getD, packR, sealDepth, shut_bool, shut_int, Option.some.injEq, V.bool.injEq, V.int.injEq, Bool.not_true, Bool.not_false, true_and, and_true, and_self, Bool.and_true, Bool.and_false, Bool.true_and, Bool.false_and, Bool.or_true, Bool.or_false, Bool.true_or, Bool.false_or, Bool.false_eq_true, Int.reduceLT, Int.reduceLE, Int.reduceToNat, Int.reduceNeg, shut_plain, freeL_cons, freeL_nil, free_int, free_bool, free_agg, free_str, free_nils, free_tup, free_sl, true_implies, false_implies, Nat.sub_zero, Int.natCast_nonneg, Int.toNat_natCast, Nat.le_refl, not_true_eq_false, Int.reduceAdd, Int.reduceSub, Int.reduceMul, wrap64, false_and, and_false, cond_true, cond_false, Bool.cond_true_left, Bool.cond_false_right, Int.reduceBNe, Int.reduceBEq, decide_true, decide_false, Int.cast_ofNat_Int, Nat.mul_one, eq_self, Bool.true_eq_false, Bool.not_eq_true, Bool.not_eq_false, deads, List.replicate, argsF, d1, hat, hw, m1, Int.reduceToNat, ho, w4, hi1, hlt]
  · have e : i = len := by omega
    subst e
    have d1 : decide ((i : Int) < (i : Int)) = false := decide_eq_false (by omega)
    have tk : T.take i = T := List.take_of_length_le (by omega)
    simp +contextual -implicitDefEqProofs (maxSteps := 10000000) only [sx_seq, sxL_succ, lpQ_norm, lpQ_exit, lpQ_ret, loopQ_norm, loopQ_exit, loopQ_ret, sqQ_norm, sqQ_ret, sqQ_exit, sx_block, blkQ_norm, blkQ_exit, blkQ_ret, sx_cond, cdP_true, cdP_false, cdP_bool, sx_region, sx_draw, plainD, List.all_cons, List.all_nil, List.isEmpty_nil, List.isEmpty_cons, sxo_nil, sxo_cons, sxo_guard, gdS_bool, gdS_eff, gdS_tup, gdS_sel, gdS_seleff, sxK_def, wcall_some, effP_ret, effP_set, effP_none, effP_ite, wop_call, wop_cv, cvP_func, sx_ret, sx_exit, sx_skip, sx_clr, stays, ↓selV_wt, ↓selV_wf, ↓impB_wt, ↓impB_wf, ↓selV_nor, ↓impB_nor, ↓selV_nt, ↓selV_nf, ↓impB_nt, ↓impB_nf, wantB_true, wantB_false, ↓selV_true, ↓selV_false, ↓selV_and, ↓impB_true, ↓impB_false, ↓impB_and, impB_triv, valOf_some, retH_some, ↓prim_pick, pickO_true, pickO_false, pickO_and, pickO_or, pickO_andr, pickO_orr, pickO_orrn, pickO_orn, pickO_bb, pickAnd_bool, pickOr_bool, ↓selV_nn, ↓impB_nn, Bool.and_assoc, Bool.or_assoc, doOp, ev_fr, ev_cst, put_none, put_fr, get, ins, del, dels, Nat.reduceLT, Nat.reduceEqDiff, ↓reduceIte, reduceCtorEq, ne_eq, not_false_eq_true, implies_true, framed_pureF, framed_fb, framed_N, framed_pure, wop_prim, prim, YLD, mkA, V.cells, List.getElem?_cons_zero, List.getElem?_cons_succ, List.set_cons_zero, List.set_cons_succ, Nat.zero_add, Nat.add_zero, Nat.reduceAdd, Nat.reduceSub, Nat.reduceMul, Nat.reduceLeDiff, Nat.not_lt_zero, List.map_cons, List.map_nil, List.cons_append, List.nil_append, loadA, cellsAt, nAg, packA, opt_bind_some, opt_map_some, opt_bind_none, opt_map_none, List.drop, List.take, List.head?, List.length_cons, List.length_nil, binA, unA, eqCells, eqCell, negB, fillA, sr_nil, sr_cons, sr_succ, sr_all, sr_len, storeA, Ob.with, indexedI, V.oneCell, intOf?, retQ_ret, retQ_norm, resA, resA1, fr_getD, packR, sealDepth, shut_bool, shut_int, Option.some.injEq, V.bool.injEq, V.int.injEq, Bool.not_true, Bool.not_false, true_and, and_true, and_self, Bool.and_true, Bool.and_false, Bool.true_and, Bool.false_and, Bool.or_true, Bool.or_false, Bool.true_or, Bool.false_or, Bool.false_eq_true, Int.reduceLT, Int.reduceLE, Int.reduceToNat, Int.reduceNeg, shut_plain, freeL_cons, freeL_nil, free_int, free_bool, free_agg, free_str, free_nils, free_tup, free_sl, true_implies, false_implies, Nat.sub_zero, Int.natCast_nonneg, Int.toNat_natCast, Nat.le_refl, not_true_eq_false, Int.reduceAdd, Int.reduceSub, Int.reduceMul, wrap64, false_and, and_false, cond_true, cond_false, Bool.cond_true_left, Bool.cond_false_right, Int.reduceBNe, Int.reduceBEq, decide_true, decide_false, Int.cast_ofNat_Int, Nat.mul_one, eq_self, Bool.true_eq_false, Bool.not_eq_true, Bool.not_eq_false, deads, List.replicate, argsF, d1, tk, plain_int]

theorem take_framed {N n fb : Nat} (hN : 20 ≤ N) (hn : 1 ≤ n) {S : List Int} (hS : S.length = 64) (hb : Bytes S) (a l : Int) (at_ len : Nat) (hA : a = (at_ : Int)) (hL : l = (len : Int)) (hal : at_ + len ≤ 64) (hl8 : len ≤ 8) {o : Nat} {h : Heap} (ho : h[o]? = some ⟨1, .var (S.map (V.int .u8))⟩) :
    ({ pureF := pureOf am, call := callA am N n, N := N, fb := fb } : Env).framed.call 34 [.int .i64 a, .int .i64 l, .ptr o 1 0] h = some (.int .i64 (numF ((S.drop at_).take len)), h) := by
  have hf : flatIn (V.objsL [.int .i64 a, .int .i64 l, .ptr o 1 0]) h = true := by
    have e : V.objsL [.int .i64 a, .int .i64 l, .ptr o 1 0] = [o] := rfl
    simp only [flatIn, e, List.all_cons, ho, Bd.objs, objsL_ints, List.isEmpty_nil, List.all_nil, Bool.and_self]
  have hy : ¬ (34 : Nat) = YLD := by decide
  simp only [Env.framed, frameC, if_neg hy, pm34, hf, ↓reduceIte]
  exact take_spec hN hn hS hb a l at_ len hA hL hal hl8 ho

/-! ### What a sector says -/

def byt (S : List Int) (k : Nat) : Int := S.getD k 0
def saidM (S : List Int) : List (Bool × Int) := (List.range 8).map fun i => (byt S 3 / 2 ^ i % 2 == 1, numF ((S.drop (12 + 4 * i)).take 4))
def saidV (S : List Int) : Vw := ⟨numF ((S.drop 4).take 8), byt S 1 == 1, byt S 2, saidM S⟩

theorem saidM_len (S : List Int) : (saidM S).length = 8 := by simp [saidM]
theorem saidM_get (S : List Int) {i : Nat} (hi : i < 8) : (saidM S)[i]? = some (byt S 3 / 2 ^ i % 2 == 1, numF ((S.drop (12 + 4 * i)).take 4)) := by
  rw [saidM, List.getElem?_map, List.getElem?_range hi]; rfl

def okV (S : List Int) : Bool := mayV (saidV S) && decide (putV (saidV S) = S)
def getV (S : List Int) : Vw × Int := if S = List.replicate 64 0 then (firstV, 0) else if okV S = true then (saidV S, 0) else (zV, 12)

theorem getV_len (S : List Int) : (getV S).1.M.length = 8 := by
  unfold getV
  split
  · rfl
  · split
    · exact saidM_len S
    · rfl

/-- The first i members of a row, and noughts. -/
def partM (ms : List (Bool × Int)) (i : Nat) : List (Bool × Int) := ms.take i ++ List.replicate (8 - i) (false, 0)

theorem partM_len {ms : List (Bool × Int)} (h : ms.length = 8) {i : Nat} (hi : i ≤ 8) : (partM ms i).length = 8 := by
  simp [partM, h]; omega

theorem partM_at {ms : List (Bool × Int)} (h : ms.length = 8) {i : Nat} (hi : i < 8) : (partM ms i)[i]? = some (false, 0) := by
  have : (ms.take i).length = i := by simp; omega
  rw [partM, List.getElem?_append_right (by omega), this, Nat.sub_self, List.getElem?_replicate, if_pos (by omega)]

theorem partM_set {ms : List (Bool × Int)} (h : ms.length = 8) {i : Nat} {m : Bool × Int} (hm : ms[i]? = some m) : (partM ms i).set i m = partM ms (i + 1) := by
  have hi : i < 8 := by have := (List.getElem?_eq_some_iff.1 hm).1; omega
  have hl : (ms.take i).length = i := by simp; omega
  unfold partM
  rw [List.set_append_right _ _ (by omega), hl, Nat.sub_self, show 8 - i = (8 - (i + 1)) + 1 by omega, List.replicate_succ, List.set_cons_zero, List.take_add_one, hm]
  simp

theorem byt_rd {S : List Int} (hS : S.length = 64) {k : Nat} (hk : k < 64) : List.take 1 (List.drop k (S.map (V.int .u8))) = [.int .u8 (byt S k)] := ints_at .u8 (by omega)

theorem byt_bounds {S : List Int} (hS : S.length = 64) (hb : Bytes S) {k : Nat} (hk : k < 64) : 0 ≤ byt S k ∧ byt S k ≤ 255 := by
  have : byt S k = S[k] := by simp [byt, List.getD_eq_getElem?_getD, show k < S.length by omega]
  rw [this]
  exact hb _ (List.getElem_mem _)

theorem and_one {x : Int} (h0 : 0 ≤ x) (h1 : x ≤ 255) : IntKind.u8.wrap (((BitVec.ofInt IntKind.u8.bits x) &&& (BitVec.ofInt IntKind.u8.bits 1)).toNat : Int) = x % 2 := by
  obtain ⟨m, rfl⟩ := Int.eq_ofNat_of_zero_le h0
  have hb : IntKind.u8.bits = 8 := rfl
  rw [hb]
  have e1 : (BitVec.ofInt 8 (m : Int)).toNat = m := by rw [BitVec.ofInt_natCast, BitVec.toNat_ofNat, Nat.mod_eq_of_lt (by omega)]
  have e2 : (BitVec.ofInt 8 1).toNat = 1 := rfl
  rw [BitVec.toNat_and, e1, e2, Nat.and_one_is_mod, wrap8 (by omega) (by omega)]
  omega

theorem bits_shr {b : Int} {i : Nat} (hi : i < 8) : b.fdiv (2 ^ min i IntKind.u8.bits) = b / 2 ^ i := by
  rw [Nat.min_eq_left (by show i ≤ 8; omega), Int.fdiv_eq_ediv_of_nonneg _ (Int.pow_nonneg (by decide))]

theorem bits_in {b : Int} {i : Nat} (h0 : 0 ≤ b) (h1 : b ≤ 255) : 0 ≤ b / 2 ^ i ∧ b / 2 ^ i ≤ 255 := by
  have h2 : 0 ≤ b / 2 ^ i := Int.ediv_nonneg h0 (Int.pow_nonneg (by decide))
  have h3 : b / 2 ^ i ≤ b := Int.ediv_le_self _ h0
  omega

theorem am9_wp {N n : Nat} {args : List V} {h : Heap} {v : V} (ha : args.length = 1) (hfree : V.freeL args = true)
    (H : sx ⟨pureOf am, callA am N n, N, 0⟩ am9.body (fr am9.nt (argsF 0 args)) (deads am9.sites) (retQ am9.res fun x h' => V.shut (fun o => h'[o]?) sealDepth x = some v)) : callA am N (n + 1) 9 args h = some (v, h) :=
  call_pure at9 rfl ha (by decide) hfree (sx_wp H)

set_option maxHeartbeats 4000000 in
theorem get_spec {N n : Nat} (hN : 20 ≤ N) (hn : 4 ≤ n) (S : List Int) (hS : S.length = 64) (hb : Bytes S) (h : Heap) :
    callA am N n 9 [.agg (S.map (V.int .u8))] h = some (.tup [.agg (getV S).1.cs, .int .i64 (getV S).2], h) := by
  obtain ⟨n, rfl⟩ : ∃ m, n = m + 1 := ⟨n - 1, by omega⟩
  have c32 := @first_spec N n (by omega)
  have hlm : (S.map (V.int .u8)).length = 64 := by rw [List.length_map, hS]
  have oS := allOne_ints .u8 S
  have tS : List.take 64 (S.map (V.int .u8)) = S.map (V.int .u8) := List.take_of_length_le (by omega)
  have q0 : eqCells [.i .u8, .i .u8, .i .u8, .i .u8, .i .u8, .i .u8, .i .u8, .i .u8, .i .u8, .i .u8, .i .u8, .i .u8, .i .u8, .i .u8, .i .u8, .i .u8, .i .u8, .i .u8, .i .u8, .i .u8, .i .u8, .i .u8, .i .u8, .i .u8, .i .u8, .i .u8, .i .u8, .i .u8, .i .u8, .i .u8, .i .u8, .i .u8, .i .u8, .i .u8, .i .u8, .i .u8, .i .u8, .i .u8, .i .u8, .i .u8, .i .u8, .i .u8, .i .u8, .i .u8, .i .u8, .i .u8, .i .u8, .i .u8, .i .u8, .i .u8, .i .u8, .i .u8, .i .u8, .i .u8, .i .u8, .i .u8, .i .u8, .i .u8, .i .u8, .i .u8, .i .u8, .i .u8, .i .u8, .i .u8] (S.map (V.int .u8)) [.int .u8 0, .int .u8 0, .int .u8 0, .int .u8 0, .int .u8 0, .int .u8 0, .int .u8 0, .int .u8 0, .int .u8 0, .int .u8 0, .int .u8 0, .int .u8 0, .int .u8 0, .int .u8 0, .int .u8 0, .int .u8 0, .int .u8 0, .int .u8 0, .int .u8 0, .int .u8 0, .int .u8 0, .int .u8 0, .int .u8 0, .int .u8 0, .int .u8 0, .int .u8 0, .int .u8 0, .int .u8 0, .int .u8 0, .int .u8 0, .int .u8 0, .int .u8 0, .int .u8 0, .int .u8 0, .int .u8 0, .int .u8 0, .int .u8 0, .int .u8 0, .int .u8 0, .int .u8 0, .int .u8 0, .int .u8 0, .int .u8 0, .int .u8 0, .int .u8 0, .int .u8 0, .int .u8 0, .int .u8 0, .int .u8 0, .int .u8 0, .int .u8 0, .int .u8 0, .int .u8 0, .int .u8 0, .int .u8 0, .int .u8 0, .int .u8 0, .int .u8 0, .int .u8 0, .int .u8 0, .int .u8 0, .int .u8 0, .int .u8 0, .int .u8 0] = some (decide (S = List.replicate 64 0)) := eq64 hS (B := List.replicate 64 0) rfl
  refine am9_wp rfl (by simp [freeL_cons, freeL_nil, free_agg, freeL_ints]) ?_
  cases hz : decide (S = List.replicate 64 0) with
  | true =>
    have e : getV S = (firstV, 0) := by unfold getV; rw [if_pos (of_decide_eq_true hz)]
    rw [hz] at q0
    rw [e]
    simp only [firstV_cs] at c32 ⊢
    simp +contextual -implicitDefEqProofs (maxSteps := 10000000) only [sx_seq, sxL_succ, lpQ_norm, lpQ_exit, lpQ_ret, loopQ_norm, loopQ_exit, loopQ_ret, sqQ_norm, sqQ_ret, sqQ_exit, sx_block, blkQ_norm, blkQ_exit, blkQ_ret, sx_cond, cdP_true, cdP_false, cdP_bool, sx_region, sx_draw, plainD, List.all_cons, List.all_nil, List.isEmpty_nil, List.isEmpty_cons, sxo_nil, sxo_cons, sxo_guard, gdS_bool, gdS_eff, gdS_tup, gdS_sel, gdS_seleff, sxK_def, wcall_some, effP_ret, effP_set, effP_none, effP_ite, wop_call, wop_cv, cvP_func, sx_ret, sx_exit, sx_skip, sx_clr, stays, ↓selV_wt, ↓selV_wf, ↓impB_wt, ↓impB_wf, ↓selV_nor, ↓impB_nor, ↓selV_nt, ↓selV_nf, ↓impB_nt, ↓impB_nf, wantB_true, wantB_false, ↓selV_true, ↓selV_false, ↓selV_and, ↓impB_true, ↓impB_false, ↓impB_and, impB_triv, valOf_some, retH_some, ↓prim_pick, pickO_true, pickO_false, pickO_and, pickO_or, pickO_andr, pickO_orr, pickO_orrn, pickO_orn, pickO_bb, pickAnd_bool, pickOr_bool, ↓selV_nn, ↓impB_nn, Bool.and_assoc, Bool.or_assoc, doOp, ev_fr, ev_cst, put_none, put_fr, get, ins, del, dels, Nat.reduceLT, Nat.reduceEqDiff, ↓reduceIte, reduceCtorEq, ne_eq, not_false_eq_true, implies_true, framed_pureF, framed_fb, framed_N, framed_pure, wop_prim, prim, YLD, mkA, V.cells, List.getElem?_cons_zero, List.getElem?_cons_succ, List.set_cons_zero, List.set_cons_succ, Nat.zero_add, Nat.add_zero, Nat.reduceAdd, Nat.reduceSub, Nat.reduceMul, Nat.reduceLeDiff, Nat.not_lt_zero, List.map_cons, List.map_nil, List.cons_append, List.nil_append, loadA, cellsAt, nAg, packA, opt_bind_some, opt_map_some, opt_bind_none, opt_map_none, List.drop, List.take, List.head?, List.length_cons, List.length_nil, binA, unA, eqCells, eqCell, negB, fillA, sr_nil, sr_cons, sr_succ, sr_all, sr_len, storeA, Ob.with, indexedI, V.oneCell, intOf?, retQ_ret, retQ_norm, resA, resA1, fr_getD, packR, sealDepth, shut_bool, shut_int, Option.some.injEq, V.bool.injEq, V.int.injEq, Bool.not_true, Bool.not_false, true_and, and_true, and_self, Bool.and_true, Bool.and_false, Bool.true_and, Bool.false_and, Bool.or_true, Bool.or_false, Bool.true_or, Bool.false_or, Bool.false_eq_true, Int.reduceLT, Int.reduceLE, Int.reduceToNat, Int.reduceNeg, shut_plain, freeL_cons, freeL_nil, free_int, free_bool, free_agg, free_str, free_nils, free_tup, free_sl, true_implies, false_implies, Nat.sub_zero, Int.natCast_nonneg, Int.toNat_natCast, Nat.le_refl, not_true_eq_false, Int.reduceAdd, Int.reduceSub, Int.reduceMul, wrap64, false_and, and_false, cond_true, cond_false, Bool.cond_true_left, Bool.cond_false_right, Int.reduceBNe, Int.reduceBEq, decide_true, decide_false, Int.cast_ofNat_Int, Nat.mul_one, eq_self, Bool.true_eq_false, Bool.not_eq_true, Bool.not_eq_false, deads, List.replicate, argsF, am9, hlm, tS, q0, c32]
  | false =>
    rw [hz] at q0
    have c34 : ∀ fb a l (at_ len : Nat), a = (at_ : Int) → l = (len : Int) → at_ + len ≤ 64 → len ≤ 8 → ∀ (h : Heap), h[0]? = some ⟨1, .var (S.map (V.int .u8))⟩ →
      ({ pureF := pureOf am, call := callA am N n, N := N, fb := fb } : Env).framed.call 34 [.int .i64 a, .int .i64 l, .ptr 0 1 0] h = some (.int .i64 (numF ((S.drop at_).take len)), h) := fun fb a l at_ len h1 h2 h3 h4 h ho => take_framed (by omega) (by omega) hS hb a l at_ len h1 h2 h3 h4 ho
    have a1 := fun fb => c34 fb 4 8 4 8 rfl rfl (by decide) (by decide)
    have b1 := byt_rd hS (k := 1) (by decide)
    have b2 := byt_rd hS (k := 2) (by decide)
    have b3 := byt_rd hS (k := 3) (by decide)
    have k2 := byt_bounds hS hb (k := 2) (by decide)
    have k3 := byt_bounds hS hb (k := 3) (by decide)
    have w2 : IntKind.i64.wrap (byt S 2) = byt S 2 := wrap64 (by omega) (by omega)
    simp +contextual -implicitDefEqProofs (maxSteps := 10000000) only [sx_seq, sxL_succ, lpQ_norm, lpQ_exit, lpQ_ret, loopQ_norm, loopQ_exit, loopQ_ret, sqQ_norm, sqQ_ret, sqQ_exit, sx_block, blkQ_norm, blkQ_exit, blkQ_ret, sx_cond, cdP_true, cdP_false, cdP_bool, sx_region, sx_draw, plainD, List.all_cons, List.all_nil, List.isEmpty_nil, List.isEmpty_cons, sxo_nil, sxo_cons, sxo_guard, gdS_bool, gdS_eff, gdS_tup, gdS_sel, gdS_seleff, sxK_def, wcall_some, effP_ret, effP_set, effP_none, effP_ite, wop_call, wop_cv, cvP_func, sx_ret, sx_exit, sx_skip, sx_clr, stays, ↓selV_wt, ↓selV_wf, ↓impB_wt, ↓impB_wf, ↓selV_nor, ↓impB_nor, ↓selV_nt, ↓selV_nf, ↓impB_nt, ↓impB_nf, wantB_true, wantB_false, ↓selV_true, ↓selV_false, ↓selV_and, ↓impB_true, ↓impB_false, ↓impB_and, impB_triv, valOf_some, retH_some, ↓prim_pick, pickO_true, pickO_false, pickO_and, pickO_or, pickO_andr, pickO_orr, pickO_orrn, pickO_orn, pickO_bb, pickAnd_bool, pickOr_bool, ↓selV_nn, ↓impB_nn, Bool.and_assoc, Bool.or_assoc, doOp, ev_fr, ev_cst, put_none, put_fr, get, ins, del, dels, Nat.reduceLT, Nat.reduceEqDiff, ↓reduceIte, reduceCtorEq, ne_eq, not_false_eq_true, implies_true, framed_pureF, framed_fb, framed_N, framed_pure, wop_prim, prim, YLD, mkA, V.cells, List.getElem?_cons_zero, List.getElem?_cons_succ, List.set_cons_zero, List.set_cons_succ, Nat.zero_add, Nat.add_zero, Nat.reduceAdd, Nat.reduceSub, Nat.reduceMul, Nat.reduceLeDiff, Nat.not_lt_zero, List.map_cons, List.map_nil, List.cons_append, List.nil_append, loadA, cellsAt, nAg, packA, opt_bind_some, opt_map_some, opt_bind_none, opt_map_none, List.drop, List.take, List.head?, List.length_cons, List.length_nil, binA, unA, eqCells, eqCell, negB, fillA, sr_nil, sr_cons, sr_succ, sr_all, sr_len, storeA, Ob.with, indexedI, V.oneCell, intOf?, retQ_ret, retQ_norm, resA, resA1, fr_getD, packR, sealDepth, shut_bool, shut_int, Option.some.injEq, V.bool.injEq, V.int.injEq, Bool.not_true, Bool.not_false, true_and, and_true, and_self, Bool.and_true, Bool.and_false, Bool.true_and, Bool.false_and, Bool.or_true, Bool.or_false, Bool.true_or, Bool.false_or, Bool.false_eq_true, Int.reduceLT, Int.reduceLE, Int.reduceToNat, Int.reduceNeg, shut_plain, freeL_cons, freeL_nil, free_int, free_bool, free_agg, free_str, free_nils, free_tup, free_sl, true_implies, false_implies, Nat.sub_zero, Int.natCast_nonneg, Int.toNat_natCast, Nat.le_refl, not_true_eq_false, Int.reduceAdd, Int.reduceSub, Int.reduceMul, wrap64, false_and, and_false, cond_true, cond_false, Bool.cond_true_left, Bool.cond_false_right, Int.reduceBNe, Int.reduceBEq, decide_true, decide_false, Int.cast_ofNat_Int, Nat.mul_one, eq_self, Bool.true_eq_false, Bool.not_eq_true, Bool.not_eq_false, deads, List.replicate, argsF, am9, sx_drawd, wpd_nil, wpd_cons, wdK_def, fpOf, fpV, fpCall, Fp.ok, disj, List.contains_cons, List.contains_nil, Nat.reduceBEq, List.all_append, V.objsL, V.objs,  List.getD_cons_zero, List.getD_cons_succ, List.append_nil, hlm, tS, q0, c32, a1, b1, b2, w2, pm34, -List.drop]
    refine sx_loop (fun i t H => t = fr 56 [(1, .ptr 0 1 0), (2, .ptr 1 1 0), (4, .func 34 [] [.ptr 0 1 0]), (5, .ptr 2 1 0), (23, .int .i64 i)] ∧ i ≤ 8 ∧ H = [⟨1, .var (S.map (V.int .u8))⟩, ⟨1, .var zV.cs⟩, ⟨1, .var (Vw.mk (numF ((S.drop 4).take 8)) (byt S 1 == 1) (byt S 2) (partM (saidM S) i)).cs⟩, ⟨0, .dead⟩]) 8 (by show 8 < N; omega) ⟨rfl, by omega, rfl⟩ ?_
    rintro i t H hi ⟨rfl, hi8, rfl⟩
    by_cases hlt : i < 8
    · have g1 : decide ((i : Int) < 8) = true := decide_eq_true (by omega)
      have i8 : (i : Int) < 8 := by omega
      have hmi := saidM_get S hlt
      have hpl := partM_len (saidM_len S) (Nat.le_of_lt hlt)
      have hvl : ∀ a b c, (Vw.mk a b c (partM (saidM S) i)).cs.length = 19 := fun a b c => Vw.len hpl
      have F := fun a b c => (Vw.facts (v := ⟨a, b, c, partM (saidM S) i⟩) (partM_at (saidM_len S) hlt)).p2
      have hset := partM_set (saidM_len S) hmi
      simp only [put_mk] at F
      have wm : IntKind.i64.wrap (4 * (i : Int)) = ((4 * i : Nat) : Int) := (wrap64 (by omega) (by omega)).trans (by omega)
      have wa : IntKind.i64.wrap (12 + ((4 * i : Nat) : Int)) = ((12 + 4 * i : Nat) : Int) := (wrap64 (by omega) (by omega)).trans (by omega)
      have a2 := fun fb => c34 fb ((12 + 4 * i : Nat) : Int) 4 (12 + 4 * i) 4 rfl rfl (by omega) (by decide)
      have sh := @bits_shr (byt S 3) i hlt
      have bi := @bits_in (byt S 3) i k3.1 k3.2
      have an := and_one bi.1 bi.2
      have n0 : ¬ ((i : Nat) : Int) < 0 := by omega
      have l2 : 3 + i * 2 ≤ 17 := by omega
      have w4 : IntKind.i64.wrap ((i : Int) + 1) = ((i + 1 : Nat) : Int) := (wrap64 (by omega) (by omega)).trans (by omega)
      have hi1 : i + 1 ≤ 8 := by omega
      simp +contextual -implicitDefEqProofs (maxSteps := 10000000) only [sx_seq, sxL_succ, lpQ_norm, lpQ_exit, lpQ_ret, loopQ_norm, loopQ_exit, loopQ_ret, sqQ_norm, sqQ_ret, sqQ_exit, sx_block, blkQ_norm, blkQ_exit, blkQ_ret, sx_cond, cdP_true, cdP_false, cdP_bool, sx_region, sx_draw, plainD, List.all_cons, List.all_nil, List.isEmpty_nil, List.isEmpty_cons, sxo_nil, sxo_cons, sxo_guard, gdS_bool, gdS_eff, gdS_tup, gdS_sel, gdS_seleff, sxK_def, wcall_some, effP_ret, effP_set, effP_none, effP_ite, wop_call, wop_cv, cvP_func, sx_ret, sx_exit, sx_skip, sx_clr, stays, ↓selV_wt, ↓selV_wf, ↓impB_wt, ↓impB_wf, ↓selV_nor, ↓impB_nor, ↓selV_nt, ↓selV_nf, ↓impB_nt, ↓impB_nf, wantB_true, wantB_false, ↓selV_true, ↓selV_false, ↓selV_and, ↓impB_true, ↓impB_false, ↓impB_and, impB_triv, valOf_some, retH_some, ↓prim_pick, pickO_true, pickO_false, pickO_and, pickO_or, pickO_andr, pickO_orr, pickO_orrn, pickO_orn, pickO_bb, pickAnd_bool, pickOr_bool, ↓selV_nn, ↓impB_nn, Bool.and_assoc, Bool.or_assoc, doOp, ev_fr, ev_cst, put_none, put_fr, get, ins, del, dels, Nat.reduceLT, Nat.reduceEqDiff, ↓reduceIte, reduceCtorEq, ne_eq, not_false_eq_true, implies_true, framed_pureF, framed_fb, framed_N, framed_pure, wop_prim, prim, YLD, mkA, V.cells, List.getElem?_cons_zero, List.getElem?_cons_succ, List.set_cons_zero, List.set_cons_succ, Nat.zero_add, Nat.add_zero, Nat.reduceAdd, Nat.reduceSub, Nat.reduceMul, Nat.reduceLeDiff, Nat.not_lt_zero, List.map_cons, List.map_nil, List.cons_append, List.nil_append, loadA, cellsAt, nAg, packA, opt_bind_some, opt_map_some, opt_bind_none, opt_map_none, List.drop, List.take, List.head?, List.length_cons, List.length_nil, binA, unA, eqCells, eqCell, negB, fillA, sr_nil, sr_cons, sr_succ, sr_all, sr_len, storeA, Ob.with, indexedI, V.oneCell, intOf?, retQ_ret, retQ_norm, resA, resA1, fr_getD, packR, sealDepth, shut_bool, shut_int, Option.some.injEq, V.bool.injEq, V.int.injEq, Bool.not_true, Bool.not_false, true_and, and_true, and_self, Bool.and_true, Bool.and_false, Bool.true_and, Bool.false_and, Bool.or_true, Bool.or_false, Bool.true_or, Bool.false_or, Bool.false_eq_true, Int.reduceLT, Int.reduceLE, Int.reduceToNat, Int.reduceNeg, shut_plain, freeL_cons, freeL_nil, free_int, free_bool, free_agg, free_str, free_nils, free_tup, free_sl, true_implies, false_implies, Nat.sub_zero, Int.natCast_nonneg, Int.toNat_natCast, Nat.le_refl, not_true_eq_false, Int.reduceAdd, Int.reduceSub, Int.reduceMul, wrap64, false_and, and_false, cond_true, cond_false, Bool.cond_true_left, Bool.cond_false_right, Int.reduceBNe, Int.reduceBEq, decide_true, decide_false, Int.cast_ofNat_Int, Nat.mul_one, eq_self, Bool.true_eq_false, Bool.not_eq_true, Bool.not_eq_false, deads, List.replicate, argsF, sx_drawd, wpd_nil, wpd_cons, wdK_def, fpOf, fpV, fpCall, Fp.ok, disj, List.contains_cons, List.contains_nil, Nat.reduceBEq, List.all_append, V.objsL, V.objs,  List.getD_cons_zero, List.getD_cons_succ, List.append_nil, g1, i8, hlm, b3, n0, sh, an, wm, wa, a2, pm34, hvl, F, hset, l2, w4, hi1, hlt, -List.drop]
    · have e : i = 8 := by omega
      subst e
      have g1 : decide (((8 : Nat) : Int) < 8) = false := rfl
      have pm8' : partM (saidM S) 8 = saidM S := by unfold partM; rw [List.take_of_length_le (by rw [saidM_len]; omega)]; simp
      rw [pm8']
      have eV : Vw.mk (numF ((S.drop 4).take 8)) (byt S 1 == 1) (byt S 2) (saidM S) = saidV S := rfl
      rw [eV]
      have c8 := @put_spec N n (by omega) (by omega) (saidV S) (saidM_len S)
      have hvl := Vw.len (v := saidV S) (saidM_len S)
      have tv : List.take 19 (saidV S).cs = (saidV S).cs := List.take_of_length_le (by omega)
      have fv := Vw.free (saidV S)
      have ov := Vw.one (saidV S)
      obtain ⟨P, hP⟩ : ∃ P, P = if mayV (saidV S) = true then putV (saidV S) else List.replicate 64 0 := ⟨_, rfl⟩
      have hPl : P.length = 64 := by rw [hP]; split; exact putV_len (saidM_len S); rfl
      have lP : (P.map (V.int .u8)).length = 64 := by rw [List.length_map, hPl]
      have oP := allOne_ints .u8 P
      have tP : List.take 64 (P.map (V.int .u8)) = P.map (V.int .u8) := List.take_of_length_le (by omega)
      have q := eq64 hPl hS
      rw [← hP] at c8
      cases hm : mayV (saidV S) with
      | false =>
        have e0 : getV S = (zV, 12) := by unfold getV okV; rw [if_neg (of_decide_eq_false hz), hm]; rfl
        rw [e0]
        simp only [hm, Bool.false_eq_true, ↓reduceIte] at c8
        have n2 : ((2 : Int) != 0) = true := rfl
        simp only [zV_cs]
        simp +contextual -implicitDefEqProofs (maxSteps := 10000000) only [sx_seq, sxL_succ, lpQ_norm, lpQ_exit, lpQ_ret, loopQ_norm, loopQ_exit, loopQ_ret, sqQ_norm, sqQ_ret, sqQ_exit, sx_block, blkQ_norm, blkQ_exit, blkQ_ret, sx_cond, cdP_true, cdP_false, cdP_bool, sx_region, sx_draw, plainD, List.all_cons, List.all_nil, List.isEmpty_nil, List.isEmpty_cons, sxo_nil, sxo_cons, sxo_guard, gdS_bool, gdS_eff, gdS_tup, gdS_sel, gdS_seleff, sxK_def, wcall_some, effP_ret, effP_set, effP_none, effP_ite, wop_call, wop_cv, cvP_func, sx_ret, sx_exit, sx_skip, sx_clr, stays, ↓selV_wt, ↓selV_wf, ↓impB_wt, ↓impB_wf, ↓selV_nor, ↓impB_nor, ↓selV_nt, ↓selV_nf, ↓impB_nt, ↓impB_nf, wantB_true, wantB_false, ↓selV_true, ↓selV_false, ↓selV_and, ↓impB_true, ↓impB_false, ↓impB_and, impB_triv, valOf_some, retH_some, ↓prim_pick, pickO_true, pickO_false, pickO_and, pickO_or, pickO_andr, pickO_orr, pickO_orrn, pickO_orn, pickO_bb, pickAnd_bool, pickOr_bool, ↓selV_nn, ↓impB_nn, Bool.and_assoc, Bool.or_assoc, doOp, ev_fr, ev_cst, put_none, put_fr, get, ins, del, dels, Nat.reduceLT, Nat.reduceEqDiff, ↓reduceIte, reduceCtorEq, ne_eq, not_false_eq_true, implies_true, framed_pureF, framed_fb, framed_N, framed_pure, wop_prim, prim, YLD, mkA, V.cells, List.getElem?_cons_zero, List.getElem?_cons_succ, List.set_cons_zero, List.set_cons_succ, Nat.zero_add, Nat.add_zero, Nat.reduceAdd, Nat.reduceSub, Nat.reduceMul, Nat.reduceLeDiff, Nat.not_lt_zero, List.map_cons, List.map_nil, List.cons_append, List.nil_append, loadA, cellsAt, nAg, packA, opt_bind_some, opt_map_some, opt_bind_none, opt_map_none, List.drop, List.take, List.head?, List.length_cons, List.length_nil, binA, unA, eqCells, eqCell, negB, fillA, sr_nil, sr_cons, sr_succ, sr_all, sr_len, storeA, Ob.with, indexedI, V.oneCell, intOf?, retQ_ret, retQ_norm, resA, resA1, fr_getD, packR, sealDepth, shut_bool, shut_int, Option.some.injEq, V.bool.injEq, V.int.injEq, Bool.not_true, Bool.not_false, true_and, and_true, and_self, Bool.and_true, Bool.and_false, Bool.true_and, Bool.false_and, Bool.or_true, Bool.or_false, Bool.true_or, Bool.false_or, Bool.false_eq_true, Int.reduceLT, Int.reduceLE, Int.reduceToNat, Int.reduceNeg, shut_plain, freeL_cons, freeL_nil, free_int, free_bool, free_agg, free_str, free_nils, free_tup, free_sl, true_implies, false_implies, Nat.sub_zero, Int.natCast_nonneg, Int.toNat_natCast, Nat.le_refl, not_true_eq_false, Int.reduceAdd, Int.reduceSub, Int.reduceMul, wrap64, false_and, and_false, cond_true, cond_false, Bool.cond_true_left, Bool.cond_false_right, Int.reduceBNe, Int.reduceBEq, decide_true, decide_false, Int.cast_ofNat_Int, Nat.mul_one, eq_self, Bool.true_eq_false, Bool.not_eq_true, Bool.not_eq_false, deads, List.replicate, argsF, g1, c8, hvl, tv, lP, tP, oP, n2]
      | true =>
        simp only [hm, ↓reduceIte] at c8
        have n2 : ((0 : Int) != 0) = false := rfl
        have eP : P = putV (saidV S) := by rw [hP, hm]; rfl
        cases hd : decide (P = S) with
        | true =>
          have e0 : getV S = (saidV S, 0) := by unfold getV okV; rw [if_neg (of_decide_eq_false hz), hm, ← eP, hd]; rfl
          rw [e0]
          rw [hd] at q
          simp +contextual -implicitDefEqProofs (maxSteps := 10000000) only [sx_seq, sxL_succ, lpQ_norm, lpQ_exit, lpQ_ret, loopQ_norm, loopQ_exit, loopQ_ret, sqQ_norm, sqQ_ret, sqQ_exit, sx_block, blkQ_norm, blkQ_exit, blkQ_ret, sx_cond, cdP_true, cdP_false, cdP_bool, sx_region, sx_draw, plainD, List.all_cons, List.all_nil, List.isEmpty_nil, List.isEmpty_cons, sxo_nil, sxo_cons, sxo_guard, gdS_bool, gdS_eff, gdS_tup, gdS_sel, gdS_seleff, sxK_def, wcall_some, effP_ret, effP_set, effP_none, effP_ite, wop_call, wop_cv, cvP_func, sx_ret, sx_exit, sx_skip, sx_clr, stays, ↓selV_wt, ↓selV_wf, ↓impB_wt, ↓impB_wf, ↓selV_nor, ↓impB_nor, ↓selV_nt, ↓selV_nf, ↓impB_nt, ↓impB_nf, wantB_true, wantB_false, ↓selV_true, ↓selV_false, ↓selV_and, ↓impB_true, ↓impB_false, ↓impB_and, impB_triv, valOf_some, retH_some, ↓prim_pick, pickO_true, pickO_false, pickO_and, pickO_or, pickO_andr, pickO_orr, pickO_orrn, pickO_orn, pickO_bb, pickAnd_bool, pickOr_bool, ↓selV_nn, ↓impB_nn, Bool.and_assoc, Bool.or_assoc, doOp, ev_fr, ev_cst, put_none, put_fr, get, ins, del, dels, Nat.reduceLT, Nat.reduceEqDiff, ↓reduceIte, reduceCtorEq, ne_eq, not_false_eq_true, implies_true, framed_pureF, framed_fb, framed_N, framed_pure, wop_prim, prim, YLD, mkA, V.cells, List.getElem?_cons_zero, List.getElem?_cons_succ, List.set_cons_zero, List.set_cons_succ, Nat.zero_add, Nat.add_zero, Nat.reduceAdd, Nat.reduceSub, Nat.reduceMul, Nat.reduceLeDiff, Nat.not_lt_zero, List.map_cons, List.map_nil, List.cons_append, List.nil_append, loadA, cellsAt, nAg, packA, opt_bind_some, opt_map_some, opt_bind_none, opt_map_none, List.drop, List.take, List.head?, List.length_cons, List.length_nil, binA, unA, eqCells, eqCell, negB, fillA, sr_nil, sr_cons, sr_succ, sr_all, sr_len, storeA, Ob.with, indexedI, V.oneCell, intOf?, retQ_ret, retQ_norm, resA, resA1, fr_getD, packR, sealDepth, shut_bool, shut_int, Option.some.injEq, V.bool.injEq, V.int.injEq, Bool.not_true, Bool.not_false, true_and, and_true, and_self, Bool.and_true, Bool.and_false, Bool.true_and, Bool.false_and, Bool.or_true, Bool.or_false, Bool.true_or, Bool.false_or, Bool.false_eq_true, Int.reduceLT, Int.reduceLE, Int.reduceToNat, Int.reduceNeg, shut_plain, freeL_cons, freeL_nil, free_int, free_bool, free_agg, free_str, free_nils, free_tup, free_sl, true_implies, false_implies, Nat.sub_zero, Int.natCast_nonneg, Int.toNat_natCast, Nat.le_refl, not_true_eq_false, Int.reduceAdd, Int.reduceSub, Int.reduceMul, wrap64, false_and, and_false, cond_true, cond_false, Bool.cond_true_left, Bool.cond_false_right, Int.reduceBNe, Int.reduceBEq, decide_true, decide_false, Int.cast_ofNat_Int, Nat.mul_one, eq_self, Bool.true_eq_false, Bool.not_eq_true, Bool.not_eq_false, deads, List.replicate, argsF, g1, c8, hvl, tv, lP, tP, oP, n2, q, hlm, tS, fv, ov, zV_cs]
        | false =>
          have e0 : getV S = (zV, 12) := by unfold getV okV; rw [if_neg (of_decide_eq_false hz), hm, ← eP, hd]; rfl
          rw [e0]
          rw [hd] at q
          simp only [zV_cs]
          simp +contextual -implicitDefEqProofs (maxSteps := 10000000) only [sx_seq, sxL_succ, lpQ_norm, lpQ_exit, lpQ_ret, loopQ_norm, loopQ_exit, loopQ_ret, sqQ_norm, sqQ_ret, sqQ_exit, sx_block, blkQ_norm, blkQ_exit, blkQ_ret, sx_cond, cdP_true, cdP_false, cdP_bool, sx_region, sx_draw, plainD, List.all_cons, List.all_nil, List.isEmpty_nil, List.isEmpty_cons, sxo_nil, sxo_cons, sxo_guard, gdS_bool, gdS_eff, gdS_tup, gdS_sel, gdS_seleff, sxK_def, wcall_some, effP_ret, effP_set, effP_none, effP_ite, wop_call, wop_cv, cvP_func, sx_ret, sx_exit, sx_skip, sx_clr, stays, ↓selV_wt, ↓selV_wf, ↓impB_wt, ↓impB_wf, ↓selV_nor, ↓impB_nor, ↓selV_nt, ↓selV_nf, ↓impB_nt, ↓impB_nf, wantB_true, wantB_false, ↓selV_true, ↓selV_false, ↓selV_and, ↓impB_true, ↓impB_false, ↓impB_and, impB_triv, valOf_some, retH_some, ↓prim_pick, pickO_true, pickO_false, pickO_and, pickO_or, pickO_andr, pickO_orr, pickO_orrn, pickO_orn, pickO_bb, pickAnd_bool, pickOr_bool, ↓selV_nn, ↓impB_nn, Bool.and_assoc, Bool.or_assoc, doOp, ev_fr, ev_cst, put_none, put_fr, get, ins, del, dels, Nat.reduceLT, Nat.reduceEqDiff, ↓reduceIte, reduceCtorEq, ne_eq, not_false_eq_true, implies_true, framed_pureF, framed_fb, framed_N, framed_pure, wop_prim, prim, YLD, mkA, V.cells, List.getElem?_cons_zero, List.getElem?_cons_succ, List.set_cons_zero, List.set_cons_succ, Nat.zero_add, Nat.add_zero, Nat.reduceAdd, Nat.reduceSub, Nat.reduceMul, Nat.reduceLeDiff, Nat.not_lt_zero, List.map_cons, List.map_nil, List.cons_append, List.nil_append, loadA, cellsAt, nAg, packA, opt_bind_some, opt_map_some, opt_bind_none, opt_map_none, List.drop, List.take, List.head?, List.length_cons, List.length_nil, binA, unA, eqCells, eqCell, negB, fillA, sr_nil, sr_cons, sr_succ, sr_all, sr_len, storeA, Ob.with, indexedI, V.oneCell, intOf?, retQ_ret, retQ_norm, resA, resA1, fr_getD, packR, sealDepth, shut_bool, shut_int, Option.some.injEq, V.bool.injEq, V.int.injEq, Bool.not_true, Bool.not_false, true_and, and_true, and_self, Bool.and_true, Bool.and_false, Bool.true_and, Bool.false_and, Bool.or_true, Bool.or_false, Bool.true_or, Bool.false_or, Bool.false_eq_true, Int.reduceLT, Int.reduceLE, Int.reduceToNat, Int.reduceNeg, shut_plain, freeL_cons, freeL_nil, free_int, free_bool, free_agg, free_str, free_nils, free_tup, free_sl, true_implies, false_implies, Nat.sub_zero, Int.natCast_nonneg, Int.toNat_natCast, Nat.le_refl, not_true_eq_false, Int.reduceAdd, Int.reduceSub, Int.reduceMul, wrap64, false_and, and_false, cond_true, cond_false, Bool.cond_true_left, Bool.cond_false_right, Int.reduceBNe, Int.reduceBEq, decide_true, decide_false, Int.cast_ofNat_Int, Nat.mul_one, eq_self, Bool.true_eq_false, Bool.not_eq_true, Bool.not_eq_false, deads, List.replicate, argsF, g1, c8, hvl, tv, lP, tP, oP, n2, q, hlm, tS, fv, ov]
end Go.Am.T
