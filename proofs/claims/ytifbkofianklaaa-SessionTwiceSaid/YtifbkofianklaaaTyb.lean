import Derived.Test.YtifbkofianklaaaTy4
import Derived.Test.YtifbkofianklaaaTy9
set_option linter.unusedVariables false
set_option linter.unusedSimpArgs false
set_option maxRecDepth 10000
namespace Go.Am.T
attribute [local congr] selV_congr impB_congr

theorem rej_same {s s' : Ses} {n n' : Nat} {d : Dg} {k : Nat} (h1 : s'.other = s.other) (h2 : s'.me = s.me) (h3 : s'.view = s.view) (h4 : s'.first + (n' : Int) = s.first + (n : Int)) : rejD s' n' d k = rejD s n d k := by
  unfold rejD
  rw [h1, h2, h3, h4]

structure Again (s s1 : Ses) (n n1 : Nat) (d : Dg) (k : Nat) : Prop where
  other : s1.other = s.other
  me : s1.me = s.me
  view : s1.view = s.view
  told : s1.told = s.told
  sum : s1.first + (n1 : Int) = s.first + (n : Int)
  past : rejD s n d k = false → decide (d.ack ≥ s1.first) = false
  next : rejD s n d k = false → (d.seq == 0) = false → (d.seq != s1.got + 1) = true
  ok : s1.Ok n1
  le : comeK s n d k ≤ n

theorem come_again {s : Ses} {n : Nat} (hok : s.Ok n) (d : Dg) (k : Nat) : Again s (comeS s n d k) n (n - comeK s n d k) d k := by
  obtain ⟨f0, f1, g0, g1, n1⟩ := hok
  cases hr : rejD s n d k with
  | true =>
    have e1 : comeS s n d k = s := by simp only [comeS, hr, cond_true]
    have e2 : comeK s n d k = 0 := by simp only [comeK, hr, cond_true]
    rw [e1, e2, Nat.sub_zero]
    exact ⟨rfl, rfl, rfl, rfl, rfl, fun h => (by rw [hr] at h; cases h), fun h => (by rw [hr] at h; cases h), ⟨f0, f1, g0, g1, n1⟩, by omega⟩
  | false =>
    have hrr := hr
    simp only [rejD, Bool.or_eq_false_iff, decide_eq_false_iff_not] at hrr
    obtain ⟨-, -, -, r4, r5, r6, r7, -, -⟩ := hrr
    have e1 : comeS s n d k = seqS (ackS s d) d := by simp only [comeS, hr, cond_false]
    have e2 : comeK s n d k = bif decide (d.ack ≥ s.first) then (d.ack - s.first + 1).toNat else 0 := by simp only [comeK, hr, cond_false]
    have A : ∃ F n1, ackS s d = { s with first := F } ∧ comeK s n d k ≤ n ∧ n - comeK s n d k = n1 ∧ F + (n1 : Int) = s.first + (n : Int) ∧ ¬ d.ack ≥ F ∧ 1 ≤ F ∧ n1 ≤ n := by
      cases y : decide (d.ack ≥ s.first) with
      | true =>
        have hy := of_decide_eq_true y
        rw [e2]
        simp only [y, cond_true, ackS]
        exact ⟨d.ack + 1, _, rfl, by omega, rfl, by omega, by omega, by omega, by omega⟩
      | false =>
        have hy := of_decide_eq_false y
        rw [e2]
        simp only [y, cond_false, ackS]
        exact ⟨s.first, _, rfl, by omega, rfl, by omega, hy, f0, by omega⟩
    obtain ⟨F, n1', a1, a2, a3, a4, a5, a6, a7⟩ := A
    rw [e1, a3, a1]
    have hF : F + (n1' : Int) ≤ 2000 := by omega
    unfold seqS
    cases z1 : (d.seq == 0) with
    | true =>
      simp only [cond_true]
      exact ⟨rfl, rfl, rfl, rfl, a4, fun _ => decide_eq_false a5, fun _ h => (by rw [z1] at h; cases h), ⟨a6, hF, g0, g1, by omega⟩, a2⟩
    | false =>
      cases z2 : (d.seq != s.got + 1) with
      | true =>
        simp only [cond_true, cond_false, z2]
        exact ⟨rfl, rfl, rfl, rfl, a4, fun _ => decide_eq_false a5, fun _ _ => z2, ⟨a6, hF, g0, g1, by omega⟩, a2⟩
      | false =>
        have hz : d.seq = s.got + 1 := by simpa using z2
        simp only [cond_false, z2]
        refine ⟨rfl, rfl, rfl, rfl, a4, fun _ => decide_eq_false a5, fun _ _ => ?_, ⟨a6, hF, ?_, ?_, by omega⟩, a2⟩
        · simp only [bne_iff_ne, ne_eq]
          omega
        · show 0 ≤ s.got + 1
          omega
        · show s.got + 1 ≤ _
          omega

theorem come_twice {s s1 : Ses} {n n1 : Nat} {d : Dg} {k : Nat} (A : Again s s1 n n1 d k) (h1 : rejD s n d k = true → s1 = s) :
    comeB (toldS s1 n1) n1 d k = false ∧ comeK (toldS s1 n1) n1 d k = 0 ∧ (comeS (toldS s1 n1) n1 d k = toldS s1 n1 ∨ comeS (toldS s1 n1) n1 d k = { toldS s1 n1 with owes := true }) := by
  have hr2 : rejD (toldS s1 n1) n1 d k = rejD s n d k := rej_same A.other A.me A.view A.sum
  cases hr : rejD s n d k with
  | true =>
    rw [hr] at hr2
    simp only [comeB, comeK, comeS, hr2, cond_true, Bool.not_true, Bool.false_and, true_or, and_self]
  | false =>
    rw [hr] at hr2
    have p := A.past hr
    have q := A.next hr
    have p' : decide (d.ack ≥ (toldS s1 n1).first) = false := p
    have q' : (d.seq == 0) = false → (d.seq != (toldS s1 n1).got + 1) = true := q
    have ea : ackS (toldS s1 n1) d = toldS s1 n1 := by simp only [ackS, p', cond_false]
    cases z : (d.seq == 0) with
    | true =>
      simp only [comeB, comeK, comeS, hr2, cond_false, p', ea, seqS, z, cond_true, Bool.not_true, Bool.false_and, Bool.and_false, true_or, and_self]
    | false =>
      have z2 := q' z
      simp only [comeB, comeK, comeS, hr2, cond_false, p', ea, seqS, z, z2, cond_true, Bool.not_true, Bool.and_false, or_true, and_self]

theorem SAt.beyond {H H' : Heap} {a c : Nat} {s : Ses} {L : List V} {W : V} {R R' Rn : List Nat} (h : SAt H c s L W R') (hb : Beyond H H' a R Rn) (h1 : c ≠ a) (h2 : c ∉ R) (h3 : ∀ o ∈ R', o ≠ a ∧ o ∉ R) : SAt H' c s L W R' :=
  ⟨by rw [hb.oth c (lt_of_get h.ob) h1 h2]; exact h.ob, h.row.keep (fun o ho => hb.oth o (h.row.lt o ho) (h3 o ho).1 (h3 o ho).2), h.bods, h.apart⟩

theorem known_spec {N n : Nat} (hN : 1000 ≤ N) (hn : 20 ≤ n) (h : Heap) : callA am N n 9 [] h = some (.bool true, h) :=
  closed_quick pm9 (show callB am 1000 20 9 [] [] = some (.bool true, []) by kernel_rfl) hN hn h

theorem am5_wp {N n : Nat} {args : List V} {h : Heap} {v : V} (ha : args.length = 2) (hfree : V.freeL args = true)
    (H : sx ⟨pureOf am, callA am N n, N, 0⟩ am5.body (fr am5.nt (argsF 0 args)) (deads am5.sites) (retQ am5.res fun x h' => V.shut (fun o => h'[o]?) sealDepth x = some v)) : callA am N (n + 1) 5 args h = some (v, h) :=
  call_auto at5 rfl ha (by decide) hfree (sx_wp H)

set_option maxHeartbeats 4000000 in
theorem twice_spec {N n : Nat} (hN : 1500 ≤ N) (hn : 25 ≤ n) (l : V) (L0 : List V) (hl : IsL l 1 (L0.map fun b => [b])) (hB0 : ∀ b ∈ L0, ∃ m, By m b) (d : Dg) {lb : List Int} {b : V} (hb : By lb b) (h : Heap) :
    callA am N n 5 [l, .agg (d.cs b)] h = some (.bool true, h) := by
  obtain ⟨n, rfl⟩ : ∃ m, n = m + 1 := ⟨n - 1, by omega⟩
  have c9 := @known_spec N n (by omega) (by omega)
  have la := hl.len
  rw [List.length_map] at la
  have ln := hl.nstr
  have hfree : V.freeL [l, .agg (d.cs b)] = true := by
    simp only [freeL_cons, freeL_nil, hl.free, free_agg, Dg.cs, free_int, hb.free, Bool.and_self]
  have q2 : (d.cs b).length = 6 := rfl
  have q6 : List.take 6 (d.cs b) = d.cs b := rfl
  refine am5_wp rfl hfree ?_
  by_cases h40 : L0.length ≤ 40
  · have g1 : decide ((L0.length : Int) > 40) = false := decide_eq_false (by omega)
    have c7 := @new_ok N n (by omega) 2 3 7 (by decide)
    simp +contextual -implicitDefEqProofs (maxSteps := 10000000) only [sx_seq, sxL_succ, lpQ_norm, lpQ_exit, lpQ_ret, loopQ_norm, loopQ_exit, loopQ_ret, sqQ_norm, sqQ_ret, sqQ_exit, sx_block, blkQ_norm, blkQ_exit, blkQ_ret, sx_cond, cdP_true, cdP_false, cdP_bool, sx_region, sx_draw, plainD, List.all_cons, List.all_nil, List.isEmpty_nil, List.isEmpty_cons, sxo_nil, sxo_cons, sxo_guard, gdS_bool, gdS_eff, gdS_tup, gdS_sel, gdS_seleff, sxK_def, wcall_some, effP_ret, effP_set, effP_none, effP_ite, wop_call, wop_cv, cvP_func, sx_ret, sx_exit, sx_skip, sx_clr, stays, ↓selV_wt, ↓selV_wf, ↓impB_wt, ↓impB_wf, ↓selV_nor, ↓impB_nor, ↓selV_nt, ↓selV_nf, ↓impB_nt, ↓impB_nf, wantB_true, wantB_false, ↓selV_true, ↓selV_false, ↓selV_and, ↓impB_true, ↓impB_false, ↓impB_and, impB_triv, valOf_some, retH_some, ↓prim_pick, pickO_true, pickO_false, pickO_and, pickO_or, pickO_andr, pickO_orr, pickO_orrn, pickO_orn, pickO_bb, pickAnd_bool, pickOr_bool, ↓selV_nn, ↓impB_nn, Bool.and_assoc, Bool.or_assoc, doOp, ev_fr, ev_cst, put_none, put_fr, get, ins, del, dels, Nat.reduceLT, Nat.reduceEqDiff, ↓reduceIte, reduceCtorEq, ne_eq, not_false_eq_true, implies_true, framed_pureF, framed_fb, framed_N, framed_pure, wop_prim, prim, YLD, mkA, V.cells, List.getElem?_cons_zero, List.getElem?_cons_succ, List.set_cons_zero, List.set_cons_succ, Nat.zero_add, Nat.add_zero, Nat.reduceAdd, Nat.reduceSub, Nat.reduceMul, Nat.reduceLeDiff, Nat.not_lt_zero, List.map_cons, List.map_nil, List.cons_append, List.nil_append, loadA, cellsAt, nAg, packA, opt_bind_some, opt_map_some, opt_bind_none, opt_map_none, List.drop, List.take, List.head?, List.length_cons, List.length_nil, binA, unA, eqCells, eqCell, negB, fillA, sr_nil, sr_cons, sr_succ, sr_all, sr_len, storeA, Ob.with, indexedI, V.oneCell, intOf?, retQ_ret, retQ_norm, resA, resA1, fr_getD, packR, sealDepth, shut_bool, shut_int, Option.some.injEq, V.bool.injEq, V.int.injEq, Bool.not_true, Bool.not_false, true_and, and_true, and_self, Bool.and_true, Bool.and_false, Bool.true_and, Bool.false_and, Bool.or_true, Bool.or_false, Bool.true_or, Bool.false_or, Bool.false_eq_true, Int.reduceLT, Int.reduceLE, Int.reduceToNat, Int.reduceNeg, shut_plain, freeL_cons, freeL_nil, free_int, free_bool, free_agg, free_str, free_nils, free_tup, free_sl, true_implies, false_implies, Nat.sub_zero, Int.natCast_nonneg, Int.toNat_natCast, Nat.le_refl, not_true_eq_false, Int.reduceAdd, Int.reduceSub, Int.reduceMul, wrap64, false_and, and_false, cond_true, cond_false, Bool.cond_true_left, Bool.cond_false_right, Int.reduceBNe, Int.reduceBEq, decide_true, decide_false, Int.cast_ofNat_Int, Nat.mul_one, eq_self, Bool.true_eq_false, Bool.not_eq_true, Bool.not_eq_false, deads, List.replicate, argsF, am5, la, g1, c7]
    obtain ⟨S0, hS0⟩ : ∃ S0, S0 = newS 2 3 7 := ⟨_, rfl⟩
    rw [← hS0]
    refine sx_loop (fun i t H => ∃ L W R, t = fr 61 [(0, l), (3, .ptr 0 1 0), (5, .ptr 1 1 0), (7, .int .i64 i)] ∧ i ≤ L0.length ∧ SAt H 1 S0 L W R ∧ L.length ≤ i ∧ H[0]? = some ⟨1, .var (d.cs b)⟩ ∧ 0 ∉ R) L0.length (by show L0.length < N; omega)
      ⟨[], .nils, [], rfl, Nat.zero_le _, ⟨rfl, .inl ⟨rfl, rfl, rfl⟩, fun c hc => (by cases hc), by simp⟩, Nat.le_refl _, rfl, by simp⟩ ?_
    rintro i t H hi ⟨L, W, R, rfl, hiL, hS, hLi, hd0, h0R⟩
    by_cases hlt : i < L0.length
    · have g2 : decide ((i : Int) < (L0.length : Int)) = true := decide_eq_true (by omega)
      have w4 : IntKind.i64.wrap ((i : Int) + 1) = ((i + 1 : Nat) : Int) := (wrap64 (by omega) (by omega)).trans (by omega)
      have hi1 : i + 1 ≤ L0.length := by omega
      obtain ⟨x, hx⟩ : ∃ x, L0[i]? = some x := ⟨_, List.getElem?_eq_getElem hlt⟩
      obtain ⟨m, hm⟩ := hB0 x (List.mem_of_getElem? hx)
      have hat := hl.at_ i
      rw [List.getElem?_map, hx] at hat
      simp only [Option.map_some] at hat
      by_cases hlong : m.length ≤ 256
      · obtain ⟨v', H', c10, -, b', W', R', hb', hS', hbe⟩ := @send_spec N n (by omega) _ _ _ _ _ _ hS _ _ hm hlong (by omega)
        simp +contextual -implicitDefEqProofs (maxSteps := 10000000) only [sx_seq, sxL_succ, lpQ_norm, lpQ_exit, lpQ_ret, loopQ_norm, loopQ_exit, loopQ_ret, sqQ_norm, sqQ_ret, sqQ_exit, sx_block, blkQ_norm, blkQ_exit, blkQ_ret, sx_cond, cdP_true, cdP_false, cdP_bool, sx_region, sx_draw, plainD, List.all_cons, List.all_nil, List.isEmpty_nil, List.isEmpty_cons, sxo_nil, sxo_cons, sxo_guard, gdS_bool, gdS_eff, gdS_tup, gdS_sel, gdS_seleff, sxK_def, wcall_some, effP_ret, effP_set, effP_none, effP_ite, wop_call, wop_cv, cvP_func, sx_ret, sx_exit, sx_skip, sx_clr, stays, ↓selV_wt, ↓selV_wf, ↓impB_wt, ↓impB_wf, ↓selV_nor, ↓impB_nor, ↓selV_nt, ↓selV_nf, ↓impB_nt, ↓impB_nf, wantB_true, wantB_false, ↓selV_true, ↓selV_false, ↓selV_and, ↓impB_true, ↓impB_false, ↓impB_and, impB_triv, valOf_some, retH_some, ↓prim_pick, pickO_true, pickO_false, pickO_and, pickO_or, pickO_andr, pickO_orr, pickO_orrn, pickO_orn, pickO_bb, pickAnd_bool, pickOr_bool, ↓selV_nn, ↓impB_nn, Bool.and_assoc, Bool.or_assoc, doOp, ev_fr, ev_cst, put_none, put_fr, get, ins, del, dels, Nat.reduceLT, Nat.reduceEqDiff, ↓reduceIte, reduceCtorEq, ne_eq, not_false_eq_true, implies_true, framed_pureF, framed_fb, framed_N, framed_pure, wop_prim, prim, YLD, mkA, V.cells, List.getElem?_cons_zero, List.getElem?_cons_succ, List.set_cons_zero, List.set_cons_succ, Nat.zero_add, Nat.add_zero, Nat.reduceAdd, Nat.reduceSub, Nat.reduceMul, Nat.reduceLeDiff, Nat.not_lt_zero, List.map_cons, List.map_nil, List.cons_append, List.nil_append, loadA, cellsAt, nAg, packA, opt_bind_some, opt_map_some, opt_bind_none, opt_map_none, List.drop, List.take, List.head?, List.length_cons, List.length_nil, binA, unA, eqCells, eqCell, negB, fillA, sr_nil, sr_cons, sr_succ, sr_all, sr_len, storeA, Ob.with, indexedI, V.oneCell, intOf?, retQ_ret, retQ_norm, resA, resA1, fr_getD, packR, sealDepth, shut_bool, shut_int, Option.some.injEq, V.bool.injEq, V.int.injEq, Bool.not_true, Bool.not_false, true_and, and_true, and_self, Bool.and_true, Bool.and_false, Bool.true_and, Bool.false_and, Bool.or_true, Bool.or_false, Bool.true_or, Bool.false_or, Bool.false_eq_true, Int.reduceLT, Int.reduceLE, Int.reduceToNat, Int.reduceNeg, shut_plain, freeL_cons, freeL_nil, free_int, free_bool, free_agg, free_str, free_nils, free_tup, free_sl, true_implies, false_implies, Nat.sub_zero, Int.natCast_nonneg, Int.toNat_natCast, Nat.le_refl, not_true_eq_false, Int.reduceAdd, Int.reduceSub, Int.reduceMul, wrap64, false_and, and_false, cond_true, cond_false, Bool.cond_true_left, Bool.cond_false_right, Int.reduceBNe, Int.reduceBEq, decide_true, decide_false, Int.cast_ofNat_Int, Nat.mul_one, eq_self, Bool.true_eq_false, Bool.not_eq_true, Bool.not_eq_false, deads, List.replicate, argsF, la, g2, hat, c10, w4, hi1, hlt]
        refine ⟨L ++ [b'], W', R', hS', by simp; omega, ?_, ?_⟩
        · rw [hbe.oth 0 (by have := lt_of_get hd0; omega) (by decide) h0R]; exact hd0
        · intro hmem
          rcases hbe.new 0 hmem with h1 | h1
          · exact h0R h1
          · have := lt_of_get hd0; omega
      · have c10 := @send_long N n (by omega) _ _ _ _ _ _ hS _ _ hm (by omega)
        simp +contextual -implicitDefEqProofs (maxSteps := 10000000) only [sx_seq, sxL_succ, lpQ_norm, lpQ_exit, lpQ_ret, loopQ_norm, loopQ_exit, loopQ_ret, sqQ_norm, sqQ_ret, sqQ_exit, sx_block, blkQ_norm, blkQ_exit, blkQ_ret, sx_cond, cdP_true, cdP_false, cdP_bool, sx_region, sx_draw, plainD, List.all_cons, List.all_nil, List.isEmpty_nil, List.isEmpty_cons, sxo_nil, sxo_cons, sxo_guard, gdS_bool, gdS_eff, gdS_tup, gdS_sel, gdS_seleff, sxK_def, wcall_some, effP_ret, effP_set, effP_none, effP_ite, wop_call, wop_cv, cvP_func, sx_ret, sx_exit, sx_skip, sx_clr, stays, ↓selV_wt, ↓selV_wf, ↓impB_wt, ↓impB_wf, ↓selV_nor, ↓impB_nor, ↓selV_nt, ↓selV_nf, ↓impB_nt, ↓impB_nf, wantB_true, wantB_false, ↓selV_true, ↓selV_false, ↓selV_and, ↓impB_true, ↓impB_false, ↓impB_and, impB_triv, valOf_some, retH_some, ↓prim_pick, pickO_true, pickO_false, pickO_and, pickO_or, pickO_andr, pickO_orr, pickO_orrn, pickO_orn, pickO_bb, pickAnd_bool, pickOr_bool, ↓selV_nn, ↓impB_nn, Bool.and_assoc, Bool.or_assoc, doOp, ev_fr, ev_cst, put_none, put_fr, get, ins, del, dels, Nat.reduceLT, Nat.reduceEqDiff, ↓reduceIte, reduceCtorEq, ne_eq, not_false_eq_true, implies_true, framed_pureF, framed_fb, framed_N, framed_pure, wop_prim, prim, YLD, mkA, V.cells, List.getElem?_cons_zero, List.getElem?_cons_succ, List.set_cons_zero, List.set_cons_succ, Nat.zero_add, Nat.add_zero, Nat.reduceAdd, Nat.reduceSub, Nat.reduceMul, Nat.reduceLeDiff, Nat.not_lt_zero, List.map_cons, List.map_nil, List.cons_append, List.nil_append, loadA, cellsAt, nAg, packA, opt_bind_some, opt_map_some, opt_bind_none, opt_map_none, List.drop, List.take, List.head?, List.length_cons, List.length_nil, binA, unA, eqCells, eqCell, negB, fillA, sr_nil, sr_cons, sr_succ, sr_all, sr_len, storeA, Ob.with, indexedI, V.oneCell, intOf?, retQ_ret, retQ_norm, resA, resA1, fr_getD, packR, sealDepth, shut_bool, shut_int, Option.some.injEq, V.bool.injEq, V.int.injEq, Bool.not_true, Bool.not_false, true_and, and_true, and_self, Bool.and_true, Bool.and_false, Bool.true_and, Bool.false_and, Bool.or_true, Bool.or_false, Bool.true_or, Bool.false_or, Bool.false_eq_true, Int.reduceLT, Int.reduceLE, Int.reduceToNat, Int.reduceNeg, shut_plain, freeL_cons, freeL_nil, free_int, free_bool, free_agg, free_str, free_nils, free_tup, free_sl, true_implies, false_implies, Nat.sub_zero, Int.natCast_nonneg, Int.toNat_natCast, Nat.le_refl, not_true_eq_false, Int.reduceAdd, Int.reduceSub, Int.reduceMul, wrap64, false_and, and_false, cond_true, cond_false, Bool.cond_true_left, Bool.cond_false_right, Int.reduceBNe, Int.reduceBEq, decide_true, decide_false, Int.cast_ofNat_Int, Nat.mul_one, eq_self, Bool.true_eq_false, Bool.not_eq_true, Bool.not_eq_false, deads, List.replicate, argsF, la, g2, hat, c10, w4, hi1, hlt]
        exact ⟨L, W, R, hS.app _, by omega, by rw [List.getElem?_append_left (lt_of_get hd0)]; exact hd0, h0R⟩
    · have e : i = L0.length := by omega
      subst e
      have g2 : decide ((L0.length : Int) < (L0.length : Int)) = false := decide_eq_false (by omega)
      have ok0 : S0.Ok L.length := by rw [hS0]; exact ⟨by decide, by show (1 : Int) + _ ≤ _; omega, by decide, by decide, by omega⟩
      have hlt0 := lt_of_get hd0
      -- the datagram comes
      obtain ⟨v1, H1, c18, -, W1, S1, be1⟩ := @come_spec N n (by omega) _ _ _ _ _ _ hS ok0 d _ _ hb
      have A := come_again ok0 d lb.length
      have hrej : rejD S0 L.length d lb.length = true → comeS S0 L.length d lb.length = S0 := fun hr => by simp only [comeS, hr, cond_true]
      generalize comeS S0 L.length d lb.length = s1 at S1 A hrej
      generalize hk : comeK S0 L.length d lb.length = k at S1 A
      have hd1 : H1[0]? = some ⟨1, .var (d.cs b)⟩ := by rw [be1.oth 0 hlt0 (by decide) h0R]; exact hd0
      obtain ⟨n1, hn1⟩ : ∃ n1, n1 = (L.drop k).length := ⟨_, rfl⟩
      have hn1' : L.length - k = n1 := by rw [hn1, List.length_drop]
      rw [hn1'] at A
      obtain ⟨f0, f1, -, -, n1k⟩ := A.ok
      have told0 : s1.told = 0 := A.told.trans (by rw [hS0]; rfl)
      -- what is fresh
      obtain ⟨v2, H2, c11, S2, be2, -⟩ := @fresh_spec N n (by omega) (by omega) _ _ _ _ _ _ S1 f0 (by rw [← hn1]; exact f1) (by rw [← hn1]; exact n1k) (by omega) (by omega)
      rw [← hn1] at S2
      have hd2 : H2[0]? = some ⟨1, .var (d.cs b)⟩ := by rw [be2.oth 0 (lt_of_get hd1) (by decide) h0R]; exact hd1
      -- a copy
      obtain ⟨B, hB⟩ := S2.bods.bys
      obtain ⟨v3, H3, c16, rfl, ho3, hl3, L', W', R', hB', SC, hR'⟩ := @copy_spec N n (by omega) (by omega) _ _ _ _ _ _ S2 B hB (by rw [← hn1]; exact n1k)
      have S3 : SAt H3 1 (toldS s1 n1) (L.drop k) W1 R := ⟨by rw [ho3 1 (lt_of_get S2.ob)]; exact S2.ob, S2.row.keep (fun o ho => ho3 o (S2.row.lt o ho)), S2.bods, S2.apart⟩
      have hd3 : H3[0]? = some ⟨1, .var (d.cs b)⟩ := by rw [ho3 0 (lt_of_get hd2)]; exact hd2
      -- it comes once more
      have ok2 : (toldS s1 n1).Ok (L.drop k).length := by rw [← hn1]; exact ⟨A.ok.f0, A.ok.f1, A.ok.g0, A.ok.g1, A.ok.n1⟩
      obtain ⟨v4, H4, c18', hv4, W4, S4, be4⟩ := @come_spec N n (by omega) _ _ _ _ _ _ S3 ok2 d _ _ hb
      obtain ⟨e1, e2, e3⟩ := come_twice A hrej
      rw [← hn1] at hv4 S4
      rw [e1] at hv4
      have hv4 : v4 = .tup [.nils, .bool false] := hv4
      subst hv4
      rw [e2, List.drop_zero] at S4
      have hc2 : H2.length ≠ 1 := by have := lt_of_get S2.ob; omega
      have hcR : H2.length ∉ R := fun hm => by have := S2.row.lt _ hm; omega
      have SC4 : SAt H4 H2.length (toldS s1 n1) L' W' R' := SC.beyond be4 hc2 hcR (fun o ho => ⟨by have := hR' o ho; have := lt_of_get S2.ob; omega, fun hm => by have := S2.row.lt _ hm; have := hR' o ho; omega⟩)
      have c19 := @owes_spec N n (by omega) _ _ _ _ _ _ S4
      have hL1 : (L.drop k).length ≤ 1000 := by rw [← hn1]; exact n1k
      rcases e3 with e3 | e3
      · rw [e3] at S4 c19
        have c20 := @same_spec N n (by omega) (by omega) _ _ _ _ _ _ _ _ _ _ _ S4 SC4 hB hB' hL1
        have c19 : callA am N n 19 [.ptr 1 1 0] H4 = some (.bool false, H4) := c19
        simp +contextual -implicitDefEqProofs (maxSteps := 10000000) only [sx_seq, sxL_succ, lpQ_norm, lpQ_exit, lpQ_ret, loopQ_norm, loopQ_exit, loopQ_ret, sqQ_norm, sqQ_ret, sqQ_exit, sx_block, blkQ_norm, blkQ_exit, blkQ_ret, sx_cond, cdP_true, cdP_false, cdP_bool, sx_region, sx_draw, plainD, List.all_cons, List.all_nil, List.isEmpty_nil, List.isEmpty_cons, sxo_nil, sxo_cons, sxo_guard, gdS_bool, gdS_eff, gdS_tup, gdS_sel, gdS_seleff, sxK_def, wcall_some, effP_ret, effP_set, effP_none, effP_ite, wop_call, wop_cv, cvP_func, sx_ret, sx_exit, sx_skip, sx_clr, stays, ↓selV_wt, ↓selV_wf, ↓impB_wt, ↓impB_wf, ↓selV_nor, ↓impB_nor, ↓selV_nt, ↓selV_nf, ↓impB_nt, ↓impB_nf, wantB_true, wantB_false, ↓selV_true, ↓selV_false, ↓selV_and, ↓impB_true, ↓impB_false, ↓impB_and, impB_triv, valOf_some, retH_some, ↓prim_pick, pickO_true, pickO_false, pickO_and, pickO_or, pickO_andr, pickO_orr, pickO_orrn, pickO_orn, pickO_bb, pickAnd_bool, pickOr_bool, ↓selV_nn, ↓impB_nn, Bool.and_assoc, Bool.or_assoc, doOp, ev_fr, ev_cst, put_none, put_fr, get, ins, del, dels, Nat.reduceLT, Nat.reduceEqDiff, ↓reduceIte, reduceCtorEq, ne_eq, not_false_eq_true, implies_true, framed_pureF, framed_fb, framed_N, framed_pure, wop_prim, prim, YLD, mkA, V.cells, List.getElem?_cons_zero, List.getElem?_cons_succ, List.set_cons_zero, List.set_cons_succ, Nat.zero_add, Nat.add_zero, Nat.reduceAdd, Nat.reduceSub, Nat.reduceMul, Nat.reduceLeDiff, Nat.not_lt_zero, List.map_cons, List.map_nil, List.cons_append, List.nil_append, loadA, cellsAt, nAg, packA, opt_bind_some, opt_map_some, opt_bind_none, opt_map_none, List.drop, List.take, List.head?, List.length_cons, List.length_nil, binA, unA, eqCells, eqCell, negB, fillA, sr_nil, sr_cons, sr_succ, sr_all, sr_len, storeA, Ob.with, indexedI, V.oneCell, intOf?, retQ_ret, retQ_norm, resA, resA1, fr_getD, packR, sealDepth, shut_bool, shut_int, Option.some.injEq, V.bool.injEq, V.int.injEq, Bool.not_true, Bool.not_false, true_and, and_true, and_self, Bool.and_true, Bool.and_false, Bool.true_and, Bool.false_and, Bool.or_true, Bool.or_false, Bool.true_or, Bool.false_or, Bool.false_eq_true, Int.reduceLT, Int.reduceLE, Int.reduceToNat, Int.reduceNeg, shut_plain, freeL_cons, freeL_nil, free_int, free_bool, free_agg, free_str, free_nils, free_tup, free_sl, true_implies, false_implies, Nat.sub_zero, Int.natCast_nonneg, Int.toNat_natCast, Nat.le_refl, not_true_eq_false, Int.reduceAdd, Int.reduceSub, Int.reduceMul, wrap64, false_and, and_false, cond_true, cond_false, Bool.cond_true_left, Bool.cond_false_right, Int.reduceBNe, Int.reduceBEq, decide_true, decide_false, Int.cast_ofNat_Int, Nat.mul_one, eq_self, Bool.true_eq_false, Bool.not_eq_true, Bool.not_eq_false, deads, List.replicate, argsF, la, g2, hd0, q2, q6, c18, c11, c16, hd3, c18', isNil, c19, c20, c9, pm9]
      · rw [e3] at S4 c19
        have c19 : callA am N n 19 [.ptr 1 1 0] H4 = some (.bool true, H4) := c19
        obtain ⟨v5, H5, c11', S5, be5, -⟩ := @fresh_spec N n (by omega) (by omega) _ _ _ _ _ _ S4 A.ok.f0 (by rw [← hn1]; exact A.ok.f1) hL1 (by show 0 ≤ s1.first + (n1 : Int) - 1; omega) (by show s1.first + (n1 : Int) - 1 ≤ 2000; omega)
        rw [← hn1] at S5
        have S5 : SAt H5 1 (toldS s1 n1) (L.drop k) W4 R := S5
        have SC5 : SAt H5 H2.length (toldS s1 n1) L' W' R' := SC4.beyond be5 hc2 hcR (fun o ho => ⟨by have := hR' o ho; have := lt_of_get S2.ob; omega, fun hm => by have := S2.row.lt _ hm; have := hR' o ho; omega⟩)
        have c20 := @same_spec N n (by omega) (by omega) _ _ _ _ _ _ _ _ _ _ _ S5 SC5 hB hB' hL1
        simp +contextual -implicitDefEqProofs (maxSteps := 10000000) only [sx_seq, sxL_succ, lpQ_norm, lpQ_exit, lpQ_ret, loopQ_norm, loopQ_exit, loopQ_ret, sqQ_norm, sqQ_ret, sqQ_exit, sx_block, blkQ_norm, blkQ_exit, blkQ_ret, sx_cond, cdP_true, cdP_false, cdP_bool, sx_region, sx_draw, plainD, List.all_cons, List.all_nil, List.isEmpty_nil, List.isEmpty_cons, sxo_nil, sxo_cons, sxo_guard, gdS_bool, gdS_eff, gdS_tup, gdS_sel, gdS_seleff, sxK_def, wcall_some, effP_ret, effP_set, effP_none, effP_ite, wop_call, wop_cv, cvP_func, sx_ret, sx_exit, sx_skip, sx_clr, stays, ↓selV_wt, ↓selV_wf, ↓impB_wt, ↓impB_wf, ↓selV_nor, ↓impB_nor, ↓selV_nt, ↓selV_nf, ↓impB_nt, ↓impB_nf, wantB_true, wantB_false, ↓selV_true, ↓selV_false, ↓selV_and, ↓impB_true, ↓impB_false, ↓impB_and, impB_triv, valOf_some, retH_some, ↓prim_pick, pickO_true, pickO_false, pickO_and, pickO_or, pickO_andr, pickO_orr, pickO_orrn, pickO_orn, pickO_bb, pickAnd_bool, pickOr_bool, ↓selV_nn, ↓impB_nn, Bool.and_assoc, Bool.or_assoc, doOp, ev_fr, ev_cst, put_none, put_fr, get, ins, del, dels, Nat.reduceLT, Nat.reduceEqDiff, ↓reduceIte, reduceCtorEq, ne_eq, not_false_eq_true, implies_true, framed_pureF, framed_fb, framed_N, framed_pure, wop_prim, prim, YLD, mkA, V.cells, List.getElem?_cons_zero, List.getElem?_cons_succ, List.set_cons_zero, List.set_cons_succ, Nat.zero_add, Nat.add_zero, Nat.reduceAdd, Nat.reduceSub, Nat.reduceMul, Nat.reduceLeDiff, Nat.not_lt_zero, List.map_cons, List.map_nil, List.cons_append, List.nil_append, loadA, cellsAt, nAg, packA, opt_bind_some, opt_map_some, opt_bind_none, opt_map_none, List.drop, List.take, List.head?, List.length_cons, List.length_nil, binA, unA, eqCells, eqCell, negB, fillA, sr_nil, sr_cons, sr_succ, sr_all, sr_len, storeA, Ob.with, indexedI, V.oneCell, intOf?, retQ_ret, retQ_norm, resA, resA1, fr_getD, packR, sealDepth, shut_bool, shut_int, Option.some.injEq, V.bool.injEq, V.int.injEq, Bool.not_true, Bool.not_false, true_and, and_true, and_self, Bool.and_true, Bool.and_false, Bool.true_and, Bool.false_and, Bool.or_true, Bool.or_false, Bool.true_or, Bool.false_or, Bool.false_eq_true, Int.reduceLT, Int.reduceLE, Int.reduceToNat, Int.reduceNeg, shut_plain, freeL_cons, freeL_nil, free_int, free_bool, free_agg, free_str, free_nils, free_tup, free_sl, true_implies, false_implies, Nat.sub_zero, Int.natCast_nonneg, Int.toNat_natCast, Nat.le_refl, not_true_eq_false, Int.reduceAdd, Int.reduceSub, Int.reduceMul, wrap64, false_and, and_false, cond_true, cond_false, Bool.cond_true_left, Bool.cond_false_right, Int.reduceBNe, Int.reduceBEq, decide_true, decide_false, Int.cast_ofNat_Int, Nat.mul_one, eq_self, Bool.true_eq_false, Bool.not_eq_true, Bool.not_eq_false, deads, List.replicate, argsF, la, g2, hd0, q2, q6, c18, c11, c16, hd3, c18', isNil, c19, c11', c20, c9, pm9]
  · have g1 : decide ((L0.length : Int) > 40) = true := decide_eq_true (by omega)
    simp +contextual -implicitDefEqProofs (maxSteps := 10000000) only [sx_seq, sxL_succ, lpQ_norm, lpQ_exit, lpQ_ret, loopQ_norm, loopQ_exit, loopQ_ret, sqQ_norm, sqQ_ret, sqQ_exit, sx_block, blkQ_norm, blkQ_exit, blkQ_ret, sx_cond, cdP_true, cdP_false, cdP_bool, sx_region, sx_draw, plainD, List.all_cons, List.all_nil, List.isEmpty_nil, List.isEmpty_cons, sxo_nil, sxo_cons, sxo_guard, gdS_bool, gdS_eff, gdS_tup, gdS_sel, gdS_seleff, sxK_def, wcall_some, effP_ret, effP_set, effP_none, effP_ite, wop_call, wop_cv, cvP_func, sx_ret, sx_exit, sx_skip, sx_clr, stays, ↓selV_wt, ↓selV_wf, ↓impB_wt, ↓impB_wf, ↓selV_nor, ↓impB_nor, ↓selV_nt, ↓selV_nf, ↓impB_nt, ↓impB_nf, wantB_true, wantB_false, ↓selV_true, ↓selV_false, ↓selV_and, ↓impB_true, ↓impB_false, ↓impB_and, impB_triv, valOf_some, retH_some, ↓prim_pick, pickO_true, pickO_false, pickO_and, pickO_or, pickO_andr, pickO_orr, pickO_orrn, pickO_orn, pickO_bb, pickAnd_bool, pickOr_bool, ↓selV_nn, ↓impB_nn, Bool.and_assoc, Bool.or_assoc, doOp, ev_fr, ev_cst, put_none, put_fr, get, ins, del, dels, Nat.reduceLT, Nat.reduceEqDiff, ↓reduceIte, reduceCtorEq, ne_eq, not_false_eq_true, implies_true, framed_pureF, framed_fb, framed_N, framed_pure, wop_prim, prim, YLD, mkA, V.cells, List.getElem?_cons_zero, List.getElem?_cons_succ, List.set_cons_zero, List.set_cons_succ, Nat.zero_add, Nat.add_zero, Nat.reduceAdd, Nat.reduceSub, Nat.reduceMul, Nat.reduceLeDiff, Nat.not_lt_zero, List.map_cons, List.map_nil, List.cons_append, List.nil_append, loadA, cellsAt, nAg, packA, opt_bind_some, opt_map_some, opt_bind_none, opt_map_none, List.drop, List.take, List.head?, List.length_cons, List.length_nil, binA, unA, eqCells, eqCell, negB, fillA, sr_nil, sr_cons, sr_succ, sr_all, sr_len, storeA, Ob.with, indexedI, V.oneCell, intOf?, retQ_ret, retQ_norm, resA, resA1, fr_getD, packR, sealDepth, shut_bool, shut_int, Option.some.injEq, V.bool.injEq, V.int.injEq, Bool.not_true, Bool.not_false, true_and, and_true, and_self, Bool.and_true, Bool.and_false, Bool.true_and, Bool.false_and, Bool.or_true, Bool.or_false, Bool.true_or, Bool.false_or, Bool.false_eq_true, Int.reduceLT, Int.reduceLE, Int.reduceToNat, Int.reduceNeg, shut_plain, freeL_cons, freeL_nil, free_int, free_bool, free_agg, free_str, free_nils, free_tup, free_sl, true_implies, false_implies, Nat.sub_zero, Int.natCast_nonneg, Int.toNat_natCast, Nat.le_refl, not_true_eq_false, Int.reduceAdd, Int.reduceSub, Int.reduceMul, wrap64, false_and, and_false, cond_true, cond_false, Bool.cond_true_left, Bool.cond_false_right, Int.reduceBNe, Int.reduceBEq, decide_true, decide_false, Int.cast_ofNat_Int, Nat.mul_one, eq_self, Bool.true_eq_false, Bool.not_eq_true, Bool.not_eq_false, deads, List.replicate, argsF, am5, la, g1, c9]

/-! ### What came in -/

def bySh : Sh := .sl false 1 (.int .u8)
def bysSh : Sh := .sl false 1 bySh
def dgSh : Sh := .pair (.int .i64) (.pair (.int .i64) (.pair (.int .i64) (.pair (.int .i64) (.pair (.int .i64) (.pair bySh .unit)))))

theorem by_in {u : List V} (h : InSh bySh u) : ∃ b m, u = [b] ∧ By m b := by
  rcases h with rfl | ⟨us, c, rfl, -, -, hu⟩
  · exact ⟨.nils, [], rfl, .inl ⟨rfl, rfl⟩⟩
  · have : ∀ us : List (List V), (∀ u ∈ us, u.length = 1 ∧ InSh (.int .u8) u) → ∃ m : List Int, us.map (elemV false) = m.map (V.int .u8) := by
      intro us
      induction us with
      | nil => exact fun _ => ⟨[], rfl⟩
      | cons u us ih =>
        intro hu
        obtain ⟨m, hm⟩ := ih (fun v hv => hu v (by simp [hv]))
        obtain ⟨x, rfl, -⟩ := in_u8 (hu u (by simp)).2
        exact ⟨x :: m, by rw [List.map_cons, hm]; rfl⟩
    obtain ⟨m, hm⟩ := this us hu
    rw [hm]
    exact ⟨_, m, rfl, .inr ⟨some c, rfl⟩⟩

theorem bys_in {u : V} (h : InP false bysSh u) : ∃ L0 : List V, IsL u 1 (L0.map fun b => [b]) ∧ ∀ b ∈ L0, ∃ m, By m b := by
  rcases h with h | ⟨us, c, h, -, -, hu⟩
  · cases h
    exact ⟨[], isL_nils 1, fun b hb => by cases hb⟩
  · cases h
    have key : ∀ us : List (List V), (∀ u ∈ us, u.length = 1 ∧ InSh bySh u) → ∀ b ∈ us.map (elemV false), ∃ m, By m b := by
      intro us hu b hb
      obtain ⟨u, hu', rfl⟩ := List.mem_map.1 hb
      obtain ⟨b, m, rfl, hm⟩ := by_in (hu u hu').2
      exact ⟨m, hm⟩
    have hk := key us hu
    refine ⟨us.map (elemV false), isL_sl (freeL_of_mem fun b hb => ?_) (List.map_congr_left fun b hb => ?_), hk⟩
    · obtain ⟨m, hm⟩ := hk b hb
      exact hm.free
    · obtain ⟨m, hm⟩ := hk b hb
      exact hm.cells

theorem dg_in {u : List V} (h : InSh dgSh u) : ∃ (d : Dg) (b : V) (m : List Int), u = d.cs b ∧ By m b := by
  obtain ⟨u1, v1, rfl, h1, u2, v2, rfl, h2, u3, v3, rfl, h3, u4, v4, rfl, h4, u5, v5, rfl, h5, u6, v6, rfl, h6, rfl⟩ := h
  obtain ⟨a1, rfl, -⟩ := in_i64 h1
  obtain ⟨a2, rfl, -⟩ := in_i64 h2
  obtain ⟨a3, rfl, -⟩ := in_i64 h3
  obtain ⟨a4, rfl, -⟩ := in_i64 h4
  obtain ⟨a5, rfl, -⟩ := in_i64 h5
  obtain ⟨b, m, rfl, hm⟩ := by_in h6
  exact ⟨⟨a1, a2, a3, a4, a5⟩, b, m, rfl, hm⟩

theorem runsSessionTwice {u1 u2 : V} (h1 : InP false bysSh u1) (h2 : InP true dgSh u2) : ∃ N n, callA am N n 5 [u1, u2] [] = some (.bool true, []) := by
  obtain ⟨L0, hl, hB⟩ := bys_in h1
  obtain ⟨cs, rfl, h⟩ := h2
  obtain ⟨d, b, m, rfl, hm⟩ := dg_in h
  exact ⟨1500, 30, twice_spec (by omega) (by omega) u1 L0 hl hB d hm []⟩

end Go.Am.T
