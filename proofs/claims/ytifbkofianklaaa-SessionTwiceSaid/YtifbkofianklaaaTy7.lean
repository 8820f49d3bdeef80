import Derived.Test.YtifbkofianklaaaTy6
set_option linter.unusedVariables false
set_option linter.unusedSimpArgs false
set_option maxRecDepth 10000
namespace Go.Am.T
attribute [local congr] selV_congr impB_congr

theorem fresh_spec {N n : Nat} (hN : 1500 ≤ N) (hn : 4 ≤ n) {a : Nat} {s : Ses} {W : V} {L : List V} {R : List Nat} {h : Heap} (ha : SAt h a s L W R) (f0 : 1 ≤ s.first) (f1 : s.first + L.length ≤ 2000) (hL : L.length ≤ 1000) (t0 : 0 ≤ s.told) (t1 : s.told ≤ 2000) :
    ∃ v' h', callA am N n 11 [.ptr a 1 0] h = some (v', h') ∧ SAt h' a (toldS s L.length) L W R ∧ Beyond h h' a R R ∧ ∃ C, DRow h.length h' v' C ∧ Tells s L (s.told + 1) C := by
  obtain ⟨n, rfl⟩ : ∃ m, n = m + 1 := ⟨n - 1, by omega⟩
  have c22 := @is_spec N n (by omega) _ _ _ _ _ _ ha
  obtain ⟨v', h', c24, q⟩ := @tell_spec N n hN (by omega) _ _ _ _ _ _ ha (s.told + 1) f0 f1 hL
  have wt : IntKind.i64.wrap (s.told + 1) = s.told + 1 := wrap64 (by omega) (by omega)
  have oa := ha.ob
  have q3 : (s.cs W).length = 9 := rfl
  have t6 : List.take 1 (List.drop 6 (s.cs W)) = [.int .i64 s.told] := rfl
  refine call_keep at11 rfl rfl (by decide) (sx_wp ?_)
  simp +contextual -implicitDefEqProofs (maxSteps := 10000000) only [sx_seq, sxL_succ, lpQ_norm, lpQ_exit, lpQ_ret, loopQ_norm, loopQ_exit, loopQ_ret, sqQ_norm, sqQ_ret, sqQ_exit, sx_block, blkQ_norm, blkQ_exit, blkQ_ret, sx_cond, cdP_true, cdP_false, cdP_bool, sx_region, sx_draw, plainD, List.all_cons, List.all_nil, List.isEmpty_nil, List.isEmpty_cons, sxo_nil, sxo_cons, sxo_guard, gdS_bool, gdS_eff, gdS_tup, gdS_sel, gdS_seleff, sxK_def, wcall_some, effP_ret, effP_set, effP_none, effP_ite, wop_call, wop_cv, cvP_func, sx_ret, sx_exit, sx_skip, sx_clr, stays, ↓selV_wt, ↓selV_wf, ↓impB_wt, ↓impB_wf, ↓selV_nor, ↓impB_nor, ↓selV_nt, ↓selV_nf, ↓impB_nt, ↓impB_nf, wantB_true, wantB_false, ↓selV_true, ↓selV_false, ↓selV_and, ↓impB_true, ↓impB_false, ↓impB_and, impB_triv, valOf_some, retH_some, ↓prim_pick, pickO_true, pickO_false, pickO_and, pickO_or, pickO_andr, pickO_orr, pickO_orrn, pickO_orn, pickO_bb, pickAnd_bool, pickOr_bool, ↓selV_nn, ↓impB_nn, Bool.and_assoc, Bool.or_assoc, doOp, ev_fr, ev_cst, put_none, put_fr, get, ins, del, dels, Nat.reduceLT, Nat.reduceEqDiff, ↓reduceIte, reduceCtorEq, ne_eq, not_false_eq_true, implies_true, framed_pureF, framed_fb, framed_N, framed_pure, wop_prim, prim, YLD, mkA, V.cells, List.getElem?_cons_zero, List.getElem?_cons_succ, List.set_cons_zero, List.set_cons_succ, Nat.zero_add, Nat.add_zero, Nat.reduceAdd, Nat.reduceSub, Nat.reduceMul, Nat.reduceLeDiff, Nat.not_lt_zero, List.map_cons, List.map_nil, List.cons_append, List.nil_append, loadA, cellsAt, nAg, packA, opt_bind_some, opt_map_some, opt_bind_none, opt_map_none, List.drop, List.take, List.head?, List.length_cons, List.length_nil, binA, unA, eqCells, eqCell, negB, fillA, sr_nil, sr_cons, sr_succ, sr_all, sr_len, storeA, Ob.with, indexedI, V.oneCell, intOf?, retQ_ret, retQ_norm, resA, resA1, fr_getD, packR, sealDepth, shut_bool, shut_int, Option.some.injEq, V.bool.injEq, V.int.injEq, Bool.not_true, Bool.not_false, true_and, and_true, and_self, Bool.and_true, Bool.and_false, Bool.true_and, Bool.false_and, Bool.or_true, Bool.or_false, Bool.true_or, Bool.false_or, Bool.false_eq_true, Int.reduceLT, Int.reduceLE, Int.reduceToNat, Int.reduceNeg, shut_plain, freeL_cons, freeL_nil, free_int, free_bool, free_agg, free_str, free_nils, free_tup, free_sl, true_implies, false_implies, Nat.sub_zero, Int.natCast_nonneg, Int.toNat_natCast, Nat.le_refl, not_true_eq_false, Int.reduceAdd, Int.reduceSub, Int.reduceMul, wrap64, false_and, and_false, cond_true, cond_false, Bool.cond_true_left, Bool.cond_false_right, Int.reduceBNe, Int.reduceBEq, decide_true, decide_false, Int.cast_ofNat_Int, Nat.mul_one, eq_self, Bool.true_eq_false, Bool.not_eq_true, Bool.not_eq_false, deads, List.replicate, argsF, am11, List.append_nil, c22, isNil, oa, q3, t6, wt, c24, -List.drop, -List.take]
  exact q

theorem again_spec {N n : Nat} (hN : 1500 ≤ N) (hn : 4 ≤ n) {a : Nat} {s : Ses} {W : V} {L : List V} {R : List Nat} {h : Heap} (ha : SAt h a s L W R) (f0 : 1 ≤ s.first) (f1 : s.first + L.length ≤ 2000) (hL : L.length ≤ 1000) :
    ∃ v' h', callA am N n 12 [.ptr a 1 0] h = some (v', h') ∧ SAt h' a (toldS s L.length) L W R ∧ Beyond h h' a R R ∧ ∃ C, DRow h.length h' v' C ∧ Tells s L s.first C := by
  obtain ⟨n, rfl⟩ : ∃ m, n = m + 1 := ⟨n - 1, by omega⟩
  have c22 := @is_spec N n (by omega) _ _ _ _ _ _ ha
  obtain ⟨v', h', c24, q⟩ := @tell_spec N n hN (by omega) _ _ _ _ _ _ ha s.first f0 f1 hL
  have oa := ha.ob
  have q3 : (s.cs W).length = 9 := rfl
  have t5 : List.take 1 (List.drop 5 (s.cs W)) = [.int .i64 s.first] := rfl
  refine call_keep at12 rfl rfl (by decide) (sx_wp ?_)
  simp +contextual -implicitDefEqProofs (maxSteps := 10000000) only [sx_seq, sxL_succ, lpQ_norm, lpQ_exit, lpQ_ret, loopQ_norm, loopQ_exit, loopQ_ret, sqQ_norm, sqQ_ret, sqQ_exit, sx_block, blkQ_norm, blkQ_exit, blkQ_ret, sx_cond, cdP_true, cdP_false, cdP_bool, sx_region, sx_draw, plainD, List.all_cons, List.all_nil, List.isEmpty_nil, List.isEmpty_cons, sxo_nil, sxo_cons, sxo_guard, gdS_bool, gdS_eff, gdS_tup, gdS_sel, gdS_seleff, sxK_def, wcall_some, effP_ret, effP_set, effP_none, effP_ite, wop_call, wop_cv, cvP_func, sx_ret, sx_exit, sx_skip, sx_clr, stays, ↓selV_wt, ↓selV_wf, ↓impB_wt, ↓impB_wf, ↓selV_nor, ↓impB_nor, ↓selV_nt, ↓selV_nf, ↓impB_nt, ↓impB_nf, wantB_true, wantB_false, ↓selV_true, ↓selV_false, ↓selV_and, ↓impB_true, ↓impB_false, ↓impB_and, impB_triv, valOf_some, retH_some, ↓prim_pick, pickO_true, pickO_false, pickO_and, pickO_or, pickO_andr, pickO_orr, pickO_orrn, pickO_orn, pickO_bb, pickAnd_bool, pickOr_bool, ↓selV_nn, ↓impB_nn, Bool.and_assoc, Bool.or_assoc, doOp, ev_fr, ev_cst, put_none, put_fr, get, ins, del, dels, Nat.reduceLT, Nat.reduceEqDiff, ↓reduceIte, reduceCtorEq, ne_eq, not_false_eq_true, implies_true, framed_pureF, framed_fb, framed_N, framed_pure, wop_prim, prim, YLD, mkA, V.cells, List.getElem?_cons_zero, List.getElem?_cons_succ, List.set_cons_zero, List.set_cons_succ, Nat.zero_add, Nat.add_zero, Nat.reduceAdd, Nat.reduceSub, Nat.reduceMul, Nat.reduceLeDiff, Nat.not_lt_zero, List.map_cons, List.map_nil, List.cons_append, List.nil_append, loadA, cellsAt, nAg, packA, opt_bind_some, opt_map_some, opt_bind_none, opt_map_none, List.drop, List.take, List.head?, List.length_cons, List.length_nil, binA, unA, eqCells, eqCell, negB, fillA, sr_nil, sr_cons, sr_succ, sr_all, sr_len, storeA, Ob.with, indexedI, V.oneCell, intOf?, retQ_ret, retQ_norm, resA, resA1, fr_getD, packR, sealDepth, shut_bool, shut_int, Option.some.injEq, V.bool.injEq, V.int.injEq, Bool.not_true, Bool.not_false, true_and, and_true, and_self, Bool.and_true, Bool.and_false, Bool.true_and, Bool.false_and, Bool.or_true, Bool.or_false, Bool.true_or, Bool.false_or, Bool.false_eq_true, Int.reduceLT, Int.reduceLE, Int.reduceToNat, Int.reduceNeg, shut_plain, freeL_cons, freeL_nil, free_int, free_bool, free_agg, free_str, free_nils, free_tup, free_sl, true_implies, false_implies, Nat.sub_zero, Int.natCast_nonneg, Int.toNat_natCast, Nat.le_refl, not_true_eq_false, Int.reduceAdd, Int.reduceSub, Int.reduceMul, wrap64, false_and, and_false, cond_true, cond_false, Bool.cond_true_left, Bool.cond_false_right, Int.reduceBNe, Int.reduceBEq, decide_true, decide_false, Int.cast_ofNat_Int, Nat.mul_one, eq_self, Bool.true_eq_false, Bool.not_eq_true, Bool.not_eq_false, deads, List.replicate, argsF, am12, List.append_nil, c22, isNil, oa, q3, t5, c24, -List.drop, -List.take]
  exact q

/-! ### A copy -/

/-- These bodies have these bytes. -/
def Bys (B : List (List Int)) (L : List V) : Prop := L.length = B.length ∧ ∀ (i : Nat) (b : V) (l : List Int), L[i]? = some b → B[i]? = some l → By l b ∧ l.length ≤ 256

theorem Bods.bys : ∀ {L : List V}, Bods L → ∃ B, Bys B L
  | [], _ => ⟨[], rfl, fun i b l h => by simp at h⟩
  | b :: L, h => by
    obtain ⟨B, hB1, hB2⟩ := Bods.bys (L := L) (fun c hc => h c (by simp [hc]))
    obtain ⟨l, hl⟩ := h b (by simp)
    refine ⟨l :: B, by simp [hB1], fun i c m h1 h2 => ?_⟩
    cases i with
    | zero => simp at h1 h2; subst h1; subst h2; exact hl
    | succ i => exact hB2 i c m (by simpa using h1) (by simpa using h2)

theorem Bys.bods {B : List (List Int)} {L : List V} (h : Bys B L) : Bods L := by
  intro b hb
  obtain ⟨i, hi, rfl⟩ := List.getElem_of_mem hb
  have hlt : i < B.length := by rw [← h.1]; exact hi
  exact ⟨B[i], h.2 i _ _ (List.getElem?_eq_getElem hi) (List.getElem?_eq_getElem hlt)⟩

theorem Bys.snoc {B : List (List Int)} {L : List V} {l : List Int} {b : V} (h : Bys B L) (hb : By l b) (hl : l.length ≤ 256) : Bys (B ++ [l]) (L ++ [b]) := by
  refine ⟨by simp [h.1], fun i c m h1 h2 => ?_⟩
  by_cases hi : i < L.length
  · rw [List.getElem?_append_left hi] at h1
    rw [List.getElem?_append_left (by rw [← h.1]; exact hi)] at h2
    exact h.2 i c m h1 h2
  · rw [List.getElem?_append_right (by omega)] at h1
    rw [List.getElem?_append_right (by rw [← h.1]; omega), ← h.1] at h2
    have h3 := List.mem_of_getElem? h1
    have h4 := List.mem_of_getElem? h2
    obtain rfl := List.mem_singleton.1 h3
    obtain rfl := List.mem_singleton.1 h4
    exact ⟨hb, hl⟩

set_option maxHeartbeats 2000000 in
theorem copy_spec {N n : Nat} (hN : 1500 ≤ N) (hn : 3 ≤ n) {a : Nat} {s : Ses} {W : V} {L : List V} {R : List Nat} {h : Heap} (ha : SAt h a s L W R) {B : List (List Int)} (hB : Bys B L) (hL : L.length ≤ 1000) :
    ∃ v' h', callA am N n 16 [.ptr a 1 0] h = some (v', h') ∧ v' = .ptr h.length 1 0 ∧ (∀ o, o < h.length → h'[o]? = h[o]?) ∧ h.length ≤ h'.length ∧ ∃ L' W' R', Bys B L' ∧ SAt h' h.length s L' W' R' ∧ ∀ o ∈ R', h.length < o := by
  obtain ⟨n, rfl⟩ : ∃ m, n = m + 1 := ⟨n - 1, by omega⟩
  have hal := lt_of_get ha.ob
  obtain ⟨h0, e0⟩ : ∃ h0, h0 = h ++ [(⟨0, .dead⟩ : Ob), ⟨0, .dead⟩] := ⟨_, rfl⟩
  have c22 := @is_spec N n (by omega) _ _ _ _ _ _ (ha.app [(⟨0, .dead⟩ : Ob), ⟨0, .dead⟩])
  have oa : ∀ l : List Ob, (h ++ l)[a]? = some ⟨1, .var (s.cs W)⟩ := fun l => by rw [List.getElem?_append_left hal]; exact ha.ob
  have q3 : ∀ W, (s.cs W).length = 9 := fun _ => rfl
  have t9 : ∀ W, List.take 9 (s.cs W) = s.cs W := fun _ => rfl
  have t4 : ∀ (W : V), List.take 1 (List.drop 4 (s.cs W)) = [W] := fun _ => rfl
  have c4 : ∀ (W W' : V), setRange (s.cs W) 4 [W'] = s.cs W' := fun _ _ => rfl
  have c0 : ∀ W, setRange [V.bool false, .int .i64 0, .int .i64 0, .int .i64 0, .nils, .int .i64 0, .int .i64 0, .int .i64 0, .bool false] 0 (s.cs W) = s.cs W := fun _ => sr_all rfl
  obtain ⟨v1, v2, v3, v4, v5, v6⟩ := ha.row.shape
  have one : (s.cs W).all V.oneCell = true := by
    simp only [Ses.cs, List.all_cons, List.all_nil, v2, Bool.and_true, Bool.true_and]; rfl
  have hlW := ha.row.len
  refine call_keep at16 rfl rfl (by decide) (sx_wp ?_)
  simp +contextual -implicitDefEqProofs (maxSteps := 10000000) only [sx_seq, sxL_succ, lpQ_norm, lpQ_exit, lpQ_ret, loopQ_norm, loopQ_exit, loopQ_ret, sqQ_norm, sqQ_ret, sqQ_exit, sx_block, blkQ_norm, blkQ_exit, blkQ_ret, sx_cond, cdP_true, cdP_false, cdP_bool, sx_region, sx_draw, plainD, List.all_cons, List.all_nil, List.isEmpty_nil, List.isEmpty_cons, sxo_nil, sxo_cons, sxo_guard, gdS_bool, gdS_eff, gdS_tup, gdS_sel, gdS_seleff, sxK_def, wcall_some, effP_ret, effP_set, effP_none, effP_ite, wop_call, wop_cv, cvP_func, sx_ret, sx_exit, sx_skip, sx_clr, stays, ↓selV_wt, ↓selV_wf, ↓impB_wt, ↓impB_wf, ↓selV_nor, ↓impB_nor, ↓selV_nt, ↓selV_nf, ↓impB_nt, ↓impB_nf, wantB_true, wantB_false, ↓selV_true, ↓selV_false, ↓selV_and, ↓impB_true, ↓impB_false, ↓impB_and, impB_triv, valOf_some, retH_some, ↓prim_pick, pickO_true, pickO_false, pickO_and, pickO_or, pickO_andr, pickO_orr, pickO_orrn, pickO_orn, pickO_bb, pickAnd_bool, pickOr_bool, ↓selV_nn, ↓impB_nn, Bool.and_assoc, Bool.or_assoc, doOp, ev_fr, ev_cst, put_none, put_fr, get, ins, del, dels, Nat.reduceLT, Nat.reduceEqDiff, ↓reduceIte, reduceCtorEq, ne_eq, not_false_eq_true, implies_true, framed_pureF, framed_fb, framed_N, framed_pure, wop_prim, prim, YLD, mkA, V.cells, List.getElem?_cons_zero, List.getElem?_cons_succ, List.set_cons_zero, List.set_cons_succ, Nat.zero_add, Nat.add_zero, Nat.reduceAdd, Nat.reduceSub, Nat.reduceMul, Nat.reduceLeDiff, Nat.not_lt_zero, List.map_cons, List.map_nil, List.cons_append, List.nil_append, loadA, cellsAt, nAg, packA, opt_bind_some, opt_map_some, opt_bind_none, opt_map_none, List.drop, List.take, List.head?, List.length_cons, List.length_nil, binA, unA, eqCells, eqCell, negB, fillA, sr_nil, sr_cons, sr_succ, sr_all, sr_len, storeA, Ob.with, indexedI, V.oneCell, intOf?, retQ_ret, retQ_norm, resA, resA1, fr_getD, packR, sealDepth, shut_bool, shut_int, Option.some.injEq, V.bool.injEq, V.int.injEq, Bool.not_true, Bool.not_false, true_and, and_true, and_self, Bool.and_true, Bool.and_false, Bool.true_and, Bool.false_and, Bool.or_true, Bool.or_false, Bool.true_or, Bool.false_or, Bool.false_eq_true, Int.reduceLT, Int.reduceLE, Int.reduceToNat, Int.reduceNeg, shut_plain, freeL_cons, freeL_nil, free_int, free_bool, free_agg, free_str, free_nils, free_tup, free_sl, true_implies, false_implies, Nat.sub_zero, Int.natCast_nonneg, Int.toNat_natCast, Nat.le_refl, not_true_eq_false, Int.reduceAdd, Int.reduceSub, Int.reduceMul, wrap64, false_and, and_false, cond_true, cond_false, Bool.cond_true_left, Bool.cond_false_right, Int.reduceBNe, Int.reduceBEq, decide_true, decide_false, Int.cast_ofNat_Int, Nat.mul_one, eq_self, Bool.true_eq_false, Bool.not_eq_true, Bool.not_eq_false, deads, List.replicate, argsF, am16, app_get0, app_get, app_set0, app_set, c22, isNil, oa, q3, t9, t4, c0, c4, one, v1, v2, hlW, -List.drop, -List.take]
  refine sx_loop (fun i t H => ∃ Wc Lc Rc, t = fr 30 [(3, .ptr h.length 1 0), (16, W), (17, .int .i64 L.length), (18, .int .i64 i)] ∧ i ≤ L.length ∧ H.length = h.length + 2 ∧ H[h.length]? = some ⟨1, .var (s.cs Wc)⟩ ∧ WRow H Wc Lc Rc ∧ (∀ o ∈ Rc, h.length < o) ∧ Bys (B.take i) Lc ∧ ∀ o, o < h.length → H[o]? = h[o]?) L.length (by show L.length < N; omega)
    ⟨.nils, [], [], rfl, Nat.zero_le _, by simp, by rw [app_get0]; rfl, .inl ⟨rfl, rfl, rfl⟩, fun o ho => (by cases ho), ⟨rfl, fun i b l h => (by simp at h)⟩, fun o ho => List.getElem?_append_left ho⟩ ?_
  rintro i t H hi ⟨Wc, Lc, Rc, rfl, hiL, hHl, hcH, hrow, hRc, hBy, hoth⟩
  by_cases hlt : i < L.length
  · have g1 : decide ((i : Int) < (L.length : Int)) = true := decide_eq_true (by omega)
    have w4 : IntKind.i64.wrap ((i : Int) + 1) = ((i + 1 : Nat) : Int) := (wrap64 (by omega) (by omega)).trans (by omega)
    have hi1 : i + 1 ≤ L.length := by omega
    obtain ⟨b, hbi⟩ : ∃ b, L[i]? = some b := ⟨_, List.getElem?_eq_getElem hlt⟩
    obtain ⟨l, hli⟩ : ∃ l, B[i]? = some l := ⟨_, List.getElem?_eq_getElem (by rw [← hB.1]; exact hlt)⟩
    obtain ⟨hb, hl⟩ := hB.2 i b l hbi hli
    obtain ⟨o, ver, off, cs, hia, hoc, hle, hld, hRo⟩ := (ha.row.keep (fun o ho => hoth o (ha.row.lt o ho))).cell hbi
    obtain ⟨b', hb', c23⟩ := @clone_spec N n (by omega) l b hb (by omega)
    have hobb : b.objs = [] := hb.objs
    have f23 : ∀ fb (h : Heap), ({ pureF := pureOf am, call := callA am N n, N := N, fb := fb } : Env).framed.call 23 [b] h = some (b', h) := fun fb h =>
      frame_free pm23 (.inr rfl) (by simp [V.objsL, hobb]) c23 hb'.objs
    have bc := hb.cells
    have bn1 := hb.njunk
    have bn2 := hb.nagg
    have k1 := hb'.cells
    have k2 := hb'.one
    have k3 := hb'.njunk
    have k4 := hb'.nagg
    have k5 := hb'.ntup
    have hx : H[h.length + 1]? = some (H[h.length + 1]'(by omega)) := List.getElem?_eq_getElem _
    have hLc : Lc.length ≤ 1000 := by
      have := hBy.1
      simp at this
      omega
    obtain ⟨o1, y, W', hA, hrow', ho1, hol⟩ := hrow.append hx k1 k2 hLc
    obtain ⟨w1, w2, w3, w4', w5, w6⟩ := hrow'.shape
    obtain ⟨u1, u2, u3, u4, u5, u6⟩ := hrow.shape
    have ho1' : h.length < o1 := by
      rcases ho1 with rfl | ho1
      · omega
      · exact hRc _ ho1
    have g2 : (H.set o1 y)[h.length]? = some ⟨1, .var (s.cs Wc)⟩ := by rw [List.getElem?_set_ne (by omega)]; exact hcH
    have hll : h.length < H.length := by omega
    have hWobj := hrow.objs
    have r1 : List.range 1 = [0] := rfl
    have wr : wrapV [b'] = b' := rfl
    simp +contextual -implicitDefEqProofs (maxSteps := 10000000) only [sx_seq, sxL_succ, lpQ_norm, lpQ_exit, lpQ_ret, loopQ_norm, loopQ_exit, loopQ_ret, sqQ_norm, sqQ_ret, sqQ_exit, sx_block, blkQ_norm, blkQ_exit, blkQ_ret, sx_cond, cdP_true, cdP_false, cdP_bool, sx_region, sx_draw, plainD, List.all_cons, List.all_nil, List.isEmpty_nil, List.isEmpty_cons, sxo_nil, sxo_cons, sxo_guard, gdS_bool, gdS_eff, gdS_tup, gdS_sel, gdS_seleff, sxK_def, wcall_some, effP_ret, effP_set, effP_none, effP_ite, wop_call, wop_cv, cvP_func, sx_ret, sx_exit, sx_skip, sx_clr, stays, ↓selV_wt, ↓selV_wf, ↓impB_wt, ↓impB_wf, ↓selV_nor, ↓impB_nor, ↓selV_nt, ↓selV_nf, ↓impB_nt, ↓impB_nf, wantB_true, wantB_false, ↓selV_true, ↓selV_false, ↓selV_and, ↓impB_true, ↓impB_false, ↓impB_and, impB_triv, valOf_some, retH_some, ↓prim_pick, pickO_true, pickO_false, pickO_and, pickO_or, pickO_andr, pickO_orr, pickO_orrn, pickO_orn, pickO_bb, pickAnd_bool, pickOr_bool, ↓selV_nn, ↓impB_nn, Bool.and_assoc, Bool.or_assoc, doOp, ev_fr, ev_cst, put_none, put_fr, get, ins, del, dels, Nat.reduceLT, Nat.reduceEqDiff, ↓reduceIte, reduceCtorEq, ne_eq, not_false_eq_true, implies_true, framed_pureF, framed_fb, framed_N, framed_pure, wop_prim, prim, YLD, mkA, V.cells, List.getElem?_cons_zero, List.getElem?_cons_succ, List.set_cons_zero, List.set_cons_succ, Nat.zero_add, Nat.add_zero, Nat.reduceAdd, Nat.reduceSub, Nat.reduceMul, Nat.reduceLeDiff, Nat.not_lt_zero, List.map_cons, List.map_nil, List.cons_append, List.nil_append, loadA, cellsAt, nAg, packA, opt_bind_some, opt_map_some, opt_bind_none, opt_map_none, List.drop, List.take, List.head?, List.length_cons, List.length_nil, binA, unA, eqCells, eqCell, negB, fillA, sr_nil, sr_cons, sr_succ, sr_all, sr_len, storeA, Ob.with, indexedI, V.oneCell, intOf?, retQ_ret, retQ_norm, resA, resA1, fr_getD, packR, sealDepth, shut_bool, shut_int, Option.some.injEq, V.bool.injEq, V.int.injEq, Bool.not_true, Bool.not_false, true_and, and_true, and_self, Bool.and_true, Bool.and_false, Bool.true_and, Bool.false_and, Bool.or_true, Bool.or_false, Bool.true_or, Bool.false_or, Bool.false_eq_true, Int.reduceLT, Int.reduceLE, Int.reduceToNat, Int.reduceNeg, shut_plain, freeL_cons, freeL_nil, free_int, free_bool, free_agg, free_str, free_nils, free_tup, free_sl, true_implies, false_implies, Nat.sub_zero, Int.natCast_nonneg, Int.toNat_natCast, Nat.le_refl, not_true_eq_false, Int.reduceAdd, Int.reduceSub, Int.reduceMul, wrap64, false_and, and_false, cond_true, cond_false, Bool.cond_true_left, Bool.cond_false_right, Int.reduceBNe, Int.reduceBEq, decide_true, decide_false, Int.cast_ofNat_Int, Nat.mul_one, eq_self, Bool.true_eq_false, Bool.not_eq_true, Bool.not_eq_false, deads, List.replicate, argsF, sx_drawd, wpd_nil, wpd_cons, wdK_def, fpOf, fpV, fpCall, Fp.ok, disj, List.contains_cons, List.contains_nil, Nat.reduceBEq, List.all_append, V.objsL, V.objs,  List.getD_cons_zero, List.getD_cons_succ, List.append_nil, g1, hia, hoc, hle, hld, hcH, f23, isNil, q3, t4, c4, bc, k1, k2, r1, wr, hA, g2, w1, w2, u1, u2, hobb, pm23, w4, hi1, hlt, hll, -List.drop, -List.take]
    refine ⟨W', Lc ++ [b'], [o1], by simp; omega, by rw [List.getElem?_set_self (by simp; omega)], ?_, ?_, ?_, ?_⟩
    · refine hrow'.keep (fun q hq => ?_)
      obtain rfl := List.mem_singleton.1 hq
      rw [List.getElem?_set_ne (by omega)]
    · intro q hq
      obtain rfl := List.mem_singleton.1 hq
      exact ho1'
    · have : B.take (i + 1) = B.take i ++ [l] := by rw [List.take_add_one, hli]; rfl
      rw [this]
      exact hBy.snoc hb' hl
    · intro q hq
      rw [List.getElem?_set_ne (by omega), List.getElem?_set_ne (by omega)]
      exact hoth q hq
  · have e : i = L.length := by omega
    subst e
    have g1 : decide ((L.length : Int) < (L.length : Int)) = false := decide_eq_false (by omega)
    simp +contextual -implicitDefEqProofs (maxSteps := 10000000) only [sx_seq, sxL_succ, lpQ_norm, lpQ_exit, lpQ_ret, loopQ_norm, loopQ_exit, loopQ_ret, sqQ_norm, sqQ_ret, sqQ_exit, sx_block, blkQ_norm, blkQ_exit, blkQ_ret, sx_cond, cdP_true, cdP_false, cdP_bool, sx_region, sx_draw, plainD, List.all_cons, List.all_nil, List.isEmpty_nil, List.isEmpty_cons, sxo_nil, sxo_cons, sxo_guard, gdS_bool, gdS_eff, gdS_tup, gdS_sel, gdS_seleff, sxK_def, wcall_some, effP_ret, effP_set, effP_none, effP_ite, wop_call, wop_cv, cvP_func, sx_ret, sx_exit, sx_skip, sx_clr, stays, ↓selV_wt, ↓selV_wf, ↓impB_wt, ↓impB_wf, ↓selV_nor, ↓impB_nor, ↓selV_nt, ↓selV_nf, ↓impB_nt, ↓impB_nf, wantB_true, wantB_false, ↓selV_true, ↓selV_false, ↓selV_and, ↓impB_true, ↓impB_false, ↓impB_and, impB_triv, valOf_some, retH_some, ↓prim_pick, pickO_true, pickO_false, pickO_and, pickO_or, pickO_andr, pickO_orr, pickO_orrn, pickO_orn, pickO_bb, pickAnd_bool, pickOr_bool, ↓selV_nn, ↓impB_nn, Bool.and_assoc, Bool.or_assoc, doOp, ev_fr, ev_cst, put_none, put_fr, get, ins, del, dels, Nat.reduceLT, Nat.reduceEqDiff, ↓reduceIte, reduceCtorEq, ne_eq, not_false_eq_true, implies_true, framed_pureF, framed_fb, framed_N, framed_pure, wop_prim, prim, YLD, mkA, V.cells, List.getElem?_cons_zero, List.getElem?_cons_succ, List.set_cons_zero, List.set_cons_succ, Nat.zero_add, Nat.add_zero, Nat.reduceAdd, Nat.reduceSub, Nat.reduceMul, Nat.reduceLeDiff, Nat.not_lt_zero, List.map_cons, List.map_nil, List.cons_append, List.nil_append, loadA, cellsAt, nAg, packA, opt_bind_some, opt_map_some, opt_bind_none, opt_map_none, List.drop, List.take, List.head?, List.length_cons, List.length_nil, binA, unA, eqCells, eqCell, negB, fillA, sr_nil, sr_cons, sr_succ, sr_all, sr_len, storeA, Ob.with, indexedI, V.oneCell, intOf?, retQ_ret, retQ_norm, resA, resA1, fr_getD, packR, sealDepth, shut_bool, shut_int, Option.some.injEq, V.bool.injEq, V.int.injEq, Bool.not_true, Bool.not_false, true_and, and_true, and_self, Bool.and_true, Bool.and_false, Bool.true_and, Bool.false_and, Bool.or_true, Bool.or_false, Bool.true_or, Bool.false_or, Bool.false_eq_true, Int.reduceLT, Int.reduceLE, Int.reduceToNat, Int.reduceNeg, shut_plain, freeL_cons, freeL_nil, free_int, free_bool, free_agg, free_str, free_nils, free_tup, free_sl, true_implies, false_implies, Nat.sub_zero, Int.natCast_nonneg, Int.toNat_natCast, Nat.le_refl, not_true_eq_false, Int.reduceAdd, Int.reduceSub, Int.reduceMul, wrap64, false_and, and_false, cond_true, cond_false, Bool.cond_true_left, Bool.cond_false_right, Int.reduceBNe, Int.reduceBEq, decide_true, decide_false, Int.cast_ofNat_Int, Nat.mul_one, eq_self, Bool.true_eq_false, Bool.not_eq_true, Bool.not_eq_false, deads, List.replicate, argsF, g1]
    have hBt : B.take L.length = B := List.take_of_length_le (by rw [hB.1]; exact Nat.le_refl _)
    rw [hBt] at hBy
    refine ⟨hoth, by omega, Lc, Wc, Rc, hBy, ⟨hcH, hrow, hBy.bods, ?_⟩, hRc⟩
    intro hmem
    have := hRc _ hmem
    omega

end Go.Am.T
