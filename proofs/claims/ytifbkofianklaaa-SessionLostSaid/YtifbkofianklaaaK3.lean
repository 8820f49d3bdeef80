import Derived.Test.YtifbkofianklaaaK2
set_option linter.unusedVariables false
set_option linter.unusedSimpArgs false
set_option maxRecDepth 10000
namespace Go.Am.T
attribute [local congr] selV_congr impB_congr

/-- A framed call that looks at no object, and changes none. -/
theorem frame_free {m : FMode} {pureF : FuncId → FMode} {call : Caller} {f : FuncId} {args : List V} {h : Heap} {v : V} (hm : pureF f = m) (hk : m = .keep ∨ m = .auto) (hR : V.objsL args = [])
    (hc : ∀ h, call f args h = some (v, h)) (hv : v.objs = []) (hy : f ≠ YLD := by decide) : frameC pureF call f args h = some (v, h) := by
  have hlen : (keepOnly [] h).length = h.length := keepOnly_length _ _
  have c1 : closedIn [] h.length (keepOnly [] h) = true := closedIn_of fun o y hy hi => by
    have : o < h.length := by rw [← hlen]; exact (List.getElem?_eq_some_iff.1 hy).1
    simp [inside] at hi
    omega
  have key : mergeH [] h (keepOnly [] h) = h := by
    apply List.ext_getElem?
    intro o
    rw [mergeH_get]
    rcases Nat.lt_or_ge o h.length with ho | ho
    · rw [keepOnly_get, List.getElem?_eq_getElem ho]
      simp [inside, Nat.not_le.2 ho, List.getD_eq_getElem?_getD, ho]
    · rw [List.getElem?_eq_none (by omega), List.getElem?_eq_none ho]; rfl
  unfold frameC
  rw [if_neg hy, hm]
  rcases hk with rfl | rfl <;>
  · simp only [hR, reachC_nil, c1, hc, hlen, hv, List.all_nil, Nat.le_refl, decide_true, Bool.and_self, ↓reduceIte, key]

theorem cs_len {s : Ses} {W : V} : (s.cs W).length = 9 := rfl

/-- What a call leaves of the memory beyond one session. -/
structure Beyond (H H' : Heap) (a : Nat) (R : List Nat) (R' : List Nat) : Prop where
  len : H.length ≤ H'.length
  oth : ∀ o, o < H.length → o ≠ a → o ∉ R → H'[o]? = H[o]?
  new : ∀ o ∈ R', o ∈ R ∨ H.length ≤ o

set_option maxHeartbeats 1000000 in
theorem send_long {N n : Nat} (hn : 2 ≤ n) {a : Nat} {s : Ses} {W : V} {L : List V} {R : List Nat} {h : Heap} (ha : SAt h a s L W R) {l : List Int} {b : V} (hb : By l b) (hl : 256 < l.length) :
    callA am N n 10 [.ptr a 1 0, b] h = some (.int .i64 3, h ++ [⟨0, .dead⟩]) := by
  obtain ⟨n, rfl⟩ : ∃ m, n = m + 1 := ⟨n - 1, by omega⟩
  have hal := lt_of_get ha.ob
  have ha0 : SAt (h ++ [⟨0, .dead⟩]) a s L W R := ⟨by rw [List.getElem?_append_left hal]; exact ha.ob, ha.row.keep (fun o ho => List.getElem?_append_left (ha.row.lt o ho)), ha.bods, ha.apart⟩
  have c22 := @is_spec N n (by omega) _ _ _ _ _ _ ha0
  have hlen := hb.len
  have hns := hb.nstr
  have g1 : decide ((l.length : Int) > 256) = true := decide_eq_true (by omega)
  refine call_keep_eq at10 rfl rfl (by decide) (sx_wp ?_)
  simp +contextual -implicitDefEqProofs (maxSteps := 10000000) only [sx_seq, sxL_succ, lpQ_norm, lpQ_exit, lpQ_ret, loopQ_norm, loopQ_exit, loopQ_ret, sqQ_norm, sqQ_ret, sqQ_exit, sx_block, blkQ_norm, blkQ_exit, blkQ_ret, sx_cond, cdP_true, cdP_false, cdP_bool, sx_region, sx_draw, plainD, List.all_cons, List.all_nil, List.isEmpty_nil, List.isEmpty_cons, sxo_nil, sxo_cons, sxo_guard, gdS_bool, gdS_eff, gdS_tup, gdS_sel, gdS_seleff, sxK_def, wcall_some, effP_ret, effP_set, effP_none, effP_ite, wop_call, wop_cv, cvP_func, sx_ret, sx_exit, sx_skip, sx_clr, sx_fresh, stays, ↓selV_wt, ↓selV_wf, ↓impB_wt, ↓impB_wf, ↓selV_nor, ↓impB_nor, ↓selV_nt, ↓selV_nf, ↓impB_nt, ↓impB_nf, wantB_true, wantB_false, ↓selV_true, ↓selV_false, ↓selV_and, ↓impB_true, ↓impB_false, ↓impB_and, impB_triv, valOf_some, retH_some, ↓prim_pick, pickO_true, pickO_false, pickO_and, pickO_or, pickO_andr, pickO_orr, pickO_orrn, pickO_orn, pickO_bb, pickAnd_bool, pickOr_bool, ↓selV_nn, ↓impB_nn, Bool.and_assoc, Bool.or_assoc, doOp, ev_fr, ev_cst, put_none, put_fr, get, ins, del, dels, Nat.reduceLT, Nat.reduceEqDiff, ↓reduceIte, reduceCtorEq, ne_eq, not_false_eq_true, implies_true, framed_pureF, framed_fb, framed_N, framed_pure, wop_prim, prim, YLD, mkA, V.cells, List.getElem?_cons_zero, List.getElem?_cons_succ, List.set_cons_zero, List.set_cons_succ, Nat.zero_add, Nat.add_zero, Nat.reduceAdd, Nat.reduceSub, Nat.reduceMul, Nat.reduceLeDiff, Nat.not_lt_zero, List.map_cons, List.map_nil, List.cons_append, List.nil_append, loadA, cellsAt, nAg, packA, opt_bind_some, opt_map_some, opt_bind_none, opt_map_none, List.drop, List.take, List.head?, List.length_cons, List.length_nil, binA, unA, eqCells, eqCell, negB, fillA, sr_nil, sr_cons, sr_succ, sr_all, sr_len, storeA, Ob.with, indexedI, V.oneCell, intOf?, retQ_ret, retQ_norm, resA, resA1, fr_getD, packR, sealDepth, shut_bool, shut_int, Option.some.injEq, V.bool.injEq, V.int.injEq, Bool.not_true, Bool.not_false, true_and, and_true, and_self, Bool.and_true, Bool.and_false, Bool.true_and, Bool.false_and, Bool.or_true, Bool.or_false, Bool.true_or, Bool.false_or, Bool.false_eq_true, Int.reduceLT, Int.reduceLE, Int.reduceToNat, Int.reduceNeg, shut_plain, freeL_cons, freeL_nil, free_int, free_bool, free_agg, free_str, free_nils, free_tup, free_sl, true_implies, false_implies, Nat.sub_zero, Int.natCast_nonneg, Int.toNat_natCast, Nat.le_refl, not_true_eq_false, Int.reduceAdd, Int.reduceSub, Int.reduceMul, wrap64, false_and, and_false, cond_true, cond_false, Bool.cond_true_left, Bool.cond_false_right, Int.reduceBNe, Int.reduceBEq, decide_true, decide_false, Int.cast_ofNat_Int, Nat.mul_one, eq_self, Bool.true_eq_false, Bool.not_eq_true, Bool.not_eq_false, deads, List.replicate, argsF, am10, c22, hlen, g1]

theorem send_spec {N n : Nat} (hn : 2 ≤ n) {a : Nat} {s : Ses} {W : V} {L : List V} {R : List Nat} {h : Heap} (ha : SAt h a s L W R) {l : List Int} {b : V} (hb : By l b) (hl : l.length ≤ 256) (hL : L.length ≤ 1000) :
    ∃ v' h', callA am N n 10 [.ptr a 1 0, b] h = some (v', h') ∧ v' = .int .i64 0 ∧ ∃ b' W' R', By l b' ∧ SAt h' a s (L ++ [b']) W' R' ∧ Beyond h h' a R R' := by
  obtain ⟨n, rfl⟩ : ∃ m, n = m + 1 := ⟨n - 1, by omega⟩
  have hal := lt_of_get ha.ob
  obtain ⟨h0, e0⟩ : ∃ h0, h0 = h ++ [(⟨0, .dead⟩ : Ob)] := ⟨_, rfl⟩
  have x0 : ∀ o, o < h.length → h0[o]? = h[o]? := fun o ho => by rw [e0, List.getElem?_append_left ho]
  have l0 : h0.length = h.length + 1 := by rw [e0]; simp
  have d0 : h0[h.length]? = some ⟨0, .dead⟩ := by rw [e0, app_get0]; rfl
  have ha0 : SAt h0 a s L W R := ⟨by rw [x0 a hal]; exact ha.ob, ha.row.keep (fun o ho => x0 o (ha.row.lt o ho)), ha.bods, ha.apart⟩
  have e0' := e0.symm
  have c22 := @is_spec N n (by omega) _ _ _ _ _ _ ha0
  have hlen := hb.len
  have hns := hb.nstr
  have g1 : decide ((l.length : Int) > 256) = false := decide_eq_false (by omega)
  obtain ⟨b', hb', c23⟩ := @clone_spec N n (by omega) l b hb (by omega)
  have hobb : b.objs = [] := hb.objs
  have f23 : ∀ fb (h : Heap), ({ pureF := pureOf am, call := callA am N n, N := N, fb := fb } : Env).framed.call 23 [b] h = some (b', h) := fun fb h =>
    frame_free pm23 (.inr rfl) (by simp [V.objsL, hobb]) c23 hb'.objs
  have k1 := hb'.cells
  have k2 := hb'.one
  have k3 := hb'.njunk
  have k4 := hb'.nagg
  have k5 := hb'.ntup
  obtain ⟨o1, y, W', hA, hrow, ho1, hol⟩ := ha0.row.append d0 k1 k2 hL
  obtain ⟨w1, w2, w3, w4, w5, w6⟩ := hrow.shape
  obtain ⟨v1, v2, v3, v4, v5, v6⟩ := ha0.row.shape
  have hne : o1 ≠ a := by
    rcases ho1 with rfl | ho1
    · omega
    · intro e; subst e; exact ha.apart ho1
  have g2 : (h0.set o1 y)[a]? = some ⟨1, .var (s.cs W)⟩ := by rw [List.getElem?_set_ne hne]; exact ha0.ob
  have oa := ha0.ob
  have r1 : List.range 1 = [0] := rfl
  have q1 : List.take 1 (List.drop 4 (s.cs W)) = [W] := rfl
  have q2 : setRange (s.cs W) 4 [W'] = s.cs W' := rfl
  have q3 := @cs_len s W
  have wr : wrapV [b'] = b' := rfl
  have hWobj := ha0.row.objs
  refine call_keep at10 rfl rfl (by decide) (sx_wp ?_)
  simp +contextual -implicitDefEqProofs (maxSteps := 10000000) only [sx_seq, sxL_succ, lpQ_norm, lpQ_exit, lpQ_ret, loopQ_norm, loopQ_exit, loopQ_ret, sqQ_norm, sqQ_ret, sqQ_exit, sx_block, blkQ_norm, blkQ_exit, blkQ_ret, sx_cond, cdP_true, cdP_false, cdP_bool, sx_region, sx_draw, plainD, List.all_cons, List.all_nil, List.isEmpty_nil, List.isEmpty_cons, sxo_nil, sxo_cons, sxo_guard, gdS_bool, gdS_eff, gdS_tup, gdS_sel, gdS_seleff, sxK_def, wcall_some, effP_ret, effP_set, effP_none, effP_ite, wop_call, wop_cv, cvP_func, sx_ret, sx_exit, sx_skip, sx_clr, sx_fresh, stays, ↓selV_wt, ↓selV_wf, ↓impB_wt, ↓impB_wf, ↓selV_nor, ↓impB_nor, ↓selV_nt, ↓selV_nf, ↓impB_nt, ↓impB_nf, wantB_true, wantB_false, ↓selV_true, ↓selV_false, ↓selV_and, ↓impB_true, ↓impB_false, ↓impB_and, impB_triv, valOf_some, retH_some, ↓prim_pick, pickO_true, pickO_false, pickO_and, pickO_or, pickO_andr, pickO_orr, pickO_orrn, pickO_orn, pickO_bb, pickAnd_bool, pickOr_bool, ↓selV_nn, ↓impB_nn, Bool.and_assoc, Bool.or_assoc, doOp, ev_fr, ev_cst, put_none, put_fr, get, ins, del, dels, Nat.reduceLT, Nat.reduceEqDiff, ↓reduceIte, reduceCtorEq, ne_eq, not_false_eq_true, implies_true, framed_pureF, framed_fb, framed_N, framed_pure, wop_prim, prim, YLD, mkA, V.cells, List.getElem?_cons_zero, List.getElem?_cons_succ, List.set_cons_zero, List.set_cons_succ, Nat.zero_add, Nat.add_zero, Nat.reduceAdd, Nat.reduceSub, Nat.reduceMul, Nat.reduceLeDiff, Nat.not_lt_zero, List.map_cons, List.map_nil, List.cons_append, List.nil_append, loadA, cellsAt, nAg, packA, opt_bind_some, opt_map_some, opt_bind_none, opt_map_none, List.drop, List.take, List.head?, List.length_cons, List.length_nil, binA, unA, eqCells, eqCell, negB, fillA, sr_nil, sr_cons, sr_succ, sr_all, sr_len, storeA, Ob.with, indexedI, V.oneCell, intOf?, retQ_ret, retQ_norm, resA, resA1, fr_getD, packR, sealDepth, shut_bool, shut_int, Option.some.injEq, V.bool.injEq, V.int.injEq, Bool.not_true, Bool.not_false, true_and, and_true, and_self, Bool.and_true, Bool.and_false, Bool.true_and, Bool.false_and, Bool.or_true, Bool.or_false, Bool.true_or, Bool.false_or, Bool.false_eq_true, Int.reduceLT, Int.reduceLE, Int.reduceToNat, Int.reduceNeg, shut_plain, freeL_cons, freeL_nil, free_int, free_bool, free_agg, free_str, free_nils, free_tup, free_sl, true_implies, false_implies, Nat.sub_zero, Int.natCast_nonneg, Int.toNat_natCast, Nat.le_refl, not_true_eq_false, Int.reduceAdd, Int.reduceSub, Int.reduceMul, wrap64, false_and, and_false, cond_true, cond_false, Bool.cond_true_left, Bool.cond_false_right, Int.reduceBNe, Int.reduceBEq, decide_true, decide_false, Int.cast_ofNat_Int, Nat.mul_one, eq_self, Bool.true_eq_false, Bool.not_eq_true, Bool.not_eq_false, deads, List.replicate, argsF, am10, sx_drawd, reachC_nil, wpd_nil, wpd_cons, wdK_def, fpOf, fpV, fpCall, Fp.ok, disj, List.contains_cons, List.contains_nil, Nat.reduceBEq, List.all_append, V.objsL, V.objs,  List.getD_cons_zero, List.getD_cons_succ, List.append_nil, e0', c22, hlen, g1, f23, isNil, oa, q1, k1, k2, r1, wr, hA, g2, w1, w2, q2, q3, hobb, pm23, -List.drop, -List.take]
  refine ⟨by simp; omega, b', W', [o1], hb', ⟨?_, ?_, ?_, ?_⟩, ?_, ?_, ?_⟩
  · rw [List.getElem?_set_self (by simp; omega)]
  · refine hrow.keep (fun o ho => ?_)
    obtain rfl : o = o1 := by simpa using ho
    rw [List.getElem?_set_ne (Ne.symm hne)]
  · intro c hc
    rcases List.mem_append.1 hc with hc | hc
    · exact ha.bods c hc
    · obtain rfl : c = b' := by simpa using hc
      exact ⟨l, hb', hl⟩
  · simpa using Ne.symm hne
  · simp; omega
  · intro o ho hoa hoR
    rw [List.getElem?_set_ne (Ne.symm hoa), List.getElem?_set_ne, x0 o ho]
    rintro rfl
    rcases ho1 with rfl | ho1
    · omega
    · exact hoR ho1
  · intro o ho
    obtain rfl : o = o1 := by simpa using ho
    rcases ho1 with rfl | ho1
    · exact .inr (Nat.le_refl _)
    · exact .inl ho1

end Go.Am.T

set_option linter.unusedVariables false
set_option linter.unusedSimpArgs false
set_option maxRecDepth 10000
namespace Go.Am.T
attribute [local congr] selV_congr impB_congr

/-- A datagram, but its body. -/
structure Dg where
  frm : Int
  to : Int
  view : Int
  seq : Int
  ack : Int

def Dg.cs (d : Dg) (b : V) : List V := [.int .i64 d.frm, .int .i64 d.to, .int .i64 d.view, .int .i64 d.seq, .int .i64 d.ack, b]

/-- Is it refused? n: how many wait; k: how long its body is. -/
def rejD (s : Ses) (n : Nat) (d : Dg) (k : Nat) : Bool :=
  (d.frm != s.other) || ((d.to != s.me) || ((d.view != s.view) || (decide (d.seq < 0) || (decide (d.seq > 4611686018427387904) || (decide (d.ack < 0) || (decide (d.ack > s.first + n - 1) || (decide ((k : Int) > 256) || ((d.seq == 0) && decide ((k : Int) > 0)))))))))

def ackS (s : Ses) (d : Dg) : Ses := bif decide (d.ack ≥ s.first) then { s with first := d.ack + 1 } else s
def seqS (s : Ses) (d : Dg) : Ses := bif (d.seq == 0) then s else bif (d.seq != s.got + 1) then { s with owes := true } else { s with owes := true, got := s.got + 1 }
def comeS (s : Ses) (n : Nat) (d : Dg) (k : Nat) : Ses := bif rejD s n d k then s else seqS (ackS s d) d
def comeK (s : Ses) (n : Nat) (d : Dg) (k : Nat) : Nat := bif rejD s n d k then 0 else bif decide (d.ack ≥ s.first) then (d.ack - s.first + 1).toNat else 0
def comeB (s : Ses) (n : Nat) (d : Dg) (k : Nat) : Bool := !rejD s n d k && (!(d.seq == 0) && !(d.seq != s.got + 1))

/-- Sessions as they are: numbers far from their bounds. -/
structure Ses.Ok (s : Ses) (n : Nat) : Prop where
  f0 : 1 ≤ s.first
  f1 : s.first + n ≤ 2000
  g0 : 0 ≤ s.got
  g1 : s.got ≤ 4611686018427387904
  n1 : n ≤ 1000

/-- What comes out. -/
def OutV (t : Bool) (l : List Int) (v : V) : Prop := match t with | true => ∃ b, By l b ∧ v = .tup [b, .bool true] | false => v = .tup [.nils, .bool false]

theorem cut_cs {s : Ses} {W W' : V} : setRange (s.cs W) 4 [W'] = s.cs W' := rfl
theorem cut_first {s : Ses} {W : V} {x : Int} : setRange (s.cs W) 5 [.int .i64 x] = ({ s with first := x } : Ses).cs W := rfl
theorem cut_owes {s : Ses} {W : V} {x : Bool} : setRange (s.cs W) 8 [.bool x] = ({ s with owes := x } : Ses).cs W := rfl
theorem cut_got {s : Ses} {W : V} {x : Int} : setRange (s.cs W) 7 [.int .i64 x] = ({ s with got := x } : Ses).cs W := rfl
theorem cut_told {s : Ses} {W : V} {x : Int} : setRange (s.cs W) 6 [.int .i64 x] = ({ s with told := x } : Ses).cs W := rfl

set_option maxHeartbeats 4000000 in
theorem come_spec {N n : Nat} (hn : 2 ≤ n) {a : Nat} {s : Ses} {W : V} {L : List V} {R : List Nat} {h : Heap} (ha : SAt h a s L W R) (hok : s.Ok L.length) (d : Dg) {l : List Int} {b : V} (hb : By l b) :
    ∃ v' h', callA am N n 18 [.ptr a 1 0, .agg (d.cs b)] h = some (v', h') ∧ OutV (comeB s L.length d l.length) l v' ∧ ∃ W', SAt h' a (comeS s L.length d l.length) (L.drop (comeK s L.length d l.length)) W' R ∧ Beyond h h' a R R := by
  obtain ⟨n, rfl⟩ : ∃ m, n = m + 1 := ⟨n - 1, by omega⟩
  have hal := lt_of_get ha.ob
  obtain ⟨h0, e0⟩ : ∃ h0, h0 = h ++ [(⟨1, .var (d.cs b)⟩ : Ob)] := ⟨_, rfl⟩
  have x0 : ∀ o, o < h.length → h0[o]? = h[o]? := fun o ho => by rw [e0, List.getElem?_append_left ho]
  have l0 : h0.length = h.length + 1 := by rw [e0]; simp
  have d0 : h0[h.length]? = some ⟨1, .var (d.cs b)⟩ := by rw [e0, app_get0]; rfl
  have ha0 : SAt h0 a s L W R := ⟨by rw [x0 a hal]; exact ha.ob, ha.row.keep (fun o ho => x0 o (ha.row.lt o ho)), ha.bods, ha.apart⟩
  have e0' := e0.symm
  have c22 := @is_spec N n (by omega) _ _ _ _ _ _ ha0
  have hlen := hb.len
  have hns := hb.nstr
  have hlW := ha0.row.len
  obtain ⟨v1, v2, v3, v4, v5, v6⟩ := ha0.row.shape
  have oa := ha0.ob
  have hne : h.length ≠ a := by omega
  have hal0 : a < h0.length := by omega
  have p1 : ∀ x, (h0.set a x)[a]? = some x := fun x => List.getElem?_set_self hal0
  have p2 : ∀ x, (h0.set a x)[h.length]? = some ⟨1, .var (d.cs b)⟩ := fun x => by rw [List.getElem?_set_ne (Ne.symm hne)]; exact d0
  have p3 : ∀ x y, (h0.set a x).set a y = h0.set a y := fun x y => by simp
  have p4 : ∀ x, (h0.set a x).length = h0.length := fun x => by simp
  obtain ⟨f0, f1, g0', g1', n1⟩ := hok
  have wl : IntKind.i64.wrap (IntKind.i64.wrap (s.first + (L.length : Int)) - 1) = s.first + (L.length : Int) - 1 := by
    rw [wrap64 (n := s.first + (L.length : Int)) (by omega) (by omega), wrap64 (by omega) (by omega)]
  have wg : IntKind.i64.wrap (s.got + 1) = s.got + 1 := wrap64 (by omega) (by omega)
  have q1 : ∀ (s : Ses) (W : V), (s.cs W).length = 9 := fun _ _ => rfl
  have q2 : (d.cs b).length = 6 := rfl
  have r0 : List.take 1 (d.cs b) = [.int .i64 d.frm] := rfl
  have r1 : List.take 1 (List.drop 1 (d.cs b)) = [.int .i64 d.to] := rfl
  have r2 : List.take 1 (List.drop 2 (d.cs b)) = [.int .i64 d.view] := rfl
  have r3 : List.take 1 (List.drop 3 (d.cs b)) = [.int .i64 d.seq] := rfl
  have r4 : List.take 1 (List.drop 4 (d.cs b)) = [.int .i64 d.ack] := rfl
  have r5 : List.take 1 (List.drop 5 (d.cs b)) = [b] := rfl
  have t1 : ∀ (s : Ses) (W : V), List.take 1 (List.drop 1 (s.cs W)) = [.int .i64 s.me] := fun _ _ => rfl
  have t2 : ∀ (s : Ses) (W : V), List.take 1 (List.drop 2 (s.cs W)) = [.int .i64 s.other] := fun _ _ => rfl
  have t3 : ∀ (s : Ses) (W : V), List.take 1 (List.drop 3 (s.cs W)) = [.int .i64 s.view] := fun _ _ => rfl
  have t4 : ∀ (s : Ses) (W : V), List.take 1 (List.drop 4 (s.cs W)) = [W] := fun _ _ => rfl
  have t5 : ∀ (s : Ses) (W : V), List.take 1 (List.drop 5 (s.cs W)) = [.int .i64 s.first] := fun _ _ => rfl
  have t7 : ∀ (s : Ses) (W : V), List.take 1 (List.drop 7 (s.cs W)) = [.int .i64 s.got] := fun _ _ => rfl
  have ko : ∀ (s' : Ses) (W' : V), WRow h0 W' (L.drop 0) R → True := fun _ _ _ => trivial
  have bey : ∀ x, Beyond h (h0.set a x) a R R := fun x => ⟨by simp; omega, fun o ho hoa hoR => by rw [List.getElem?_set_ne (Ne.symm hoa), x0 o ho], fun o ho => .inl ho⟩
  have bey0 : Beyond h h0 a R R := ⟨by omega, fun o ho hoa hoR => x0 o ho, fun o ho => .inl ho⟩
  have sat : ∀ (s' : Ses) (L' : List V) (W' : V), WRow h0 W' L' R → (∀ c ∈ L', c ∈ L) → SAt (h0.set a ⟨1, .var (s'.cs W')⟩) a s' L' W' R := fun s' L' W' hr hs =>
    ⟨p1 _, hr.keep (fun o ho => by rw [List.getElem?_set_ne]; rintro rfl; exact ha.apart ho), fun c hc => ha.bods c (hs c hc), ha.apart⟩
  have dcs : d.cs b = [.int .i64 d.frm, .int .i64 d.to, .int .i64 d.view, .int .i64 d.seq, .int .i64 d.ack, b] := rfl
  refine call_keep at18 rfl rfl (by decide) (sx_wp ?_)
  cases x1 : (d.frm != s.other) with
  | true =>
    have hr : rejD s L.length d l.length = true := by simp only [rejD, x1, Bool.or_true, Bool.true_or, Bool.false_or, Bool.or_false]
    simp only [comeS, comeK, comeB, hr, cond_true, Bool.not_true, Bool.false_and]
    simp +contextual -implicitDefEqProofs (maxSteps := 10000000) only [sx_seq, sxL_succ, lpQ_norm, lpQ_exit, lpQ_ret, loopQ_norm, loopQ_exit, loopQ_ret, sqQ_norm, sqQ_ret, sqQ_exit, sx_block, blkQ_norm, blkQ_exit, blkQ_ret, sx_cond, cdP_true, cdP_false, cdP_bool, sx_region, sx_draw, plainD, List.all_cons, List.all_nil, List.isEmpty_nil, List.isEmpty_cons, sxo_nil, sxo_cons, sxo_guard, gdS_bool, gdS_eff, gdS_tup, gdS_sel, gdS_seleff, sxK_def, wcall_some, effP_ret, effP_set, effP_none, effP_ite, wop_call, wop_cv, cvP_func, sx_ret, sx_exit, sx_skip, sx_clr, sx_fresh, stays, ↓selV_wt, ↓selV_wf, ↓impB_wt, ↓impB_wf, ↓selV_nor, ↓impB_nor, ↓selV_nt, ↓selV_nf, ↓impB_nt, ↓impB_nf, wantB_true, wantB_false, ↓selV_true, ↓selV_false, ↓selV_and, ↓impB_true, ↓impB_false, ↓impB_and, impB_triv, valOf_some, retH_some, ↓prim_pick, pickO_true, pickO_false, pickO_and, pickO_or, pickO_andr, pickO_orr, pickO_orrn, pickO_orn, pickO_bb, pickAnd_bool, pickOr_bool, ↓selV_nn, ↓impB_nn, Bool.and_assoc, Bool.or_assoc, doOp, ev_fr, ev_cst, put_none, put_fr, get, ins, del, dels, Nat.reduceLT, Nat.reduceEqDiff, ↓reduceIte, reduceCtorEq, ne_eq, not_false_eq_true, implies_true, framed_pureF, framed_fb, framed_N, framed_pure, wop_prim, prim, YLD, mkA, V.cells, List.getElem?_cons_zero, List.getElem?_cons_succ, List.set_cons_zero, List.set_cons_succ, Nat.zero_add, Nat.add_zero, Nat.reduceAdd, Nat.reduceSub, Nat.reduceMul, Nat.reduceLeDiff, Nat.not_lt_zero, List.map_cons, List.map_nil, List.cons_append, List.nil_append, loadA, cellsAt, nAg, packA, opt_bind_some, opt_map_some, opt_bind_none, opt_map_none, List.drop, List.take, List.head?, List.length_cons, List.length_nil, binA, unA, eqCells, eqCell, negB, fillA, sr_nil, sr_cons, sr_succ, sr_all, sr_len, storeA, Ob.with, indexedI, V.oneCell, intOf?, retQ_ret, retQ_norm, resA, resA1, fr_getD, packR, sealDepth, shut_bool, shut_int, Option.some.injEq, V.bool.injEq, V.int.injEq, Bool.not_true, Bool.not_false, true_and, and_true, and_self, Bool.and_true, Bool.and_false, Bool.true_and, Bool.false_and, Bool.or_true, Bool.or_false, Bool.true_or, Bool.false_or, Bool.false_eq_true, Int.reduceLT, Int.reduceLE, Int.reduceToNat, Int.reduceNeg, shut_plain, freeL_cons, freeL_nil, free_int, free_bool, free_agg, free_str, free_nils, free_tup, free_sl, true_implies, false_implies, Nat.sub_zero, Int.natCast_nonneg, Int.toNat_natCast, Nat.le_refl, not_true_eq_false, Int.reduceAdd, Int.reduceSub, Int.reduceMul, wrap64, false_and, and_false, cond_true, cond_false, Bool.cond_true_left, Bool.cond_false_right, Int.reduceBNe, Int.reduceBEq, decide_true, decide_false, Int.cast_ofNat_Int, Nat.mul_one, eq_self, Bool.true_eq_false, Bool.not_eq_true, Bool.not_eq_false, deads, List.replicate, argsF, am18, sx_drawd, reachC_nil, wpd_nil, wpd_cons, wdK_def, fpOf, fpV, fpCall, Fp.ok, disj, List.contains_cons, List.contains_nil, Nat.reduceBEq, List.all_append, V.objsL, V.objs,  List.getD_cons_zero, List.getD_cons_succ, List.append_nil, app_get0, app_get, app_set0, app_set, e0', d0, c22, hlen, hlW, oa, p1, p2, p3, p4, hal0, q1, q2, r0, r1, r2, r3, r4, r5, t1, t2, t3, t4, t5, t7, wl, wg, v1, v2, isNil, cut_cs, cut_first, cut_owes, cut_got, -List.drop, -List.take, x1]
    exact ⟨rfl, W, (by first | exact ha0 | (rw [List.drop_zero]; exact ha0)), bey0⟩
  | false =>
    cases x2 : (d.to != s.me) with
    | true =>
      have hr : rejD s L.length d l.length = true := by simp only [rejD, x1, x2, Bool.or_true, Bool.true_or, Bool.false_or, Bool.or_false]
      simp only [comeS, comeK, comeB, hr, cond_true, Bool.not_true, Bool.false_and]
      simp +contextual -implicitDefEqProofs (maxSteps := 10000000) only [sx_seq, sxL_succ, lpQ_norm, lpQ_exit, lpQ_ret, loopQ_norm, loopQ_exit, loopQ_ret, sqQ_norm, sqQ_ret, sqQ_exit, sx_block, blkQ_norm, blkQ_exit, blkQ_ret, sx_cond, cdP_true, cdP_false, cdP_bool, sx_region, sx_draw, plainD, List.all_cons, List.all_nil, List.isEmpty_nil, List.isEmpty_cons, sxo_nil, sxo_cons, sxo_guard, gdS_bool, gdS_eff, gdS_tup, gdS_sel, gdS_seleff, sxK_def, wcall_some, effP_ret, effP_set, effP_none, effP_ite, wop_call, wop_cv, cvP_func, sx_ret, sx_exit, sx_skip, sx_clr, sx_fresh, stays, ↓selV_wt, ↓selV_wf, ↓impB_wt, ↓impB_wf, ↓selV_nor, ↓impB_nor, ↓selV_nt, ↓selV_nf, ↓impB_nt, ↓impB_nf, wantB_true, wantB_false, ↓selV_true, ↓selV_false, ↓selV_and, ↓impB_true, ↓impB_false, ↓impB_and, impB_triv, valOf_some, retH_some, ↓prim_pick, pickO_true, pickO_false, pickO_and, pickO_or, pickO_andr, pickO_orr, pickO_orrn, pickO_orn, pickO_bb, pickAnd_bool, pickOr_bool, ↓selV_nn, ↓impB_nn, Bool.and_assoc, Bool.or_assoc, doOp, ev_fr, ev_cst, put_none, put_fr, get, ins, del, dels, Nat.reduceLT, Nat.reduceEqDiff, ↓reduceIte, reduceCtorEq, ne_eq, not_false_eq_true, implies_true, framed_pureF, framed_fb, framed_N, framed_pure, wop_prim, prim, YLD, mkA, V.cells, List.getElem?_cons_zero, List.getElem?_cons_succ, List.set_cons_zero, List.set_cons_succ, Nat.zero_add, Nat.add_zero, Nat.reduceAdd, Nat.reduceSub, Nat.reduceMul, Nat.reduceLeDiff, Nat.not_lt_zero, List.map_cons, List.map_nil, List.cons_append, List.nil_append, loadA, cellsAt, nAg, packA, opt_bind_some, opt_map_some, opt_bind_none, opt_map_none, List.drop, List.take, List.head?, List.length_cons, List.length_nil, binA, unA, eqCells, eqCell, negB, fillA, sr_nil, sr_cons, sr_succ, sr_all, sr_len, storeA, Ob.with, indexedI, V.oneCell, intOf?, retQ_ret, retQ_norm, resA, resA1, fr_getD, packR, sealDepth, shut_bool, shut_int, Option.some.injEq, V.bool.injEq, V.int.injEq, Bool.not_true, Bool.not_false, true_and, and_true, and_self, Bool.and_true, Bool.and_false, Bool.true_and, Bool.false_and, Bool.or_true, Bool.or_false, Bool.true_or, Bool.false_or, Bool.false_eq_true, Int.reduceLT, Int.reduceLE, Int.reduceToNat, Int.reduceNeg, shut_plain, freeL_cons, freeL_nil, free_int, free_bool, free_agg, free_str, free_nils, free_tup, free_sl, true_implies, false_implies, Nat.sub_zero, Int.natCast_nonneg, Int.toNat_natCast, Nat.le_refl, not_true_eq_false, Int.reduceAdd, Int.reduceSub, Int.reduceMul, wrap64, false_and, and_false, cond_true, cond_false, Bool.cond_true_left, Bool.cond_false_right, Int.reduceBNe, Int.reduceBEq, decide_true, decide_false, Int.cast_ofNat_Int, Nat.mul_one, eq_self, Bool.true_eq_false, Bool.not_eq_true, Bool.not_eq_false, deads, List.replicate, argsF, am18, sx_drawd, reachC_nil, wpd_nil, wpd_cons, wdK_def, fpOf, fpV, fpCall, Fp.ok, disj, List.contains_cons, List.contains_nil, Nat.reduceBEq, List.all_append, V.objsL, V.objs,  List.getD_cons_zero, List.getD_cons_succ, List.append_nil, app_get0, app_get, app_set0, app_set, e0', d0, c22, hlen, hlW, oa, p1, p2, p3, p4, hal0, q1, q2, r0, r1, r2, r3, r4, r5, t1, t2, t3, t4, t5, t7, wl, wg, v1, v2, isNil, cut_cs, cut_first, cut_owes, cut_got, -List.drop, -List.take, x1, x2]
      exact ⟨rfl, W, (by first | exact ha0 | (rw [List.drop_zero]; exact ha0)), bey0⟩
    | false =>
      cases x3 : (d.view != s.view) with
      | true =>
        have hr : rejD s L.length d l.length = true := by simp only [rejD, x1, x2, x3, Bool.or_true, Bool.true_or, Bool.false_or, Bool.or_false]
        simp only [comeS, comeK, comeB, hr, cond_true, Bool.not_true, Bool.false_and]
        simp +contextual -implicitDefEqProofs (maxSteps := 10000000) only [sx_seq, sxL_succ, lpQ_norm, lpQ_exit, lpQ_ret, loopQ_norm, loopQ_exit, loopQ_ret, sqQ_norm, sqQ_ret, sqQ_exit, sx_block, blkQ_norm, blkQ_exit, blkQ_ret, sx_cond, cdP_true, cdP_false, cdP_bool, sx_region, sx_draw, plainD, List.all_cons, List.all_nil, List.isEmpty_nil, List.isEmpty_cons, sxo_nil, sxo_cons, sxo_guard, gdS_bool, gdS_eff, gdS_tup, gdS_sel, gdS_seleff, sxK_def, wcall_some, effP_ret, effP_set, effP_none, effP_ite, wop_call, wop_cv, cvP_func, sx_ret, sx_exit, sx_skip, sx_clr, sx_fresh, stays, ↓selV_wt, ↓selV_wf, ↓impB_wt, ↓impB_wf, ↓selV_nor, ↓impB_nor, ↓selV_nt, ↓selV_nf, ↓impB_nt, ↓impB_nf, wantB_true, wantB_false, ↓selV_true, ↓selV_false, ↓selV_and, ↓impB_true, ↓impB_false, ↓impB_and, impB_triv, valOf_some, retH_some, ↓prim_pick, pickO_true, pickO_false, pickO_and, pickO_or, pickO_andr, pickO_orr, pickO_orrn, pickO_orn, pickO_bb, pickAnd_bool, pickOr_bool, ↓selV_nn, ↓impB_nn, Bool.and_assoc, Bool.or_assoc, doOp, ev_fr, ev_cst, put_none, put_fr, get, ins, del, dels, Nat.reduceLT, Nat.reduceEqDiff, ↓reduceIte, reduceCtorEq, ne_eq, not_false_eq_true, implies_true, framed_pureF, framed_fb, framed_N, framed_pure, wop_prim, prim, YLD, mkA, V.cells, List.getElem?_cons_zero, List.getElem?_cons_succ, List.set_cons_zero, List.set_cons_succ, Nat.zero_add, Nat.add_zero, Nat.reduceAdd, Nat.reduceSub, Nat.reduceMul, Nat.reduceLeDiff, Nat.not_lt_zero, List.map_cons, List.map_nil, List.cons_append, List.nil_append, loadA, cellsAt, nAg, packA, opt_bind_some, opt_map_some, opt_bind_none, opt_map_none, List.drop, List.take, List.head?, List.length_cons, List.length_nil, binA, unA, eqCells, eqCell, negB, fillA, sr_nil, sr_cons, sr_succ, sr_all, sr_len, storeA, Ob.with, indexedI, V.oneCell, intOf?, retQ_ret, retQ_norm, resA, resA1, fr_getD, packR, sealDepth, shut_bool, shut_int, Option.some.injEq, V.bool.injEq, V.int.injEq, Bool.not_true, Bool.not_false, true_and, and_true, and_self, Bool.and_true, Bool.and_false, Bool.true_and, Bool.false_and, Bool.or_true, Bool.or_false, Bool.true_or, Bool.false_or, Bool.false_eq_true, Int.reduceLT, Int.reduceLE, Int.reduceToNat, Int.reduceNeg, shut_plain, freeL_cons, freeL_nil, free_int, free_bool, free_agg, free_str, free_nils, free_tup, free_sl, true_implies, false_implies, Nat.sub_zero, Int.natCast_nonneg, Int.toNat_natCast, Nat.le_refl, not_true_eq_false, Int.reduceAdd, Int.reduceSub, Int.reduceMul, wrap64, false_and, and_false, cond_true, cond_false, Bool.cond_true_left, Bool.cond_false_right, Int.reduceBNe, Int.reduceBEq, decide_true, decide_false, Int.cast_ofNat_Int, Nat.mul_one, eq_self, Bool.true_eq_false, Bool.not_eq_true, Bool.not_eq_false, deads, List.replicate, argsF, am18, sx_drawd, reachC_nil, wpd_nil, wpd_cons, wdK_def, fpOf, fpV, fpCall, Fp.ok, disj, List.contains_cons, List.contains_nil, Nat.reduceBEq, List.all_append, V.objsL, V.objs,  List.getD_cons_zero, List.getD_cons_succ, List.append_nil, app_get0, app_get, app_set0, app_set, e0', d0, c22, hlen, hlW, oa, p1, p2, p3, p4, hal0, q1, q2, r0, r1, r2, r3, r4, r5, t1, t2, t3, t4, t5, t7, wl, wg, v1, v2, isNil, cut_cs, cut_first, cut_owes, cut_got, -List.drop, -List.take, x1, x2, x3]
        exact ⟨rfl, W, (by first | exact ha0 | (rw [List.drop_zero]; exact ha0)), bey0⟩
      | false =>
        cases x4 : (decide (d.seq < 0)) with
        | true =>
          have hr : rejD s L.length d l.length = true := by simp only [rejD, x1, x2, x3, x4, Bool.or_true, Bool.true_or, Bool.false_or, Bool.or_false]
          simp only [comeS, comeK, comeB, hr, cond_true, Bool.not_true, Bool.false_and]
          simp +contextual -implicitDefEqProofs (maxSteps := 10000000) only [sx_seq, sxL_succ, lpQ_norm, lpQ_exit, lpQ_ret, loopQ_norm, loopQ_exit, loopQ_ret, sqQ_norm, sqQ_ret, sqQ_exit, sx_block, blkQ_norm, blkQ_exit, blkQ_ret, sx_cond, cdP_true, cdP_false, cdP_bool, sx_region, sx_draw, plainD, List.all_cons, List.all_nil, List.isEmpty_nil, List.isEmpty_cons, sxo_nil, sxo_cons, sxo_guard, gdS_bool, gdS_eff, gdS_tup, gdS_sel, gdS_seleff, sxK_def, wcall_some, effP_ret, effP_set, effP_none, effP_ite, wop_call, wop_cv, cvP_func, sx_ret, sx_exit, sx_skip, sx_clr, sx_fresh, stays, ↓selV_wt, ↓selV_wf, ↓impB_wt, ↓impB_wf, ↓selV_nor, ↓impB_nor, ↓selV_nt, ↓selV_nf, ↓impB_nt, ↓impB_nf, wantB_true, wantB_false, ↓selV_true, ↓selV_false, ↓selV_and, ↓impB_true, ↓impB_false, ↓impB_and, impB_triv, valOf_some, retH_some, ↓prim_pick, pickO_true, pickO_false, pickO_and, pickO_or, pickO_andr, pickO_orr, pickO_orrn, pickO_orn, pickO_bb, pickAnd_bool, pickOr_bool, ↓selV_nn, ↓impB_nn, Bool.and_assoc, Bool.or_assoc, doOp, ev_fr, ev_cst, put_none, put_fr, get, ins, del, dels, Nat.reduceLT, Nat.reduceEqDiff, ↓reduceIte, reduceCtorEq, ne_eq, not_false_eq_true, implies_true, framed_pureF, framed_fb, framed_N, framed_pure, wop_prim, prim, YLD, mkA, V.cells, List.getElem?_cons_zero, List.getElem?_cons_succ, List.set_cons_zero, List.set_cons_succ, Nat.zero_add, Nat.add_zero, Nat.reduceAdd, Nat.reduceSub, Nat.reduceMul, Nat.reduceLeDiff, Nat.not_lt_zero, List.map_cons, List.map_nil, List.cons_append, List.nil_append, loadA, cellsAt, nAg, packA, opt_bind_some, opt_map_some, opt_bind_none, opt_map_none, List.drop, List.take, List.head?, List.length_cons, List.length_nil, binA, unA, eqCells, eqCell, negB, fillA, sr_nil, sr_cons, sr_succ, sr_all, sr_len, storeA, Ob.with, indexedI, V.oneCell, intOf?, retQ_ret, retQ_norm, resA, resA1, fr_getD, packR, sealDepth, shut_bool, shut_int, Option.some.injEq, V.bool.injEq, V.int.injEq, Bool.not_true, Bool.not_false, true_and, and_true, and_self, Bool.and_true, Bool.and_false, Bool.true_and, Bool.false_and, Bool.or_true, Bool.or_false, Bool.true_or, Bool.false_or, Bool.false_eq_true, Int.reduceLT, Int.reduceLE, Int.reduceToNat, Int.reduceNeg, shut_plain, freeL_cons, freeL_nil, free_int, free_bool, free_agg, free_str, free_nils, free_tup, free_sl, true_implies, false_implies, Nat.sub_zero, Int.natCast_nonneg, Int.toNat_natCast, Nat.le_refl, not_true_eq_false, Int.reduceAdd, Int.reduceSub, Int.reduceMul, wrap64, false_and, and_false, cond_true, cond_false, Bool.cond_true_left, Bool.cond_false_right, Int.reduceBNe, Int.reduceBEq, decide_true, decide_false, Int.cast_ofNat_Int, Nat.mul_one, eq_self, Bool.true_eq_false, Bool.not_eq_true, Bool.not_eq_false, deads, List.replicate, argsF, am18, sx_drawd, reachC_nil, wpd_nil, wpd_cons, wdK_def, fpOf, fpV, fpCall, Fp.ok, disj, List.contains_cons, List.contains_nil, Nat.reduceBEq, List.all_append, V.objsL, V.objs,  List.getD_cons_zero, List.getD_cons_succ, List.append_nil, app_get0, app_get, app_set0, app_set, e0', d0, c22, hlen, hlW, oa, p1, p2, p3, p4, hal0, q1, q2, r0, r1, r2, r3, r4, r5, t1, t2, t3, t4, t5, t7, wl, wg, v1, v2, isNil, cut_cs, cut_first, cut_owes, cut_got, -List.drop, -List.take, x1, x2, x3, x4]
          exact ⟨rfl, W, (by first | exact ha0 | (rw [List.drop_zero]; exact ha0)), bey0⟩
        | false =>
          cases x5 : (decide (d.seq > 4611686018427387904)) with
          | true =>
            have hr : rejD s L.length d l.length = true := by simp only [rejD, x1, x2, x3, x4, x5, Bool.or_true, Bool.true_or, Bool.false_or, Bool.or_false]
            simp only [comeS, comeK, comeB, hr, cond_true, Bool.not_true, Bool.false_and]
            simp +contextual -implicitDefEqProofs (maxSteps := 10000000) only [sx_seq, sxL_succ, lpQ_norm, lpQ_exit, lpQ_ret, loopQ_norm, loopQ_exit, loopQ_ret, sqQ_norm, sqQ_ret, sqQ_exit, sx_block, blkQ_norm, blkQ_exit, blkQ_ret, sx_cond, cdP_true, cdP_false, cdP_bool, sx_region, sx_draw, plainD, List.all_cons, List.all_nil, List.isEmpty_nil, List.isEmpty_cons, sxo_nil, sxo_cons, sxo_guard, gdS_bool, gdS_eff, gdS_tup, gdS_sel, gdS_seleff, sxK_def, wcall_some, effP_ret, effP_set, effP_none, effP_ite, wop_call, wop_cv, cvP_func, sx_ret, sx_exit, sx_skip, sx_clr, sx_fresh, stays, ↓selV_wt, ↓selV_wf, ↓impB_wt, ↓impB_wf, ↓selV_nor, ↓impB_nor, ↓selV_nt, ↓selV_nf, ↓impB_nt, ↓impB_nf, wantB_true, wantB_false, ↓selV_true, ↓selV_false, ↓selV_and, ↓impB_true, ↓impB_false, ↓impB_and, impB_triv, valOf_some, retH_some, ↓prim_pick, pickO_true, pickO_false, pickO_and, pickO_or, pickO_andr, pickO_orr, pickO_orrn, pickO_orn, pickO_bb, pickAnd_bool, pickOr_bool, ↓selV_nn, ↓impB_nn, Bool.and_assoc, Bool.or_assoc, doOp, ev_fr, ev_cst, put_none, put_fr, get, ins, del, dels, Nat.reduceLT, Nat.reduceEqDiff, ↓reduceIte, reduceCtorEq, ne_eq, not_false_eq_true, implies_true, framed_pureF, framed_fb, framed_N, framed_pure, wop_prim, prim, YLD, mkA, V.cells, List.getElem?_cons_zero, List.getElem?_cons_succ, List.set_cons_zero, List.set_cons_succ, Nat.zero_add, Nat.add_zero, Nat.reduceAdd, Nat.reduceSub, Nat.reduceMul, Nat.reduceLeDiff, Nat.not_lt_zero, List.map_cons, List.map_nil, List.cons_append, List.nil_append, loadA, cellsAt, nAg, packA, opt_bind_some, opt_map_some, opt_bind_none, opt_map_none, List.drop, List.take, List.head?, List.length_cons, List.length_nil, binA, unA, eqCells, eqCell, negB, fillA, sr_nil, sr_cons, sr_succ, sr_all, sr_len, storeA, Ob.with, indexedI, V.oneCell, intOf?, retQ_ret, retQ_norm, resA, resA1, fr_getD, packR, sealDepth, shut_bool, shut_int, Option.some.injEq, V.bool.injEq, V.int.injEq, Bool.not_true, Bool.not_false, true_and, and_true, and_self, Bool.and_true, Bool.and_false, Bool.true_and, Bool.false_and, Bool.or_true, Bool.or_false, Bool.true_or, Bool.false_or, Bool.false_eq_true, Int.reduceLT, Int.reduceLE, Int.reduceToNat, Int.reduceNeg, shut_plain, freeL_cons, freeL_nil, free_int, free_bool, free_agg, free_str, free_nils, free_tup, free_sl, true_implies, false_implies, Nat.sub_zero, Int.natCast_nonneg, Int.toNat_natCast, Nat.le_refl, not_true_eq_false, Int.reduceAdd, Int.reduceSub, Int.reduceMul, wrap64, false_and, and_false, cond_true, cond_false, Bool.cond_true_left, Bool.cond_false_right, Int.reduceBNe, Int.reduceBEq, decide_true, decide_false, Int.cast_ofNat_Int, Nat.mul_one, eq_self, Bool.true_eq_false, Bool.not_eq_true, Bool.not_eq_false, deads, List.replicate, argsF, am18, sx_drawd, reachC_nil, wpd_nil, wpd_cons, wdK_def, fpOf, fpV, fpCall, Fp.ok, disj, List.contains_cons, List.contains_nil, Nat.reduceBEq, List.all_append, V.objsL, V.objs,  List.getD_cons_zero, List.getD_cons_succ, List.append_nil, app_get0, app_get, app_set0, app_set, e0', d0, c22, hlen, hlW, oa, p1, p2, p3, p4, hal0, q1, q2, r0, r1, r2, r3, r4, r5, t1, t2, t3, t4, t5, t7, wl, wg, v1, v2, isNil, cut_cs, cut_first, cut_owes, cut_got, -List.drop, -List.take, x1, x2, x3, x4, x5]
            exact ⟨rfl, W, (by first | exact ha0 | (rw [List.drop_zero]; exact ha0)), bey0⟩
          | false =>
            cases x6 : (decide (d.ack < 0)) with
            | true =>
              have hr : rejD s L.length d l.length = true := by simp only [rejD, x1, x2, x3, x4, x5, x6, Bool.or_true, Bool.true_or, Bool.false_or, Bool.or_false]
              simp only [comeS, comeK, comeB, hr, cond_true, Bool.not_true, Bool.false_and]
              simp +contextual -implicitDefEqProofs (maxSteps := 10000000) only [sx_seq, sxL_succ, lpQ_norm, lpQ_exit, lpQ_ret, loopQ_norm, loopQ_exit, loopQ_ret, sqQ_norm, sqQ_ret, sqQ_exit, sx_block, blkQ_norm, blkQ_exit, blkQ_ret, sx_cond, cdP_true, cdP_false, cdP_bool, sx_region, sx_draw, plainD, List.all_cons, List.all_nil, List.isEmpty_nil, List.isEmpty_cons, sxo_nil, sxo_cons, sxo_guard, gdS_bool, gdS_eff, gdS_tup, gdS_sel, gdS_seleff, sxK_def, wcall_some, effP_ret, effP_set, effP_none, effP_ite, wop_call, wop_cv, cvP_func, sx_ret, sx_exit, sx_skip, sx_clr, sx_fresh, stays, ↓selV_wt, ↓selV_wf, ↓impB_wt, ↓impB_wf, ↓selV_nor, ↓impB_nor, ↓selV_nt, ↓selV_nf, ↓impB_nt, ↓impB_nf, wantB_true, wantB_false, ↓selV_true, ↓selV_false, ↓selV_and, ↓impB_true, ↓impB_false, ↓impB_and, impB_triv, valOf_some, retH_some, ↓prim_pick, pickO_true, pickO_false, pickO_and, pickO_or, pickO_andr, pickO_orr, pickO_orrn, pickO_orn, pickO_bb, pickAnd_bool, pickOr_bool, ↓selV_nn, ↓impB_nn, Bool.and_assoc, Bool.or_assoc, doOp, ev_fr, ev_cst, put_none, put_fr, get, ins, del, dels, Nat.reduceLT, Nat.reduceEqDiff, ↓reduceIte, reduceCtorEq, ne_eq, not_false_eq_true, implies_true, framed_pureF, framed_fb, framed_N, framed_pure, wop_prim, prim, YLD, mkA, V.cells, List.getElem?_cons_zero, List.getElem?_cons_succ, List.set_cons_zero, List.set_cons_succ, Nat.zero_add, Nat.add_zero, Nat.reduceAdd, Nat.reduceSub, Nat.reduceMul, Nat.reduceLeDiff, Nat.not_lt_zero, List.map_cons, List.map_nil, List.cons_append, List.nil_append, loadA, cellsAt, nAg, packA, opt_bind_some, opt_map_some, opt_bind_none, opt_map_none, List.drop, List.take, List.head?, List.length_cons, List.length_nil, binA, unA, eqCells, eqCell, negB, fillA, sr_nil, sr_cons, sr_succ, sr_all, sr_len, storeA, Ob.with, indexedI, V.oneCell, intOf?, retQ_ret, retQ_norm, resA, resA1, fr_getD, packR, sealDepth, shut_bool, shut_int, Option.some.injEq, V.bool.injEq, V.int.injEq, Bool.not_true, Bool.not_false, true_and, and_true, and_self, Bool.and_true, Bool.and_false, Bool.true_and, Bool.false_and, Bool.or_true, Bool.or_false, Bool.true_or, Bool.false_or, Bool.false_eq_true, Int.reduceLT, Int.reduceLE, Int.reduceToNat, Int.reduceNeg, shut_plain, freeL_cons, freeL_nil, free_int, free_bool, free_agg, free_str, free_nils, free_tup, free_sl, true_implies, false_implies, Nat.sub_zero, Int.natCast_nonneg, Int.toNat_natCast, Nat.le_refl, not_true_eq_false, Int.reduceAdd, Int.reduceSub, Int.reduceMul, wrap64, false_and, and_false, cond_true, cond_false, Bool.cond_true_left, Bool.cond_false_right, Int.reduceBNe, Int.reduceBEq, decide_true, decide_false, Int.cast_ofNat_Int, Nat.mul_one, eq_self, Bool.true_eq_false, Bool.not_eq_true, Bool.not_eq_false, deads, List.replicate, argsF, am18, sx_drawd, reachC_nil, wpd_nil, wpd_cons, wdK_def, fpOf, fpV, fpCall, Fp.ok, disj, List.contains_cons, List.contains_nil, Nat.reduceBEq, List.all_append, V.objsL, V.objs,  List.getD_cons_zero, List.getD_cons_succ, List.append_nil, app_get0, app_get, app_set0, app_set, e0', d0, c22, hlen, hlW, oa, p1, p2, p3, p4, hal0, q1, q2, r0, r1, r2, r3, r4, r5, t1, t2, t3, t4, t5, t7, wl, wg, v1, v2, isNil, cut_cs, cut_first, cut_owes, cut_got, -List.drop, -List.take, x1, x2, x3, x4, x5, x6]
              exact ⟨rfl, W, (by first | exact ha0 | (rw [List.drop_zero]; exact ha0)), bey0⟩
            | false =>
              cases x7 : (decide (d.ack > s.first + (L.length : Int) - 1)) with
              | true =>
                have hr : rejD s L.length d l.length = true := by simp only [rejD, x1, x2, x3, x4, x5, x6, x7, Bool.or_true, Bool.true_or, Bool.false_or, Bool.or_false]
                simp only [comeS, comeK, comeB, hr, cond_true, Bool.not_true, Bool.false_and]
                simp +contextual -implicitDefEqProofs (maxSteps := 10000000) only [sx_seq, sxL_succ, lpQ_norm, lpQ_exit, lpQ_ret, loopQ_norm, loopQ_exit, loopQ_ret, sqQ_norm, sqQ_ret, sqQ_exit, sx_block, blkQ_norm, blkQ_exit, blkQ_ret, sx_cond, cdP_true, cdP_false, cdP_bool, sx_region, sx_draw, plainD, List.all_cons, List.all_nil, List.isEmpty_nil, List.isEmpty_cons, sxo_nil, sxo_cons, sxo_guard, gdS_bool, gdS_eff, gdS_tup, gdS_sel, gdS_seleff, sxK_def, wcall_some, effP_ret, effP_set, effP_none, effP_ite, wop_call, wop_cv, cvP_func, sx_ret, sx_exit, sx_skip, sx_clr, sx_fresh, stays, ↓selV_wt, ↓selV_wf, ↓impB_wt, ↓impB_wf, ↓selV_nor, ↓impB_nor, ↓selV_nt, ↓selV_nf, ↓impB_nt, ↓impB_nf, wantB_true, wantB_false, ↓selV_true, ↓selV_false, ↓selV_and, ↓impB_true, ↓impB_false, ↓impB_and, impB_triv, valOf_some, retH_some, ↓prim_pick, pickO_true, pickO_false, pickO_and, pickO_or, pickO_andr, pickO_orr, pickO_orrn, pickO_orn, pickO_bb, pickAnd_bool, pickOr_bool, ↓selV_nn, ↓impB_nn, Bool.and_assoc, Bool.or_assoc, doOp, ev_fr, ev_cst, put_none, put_fr, get, ins, del, dels, Nat.reduceLT, Nat.reduceEqDiff, ↓reduceIte, reduceCtorEq, ne_eq, not_false_eq_true, implies_true, framed_pureF, framed_fb, framed_N, framed_pure, wop_prim, prim, YLD, mkA, V.cells, List.getElem?_cons_zero, List.getElem?_cons_succ, List.set_cons_zero, List.set_cons_succ, Nat.zero_add, Nat.add_zero, Nat.reduceAdd, Nat.reduceSub, Nat.reduceMul, Nat.reduceLeDiff, Nat.not_lt_zero, List.map_cons, List.map_nil, List.cons_append, List.nil_append, loadA, cellsAt, nAg, packA, opt_bind_some, opt_map_some, opt_bind_none, opt_map_none, List.drop, List.take, List.head?, List.length_cons, List.length_nil, binA, unA, eqCells, eqCell, negB, fillA, sr_nil, sr_cons, sr_succ, sr_all, sr_len, storeA, Ob.with, indexedI, V.oneCell, intOf?, retQ_ret, retQ_norm, resA, resA1, fr_getD, packR, sealDepth, shut_bool, shut_int, Option.some.injEq, V.bool.injEq, V.int.injEq, Bool.not_true, Bool.not_false, true_and, and_true, and_self, Bool.and_true, Bool.and_false, Bool.true_and, Bool.false_and, Bool.or_true, Bool.or_false, Bool.true_or, Bool.false_or, Bool.false_eq_true, Int.reduceLT, Int.reduceLE, Int.reduceToNat, Int.reduceNeg, shut_plain, freeL_cons, freeL_nil, free_int, free_bool, free_agg, free_str, free_nils, free_tup, free_sl, true_implies, false_implies, Nat.sub_zero, Int.natCast_nonneg, Int.toNat_natCast, Nat.le_refl, not_true_eq_false, Int.reduceAdd, Int.reduceSub, Int.reduceMul, wrap64, false_and, and_false, cond_true, cond_false, Bool.cond_true_left, Bool.cond_false_right, Int.reduceBNe, Int.reduceBEq, decide_true, decide_false, Int.cast_ofNat_Int, Nat.mul_one, eq_self, Bool.true_eq_false, Bool.not_eq_true, Bool.not_eq_false, deads, List.replicate, argsF, am18, sx_drawd, reachC_nil, wpd_nil, wpd_cons, wdK_def, fpOf, fpV, fpCall, Fp.ok, disj, List.contains_cons, List.contains_nil, Nat.reduceBEq, List.all_append, V.objsL, V.objs,  List.getD_cons_zero, List.getD_cons_succ, List.append_nil, app_get0, app_get, app_set0, app_set, e0', d0, c22, hlen, hlW, oa, p1, p2, p3, p4, hal0, q1, q2, r0, r1, r2, r3, r4, r5, t1, t2, t3, t4, t5, t7, wl, wg, v1, v2, isNil, cut_cs, cut_first, cut_owes, cut_got, -List.drop, -List.take, x1, x2, x3, x4, x5, x6, x7]
                exact ⟨rfl, W, (by first | exact ha0 | (rw [List.drop_zero]; exact ha0)), bey0⟩
              | false =>
                cases x8 : (decide ((l.length : Int) > 256)) with
                | true =>
                  have hr : rejD s L.length d l.length = true := by simp only [rejD, x1, x2, x3, x4, x5, x6, x7, x8, Bool.or_true, Bool.true_or, Bool.false_or, Bool.or_false]
                  simp only [comeS, comeK, comeB, hr, cond_true, Bool.not_true, Bool.false_and]
                  simp +contextual -implicitDefEqProofs (maxSteps := 10000000) only [sx_seq, sxL_succ, lpQ_norm, lpQ_exit, lpQ_ret, loopQ_norm, loopQ_exit, loopQ_ret, sqQ_norm, sqQ_ret, sqQ_exit, sx_block, blkQ_norm, blkQ_exit, blkQ_ret, sx_cond, cdP_true, cdP_false, cdP_bool, sx_region, sx_draw, plainD, List.all_cons, List.all_nil, List.isEmpty_nil, List.isEmpty_cons, sxo_nil, sxo_cons, sxo_guard, gdS_bool, gdS_eff, gdS_tup, gdS_sel, gdS_seleff, sxK_def, wcall_some, effP_ret, effP_set, effP_none, effP_ite, wop_call, wop_cv, cvP_func, sx_ret, sx_exit, sx_skip, sx_clr, sx_fresh, stays, ↓selV_wt, ↓selV_wf, ↓impB_wt, ↓impB_wf, ↓selV_nor, ↓impB_nor, ↓selV_nt, ↓selV_nf, ↓impB_nt, ↓impB_nf, wantB_true, wantB_false, ↓selV_true, ↓selV_false, ↓selV_and, ↓impB_true, ↓impB_false, ↓impB_and, impB_triv, valOf_some, retH_some, ↓prim_pick, pickO_true, pickO_false, pickO_and, pickO_or, pickO_andr, pickO_orr, pickO_orrn, pickO_orn, pickO_bb, pickAnd_bool, pickOr_bool, ↓selV_nn, ↓impB_nn, Bool.and_assoc, Bool.or_assoc, doOp, ev_fr, ev_cst, put_none, put_fr, get, ins, del, dels, Nat.reduceLT, Nat.reduceEqDiff, ↓reduceIte, reduceCtorEq, ne_eq, not_false_eq_true, implies_true, framed_pureF, framed_fb, framed_N, framed_pure, wop_prim, prim, YLD, mkA, V.cells, List.getElem?_cons_zero, List.getElem?_cons_succ, List.set_cons_zero, List.set_cons_succ, Nat.zero_add, Nat.add_zero, Nat.reduceAdd, Nat.reduceSub, Nat.reduceMul, Nat.reduceLeDiff, Nat.not_lt_zero, List.map_cons, List.map_nil, List.cons_append, List.nil_append, loadA, cellsAt, nAg, packA, opt_bind_some, opt_map_some, opt_bind_none, opt_map_none, List.drop, List.take, List.head?, List.length_cons, List.length_nil, binA, unA, eqCells, eqCell, negB, fillA, sr_nil, sr_cons, sr_succ, sr_all, sr_len, storeA, Ob.with, indexedI, V.oneCell, intOf?, retQ_ret, retQ_norm, resA, resA1, fr_getD, packR, sealDepth, shut_bool, shut_int, Option.some.injEq, V.bool.injEq, V.int.injEq, Bool.not_true, Bool.not_false, true_and, and_true, and_self, Bool.and_true, Bool.and_false, Bool.true_and, Bool.false_and, Bool.or_true, Bool.or_false, Bool.true_or, Bool.false_or, Bool.false_eq_true, Int.reduceLT, Int.reduceLE, Int.reduceToNat, Int.reduceNeg, shut_plain, freeL_cons, freeL_nil, free_int, free_bool, free_agg, free_str, free_nils, free_tup, free_sl, true_implies, false_implies, Nat.sub_zero, Int.natCast_nonneg, Int.toNat_natCast, Nat.le_refl, not_true_eq_false, Int.reduceAdd, Int.reduceSub, Int.reduceMul, wrap64, false_and, and_false, cond_true, cond_false, Bool.cond_true_left, Bool.cond_false_right, Int.reduceBNe, Int.reduceBEq, decide_true, decide_false, Int.cast_ofNat_Int, Nat.mul_one, eq_self, Bool.true_eq_false, Bool.not_eq_true, Bool.not_eq_false, deads, List.replicate, argsF, am18, sx_drawd, reachC_nil, wpd_nil, wpd_cons, wdK_def, fpOf, fpV, fpCall, Fp.ok, disj, List.contains_cons, List.contains_nil, Nat.reduceBEq, List.all_append, V.objsL, V.objs,  List.getD_cons_zero, List.getD_cons_succ, List.append_nil, app_get0, app_get, app_set0, app_set, e0', d0, c22, hlen, hlW, oa, p1, p2, p3, p4, hal0, q1, q2, r0, r1, r2, r3, r4, r5, t1, t2, t3, t4, t5, t7, wl, wg, v1, v2, isNil, cut_cs, cut_first, cut_owes, cut_got, -List.drop, -List.take, x1, x2, x3, x4, x5, x6, x7, x8]
                  exact ⟨rfl, W, (by first | exact ha0 | (rw [List.drop_zero]; exact ha0)), bey0⟩
                | false =>
                  cases x9 : ((d.seq == 0) && decide ((l.length : Int) > 0)) with
                  | true =>
                    have hr : rejD s L.length d l.length = true := by simp only [rejD, x1, x2, x3, x4, x5, x6, x7, x8, x9, Bool.or_true, Bool.true_or, Bool.false_or, Bool.or_false]
                    simp only [comeS, comeK, comeB, hr, cond_true, Bool.not_true, Bool.false_and]
                    simp +contextual -implicitDefEqProofs (maxSteps := 10000000) only [sx_seq, sxL_succ, lpQ_norm, lpQ_exit, lpQ_ret, loopQ_norm, loopQ_exit, loopQ_ret, sqQ_norm, sqQ_ret, sqQ_exit, sx_block, blkQ_norm, blkQ_exit, blkQ_ret, sx_cond, cdP_true, cdP_false, cdP_bool, sx_region, sx_draw, plainD, List.all_cons, List.all_nil, List.isEmpty_nil, List.isEmpty_cons, sxo_nil, sxo_cons, sxo_guard, gdS_bool, gdS_eff, gdS_tup, gdS_sel, gdS_seleff, sxK_def, wcall_some, effP_ret, effP_set, effP_none, effP_ite, wop_call, wop_cv, cvP_func, sx_ret, sx_exit, sx_skip, sx_clr, sx_fresh, stays, ↓selV_wt, ↓selV_wf, ↓impB_wt, ↓impB_wf, ↓selV_nor, ↓impB_nor, ↓selV_nt, ↓selV_nf, ↓impB_nt, ↓impB_nf, wantB_true, wantB_false, ↓selV_true, ↓selV_false, ↓selV_and, ↓impB_true, ↓impB_false, ↓impB_and, impB_triv, valOf_some, retH_some, ↓prim_pick, pickO_true, pickO_false, pickO_and, pickO_or, pickO_andr, pickO_orr, pickO_orrn, pickO_orn, pickO_bb, pickAnd_bool, pickOr_bool, ↓selV_nn, ↓impB_nn, Bool.and_assoc, Bool.or_assoc, doOp, ev_fr, ev_cst, put_none, put_fr, get, ins, del, dels, Nat.reduceLT, Nat.reduceEqDiff, ↓reduceIte, reduceCtorEq, ne_eq, not_false_eq_true, implies_true, framed_pureF, framed_fb, framed_N, framed_pure, wop_prim, prim, YLD, mkA, V.cells, List.getElem?_cons_zero, List.getElem?_cons_succ, List.set_cons_zero, List.set_cons_succ, Nat.zero_add, Nat.add_zero, Nat.reduceAdd, Nat.reduceSub, Nat.reduceMul, Nat.reduceLeDiff, Nat.not_lt_zero, List.map_cons, List.map_nil, List.cons_append, List.nil_append, loadA, cellsAt, nAg, packA, opt_bind_some, opt_map_some, opt_bind_none, opt_map_none, List.drop, List.take, List.head?, List.length_cons, List.length_nil, binA, unA, eqCells, eqCell, negB, fillA, sr_nil, sr_cons, sr_succ, sr_all, sr_len, storeA, Ob.with, indexedI, V.oneCell, intOf?, retQ_ret, retQ_norm, resA, resA1, fr_getD, packR, sealDepth, shut_bool, shut_int, Option.some.injEq, V.bool.injEq, V.int.injEq, Bool.not_true, Bool.not_false, true_and, and_true, and_self, Bool.and_true, Bool.and_false, Bool.true_and, Bool.false_and, Bool.or_true, Bool.or_false, Bool.true_or, Bool.false_or, Bool.false_eq_true, Int.reduceLT, Int.reduceLE, Int.reduceToNat, Int.reduceNeg, shut_plain, freeL_cons, freeL_nil, free_int, free_bool, free_agg, free_str, free_nils, free_tup, free_sl, true_implies, false_implies, Nat.sub_zero, Int.natCast_nonneg, Int.toNat_natCast, Nat.le_refl, not_true_eq_false, Int.reduceAdd, Int.reduceSub, Int.reduceMul, wrap64, false_and, and_false, cond_true, cond_false, Bool.cond_true_left, Bool.cond_false_right, Int.reduceBNe, Int.reduceBEq, decide_true, decide_false, Int.cast_ofNat_Int, Nat.mul_one, eq_self, Bool.true_eq_false, Bool.not_eq_true, Bool.not_eq_false, deads, List.replicate, argsF, am18, sx_drawd, reachC_nil, wpd_nil, wpd_cons, wdK_def, fpOf, fpV, fpCall, Fp.ok, disj, List.contains_cons, List.contains_nil, Nat.reduceBEq, List.all_append, V.objsL, V.objs,  List.getD_cons_zero, List.getD_cons_succ, List.append_nil, app_get0, app_get, app_set0, app_set, e0', d0, c22, hlen, hlW, oa, p1, p2, p3, p4, hal0, q1, q2, r0, r1, r2, r3, r4, r5, t1, t2, t3, t4, t5, t7, wl, wg, v1, v2, isNil, cut_cs, cut_first, cut_owes, cut_got, -List.drop, -List.take, x1, x2, x3, x4, x5, x6, x7, x8, x9]
                    exact ⟨rfl, W, (by first | exact ha0 | (rw [List.drop_zero]; exact ha0)), bey0⟩
                  | false =>
                    have hr : rejD s L.length d l.length = false := by simp only [rejD, x1, x2, x3, x4, x5, x6, x7, x8, x9, Bool.or_true, Bool.true_or, Bool.false_or, Bool.or_false]
                    have hl : l.length ≤ 256 := by
                      have : (l.length : Int) ≤ 256 := by simpa using x8
                      omega
                    have ha1 : d.ack ≤ s.first + (L.length : Int) - 1 := by simpa using x7
                    obtain ⟨b', hb', c23⟩ := @clone_spec N n (by omega) l b hb (by omega)
                    have hcls : ∀ (z : Int), (z == 0) = true → z = 0 := fun z hz => by simpa using hz
                    cases y1 : decide (d.ack ≥ s.first) with
                    | true =>
                      have ha2 : d.ack ≥ s.first := of_decide_eq_true y1
                      obtain ⟨k, hk⟩ := Int.eq_ofNat_of_zero_le (show 0 ≤ d.ack - s.first + 1 by omega)
                      have hkt : (d.ack - s.first + 1).toNat = k := by rw [hk, Int.toNat_natCast]
                      have wk : IntKind.i64.wrap (IntKind.i64.wrap (d.ack - s.first) + 1) = (k : Int) := by
                        rw [wrap64 (n := d.ack - s.first) (by omega) (by omega), wrap64 (by omega) (by omega), hk]
                      have wa : IntKind.i64.wrap (d.ack + 1) = d.ack + 1 := wrap64 (by omega) (by omega)
                      obtain ⟨W', hS, hrow'⟩ := ha0.row.drop ha.bods.objs (k := k) (by omega)
                      obtain ⟨u1, u2, u3, u4, u5, u6⟩ := hrow'.shape
                      have hsub : ∀ c ∈ L.drop k, c ∈ L := fun c hc => List.mem_of_mem_drop hc
                      cases z1 : (d.seq == 0) with
                      | true =>
                        have x9' := x9
                        rw [z1, Bool.true_and] at x9'
                        simp only [comeS, comeK, comeB, hr, ackS, seqS, y1, z1, hkt, cond_true, cond_false, Bool.not_true, Bool.not_false, Bool.true_and, Bool.false_and]
                        simp +contextual -implicitDefEqProofs (maxSteps := 10000000) only [sx_seq, sxL_succ, lpQ_norm, lpQ_exit, lpQ_ret, loopQ_norm, loopQ_exit, loopQ_ret, sqQ_norm, sqQ_ret, sqQ_exit, sx_block, blkQ_norm, blkQ_exit, blkQ_ret, sx_cond, cdP_true, cdP_false, cdP_bool, sx_region, sx_draw, plainD, List.all_cons, List.all_nil, List.isEmpty_nil, List.isEmpty_cons, sxo_nil, sxo_cons, sxo_guard, gdS_bool, gdS_eff, gdS_tup, gdS_sel, gdS_seleff, sxK_def, wcall_some, effP_ret, effP_set, effP_none, effP_ite, wop_call, wop_cv, cvP_func, sx_ret, sx_exit, sx_skip, sx_clr, sx_fresh, stays, ↓selV_wt, ↓selV_wf, ↓impB_wt, ↓impB_wf, ↓selV_nor, ↓impB_nor, ↓selV_nt, ↓selV_nf, ↓impB_nt, ↓impB_nf, wantB_true, wantB_false, ↓selV_true, ↓selV_false, ↓selV_and, ↓impB_true, ↓impB_false, ↓impB_and, impB_triv, valOf_some, retH_some, ↓prim_pick, pickO_true, pickO_false, pickO_and, pickO_or, pickO_andr, pickO_orr, pickO_orrn, pickO_orn, pickO_bb, pickAnd_bool, pickOr_bool, ↓selV_nn, ↓impB_nn, Bool.and_assoc, Bool.or_assoc, doOp, ev_fr, ev_cst, put_none, put_fr, get, ins, del, dels, Nat.reduceLT, Nat.reduceEqDiff, ↓reduceIte, reduceCtorEq, ne_eq, not_false_eq_true, implies_true, framed_pureF, framed_fb, framed_N, framed_pure, wop_prim, prim, YLD, mkA, V.cells, List.getElem?_cons_zero, List.getElem?_cons_succ, List.set_cons_zero, List.set_cons_succ, Nat.zero_add, Nat.add_zero, Nat.reduceAdd, Nat.reduceSub, Nat.reduceMul, Nat.reduceLeDiff, Nat.not_lt_zero, List.map_cons, List.map_nil, List.cons_append, List.nil_append, loadA, cellsAt, nAg, packA, opt_bind_some, opt_map_some, opt_bind_none, opt_map_none, List.drop, List.take, List.head?, List.length_cons, List.length_nil, binA, unA, eqCells, eqCell, negB, fillA, sr_nil, sr_cons, sr_succ, sr_all, sr_len, storeA, Ob.with, indexedI, V.oneCell, intOf?, retQ_ret, retQ_norm, resA, resA1, fr_getD, packR, sealDepth, shut_bool, shut_int, Option.some.injEq, V.bool.injEq, V.int.injEq, Bool.not_true, Bool.not_false, true_and, and_true, and_self, Bool.and_true, Bool.and_false, Bool.true_and, Bool.false_and, Bool.or_true, Bool.or_false, Bool.true_or, Bool.false_or, Bool.false_eq_true, Int.reduceLT, Int.reduceLE, Int.reduceToNat, Int.reduceNeg, shut_plain, freeL_cons, freeL_nil, free_int, free_bool, free_agg, free_str, free_nils, free_tup, free_sl, true_implies, false_implies, Nat.sub_zero, Int.natCast_nonneg, Int.toNat_natCast, Nat.le_refl, not_true_eq_false, Int.reduceAdd, Int.reduceSub, Int.reduceMul, wrap64, false_and, and_false, cond_true, cond_false, Bool.cond_true_left, Bool.cond_false_right, Int.reduceBNe, Int.reduceBEq, decide_true, decide_false, Int.cast_ofNat_Int, Nat.mul_one, eq_self, Bool.true_eq_false, Bool.not_eq_true, Bool.not_eq_false, deads, List.replicate, argsF, am18, sx_drawd, reachC_nil, wpd_nil, wpd_cons, wdK_def, fpOf, fpV, fpCall, Fp.ok, disj, List.contains_cons, List.contains_nil, Nat.reduceBEq, List.all_append, V.objsL, V.objs,  List.getD_cons_zero, List.getD_cons_succ, List.append_nil, app_get0, app_get, app_set0, app_set, e0', d0, c22, hlen, hlW, oa, p1, p2, p3, p4, hal0, q1, q2, r0, r1, r2, r3, r4, r5, t1, t2, t3, t4, t5, t7, wl, wg, v1, v2, isNil, cut_cs, cut_first, cut_owes, cut_got, -List.drop, -List.take, x1, x2, x3, x4, x5, x6, x7, x8, x9', y1, z1, wk, wa, hS, u1, u2]
                        exact ⟨rfl, W', sat _ _ _ hrow' hsub, bey _⟩
                      | false =>
                        cases z2 : (d.seq != s.got + 1) with
                        | true =>
                          simp only [comeS, comeK, comeB, hr, ackS, seqS, y1, z1, z2, hkt, cond_true, cond_false, Bool.not_true, Bool.not_false, Bool.true_and, Bool.false_and, Bool.and_true, Bool.and_false]
                          simp +contextual -implicitDefEqProofs (maxSteps := 10000000) only [sx_seq, sxL_succ, lpQ_norm, lpQ_exit, lpQ_ret, loopQ_norm, loopQ_exit, loopQ_ret, sqQ_norm, sqQ_ret, sqQ_exit, sx_block, blkQ_norm, blkQ_exit, blkQ_ret, sx_cond, cdP_true, cdP_false, cdP_bool, sx_region, sx_draw, plainD, List.all_cons, List.all_nil, List.isEmpty_nil, List.isEmpty_cons, sxo_nil, sxo_cons, sxo_guard, gdS_bool, gdS_eff, gdS_tup, gdS_sel, gdS_seleff, sxK_def, wcall_some, effP_ret, effP_set, effP_none, effP_ite, wop_call, wop_cv, cvP_func, sx_ret, sx_exit, sx_skip, sx_clr, sx_fresh, stays, ↓selV_wt, ↓selV_wf, ↓impB_wt, ↓impB_wf, ↓selV_nor, ↓impB_nor, ↓selV_nt, ↓selV_nf, ↓impB_nt, ↓impB_nf, wantB_true, wantB_false, ↓selV_true, ↓selV_false, ↓selV_and, ↓impB_true, ↓impB_false, ↓impB_and, impB_triv, valOf_some, retH_some, ↓prim_pick, pickO_true, pickO_false, pickO_and, pickO_or, pickO_andr, pickO_orr, pickO_orrn, pickO_orn, pickO_bb, pickAnd_bool, pickOr_bool, ↓selV_nn, ↓impB_nn, Bool.and_assoc, Bool.or_assoc, doOp, ev_fr, ev_cst, put_none, put_fr, get, ins, del, dels, Nat.reduceLT, Nat.reduceEqDiff, ↓reduceIte, reduceCtorEq, ne_eq, not_false_eq_true, implies_true, framed_pureF, framed_fb, framed_N, framed_pure, wop_prim, prim, YLD, mkA, V.cells, List.getElem?_cons_zero, List.getElem?_cons_succ, List.set_cons_zero, List.set_cons_succ, Nat.zero_add, Nat.add_zero, Nat.reduceAdd, Nat.reduceSub, Nat.reduceMul, Nat.reduceLeDiff, Nat.not_lt_zero, List.map_cons, List.map_nil, List.cons_append, List.nil_append, loadA, cellsAt, nAg, packA, opt_bind_some, opt_map_some, opt_bind_none, opt_map_none, List.drop, List.take, List.head?, List.length_cons, List.length_nil, binA, unA, eqCells, eqCell, negB, fillA, sr_nil, sr_cons, sr_succ, sr_all, sr_len, storeA, Ob.with, indexedI, V.oneCell, intOf?, retQ_ret, retQ_norm, resA, resA1, fr_getD, packR, sealDepth, shut_bool, shut_int, Option.some.injEq, V.bool.injEq, V.int.injEq, Bool.not_true, Bool.not_false, true_and, and_true, and_self, Bool.and_true, Bool.and_false, Bool.true_and, Bool.false_and, Bool.or_true, Bool.or_false, Bool.true_or, Bool.false_or, Bool.false_eq_true, Int.reduceLT, Int.reduceLE, Int.reduceToNat, Int.reduceNeg, shut_plain, freeL_cons, freeL_nil, free_int, free_bool, free_agg, free_str, free_nils, free_tup, free_sl, true_implies, false_implies, Nat.sub_zero, Int.natCast_nonneg, Int.toNat_natCast, Nat.le_refl, not_true_eq_false, Int.reduceAdd, Int.reduceSub, Int.reduceMul, wrap64, false_and, and_false, cond_true, cond_false, Bool.cond_true_left, Bool.cond_false_right, Int.reduceBNe, Int.reduceBEq, decide_true, decide_false, Int.cast_ofNat_Int, Nat.mul_one, eq_self, Bool.true_eq_false, Bool.not_eq_true, Bool.not_eq_false, deads, List.replicate, argsF, am18, sx_drawd, reachC_nil, wpd_nil, wpd_cons, wdK_def, fpOf, fpV, fpCall, Fp.ok, disj, List.contains_cons, List.contains_nil, Nat.reduceBEq, List.all_append, V.objsL, V.objs,  List.getD_cons_zero, List.getD_cons_succ, List.append_nil, app_get0, app_get, app_set0, app_set, e0', d0, c22, hlen, hlW, oa, p1, p2, p3, p4, hal0, q1, q2, r0, r1, r2, r3, r4, r5, t1, t2, t3, t4, t5, t7, wl, wg, v1, v2, isNil, cut_cs, cut_first, cut_owes, cut_got, -List.drop, -List.take, x1, x2, x3, x4, x5, x6, x7, x8, y1, z1, z2, wk, wa, hS, u1, u2]
                          exact ⟨rfl, W', sat _ _ _ hrow' hsub, bey _⟩
                        | false =>
                          simp only [comeS, comeK, comeB, hr, ackS, seqS, y1, z1, z2, hkt, cond_true, cond_false, Bool.not_true, Bool.not_false, Bool.true_and, Bool.false_and, Bool.and_true, Bool.and_false]
                          simp +contextual -implicitDefEqProofs (maxSteps := 10000000) only [sx_seq, sxL_succ, lpQ_norm, lpQ_exit, lpQ_ret, loopQ_norm, loopQ_exit, loopQ_ret, sqQ_norm, sqQ_ret, sqQ_exit, sx_block, blkQ_norm, blkQ_exit, blkQ_ret, sx_cond, cdP_true, cdP_false, cdP_bool, sx_region, sx_draw, plainD, List.all_cons, List.all_nil, List.isEmpty_nil, List.isEmpty_cons, sxo_nil, sxo_cons, sxo_guard, gdS_bool, gdS_eff, gdS_tup, gdS_sel, gdS_seleff, sxK_def, wcall_some, effP_ret, effP_set, effP_none, effP_ite, wop_call, wop_cv, cvP_func, sx_ret, sx_exit, sx_skip, sx_clr, sx_fresh, stays, ↓selV_wt, ↓selV_wf, ↓impB_wt, ↓impB_wf, ↓selV_nor, ↓impB_nor, ↓selV_nt, ↓selV_nf, ↓impB_nt, ↓impB_nf, wantB_true, wantB_false, ↓selV_true, ↓selV_false, ↓selV_and, ↓impB_true, ↓impB_false, ↓impB_and, impB_triv, valOf_some, retH_some, ↓prim_pick, pickO_true, pickO_false, pickO_and, pickO_or, pickO_andr, pickO_orr, pickO_orrn, pickO_orn, pickO_bb, pickAnd_bool, pickOr_bool, ↓selV_nn, ↓impB_nn, Bool.and_assoc, Bool.or_assoc, doOp, ev_fr, ev_cst, put_none, put_fr, get, ins, del, dels, Nat.reduceLT, Nat.reduceEqDiff, ↓reduceIte, reduceCtorEq, ne_eq, not_false_eq_true, implies_true, framed_pureF, framed_fb, framed_N, framed_pure, wop_prim, prim, YLD, mkA, V.cells, List.getElem?_cons_zero, List.getElem?_cons_succ, List.set_cons_zero, List.set_cons_succ, Nat.zero_add, Nat.add_zero, Nat.reduceAdd, Nat.reduceSub, Nat.reduceMul, Nat.reduceLeDiff, Nat.not_lt_zero, List.map_cons, List.map_nil, List.cons_append, List.nil_append, loadA, cellsAt, nAg, packA, opt_bind_some, opt_map_some, opt_bind_none, opt_map_none, List.drop, List.take, List.head?, List.length_cons, List.length_nil, binA, unA, eqCells, eqCell, negB, fillA, sr_nil, sr_cons, sr_succ, sr_all, sr_len, storeA, Ob.with, indexedI, V.oneCell, intOf?, retQ_ret, retQ_norm, resA, resA1, fr_getD, packR, sealDepth, shut_bool, shut_int, Option.some.injEq, V.bool.injEq, V.int.injEq, Bool.not_true, Bool.not_false, true_and, and_true, and_self, Bool.and_true, Bool.and_false, Bool.true_and, Bool.false_and, Bool.or_true, Bool.or_false, Bool.true_or, Bool.false_or, Bool.false_eq_true, Int.reduceLT, Int.reduceLE, Int.reduceToNat, Int.reduceNeg, shut_plain, freeL_cons, freeL_nil, free_int, free_bool, free_agg, free_str, free_nils, free_tup, free_sl, true_implies, false_implies, Nat.sub_zero, Int.natCast_nonneg, Int.toNat_natCast, Nat.le_refl, not_true_eq_false, Int.reduceAdd, Int.reduceSub, Int.reduceMul, wrap64, false_and, and_false, cond_true, cond_false, Bool.cond_true_left, Bool.cond_false_right, Int.reduceBNe, Int.reduceBEq, decide_true, decide_false, Int.cast_ofNat_Int, Nat.mul_one, eq_self, Bool.true_eq_false, Bool.not_eq_true, Bool.not_eq_false, deads, List.replicate, argsF, am18, sx_drawd, reachC_nil, wpd_nil, wpd_cons, wdK_def, fpOf, fpV, fpCall, Fp.ok, disj, List.contains_cons, List.contains_nil, Nat.reduceBEq, List.all_append, V.objsL, V.objs,  List.getD_cons_zero, List.getD_cons_succ, List.append_nil, app_get0, app_get, app_set0, app_set, e0', d0, c22, hlen, hlW, oa, p1, p2, p3, p4, hal0, q1, q2, r0, r1, r2, r3, r4, r5, t1, t2, t3, t4, t5, t7, wl, wg, v1, v2, isNil, cut_cs, cut_first, cut_owes, cut_got, -List.drop, -List.take, x1, x2, x3, x4, x5, x6, x7, x8, y1, z1, z2, wk, wa, hS, u1, u2, c23]
                          exact ⟨⟨b', hb', rfl⟩, W', sat _ _ _ hrow' hsub, bey _⟩
                    | false =>
                      have hrow' : WRow h0 W (L.drop 0) R := by rw [List.drop_zero]; exact ha0.row
                      have hsub : ∀ c ∈ L.drop 0, c ∈ L := fun c hc => by rw [List.drop_zero] at hc; exact hc
                      have wk := wg
                      cases z1 : (d.seq == 0) with
                      | true =>
                        have x9' := x9
                        rw [z1, Bool.true_and] at x9'
                        simp only [comeS, comeK, comeB, hr, ackS, seqS, y1, z1, cond_true, cond_false, Bool.not_true, Bool.not_false, Bool.true_and, Bool.false_and]
                        simp +contextual -implicitDefEqProofs (maxSteps := 10000000) only [sx_seq, sxL_succ, lpQ_norm, lpQ_exit, lpQ_ret, loopQ_norm, loopQ_exit, loopQ_ret, sqQ_norm, sqQ_ret, sqQ_exit, sx_block, blkQ_norm, blkQ_exit, blkQ_ret, sx_cond, cdP_true, cdP_false, cdP_bool, sx_region, sx_draw, plainD, List.all_cons, List.all_nil, List.isEmpty_nil, List.isEmpty_cons, sxo_nil, sxo_cons, sxo_guard, gdS_bool, gdS_eff, gdS_tup, gdS_sel, gdS_seleff, sxK_def, wcall_some, effP_ret, effP_set, effP_none, effP_ite, wop_call, wop_cv, cvP_func, sx_ret, sx_exit, sx_skip, sx_clr, sx_fresh, stays, ↓selV_wt, ↓selV_wf, ↓impB_wt, ↓impB_wf, ↓selV_nor, ↓impB_nor, ↓selV_nt, ↓selV_nf, ↓impB_nt, ↓impB_nf, wantB_true, wantB_false, ↓selV_true, ↓selV_false, ↓selV_and, ↓impB_true, ↓impB_false, ↓impB_and, impB_triv, valOf_some, retH_some, ↓prim_pick, pickO_true, pickO_false, pickO_and, pickO_or, pickO_andr, pickO_orr, pickO_orrn, pickO_orn, pickO_bb, pickAnd_bool, pickOr_bool, ↓selV_nn, ↓impB_nn, Bool.and_assoc, Bool.or_assoc, doOp, ev_fr, ev_cst, put_none, put_fr, get, ins, del, dels, Nat.reduceLT, Nat.reduceEqDiff, ↓reduceIte, reduceCtorEq, ne_eq, not_false_eq_true, implies_true, framed_pureF, framed_fb, framed_N, framed_pure, wop_prim, prim, YLD, mkA, V.cells, List.getElem?_cons_zero, List.getElem?_cons_succ, List.set_cons_zero, List.set_cons_succ, Nat.zero_add, Nat.add_zero, Nat.reduceAdd, Nat.reduceSub, Nat.reduceMul, Nat.reduceLeDiff, Nat.not_lt_zero, List.map_cons, List.map_nil, List.cons_append, List.nil_append, loadA, cellsAt, nAg, packA, opt_bind_some, opt_map_some, opt_bind_none, opt_map_none, List.drop, List.take, List.head?, List.length_cons, List.length_nil, binA, unA, eqCells, eqCell, negB, fillA, sr_nil, sr_cons, sr_succ, sr_all, sr_len, storeA, Ob.with, indexedI, V.oneCell, intOf?, retQ_ret, retQ_norm, resA, resA1, fr_getD, packR, sealDepth, shut_bool, shut_int, Option.some.injEq, V.bool.injEq, V.int.injEq, Bool.not_true, Bool.not_false, true_and, and_true, and_self, Bool.and_true, Bool.and_false, Bool.true_and, Bool.false_and, Bool.or_true, Bool.or_false, Bool.true_or, Bool.false_or, Bool.false_eq_true, Int.reduceLT, Int.reduceLE, Int.reduceToNat, Int.reduceNeg, shut_plain, freeL_cons, freeL_nil, free_int, free_bool, free_agg, free_str, free_nils, free_tup, free_sl, true_implies, false_implies, Nat.sub_zero, Int.natCast_nonneg, Int.toNat_natCast, Nat.le_refl, not_true_eq_false, Int.reduceAdd, Int.reduceSub, Int.reduceMul, wrap64, false_and, and_false, cond_true, cond_false, Bool.cond_true_left, Bool.cond_false_right, Int.reduceBNe, Int.reduceBEq, decide_true, decide_false, Int.cast_ofNat_Int, Nat.mul_one, eq_self, Bool.true_eq_false, Bool.not_eq_true, Bool.not_eq_false, deads, List.replicate, argsF, am18, sx_drawd, reachC_nil, wpd_nil, wpd_cons, wdK_def, fpOf, fpV, fpCall, Fp.ok, disj, List.contains_cons, List.contains_nil, Nat.reduceBEq, List.all_append, V.objsL, V.objs,  List.getD_cons_zero, List.getD_cons_succ, List.append_nil, app_get0, app_get, app_set0, app_set, e0', d0, c22, hlen, hlW, oa, p1, p2, p3, p4, hal0, q1, q2, r0, r1, r2, r3, r4, r5, t1, t2, t3, t4, t5, t7, wl, wg, v1, v2, isNil, cut_cs, cut_first, cut_owes, cut_got, -List.drop, -List.take, x1, x2, x3, x4, x5, x6, x7, x8, x9', y1, z1, wk]
                        exact ⟨rfl, W, (by first | exact ha0 | (rw [List.drop_zero]; exact ha0)), bey0⟩
                      | false =>
                        cases z2 : (d.seq != s.got + 1) with
                        | true =>
                          simp only [comeS, comeK, comeB, hr, ackS, seqS, y1, z1, z2, cond_true, cond_false, Bool.not_true, Bool.not_false, Bool.true_and, Bool.false_and, Bool.and_true, Bool.and_false]
                          simp +contextual -implicitDefEqProofs (maxSteps := 10000000) only [sx_seq, sxL_succ, lpQ_norm, lpQ_exit, lpQ_ret, loopQ_norm, loopQ_exit, loopQ_ret, sqQ_norm, sqQ_ret, sqQ_exit, sx_block, blkQ_norm, blkQ_exit, blkQ_ret, sx_cond, cdP_true, cdP_false, cdP_bool, sx_region, sx_draw, plainD, List.all_cons, List.all_nil, List.isEmpty_nil, List.isEmpty_cons, sxo_nil, sxo_cons, sxo_guard, gdS_bool, gdS_eff, gdS_tup, gdS_sel, gdS_seleff, sxK_def, wcall_some, effP_ret, effP_set, effP_none, effP_ite, wop_call, wop_cv, cvP_func, sx_ret, sx_exit, sx_skip, sx_clr, sx_fresh, stays, ↓selV_wt, ↓selV_wf, ↓impB_wt, ↓impB_wf, ↓selV_nor, ↓impB_nor, ↓selV_nt, ↓selV_nf, ↓impB_nt, ↓impB_nf, wantB_true, wantB_false, ↓selV_true, ↓selV_false, ↓selV_and, ↓impB_true, ↓impB_false, ↓impB_and, impB_triv, valOf_some, retH_some, ↓prim_pick, pickO_true, pickO_false, pickO_and, pickO_or, pickO_andr, pickO_orr, pickO_orrn, pickO_orn, pickO_bb, pickAnd_bool, pickOr_bool, ↓selV_nn, ↓impB_nn, Bool.and_assoc, Bool.or_assoc, doOp, ev_fr, ev_cst, put_none, put_fr, get, ins, del, dels, Nat.reduceLT, Nat.reduceEqDiff, ↓reduceIte, reduceCtorEq, ne_eq, not_false_eq_true, implies_true, framed_pureF, framed_fb, framed_N, framed_pure, wop_prim, prim, YLD, mkA, V.cells, List.getElem?_cons_zero, List.getElem?_cons_succ, List.set_cons_zero, List.set_cons_succ, Nat.zero_add, Nat.add_zero, Nat.reduceAdd, Nat.reduceSub, Nat.reduceMul, Nat.reduceLeDiff, Nat.not_lt_zero, List.map_cons, List.map_nil, List.cons_append, List.nil_append, loadA, cellsAt, nAg, packA, opt_bind_some, opt_map_some, opt_bind_none, opt_map_none, List.drop, List.take, List.head?, List.length_cons, List.length_nil, binA, unA, eqCells, eqCell, negB, fillA, sr_nil, sr_cons, sr_succ, sr_all, sr_len, storeA, Ob.with, indexedI, V.oneCell, intOf?, retQ_ret, retQ_norm, resA, resA1, fr_getD, packR, sealDepth, shut_bool, shut_int, Option.some.injEq, V.bool.injEq, V.int.injEq, Bool.not_true, Bool.not_false, true_and, and_true, and_self, Bool.and_true, Bool.and_false, Bool.true_and, Bool.false_and, Bool.or_true, Bool.or_false, Bool.true_or, Bool.false_or, Bool.false_eq_true, Int.reduceLT, Int.reduceLE, Int.reduceToNat, Int.reduceNeg, shut_plain, freeL_cons, freeL_nil, free_int, free_bool, free_agg, free_str, free_nils, free_tup, free_sl, true_implies, false_implies, Nat.sub_zero, Int.natCast_nonneg, Int.toNat_natCast, Nat.le_refl, not_true_eq_false, Int.reduceAdd, Int.reduceSub, Int.reduceMul, wrap64, false_and, and_false, cond_true, cond_false, Bool.cond_true_left, Bool.cond_false_right, Int.reduceBNe, Int.reduceBEq, decide_true, decide_false, Int.cast_ofNat_Int, Nat.mul_one, eq_self, Bool.true_eq_false, Bool.not_eq_true, Bool.not_eq_false, deads, List.replicate, argsF, am18, sx_drawd, reachC_nil, wpd_nil, wpd_cons, wdK_def, fpOf, fpV, fpCall, Fp.ok, disj, List.contains_cons, List.contains_nil, Nat.reduceBEq, List.all_append, V.objsL, V.objs,  List.getD_cons_zero, List.getD_cons_succ, List.append_nil, app_get0, app_get, app_set0, app_set, e0', d0, c22, hlen, hlW, oa, p1, p2, p3, p4, hal0, q1, q2, r0, r1, r2, r3, r4, r5, t1, t2, t3, t4, t5, t7, wl, wg, v1, v2, isNil, cut_cs, cut_first, cut_owes, cut_got, -List.drop, -List.take, x1, x2, x3, x4, x5, x6, x7, x8, y1, z1, z2, wk]
                          exact ⟨rfl, W, sat _ _ _ hrow' hsub, bey _⟩
                        | false =>
                          simp only [comeS, comeK, comeB, hr, ackS, seqS, y1, z1, z2, cond_true, cond_false, Bool.not_true, Bool.not_false, Bool.true_and, Bool.false_and, Bool.and_true, Bool.and_false]
                          simp +contextual -implicitDefEqProofs (maxSteps := 10000000) only [sx_seq, sxL_succ, lpQ_norm, lpQ_exit, lpQ_ret, loopQ_norm, loopQ_exit, loopQ_ret, sqQ_norm, sqQ_ret, sqQ_exit, sx_block, blkQ_norm, blkQ_exit, blkQ_ret, sx_cond, cdP_true, cdP_false, cdP_bool, sx_region, sx_draw, plainD, List.all_cons, List.all_nil, List.isEmpty_nil, List.isEmpty_cons, sxo_nil, sxo_cons, sxo_guard, gdS_bool, gdS_eff, gdS_tup, gdS_sel, gdS_seleff, sxK_def, wcall_some, effP_ret, effP_set, effP_none, effP_ite, wop_call, wop_cv, cvP_func, sx_ret, sx_exit, sx_skip, sx_clr, sx_fresh, stays, ↓selV_wt, ↓selV_wf, ↓impB_wt, ↓impB_wf, ↓selV_nor, ↓impB_nor, ↓selV_nt, ↓selV_nf, ↓impB_nt, ↓impB_nf, wantB_true, wantB_false, ↓selV_true, ↓selV_false, ↓selV_and, ↓impB_true, ↓impB_false, ↓impB_and, impB_triv, valOf_some, retH_some, ↓prim_pick, pickO_true, pickO_false, pickO_and, pickO_or, pickO_andr, pickO_orr, pickO_orrn, pickO_orn, pickO_bb, pickAnd_bool, pickOr_bool, ↓selV_nn, ↓impB_nn, Bool.and_assoc, Bool.or_assoc, doOp, ev_fr, ev_cst, put_none, put_fr, get, ins, del, dels, Nat.reduceLT, Nat.reduceEqDiff, ↓reduceIte, reduceCtorEq, ne_eq, not_false_eq_true, implies_true, framed_pureF, framed_fb, framed_N, framed_pure, wop_prim, prim, YLD, mkA, V.cells, List.getElem?_cons_zero, List.getElem?_cons_succ, List.set_cons_zero, List.set_cons_succ, Nat.zero_add, Nat.add_zero, Nat.reduceAdd, Nat.reduceSub, Nat.reduceMul, Nat.reduceLeDiff, Nat.not_lt_zero, List.map_cons, List.map_nil, List.cons_append, List.nil_append, loadA, cellsAt, nAg, packA, opt_bind_some, opt_map_some, opt_bind_none, opt_map_none, List.drop, List.take, List.head?, List.length_cons, List.length_nil, binA, unA, eqCells, eqCell, negB, fillA, sr_nil, sr_cons, sr_succ, sr_all, sr_len, storeA, Ob.with, indexedI, V.oneCell, intOf?, retQ_ret, retQ_norm, resA, resA1, fr_getD, packR, sealDepth, shut_bool, shut_int, Option.some.injEq, V.bool.injEq, V.int.injEq, Bool.not_true, Bool.not_false, true_and, and_true, and_self, Bool.and_true, Bool.and_false, Bool.true_and, Bool.false_and, Bool.or_true, Bool.or_false, Bool.true_or, Bool.false_or, Bool.false_eq_true, Int.reduceLT, Int.reduceLE, Int.reduceToNat, Int.reduceNeg, shut_plain, freeL_cons, freeL_nil, free_int, free_bool, free_agg, free_str, free_nils, free_tup, free_sl, true_implies, false_implies, Nat.sub_zero, Int.natCast_nonneg, Int.toNat_natCast, Nat.le_refl, not_true_eq_false, Int.reduceAdd, Int.reduceSub, Int.reduceMul, wrap64, false_and, and_false, cond_true, cond_false, Bool.cond_true_left, Bool.cond_false_right, Int.reduceBNe, Int.reduceBEq, decide_true, decide_false, Int.cast_ofNat_Int, Nat.mul_one, eq_self, Bool.true_eq_false, Bool.not_eq_true, Bool.not_eq_false, deads, List.replicate, argsF, am18, sx_drawd, reachC_nil, wpd_nil, wpd_cons, wdK_def, fpOf, fpV, fpCall, Fp.ok, disj, List.contains_cons, List.contains_nil, Nat.reduceBEq, List.all_append, V.objsL, V.objs,  List.getD_cons_zero, List.getD_cons_succ, List.append_nil, app_get0, app_get, app_set0, app_set, e0', d0, c22, hlen, hlW, oa, p1, p2, p3, p4, hal0, q1, q2, r0, r1, r2, r3, r4, r5, t1, t2, t3, t4, t5, t7, wl, wg, v1, v2, isNil, cut_cs, cut_first, cut_owes, cut_got, -List.drop, -List.take, x1, x2, x3, x4, x5, x6, x7, x8, y1, z1, z2, wk, c23]
                          exact ⟨⟨b', hb', rfl⟩, W, sat _ _ _ hrow' hsub, bey _⟩

end Go.Am.T

set_option linter.unusedVariables false
set_option linter.unusedSimpArgs false
set_option maxRecDepth 10000
namespace Go.Am.T
attribute [local congr] selV_congr impB_congr

/-- A datagram's cells. -/
def dgC (frm to view seq ack : Int) (b : V) : List V := [.int .i64 frm, .int .i64 to, .int .i64 view, .int .i64 seq, .int .i64 ack, b]
def dgS (s : Ses) (seq : Int) (b : V) : List V := dgC s.me s.other s.view seq s.got b

theorem SAt.app {H : Heap} {a : Nat} {s : Ses} {L : List V} {W : V} {R : List Nat} (h : SAt H a s L W R) (y : List Ob) : SAt (H ++ y) a s L W R :=
  ⟨by rw [List.getElem?_append_left (lt_of_get h.ob)]; exact h.ob, h.row.keep (fun o ho => List.getElem?_append_left (h.row.lt o ho)), h.bods, h.apart⟩

theorem make_spec {N n : Nat} (hn : 2 ≤ n) {a p : Nat} {s : Ses} {W : V} {L : List V} {R : List Nat} {H : Heap} (ha : SAt H a s L W R) (hp : H[p]? = some ⟨1, .var [.ptr a 1 0]⟩) (seq : Int) {l : List Int} {b : V} (hb : By l b) (hl : l.length ≤ 256) :
    ∃ b' y, By l b' ∧ callA am N n 27 [.int .i64 seq, b, .ptr p 1 0] H = some (.agg (dgS s seq b'), H ++ [y]) := by
  obtain ⟨n, rfl⟩ : ∃ m, n = m + 1 := ⟨n - 1, by omega⟩
  obtain ⟨b', hb', c23⟩ := @clone_spec N n (by omega) l b hb (by omega)
  refine ⟨b', ⟨1, .var (dgS s seq b')⟩, hb', ?_⟩
  obtain ⟨h0, e0⟩ : ∃ h0, h0 = H ++ [(⟨1, .var [.int .i64 0, .int .i64 0, .int .i64 0, .int .i64 0, .int .i64 0, .nils]⟩ : Ob)] := ⟨_, rfl⟩
  have e0' := e0.symm
  have l0 : h0.length = H.length + 1 := by rw [e0]; simp
  have d0 : h0[H.length]? = some ⟨1, .var [.int .i64 0, .int .i64 0, .int .i64 0, .int .i64 0, .int .i64 0, .nils]⟩ := by rw [e0, app_get0]; rfl
  have d1 : ∀ x, h0.set H.length x = H ++ [x] := fun x => by rw [e0, app_set0]; rfl
  have d2 : ∀ x, (H ++ [x])[H.length]? = some x := fun x => by rw [app_get0]; rfl
  have hpl := lt_of_get hp
  have hal := lt_of_get ha.ob
  have p0 : h0[p]? = some ⟨1, .var [.ptr a 1 0]⟩ := by rw [e0, List.getElem?_append_left hpl]; exact hp
  have a0 : h0[a]? = some ⟨1, .var (s.cs W)⟩ := by rw [e0, List.getElem?_append_left hal]; exact ha.ob
  have hobb : b.objs = [] := hb.objs
  have f23 : ∀ fb (h : Heap), ({ pureF := pureOf am, call := callA am N n, N := N, fb := fb } : Env).framed.call 23 [b] h = some (b', h) := fun fb h =>
    frame_free pm23 (.inr rfl) (by simp [V.objsL, hobb]) c23 hb'.objs
  have k1 := hb'.cells
  have k2 := hb'.one
  have k3 := hb'.njunk
  have k4 := hb'.nagg
  have k5 := hb'.ntup
  have q3 : (s.cs W).length = 9 := rfl
  have t1 : List.take 1 (List.drop 1 (s.cs W)) = [.int .i64 s.me] := rfl
  have t2 : List.take 1 (List.drop 2 (s.cs W)) = [.int .i64 s.other] := rfl
  have t3 : List.take 1 (List.drop 3 (s.cs W)) = [.int .i64 s.view] := rfl
  have t7 : List.take 1 (List.drop 7 (s.cs W)) = [.int .i64 s.got] := rfl
  have n1 : p ≠ H.length := by omega
  have n2 : a ≠ H.length := by omega
  have e1 : (p == H.length) = false := by simp; omega
  have e2 : (H.length == p) = false := by simp; omega
  have e3 : (a == H.length) = false := by simp; omega
  have e4 : (H.length == a) = false := by simp; omega
  have m1 : p < h0.length := by omega
  have m2 : a < h0.length := by omega
  refine call_keep_eq at27 rfl rfl (by decide) (sx_wp ?_)
  unfold dgS dgC
  simp +contextual -implicitDefEqProofs (maxSteps := 10000000) only [sx_seq, sxL_succ, lpQ_norm, lpQ_exit, lpQ_ret, loopQ_norm, loopQ_exit, loopQ_ret, sqQ_norm, sqQ_ret, sqQ_exit, sx_block, blkQ_norm, blkQ_exit, blkQ_ret, sx_cond, cdP_true, cdP_false, cdP_bool, sx_region, sx_draw, plainD, List.all_cons, List.all_nil, List.isEmpty_nil, List.isEmpty_cons, sxo_nil, sxo_cons, sxo_guard, gdS_bool, gdS_eff, gdS_tup, gdS_sel, gdS_seleff, sxK_def, wcall_some, effP_ret, effP_set, effP_none, effP_ite, wop_call, wop_cv, cvP_func, sx_ret, sx_exit, sx_skip, sx_clr, sx_fresh, stays, ↓selV_wt, ↓selV_wf, ↓impB_wt, ↓impB_wf, ↓selV_nor, ↓impB_nor, ↓selV_nt, ↓selV_nf, ↓impB_nt, ↓impB_nf, wantB_true, wantB_false, ↓selV_true, ↓selV_false, ↓selV_and, ↓impB_true, ↓impB_false, ↓impB_and, impB_triv, valOf_some, retH_some, ↓prim_pick, pickO_true, pickO_false, pickO_and, pickO_or, pickO_andr, pickO_orr, pickO_orrn, pickO_orn, pickO_bb, pickAnd_bool, pickOr_bool, ↓selV_nn, ↓impB_nn, Bool.and_assoc, Bool.or_assoc, doOp, ev_fr, ev_cst, put_none, put_fr, get, ins, del, dels, Nat.reduceLT, Nat.reduceEqDiff, ↓reduceIte, reduceCtorEq, ne_eq, not_false_eq_true, implies_true, framed_pureF, framed_fb, framed_N, framed_pure, wop_prim, prim, YLD, mkA, V.cells, List.getElem?_cons_zero, List.getElem?_cons_succ, List.set_cons_zero, List.set_cons_succ, Nat.zero_add, Nat.add_zero, Nat.reduceAdd, Nat.reduceSub, Nat.reduceMul, Nat.reduceLeDiff, Nat.not_lt_zero, List.map_cons, List.map_nil, List.cons_append, List.nil_append, loadA, cellsAt, nAg, packA, opt_bind_some, opt_map_some, opt_bind_none, opt_map_none, List.drop, List.take, List.head?, List.length_cons, List.length_nil, binA, unA, eqCells, eqCell, negB, fillA, sr_nil, sr_cons, sr_succ, sr_all, sr_len, storeA, Ob.with, indexedI, V.oneCell, intOf?, retQ_ret, retQ_norm, resA, resA1, fr_getD, packR, sealDepth, shut_bool, shut_int, Option.some.injEq, V.bool.injEq, V.int.injEq, Bool.not_true, Bool.not_false, true_and, and_true, and_self, Bool.and_true, Bool.and_false, Bool.true_and, Bool.false_and, Bool.or_true, Bool.or_false, Bool.true_or, Bool.false_or, Bool.false_eq_true, Int.reduceLT, Int.reduceLE, Int.reduceToNat, Int.reduceNeg, shut_plain, freeL_cons, freeL_nil, free_int, free_bool, free_agg, free_str, free_nils, free_tup, free_sl, true_implies, false_implies, Nat.sub_zero, Int.natCast_nonneg, Int.toNat_natCast, Nat.le_refl, not_true_eq_false, Int.reduceAdd, Int.reduceSub, Int.reduceMul, wrap64, false_and, and_false, cond_true, cond_false, Bool.cond_true_left, Bool.cond_false_right, Int.reduceBNe, Int.reduceBEq, decide_true, decide_false, Int.cast_ofNat_Int, Nat.mul_one, eq_self, Bool.true_eq_false, Bool.not_eq_true, Bool.not_eq_false, deads, List.replicate, argsF, am27, sx_drawd, reachC_nil, wpd_nil, wpd_cons, wdK_def, fpOf, fpV, fpCall, Fp.ok, disj, List.contains_cons, List.contains_nil, Nat.reduceBEq, List.all_append, V.objsL, V.objs,  List.getD_cons_zero, List.getD_cons_succ, List.append_nil, app_get0, app_get, app_set0, app_set, e0', d0, d1, d2, p0, a0, hobb, pm23, f23, k1, k2, q3, t1, t2, t3, t7, isNil, e1, e2, e3, e4, m1, m2]

/-! ### Rows of datagrams -/

def Cells6 (C : List (List V)) : Prop := ∀ c ∈ C, c.length = 6 ∧ c.all V.oneCell = true

/-- A slice of datagrams that was made behind object p. -/
def DRow (p : Nat) (H : Heap) (sl : V) (C : List (List V)) : Prop :=
  (C = [] ∧ sl = .nils) ∨ (C ≠ [] ∧ ∃ o ver, p ≤ o ∧ sl = .view o ver 0 C.length 6 none ∧ H[o]? = some ⟨ver, .arr C.flatten⟩)

theorem DRow.keep {p : Nat} {H H' : Heap} {sl : V} {C : List (List V)} (h : DRow p H sl C) (hk : ∀ o, p ≤ o → o < H.length → H'[o]? = H[o]?) : DRow p H' sl C := by
  rcases h with h | ⟨hL, o, ver, hp, rfl, ho⟩
  · exact .inl h
  · exact .inr ⟨hL, o, ver, hp, rfl, by rw [hk o hp (lt_of_get ho)]; exact ho⟩

theorem DRow.len {p : Nat} {H : Heap} {sl : V} {C : List (List V)} (h : DRow p H sl C) : lenA sl = some C.length ∧ (∀ s, sl ≠ .str s) ∧ sl.cells = [sl] := by
  rcases h with ⟨rfl, rfl⟩ | ⟨hL, o, ver, hp, rfl, ho⟩
  · exact ⟨rfl, fun _ => V.noConfusion, rfl⟩
  · exact ⟨rfl, fun _ => V.noConfusion, rfl⟩

theorem flat6 {C : List (List V)} (h : Cells6 C) : C.flatten.length = C.length * 6 := flat_length (fun c hc => (h c hc).1)

/-- One datagram more. -/
theorem DRow.append {p o0 : Nat} {H : Heap} {sl : V} {C : List (List V)} {x : Ob} {c : List V} (h : DRow p H sl C) (hC : Cells6 C) (hc : c.length = 6) (h1 : c.all V.oneCell = true) (h0 : H[o0]? = some x) (hp : p ≤ o0) (hL : C.length ≤ 1100) :
    ∃ o1 y v, appendA (fun o => H[o]?) o0 6 64 sl (.sl [.agg c] 6 (some 1)) = some (.set o1 y v) ∧ DRow p (H.set o1 y) v (C ++ [c]) ∧ p ≤ o1 ∧ o1 < H.length := by
  have hl1 : lenA (.sl [.agg c] 6 (some 1)) = some 1 := rfl
  have hf1 : firstA (fun o => H[o]?) 6 1 (.sl [.agg c] 6 (some 1)) = some c := by rw [firstA_sl1]; rfl
  rcases h with ⟨rfl, rfl⟩ | ⟨hne, o, ver, hpo, rfl, hob⟩
  · refine ⟨o0, ⟨x.ver + 1, .arr c⟩, .view o0 (x.ver + 1) 0 1 6 none, ?_, .inr ⟨by simp, o0, x.ver + 1, hp, rfl, ?_⟩, hp, lt_of_get h0⟩
    · unfold appendA
      simp [hl1, hf1, h1, mkA, h0, maxBytes]
    · rw [List.getElem?_set_self (lt_of_get h0)]; simp
  · refine ⟨o, ⟨ver + 1, .arr (C.flatten ++ c)⟩, .view o (ver + 1) 0 (C.length + 1) 6 none, ?_, .inr ⟨by simp, o, ver + 1, hpo, by simp, ?_⟩, hpo, lt_of_get hob⟩
    · have : (C.length + 1) * 64 ≤ maxBytes := by unfold maxBytes; omega
      have h6 := flat6 hC
      unfold appendA
      simp [hl1, hf1, h1, cellsAt, hob, this, h6]
    · rw [List.getElem?_set_self (lt_of_get hob)]; simp

/-! ### What is told -/

def tellI (first from_ : Int) : Nat → List Nat
  | 0 => []
  | i + 1 => tellI first from_ i ++ (if first + (i : Int) ≥ from_ then [i] else [])

theorem tellI_len (f g : Int) : ∀ i, (tellI f g i).length ≤ i
  | 0 => Nat.le_refl _
  | i + 1 => by
    have := tellI_len f g i
    simp only [tellI, List.length_append]
    split <;> simp <;> omega

/-- The datagrams of these waiting ones. -/
inductive TD (s : Ses) (L : List V) : List Nat → List (List V) → Prop
  | nil : TD s L [] []
  | snoc {I : List Nat} {C : List (List V)} {j : Nat} {c b : V} {l : List Int} (h : TD s L I C) (hj : L[j]? = some c) (hc : By l c) (hb : By l b) : TD s L (I ++ [j]) (C ++ [dgS s (s.first + (j : Int)) b])

theorem TD.len {s : Ses} {L : List V} {I : List Nat} {C : List (List V)} (h : TD s L I C) : C.length = I.length := by
  induction h with
  | nil => rfl
  | snoc _ _ _ _ ih => simp [ih]

theorem dgS_six {s : Ses} {seq : Int} {l : List Int} {b : V} (hb : By l b) : (dgS s seq b).length = 6 ∧ (dgS s seq b).all V.oneCell = true := by
  refine ⟨rfl, ?_⟩
  simp [dgS, dgC, V.oneCell]
  have := hb.one
  unfold V.oneCell at this
  exact this

theorem TD.six {s : Ses} {L : List V} {I : List Nat} {C : List (List V)} (h : TD s L I C) : Cells6 C := by
  induction h with
  | nil => intro c hc; cases hc
  | snoc _ _ _ hb ih =>
    intro c hc
    rcases List.mem_append.1 hc with hc | hc
    · exact ih c hc
    · obtain rfl := List.mem_singleton.1 hc
      exact dgS_six hb

end Go.Am.T

set_option linter.unusedVariables false
set_option linter.unusedSimpArgs false
set_option maxRecDepth 10000
namespace Go.Am.T
attribute [local congr] selV_congr impB_congr

/-- One of them. -/
theorem WRow.cell {H : Heap} {W : V} {L : List V} {R : List Nat} (h : WRow H W L R) {i : Nat} {b : V} (hi : L[i]? = some b) :
    ∃ o ver off cs, iaddrSA 1 W (.int .i64 i) = some (.ret (.ptr o ver off)) ∧ H[o]? = some ⟨ver, .arr cs⟩ ∧ off + 1 ≤ cs.length ∧ List.take 1 (List.drop off cs) = [b] ∧ R = [o] := by
  have hlt := (List.getElem?_eq_some_iff.1 hi).1
  rcases h with ⟨rfl, rfl, rfl⟩ | ⟨o, ver, x, rfl, ho, ⟨rfl, rfl⟩ | ⟨hne, rfl⟩, hx⟩
  · simp at hi
  · simp at hi
  · refine ⟨o, ver, x.length + i * 1, x ++ L, ?_, ho, ?_, ?_, rfl⟩
    · simp [iaddrSA, indexedI, hlt]
    · simp; omega
    · rw [Nat.mul_one, List.drop_append, List.drop_eq_nil_of_le (by omega), List.nil_append, show x.length + i - x.length = i by omega]
      rw [List.drop_eq_getElem_cons hlt]
      have := (List.getElem?_eq_some_iff.1 hi).2
      simp [this]

/-- A session behind a telling. -/
def toldS (s : Ses) (n : Nat) : Ses := { s with told := s.first + n - 1, owes := false }

/-- The datagrams that are told: those of the waiting ones from a number on, or one of none, if an answer is owed. -/
structure Tells (s : Ses) (L : List V) (from_ : Int) (C : List (List V)) : Prop where
  six : Cells6 C
  len : C.length ≤ L.length + 1
  told : ∃ C', TD s L (tellI s.first from_ L.length) C' ∧ ((C = C' ∧ (C' = [] → s.owes = false)) ∨ (C' = [] ∧ s.owes = true ∧ ∃ b, By [] b ∧ C = [dgS s 0 b]))

set_option maxHeartbeats 2000000 in
theorem tell_spec {N n : Nat} (hN : 1500 ≤ N) (hn : 3 ≤ n) {a : Nat} {s : Ses} {W : V} {L : List V} {R : List Nat} {h : Heap} (ha : SAt h a s L W R) (from_ : Int) (f0 : 1 ≤ s.first) (f1 : s.first + L.length ≤ 2000) (hL : L.length ≤ 1000) :
    ∃ v' h', callA am N n 24 [.ptr a 1 0, .int .i64 from_] h = some (v', h') ∧ SAt h' a (toldS s L.length) L W R ∧ Beyond h h' a R R ∧ ∃ C, DRow h.length h' v' C ∧ Tells s L from_ C := by
  obtain ⟨n, rfl⟩ : ∃ m, n = m + 1 := ⟨n - 1, by omega⟩
  have hal := lt_of_get ha.ob
  obtain ⟨h0, e0⟩ : ∃ h0, h0 = h ++ [(⟨1, .var [.ptr a 1 0]⟩ : Ob), ⟨0, .dead⟩, ⟨0, .dead⟩] := ⟨_, rfl⟩
  have e0' := e0.symm
  have l0 : h0.length = h.length + 3 := by rw [e0]; simp
  have x0 : ∀ o, o < h.length → h0[o]? = h[o]? := fun o ho => by rw [e0, List.getElem?_append_left ho]
  have hp0 : h0[h.length]? = some ⟨1, .var [.ptr a 1 0]⟩ := by rw [e0, app_get0]; rfl
  have ha0 : SAt h0 a s L W R := by rw [e0]; exact ha.app _
  have q3 : ∀ (s : Ses) (W : V), (s.cs W).length = 9 := fun _ _ => rfl
  have t4 : ∀ (s : Ses) (W : V), List.take 1 (List.drop 4 (s.cs W)) = [W] := fun _ _ => rfl
  have t5 : ∀ (s : Ses) (W : V), List.take 1 (List.drop 5 (s.cs W)) = [.int .i64 s.first] := fun _ _ => rfl
  have t8 : ∀ (s : Ses) (W : V), List.take 1 (List.drop 8 (s.cs W)) = [.bool s.owes] := fun _ _ => rfl
  have oa0 := ha0.ob
  have hlW := ha.row.len
  obtain ⟨v1, v2, v3, v4, v5, v6⟩ := ha.row.shape
  have hlt0 : h.length < h0.length := by omega
  refine call_keep at24 rfl rfl (by decide) (sx_wp ?_)
  simp +contextual -implicitDefEqProofs (maxSteps := 10000000) only [sx_seq, sxL_succ, lpQ_norm, lpQ_exit, lpQ_ret, loopQ_norm, loopQ_exit, loopQ_ret, sqQ_norm, sqQ_ret, sqQ_exit, sx_block, blkQ_norm, blkQ_exit, blkQ_ret, sx_cond, cdP_true, cdP_false, cdP_bool, sx_region, sx_draw, plainD, List.all_cons, List.all_nil, List.isEmpty_nil, List.isEmpty_cons, sxo_nil, sxo_cons, sxo_guard, gdS_bool, gdS_eff, gdS_tup, gdS_sel, gdS_seleff, sxK_def, wcall_some, effP_ret, effP_set, effP_none, effP_ite, wop_call, wop_cv, cvP_func, sx_ret, sx_exit, sx_skip, sx_clr, sx_fresh, stays, ↓selV_wt, ↓selV_wf, ↓impB_wt, ↓impB_wf, ↓selV_nor, ↓impB_nor, ↓selV_nt, ↓selV_nf, ↓impB_nt, ↓impB_nf, wantB_true, wantB_false, ↓selV_true, ↓selV_false, ↓selV_and, ↓impB_true, ↓impB_false, ↓impB_and, impB_triv, valOf_some, retH_some, ↓prim_pick, pickO_true, pickO_false, pickO_and, pickO_or, pickO_andr, pickO_orr, pickO_orrn, pickO_orn, pickO_bb, pickAnd_bool, pickOr_bool, ↓selV_nn, ↓impB_nn, Bool.and_assoc, Bool.or_assoc, doOp, ev_fr, ev_cst, put_none, put_fr, get, ins, del, dels, Nat.reduceLT, Nat.reduceEqDiff, ↓reduceIte, reduceCtorEq, ne_eq, not_false_eq_true, implies_true, framed_pureF, framed_fb, framed_N, framed_pure, wop_prim, prim, YLD, mkA, V.cells, List.getElem?_cons_zero, List.getElem?_cons_succ, List.set_cons_zero, List.set_cons_succ, Nat.zero_add, Nat.add_zero, Nat.reduceAdd, Nat.reduceSub, Nat.reduceMul, Nat.reduceLeDiff, Nat.not_lt_zero, List.map_cons, List.map_nil, List.cons_append, List.nil_append, loadA, cellsAt, nAg, packA, opt_bind_some, opt_map_some, opt_bind_none, opt_map_none, List.drop, List.take, List.head?, List.length_cons, List.length_nil, binA, unA, eqCells, eqCell, negB, fillA, sr_nil, sr_cons, sr_succ, sr_all, sr_len, storeA, Ob.with, indexedI, V.oneCell, intOf?, retQ_ret, retQ_norm, resA, resA1, fr_getD, packR, sealDepth, shut_bool, shut_int, Option.some.injEq, V.bool.injEq, V.int.injEq, Bool.not_true, Bool.not_false, true_and, and_true, and_self, Bool.and_true, Bool.and_false, Bool.true_and, Bool.false_and, Bool.or_true, Bool.or_false, Bool.true_or, Bool.false_or, Bool.false_eq_true, Int.reduceLT, Int.reduceLE, Int.reduceToNat, Int.reduceNeg, shut_plain, freeL_cons, freeL_nil, free_int, free_bool, free_agg, free_str, free_nils, free_tup, free_sl, true_implies, false_implies, Nat.sub_zero, Int.natCast_nonneg, Int.toNat_natCast, Nat.le_refl, not_true_eq_false, Int.reduceAdd, Int.reduceSub, Int.reduceMul, wrap64, false_and, and_false, cond_true, cond_false, Bool.cond_true_left, Bool.cond_false_right, Int.reduceBNe, Int.reduceBEq, decide_true, decide_false, Int.cast_ofNat_Int, Nat.mul_one, eq_self, Bool.true_eq_false, Bool.not_eq_true, Bool.not_eq_false, deads, List.replicate, argsF, am24, app_get0, app_get, app_set0, app_set, e0', hp0, oa0, q3, t4, v1, v2, hlW, isNil, -List.drop, -List.take]
  have hbx : ∀ H : Heap, H[h.length]? = some ⟨1, .var [.ptr a 1 0]⟩ → h.length < H.length := fun H hH => lt_of_get hH
  refine sx_loop (fun i t H => ∃ sl C, t = fr 70 [(1, .int .i64 from_), (2, .ptr h.length 1 0), (5, .func 27 [] [.ptr h.length 1 0]), (6, sl), (14, W), (15, .int .i64 L.length), (16, .int .i64 i)] ∧ i ≤ L.length ∧ SAt H a s L W R ∧ H[h.length]? = some ⟨1, .var [.ptr a 1 0]⟩ ∧ DRow (h.length + 1) H sl C ∧ TD s L (tellI s.first from_ i) C ∧ h.length + 3 ≤ H.length ∧ ∀ o, o < h.length → H[o]? = h[o]?) L.length (by show L.length < N; omega)
    ⟨.nils, [], rfl, Nat.zero_le _, ha0, hp0, .inl ⟨rfl, rfl⟩, .nil, by omega, x0⟩ ?_
  rintro i t H hi ⟨sl, C, rfl, hiL, haH, hpH, hD, hTD, hHl, hoth⟩
  have oaH := haH.ob
  have hCl := hTD.len
  have hCl2 := tellI_len s.first from_ i
  by_cases hlt : i < L.length
  · have g1 : decide ((i : Int) < (L.length : Int)) = true := decide_eq_true (by omega)
    obtain ⟨b, hbi⟩ : ∃ b, L[i]? = some b := ⟨_, List.getElem?_eq_getElem hlt⟩
    obtain ⟨l, hb, hl⟩ := ha.bods b (List.mem_of_getElem? hbi)
    obtain ⟨o, ver, off, cs, hia, hoc, hle, hld, hRo⟩ := haH.row.cell hbi
    have wf : IntKind.i64.wrap (s.first + (i : Int)) = s.first + (i : Int) := wrap64 (by omega) (by omega)
    have w4 : IntKind.i64.wrap ((i : Int) + 1) = ((i + 1 : Nat) : Int) := (wrap64 (by omega) (by omega)).trans (by omega)
    have hi1 : i + 1 ≤ L.length := by omega
    have bc := hb.cells
    have b1 := hb.njunk
    have b2 := hb.nagg
    by_cases hge : s.first + (i : Int) ≥ from_
    · have g2 : decide (s.first + (i : Int) ≥ from_) = true := decide_eq_true hge
      have hI : tellI s.first from_ (i + 1) = tellI s.first from_ i ++ [i] := by simp only [tellI]; rw [if_pos hge]
      obtain ⟨b', y, hb', c27⟩ := @make_spec N n (by omega) _ _ _ _ _ _ _ haH hpH (s.first + (i : Int)) _ _ hb hl
      obtain ⟨K, hK⟩ : ∃ K : Heap, K = H ++ [y] := ⟨_, rfl⟩
      have hK' := hK.symm
      have kx : ∀ o, o < H.length → K[o]? = H[o]? := fun o ho => by rw [hK, List.getElem?_append_left ho]
      have kl : K.length = H.length + 1 := by rw [hK]; simp
      have hx : K[h.length + 1]? = some (H[h.length + 1]'(by omega)) := by
        rw [kx _ (by omega)]
        exact List.getElem?_eq_getElem _
      obtain ⟨o1, z, sl', hA, hD', hpo, hol⟩ := (hD.keep (H' := K) (fun o _ ho => kx o ho)).append (c := dgS s (s.first + (i : Int)) b') hTD.six (dgS_six hb').1 (dgS_six hb').2 hx (Nat.le_refl _) (by omega)
      have r1 : List.range 1 = [0] := rfl
      have d6 : (dgS s (s.first + (i : Int)) b').length = 6 := rfl
      have dr : setRange [V.int .i64 0, .int .i64 0, .int .i64 0, .int .i64 0, .int .i64 0, .nils] 0 (dgS s (s.first + (i : Int)) b') = dgS s (s.first + (i : Int)) b' := sr_all rfl
      have wr : wrapV (dgS s (s.first + (i : Int)) b') = .agg (dgS s (s.first + (i : Int)) b') := rfl
      have dt : List.take 6 (dgS s (s.first + (i : Int)) b') = dgS s (s.first + (i : Int)) b' := rfl
      have done := (dgS_six (s := s) (seq := s.first + (i : Int)) hb').2
      simp +contextual -implicitDefEqProofs (maxSteps := 10000000) only [sx_seq, sxL_succ, lpQ_norm, lpQ_exit, lpQ_ret, loopQ_norm, loopQ_exit, loopQ_ret, sqQ_norm, sqQ_ret, sqQ_exit, sx_block, blkQ_norm, blkQ_exit, blkQ_ret, sx_cond, cdP_true, cdP_false, cdP_bool, sx_region, sx_draw, plainD, List.all_cons, List.all_nil, List.isEmpty_nil, List.isEmpty_cons, sxo_nil, sxo_cons, sxo_guard, gdS_bool, gdS_eff, gdS_tup, gdS_sel, gdS_seleff, sxK_def, wcall_some, effP_ret, effP_set, effP_none, effP_ite, wop_call, wop_cv, cvP_func, sx_ret, sx_exit, sx_skip, sx_clr, sx_fresh, stays, ↓selV_wt, ↓selV_wf, ↓impB_wt, ↓impB_wf, ↓selV_nor, ↓impB_nor, ↓selV_nt, ↓selV_nf, ↓impB_nt, ↓impB_nf, wantB_true, wantB_false, ↓selV_true, ↓selV_false, ↓selV_and, ↓impB_true, ↓impB_false, ↓impB_and, impB_triv, valOf_some, retH_some, ↓prim_pick, pickO_true, pickO_false, pickO_and, pickO_or, pickO_andr, pickO_orr, pickO_orrn, pickO_orn, pickO_bb, pickAnd_bool, pickOr_bool, ↓selV_nn, ↓impB_nn, Bool.and_assoc, Bool.or_assoc, doOp, ev_fr, ev_cst, put_none, put_fr, get, ins, del, dels, Nat.reduceLT, Nat.reduceEqDiff, ↓reduceIte, reduceCtorEq, ne_eq, not_false_eq_true, implies_true, framed_pureF, framed_fb, framed_N, framed_pure, wop_prim, prim, YLD, mkA, V.cells, List.getElem?_cons_zero, List.getElem?_cons_succ, List.set_cons_zero, List.set_cons_succ, Nat.zero_add, Nat.add_zero, Nat.reduceAdd, Nat.reduceSub, Nat.reduceMul, Nat.reduceLeDiff, Nat.not_lt_zero, List.map_cons, List.map_nil, List.cons_append, List.nil_append, loadA, cellsAt, nAg, packA, opt_bind_some, opt_map_some, opt_bind_none, opt_map_none, List.drop, List.take, List.head?, List.length_cons, List.length_nil, binA, unA, eqCells, eqCell, negB, fillA, sr_nil, sr_cons, sr_succ, sr_all, sr_len, storeA, Ob.with, indexedI, V.oneCell, intOf?, retQ_ret, retQ_norm, resA, resA1, fr_getD, packR, sealDepth, shut_bool, shut_int, Option.some.injEq, V.bool.injEq, V.int.injEq, Bool.not_true, Bool.not_false, true_and, and_true, and_self, Bool.and_true, Bool.and_false, Bool.true_and, Bool.false_and, Bool.or_true, Bool.or_false, Bool.true_or, Bool.false_or, Bool.false_eq_true, Int.reduceLT, Int.reduceLE, Int.reduceToNat, Int.reduceNeg, shut_plain, freeL_cons, freeL_nil, free_int, free_bool, free_agg, free_str, free_nils, free_tup, free_sl, true_implies, false_implies, Nat.sub_zero, Int.natCast_nonneg, Int.toNat_natCast, Nat.le_refl, not_true_eq_false, Int.reduceAdd, Int.reduceSub, Int.reduceMul, wrap64, false_and, and_false, cond_true, cond_false, Bool.cond_true_left, Bool.cond_false_right, Int.reduceBNe, Int.reduceBEq, decide_true, decide_false, Int.cast_ofNat_Int, Nat.mul_one, eq_self, Bool.true_eq_false, Bool.not_eq_true, Bool.not_eq_false, deads, List.replicate, argsF, g1, hia, hoc, hle, hld, hpH, oaH, q3, t5, wf, g2, c27, hK', isNil, bc, hA, r1, d6, dr, wr, dt, done, w4, hi1, hlt, -List.drop, -List.take]
      rw [hI]
      refine ⟨sl', _, rfl, ⟨?_, ?_, haH.bods, haH.apart⟩, ?_, hD', .snoc hTD hbi hb hb', by simp; omega, fun o ho => ?_⟩
      · rw [List.getElem?_set_ne (by omega), kx _ (by omega)]; exact oaH
      · refine haH.row.keep (fun q hq => ?_)
        have hqr : q < h.length := ha.row.lt q hq
        rw [List.getElem?_set_ne (by omega), kx _ (by omega)]
      · rw [List.getElem?_set_ne (by omega), kx _ (by omega)]; exact hpH
      · rw [List.getElem?_set_ne (by omega), kx _ (by omega)]; exact hoth o ho
    · have g2 : decide (s.first + (i : Int) ≥ from_) = false := decide_eq_false hge
      have hI : tellI s.first from_ (i + 1) = tellI s.first from_ i := by simp only [tellI]; rw [if_neg hge, List.append_nil]
      simp +contextual -implicitDefEqProofs (maxSteps := 10000000) only [sx_seq, sxL_succ, lpQ_norm, lpQ_exit, lpQ_ret, loopQ_norm, loopQ_exit, loopQ_ret, sqQ_norm, sqQ_ret, sqQ_exit, sx_block, blkQ_norm, blkQ_exit, blkQ_ret, sx_cond, cdP_true, cdP_false, cdP_bool, sx_region, sx_draw, plainD, List.all_cons, List.all_nil, List.isEmpty_nil, List.isEmpty_cons, sxo_nil, sxo_cons, sxo_guard, gdS_bool, gdS_eff, gdS_tup, gdS_sel, gdS_seleff, sxK_def, wcall_some, effP_ret, effP_set, effP_none, effP_ite, wop_call, wop_cv, cvP_func, sx_ret, sx_exit, sx_skip, sx_clr, sx_fresh, stays, ↓selV_wt, ↓selV_wf, ↓impB_wt, ↓impB_wf, ↓selV_nor, ↓impB_nor, ↓selV_nt, ↓selV_nf, ↓impB_nt, ↓impB_nf, wantB_true, wantB_false, ↓selV_true, ↓selV_false, ↓selV_and, ↓impB_true, ↓impB_false, ↓impB_and, impB_triv, valOf_some, retH_some, ↓prim_pick, pickO_true, pickO_false, pickO_and, pickO_or, pickO_andr, pickO_orr, pickO_orrn, pickO_orn, pickO_bb, pickAnd_bool, pickOr_bool, ↓selV_nn, ↓impB_nn, Bool.and_assoc, Bool.or_assoc, doOp, ev_fr, ev_cst, put_none, put_fr, get, ins, del, dels, Nat.reduceLT, Nat.reduceEqDiff, ↓reduceIte, reduceCtorEq, ne_eq, not_false_eq_true, implies_true, framed_pureF, framed_fb, framed_N, framed_pure, wop_prim, prim, YLD, mkA, V.cells, List.getElem?_cons_zero, List.getElem?_cons_succ, List.set_cons_zero, List.set_cons_succ, Nat.zero_add, Nat.add_zero, Nat.reduceAdd, Nat.reduceSub, Nat.reduceMul, Nat.reduceLeDiff, Nat.not_lt_zero, List.map_cons, List.map_nil, List.cons_append, List.nil_append, loadA, cellsAt, nAg, packA, opt_bind_some, opt_map_some, opt_bind_none, opt_map_none, List.drop, List.take, List.head?, List.length_cons, List.length_nil, binA, unA, eqCells, eqCell, negB, fillA, sr_nil, sr_cons, sr_succ, sr_all, sr_len, storeA, Ob.with, indexedI, V.oneCell, intOf?, retQ_ret, retQ_norm, resA, resA1, fr_getD, packR, sealDepth, shut_bool, shut_int, Option.some.injEq, V.bool.injEq, V.int.injEq, Bool.not_true, Bool.not_false, true_and, and_true, and_self, Bool.and_true, Bool.and_false, Bool.true_and, Bool.false_and, Bool.or_true, Bool.or_false, Bool.true_or, Bool.false_or, Bool.false_eq_true, Int.reduceLT, Int.reduceLE, Int.reduceToNat, Int.reduceNeg, shut_plain, freeL_cons, freeL_nil, free_int, free_bool, free_agg, free_str, free_nils, free_tup, free_sl, true_implies, false_implies, Nat.sub_zero, Int.natCast_nonneg, Int.toNat_natCast, Nat.le_refl, not_true_eq_false, Int.reduceAdd, Int.reduceSub, Int.reduceMul, wrap64, false_and, and_false, cond_true, cond_false, Bool.cond_true_left, Bool.cond_false_right, Int.reduceBNe, Int.reduceBEq, decide_true, decide_false, Int.cast_ofNat_Int, Nat.mul_one, eq_self, Bool.true_eq_false, Bool.not_eq_true, Bool.not_eq_false, deads, List.replicate, argsF, g1, hia, hoc, hle, hld, hpH, oaH, q3, t5, wf, g2, isNil, bc, w4, hi1, hlt, hI, -List.drop, -List.take]
      exact ⟨sl, C, rfl, haH, hD, hTD, hHl, hoth⟩
  · have e : i = L.length := by omega
    subst e
    have g1 : decide ((L.length : Int) < (L.length : Int)) = false := decide_eq_false (by omega)
    obtain ⟨dl, dn, dc⟩ := hD.len
    have wt : IntKind.i64.wrap (IntKind.i64.wrap (s.first + (L.length : Int)) - 1) = s.first + (L.length : Int) - 1 := by
      rw [wrap64 (n := s.first + (L.length : Int)) (by omega) (by omega), wrap64 (by omega) (by omega)]
    have c6 : ∀ (s : Ses) (W : V) (x : Int), setRange (s.cs W) 6 [.int .i64 x] = ({ s with told := x } : Ses).cs W := fun _ _ _ => rfl
    have c8 : ∀ (s : Ses) (W : V) (x : Bool), setRange (s.cs W) 8 [.bool x] = ({ s with owes := x } : Ses).cs W := fun _ _ _ => rfl
    have fin : ∀ K : Heap, K[a]? = some ⟨1, .var (s.cs W)⟩ → K[h.length]? = some ⟨1, .var [.ptr a 1 0]⟩ → (∀ x, (K.set a x)[a]? = some x) ∧ (∀ x, (K.set a x)[h.length]? = some ⟨1, .var [.ptr a 1 0]⟩) ∧ (∀ x y, (K.set a x).set a y = K.set a y) ∧ a < K.length ∧ h.length < K.length := fun K h1 h2 =>
      ⟨fun x => List.getElem?_set_self (lt_of_get h1), fun x => by rw [List.getElem?_set_ne (by omega)]; exact h2, fun x y => by simp, lt_of_get h1, lt_of_get h2⟩
    have fe1 : (a == h.length) = false := by simp; omega
    have fe2 : (h.length == a) = false := by simp; omega
    have satK : ∀ K : Heap, (∀ o, o < h.length → K[o]? = h[o]?) → a < K.length → SAt (K.set a ⟨1, .var ((toldS s L.length).cs W)⟩) a (toldS s L.length) L W R := fun K hK hk =>
      ⟨List.getElem?_set_self hk, ha.row.keep (fun o ho => by rw [List.getElem?_set_ne (by rintro rfl; exact ha.apart ho)]; exact hK o (ha.row.lt o ho)), ha.bods, ha.apart⟩
    have beyK : ∀ K : Heap, (∀ o, o < h.length → K[o]? = h[o]?) → h.length ≤ K.length → ∀ x, Beyond h (K.set a x) a R R := fun K hK hk x =>
      ⟨by simpa using hk, fun o ho hoa _ => by rw [List.getElem?_set_ne (Ne.symm hoa)]; exact hK o ho, fun o ho => .inl ho⟩
    have drK : ∀ (K : Heap) (v : V) (C : List (List V)), DRow (h.length + 1) K v C → ∀ x, DRow h.length (K.set a x) v C := fun K v C hd x => by
      rcases hd with hd | ⟨hL, o, ver, hp, rfl, ho⟩
      · exact .inl hd
      · exact .inr ⟨hL, o, ver, by omega, rfl, by rw [List.getElem?_set_ne (by omega)]; exact ho⟩
    cases hz : ((C.length : Int) == 0 && s.owes) with
    | false =>
      obtain ⟨z1, z2, z3, z4, z5⟩ := fin H oaH hpH
      simp +contextual -implicitDefEqProofs (maxSteps := 10000000) only [sx_seq, sxL_succ, lpQ_norm, lpQ_exit, lpQ_ret, loopQ_norm, loopQ_exit, loopQ_ret, sqQ_norm, sqQ_ret, sqQ_exit, sx_block, blkQ_norm, blkQ_exit, blkQ_ret, sx_cond, cdP_true, cdP_false, cdP_bool, sx_region, sx_draw, plainD, List.all_cons, List.all_nil, List.isEmpty_nil, List.isEmpty_cons, sxo_nil, sxo_cons, sxo_guard, gdS_bool, gdS_eff, gdS_tup, gdS_sel, gdS_seleff, sxK_def, wcall_some, effP_ret, effP_set, effP_none, effP_ite, wop_call, wop_cv, cvP_func, sx_ret, sx_exit, sx_skip, sx_clr, sx_fresh, stays, ↓selV_wt, ↓selV_wf, ↓impB_wt, ↓impB_wf, ↓selV_nor, ↓impB_nor, ↓selV_nt, ↓selV_nf, ↓impB_nt, ↓impB_nf, wantB_true, wantB_false, ↓selV_true, ↓selV_false, ↓selV_and, ↓impB_true, ↓impB_false, ↓impB_and, impB_triv, valOf_some, retH_some, ↓prim_pick, pickO_true, pickO_false, pickO_and, pickO_or, pickO_andr, pickO_orr, pickO_orrn, pickO_orn, pickO_bb, pickAnd_bool, pickOr_bool, ↓selV_nn, ↓impB_nn, Bool.and_assoc, Bool.or_assoc, doOp, ev_fr, ev_cst, put_none, put_fr, get, ins, del, dels, Nat.reduceLT, Nat.reduceEqDiff, ↓reduceIte, reduceCtorEq, ne_eq, not_false_eq_true, implies_true, framed_pureF, framed_fb, framed_N, framed_pure, wop_prim, prim, YLD, mkA, V.cells, List.getElem?_cons_zero, List.getElem?_cons_succ, List.set_cons_zero, List.set_cons_succ, Nat.zero_add, Nat.add_zero, Nat.reduceAdd, Nat.reduceSub, Nat.reduceMul, Nat.reduceLeDiff, Nat.not_lt_zero, List.map_cons, List.map_nil, List.cons_append, List.nil_append, loadA, cellsAt, nAg, packA, opt_bind_some, opt_map_some, opt_bind_none, opt_map_none, List.drop, List.take, List.head?, List.length_cons, List.length_nil, binA, unA, eqCells, eqCell, negB, fillA, sr_nil, sr_cons, sr_succ, sr_all, sr_len, storeA, Ob.with, indexedI, V.oneCell, intOf?, retQ_ret, retQ_norm, resA, resA1, fr_getD, packR, sealDepth, shut_bool, shut_int, Option.some.injEq, V.bool.injEq, V.int.injEq, Bool.not_true, Bool.not_false, true_and, and_true, and_self, Bool.and_true, Bool.and_false, Bool.true_and, Bool.false_and, Bool.or_true, Bool.or_false, Bool.true_or, Bool.false_or, Bool.false_eq_true, Int.reduceLT, Int.reduceLE, Int.reduceToNat, Int.reduceNeg, shut_plain, freeL_cons, freeL_nil, free_int, free_bool, free_agg, free_str, free_nils, free_tup, free_sl, true_implies, false_implies, Nat.sub_zero, Int.natCast_nonneg, Int.toNat_natCast, Nat.le_refl, not_true_eq_false, Int.reduceAdd, Int.reduceSub, Int.reduceMul, wrap64, false_and, and_false, cond_true, cond_false, Bool.cond_true_left, Bool.cond_false_right, Int.reduceBNe, Int.reduceBEq, decide_true, decide_false, Int.cast_ofNat_Int, Nat.mul_one, eq_self, Bool.true_eq_false, Bool.not_eq_true, Bool.not_eq_false, deads, List.replicate, argsF, sx_drawd, reachC_nil, wpd_nil, wpd_cons, wdK_def, fpOf, fpV, fpCall, Fp.ok, disj, List.contains_cons, List.contains_nil, Nat.reduceBEq, List.all_append, V.objsL, V.objs,  List.getD_cons_zero, List.getD_cons_succ, List.append_nil, g1, dl, hpH, oaH, q3, t4, t5, t8, isNil, hz, hlW, wt, c6, c8, z1, z2, z3, z4, z5, fe1, fe2, -List.drop, -List.take]
      refine ⟨satK H hoth z4, beyK H hoth (by omega) _, C, drK H sl C hD _, hTD.six, by omega, C, hTD, .inl ⟨rfl, fun e => ?_⟩⟩
      subst e
      simpa using hz
    | true =>
      simp only [Bool.and_eq_true, beq_iff_eq] at hz
      obtain ⟨hz1, hz2⟩ := hz
      have hC0 : C = [] := List.length_eq_zero_iff.1 (by omega)
      subst hC0
      have hz : (((([] : List (List V)).length : Nat) : Int) == 0 && s.owes) = true := by rw [hz2]; rfl
      obtain ⟨b', y, hb', c27⟩ := @make_spec N n (by omega) _ _ _ _ _ _ _ haH hpH 0 _ _ (.inl ⟨rfl, rfl⟩ : By [] .nils) (by decide)
      obtain ⟨K0, hK0⟩ : ∃ K : Heap, K = H ++ [y] := ⟨_, rfl⟩
      have hK0' := hK0.symm
      have kx : ∀ o, o < H.length → K0[o]? = H[o]? := fun o ho => by rw [hK0, List.getElem?_append_left ho]
      have kl0 : K0.length = H.length + 1 := by rw [hK0]; simp
      have hx : K0[h.length + 2]? = some (H[h.length + 2]'(by omega)) := by
        rw [kx _ (by omega)]
        exact List.getElem?_eq_getElem _
      obtain ⟨o1, z, sl', hA, hD', hpo, hol⟩ := (hD.keep (H' := K0) (fun o _ ho => kx o ho)).append (c := dgS s 0 b') hTD.six (dgS_six hb').1 (dgS_six hb').2 hx (show h.length + 1 ≤ h.length + 2 by omega) (by simp)
      have r1 : List.range 1 = [0] := rfl
      have d6 : (dgS s 0 b').length = 6 := rfl
      have dr : setRange [V.int .i64 0, .int .i64 0, .int .i64 0, .int .i64 0, .int .i64 0, .nils] 0 (dgS s 0 b') = dgS s 0 b' := sr_all rfl
      have wr : wrapV (dgS s 0 b') = .agg (dgS s 0 b') := rfl
      have dt : List.take 6 (dgS s 0 b') = dgS s 0 b' := rfl
      have done := (dgS_six (s := s) (seq := 0) hb').2
      obtain ⟨K, hK⟩ : ∃ K, K = K0.set o1 z := ⟨_, rfl⟩
      have hK' := hK.symm
      have kl : K.length = H.length + 1 := by rw [hK]; simp; omega
      have ka : K[a]? = some ⟨1, .var (s.cs W)⟩ := by rw [hK, List.getElem?_set_ne (by omega), kx _ (by omega)]; exact oaH
      have kp : K[h.length]? = some ⟨1, .var [.ptr a 1 0]⟩ := by rw [hK, List.getElem?_set_ne (by omega), kx _ (by omega)]; exact hpH
      have ko : ∀ o, o < h.length → K[o]? = h[o]? := fun o ho => by rw [hK, List.getElem?_set_ne (by omega), kx _ (by omega)]; exact hoth o ho
      rw [hK'] at hD'
      obtain ⟨z1, z2, z3, z4, z5⟩ := fin K ka kp
      simp +contextual -implicitDefEqProofs (maxSteps := 10000000) only [sx_seq, sxL_succ, lpQ_norm, lpQ_exit, lpQ_ret, loopQ_norm, loopQ_exit, loopQ_ret, sqQ_norm, sqQ_ret, sqQ_exit, sx_block, blkQ_norm, blkQ_exit, blkQ_ret, sx_cond, cdP_true, cdP_false, cdP_bool, sx_region, sx_draw, plainD, List.all_cons, List.all_nil, List.isEmpty_nil, List.isEmpty_cons, sxo_nil, sxo_cons, sxo_guard, gdS_bool, gdS_eff, gdS_tup, gdS_sel, gdS_seleff, sxK_def, wcall_some, effP_ret, effP_set, effP_none, effP_ite, wop_call, wop_cv, cvP_func, sx_ret, sx_exit, sx_skip, sx_clr, sx_fresh, stays, ↓selV_wt, ↓selV_wf, ↓impB_wt, ↓impB_wf, ↓selV_nor, ↓impB_nor, ↓selV_nt, ↓selV_nf, ↓impB_nt, ↓impB_nf, wantB_true, wantB_false, ↓selV_true, ↓selV_false, ↓selV_and, ↓impB_true, ↓impB_false, ↓impB_and, impB_triv, valOf_some, retH_some, ↓prim_pick, pickO_true, pickO_false, pickO_and, pickO_or, pickO_andr, pickO_orr, pickO_orrn, pickO_orn, pickO_bb, pickAnd_bool, pickOr_bool, ↓selV_nn, ↓impB_nn, Bool.and_assoc, Bool.or_assoc, doOp, ev_fr, ev_cst, put_none, put_fr, get, ins, del, dels, Nat.reduceLT, Nat.reduceEqDiff, ↓reduceIte, reduceCtorEq, ne_eq, not_false_eq_true, implies_true, framed_pureF, framed_fb, framed_N, framed_pure, wop_prim, prim, YLD, mkA, V.cells, List.getElem?_cons_zero, List.getElem?_cons_succ, List.set_cons_zero, List.set_cons_succ, Nat.zero_add, Nat.add_zero, Nat.reduceAdd, Nat.reduceSub, Nat.reduceMul, Nat.reduceLeDiff, Nat.not_lt_zero, List.map_cons, List.map_nil, List.cons_append, List.nil_append, loadA, cellsAt, nAg, packA, opt_bind_some, opt_map_some, opt_bind_none, opt_map_none, List.drop, List.take, List.head?, List.length_cons, List.length_nil, binA, unA, eqCells, eqCell, negB, fillA, sr_nil, sr_cons, sr_succ, sr_all, sr_len, storeA, Ob.with, indexedI, V.oneCell, intOf?, retQ_ret, retQ_norm, resA, resA1, fr_getD, packR, sealDepth, shut_bool, shut_int, Option.some.injEq, V.bool.injEq, V.int.injEq, Bool.not_true, Bool.not_false, true_and, and_true, and_self, Bool.and_true, Bool.and_false, Bool.true_and, Bool.false_and, Bool.or_true, Bool.or_false, Bool.true_or, Bool.false_or, Bool.false_eq_true, Int.reduceLT, Int.reduceLE, Int.reduceToNat, Int.reduceNeg, shut_plain, freeL_cons, freeL_nil, free_int, free_bool, free_agg, free_str, free_nils, free_tup, free_sl, true_implies, false_implies, Nat.sub_zero, Int.natCast_nonneg, Int.toNat_natCast, Nat.le_refl, not_true_eq_false, Int.reduceAdd, Int.reduceSub, Int.reduceMul, wrap64, false_and, and_false, cond_true, cond_false, Bool.cond_true_left, Bool.cond_false_right, Int.reduceBNe, Int.reduceBEq, decide_true, decide_false, Int.cast_ofNat_Int, Nat.mul_one, eq_self, Bool.true_eq_false, Bool.not_eq_true, Bool.not_eq_false, deads, List.replicate, argsF, sx_drawd, reachC_nil, wpd_nil, wpd_cons, wdK_def, fpOf, fpV, fpCall, Fp.ok, disj, List.contains_cons, List.contains_nil, Nat.reduceBEq, List.all_append, V.objsL, V.objs,  List.getD_cons_zero, List.getD_cons_succ, List.append_nil, g1, dl, hpH, oaH, q3, t4, t5, t8, isNil, hz, hz2, hlW, wt, c6, c8, c27, hK0', hA, hK', ka, kp, r1, d6, dr, wr, dt, done, z1, z2, z3, z4, z5, fe1, fe2, -List.drop, -List.take]
      exact ⟨satK K ko z4, beyK K ko (by omega) _, _, drK K sl' _ hD' _, fun c hc => by
        obtain rfl := List.mem_singleton.1 hc
        exact dgS_six hb', by simp, [], hTD, .inr ⟨rfl, hz2, b', hb', rfl⟩⟩

end Go.Am.T

set_option linter.unusedVariables false
set_option linter.unusedSimpArgs false
set_option maxRecDepth 10000
namespace Go.Am.T
attribute [local congr] selV_congr impB_congr

theorem fresh_spec {N n : Nat} (hN : 1500 ≤ N) (hn : 4 ≤ n) {a : Nat} {s : Ses} {W : V} {L : List V} {R : List Nat} {h : Heap} (ha : SAt h a s L W R) (f0 : 1 ≤ s.first) (f1 : s.first + L.length ≤ 2000) (hL : L.length ≤ 1000) (t0 : 0 ≤ s.told) (t1 : s.told ≤ 2000) :
    ∃ v' h', callA am N n 11 [.ptr a 1 0] h = some (v', h') ∧ SAt h' a (toldS s L.length) L W R ∧ Beyond h h' a R R ∧ ∃ C, DRow h.length h' v' C ∧ Tells s L (s.told + 1) C := by
  obtain ⟨n, rfl⟩ : ∃ m, n = m + 1 := ⟨n - 1, by omega⟩
  have c22 := @is_spec N n (by omega) _ _ _ _ _ _ ha
  obtain ⟨v', h', c24, q⟩ := @tell_spec N n hN (by omega) _ _ _ _ _ _ ha (s.told + 1) f0 f1 hL
  have wt : IntKind.i64.wrap (s.told + 1) = s.told + 1 := wrap64 (by omega) (by omega)
  have oa := ha.ob
  have q3 : (s.cs W).length = 9 := rfl
  have t6 : List.take 1 (List.drop 6 (s.cs W)) = [.int .i64 s.told] := rfl
  refine call_keep at11 rfl rfl (by decide) (sx_wp ?_)
  simp +contextual -implicitDefEqProofs (maxSteps := 10000000) only [sx_seq, sxL_succ, lpQ_norm, lpQ_exit, lpQ_ret, loopQ_norm, loopQ_exit, loopQ_ret, sqQ_norm, sqQ_ret, sqQ_exit, sx_block, blkQ_norm, blkQ_exit, blkQ_ret, sx_cond, cdP_true, cdP_false, cdP_bool, sx_region, sx_draw, plainD, List.all_cons, List.all_nil, List.isEmpty_nil, List.isEmpty_cons, sxo_nil, sxo_cons, sxo_guard, gdS_bool, gdS_eff, gdS_tup, gdS_sel, gdS_seleff, sxK_def, wcall_some, effP_ret, effP_set, effP_none, effP_ite, wop_call, wop_cv, cvP_func, sx_ret, sx_exit, sx_skip, sx_clr, sx_fresh, stays, ↓selV_wt, ↓selV_wf, ↓impB_wt, ↓impB_wf, ↓selV_nor, ↓impB_nor, ↓selV_nt, ↓selV_nf, ↓impB_nt, ↓impB_nf, wantB_true, wantB_false, ↓selV_true, ↓selV_false, ↓selV_and, ↓impB_true, ↓impB_false, ↓impB_and, impB_triv, valOf_some, retH_some, ↓prim_pick, pickO_true, pickO_false, pickO_and, pickO_or, pickO_andr, pickO_orr, pickO_orrn, pickO_orn, pickO_bb, pickAnd_bool, pickOr_bool, ↓selV_nn, ↓impB_nn, Bool.and_assoc, Bool.or_assoc, doOp, ev_fr, ev_cst, put_none, put_fr, get, ins, del, dels, Nat.reduceLT, Nat.reduceEqDiff, ↓reduceIte, reduceCtorEq, ne_eq, not_false_eq_true, implies_true, framed_pureF, framed_fb, framed_N, framed_pure, wop_prim, prim, YLD, mkA, V.cells, List.getElem?_cons_zero, List.getElem?_cons_succ, List.set_cons_zero, List.set_cons_succ, Nat.zero_add, Nat.add_zero, Nat.reduceAdd, Nat.reduceSub, Nat.reduceMul, Nat.reduceLeDiff, Nat.not_lt_zero, List.map_cons, List.map_nil, List.cons_append, List.nil_append, loadA, cellsAt, nAg, packA, opt_bind_some, opt_map_some, opt_bind_none, opt_map_none, List.drop, List.take, List.head?, List.length_cons, List.length_nil, binA, unA, eqCells, eqCell, negB, fillA, sr_nil, sr_cons, sr_succ, sr_all, sr_len, storeA, Ob.with, indexedI, V.oneCell, intOf?, retQ_ret, retQ_norm, resA, resA1, fr_getD, packR, sealDepth, shut_bool, shut_int, Option.some.injEq, V.bool.injEq, V.int.injEq, Bool.not_true, Bool.not_false, true_and, and_true, and_self, Bool.and_true, Bool.and_false, Bool.true_and, Bool.false_and, Bool.or_true, Bool.or_false, Bool.true_or, Bool.false_or, Bool.false_eq_true, Int.reduceLT, Int.reduceLE, Int.reduceToNat, Int.reduceNeg, shut_plain, freeL_cons, freeL_nil, free_int, free_bool, free_agg, free_str, free_nils, free_tup, free_sl, true_implies, false_implies, Nat.sub_zero, Int.natCast_nonneg, Int.toNat_natCast, Nat.le_refl, not_true_eq_false, Int.reduceAdd, Int.reduceSub, Int.reduceMul, wrap64, false_and, and_false, cond_true, cond_false, Bool.cond_true_left, Bool.cond_false_right, Int.reduceBNe, Int.reduceBEq, decide_true, decide_false, Int.cast_ofNat_Int, Nat.mul_one, eq_self, Bool.true_eq_false, Bool.not_eq_true, Bool.not_eq_false, deads, List.replicate, argsF, am11, List.append_nil, c22, isNil, oa, q3, t6, wt, c24, -List.drop, -List.take]
  exact q

theorem again_spec {N n : Nat} (hN : 1500 ≤ N) (hn : 4 ≤ n) {a : Nat} {s : Ses} {W : V} {L : List V} {R : List Nat} {h : Heap} (ha : SAt h a s L W R) (f0 : 1 ≤ s.first) (f1 : s.first + L.length ≤ 2000) (hL : L.length ≤ 1000) :
    ∃ v' h', callA am N n 12 [.ptr a 1 0] h = some (v', h') ∧ SAt h' a (toldS s L.length) L W R ∧ Beyond h h' a R R ∧ ∃ C, DRow h.length h' v' C ∧ Tells s L s.first C := by
  obtain ⟨n, rfl⟩ : ∃ m, n = m + 1 := ⟨n - 1, by omega⟩
  have c22 := @is_spec N n (by omega) _ _ _ _ _ _ ha
  obtain ⟨v', h', c24, q⟩ := @tell_spec N n hN (by omega) _ _ _ _ _ _ ha s.first f0 f1 hL
  have oa := ha.ob
  have q3 : (s.cs W).length = 9 := rfl
  have t5 : List.take 1 (List.drop 5 (s.cs W)) = [.int .i64 s.first] := rfl
  refine call_keep at12 rfl rfl (by decide) (sx_wp ?_)
  simp +contextual -implicitDefEqProofs (maxSteps := 10000000) only [sx_seq, sxL_succ, lpQ_norm, lpQ_exit, lpQ_ret, loopQ_norm, loopQ_exit, loopQ_ret, sqQ_norm, sqQ_ret, sqQ_exit, sx_block, blkQ_norm, blkQ_exit, blkQ_ret, sx_cond, cdP_true, cdP_false, cdP_bool, sx_region, sx_draw, plainD, List.all_cons, List.all_nil, List.isEmpty_nil, List.isEmpty_cons, sxo_nil, sxo_cons, sxo_guard, gdS_bool, gdS_eff, gdS_tup, gdS_sel, gdS_seleff, sxK_def, wcall_some, effP_ret, effP_set, effP_none, effP_ite, wop_call, wop_cv, cvP_func, sx_ret, sx_exit, sx_skip, sx_clr, sx_fresh, stays, ↓selV_wt, ↓selV_wf, ↓impB_wt, ↓impB_wf, ↓selV_nor, ↓impB_nor, ↓selV_nt, ↓selV_nf, ↓impB_nt, ↓impB_nf, wantB_true, wantB_false, ↓selV_true, ↓selV_false, ↓selV_and, ↓impB_true, ↓impB_false, ↓impB_and, impB_triv, valOf_some, retH_some, ↓prim_pick, pickO_true, pickO_false, pickO_and, pickO_or, pickO_andr, pickO_orr, pickO_orrn, pickO_orn, pickO_bb, pickAnd_bool, pickOr_bool, ↓selV_nn, ↓impB_nn, Bool.and_assoc, Bool.or_assoc, doOp, ev_fr, ev_cst, put_none, put_fr, get, ins, del, dels, Nat.reduceLT, Nat.reduceEqDiff, ↓reduceIte, reduceCtorEq, ne_eq, not_false_eq_true, implies_true, framed_pureF, framed_fb, framed_N, framed_pure, wop_prim, prim, YLD, mkA, V.cells, List.getElem?_cons_zero, List.getElem?_cons_succ, List.set_cons_zero, List.set_cons_succ, Nat.zero_add, Nat.add_zero, Nat.reduceAdd, Nat.reduceSub, Nat.reduceMul, Nat.reduceLeDiff, Nat.not_lt_zero, List.map_cons, List.map_nil, List.cons_append, List.nil_append, loadA, cellsAt, nAg, packA, opt_bind_some, opt_map_some, opt_bind_none, opt_map_none, List.drop, List.take, List.head?, List.length_cons, List.length_nil, binA, unA, eqCells, eqCell, negB, fillA, sr_nil, sr_cons, sr_succ, sr_all, sr_len, storeA, Ob.with, indexedI, V.oneCell, intOf?, retQ_ret, retQ_norm, resA, resA1, fr_getD, packR, sealDepth, shut_bool, shut_int, Option.some.injEq, V.bool.injEq, V.int.injEq, Bool.not_true, Bool.not_false, true_and, and_true, and_self, Bool.and_true, Bool.and_false, Bool.true_and, Bool.false_and, Bool.or_true, Bool.or_false, Bool.true_or, Bool.false_or, Bool.false_eq_true, Int.reduceLT, Int.reduceLE, Int.reduceToNat, Int.reduceNeg, shut_plain, freeL_cons, freeL_nil, free_int, free_bool, free_agg, free_str, free_nils, free_tup, free_sl, true_implies, false_implies, Nat.sub_zero, Int.natCast_nonneg, Int.toNat_natCast, Nat.le_refl, not_true_eq_false, Int.reduceAdd, Int.reduceSub, Int.reduceMul, wrap64, false_and, and_false, cond_true, cond_false, Bool.cond_true_left, Bool.cond_false_right, Int.reduceBNe, Int.reduceBEq, decide_true, decide_false, Int.cast_ofNat_Int, Nat.mul_one, eq_self, Bool.true_eq_false, Bool.not_eq_true, Bool.not_eq_false, deads, List.replicate, argsF, am12, List.append_nil, c22, isNil, oa, q3, t5, c24, -List.drop, -List.take]
  exact q

/-! ### A copy -/

/-- These bodies have these bytes. -/
def Bys (B : List (List Int)) (L : List V) : Prop := L.length = B.length ∧ ∀ (i : Nat) (b : V) (l : List Int), L[i]? = some b → B[i]? = some l → By l b ∧ l.length ≤ 256

theorem Bods.bys : ∀ {L : List V}, Bods L → ∃ B, Bys B L
  | [], _ => ⟨[], rfl, fun i b l h => by simp at h⟩
  | b :: L, h => by
    obtain ⟨B, hB1, hB2⟩ := Bods.bys (L := L) (fun c hc => h c (by simp [hc]))
    obtain ⟨l, hl⟩ := h b (by simp)
    refine ⟨l :: B, by simp [hB1], fun i c m h1 h2 => ?_⟩
    cases i with
    | zero => simp at h1 h2; subst h1; subst h2; exact hl
    | succ i => exact hB2 i c m (by simpa using h1) (by simpa using h2)

theorem Bys.bods {B : List (List Int)} {L : List V} (h : Bys B L) : Bods L := by
  intro b hb
  obtain ⟨i, hi, rfl⟩ := List.getElem_of_mem hb
  have hlt : i < B.length := by rw [← h.1]; exact hi
  exact ⟨B[i], h.2 i _ _ (List.getElem?_eq_getElem hi) (List.getElem?_eq_getElem hlt)⟩

theorem Bys.snoc {B : List (List Int)} {L : List V} {l : List Int} {b : V} (h : Bys B L) (hb : By l b) (hl : l.length ≤ 256) : Bys (B ++ [l]) (L ++ [b]) := by
  refine ⟨by simp [h.1], fun i c m h1 h2 => ?_⟩
  by_cases hi : i < L.length
  · rw [List.getElem?_append_left hi] at h1
    rw [List.getElem?_append_left (by rw [← h.1]; exact hi)] at h2
    exact h.2 i c m h1 h2
  · rw [List.getElem?_append_right (by omega)] at h1
    rw [List.getElem?_append_right (by rw [← h.1]; omega), ← h.1] at h2
    have h3 := List.mem_of_getElem? h1
    have h4 := List.mem_of_getElem? h2
    obtain rfl := List.mem_singleton.1 h3
    obtain rfl := List.mem_singleton.1 h4
    exact ⟨hb, hl⟩

set_option maxHeartbeats 2000000 in
theorem copy_spec {N n : Nat} (hN : 1500 ≤ N) (hn : 3 ≤ n) {a : Nat} {s : Ses} {W : V} {L : List V} {R : List Nat} {h : Heap} (ha : SAt h a s L W R) {B : List (List Int)} (hB : Bys B L) (hL : L.length ≤ 1000) :
    ∃ v' h', callA am N n 16 [.ptr a 1 0] h = some (v', h') ∧ v' = .ptr h.length 1 0 ∧ (∀ o, o < h.length → h'[o]? = h[o]?) ∧ h.length ≤ h'.length ∧ ∃ L' W' R', Bys B L' ∧ SAt h' h.length s L' W' R' ∧ ∀ o ∈ R', h.length < o := by
  obtain ⟨n, rfl⟩ : ∃ m, n = m + 1 := ⟨n - 1, by omega⟩
  have hal := lt_of_get ha.ob
  obtain ⟨h0, e0⟩ : ∃ h0, h0 = h ++ [(⟨0, .dead⟩ : Ob), ⟨0, .dead⟩] := ⟨_, rfl⟩
  have c22 := @is_spec N n (by omega) _ _ _ _ _ _ (ha.app [(⟨0, .dead⟩ : Ob), ⟨0, .dead⟩])
  have oa : ∀ l : List Ob, (h ++ l)[a]? = some ⟨1, .var (s.cs W)⟩ := fun l => by rw [List.getElem?_append_left hal]; exact ha.ob
  have q3 : ∀ W, (s.cs W).length = 9 := fun _ => rfl
  have t9 : ∀ W, List.take 9 (s.cs W) = s.cs W := fun _ => rfl
  have t4 : ∀ (W : V), List.take 1 (List.drop 4 (s.cs W)) = [W] := fun _ => rfl
  have c4 : ∀ (W W' : V), setRange (s.cs W) 4 [W'] = s.cs W' := fun _ _ => rfl
  have c0 : ∀ W, setRange [V.bool false, .int .i64 0, .int .i64 0, .int .i64 0, .nils, .int .i64 0, .int .i64 0, .int .i64 0, .bool false] 0 (s.cs W) = s.cs W := fun _ => sr_all rfl
  obtain ⟨v1, v2, v3, v4, v5, v6⟩ := ha.row.shape
  have one : (s.cs W).all V.oneCell = true := by
    simp only [Ses.cs, List.all_cons, List.all_nil, v2, Bool.and_true, Bool.true_and]; rfl
  have hlW := ha.row.len
  refine call_keep at16 rfl rfl (by decide) (sx_wp ?_)
  simp +contextual -implicitDefEqProofs (maxSteps := 10000000) only [sx_seq, sxL_succ, lpQ_norm, lpQ_exit, lpQ_ret, loopQ_norm, loopQ_exit, loopQ_ret, sqQ_norm, sqQ_ret, sqQ_exit, sx_block, blkQ_norm, blkQ_exit, blkQ_ret, sx_cond, cdP_true, cdP_false, cdP_bool, sx_region, sx_draw, plainD, List.all_cons, List.all_nil, List.isEmpty_nil, List.isEmpty_cons, sxo_nil, sxo_cons, sxo_guard, gdS_bool, gdS_eff, gdS_tup, gdS_sel, gdS_seleff, sxK_def, wcall_some, effP_ret, effP_set, effP_none, effP_ite, wop_call, wop_cv, cvP_func, sx_ret, sx_exit, sx_skip, sx_clr, sx_fresh, stays, ↓selV_wt, ↓selV_wf, ↓impB_wt, ↓impB_wf, ↓selV_nor, ↓impB_nor, ↓selV_nt, ↓selV_nf, ↓impB_nt, ↓impB_nf, wantB_true, wantB_false, ↓selV_true, ↓selV_false, ↓selV_and, ↓impB_true, ↓impB_false, ↓impB_and, impB_triv, valOf_some, retH_some, ↓prim_pick, pickO_true, pickO_false, pickO_and, pickO_or, pickO_andr, pickO_orr, pickO_orrn, pickO_orn, pickO_bb, pickAnd_bool, pickOr_bool, ↓selV_nn, ↓impB_nn, Bool.and_assoc, Bool.or_assoc, doOp, ev_fr, ev_cst, put_none, put_fr, get, ins, del, dels, Nat.reduceLT, Nat.reduceEqDiff, ↓reduceIte, reduceCtorEq, ne_eq, not_false_eq_true, implies_true, framed_pureF, framed_fb, framed_N, framed_pure, wop_prim, prim, YLD, mkA, V.cells, List.getElem?_cons_zero, List.getElem?_cons_succ, List.set_cons_zero, List.set_cons_succ, Nat.zero_add, Nat.add_zero, Nat.reduceAdd, Nat.reduceSub, Nat.reduceMul, Nat.reduceLeDiff, Nat.not_lt_zero, List.map_cons, List.map_nil, List.cons_append, List.nil_append, loadA, cellsAt, nAg, packA, opt_bind_some, opt_map_some, opt_bind_none, opt_map_none, List.drop, List.take, List.head?, List.length_cons, List.length_nil, binA, unA, eqCells, eqCell, negB, fillA, sr_nil, sr_cons, sr_succ, sr_all, sr_len, storeA, Ob.with, indexedI, V.oneCell, intOf?, retQ_ret, retQ_norm, resA, resA1, fr_getD, packR, sealDepth, shut_bool, shut_int, Option.some.injEq, V.bool.injEq, V.int.injEq, Bool.not_true, Bool.not_false, true_and, and_true, and_self, Bool.and_true, Bool.and_false, Bool.true_and, Bool.false_and, Bool.or_true, Bool.or_false, Bool.true_or, Bool.false_or, Bool.false_eq_true, Int.reduceLT, Int.reduceLE, Int.reduceToNat, Int.reduceNeg, shut_plain, freeL_cons, freeL_nil, free_int, free_bool, free_agg, free_str, free_nils, free_tup, free_sl, true_implies, false_implies, Nat.sub_zero, Int.natCast_nonneg, Int.toNat_natCast, Nat.le_refl, not_true_eq_false, Int.reduceAdd, Int.reduceSub, Int.reduceMul, wrap64, false_and, and_false, cond_true, cond_false, Bool.cond_true_left, Bool.cond_false_right, Int.reduceBNe, Int.reduceBEq, decide_true, decide_false, Int.cast_ofNat_Int, Nat.mul_one, eq_self, Bool.true_eq_false, Bool.not_eq_true, Bool.not_eq_false, deads, List.replicate, argsF, am16, app_get0, app_get, app_set0, app_set, c22, isNil, oa, q3, t9, t4, c0, c4, one, v1, v2, hlW, -List.drop, -List.take]
  refine sx_loop (fun i t H => ∃ Wc Lc Rc, t = fr 30 [(3, .ptr h.length 1 0), (16, W), (17, .int .i64 L.length), (18, .int .i64 i)] ∧ i ≤ L.length ∧ H.length = h.length + 2 ∧ H[h.length]? = some ⟨1, .var (s.cs Wc)⟩ ∧ WRow H Wc Lc Rc ∧ (∀ o ∈ Rc, h.length < o) ∧ Bys (B.take i) Lc ∧ ∀ o, o < h.length → H[o]? = h[o]?) L.length (by show L.length < N; omega)
    ⟨.nils, [], [], rfl, Nat.zero_le _, by simp, by rw [app_get0]; rfl, .inl ⟨rfl, rfl, rfl⟩, fun o ho => (by cases ho), ⟨rfl, fun i b l h => (by simp at h)⟩, fun o ho => List.getElem?_append_left ho⟩ ?_
  rintro i t H hi ⟨Wc, Lc, Rc, rfl, hiL, hHl, hcH, hrow, hRc, hBy, hoth⟩
  by_cases hlt : i < L.length
  · have g1 : decide ((i : Int) < (L.length : Int)) = true := decide_eq_true (by omega)
    have w4 : IntKind.i64.wrap ((i : Int) + 1) = ((i + 1 : Nat) : Int) := (wrap64 (by omega) (by omega)).trans (by omega)
    have hi1 : i + 1 ≤ L.length := by omega
    obtain ⟨b, hbi⟩ : ∃ b, L[i]? = some b := ⟨_, List.getElem?_eq_getElem hlt⟩
    obtain ⟨l, hli⟩ : ∃ l, B[i]? = some l := ⟨_, List.getElem?_eq_getElem (by rw [← hB.1]; exact hlt)⟩
    obtain ⟨hb, hl⟩ := hB.2 i b l hbi hli
    obtain ⟨o, ver, off, cs, hia, hoc, hle, hld, hRo⟩ := (ha.row.keep (fun o ho => hoth o (ha.row.lt o ho))).cell hbi
    obtain ⟨b', hb', c23⟩ := @clone_spec N n (by omega) l b hb (by omega)
    have hobb : b.objs = [] := hb.objs
    have f23 : ∀ fb (h : Heap), ({ pureF := pureOf am, call := callA am N n, N := N, fb := fb } : Env).framed.call 23 [b] h = some (b', h) := fun fb h =>
      frame_free pm23 (.inr rfl) (by simp [V.objsL, hobb]) c23 hb'.objs
    have bc := hb.cells
    have bn1 := hb.njunk
    have bn2 := hb.nagg
    have k1 := hb'.cells
    have k2 := hb'.one
    have k3 := hb'.njunk
    have k4 := hb'.nagg
    have k5 := hb'.ntup
    have hx : H[h.length + 1]? = some (H[h.length + 1]'(by omega)) := List.getElem?_eq_getElem _
    have hLc : Lc.length ≤ 1000 := by
      have := hBy.1
      simp at this
      omega
    obtain ⟨o1, y, W', hA, hrow', ho1, hol⟩ := hrow.append hx k1 k2 hLc
    obtain ⟨w1, w2, w3, w4', w5, w6⟩ := hrow'.shape
    obtain ⟨u1, u2, u3, u4, u5, u6⟩ := hrow.shape
    have ho1' : h.length < o1 := by
      rcases ho1 with rfl | ho1
      · omega
      · exact hRc _ ho1
    have g2 : (H.set o1 y)[h.length]? = some ⟨1, .var (s.cs Wc)⟩ := by rw [List.getElem?_set_ne (by omega)]; exact hcH
    have hll : h.length < H.length := by omega
    have hWobj := hrow.objs
    have r1 : List.range 1 = [0] := rfl
    have wr : wrapV [b'] = b' := rfl
    simp +contextual -implicitDefEqProofs (maxSteps := 10000000) only [sx_seq, sxL_succ, lpQ_norm, lpQ_exit, lpQ_ret, loopQ_norm, loopQ_exit, loopQ_ret, sqQ_norm, sqQ_ret, sqQ_exit, sx_block, blkQ_norm, blkQ_exit, blkQ_ret, sx_cond, cdP_true, cdP_false, cdP_bool, sx_region, sx_draw, plainD, List.all_cons, List.all_nil, List.isEmpty_nil, List.isEmpty_cons, sxo_nil, sxo_cons, sxo_guard, gdS_bool, gdS_eff, gdS_tup, gdS_sel, gdS_seleff, sxK_def, wcall_some, effP_ret, effP_set, effP_none, effP_ite, wop_call, wop_cv, cvP_func, sx_ret, sx_exit, sx_skip, sx_clr, sx_fresh, stays, ↓selV_wt, ↓selV_wf, ↓impB_wt, ↓impB_wf, ↓selV_nor, ↓impB_nor, ↓selV_nt, ↓selV_nf, ↓impB_nt, ↓impB_nf, wantB_true, wantB_false, ↓selV_true, ↓selV_false, ↓selV_and, ↓impB_true, ↓impB_false, ↓impB_and, impB_triv, valOf_some, retH_some, ↓prim_pick, pickO_true, pickO_false, pickO_and, pickO_or, pickO_andr, pickO_orr, pickO_orrn, pickO_orn, pickO_bb, pickAnd_bool, pickOr_bool, ↓selV_nn, ↓impB_nn, Bool.and_assoc, Bool.or_assoc, doOp, ev_fr, ev_cst, put_none, put_fr, get, ins, del, dels, Nat.reduceLT, Nat.reduceEqDiff, ↓reduceIte, reduceCtorEq, ne_eq, not_false_eq_true, implies_true, framed_pureF, framed_fb, framed_N, framed_pure, wop_prim, prim, YLD, mkA, V.cells, List.getElem?_cons_zero, List.getElem?_cons_succ, List.set_cons_zero, List.set_cons_succ, Nat.zero_add, Nat.add_zero, Nat.reduceAdd, Nat.reduceSub, Nat.reduceMul, Nat.reduceLeDiff, Nat.not_lt_zero, List.map_cons, List.map_nil, List.cons_append, List.nil_append, loadA, cellsAt, nAg, packA, opt_bind_some, opt_map_some, opt_bind_none, opt_map_none, List.drop, List.take, List.head?, List.length_cons, List.length_nil, binA, unA, eqCells, eqCell, negB, fillA, sr_nil, sr_cons, sr_succ, sr_all, sr_len, storeA, Ob.with, indexedI, V.oneCell, intOf?, retQ_ret, retQ_norm, resA, resA1, fr_getD, packR, sealDepth, shut_bool, shut_int, Option.some.injEq, V.bool.injEq, V.int.injEq, Bool.not_true, Bool.not_false, true_and, and_true, and_self, Bool.and_true, Bool.and_false, Bool.true_and, Bool.false_and, Bool.or_true, Bool.or_false, Bool.true_or, Bool.false_or, Bool.false_eq_true, Int.reduceLT, Int.reduceLE, Int.reduceToNat, Int.reduceNeg, shut_plain, freeL_cons, freeL_nil, free_int, free_bool, free_agg, free_str, free_nils, free_tup, free_sl, true_implies, false_implies, Nat.sub_zero, Int.natCast_nonneg, Int.toNat_natCast, Nat.le_refl, not_true_eq_false, Int.reduceAdd, Int.reduceSub, Int.reduceMul, wrap64, false_and, and_false, cond_true, cond_false, Bool.cond_true_left, Bool.cond_false_right, Int.reduceBNe, Int.reduceBEq, decide_true, decide_false, Int.cast_ofNat_Int, Nat.mul_one, eq_self, Bool.true_eq_false, Bool.not_eq_true, Bool.not_eq_false, deads, List.replicate, argsF, sx_drawd, reachC_nil, wpd_nil, wpd_cons, wdK_def, fpOf, fpV, fpCall, Fp.ok, disj, List.contains_cons, List.contains_nil, Nat.reduceBEq, List.all_append, V.objsL, V.objs,  List.getD_cons_zero, List.getD_cons_succ, List.append_nil, g1, hia, hoc, hle, hld, hcH, f23, isNil, q3, t4, c4, bc, k1, k2, r1, wr, hA, g2, w1, w2, u1, u2, hobb, pm23, w4, hi1, hlt, hll, -List.drop, -List.take]
    refine ⟨W', Lc ++ [b'], [o1], by simp; omega, by rw [List.getElem?_set_self (by simp; omega)], ?_, ?_, ?_, ?_⟩
    · refine hrow'.keep (fun q hq => ?_)
      obtain rfl := List.mem_singleton.1 hq
      rw [List.getElem?_set_ne (by omega)]
    · intro q hq
      obtain rfl := List.mem_singleton.1 hq
      exact ho1'
    · have : B.take (i + 1) = B.take i ++ [l] := by rw [List.take_add_one, hli]; rfl
      rw [this]
      exact hBy.snoc hb' hl
    · intro q hq
      rw [List.getElem?_set_ne (by omega), List.getElem?_set_ne (by omega)]
      exact hoth q hq
  · have e : i = L.length := by omega
    subst e
    have g1 : decide ((L.length : Int) < (L.length : Int)) = false := decide_eq_false (by omega)
    simp +contextual -implicitDefEqProofs (maxSteps := 10000000) only [sx_seq, sxL_succ, lpQ_norm, lpQ_exit, lpQ_ret, loopQ_norm, loopQ_exit, loopQ_ret, sqQ_norm, sqQ_ret, sqQ_exit, sx_block, blkQ_norm, blkQ_exit, blkQ_ret, sx_cond, cdP_true, cdP_false, cdP_bool, sx_region, sx_draw, plainD, List.all_cons, List.all_nil, List.isEmpty_nil, List.isEmpty_cons, sxo_nil, sxo_cons, sxo_guard, gdS_bool, gdS_eff, gdS_tup, gdS_sel, gdS_seleff, sxK_def, wcall_some, effP_ret, effP_set, effP_none, effP_ite, wop_call, wop_cv, cvP_func, sx_ret, sx_exit, sx_skip, sx_clr, sx_fresh, stays, ↓selV_wt, ↓selV_wf, ↓impB_wt, ↓impB_wf, ↓selV_nor, ↓impB_nor, ↓selV_nt, ↓selV_nf, ↓impB_nt, ↓impB_nf, wantB_true, wantB_false, ↓selV_true, ↓selV_false, ↓selV_and, ↓impB_true, ↓impB_false, ↓impB_and, impB_triv, valOf_some, retH_some, ↓prim_pick, pickO_true, pickO_false, pickO_and, pickO_or, pickO_andr, pickO_orr, pickO_orrn, pickO_orn, pickO_bb, pickAnd_bool, pickOr_bool, ↓selV_nn, ↓impB_nn, Bool.and_assoc, Bool.or_assoc, doOp, ev_fr, ev_cst, put_none, put_fr, get, ins, del, dels, Nat.reduceLT, Nat.reduceEqDiff, ↓reduceIte, reduceCtorEq, ne_eq, not_false_eq_true, implies_true, framed_pureF, framed_fb, framed_N, framed_pure, wop_prim, prim, YLD, mkA, V.cells, List.getElem?_cons_zero, List.getElem?_cons_succ, List.set_cons_zero, List.set_cons_succ, Nat.zero_add, Nat.add_zero, Nat.reduceAdd, Nat.reduceSub, Nat.reduceMul, Nat.reduceLeDiff, Nat.not_lt_zero, List.map_cons, List.map_nil, List.cons_append, List.nil_append, loadA, cellsAt, nAg, packA, opt_bind_some, opt_map_some, opt_bind_none, opt_map_none, List.drop, List.take, List.head?, List.length_cons, List.length_nil, binA, unA, eqCells, eqCell, negB, fillA, sr_nil, sr_cons, sr_succ, sr_all, sr_len, storeA, Ob.with, indexedI, V.oneCell, intOf?, retQ_ret, retQ_norm, resA, resA1, fr_getD, packR, sealDepth, shut_bool, shut_int, Option.some.injEq, V.bool.injEq, V.int.injEq, Bool.not_true, Bool.not_false, true_and, and_true, and_self, Bool.and_true, Bool.and_false, Bool.true_and, Bool.false_and, Bool.or_true, Bool.or_false, Bool.true_or, Bool.false_or, Bool.false_eq_true, Int.reduceLT, Int.reduceLE, Int.reduceToNat, Int.reduceNeg, shut_plain, freeL_cons, freeL_nil, free_int, free_bool, free_agg, free_str, free_nils, free_tup, free_sl, true_implies, false_implies, Nat.sub_zero, Int.natCast_nonneg, Int.toNat_natCast, Nat.le_refl, not_true_eq_false, Int.reduceAdd, Int.reduceSub, Int.reduceMul, wrap64, false_and, and_false, cond_true, cond_false, Bool.cond_true_left, Bool.cond_false_right, Int.reduceBNe, Int.reduceBEq, decide_true, decide_false, Int.cast_ofNat_Int, Nat.mul_one, eq_self, Bool.true_eq_false, Bool.not_eq_true, Bool.not_eq_false, deads, List.replicate, argsF, g1]
    have hBt : B.take L.length = B := List.take_of_length_le (by rw [hB.1]; exact Nat.le_refl _)
    rw [hBt] at hBy
    refine ⟨hoth, by omega, Lc, Wc, Rc, hBy, ⟨hcH, hrow, hBy.bods, ?_⟩, hRc⟩
    intro hmem
    have := hRc _ hmem
    omega

end Go.Am.T

set_option linter.unusedVariables false
set_option linter.unusedSimpArgs false
set_option maxRecDepth 10000
namespace Go.Am.T
attribute [local congr] selV_congr impB_congr

/-- A framed call on the caller's memory that changes nothing there. -/
theorem frame_keep0 {pureF : FuncId → FMode} {call : Caller} {f : FuncId} {args : List V} {h : Heap} {v : V} {R : List Nat} (hm : pureF f = .keep) (hR : V.objsL args = R)
    (hc : call f args (keepOnly R h) = some (v, keepOnly R h)) (hv : v.objs = []) (hcl : ∀ o ∈ R, ∀ y, h[o]? = some y → ∀ i ∈ y.bd.objs, i ∈ R) (hy : f ≠ YLD := by decide) :
    frameC pureF call f args h = some (v, h) := by
  subst hR
  have hin : ∀ o, o ∈ V.objsL args → inside (V.objsL args) h.length o = true := fun o ho => by simp [inside, ho]
  have hkk : ∀ (o : Nat) (y : Ob), (keepOnly (V.objsL args) h)[o]? = some y → ∀ i ∈ y.bd.objs, inside (V.objsL args) h.length i = true := by
    intro o y hy i hi
    rw [keepOnly_get] at hy
    simp only [Option.map_eq_some_iff] at hy
    obtain ⟨z, hz, rfl⟩ := hy
    split at hi
    · rename_i hcn
      exact hin i (hcl o (by simpa using hcn) z hz i hi)
    · simp [Bd.objs] at hi
  have c1 : closedIn (V.objsL args) h.length (keepOnly (V.objsL args) h) = true := closedIn_of fun o y hy _ => hkk o y hy
  have key : mergeH (V.objsL args) h (keepOnly (V.objsL args) h) = h := by
    apply List.ext_getElem?
    intro o
    rw [mergeH_get, keepOnly_get]
    cases hh : h[o]? with
    | none => rfl
    | some y =>
      simp only [Option.map_some]
      have hlt : o < h.length := (List.getElem?_eq_some_iff.1 hh).1
      by_cases hc : (V.objsL args).contains o = true
      · have hc' : o ∈ V.objsL args := by simpa using hc
        rw [if_pos hc, if_pos (hin o hc')]
      · simp only [hc, Bool.false_eq_true, ↓reduceIte, inside, Bool.false_or, decide_eq_true_eq]
        rw [if_neg (by omega)]
        simp [List.getD_eq_getElem?_getD, hh]
  unfold frameC
  rw [if_neg hy, reachC_own hcl]
  simp only [hm, c1, hc, hv, keepOnly_length, List.all_nil, Nat.le_refl, decide_true, Bool.and_self, ↓reduceIte, key]

def strB (l : List Int) : List UInt8 := l.map fun n => UInt8.ofNat n.toNat

theorem prim_b2s {l : List Int} {b : V} (hb : By l b) (fb : Nat) (ρ : Opd → V) (get : Nat → Option Ob) (x : Opd) (hx : ρ x = b) : prim fb ρ get (.b2s x) = some (.ret (.str (strB l))) := by
  have key : ∀ (l : List Int), ((l.map (V.int .u8)).mapM fun (c : V) => match c with | .int .u8 n => some (UInt8.ofNat n.toNat) | _ => none) = some (strB l) := by
    intro l
    induction l with
    | nil => rfl
    | cons a l ih => rw [List.map_cons, List.mapM_cons, ih]; rfl
  have h1 := hb.len
  have h2 := hb.first get
  have h3 := hb.nstr
  unfold prim
  simp only [hx]
  rw [h1]
  simp only [Option.bind_some]
  rw [h2]
  simp only [Option.bind_some]
  exact (congrArg (Option.map fun l => Eff.ret (V.str l)) (key l)).trans rfl

theorem eq_spec {N n : Nat} (hn : 1 ≤ n) {l m : List Int} {b c : V} (hb : By l b) (hc : By m c) (h : Heap) : callA am N n 26 [b, c] h = some (.bool (strB l == strB m), h) := by
  obtain ⟨n, rfl⟩ : ∃ m, n = m + 1 := ⟨n - 1, by omega⟩
  have f1 : V.shut (fun o => h[o]?) sealDepth b = some b := shut_plain (d := 63) hb.free
  have f2 : V.shut (fun o => h[o]?) sealDepth c = some c := shut_plain (d := 63) hc.free
  have p1 := prim_b2s hb
  have p2 := prim_b2s hc
  refine call_look at26 rfl rfl (by decide) (args' := [b, c]) (by rw [List.mapM_cons, f1, List.mapM_cons, f2]; rfl) (sx_wp ?_)
  simp +contextual -implicitDefEqProofs (maxSteps := 10000000) only [sx_seq, sxL_succ, lpQ_norm, lpQ_exit, lpQ_ret, loopQ_norm, loopQ_exit, loopQ_ret, sqQ_norm, sqQ_ret, sqQ_exit, sx_block, blkQ_norm, blkQ_exit, blkQ_ret, sx_cond, cdP_true, cdP_false, cdP_bool, sx_region, sx_draw, plainD, List.all_cons, List.all_nil, List.isEmpty_nil, List.isEmpty_cons, sxo_nil, sxo_cons, sxo_guard, gdS_bool, gdS_eff, gdS_tup, gdS_sel, gdS_seleff, sxK_def, wcall_some, effP_ret, effP_set, effP_none, effP_ite, wop_call, wop_cv, cvP_func, sx_ret, sx_exit, sx_skip, sx_clr, sx_fresh, stays, ↓selV_wt, ↓selV_wf, ↓impB_wt, ↓impB_wf, ↓selV_nor, ↓impB_nor, ↓selV_nt, ↓selV_nf, ↓impB_nt, ↓impB_nf, wantB_true, wantB_false, ↓selV_true, ↓selV_false, ↓selV_and, ↓impB_true, ↓impB_false, ↓impB_and, impB_triv, valOf_some, retH_some, ↓prim_pick, pickO_true, pickO_false, pickO_and, pickO_or, pickO_andr, pickO_orr, pickO_orrn, pickO_orn, pickO_bb, pickAnd_bool, pickOr_bool, ↓selV_nn, ↓impB_nn, Bool.and_assoc, Bool.or_assoc, doOp, ev_fr, ev_cst, put_none, put_fr, get, ins, del, dels, Nat.reduceLT, Nat.reduceEqDiff, ↓reduceIte, reduceCtorEq, ne_eq, not_false_eq_true, implies_true, framed_pureF, framed_fb, framed_N, framed_pure, wop_prim, prim, YLD, mkA, V.cells, List.getElem?_cons_zero, List.getElem?_cons_succ, List.set_cons_zero, List.set_cons_succ, Nat.zero_add, Nat.add_zero, Nat.reduceAdd, Nat.reduceSub, Nat.reduceMul, Nat.reduceLeDiff, Nat.not_lt_zero, List.map_cons, List.map_nil, List.cons_append, List.nil_append, loadA, cellsAt, nAg, packA, opt_bind_some, opt_map_some, opt_bind_none, opt_map_none, List.drop, List.take, List.head?, List.length_cons, List.length_nil, binA, unA, eqCells, eqCell, negB, fillA, sr_nil, sr_cons, sr_succ, sr_all, sr_len, storeA, Ob.with, indexedI, V.oneCell, intOf?, retQ_ret, retQ_norm, resA, resA1, fr_getD, packR, sealDepth, shut_bool, shut_int, Option.some.injEq, V.bool.injEq, V.int.injEq, Bool.not_true, Bool.not_false, true_and, and_true, and_self, Bool.and_true, Bool.and_false, Bool.true_and, Bool.false_and, Bool.or_true, Bool.or_false, Bool.true_or, Bool.false_or, Bool.false_eq_true, Int.reduceLT, Int.reduceLE, Int.reduceToNat, Int.reduceNeg, shut_plain, freeL_cons, freeL_nil, free_int, free_bool, free_agg, free_str, free_nils, free_tup, free_sl, true_implies, false_implies, Nat.sub_zero, Int.natCast_nonneg, Int.toNat_natCast, Nat.le_refl, not_true_eq_false, Int.reduceAdd, Int.reduceSub, Int.reduceMul, wrap64, false_and, and_false, cond_true, cond_false, Bool.cond_true_left, Bool.cond_false_right, Int.reduceBNe, Int.reduceBEq, decide_true, decide_false, Int.cast_ofNat_Int, Nat.mul_one, eq_self, Bool.true_eq_false, Bool.not_eq_true, Bool.not_eq_false, deads, List.replicate, argsF, am26, ↓p1, ↓p2, plain_bool]

set_option maxHeartbeats 1000000 in
theorem equal_spec {N n : Nat} (hN : 1500 ≤ N) (hn : 2 ≤ n) {H : Heap} {W W' : V} {L L' : List V} {R R' : List Nat} {B : List (List Int)} (hW : WRow H W L R) (hW' : WRow H W' L' R') (hB : Bys B L) (hB' : Bys B L') (hL : L.length ≤ 1000) :
    callA am N n 25 [W, W', .func 26 [] []] H = some (.bool true, H) := by
  obtain ⟨n, rfl⟩ : ∃ m, n = m + 1 := ⟨n - 1, by omega⟩
  have hl := hW.len
  have hl' := hW'.len
  obtain ⟨u1, u2, u3, u4, u5, u6⟩ := hW.shape
  obtain ⟨w1, w2, w3, w4, w5, w6⟩ := hW'.shape
  have hLL : L'.length = L.length := hB'.1.trans hB.1.symm
  rw [hLL] at hl'
  have d0 : ((L.length : Int) != (L.length : Int)) = false := by simp
  refine call_keep_eq at25 rfl rfl (by decide) (sx_wp ?_)
  simp +contextual -implicitDefEqProofs (maxSteps := 10000000) only [sx_seq, sxL_succ, lpQ_norm, lpQ_exit, lpQ_ret, loopQ_norm, loopQ_exit, loopQ_ret, sqQ_norm, sqQ_ret, sqQ_exit, sx_block, blkQ_norm, blkQ_exit, blkQ_ret, sx_cond, cdP_true, cdP_false, cdP_bool, sx_region, sx_draw, plainD, List.all_cons, List.all_nil, List.isEmpty_nil, List.isEmpty_cons, sxo_nil, sxo_cons, sxo_guard, gdS_bool, gdS_eff, gdS_tup, gdS_sel, gdS_seleff, sxK_def, wcall_some, effP_ret, effP_set, effP_none, effP_ite, wop_call, wop_cv, cvP_func, sx_ret, sx_exit, sx_skip, sx_clr, sx_fresh, stays, ↓selV_wt, ↓selV_wf, ↓impB_wt, ↓impB_wf, ↓selV_nor, ↓impB_nor, ↓selV_nt, ↓selV_nf, ↓impB_nt, ↓impB_nf, wantB_true, wantB_false, ↓selV_true, ↓selV_false, ↓selV_and, ↓impB_true, ↓impB_false, ↓impB_and, impB_triv, valOf_some, retH_some, ↓prim_pick, pickO_true, pickO_false, pickO_and, pickO_or, pickO_andr, pickO_orr, pickO_orrn, pickO_orn, pickO_bb, pickAnd_bool, pickOr_bool, ↓selV_nn, ↓impB_nn, Bool.and_assoc, Bool.or_assoc, doOp, ev_fr, ev_cst, put_none, put_fr, get, ins, del, dels, Nat.reduceLT, Nat.reduceEqDiff, ↓reduceIte, reduceCtorEq, ne_eq, not_false_eq_true, implies_true, framed_pureF, framed_fb, framed_N, framed_pure, wop_prim, prim, YLD, mkA, V.cells, List.getElem?_cons_zero, List.getElem?_cons_succ, List.set_cons_zero, List.set_cons_succ, Nat.zero_add, Nat.add_zero, Nat.reduceAdd, Nat.reduceSub, Nat.reduceMul, Nat.reduceLeDiff, Nat.not_lt_zero, List.map_cons, List.map_nil, List.cons_append, List.nil_append, loadA, cellsAt, nAg, packA, opt_bind_some, opt_map_some, opt_bind_none, opt_map_none, List.drop, List.take, List.head?, List.length_cons, List.length_nil, binA, unA, eqCells, eqCell, negB, fillA, sr_nil, sr_cons, sr_succ, sr_all, sr_len, storeA, Ob.with, indexedI, V.oneCell, intOf?, retQ_ret, retQ_norm, resA, resA1, fr_getD, packR, sealDepth, shut_bool, shut_int, Option.some.injEq, V.bool.injEq, V.int.injEq, Bool.not_true, Bool.not_false, true_and, and_true, and_self, Bool.and_true, Bool.and_false, Bool.true_and, Bool.false_and, Bool.or_true, Bool.or_false, Bool.true_or, Bool.false_or, Bool.false_eq_true, Int.reduceLT, Int.reduceLE, Int.reduceToNat, Int.reduceNeg, shut_plain, freeL_cons, freeL_nil, free_int, free_bool, free_agg, free_str, free_nils, free_tup, free_sl, true_implies, false_implies, Nat.sub_zero, Int.natCast_nonneg, Int.toNat_natCast, Nat.le_refl, not_true_eq_false, Int.reduceAdd, Int.reduceSub, Int.reduceMul, wrap64, false_and, and_false, cond_true, cond_false, Bool.cond_true_left, Bool.cond_false_right, Int.reduceBNe, Int.reduceBEq, decide_true, decide_false, Int.cast_ofNat_Int, Nat.mul_one, eq_self, Bool.true_eq_false, Bool.not_eq_true, Bool.not_eq_false, deads, List.replicate, argsF, am25, List.append_nil, hl, hl', d0]
  refine sx_loop (fun i t K => t = fr 32 [(1, W'), (2, .func 26 [] []), (15, W), (16, .int .i64 L.length), (17, .int .i64 i)] ∧ i ≤ L.length ∧ K = H) L.length (by show L.length < N; omega) ⟨rfl, Nat.zero_le _, rfl⟩ ?_
  rintro i t K hi ⟨rfl, hiL, rfl⟩
  by_cases hlt : i < L.length
  · have g1 : decide ((i : Int) < (L.length : Int)) = true := decide_eq_true (by omega)
    have x4 : IntKind.i64.wrap ((i : Int) + 1) = ((i + 1 : Nat) : Int) := (wrap64 (by omega) (by omega)).trans (by omega)
    have hi1 : i + 1 ≤ L.length := by omega
    obtain ⟨b, hbi⟩ : ∃ b, L[i]? = some b := ⟨_, List.getElem?_eq_getElem hlt⟩
    obtain ⟨c, hci⟩ : ∃ c, L'[i]? = some c := ⟨_, List.getElem?_eq_getElem (by omega)⟩
    obtain ⟨l, hli⟩ : ∃ l, B[i]? = some l := ⟨_, List.getElem?_eq_getElem (by rw [← hB.1]; exact hlt)⟩
    have hb := (hB.2 i b l hbi hli).1
    have hc := (hB'.2 i c l hci hli).1
    obtain ⟨o, ver, off, cs, hia, hoc, hle, hld, -⟩ := hW.cell hbi
    obtain ⟨o', ver', off', cs', hia', hoc', hle', hld', -⟩ := hW'.cell hci
    have c26 := fun h => @eq_spec N n (by omega) _ _ _ _ hb hc h
    have e0 : (strB l == strB l) = true := by simp
    rw [e0] at c26
    have k1 := hb.njunk
    have k2 := hb.nagg
    have k3 := hc.njunk
    have k4 := hc.nagg
    simp +contextual -implicitDefEqProofs (maxSteps := 10000000) only [sx_seq, sxL_succ, lpQ_norm, lpQ_exit, lpQ_ret, loopQ_norm, loopQ_exit, loopQ_ret, sqQ_norm, sqQ_ret, sqQ_exit, sx_block, blkQ_norm, blkQ_exit, blkQ_ret, sx_cond, cdP_true, cdP_false, cdP_bool, sx_region, sx_draw, plainD, List.all_cons, List.all_nil, List.isEmpty_nil, List.isEmpty_cons, sxo_nil, sxo_cons, sxo_guard, gdS_bool, gdS_eff, gdS_tup, gdS_sel, gdS_seleff, sxK_def, wcall_some, effP_ret, effP_set, effP_none, effP_ite, wop_call, wop_cv, cvP_func, sx_ret, sx_exit, sx_skip, sx_clr, sx_fresh, stays, ↓selV_wt, ↓selV_wf, ↓impB_wt, ↓impB_wf, ↓selV_nor, ↓impB_nor, ↓selV_nt, ↓selV_nf, ↓impB_nt, ↓impB_nf, wantB_true, wantB_false, ↓selV_true, ↓selV_false, ↓selV_and, ↓impB_true, ↓impB_false, ↓impB_and, impB_triv, valOf_some, retH_some, ↓prim_pick, pickO_true, pickO_false, pickO_and, pickO_or, pickO_andr, pickO_orr, pickO_orrn, pickO_orn, pickO_bb, pickAnd_bool, pickOr_bool, ↓selV_nn, ↓impB_nn, Bool.and_assoc, Bool.or_assoc, doOp, ev_fr, ev_cst, put_none, put_fr, get, ins, del, dels, Nat.reduceLT, Nat.reduceEqDiff, ↓reduceIte, reduceCtorEq, ne_eq, not_false_eq_true, implies_true, framed_pureF, framed_fb, framed_N, framed_pure, wop_prim, prim, YLD, mkA, V.cells, List.getElem?_cons_zero, List.getElem?_cons_succ, List.set_cons_zero, List.set_cons_succ, Nat.zero_add, Nat.add_zero, Nat.reduceAdd, Nat.reduceSub, Nat.reduceMul, Nat.reduceLeDiff, Nat.not_lt_zero, List.map_cons, List.map_nil, List.cons_append, List.nil_append, loadA, cellsAt, nAg, packA, opt_bind_some, opt_map_some, opt_bind_none, opt_map_none, List.drop, List.take, List.head?, List.length_cons, List.length_nil, binA, unA, eqCells, eqCell, negB, fillA, sr_nil, sr_cons, sr_succ, sr_all, sr_len, storeA, Ob.with, indexedI, V.oneCell, intOf?, retQ_ret, retQ_norm, resA, resA1, fr_getD, packR, sealDepth, shut_bool, shut_int, Option.some.injEq, V.bool.injEq, V.int.injEq, Bool.not_true, Bool.not_false, true_and, and_true, and_self, Bool.and_true, Bool.and_false, Bool.true_and, Bool.false_and, Bool.or_true, Bool.or_false, Bool.true_or, Bool.false_or, Bool.false_eq_true, Int.reduceLT, Int.reduceLE, Int.reduceToNat, Int.reduceNeg, shut_plain, freeL_cons, freeL_nil, free_int, free_bool, free_agg, free_str, free_nils, free_tup, free_sl, true_implies, false_implies, Nat.sub_zero, Int.natCast_nonneg, Int.toNat_natCast, Nat.le_refl, not_true_eq_false, Int.reduceAdd, Int.reduceSub, Int.reduceMul, wrap64, false_and, and_false, cond_true, cond_false, Bool.cond_true_left, Bool.cond_false_right, Int.reduceBNe, Int.reduceBEq, decide_true, decide_false, Int.cast_ofNat_Int, Nat.mul_one, eq_self, Bool.true_eq_false, Bool.not_eq_true, Bool.not_eq_false, deads, List.replicate, argsF, g1, hia, hoc, hle, hld, hia', hoc', hle', hld', c26, x4, hi1, hlt]
  · have e : i = L.length := by omega
    subst e
    have g1 : decide ((L.length : Int) < (L.length : Int)) = false := decide_eq_false (by omega)
    simp +contextual -implicitDefEqProofs (maxSteps := 10000000) only [sx_seq, sxL_succ, lpQ_norm, lpQ_exit, lpQ_ret, loopQ_norm, loopQ_exit, loopQ_ret, sqQ_norm, sqQ_ret, sqQ_exit, sx_block, blkQ_norm, blkQ_exit, blkQ_ret, sx_cond, cdP_true, cdP_false, cdP_bool, sx_region, sx_draw, plainD, List.all_cons, List.all_nil, List.isEmpty_nil, List.isEmpty_cons, sxo_nil, sxo_cons, sxo_guard, gdS_bool, gdS_eff, gdS_tup, gdS_sel, gdS_seleff, sxK_def, wcall_some, effP_ret, effP_set, effP_none, effP_ite, wop_call, wop_cv, cvP_func, sx_ret, sx_exit, sx_skip, sx_clr, sx_fresh, stays, ↓selV_wt, ↓selV_wf, ↓impB_wt, ↓impB_wf, ↓selV_nor, ↓impB_nor, ↓selV_nt, ↓selV_nf, ↓impB_nt, ↓impB_nf, wantB_true, wantB_false, ↓selV_true, ↓selV_false, ↓selV_and, ↓impB_true, ↓impB_false, ↓impB_and, impB_triv, valOf_some, retH_some, ↓prim_pick, pickO_true, pickO_false, pickO_and, pickO_or, pickO_andr, pickO_orr, pickO_orrn, pickO_orn, pickO_bb, pickAnd_bool, pickOr_bool, ↓selV_nn, ↓impB_nn, Bool.and_assoc, Bool.or_assoc, doOp, ev_fr, ev_cst, put_none, put_fr, get, ins, del, dels, Nat.reduceLT, Nat.reduceEqDiff, ↓reduceIte, reduceCtorEq, ne_eq, not_false_eq_true, implies_true, framed_pureF, framed_fb, framed_N, framed_pure, wop_prim, prim, YLD, mkA, V.cells, List.getElem?_cons_zero, List.getElem?_cons_succ, List.set_cons_zero, List.set_cons_succ, Nat.zero_add, Nat.add_zero, Nat.reduceAdd, Nat.reduceSub, Nat.reduceMul, Nat.reduceLeDiff, Nat.not_lt_zero, List.map_cons, List.map_nil, List.cons_append, List.nil_append, loadA, cellsAt, nAg, packA, opt_bind_some, opt_map_some, opt_bind_none, opt_map_none, List.drop, List.take, List.head?, List.length_cons, List.length_nil, binA, unA, eqCells, eqCell, negB, fillA, sr_nil, sr_cons, sr_succ, sr_all, sr_len, storeA, Ob.with, indexedI, V.oneCell, intOf?, retQ_ret, retQ_norm, resA, resA1, fr_getD, packR, sealDepth, shut_bool, shut_int, Option.some.injEq, V.bool.injEq, V.int.injEq, Bool.not_true, Bool.not_false, true_and, and_true, and_self, Bool.and_true, Bool.and_false, Bool.true_and, Bool.false_and, Bool.or_true, Bool.or_false, Bool.true_or, Bool.false_or, Bool.false_eq_true, Int.reduceLT, Int.reduceLE, Int.reduceToNat, Int.reduceNeg, shut_plain, freeL_cons, freeL_nil, free_int, free_bool, free_agg, free_str, free_nils, free_tup, free_sl, true_implies, false_implies, Nat.sub_zero, Int.natCast_nonneg, Int.toNat_natCast, Nat.le_refl, not_true_eq_false, Int.reduceAdd, Int.reduceSub, Int.reduceMul, wrap64, false_and, and_false, cond_true, cond_false, Bool.cond_true_left, Bool.cond_false_right, Int.reduceBNe, Int.reduceBEq, decide_true, decide_false, Int.cast_ofNat_Int, Nat.mul_one, eq_self, Bool.true_eq_false, Bool.not_eq_true, Bool.not_eq_false, deads, List.replicate, argsF, g1]

end Go.Am.T

set_option linter.unusedVariables false
set_option linter.unusedSimpArgs false
set_option maxRecDepth 10000
namespace Go.Am.T
attribute [local congr] selV_congr impB_congr

theorem WRow.plain {H : Heap} {W : V} {L : List V} {R : List Nat} (h : WRow H W L R) (hB : Bods L) : ∀ o ∈ R, ∀ y, H[o]? = some y → y.bd.objs = [] := by
  rcases h with ⟨-, -, rfl⟩ | ⟨o, ver, x, rfl, ho, -, hx⟩
  · intro o ho; cases ho
  · intro o' h' y hy
    obtain rfl := List.mem_singleton.1 h'
    rw [ho] at hy
    cases hy
    show V.objsL (x ++ L) = []
    rw [objsL_app, hx, hB.objs]; rfl

set_option maxHeartbeats 1000000 in
theorem same_spec {N n : Nat} (hN : 1500 ≤ N) (hn : 3 ≤ n) {H : Heap} {a c : Nat} {s : Ses} {W W' : V} {L L' : List V} {R R' : List Nat} {B : List (List Int)} (ha : SAt H a s L W R) (hc : SAt H c s L' W' R') (hB : Bys B L) (hB' : Bys B L') (hL : L.length ≤ 1000) :
    callA am N n 20 [.ptr a 1 0, .ptr c 1 0] H = some (.bool true, H) := by
  obtain ⟨n, rfl⟩ : ∃ m, n = m + 1 := ⟨n - 1, by omega⟩
  have c1 := @is_spec N n (by omega) _ _ _ _ _ _ ha
  have c2 := @is_spec N n (by omega) _ _ _ _ _ _ hc
  have oa := ha.ob
  have oc := hc.ob
  have l1 := lt_of_get oa
  have l2 := lt_of_get oc
  have q3 : ∀ W, (s.cs W).length = 9 := fun _ => rfl
  have t1 : ∀ W, List.take 1 (List.drop 1 (s.cs W)) = [.int .i64 s.me] := fun _ => rfl
  have t2 : ∀ W, List.take 1 (List.drop 2 (s.cs W)) = [.int .i64 s.other] := fun _ => rfl
  have t3 : ∀ W, List.take 1 (List.drop 3 (s.cs W)) = [.int .i64 s.view] := fun _ => rfl
  have t4 : ∀ W, List.take 1 (List.drop 4 (s.cs W)) = [W] := fun _ => rfl
  have t5 : ∀ W, List.take 1 (List.drop 5 (s.cs W)) = [.int .i64 s.first] := fun _ => rfl
  have t6 : ∀ W, List.take 1 (List.drop 6 (s.cs W)) = [.int .i64 s.told] := fun _ => rfl
  have t7 : ∀ W, List.take 1 (List.drop 7 (s.cs W)) = [.int .i64 s.got] := fun _ => rfl
  have t8 : ∀ W, List.take 1 (List.drop 8 (s.cs W)) = [.bool s.owes] := fun _ => rfl
  have b1 : ∀ x : Bool, (!x == x) = false := by decide
  have b2 : ∀ x : Int, (x != x) = false := fun x => by simp
  have f25 : ∀ fb, ({ pureF := pureOf am, call := callA am N n, N := N, fb := fb } : Env).framed.call 25 [W, W', .func 26 [] []] H = some (.bool true, H) := fun fb => by
    have hR : V.objsL [W, W', .func 26 [] []] = R ++ R' := by
      show W.objs ++ (W'.objs ++ ((V.func 26 [] []).objs ++ [])) = R ++ R'
      rw [ha.row.objs, hc.row.objs]
      simp [V.objs, V.objsL]
    refine frame_keep0 pm25 hR ?_ rfl ?_
    · exact equal_spec hN (by omega) (ha.row.keep (fun o ho => keepOnly_in (by simp [ho]))) (hc.row.keep (fun o ho => keepOnly_in (by simp [ho]))) hB hB' hL
    · intro o ho y hy i hi
      rcases List.mem_append.1 ho with ho | ho
      · rw [ha.row.plain ha.bods o ho y hy] at hi; cases hi
      · rw [hc.row.plain hc.bods o ho y hy] at hi; cases hi
  have c25 := @equal_spec N n hN (by omega) _ _ _ _ _ _ _ _ ha.row hc.row hB hB' hL
  have w1 := ha.row.objs
  have w2 := hc.row.objs
  refine call_keep_eq at20 rfl rfl (by decide) (sx_wp ?_)
  simp +contextual -implicitDefEqProofs (maxSteps := 10000000) only [sx_seq, sxL_succ, lpQ_norm, lpQ_exit, lpQ_ret, loopQ_norm, loopQ_exit, loopQ_ret, sqQ_norm, sqQ_ret, sqQ_exit, sx_block, blkQ_norm, blkQ_exit, blkQ_ret, sx_cond, cdP_true, cdP_false, cdP_bool, sx_region, sx_draw, plainD, List.all_cons, List.all_nil, List.isEmpty_nil, List.isEmpty_cons, sxo_nil, sxo_cons, sxo_guard, gdS_bool, gdS_eff, gdS_tup, gdS_sel, gdS_seleff, sxK_def, wcall_some, effP_ret, effP_set, effP_none, effP_ite, wop_call, wop_cv, cvP_func, sx_ret, sx_exit, sx_skip, sx_clr, sx_fresh, stays, ↓selV_wt, ↓selV_wf, ↓impB_wt, ↓impB_wf, ↓selV_nor, ↓impB_nor, ↓selV_nt, ↓selV_nf, ↓impB_nt, ↓impB_nf, wantB_true, wantB_false, ↓selV_true, ↓selV_false, ↓selV_and, ↓impB_true, ↓impB_false, ↓impB_and, impB_triv, valOf_some, retH_some, ↓prim_pick, pickO_true, pickO_false, pickO_and, pickO_or, pickO_andr, pickO_orr, pickO_orrn, pickO_orn, pickO_bb, pickAnd_bool, pickOr_bool, ↓selV_nn, ↓impB_nn, Bool.and_assoc, Bool.or_assoc, doOp, ev_fr, ev_cst, put_none, put_fr, get, ins, del, dels, Nat.reduceLT, Nat.reduceEqDiff, ↓reduceIte, reduceCtorEq, ne_eq, not_false_eq_true, implies_true, framed_pureF, framed_fb, framed_N, framed_pure, wop_prim, prim, YLD, mkA, V.cells, List.getElem?_cons_zero, List.getElem?_cons_succ, List.set_cons_zero, List.set_cons_succ, Nat.zero_add, Nat.add_zero, Nat.reduceAdd, Nat.reduceSub, Nat.reduceMul, Nat.reduceLeDiff, Nat.not_lt_zero, List.map_cons, List.map_nil, List.cons_append, List.nil_append, loadA, cellsAt, nAg, packA, opt_bind_some, opt_map_some, opt_bind_none, opt_map_none, List.drop, List.take, List.head?, List.length_cons, List.length_nil, binA, unA, eqCells, eqCell, negB, fillA, sr_nil, sr_cons, sr_succ, sr_all, sr_len, storeA, Ob.with, indexedI, V.oneCell, intOf?, retQ_ret, retQ_norm, resA, resA1, fr_getD, packR, sealDepth, shut_bool, shut_int, Option.some.injEq, V.bool.injEq, V.int.injEq, Bool.not_true, Bool.not_false, true_and, and_true, and_self, Bool.and_true, Bool.and_false, Bool.true_and, Bool.false_and, Bool.or_true, Bool.or_false, Bool.true_or, Bool.false_or, Bool.false_eq_true, Int.reduceLT, Int.reduceLE, Int.reduceToNat, Int.reduceNeg, shut_plain, freeL_cons, freeL_nil, free_int, free_bool, free_agg, free_str, free_nils, free_tup, free_sl, true_implies, false_implies, Nat.sub_zero, Int.natCast_nonneg, Int.toNat_natCast, Nat.le_refl, not_true_eq_false, Int.reduceAdd, Int.reduceSub, Int.reduceMul, wrap64, false_and, and_false, cond_true, cond_false, Bool.cond_true_left, Bool.cond_false_right, Int.reduceBNe, Int.reduceBEq, decide_true, decide_false, Int.cast_ofNat_Int, Nat.mul_one, eq_self, Bool.true_eq_false, Bool.not_eq_true, Bool.not_eq_false, deads, List.replicate, argsF, am20, sx_drawd, reachC_nil, wpd_nil, wpd_cons, wdK_def, fpOf, fpV, fpCall, Fp.ok, disj, List.contains_cons, List.contains_nil, Nat.reduceBEq, List.all_append, V.objsL, V.objs,  List.getD_cons_zero, List.getD_cons_succ, List.append_nil, List.append_nil, c1, c2, pm22, isNil, oa, oc, q3, t1, t2, t3, t4, t5, t6, t7, t8, b1, b2, f25, c25, w1, w2, pm25, l1, l2, -List.drop, -List.take]

end Go.Am.T

set_option linter.unusedVariables false
set_option linter.unusedSimpArgs false
set_option maxRecDepth 10000
namespace Go.Am.T
attribute [local congr] selV_congr impB_congr

/-! ### Rows of bodies that may lie in objects of their own -/

/-- A body of these bytes, in an object or in none. -/
def El (H : Heap) (l : List Int) (e : V) : Prop := By l e ∨ ∃ o ver, l ≠ [] ∧ e = .view o ver 0 l.length 1 none ∧ H[o]? = some ⟨ver, .arr (l.map (V.int .u8))⟩

theorem El.shut {H : Heap} {l : List Int} {e : V} (h : El H l e) (d : Nat) : ∃ b, V.shut (fun o => H[o]?) (d + 2) e = some b ∧ By l b := by
  rcases h with h | ⟨o, ver, hl, rfl, ho⟩
  · exact ⟨e, shut_plain h.free, h⟩
  · refine ⟨.sl (l.map (V.int .u8)) 1 none, shut_view (by decide) ?_ (by simp) ?_, .inr ⟨_, rfl⟩⟩
    · intro e he
      obtain ⟨y, -, rfl⟩ := List.mem_map.1 he
      exact ⟨rfl, rfl, fun c hc => by cases hc with | head => exact ⟨rfl, rfl⟩ | tail _ h => cases h⟩
    · rw [flat_ints]
      simp only [loadA, cellsAt, ho, ↓reduceIte]
      rw [if_pos (by simp), List.drop_zero, List.take_of_length_le (by simp)]

/-- Elements of these bytes. -/
def Els (H : Heap) (B : List (List Int)) (L : List V) : Prop := L.length = B.length ∧ ∀ (i : Nat) (e : V) (l : List Int), L[i]? = some e → B[i]? = some l → El H l e

theorem Els.nil {H : Heap} : Els H [] [] := ⟨rfl, fun i e l h => by simp at h⟩

theorem Els.snoc {H : Heap} {B : List (List Int)} {L : List V} {l : List Int} {e : V} (h : Els H B L) (he : El H l e) : Els H (B ++ [l]) (L ++ [e]) := by
  refine ⟨by simp [h.1], fun i c m h1 h2 => ?_⟩
  by_cases hi : i < L.length
  · rw [List.getElem?_append_left hi] at h1
    rw [List.getElem?_append_left (by rw [← h.1]; exact hi)] at h2
    exact h.2 i c m h1 h2
  · rw [List.getElem?_append_right (by omega)] at h1
    rw [List.getElem?_append_right (by rw [← h.1]; omega), ← h.1] at h2
    obtain rfl := List.mem_singleton.1 (List.mem_of_getElem? h1)
    obtain rfl := List.mem_singleton.1 (List.mem_of_getElem? h2)
    exact he

theorem Els.keep {H H' : Heap} {B : List (List Int)} {L : List V} (h : Els H B L) (hk : ∀ o ∈ V.objsL L, H'[o]? = H[o]?) : Els H' B L := by
  refine ⟨h.1, fun i e l h1 h2 => ?_⟩
  rcases h.2 i e l h1 h2 with hb | ⟨o, ver, hl, rfl, ho⟩
  · exact .inl hb
  · exact .inr ⟨o, ver, hl, rfl, by rw [hk o (objsL_get h1 o (by simp [V.objs]))]; exact ho⟩

theorem Els.shut {H : Heap} (d : Nat) : ∀ {L : List V} {B : List (List Int)}, Els H B L → ∃ M : List V, L.mapM (V.shut (fun o => H[o]?) (d + 2)) = some M ∧ M.length = B.length ∧ ∀ (i : Nat) (b : V) (l : List Int), M[i]? = some b → B[i]? = some l → By l b
  | [], B, h => ⟨[], rfl, h.1, fun i b l h => by simp at h⟩
  | e :: L, [], h => by have := h.1; simp at this
  | e :: L, l :: B, h => by
    obtain ⟨b, h1, h2⟩ := (h.2 0 e l rfl rfl).shut d
    obtain ⟨M, m1, m2, m3⟩ := Els.shut d (L := L) (B := B) ⟨by simpa using h.1, fun i e l h1 h2 => h.2 (i + 1) e l (by simpa using h1) (by simpa using h2)⟩
    refine ⟨b :: M, by rw [List.mapM_cons, h1, m1]; rfl, by simp [m2], fun i c m h3 h4 => ?_⟩
    cases i with
    | zero => simp at h3 h4; subst h3; subst h4; exact h2
    | succ i => exact m3 i c m (by simpa using h3) (by simpa using h4)

/-- A row of them in an object. -/
def ERow (H : Heap) (W : V) (B : List (List Int)) : Prop :=
  (B = [] ∧ W = .nils) ∨ (B = [] ∧ ∃ o ver cs, W = .vend o ver 1 ∧ H[o]? = some ⟨ver, .arr cs⟩) ∨ ∃ o ver x L, B ≠ [] ∧ H[o]? = some ⟨ver, .arr (x ++ L)⟩ ∧ W = .view o ver x.length L.length 1 none ∧ Els H B L

theorem WRow.erow {H : Heap} {W : V} {L : List V} {R : List Nat} (h : WRow H W L R) {B : List (List Int)} (hE : Els H B L) : ERow H W B := by
  rcases h with ⟨rfl, rfl, -⟩ | ⟨o, ver, x, -, ho, ⟨rfl, rfl⟩ | ⟨hne, rfl⟩, -⟩
  · exact .inl ⟨List.length_eq_zero_iff.1 hE.1.symm, rfl⟩
  · exact .inr (.inl ⟨List.length_eq_zero_iff.1 hE.1.symm, o, ver, _, rfl, ho⟩)
  · refine .inr (.inr ⟨o, ver, x, L, ?_, ho, rfl, hE⟩)
    rintro rfl
    exact hne (List.length_eq_zero_iff.1 hE.1)

/-- A row as a value of its own: bodies of these bytes. -/
def SRow (S : V) (B : List (List Int)) : Prop := ∃ M : List V, IsL S 1 (M.map fun b => [b]) ∧ M.length = B.length ∧ ∀ (i : Nat) (b : V) (l : List Int), M[i]? = some b → B[i]? = some l → By l b

theorem map_free {M : List V} {B : List (List Int)} (hl : M.length = B.length) (h : ∀ (i : Nat) (b : V) (l : List Int), M[i]? = some b → B[i]? = some l → By l b) : ∀ b ∈ M, ∃ l, By l b := by
  intro b hb
  obtain ⟨i, hi, rfl⟩ := List.getElem_of_mem hb
  exact ⟨B[i]'(by omega), h i _ _ (List.getElem?_eq_getElem hi) (List.getElem?_eq_getElem (by omega))⟩

theorem ERow.shut {H : Heap} {W : V} {B : List (List Int)} (h : ERow H W B) (d : Nat) : ∃ S, V.shut (fun o => H[o]?) (d + 3) W = some S ∧ SRow S B ∧ S.free = true ∧ S.cells = [S] ∧ (∀ s, S ≠ .str s) ∧ S ≠ .junk ∧ (∀ s, S ≠ .agg s) := by
  rcases h with ⟨rfl, rfl⟩ | ⟨rfl, o, ver, cs, rfl, ho⟩ | ⟨o, ver, x, L, hB, ho, rfl, hE⟩
  · exact ⟨.nils, rfl, ⟨[], isL_nils 1, rfl, fun i b l h => by simp at h⟩, rfl, rfl, fun _ => V.noConfusion, V.noConfusion, fun _ => V.noConfusion⟩
  · refine ⟨.sl [] 1 none, ?_, ⟨[], isL_sl rfl rfl, rfl, fun i b l h => by simp at h⟩, rfl, rfl, fun _ => V.noConfusion, V.noConfusion, fun _ => V.noConfusion⟩
    have e : V.shut (fun o => H[o]?) (d + 3) (.vend o ver 1) = match cellsAt (fun o => H[o]?) o ver with | some _ => some (.sl [] 1 none) | none => none := rfl
    rw [e]
    simp [cellsAt, ho]
  · obtain ⟨M, m1, m2, m3⟩ := hE.shut d
    have hMb := map_free m2 m3
    have hlen : M.length = L.length := by rw [m2, hE.1]
    have hf : V.freeL M = true := freeL_of_mem fun c hc => by obtain ⟨l, hl⟩ := hMb c hc; exact hl.free
    have hcl : ∀ b ∈ M, b.cells = [b] := fun b hb => by obtain ⟨l, hl⟩ := hMb b hb; exact hl.cells
    have hone : M.all V.oneCell = true := by
      rw [List.all_eq_true]
      intro c hc
      obtain ⟨l, hl⟩ := hMb c hc
      exact hl.one
    have hld : loadA (fun o => H[o]?) (L.length * 1) (.ptr o ver x.length) = some L := by
      simp only [loadA, cellsAt, ho, ↓reduceIte]
      rw [if_pos (by simp), List.drop_left, List.take_of_length_le (by simp)]
    have hch : (List.range L.length).map (fun i => wrapV ((M.drop (i * 1)).take 1)) = M := by
      rw [← hlen]
      apply List.ext_getElem?
      intro i
      rw [List.getElem?_map]
      rcases Nat.lt_or_ge i M.length with hi | hi
      · rw [List.getElem?_range hi, List.getElem?_eq_getElem hi]
        simp only [Option.map_some, Nat.mul_one]
        rw [List.drop_eq_getElem_cons hi]
        rfl
      · rw [List.getElem?_eq_none (by simpa using hi), List.getElem?_eq_none hi]; rfl
    have e : V.shut (fun o => H[o]?) (d + 3) (.view o ver x.length L.length 1 none) = match loadA (fun o => H[o]?) (L.length * 1) (.ptr o ver x.length) with
      | some cs => match cs.mapM (V.shut (fun o => H[o]?) (d + 2)) with
        | some cs => if cs.all V.oneCell then some (.sl ((List.range L.length).map fun i => wrapV ((cs.drop (i * 1)).take 1)) 1 none) else none
        | none => none
      | none => none := rfl
    refine ⟨.sl M 1 none, ?_, ⟨M, isL_sl hf ?_, m2, m3⟩, hf, rfl, fun _ => V.noConfusion, V.noConfusion, fun _ => V.noConfusion⟩
    · rw [e, hld]
      simp only [m1, hone, ↓reduceIte, hch]
    · exact List.map_congr_left fun b hb => hcl b hb

end Go.Am.T

set_option linter.unusedVariables false
set_option linter.unusedSimpArgs false
set_option maxRecDepth 10000
namespace Go.Am.T
attribute [local congr] selV_congr impB_congr

theorem SRow.len {S : V} {B : List (List Int)} (h : SRow S B) : lenA S = some B.length := by
  obtain ⟨M, h1, h2, -⟩ := h
  have := h1.len
  rw [List.length_map, h2] at this
  exact this
theorem SRow.at_ {S : V} {B : List (List Int)} (h : SRow S B) {i : Nat} {l : List Int} (hi : B[i]? = some l) : ∃ b, iaddrSA 1 S (.int .i64 i) = some (.ret (.iptr [b] 0)) ∧ By l b := by
  obtain ⟨M, h1, h2, h3⟩ := h
  have hlt := (List.getElem?_eq_some_iff.1 hi).1
  have hm : M[i]? = some (M[i]'(by omega)) := List.getElem?_eq_getElem _
  refine ⟨M[i]'(by omega), ?_, h3 i _ _ hm hi⟩
  rw [h1.at_ i, List.getElem?_map, hm]; rfl

set_option maxHeartbeats 2000000 in
theorem right_i {N n : Nat} (hN : 1500 ≤ N) (hn : 1 ≤ n) {x0 x1 on S0 S1 O0 O1 : V} {A0 A1 B0 B1 : List (List Int)} (hfree : V.freeL [x0, x1, on, S0, S1, O0, O1] = true) (hS0 : SRow S0 A0) (hS1 : SRow S1 A1) (hO0 : SRow O0 B0) (hO1 : SRow O1 B1)
    (nS0 : ∀ s, S0 ≠ .str s) (nS1 : ∀ s, S1 ≠ .str s) (nO0 : ∀ s, O0 ≠ .str s) (nO1 : ∀ s, O1 ≠ .str s) {r0 r1 : List (List Int)} (p0 : A1 = B0 ++ r0) (p1 : A0 = B1 ++ r1) (hA0 : A0.length ≤ 1000) (hA1 : A1.length ≤ 1000)
    {args : List V} {h : Heap} (ha : args.mapM (V.shut (fun o => h[o]?) sealDepth) = some [.iptr [x0, x1, on, S0, S1, O0, O1] 0]) (hal : args.length = 1) : callA am N n 14 args h = some (.bool true, h) := by
  obtain ⟨n, rfl⟩ : ∃ m, n = m + 1 := ⟨n - 1, by omega⟩
  have s0 := hS0.len
  have s1 := hS1.len
  have o0 := hO0.len
  have o1 := hO1.len
  have g0 : decide ((B0.length : Int) > (A1.length : Int)) = false := decide_eq_false (by rw [p0]; simp; omega)
  have g1 : decide ((B1.length : Int) > (A0.length : Int)) = false := decide_eq_false (by rw [p1]; simp; omega)
  have hB0 : B0.length ≤ 1000 := by rw [p0] at hA1; simp at hA1; omega
  have hB1 : B1.length ≤ 1000 := by rw [p1] at hA0; simp at hA0; omega
  refine call_look at14 rfl hal (by decide) ha (sx_wp ?_)
  simp +contextual -implicitDefEqProofs (maxSteps := 10000000) only [sx_seq, sxL_succ, lpQ_norm, lpQ_exit, lpQ_ret, loopQ_norm, loopQ_exit, loopQ_ret, sqQ_norm, sqQ_ret, sqQ_exit, sx_block, blkQ_norm, blkQ_exit, blkQ_ret, sx_cond, cdP_true, cdP_false, cdP_bool, sx_region, sx_draw, plainD, List.all_cons, List.all_nil, List.isEmpty_nil, List.isEmpty_cons, sxo_nil, sxo_cons, sxo_guard, gdS_bool, gdS_eff, gdS_tup, gdS_sel, gdS_seleff, sxK_def, wcall_some, effP_ret, effP_set, effP_none, effP_ite, wop_call, wop_cv, cvP_func, sx_ret, sx_exit, sx_skip, sx_clr, sx_fresh, stays, ↓selV_wt, ↓selV_wf, ↓impB_wt, ↓impB_wf, ↓selV_nor, ↓impB_nor, ↓selV_nt, ↓selV_nf, ↓impB_nt, ↓impB_nf, wantB_true, wantB_false, ↓selV_true, ↓selV_false, ↓selV_and, ↓impB_true, ↓impB_false, ↓impB_and, impB_triv, valOf_some, retH_some, ↓prim_pick, pickO_true, pickO_false, pickO_and, pickO_or, pickO_andr, pickO_orr, pickO_orrn, pickO_orn, pickO_bb, pickAnd_bool, pickOr_bool, ↓selV_nn, ↓impB_nn, Bool.and_assoc, Bool.or_assoc, doOp, ev_fr, ev_cst, put_none, put_fr, get, ins, del, dels, Nat.reduceLT, Nat.reduceEqDiff, ↓reduceIte, reduceCtorEq, ne_eq, not_false_eq_true, implies_true, framed_pureF, framed_fb, framed_N, framed_pure, wop_prim, prim, YLD, mkA, V.cells, List.getElem?_cons_zero, List.getElem?_cons_succ, List.set_cons_zero, List.set_cons_succ, Nat.zero_add, Nat.add_zero, Nat.reduceAdd, Nat.reduceSub, Nat.reduceMul, Nat.reduceLeDiff, Nat.not_lt_zero, List.map_cons, List.map_nil, List.cons_append, List.nil_append, loadA, cellsAt, nAg, packA, opt_bind_some, opt_map_some, opt_bind_none, opt_map_none, List.drop, List.take, List.head?, List.length_cons, List.length_nil, binA, unA, eqCells, eqCell, negB, fillA, sr_nil, sr_cons, sr_succ, sr_all, sr_len, storeA, Ob.with, indexedI, V.oneCell, intOf?, retQ_ret, retQ_norm, resA, resA1, fr_getD, packR, sealDepth, shut_bool, shut_int, Option.some.injEq, V.bool.injEq, V.int.injEq, Bool.not_true, Bool.not_false, true_and, and_true, and_self, Bool.and_true, Bool.and_false, Bool.true_and, Bool.false_and, Bool.or_true, Bool.or_false, Bool.true_or, Bool.false_or, Bool.false_eq_true, Int.reduceLT, Int.reduceLE, Int.reduceToNat, Int.reduceNeg, shut_plain, freeL_cons, freeL_nil, free_int, free_bool, free_agg, free_str, free_nils, free_tup, free_sl, true_implies, false_implies, Nat.sub_zero, Int.natCast_nonneg, Int.toNat_natCast, Nat.le_refl, not_true_eq_false, Int.reduceAdd, Int.reduceSub, Int.reduceMul, wrap64, false_and, and_false, cond_true, cond_false, Bool.cond_true_left, Bool.cond_false_right, Int.reduceBNe, Int.reduceBEq, decide_true, decide_false, Int.cast_ofNat_Int, Nat.mul_one, eq_self, Bool.true_eq_false, Bool.not_eq_true, Bool.not_eq_false, deads, List.replicate, argsF, am14]
  refine sx_unroll 3 (by show 3 ≤ N; omega) ?_
  simp +contextual -implicitDefEqProofs (maxSteps := 10000000) only [sx_seq, sxL_succ, lpQ_norm, lpQ_exit, lpQ_ret, loopQ_norm, loopQ_exit, loopQ_ret, sqQ_norm, sqQ_ret, sqQ_exit, sx_block, blkQ_norm, blkQ_exit, blkQ_ret, sx_cond, cdP_true, cdP_false, cdP_bool, sx_region, sx_draw, plainD, List.all_cons, List.all_nil, List.isEmpty_nil, List.isEmpty_cons, sxo_nil, sxo_cons, sxo_guard, gdS_bool, gdS_eff, gdS_tup, gdS_sel, gdS_seleff, sxK_def, wcall_some, effP_ret, effP_set, effP_none, effP_ite, wop_call, wop_cv, cvP_func, sx_ret, sx_exit, sx_skip, sx_clr, sx_fresh, stays, ↓selV_wt, ↓selV_wf, ↓impB_wt, ↓impB_wf, ↓selV_nor, ↓impB_nor, ↓selV_nt, ↓selV_nf, ↓impB_nt, ↓impB_nf, wantB_true, wantB_false, ↓selV_true, ↓selV_false, ↓selV_and, ↓impB_true, ↓impB_false, ↓impB_and, impB_triv, valOf_some, retH_some, ↓prim_pick, pickO_true, pickO_false, pickO_and, pickO_or, pickO_andr, pickO_orr, pickO_orrn, pickO_orn, pickO_bb, pickAnd_bool, pickOr_bool, ↓selV_nn, ↓impB_nn, Bool.and_assoc, Bool.or_assoc, doOp, ev_fr, ev_cst, put_none, put_fr, get, ins, del, dels, Nat.reduceLT, Nat.reduceEqDiff, ↓reduceIte, reduceCtorEq, ne_eq, not_false_eq_true, implies_true, framed_pureF, framed_fb, framed_N, framed_pure, wop_prim, prim, YLD, mkA, V.cells, List.getElem?_cons_zero, List.getElem?_cons_succ, List.set_cons_zero, List.set_cons_succ, Nat.zero_add, Nat.add_zero, Nat.reduceAdd, Nat.reduceSub, Nat.reduceMul, Nat.reduceLeDiff, Nat.not_lt_zero, List.map_cons, List.map_nil, List.cons_append, List.nil_append, loadA, cellsAt, nAg, packA, opt_bind_some, opt_map_some, opt_bind_none, opt_map_none, List.drop, List.take, List.head?, List.length_cons, List.length_nil, binA, unA, eqCells, eqCell, negB, fillA, sr_nil, sr_cons, sr_succ, sr_all, sr_len, storeA, Ob.with, indexedI, V.oneCell, intOf?, retQ_ret, retQ_norm, resA, resA1, fr_getD, packR, sealDepth, shut_bool, shut_int, Option.some.injEq, V.bool.injEq, V.int.injEq, Bool.not_true, Bool.not_false, true_and, and_true, and_self, Bool.and_true, Bool.and_false, Bool.true_and, Bool.false_and, Bool.or_true, Bool.or_false, Bool.true_or, Bool.false_or, Bool.false_eq_true, Int.reduceLT, Int.reduceLE, Int.reduceToNat, Int.reduceNeg, shut_plain, freeL_cons, freeL_nil, free_int, free_bool, free_agg, free_str, free_nils, free_tup, free_sl, true_implies, false_implies, Nat.sub_zero, Int.natCast_nonneg, Int.toNat_natCast, Nat.le_refl, not_true_eq_false, Int.reduceAdd, Int.reduceSub, Int.reduceMul, wrap64, false_and, and_false, cond_true, cond_false, Bool.cond_true_left, Bool.cond_false_right, Int.reduceBNe, Int.reduceBEq, decide_true, decide_false, Int.cast_ofNat_Int, Nat.mul_one, eq_self, Bool.true_eq_false, Bool.not_eq_true, Bool.not_eq_false, deads, List.replicate, argsF, sx_drawd, reachC_nil, wpd_nil, wpd_cons, wdK_def, fpOf, fpV, fpCall, Fp.ok, disj, List.contains_cons, List.contains_nil, Nat.reduceBEq, List.all_append, V.objsL, V.objs,  List.getD_cons_zero, List.getD_cons_succ, List.append_nil, isNil, o0, s1, g0]
  refine sx_loop (fun i t H => t = fr 46 [(0, .iptr [x0, x1, on, S0, S1, O0, O1] 0), (3, .int .i64 0), (4, O0), (5, S1), (6, .int .i64 i)] ∧ i ≤ B0.length ∧ H = []) B0.length (by show B0.length < N; omega) ⟨rfl, Nat.zero_le _, rfl⟩ ?_
  rintro i t H hi ⟨rfl, hiB, rfl⟩
  by_cases hlt : i < B0.length
  · have d1 : decide ((i : Int) < (B0.length : Int)) = true := decide_eq_true (by omega)
    have w4 : IntKind.i64.wrap ((i : Int) + 1) = ((i + 1 : Nat) : Int) := (wrap64 (by omega) (by omega)).trans (by omega)
    have hi1 : i + 1 ≤ B0.length := by omega
    obtain ⟨l, hl⟩ : ∃ l, B0[i]? = some l := ⟨_, List.getElem?_eq_getElem hlt⟩
    obtain ⟨b, hb1, hb⟩ := hO0.at_ hl
    obtain ⟨c, hc1, hc⟩ := hS1.at_ (i := i) (l := l) (by rw [p0, List.getElem?_append_left hlt]; exact hl)
    have q1 := prim_b2s hb
    have q2 := prim_b2s hc
    have k1 := hb.njunk
    have k2 := hc.njunk
    have e0 : (strB l == strB l) = true := by simp
    simp +contextual -implicitDefEqProofs (maxSteps := 10000000) only [sx_seq, sxL_succ, lpQ_norm, lpQ_exit, lpQ_ret, loopQ_norm, loopQ_exit, loopQ_ret, sqQ_norm, sqQ_ret, sqQ_exit, sx_block, blkQ_norm, blkQ_exit, blkQ_ret, sx_cond, cdP_true, cdP_false, cdP_bool, sx_region, sx_draw, plainD, List.all_cons, List.all_nil, List.isEmpty_nil, List.isEmpty_cons, sxo_nil, sxo_cons, sxo_guard, gdS_bool, gdS_eff, gdS_tup, gdS_sel, gdS_seleff, sxK_def, wcall_some, effP_ret, effP_set, effP_none, effP_ite, wop_call, wop_cv, cvP_func, sx_ret, sx_exit, sx_skip, sx_clr, sx_fresh, stays, ↓selV_wt, ↓selV_wf, ↓impB_wt, ↓impB_wf, ↓selV_nor, ↓impB_nor, ↓selV_nt, ↓selV_nf, ↓impB_nt, ↓impB_nf, wantB_true, wantB_false, ↓selV_true, ↓selV_false, ↓selV_and, ↓impB_true, ↓impB_false, ↓impB_and, impB_triv, valOf_some, retH_some, ↓prim_pick, pickO_true, pickO_false, pickO_and, pickO_or, pickO_andr, pickO_orr, pickO_orrn, pickO_orn, pickO_bb, pickAnd_bool, pickOr_bool, ↓selV_nn, ↓impB_nn, Bool.and_assoc, Bool.or_assoc, doOp, ev_fr, ev_cst, put_none, put_fr, get, ins, del, dels, Nat.reduceLT, Nat.reduceEqDiff, ↓reduceIte, reduceCtorEq, ne_eq, not_false_eq_true, implies_true, framed_pureF, framed_fb, framed_N, framed_pure, wop_prim, prim, YLD, mkA, V.cells, List.getElem?_cons_zero, List.getElem?_cons_succ, List.set_cons_zero, List.set_cons_succ, Nat.zero_add, Nat.add_zero, Nat.reduceAdd, Nat.reduceSub, Nat.reduceMul, Nat.reduceLeDiff, Nat.not_lt_zero, List.map_cons, List.map_nil, List.cons_append, List.nil_append, loadA, cellsAt, nAg, packA, opt_bind_some, opt_map_some, opt_bind_none, opt_map_none, List.drop, List.take, List.head?, List.length_cons, List.length_nil, binA, unA, eqCells, eqCell, negB, fillA, sr_nil, sr_cons, sr_succ, sr_all, sr_len, storeA, Ob.with, indexedI, V.oneCell, intOf?, retQ_ret, retQ_norm, resA, resA1, fr_getD, packR, sealDepth, shut_bool, shut_int, Option.some.injEq, V.bool.injEq, V.int.injEq, Bool.not_true, Bool.not_false, true_and, and_true, and_self, Bool.and_true, Bool.and_false, Bool.true_and, Bool.false_and, Bool.or_true, Bool.or_false, Bool.true_or, Bool.false_or, Bool.false_eq_true, Int.reduceLT, Int.reduceLE, Int.reduceToNat, Int.reduceNeg, shut_plain, freeL_cons, freeL_nil, free_int, free_bool, free_agg, free_str, free_nils, free_tup, free_sl, true_implies, false_implies, Nat.sub_zero, Int.natCast_nonneg, Int.toNat_natCast, Nat.le_refl, not_true_eq_false, Int.reduceAdd, Int.reduceSub, Int.reduceMul, wrap64, false_and, and_false, cond_true, cond_false, Bool.cond_true_left, Bool.cond_false_right, Int.reduceBNe, Int.reduceBEq, decide_true, decide_false, Int.cast_ofNat_Int, Nat.mul_one, eq_self, Bool.true_eq_false, Bool.not_eq_true, Bool.not_eq_false, deads, List.replicate, argsF, sx_drawd, reachC_nil, wpd_nil, wpd_cons, wdK_def, fpOf, fpV, fpCall, Fp.ok, disj, List.contains_cons, List.contains_nil, Nat.reduceBEq, List.all_append, V.objsL, V.objs,  List.getD_cons_zero, List.getD_cons_succ, List.append_nil, o0, d1, hb1, hc1, ↓q1, ↓q2, e0, w4, hi1, hlt]
  have e : i = B0.length := by omega
  subst e
  have d1 : decide ((B0.length : Int) < (B0.length : Int)) = false := decide_eq_false (by omega)
  simp +contextual -implicitDefEqProofs (maxSteps := 10000000) only [sx_seq, sxL_succ, lpQ_norm, lpQ_exit, lpQ_ret, loopQ_norm, loopQ_exit, loopQ_ret, sqQ_norm, sqQ_ret, sqQ_exit, sx_block, blkQ_norm, blkQ_exit, blkQ_ret, sx_cond, cdP_true, cdP_false, cdP_bool, sx_region, sx_draw, plainD, List.all_cons, List.all_nil, List.isEmpty_nil, List.isEmpty_cons, sxo_nil, sxo_cons, sxo_guard, gdS_bool, gdS_eff, gdS_tup, gdS_sel, gdS_seleff, sxK_def, wcall_some, effP_ret, effP_set, effP_none, effP_ite, wop_call, wop_cv, cvP_func, sx_ret, sx_exit, sx_skip, sx_clr, sx_fresh, stays, ↓selV_wt, ↓selV_wf, ↓impB_wt, ↓impB_wf, ↓selV_nor, ↓impB_nor, ↓selV_nt, ↓selV_nf, ↓impB_nt, ↓impB_nf, wantB_true, wantB_false, ↓selV_true, ↓selV_false, ↓selV_and, ↓impB_true, ↓impB_false, ↓impB_and, impB_triv, valOf_some, retH_some, ↓prim_pick, pickO_true, pickO_false, pickO_and, pickO_or, pickO_andr, pickO_orr, pickO_orrn, pickO_orn, pickO_bb, pickAnd_bool, pickOr_bool, ↓selV_nn, ↓impB_nn, Bool.and_assoc, Bool.or_assoc, doOp, ev_fr, ev_cst, put_none, put_fr, get, ins, del, dels, Nat.reduceLT, Nat.reduceEqDiff, ↓reduceIte, reduceCtorEq, ne_eq, not_false_eq_true, implies_true, framed_pureF, framed_fb, framed_N, framed_pure, wop_prim, prim, YLD, mkA, V.cells, List.getElem?_cons_zero, List.getElem?_cons_succ, List.set_cons_zero, List.set_cons_succ, Nat.zero_add, Nat.add_zero, Nat.reduceAdd, Nat.reduceSub, Nat.reduceMul, Nat.reduceLeDiff, Nat.not_lt_zero, List.map_cons, List.map_nil, List.cons_append, List.nil_append, loadA, cellsAt, nAg, packA, opt_bind_some, opt_map_some, opt_bind_none, opt_map_none, List.drop, List.take, List.head?, List.length_cons, List.length_nil, binA, unA, eqCells, eqCell, negB, fillA, sr_nil, sr_cons, sr_succ, sr_all, sr_len, storeA, Ob.with, indexedI, V.oneCell, intOf?, retQ_ret, retQ_norm, resA, resA1, fr_getD, packR, sealDepth, shut_bool, shut_int, Option.some.injEq, V.bool.injEq, V.int.injEq, Bool.not_true, Bool.not_false, true_and, and_true, and_self, Bool.and_true, Bool.and_false, Bool.true_and, Bool.false_and, Bool.or_true, Bool.or_false, Bool.true_or, Bool.false_or, Bool.false_eq_true, Int.reduceLT, Int.reduceLE, Int.reduceToNat, Int.reduceNeg, shut_plain, freeL_cons, freeL_nil, free_int, free_bool, free_agg, free_str, free_nils, free_tup, free_sl, true_implies, false_implies, Nat.sub_zero, Int.natCast_nonneg, Int.toNat_natCast, Nat.le_refl, not_true_eq_false, Int.reduceAdd, Int.reduceSub, Int.reduceMul, wrap64, false_and, and_false, cond_true, cond_false, Bool.cond_true_left, Bool.cond_false_right, Int.reduceBNe, Int.reduceBEq, decide_true, decide_false, Int.cast_ofNat_Int, Nat.mul_one, eq_self, Bool.true_eq_false, Bool.not_eq_true, Bool.not_eq_false, deads, List.replicate, argsF, sx_drawd, reachC_nil, wpd_nil, wpd_cons, wdK_def, fpOf, fpV, fpCall, Fp.ok, disj, List.contains_cons, List.contains_nil, Nat.reduceBEq, List.all_append, V.objsL, V.objs,  List.getD_cons_zero, List.getD_cons_succ, List.append_nil, isNil, o0, d1, o1, s0, g1]
  refine sx_loop (fun i t H => t = fr 46 [(0, .iptr [x0, x1, on, S0, S1, O0, O1] 0), (3, .int .i64 1), (4, O1), (5, S0), (6, .int .i64 i)] ∧ i ≤ B1.length ∧ H = []) B1.length (by show B1.length < N; omega) ⟨rfl, Nat.zero_le _, rfl⟩ ?_
  rintro i t H hi ⟨rfl, hiB, rfl⟩
  by_cases hlt : i < B1.length
  · have d1 : decide ((i : Int) < (B1.length : Int)) = true := decide_eq_true (by omega)
    have w4 : IntKind.i64.wrap ((i : Int) + 1) = ((i + 1 : Nat) : Int) := (wrap64 (by omega) (by omega)).trans (by omega)
    have hi1 : i + 1 ≤ B1.length := by omega
    obtain ⟨l, hl⟩ : ∃ l, B1[i]? = some l := ⟨_, List.getElem?_eq_getElem hlt⟩
    obtain ⟨b, hb1, hb⟩ := hO1.at_ hl
    obtain ⟨c, hc1, hc⟩ := hS0.at_ (i := i) (l := l) (by rw [p1, List.getElem?_append_left hlt]; exact hl)
    have q1 := prim_b2s hb
    have q2 := prim_b2s hc
    have k1 := hb.njunk
    have k2 := hc.njunk
    have e0 : (strB l == strB l) = true := by simp
    simp +contextual -implicitDefEqProofs (maxSteps := 10000000) only [sx_seq, sxL_succ, lpQ_norm, lpQ_exit, lpQ_ret, loopQ_norm, loopQ_exit, loopQ_ret, sqQ_norm, sqQ_ret, sqQ_exit, sx_block, blkQ_norm, blkQ_exit, blkQ_ret, sx_cond, cdP_true, cdP_false, cdP_bool, sx_region, sx_draw, plainD, List.all_cons, List.all_nil, List.isEmpty_nil, List.isEmpty_cons, sxo_nil, sxo_cons, sxo_guard, gdS_bool, gdS_eff, gdS_tup, gdS_sel, gdS_seleff, sxK_def, wcall_some, effP_ret, effP_set, effP_none, effP_ite, wop_call, wop_cv, cvP_func, sx_ret, sx_exit, sx_skip, sx_clr, sx_fresh, stays, ↓selV_wt, ↓selV_wf, ↓impB_wt, ↓impB_wf, ↓selV_nor, ↓impB_nor, ↓selV_nt, ↓selV_nf, ↓impB_nt, ↓impB_nf, wantB_true, wantB_false, ↓selV_true, ↓selV_false, ↓selV_and, ↓impB_true, ↓impB_false, ↓impB_and, impB_triv, valOf_some, retH_some, ↓prim_pick, pickO_true, pickO_false, pickO_and, pickO_or, pickO_andr, pickO_orr, pickO_orrn, pickO_orn, pickO_bb, pickAnd_bool, pickOr_bool, ↓selV_nn, ↓impB_nn, Bool.and_assoc, Bool.or_assoc, doOp, ev_fr, ev_cst, put_none, put_fr, get, ins, del, dels, Nat.reduceLT, Nat.reduceEqDiff, ↓reduceIte, reduceCtorEq, ne_eq, not_false_eq_true, implies_true, framed_pureF, framed_fb, framed_N, framed_pure, wop_prim, prim, YLD, mkA, V.cells, List.getElem?_cons_zero, List.getElem?_cons_succ, List.set_cons_zero, List.set_cons_succ, Nat.zero_add, Nat.add_zero, Nat.reduceAdd, Nat.reduceSub, Nat.reduceMul, Nat.reduceLeDiff, Nat.not_lt_zero, List.map_cons, List.map_nil, List.cons_append, List.nil_append, loadA, cellsAt, nAg, packA, opt_bind_some, opt_map_some, opt_bind_none, opt_map_none, List.drop, List.take, List.head?, List.length_cons, List.length_nil, binA, unA, eqCells, eqCell, negB, fillA, sr_nil, sr_cons, sr_succ, sr_all, sr_len, storeA, Ob.with, indexedI, V.oneCell, intOf?, retQ_ret, retQ_norm, resA, resA1, fr_getD, packR, sealDepth, shut_bool, shut_int, Option.some.injEq, V.bool.injEq, V.int.injEq, Bool.not_true, Bool.not_false, true_and, and_true, and_self, Bool.and_true, Bool.and_false, Bool.true_and, Bool.false_and, Bool.or_true, Bool.or_false, Bool.true_or, Bool.false_or, Bool.false_eq_true, Int.reduceLT, Int.reduceLE, Int.reduceToNat, Int.reduceNeg, shut_plain, freeL_cons, freeL_nil, free_int, free_bool, free_agg, free_str, free_nils, free_tup, free_sl, true_implies, false_implies, Nat.sub_zero, Int.natCast_nonneg, Int.toNat_natCast, Nat.le_refl, not_true_eq_false, Int.reduceAdd, Int.reduceSub, Int.reduceMul, wrap64, false_and, and_false, cond_true, cond_false, Bool.cond_true_left, Bool.cond_false_right, Int.reduceBNe, Int.reduceBEq, decide_true, decide_false, Int.cast_ofNat_Int, Nat.mul_one, eq_self, Bool.true_eq_false, Bool.not_eq_true, Bool.not_eq_false, deads, List.replicate, argsF, sx_drawd, reachC_nil, wpd_nil, wpd_cons, wdK_def, fpOf, fpV, fpCall, Fp.ok, disj, List.contains_cons, List.contains_nil, Nat.reduceBEq, List.all_append, V.objsL, V.objs,  List.getD_cons_zero, List.getD_cons_succ, List.append_nil, o1, d1, hb1, hc1, ↓q1, ↓q2, e0, w4, hi1, hlt]
  have e : i = B1.length := by omega
  subst e
  have d1 : decide ((B1.length : Int) < (B1.length : Int)) = false := decide_eq_false (by omega)
  simp +contextual -implicitDefEqProofs (maxSteps := 10000000) only [sx_seq, sxL_succ, lpQ_norm, lpQ_exit, lpQ_ret, loopQ_norm, loopQ_exit, loopQ_ret, sqQ_norm, sqQ_ret, sqQ_exit, sx_block, blkQ_norm, blkQ_exit, blkQ_ret, sx_cond, cdP_true, cdP_false, cdP_bool, sx_region, sx_draw, plainD, List.all_cons, List.all_nil, List.isEmpty_nil, List.isEmpty_cons, sxo_nil, sxo_cons, sxo_guard, gdS_bool, gdS_eff, gdS_tup, gdS_sel, gdS_seleff, sxK_def, wcall_some, effP_ret, effP_set, effP_none, effP_ite, wop_call, wop_cv, cvP_func, sx_ret, sx_exit, sx_skip, sx_clr, sx_fresh, stays, ↓selV_wt, ↓selV_wf, ↓impB_wt, ↓impB_wf, ↓selV_nor, ↓impB_nor, ↓selV_nt, ↓selV_nf, ↓impB_nt, ↓impB_nf, wantB_true, wantB_false, ↓selV_true, ↓selV_false, ↓selV_and, ↓impB_true, ↓impB_false, ↓impB_and, impB_triv, valOf_some, retH_some, ↓prim_pick, pickO_true, pickO_false, pickO_and, pickO_or, pickO_andr, pickO_orr, pickO_orrn, pickO_orn, pickO_bb, pickAnd_bool, pickOr_bool, ↓selV_nn, ↓impB_nn, Bool.and_assoc, Bool.or_assoc, doOp, ev_fr, ev_cst, put_none, put_fr, get, ins, del, dels, Nat.reduceLT, Nat.reduceEqDiff, ↓reduceIte, reduceCtorEq, ne_eq, not_false_eq_true, implies_true, framed_pureF, framed_fb, framed_N, framed_pure, wop_prim, prim, YLD, mkA, V.cells, List.getElem?_cons_zero, List.getElem?_cons_succ, List.set_cons_zero, List.set_cons_succ, Nat.zero_add, Nat.add_zero, Nat.reduceAdd, Nat.reduceSub, Nat.reduceMul, Nat.reduceLeDiff, Nat.not_lt_zero, List.map_cons, List.map_nil, List.cons_append, List.nil_append, loadA, cellsAt, nAg, packA, opt_bind_some, opt_map_some, opt_bind_none, opt_map_none, List.drop, List.take, List.head?, List.length_cons, List.length_nil, binA, unA, eqCells, eqCell, negB, fillA, sr_nil, sr_cons, sr_succ, sr_all, sr_len, storeA, Ob.with, indexedI, V.oneCell, intOf?, retQ_ret, retQ_norm, resA, resA1, fr_getD, packR, sealDepth, shut_bool, shut_int, Option.some.injEq, V.bool.injEq, V.int.injEq, Bool.not_true, Bool.not_false, true_and, and_true, and_self, Bool.and_true, Bool.and_false, Bool.true_and, Bool.false_and, Bool.or_true, Bool.or_false, Bool.true_or, Bool.false_or, Bool.false_eq_true, Int.reduceLT, Int.reduceLE, Int.reduceToNat, Int.reduceNeg, shut_plain, freeL_cons, freeL_nil, free_int, free_bool, free_agg, free_str, free_nils, free_tup, free_sl, true_implies, false_implies, Nat.sub_zero, Int.natCast_nonneg, Int.toNat_natCast, Nat.le_refl, not_true_eq_false, Int.reduceAdd, Int.reduceSub, Int.reduceMul, wrap64, false_and, and_false, cond_true, cond_false, Bool.cond_true_left, Bool.cond_false_right, Int.reduceBNe, Int.reduceBEq, decide_true, decide_false, Int.cast_ofNat_Int, Nat.mul_one, eq_self, Bool.true_eq_false, Bool.not_eq_true, Bool.not_eq_false, deads, List.replicate, argsF, sx_drawd, reachC_nil, wpd_nil, wpd_cons, wdK_def, fpOf, fpV, fpCall, Fp.ok, disj, List.contains_cons, List.contains_nil, Nat.reduceBEq, List.all_append, V.objsL, V.objs,  List.getD_cons_zero, List.getD_cons_succ, List.append_nil, isNil, o1, d1, plain_bool]

end Go.Am.T

set_option linter.unusedVariables false
set_option linter.unusedSimpArgs false
set_option maxRecDepth 10000
namespace Go.Am.T
attribute [local congr] selV_congr impB_congr

/-- Both ends' cells. -/
def twoC (a c : Nat) (on S0 S1 O0 O1 : V) : List V := [.ptr a 1 0, .ptr c 1 0, on, S0, S1, O0, O1]

/-- What lies apart. -/
structure Sep (w a : Nat) (R Ro : List Nat) : Prop where
  wa : w ≠ a
  wR : w ∉ R
  aO : a ∉ Ro
  wO : w ∉ Ro
  RO : ∀ o ∈ Ro, o ∉ R

/-- What a coming leaves of the memory. -/
structure ComeTo (H h' : Heap) (w a : Nat) (s : Ses) (L Lo Lo' : List V) (R Ro Ro' : List Nat) (O' : V) (d : Dg) (lb : List Int) : Prop where
  ses : ∃ W', SAt h' a (comeS s L.length d lb.length) (L.drop (comeK s L.length d lb.length)) W' R
  row : WRow h' O' Lo' Ro'
  out : (Lo' = Lo ∧ comeB s L.length d lb.length = false) ∨ ∃ b', By lb b' ∧ Lo' = Lo ++ [b'] ∧ comeB s L.length d lb.length = true
  len : H.length ≤ h'.length
  oth : ∀ o, o < H.length → o ≠ w → o ≠ a → o ∉ R → o ∉ Ro → h'[o]? = H[o]?
  new : ∀ o ∈ Ro', o ∈ Ro ∨ H.length ≤ o

theorem fp_row {H : Heap} {W : V} {L : List V} {R : List Nat} (h : WRow H W L R) {n : Nat} (hn : ∀ o ∈ R, o ≠ n) : (fpV W).all (fun x => !x == n) = true := by
  rcases h with ⟨rfl, rfl, rfl⟩ | ⟨o, ver, x, rfl, ho, ⟨rfl, rfl⟩ | ⟨-, rfl⟩, -⟩
  · rfl
  · have := hn o (by simp)
    simp [fpV]; omega
  · have := hn o (by simp)
    simp [fpV]; omega

theorem come_not {N n : Nat} (hn : 1 ≤ n) {w : Nat} {H : Heap} (d : Dg) {lb : List Int} {b : V} (hb : By lb b) (hd : d.to < 0 ∨ d.to > 1) :
    callA am N n 13 [.ptr w 1 0, .agg (d.cs b)] H = some (.tup [], H ++ [⟨1, .var (d.cs b)⟩, ⟨0, .dead⟩]) := by
  obtain ⟨n, rfl⟩ : ∃ m, n = m + 1 := ⟨n - 1, by omega⟩
  have q2 : (d.cs b).length = 6 := rfl
  have r1 : List.take 1 (List.drop 1 (d.cs b)) = [.int .i64 d.to] := rfl
  have g : (decide (d.to < 0) || decide (d.to > 1)) = true := by
    simp only [Bool.or_eq_true, decide_eq_true_eq]
    exact hd
  refine call_keep_eq at13 rfl rfl (by decide) (sx_wp ?_)
  simp +contextual -implicitDefEqProofs (maxSteps := 10000000) only [sx_seq, sxL_succ, lpQ_norm, lpQ_exit, lpQ_ret, loopQ_norm, loopQ_exit, loopQ_ret, sqQ_norm, sqQ_ret, sqQ_exit, sx_block, blkQ_norm, blkQ_exit, blkQ_ret, sx_cond, cdP_true, cdP_false, cdP_bool, sx_region, sx_draw, plainD, List.all_cons, List.all_nil, List.isEmpty_nil, List.isEmpty_cons, sxo_nil, sxo_cons, sxo_guard, gdS_bool, gdS_eff, gdS_tup, gdS_sel, gdS_seleff, sxK_def, wcall_some, effP_ret, effP_set, effP_none, effP_ite, wop_call, wop_cv, cvP_func, sx_ret, sx_exit, sx_skip, sx_clr, sx_fresh, stays, ↓selV_wt, ↓selV_wf, ↓impB_wt, ↓impB_wf, ↓selV_nor, ↓impB_nor, ↓selV_nt, ↓selV_nf, ↓impB_nt, ↓impB_nf, wantB_true, wantB_false, ↓selV_true, ↓selV_false, ↓selV_and, ↓impB_true, ↓impB_false, ↓impB_and, impB_triv, valOf_some, retH_some, ↓prim_pick, pickO_true, pickO_false, pickO_and, pickO_or, pickO_andr, pickO_orr, pickO_orrn, pickO_orn, pickO_bb, pickAnd_bool, pickOr_bool, ↓selV_nn, ↓impB_nn, Bool.and_assoc, Bool.or_assoc, doOp, ev_fr, ev_cst, put_none, put_fr, get, ins, del, dels, Nat.reduceLT, Nat.reduceEqDiff, ↓reduceIte, reduceCtorEq, ne_eq, not_false_eq_true, implies_true, framed_pureF, framed_fb, framed_N, framed_pure, wop_prim, prim, YLD, mkA, V.cells, List.getElem?_cons_zero, List.getElem?_cons_succ, List.set_cons_zero, List.set_cons_succ, Nat.zero_add, Nat.add_zero, Nat.reduceAdd, Nat.reduceSub, Nat.reduceMul, Nat.reduceLeDiff, Nat.not_lt_zero, List.map_cons, List.map_nil, List.cons_append, List.nil_append, loadA, cellsAt, nAg, packA, opt_bind_some, opt_map_some, opt_bind_none, opt_map_none, List.drop, List.take, List.head?, List.length_cons, List.length_nil, binA, unA, eqCells, eqCell, negB, fillA, sr_nil, sr_cons, sr_succ, sr_all, sr_len, storeA, Ob.with, indexedI, V.oneCell, intOf?, retQ_ret, retQ_norm, resA, resA1, fr_getD, packR, sealDepth, shut_bool, shut_int, Option.some.injEq, V.bool.injEq, V.int.injEq, Bool.not_true, Bool.not_false, true_and, and_true, and_self, Bool.and_true, Bool.and_false, Bool.true_and, Bool.false_and, Bool.or_true, Bool.or_false, Bool.true_or, Bool.false_or, Bool.false_eq_true, Int.reduceLT, Int.reduceLE, Int.reduceToNat, Int.reduceNeg, shut_plain, freeL_cons, freeL_nil, free_int, free_bool, free_agg, free_str, free_nils, free_tup, free_sl, true_implies, false_implies, Nat.sub_zero, Int.natCast_nonneg, Int.toNat_natCast, Nat.le_refl, not_true_eq_false, Int.reduceAdd, Int.reduceSub, Int.reduceMul, wrap64, false_and, and_false, cond_true, cond_false, Bool.cond_true_left, Bool.cond_false_right, Int.reduceBNe, Int.reduceBEq, decide_true, decide_false, Int.cast_ofNat_Int, Nat.mul_one, eq_self, Bool.true_eq_false, Bool.not_eq_true, Bool.not_eq_false, deads, List.replicate, argsF, am13, app_get0, app_get, app_set0, app_set, q2, r1, g, -List.drop, -List.take]

set_option maxHeartbeats 2000000 in
theorem come0_spec {N n : Nat} (hn : 4 ≤ n) {w a c : Nat} {on S0 S1 O0 O1 : V} {H : Heap} (hw : H[w]? = some ⟨1, .var (twoC a c on S0 S1 O0 O1)⟩) {s : Ses} {W : V} {L : List V} {R : List Nat} (ha : SAt H a s L W R) (hok : s.Ok L.length)
    {Lo : List V} {Ro : List Nat} (hO : WRow H O0 Lo Ro) (hLo : Lo.length ≤ 1000) (sep : Sep w a R Ro) (d : Dg) {lb : List Int} {b : V} (hb : By lb b) (hd : d.to = 0) :
    ∃ v' h', callA am N n 13 [.ptr w 1 0, .agg (d.cs b)] H = some (v', h') ∧ ∃ O' Lo' Ro', h'[w]? = some ⟨1, .var (twoC a c on S0 S1 O' O1)⟩ ∧ ComeTo H h' w a s L Lo Lo' R Ro Ro' O' d lb := by
  obtain ⟨n, rfl⟩ : ∃ m, n = m + 1 := ⟨n - 1, by omega⟩
  have hwl := lt_of_get hw
  have hal := lt_of_get ha.ob
  obtain ⟨h0, e0⟩ : ∃ h0, h0 = H ++ [(⟨1, .var (d.cs b)⟩ : Ob), ⟨0, .dead⟩] := ⟨_, rfl⟩
  have e0' := e0.symm
  have l0 : h0.length = H.length + 2 := by rw [e0]; simp
  have x0 : ∀ o, o < H.length → h0[o]? = H[o]? := fun o ho => by rw [e0, List.getElem?_append_left ho]
  have d0 : h0[H.length]? = some ⟨1, .var (d.cs b)⟩ := by rw [e0, app_get0]; rfl
  have d1 : h0[H.length + 1]? = some ⟨0, .dead⟩ := by rw [e0, app_get]; rfl
  have ha0 : SAt h0 a s L W R := by rw [e0]; exact ha.app _
  have hO0 : WRow h0 O0 Lo Ro := hO.keep (fun o ho => x0 o (hO.lt o ho))
  obtain ⟨v1, h1, c18, hv1, W', S1', be⟩ := @come_spec N n (by omega) _ _ _ _ _ _ ha0 hok d _ _ hb
  have hRl := ha.row.lt
  have hRol := hO.lt
  have w0 : h0[w]? = some ⟨1, .var (twoC a c on S0 S1 O0 O1)⟩ := by rw [x0 w hwl]; exact hw
  have w1 : h1[w]? = some ⟨1, .var (twoC a c on S0 S1 O0 O1)⟩ := by rw [be.oth w (by omega) sep.wa sep.wR]; exact w0
  have b1 : h1[H.length]? = some ⟨1, .var (d.cs b)⟩ := by rw [be.oth H.length (by omega) (by omega) (fun hm => by have := hRl _ hm; omega)]; exact d0
  have f1 : h1[H.length + 1]? = some ⟨0, .dead⟩ := by rw [be.oth (H.length + 1) (by omega) (by omega) (fun hm => by have := hRl _ hm; omega)]; exact d1
  have hO1' : WRow h1 O0 Lo Ro := hO0.keep (fun o ho => be.oth o (by have := hRol o ho; omega) (fun e => sep.aO (e ▸ ho)) (sep.RO o ho))
  have h1l := be.len
  have oth1 : ∀ o, o < H.length → o ≠ a → o ∉ R → h1[o]? = H[o]? := fun o ho h2 h3 => by rw [be.oth o (by omega) h2 h3, x0 o ho]
  have q2 : (d.cs b).length = 6 := rfl
  have q6 : List.take 6 (d.cs b) = d.cs b := rfl
  have r1 : List.take 1 (List.drop 1 (d.cs b)) = [.int .i64 0] := by rw [← hd]; rfl
  have hb6 := hb.njunk
  have hb7 := hb.nagg
  have tl : (twoC a c on S0 S1 O0 O1).length = 7 := rfl
  have ta : List.take 1 (twoC a c on S0 S1 O0 O1) = [.ptr a 1 0] := rfl
  have gk : decide ((0 : Int) > 1) = false := rfl
  have gk2 : decide ((0 : Int) < 0) = false := rfl
  have to_ : List.take 1 (List.drop 5 (twoC a c on S0 S1 O0 O1)) = [O0] := rfl
  have ts : ∀ O', setRange (twoC a c on S0 S1 O0 O1) 5 [O'] = twoC a c on S0 S1 O' O1 := fun _ => rfl
  cases ht : comeB s L.length d lb.length with
  | false =>
    rw [ht] at hv1
    have hv1 : v1 = .tup [.nils, .bool false] := hv1
    subst hv1
    refine call_keep at13 rfl rfl (by decide) (sx_wp ?_)
    simp +contextual -implicitDefEqProofs (maxSteps := 10000000) only [sx_seq, sxL_succ, lpQ_norm, lpQ_exit, lpQ_ret, loopQ_norm, loopQ_exit, loopQ_ret, sqQ_norm, sqQ_ret, sqQ_exit, sx_block, blkQ_norm, blkQ_exit, blkQ_ret, sx_cond, cdP_true, cdP_false, cdP_bool, sx_region, sx_draw, plainD, List.all_cons, List.all_nil, List.isEmpty_nil, List.isEmpty_cons, sxo_nil, sxo_cons, sxo_guard, gdS_bool, gdS_eff, gdS_tup, gdS_sel, gdS_seleff, sxK_def, wcall_some, effP_ret, effP_set, effP_none, effP_ite, wop_call, wop_cv, cvP_func, sx_ret, sx_exit, sx_skip, sx_clr, sx_fresh, stays, ↓selV_wt, ↓selV_wf, ↓impB_wt, ↓impB_wf, ↓selV_nor, ↓impB_nor, ↓selV_nt, ↓selV_nf, ↓impB_nt, ↓impB_nf, wantB_true, wantB_false, ↓selV_true, ↓selV_false, ↓selV_and, ↓impB_true, ↓impB_false, ↓impB_and, impB_triv, valOf_some, retH_some, ↓prim_pick, pickO_true, pickO_false, pickO_and, pickO_or, pickO_andr, pickO_orr, pickO_orrn, pickO_orn, pickO_bb, pickAnd_bool, pickOr_bool, ↓selV_nn, ↓impB_nn, Bool.and_assoc, Bool.or_assoc, doOp, ev_fr, ev_cst, put_none, put_fr, get, ins, del, dels, Nat.reduceLT, Nat.reduceEqDiff, ↓reduceIte, reduceCtorEq, ne_eq, not_false_eq_true, implies_true, framed_pureF, framed_fb, framed_N, framed_pure, wop_prim, prim, YLD, mkA, V.cells, List.getElem?_cons_zero, List.getElem?_cons_succ, List.set_cons_zero, List.set_cons_succ, Nat.zero_add, Nat.add_zero, Nat.reduceAdd, Nat.reduceSub, Nat.reduceMul, Nat.reduceLeDiff, Nat.not_lt_zero, List.map_cons, List.map_nil, List.cons_append, List.nil_append, loadA, cellsAt, nAg, packA, opt_bind_some, opt_map_some, opt_bind_none, opt_map_none, List.drop, List.take, List.head?, List.length_cons, List.length_nil, binA, unA, eqCells, eqCell, negB, fillA, sr_nil, sr_cons, sr_succ, sr_all, sr_len, storeA, Ob.with, indexedI, V.oneCell, intOf?, retQ_ret, retQ_norm, resA, resA1, fr_getD, packR, sealDepth, shut_bool, shut_int, Option.some.injEq, V.bool.injEq, V.int.injEq, Bool.not_true, Bool.not_false, true_and, and_true, and_self, Bool.and_true, Bool.and_false, Bool.true_and, Bool.false_and, Bool.or_true, Bool.or_false, Bool.true_or, Bool.false_or, Bool.false_eq_true, Int.reduceLT, Int.reduceLE, Int.reduceToNat, Int.reduceNeg, shut_plain, freeL_cons, freeL_nil, free_int, free_bool, free_agg, free_str, free_nils, free_tup, free_sl, true_implies, false_implies, Nat.sub_zero, Int.natCast_nonneg, Int.toNat_natCast, Nat.le_refl, not_true_eq_false, Int.reduceAdd, Int.reduceSub, Int.reduceMul, wrap64, false_and, and_false, cond_true, cond_false, Bool.cond_true_left, Bool.cond_false_right, Int.reduceBNe, Int.reduceBEq, decide_true, decide_false, Int.cast_ofNat_Int, Nat.mul_one, eq_self, Bool.true_eq_false, Bool.not_eq_true, Bool.not_eq_false, deads, List.replicate, argsF, am13, app_get0, app_get, app_set0, app_set, e0', d0, w0, q2, q6, r1, tl, ta, gk, gk2, isNil, c18, -List.drop, -List.take]
    exact ⟨O0, Lo, Ro, w1, ⟨_, S1'⟩, hO1', .inl ⟨rfl, ht⟩, by omega, fun o ho _ h2 h3 _ => oth1 o ho h2 h3, fun o ho => .inl ho⟩
  | true =>
    rw [ht] at hv1
    obtain ⟨b', hb', rfl⟩ := hv1
    have k1 := hb'.cells
    have k2 := hb'.one
    have k3 := hb'.njunk
    have k4 := hb'.nagg
    have k5 := hb'.ntup
    obtain ⟨o1, y, O', hA, hrow, ho1, hol⟩ := hO1'.append f1 k1 k2 hLo
    obtain ⟨u1, u2, u3, u4, u5, u6⟩ := hrow.shape
    obtain ⟨z1, z2, z3, z4, z5, z6⟩ := hO1'.shape
    have hne : o1 ≠ w := by
      rcases ho1 with rfl | ho1
      · omega
      · intro e; exact sep.wO (e ▸ ho1)
    have hne2 : o1 ≠ a := by
      rcases ho1 with rfl | ho1
      · omega
      · intro e; exact sep.aO (e ▸ ho1)
    have hneR : o1 ∉ R := by
      rcases ho1 with rfl | ho1
      · intro hm; have := hRl _ hm; omega
      · exact sep.RO o1 ho1
    have w2 : (h1.set o1 y)[w]? = some ⟨1, .var (twoC a c on S0 S1 O0 O1)⟩ := by rw [List.getElem?_set_ne hne]; exact w1
    have hneb : o1 ≠ H.length := by
      rcases ho1 with rfl | ho1
      · omega
      · have := hRol _ ho1; omega
    have b2 : (h1.set o1 y)[H.length]? = some ⟨1, .var (d.cs b)⟩ := by rw [List.getElem?_set_ne hneb]; exact b1
    have rr : List.range 1 = [0] := rfl
    have wr : wrapV [b'] = b' := rfl
    have hw1l : w < h1.length := by omega
    have hb1l : H.length < h1.length := by omega
    have fpO : (fpV O0).all (fun x => !x == H.length) = true := fp_row hO1' (fun o ho => by have := hRol o ho; omega)
    refine call_keep at13 rfl rfl (by decide) (sx_wp ?_)
    simp +contextual -implicitDefEqProofs (maxSteps := 10000000) only [sx_seq, sxL_succ, lpQ_norm, lpQ_exit, lpQ_ret, loopQ_norm, loopQ_exit, loopQ_ret, sqQ_norm, sqQ_ret, sqQ_exit, sx_block, blkQ_norm, blkQ_exit, blkQ_ret, sx_cond, cdP_true, cdP_false, cdP_bool, sx_region, sx_draw, plainD, List.all_cons, List.all_nil, List.isEmpty_nil, List.isEmpty_cons, sxo_nil, sxo_cons, sxo_guard, gdS_bool, gdS_eff, gdS_tup, gdS_sel, gdS_seleff, sxK_def, wcall_some, effP_ret, effP_set, effP_none, effP_ite, wop_call, wop_cv, cvP_func, sx_ret, sx_exit, sx_skip, sx_clr, sx_fresh, stays, ↓selV_wt, ↓selV_wf, ↓impB_wt, ↓impB_wf, ↓selV_nor, ↓impB_nor, ↓selV_nt, ↓selV_nf, ↓impB_nt, ↓impB_nf, wantB_true, wantB_false, ↓selV_true, ↓selV_false, ↓selV_and, ↓impB_true, ↓impB_false, ↓impB_and, impB_triv, valOf_some, retH_some, ↓prim_pick, pickO_true, pickO_false, pickO_and, pickO_or, pickO_andr, pickO_orr, pickO_orrn, pickO_orn, pickO_bb, pickAnd_bool, pickOr_bool, ↓selV_nn, ↓impB_nn, Bool.and_assoc, Bool.or_assoc, doOp, ev_fr, ev_cst, put_none, put_fr, get, ins, del, dels, Nat.reduceLT, Nat.reduceEqDiff, ↓reduceIte, reduceCtorEq, ne_eq, not_false_eq_true, implies_true, framed_pureF, framed_fb, framed_N, framed_pure, wop_prim, prim, YLD, mkA, V.cells, List.getElem?_cons_zero, List.getElem?_cons_succ, List.set_cons_zero, List.set_cons_succ, Nat.zero_add, Nat.add_zero, Nat.reduceAdd, Nat.reduceSub, Nat.reduceMul, Nat.reduceLeDiff, Nat.not_lt_zero, List.map_cons, List.map_nil, List.cons_append, List.nil_append, loadA, cellsAt, nAg, packA, opt_bind_some, opt_map_some, opt_bind_none, opt_map_none, List.drop, List.take, List.head?, List.length_cons, List.length_nil, binA, unA, eqCells, eqCell, negB, fillA, sr_nil, sr_cons, sr_succ, sr_all, sr_len, storeA, Ob.with, indexedI, V.oneCell, intOf?, retQ_ret, retQ_norm, resA, resA1, fr_getD, packR, sealDepth, shut_bool, shut_int, Option.some.injEq, V.bool.injEq, V.int.injEq, Bool.not_true, Bool.not_false, true_and, and_true, and_self, Bool.and_true, Bool.and_false, Bool.true_and, Bool.false_and, Bool.or_true, Bool.or_false, Bool.true_or, Bool.false_or, Bool.false_eq_true, Int.reduceLT, Int.reduceLE, Int.reduceToNat, Int.reduceNeg, shut_plain, freeL_cons, freeL_nil, free_int, free_bool, free_agg, free_str, free_nils, free_tup, free_sl, true_implies, false_implies, Nat.sub_zero, Int.natCast_nonneg, Int.toNat_natCast, Nat.le_refl, not_true_eq_false, Int.reduceAdd, Int.reduceSub, Int.reduceMul, wrap64, false_and, and_false, cond_true, cond_false, Bool.cond_true_left, Bool.cond_false_right, Int.reduceBNe, Int.reduceBEq, decide_true, decide_false, Int.cast_ofNat_Int, Nat.mul_one, eq_self, Bool.true_eq_false, Bool.not_eq_true, Bool.not_eq_false, deads, List.replicate, argsF, am13, sx_drawd, reachC_nil, wpd_nil, wpd_cons, wdK_def, fpOf, fpV, fpCall, Fp.ok, disj, List.contains_cons, List.contains_nil, Nat.reduceBEq, List.all_append, V.objsL, V.objs,  List.getD_cons_zero, List.getD_cons_succ, List.append_nil, app_get0, app_get, app_set0, app_set, e0', d0, w0, w1, w2, b1, b2, q2, q6, r1, tl, ta, gk, gk2, to_, ts, isNil, c18, k1, k2, rr, wr, hA, u1, u2, z1, z2, hw1l, hb1l, -List.drop, -List.take]
    refine ⟨by simp only [Bool.and_eq_true]; exact ⟨by simp, fpO⟩, O', Lo ++ [b'], [o1], by rw [List.getElem?_set_self (by simp; omega)], ⟨⟨W', ?_, ?_, S1'.bods, S1'.apart⟩, ?_, .inr ⟨b', hb', rfl, ht⟩, by simp; omega, ?_, ?_⟩⟩
    · rw [List.getElem?_set_ne sep.wa, List.getElem?_set_ne hne2]; exact S1'.ob
    · refine S1'.row.keep (fun q hq => ?_)
      rw [List.getElem?_set_ne (by rintro rfl; exact sep.wR hq), List.getElem?_set_ne (by rintro rfl; exact hneR hq)]
    · refine hrow.keep (fun q hq => ?_)
      obtain rfl := List.mem_singleton.1 hq
      rw [List.getElem?_set_ne (Ne.symm hne)]
    · intro o ho hw' ha' hR' hO'
      rw [List.getElem?_set_ne (Ne.symm hw'), List.getElem?_set_ne, oth1 o ho ha' hR']
      rintro rfl
      rcases ho1 with rfl | ho1
      · omega
      · exact hO' ho1
    · intro o ho
      obtain rfl := List.mem_singleton.1 ho
      rcases ho1 with rfl | ho1
      · exact .inr (by omega)
      · exact .inl ho1

set_option maxHeartbeats 2000000 in
theorem come1_spec {N n : Nat} (hn : 4 ≤ n) {w a c : Nat} {on S0 S1 O0 O1 : V} {H : Heap} (hw : H[w]? = some ⟨1, .var (twoC a c on S0 S1 O0 O1)⟩) {s : Ses} {W : V} {L : List V} {R : List Nat} (ha : SAt H c s L W R) (hok : s.Ok L.length)
    {Lo : List V} {Ro : List Nat} (hO : WRow H O1 Lo Ro) (hLo : Lo.length ≤ 1000) (sep : Sep w c R Ro) (d : Dg) {lb : List Int} {b : V} (hb : By lb b) (hd : d.to = 1) :
    ∃ v' h', callA am N n 13 [.ptr w 1 0, .agg (d.cs b)] H = some (v', h') ∧ ∃ O' Lo' Ro', h'[w]? = some ⟨1, .var (twoC a c on S0 S1 O0 O')⟩ ∧ ComeTo H h' w c s L Lo Lo' R Ro Ro' O' d lb := by
  obtain ⟨n, rfl⟩ : ∃ m, n = m + 1 := ⟨n - 1, by omega⟩
  have hwl := lt_of_get hw
  have hal := lt_of_get ha.ob
  obtain ⟨h0, e0⟩ : ∃ h0, h0 = H ++ [(⟨1, .var (d.cs b)⟩ : Ob), ⟨0, .dead⟩] := ⟨_, rfl⟩
  have e0' := e0.symm
  have l0 : h0.length = H.length + 2 := by rw [e0]; simp
  have x0 : ∀ o, o < H.length → h0[o]? = H[o]? := fun o ho => by rw [e0, List.getElem?_append_left ho]
  have d0 : h0[H.length]? = some ⟨1, .var (d.cs b)⟩ := by rw [e0, app_get0]; rfl
  have d1 : h0[H.length + 1]? = some ⟨0, .dead⟩ := by rw [e0, app_get]; rfl
  have ha0 : SAt h0 c s L W R := by rw [e0]; exact ha.app _
  have hO0 : WRow h0 O1 Lo Ro := hO.keep (fun o ho => x0 o (hO.lt o ho))
  obtain ⟨v1, h1, c18, hv1, W', S1', be⟩ := @come_spec N n (by omega) _ _ _ _ _ _ ha0 hok d _ _ hb
  have hRl := ha.row.lt
  have hRol := hO.lt
  have w0 : h0[w]? = some ⟨1, .var (twoC a c on S0 S1 O0 O1)⟩ := by rw [x0 w hwl]; exact hw
  have w1 : h1[w]? = some ⟨1, .var (twoC a c on S0 S1 O0 O1)⟩ := by rw [be.oth w (by omega) sep.wa sep.wR]; exact w0
  have b1 : h1[H.length]? = some ⟨1, .var (d.cs b)⟩ := by rw [be.oth H.length (by omega) (by omega) (fun hm => by have := hRl _ hm; omega)]; exact d0
  have f1 : h1[H.length + 1]? = some ⟨0, .dead⟩ := by rw [be.oth (H.length + 1) (by omega) (by omega) (fun hm => by have := hRl _ hm; omega)]; exact d1
  have hO1' : WRow h1 O1 Lo Ro := hO0.keep (fun o ho => be.oth o (by have := hRol o ho; omega) (fun e => sep.aO (e ▸ ho)) (sep.RO o ho))
  have h1l := be.len
  have oth1 : ∀ o, o < H.length → o ≠ c → o ∉ R → h1[o]? = H[o]? := fun o ho h2 h3 => by rw [be.oth o (by omega) h2 h3, x0 o ho]
  have q2 : (d.cs b).length = 6 := rfl
  have q6 : List.take 6 (d.cs b) = d.cs b := rfl
  have r1 : List.take 1 (List.drop 1 (d.cs b)) = [.int .i64 1] := by rw [← hd]; rfl
  have hb6 := hb.njunk
  have hb7 := hb.nagg
  have tl : (twoC a c on S0 S1 O0 O1).length = 7 := rfl
  have ta : List.take 1 (List.drop 1 (twoC a c on S0 S1 O0 O1)) = [.ptr c 1 0] := rfl
  have gk : decide ((1 : Int) > 1) = false := rfl
  have gk2 : decide ((1 : Int) < 0) = false := rfl
  have to_ : List.take 1 (List.drop 6 (twoC a c on S0 S1 O0 O1)) = [O1] := rfl
  have ts : ∀ O', setRange (twoC a c on S0 S1 O0 O1) 6 [O'] = twoC a c on S0 S1 O0 O' := fun _ => rfl
  cases ht : comeB s L.length d lb.length with
  | false =>
    rw [ht] at hv1
    have hv1 : v1 = .tup [.nils, .bool false] := hv1
    subst hv1
    refine call_keep at13 rfl rfl (by decide) (sx_wp ?_)
    simp +contextual -implicitDefEqProofs (maxSteps := 10000000) only [sx_seq, sxL_succ, lpQ_norm, lpQ_exit, lpQ_ret, loopQ_norm, loopQ_exit, loopQ_ret, sqQ_norm, sqQ_ret, sqQ_exit, sx_block, blkQ_norm, blkQ_exit, blkQ_ret, sx_cond, cdP_true, cdP_false, cdP_bool, sx_region, sx_draw, plainD, List.all_cons, List.all_nil, List.isEmpty_nil, List.isEmpty_cons, sxo_nil, sxo_cons, sxo_guard, gdS_bool, gdS_eff, gdS_tup, gdS_sel, gdS_seleff, sxK_def, wcall_some, effP_ret, effP_set, effP_none, effP_ite, wop_call, wop_cv, cvP_func, sx_ret, sx_exit, sx_skip, sx_clr, sx_fresh, stays, ↓selV_wt, ↓selV_wf, ↓impB_wt, ↓impB_wf, ↓selV_nor, ↓impB_nor, ↓selV_nt, ↓selV_nf, ↓impB_nt, ↓impB_nf, wantB_true, wantB_false, ↓selV_true, ↓selV_false, ↓selV_and, ↓impB_true, ↓impB_false, ↓impB_and, impB_triv, valOf_some, retH_some, ↓prim_pick, pickO_true, pickO_false, pickO_and, pickO_or, pickO_andr, pickO_orr, pickO_orrn, pickO_orn, pickO_bb, pickAnd_bool, pickOr_bool, ↓selV_nn, ↓impB_nn, Bool.and_assoc, Bool.or_assoc, doOp, ev_fr, ev_cst, put_none, put_fr, get, ins, del, dels, Nat.reduceLT, Nat.reduceEqDiff, ↓reduceIte, reduceCtorEq, ne_eq, not_false_eq_true, implies_true, framed_pureF, framed_fb, framed_N, framed_pure, wop_prim, prim, YLD, mkA, V.cells, List.getElem?_cons_zero, List.getElem?_cons_succ, List.set_cons_zero, List.set_cons_succ, Nat.zero_add, Nat.add_zero, Nat.reduceAdd, Nat.reduceSub, Nat.reduceMul, Nat.reduceLeDiff, Nat.not_lt_zero, List.map_cons, List.map_nil, List.cons_append, List.nil_append, loadA, cellsAt, nAg, packA, opt_bind_some, opt_map_some, opt_bind_none, opt_map_none, List.drop, List.take, List.head?, List.length_cons, List.length_nil, binA, unA, eqCells, eqCell, negB, fillA, sr_nil, sr_cons, sr_succ, sr_all, sr_len, storeA, Ob.with, indexedI, V.oneCell, intOf?, retQ_ret, retQ_norm, resA, resA1, fr_getD, packR, sealDepth, shut_bool, shut_int, Option.some.injEq, V.bool.injEq, V.int.injEq, Bool.not_true, Bool.not_false, true_and, and_true, and_self, Bool.and_true, Bool.and_false, Bool.true_and, Bool.false_and, Bool.or_true, Bool.or_false, Bool.true_or, Bool.false_or, Bool.false_eq_true, Int.reduceLT, Int.reduceLE, Int.reduceToNat, Int.reduceNeg, shut_plain, freeL_cons, freeL_nil, free_int, free_bool, free_agg, free_str, free_nils, free_tup, free_sl, true_implies, false_implies, Nat.sub_zero, Int.natCast_nonneg, Int.toNat_natCast, Nat.le_refl, not_true_eq_false, Int.reduceAdd, Int.reduceSub, Int.reduceMul, wrap64, false_and, and_false, cond_true, cond_false, Bool.cond_true_left, Bool.cond_false_right, Int.reduceBNe, Int.reduceBEq, decide_true, decide_false, Int.cast_ofNat_Int, Nat.mul_one, eq_self, Bool.true_eq_false, Bool.not_eq_true, Bool.not_eq_false, deads, List.replicate, argsF, am13, app_get0, app_get, app_set0, app_set, e0', d0, w0, q2, q6, r1, tl, ta, gk, gk2, isNil, c18, -List.drop, -List.take]
    exact ⟨O1, Lo, Ro, w1, ⟨_, S1'⟩, hO1', .inl ⟨rfl, ht⟩, by omega, fun o ho _ h2 h3 _ => oth1 o ho h2 h3, fun o ho => .inl ho⟩
  | true =>
    rw [ht] at hv1
    obtain ⟨b', hb', rfl⟩ := hv1
    have k1 := hb'.cells
    have k2 := hb'.one
    have k3 := hb'.njunk
    have k4 := hb'.nagg
    have k5 := hb'.ntup
    obtain ⟨o1, y, O', hA, hrow, ho1, hol⟩ := hO1'.append f1 k1 k2 hLo
    obtain ⟨u1, u2, u3, u4, u5, u6⟩ := hrow.shape
    obtain ⟨z1, z2, z3, z4, z5, z6⟩ := hO1'.shape
    have hne : o1 ≠ w := by
      rcases ho1 with rfl | ho1
      · omega
      · intro e; exact sep.wO (e ▸ ho1)
    have hne2 : o1 ≠ c := by
      rcases ho1 with rfl | ho1
      · omega
      · intro e; exact sep.aO (e ▸ ho1)
    have hneR : o1 ∉ R := by
      rcases ho1 with rfl | ho1
      · intro hm; have := hRl _ hm; omega
      · exact sep.RO o1 ho1
    have w2 : (h1.set o1 y)[w]? = some ⟨1, .var (twoC a c on S0 S1 O0 O1)⟩ := by rw [List.getElem?_set_ne hne]; exact w1
    have hneb : o1 ≠ H.length := by
      rcases ho1 with rfl | ho1
      · omega
      · have := hRol _ ho1; omega
    have b2 : (h1.set o1 y)[H.length]? = some ⟨1, .var (d.cs b)⟩ := by rw [List.getElem?_set_ne hneb]; exact b1
    have rr : List.range 1 = [0] := rfl
    have wr : wrapV [b'] = b' := rfl
    have hw1l : w < h1.length := by omega
    have hb1l : H.length < h1.length := by omega
    have fpO : (fpV O1).all (fun x => !x == H.length) = true := fp_row hO1' (fun o ho => by have := hRol o ho; omega)
    refine call_keep at13 rfl rfl (by decide) (sx_wp ?_)
    simp +contextual -implicitDefEqProofs (maxSteps := 10000000) only [sx_seq, sxL_succ, lpQ_norm, lpQ_exit, lpQ_ret, loopQ_norm, loopQ_exit, loopQ_ret, sqQ_norm, sqQ_ret, sqQ_exit, sx_block, blkQ_norm, blkQ_exit, blkQ_ret, sx_cond, cdP_true, cdP_false, cdP_bool, sx_region, sx_draw, plainD, List.all_cons, List.all_nil, List.isEmpty_nil, List.isEmpty_cons, sxo_nil, sxo_cons, sxo_guard, gdS_bool, gdS_eff, gdS_tup, gdS_sel, gdS_seleff, sxK_def, wcall_some, effP_ret, effP_set, effP_none, effP_ite, wop_call, wop_cv, cvP_func, sx_ret, sx_exit, sx_skip, sx_clr, sx_fresh, stays, ↓selV_wt, ↓selV_wf, ↓impB_wt, ↓impB_wf, ↓selV_nor, ↓impB_nor, ↓selV_nt, ↓selV_nf, ↓impB_nt, ↓impB_nf, wantB_true, wantB_false, ↓selV_true, ↓selV_false, ↓selV_and, ↓impB_true, ↓impB_false, ↓impB_and, impB_triv, valOf_some, retH_some, ↓prim_pick, pickO_true, pickO_false, pickO_and, pickO_or, pickO_andr, pickO_orr, pickO_orrn, pickO_orn, pickO_bb, pickAnd_bool, pickOr_bool, ↓selV_nn, ↓impB_nn, Bool.and_assoc, Bool.or_assoc, doOp, ev_fr, ev_cst, put_none, put_fr, get, ins, del, dels, Nat.reduceLT, Nat.reduceEqDiff, ↓reduceIte, reduceCtorEq, ne_eq, not_false_eq_true, implies_true, framed_pureF, framed_fb, framed_N, framed_pure, wop_prim, prim, YLD, mkA, V.cells, List.getElem?_cons_zero, List.getElem?_cons_succ, List.set_cons_zero, List.set_cons_succ, Nat.zero_add, Nat.add_zero, Nat.reduceAdd, Nat.reduceSub, Nat.reduceMul, Nat.reduceLeDiff, Nat.not_lt_zero, List.map_cons, List.map_nil, List.cons_append, List.nil_append, loadA, cellsAt, nAg, packA, opt_bind_some, opt_map_some, opt_bind_none, opt_map_none, List.drop, List.take, List.head?, List.length_cons, List.length_nil, binA, unA, eqCells, eqCell, negB, fillA, sr_nil, sr_cons, sr_succ, sr_all, sr_len, storeA, Ob.with, indexedI, V.oneCell, intOf?, retQ_ret, retQ_norm, resA, resA1, fr_getD, packR, sealDepth, shut_bool, shut_int, Option.some.injEq, V.bool.injEq, V.int.injEq, Bool.not_true, Bool.not_false, true_and, and_true, and_self, Bool.and_true, Bool.and_false, Bool.true_and, Bool.false_and, Bool.or_true, Bool.or_false, Bool.true_or, Bool.false_or, Bool.false_eq_true, Int.reduceLT, Int.reduceLE, Int.reduceToNat, Int.reduceNeg, shut_plain, freeL_cons, freeL_nil, free_int, free_bool, free_agg, free_str, free_nils, free_tup, free_sl, true_implies, false_implies, Nat.sub_zero, Int.natCast_nonneg, Int.toNat_natCast, Nat.le_refl, not_true_eq_false, Int.reduceAdd, Int.reduceSub, Int.reduceMul, wrap64, false_and, and_false, cond_true, cond_false, Bool.cond_true_left, Bool.cond_false_right, Int.reduceBNe, Int.reduceBEq, decide_true, decide_false, Int.cast_ofNat_Int, Nat.mul_one, eq_self, Bool.true_eq_false, Bool.not_eq_true, Bool.not_eq_false, deads, List.replicate, argsF, am13, sx_drawd, reachC_nil, wpd_nil, wpd_cons, wdK_def, fpOf, fpV, fpCall, Fp.ok, disj, List.contains_cons, List.contains_nil, Nat.reduceBEq, List.all_append, V.objsL, V.objs,  List.getD_cons_zero, List.getD_cons_succ, List.append_nil, app_get0, app_get, app_set0, app_set, e0', d0, w0, w1, w2, b1, b2, q2, q6, r1, tl, ta, gk, gk2, to_, ts, isNil, c18, k1, k2, rr, wr, hA, u1, u2, z1, z2, hw1l, hb1l, -List.drop, -List.take]
    refine ⟨by simp only [Bool.and_eq_true]; exact ⟨by simp, fpO⟩, O', Lo ++ [b'], [o1], by rw [List.getElem?_set_self (by simp; omega)], ⟨⟨W', ?_, ?_, S1'.bods, S1'.apart⟩, ?_, .inr ⟨b', hb', rfl, ht⟩, by simp; omega, ?_, ?_⟩⟩
    · rw [List.getElem?_set_ne sep.wa, List.getElem?_set_ne hne2]; exact S1'.ob
    · refine S1'.row.keep (fun q hq => ?_)
      rw [List.getElem?_set_ne (by rintro rfl; exact sep.wR hq), List.getElem?_set_ne (by rintro rfl; exact hneR hq)]
    · refine hrow.keep (fun q hq => ?_)
      obtain rfl := List.mem_singleton.1 hq
      rw [List.getElem?_set_ne (Ne.symm hne)]
    · intro o ho hw' ha' hR' hO'
      rw [List.getElem?_set_ne (Ne.symm hw'), List.getElem?_set_ne, oth1 o ho ha' hR']
      rintro rfl
      rcases ho1 with rfl | ho1
      · omega
      · exact hO' ho1
    · intro o ho
      obtain rfl := List.mem_singleton.1 ho
      rcases ho1 with rfl | ho1
      · exact .inr (by omega)
      · exact .inl ho1

end Go.Am.T

set_option linter.unusedVariables false
set_option linter.unusedSimpArgs false
set_option maxRecDepth 10000
namespace Go.Am.T

/-- What one end tells the other one is never refused. -/
theorem not_rej {sr sx : Ses} {nr k : Nat} {seq : Int} (hv : sx.view = sr.view) (h1 : sx.me = sr.other) (h2 : sx.other = sr.me) (hs0 : 0 ≤ seq) (hs1 : seq ≤ 4611686018427387904) (ha0 : 0 ≤ sx.got) (ha1 : sx.got ≤ sr.first + (nr : Int) - 1) (hk : k ≤ 256) (hz : seq = 0 → k = 0) :
    rejD sr nr ⟨sx.me, sx.other, sx.view, seq, sx.got⟩ k = false := by
  unfold rejD
  simp only [h1, h2, hv, bne_self_eq_false, Bool.false_or, Bool.or_eq_false_iff, decide_eq_false_iff_not, Bool.and_eq_false_iff, beq_eq_false_iff_ne, ne_eq]
  refine ⟨by omega, by omega, by omega, by omega, by omega, ?_⟩
  by_cases h : seq = 0
  · exact .inr (by have := hz h; omega)
  · exact .inl h

/-- One end: what it sent in all, what came out at it; g: how many came out at the other one. -/
structure End (s : Ses) (n : Nat) (sent out : List (List Int)) (g : Nat) : Prop where
  f0 : 1 ≤ s.first
  sum : s.first - 1 + (n : Int) = sent.length
  ack : s.first - 1 ≤ (g : Int)
  lim : g ≤ sent.length
  got : s.got = out.length
  most : sent.length ≤ 80

theorem End.ok {s : Ses} {n : Nat} {sent out : List (List Int)} {g : Nat} (h : End s n sent out g) (ho : out.length ≤ 80) : s.Ok n := by
  obtain ⟨h1, h2, h3, h4, h5, h6⟩ := h
  exact ⟨h1, by omega, by omega, by omega, by omega⟩

/-- A datagram of one end comes to the other one. x: who told it; r: where it comes. -/
theorem End.come {sx sr : Ses} {nx nr : Nat} {sentx outx sentr outr : List (List Int)} (hx : End sx nx sentx outx outr.length) (hr : End sr nr sentr outr outx.length)
    (hv : sx.view = sr.view) (h1 : sx.me = sr.other) (h2 : sx.other = sr.me) {seq : Int} {l : List Int} (hl : l.length ≤ 256)
    (hq : seq = 0 ∧ l = [] ∨ 1 ≤ seq ∧ seq ≤ sentx.length ∧ sentx[(seq - 1).toNat]? = some l) (hp : ∃ r, sentx = outr ++ r) :
    ∃ outr', End (comeS sr nr ⟨sx.me, sx.other, sx.view, seq, sx.got⟩ l.length) (nr - comeK sr nr ⟨sx.me, sx.other, sx.view, seq, sx.got⟩ l.length) sentr outr' outx.length ∧
      (∃ r, sentx = outr' ++ r) ∧ outr.length ≤ outr'.length ∧ outr'.length ≤ sentx.length ∧
      outr' = (bif comeB sr nr ⟨sx.me, sx.other, sx.view, seq, sx.got⟩ l.length then outr ++ [l] else outr) := by
  obtain ⟨x1, x2, x3, x4, x5, x6⟩ := hx
  obtain ⟨r1, r2, r3, r4, r5, r6⟩ := hr
  have hs : 0 ≤ seq ∧ seq ≤ 80 := by rcases hq with ⟨h, -⟩ | ⟨h, h', -⟩ <;> omega
  have hrej : rejD sr nr ⟨sx.me, sx.other, sx.view, seq, sx.got⟩ l.length = false := not_rej hv h1 h2 hs.1 (by omega) (by omega) (by omega) hl (fun hz => by
    rcases hq with ⟨-, h⟩ | ⟨h, -⟩
    · rw [h]; rfl
    · omega)
  have hcs : comeS sr nr ⟨sx.me, sx.other, sx.view, seq, sx.got⟩ l.length = seqS (ackS sr ⟨sx.me, sx.other, sx.view, seq, sx.got⟩) ⟨sx.me, sx.other, sx.view, seq, sx.got⟩ := by simp only [comeS, hrej, cond_false]
  have hck : comeK sr nr ⟨sx.me, sx.other, sx.view, seq, sx.got⟩ l.length = bif decide (sx.got ≥ sr.first) then (sx.got - sr.first + 1).toNat else 0 := by simp only [comeK, hrej, cond_false]
  have hcb : comeB sr nr ⟨sx.me, sx.other, sx.view, seq, sx.got⟩ l.length = (!(seq == 0) && !(seq != sr.got + 1)) := by simp only [comeB, hrej, Bool.not_false, Bool.true_and]
  rw [hcs, hck, hcb]
  have A : ∃ F k, ackS sr ⟨sx.me, sx.other, sx.view, seq, sx.got⟩ = { sr with first := F } ∧ (bif decide (sx.got ≥ sr.first) then (sx.got - sr.first + 1).toNat else 0) = k ∧ 1 ≤ F ∧ F - 1 + ((nr - k : Nat) : Int) = sentr.length ∧ F - 1 ≤ (outx.length : Int) := by
    cases y : decide (sx.got ≥ sr.first) with
    | true =>
      have hy := of_decide_eq_true y
      refine ⟨sx.got + 1, _, by simp only [ackS, y, cond_true], rfl, by omega, ?_, by omega⟩
      simp only [cond_true]
      omega
    | false =>
      have hy := of_decide_eq_false y
      exact ⟨sr.first, 0, by simp only [ackS, y, cond_false], rfl, r1, by simpa using r2, r3⟩
  obtain ⟨F, k, a1, a2, a3, a4, a5⟩ := A
  rw [a1, a2]
  obtain ⟨rest, hrest⟩ := hp
  unfold seqS
  cases z1 : (seq == 0) with
  | true =>
    simp only [cond_true, Bool.not_true, Bool.false_and, cond_false]
    exact ⟨outr, ⟨a3, a4, a5, r4, r5, r6⟩, ⟨rest, hrest⟩, Nat.le_refl _, x4, rfl⟩
  | false =>
    cases z2 : (seq != sr.got + 1) with
    | true =>
      simp only [cond_true, cond_false, Bool.not_true, Bool.not_false, Bool.and_false, z2]
      exact ⟨outr, ⟨a3, a4, a5, r4, r5, r6⟩, ⟨rest, hrest⟩, Nat.le_refl _, x4, rfl⟩
    | false =>
      have hz2 : seq = sr.got + 1 := by simpa using z2
      have hz1 : seq ≠ 0 := by simpa using z1
      simp only [cond_true, cond_false, Bool.not_false, Bool.and_self, z2]
      rcases hq with ⟨h, -⟩ | ⟨q1, q2, q3⟩
      · exact absurd h hz1
      · have hidx : (seq - 1).toNat = outr.length := by omega
        rw [hidx, hrest, List.getElem?_append_right (Nat.le_refl _), Nat.sub_self] at q3
        obtain ⟨rest', rfl⟩ : ∃ rest', rest = l :: rest' := by
          cases rest with
          | nil => simp at q3
          | cons a t => simp at q3; exact ⟨t, by rw [q3]⟩
        refine ⟨outr ++ [l], ⟨a3, a4, a5, r4, ?_, r6⟩, ⟨rest', by rw [hrest]; simp⟩, by simp, ?_, rfl⟩
        · show sr.got + 1 = _
          rw [r5]; simp
        · rw [hrest]; simp

end Go.Am.T

set_option linter.unusedVariables false
set_option linter.unusedSimpArgs false
set_option maxRecDepth 10000
namespace Go.Am.T

theorem End.grow {s : Ses} {n : Nat} {sent out : List (List Int)} {g g' : Nat} (h : End s n sent out g) (hg : g ≤ g') (hl : g' ≤ sent.length) : End s n sent out g' :=
  ⟨h.f0, h.sum, by have := h.ack; omega, hl, h.got, h.most⟩

/-- A telling changes neither what waits nor what came. -/
theorem End.told {s : Ses} {n m : Nat} {sent out : List (List Int)} {g : Nat} (h : End s n sent out g) : End (toldS s m) n sent out g := ⟨h.f0, h.sum, h.ack, h.lim, h.got, h.most⟩

/-- One more is sent. -/
theorem End.send {s : Ses} {n : Nat} {sent out : List (List Int)} {g : Nat} (h : End s n sent out g) (l : List Int) (hm : sent.length < 80) : End s (n + 1) (sent ++ [l]) out g := by
  obtain ⟨h1, h2, h3, h4, h5, h6⟩ := h
  exact ⟨h1, by simp; omega, h3, by simp; omega, h5, by simp; omega⟩

theorem Bys.drop {B : List (List Int)} {L : List V} (h : Bys B L) (k : Nat) : Bys (B.drop k) (L.drop k) := by
  refine ⟨by simp [h.1], fun i b l h1 h2 => ?_⟩
  rw [List.getElem?_drop] at h1 h2
  exact h.2 _ b l h1 h2

theorem seqS_first (s : Ses) (d : Dg) : (seqS s d).first = s.first := by
  unfold seqS
  cases (d.seq == 0) <;> cases (d.seq != s.got + 1) <;> rfl

/-- Who it is stays. -/
theorem comeS_same (s : Ses) (n : Nat) (d : Dg) (k : Nat) : (comeS s n d k).me = s.me ∧ (comeS s n d k).other = s.other ∧ (comeS s n d k).view = s.view ∧ (comeS s n d k).told = s.told := by
  have A : ∀ s, (ackS s d).me = s.me ∧ (ackS s d).other = s.other ∧ (ackS s d).view = s.view ∧ (ackS s d).told = s.told := fun s => by
    unfold ackS
    cases decide (d.ack ≥ s.first) <;> exact ⟨rfl, rfl, rfl, rfl⟩
  have B : ∀ s, (seqS s d).me = s.me ∧ (seqS s d).other = s.other ∧ (seqS s d).view = s.view ∧ (seqS s d).told = s.told := fun s => by
    unfold seqS
    cases (d.seq == 0) <;> cases (d.seq != s.got + 1) <;> exact ⟨rfl, rfl, rfl, rfl⟩
  obtain ⟨a1, a2, a3, a4⟩ := A s
  obtain ⟨b1, b2, b3, b4⟩ := B (ackS s d)
  unfold comeS
  cases rejD s n d k
  · exact ⟨b1.trans a1, b2.trans a2, b3.trans a3, b4.trans a4⟩
  · exact ⟨rfl, rfl, rfl, rfl⟩

/-- What waits: the last ones of what was sent. -/
theorem wait_come {s : Ses} {n : Nat} {d : Dg} {k : Nat} {sent : List (List Int)} {L : List V} (f0 : 1 ≤ s.first) (h : Bys (sent.drop (s.first - 1).toNat) L) : Bys (sent.drop ((comeS s n d k).first - 1).toNat) (L.drop (comeK s n d k)) := by
  cases hr : rejD s n d k with
  | true =>
    simp only [comeS, comeK, hr, cond_true, List.drop_zero]
    exact h
  | false =>
    simp only [comeS, comeK, hr, cond_false, seqS_first]
    cases y : decide (d.ack ≥ s.first) with
    | true =>
      have hy := of_decide_eq_true y
      simp only [ackS, y, cond_true]
      have := h.drop (d.ack - s.first + 1).toNat
      rw [List.drop_drop] at this
      rw [show (d.ack + 1 - 1).toNat = (s.first - 1).toNat + (d.ack - s.first + 1).toNat by omega]
      exact this
    | false =>
      simp only [ackS, y, cond_false, List.drop_zero]
      exact h

/-- One more waits. -/
theorem wait_send {s : Ses} {n : Nat} {sent : List (List Int)} {L : List V} {l : List Int} {b : V} (h : Bys (sent.drop (s.first - 1).toNat) L) (hs : (s.first - 1).toNat ≤ sent.length) (hb : By l b) (hl : l.length ≤ 256) : Bys ((sent ++ [l]).drop (s.first - 1).toNat) (L ++ [b]) := by
  rw [List.drop_append_of_le_length hs]
  exact h.snoc hb hl

end Go.Am.T

set_option linter.unusedVariables false
set_option linter.unusedSimpArgs false
set_option maxRecDepth 10000
namespace Go.Am.T

/-- All of them are told again. -/
theorem tellI_all (f : Int) : ∀ n, tellI f f n = List.range n
  | 0 => rfl
  | n + 1 => by
    simp only [tellI, tellI_all f n]
    rw [if_pos (by omega), List.range_succ]

/-- Which ones are told: rising, within. -/
theorem tellI_mem {f g : Int} : ∀ {n i : Nat}, i ∈ tellI f g n → i < n ∧ f + (i : Int) ≥ g
  | 0, i, h => by simp [tellI] at h
  | n + 1, i, h => by
    simp only [tellI, List.mem_append] at h
    rcases h with h | h
    · obtain ⟨h1, h2⟩ := tellI_mem h
      exact ⟨by omega, h2⟩
    · split at h
      · rename_i hg
        obtain rfl := List.mem_singleton.1 h
        exact ⟨by omega, hg⟩
      · cases h

/-- Each datagram that is told is of one that waits. -/
theorem TD.at_ {s : Ses} {L : List V} {I : List Nat} {C : List (List V)} (h : TD s L I C) : ∀ {k j : Nat}, I[k]? = some j → ∃ b c l, C[k]? = some (dgS s (s.first + (j : Int)) b) ∧ L[j]? = some c ∧ By l c ∧ By l b := by
  induction h with
  | nil => intro k j hk; simp at hk
  | @snoc I C j' c b l h hj hc hb ih =>
    intro k j hk
    have hl := h.len
    by_cases hlt : k < I.length
    · rw [List.getElem?_append_left hlt] at hk
      obtain ⟨b', c', l', h1, h2⟩ := ih hk
      exact ⟨b', c', l', by rw [List.getElem?_append_left (by omega)]; exact h1, h2⟩
    · rw [List.getElem?_append_right (by omega)] at hk
      obtain rfl := List.mem_singleton.1 (List.mem_of_getElem? hk)
      have hk0 : k - I.length = 0 := by
        have := (List.getElem?_eq_some_iff.1 hk).1
        simp at this
        omega
      refine ⟨b, c, l, ?_, hj, hc, hb⟩
      rw [List.getElem?_append_right (by omega), hl, hk0]
      rfl

/-- What Again tells. -/
theorem again_all {s : Ses} {L : List V} {C : List (List V)} (h : Tells s L s.first C) (hL : L ≠ []) : C.length = L.length ∧ ∀ {j : Nat}, j < L.length → ∃ b c l, C[j]? = some (dgS s (s.first + (j : Int)) b) ∧ L[j]? = some c ∧ By l c ∧ By l b := by
  obtain ⟨C', h1, h2⟩ := h.told
  rw [tellI_all] at h1
  have hlen := h1.len
  rw [List.length_range] at hlen
  have hC : C = C' := by
    rcases h2 with ⟨h2, -⟩ | ⟨h2, -⟩
    · exact h2
    · rw [h2] at hlen
      exact absurd (List.length_eq_zero_iff.1 hlen.symm) hL
  subst hC
  refine ⟨hlen, fun {j} hj => h1.at_ (by rw [List.getElem?_range hj])⟩

theorem again_none {s : Ses} {C : List (List V)} (h : Tells s [] s.first C) : C.length ≤ 1 := by
  have := h.len
  simpa using this

end Go.Am.T

set_option linter.unusedVariables false
set_option linter.unusedSimpArgs false
set_option maxRecDepth 10000
namespace Go.Am.T

theorem ints_inj : ∀ {l m : List Int}, l.map (V.int .u8) = m.map (V.int .u8) → l = m
  | [], [], _ => rfl
  | [], y :: m, h => by simp at h
  | x :: l, [], h => by simp at h
  | x :: l, y :: m, h => by
    simp only [List.map_cons, List.cons.injEq, V.int.injEq, true_and] at h
    rw [h.1, ints_inj h.2]

theorem By.inj {l m : List Int} {b : V} (h1 : By l b) (h2 : By m b) : l = m := by
  rcases h1 with ⟨rfl, rfl⟩ | ⟨c, rfl⟩
  · rcases h2 with ⟨-, rfl⟩ | ⟨c, h⟩
    · rfl
    · cases h
  · rcases h2 with ⟨h, -⟩ | ⟨c', h⟩
    · cases h
    · simp only [V.sl.injEq, true_and] at h
      exact ints_inj h.1

/-- The bytes of what waits at j. -/
theorem wait_at {s : Ses} {sent : List (List Int)} {L : List V} (h : Bys (sent.drop (s.first - 1).toNat) L) (f0 : 1 ≤ s.first) {j : Nat} {c : V} {l : List Int} (hj : L[j]? = some c) (hc : By l c) : sent[(s.first + (j : Int) - 1).toNat]? = some l ∧ l.length ≤ 256 := by
  have hlt := (List.getElem?_eq_some_iff.1 hj).1
  have hB : j < (sent.drop (s.first - 1).toNat).length := by rw [← h.1]; exact hlt
  obtain ⟨m, hm⟩ : ∃ m, (sent.drop (s.first - 1).toNat)[j]? = some m := ⟨_, List.getElem?_eq_getElem hB⟩
  obtain ⟨h1, h2⟩ := h.2 j c m hj hm
  obtain rfl := By.inj hc h1
  rw [List.getElem?_drop] at hm
  rw [show (s.first + (j : Int) - 1).toNat = (s.first - 1).toNat + j by omega]
  exact ⟨hm, h2⟩

/-- What Fresh tells, one by one. -/
theorem told_each {s : Ses} {sent : List (List Int)} {L : List V} {from_ : Int} {C : List (List V)} (h : Tells s L from_ C) (hw : Bys (sent.drop (s.first - 1).toNat) L) (f0 : 1 ≤ s.first) (hsum : s.first - 1 + (L.length : Int) = sent.length) {k : Nat} {c : List V} (hk : C[k]? = some c) :
    ∃ seq b l, c = dgS s seq b ∧ By l b ∧ l.length ≤ 256 ∧ (seq = 0 ∧ l = [] ∨ 1 ≤ seq ∧ seq ≤ sent.length ∧ sent[(seq - 1).toNat]? = some l) := by
  obtain ⟨C', h1, h2⟩ := h.told
  rcases h2 with ⟨rfl, -⟩ | ⟨-, -, b, hb, rfl⟩
  · have hlt := (List.getElem?_eq_some_iff.1 hk).1
    rw [h1.len] at hlt
    have hI : (tellI s.first from_ L.length)[k]? = some ((tellI s.first from_ L.length)[k]) := List.getElem?_eq_getElem hlt
    obtain ⟨hj, -⟩ := tellI_mem (List.mem_of_getElem? hI)
    generalize (tellI s.first from_ L.length)[k] = j at hI hj
    obtain ⟨b, c', l, e1, e2, e3, e4⟩ := h1.at_ hI
    rw [hk] at e1
    obtain rfl := Option.some.inj e1
    obtain ⟨q1, q2⟩ := wait_at hw f0 e2 e3
    exact ⟨_, b, l, rfl, e4, q2, .inr ⟨by omega, by omega, q1⟩⟩
  · obtain rfl := List.mem_singleton.1 (List.mem_of_getElem? hk)
    exact ⟨0, b, [], rfl, hb, by simp, .inl ⟨rfl, rfl⟩⟩

end Go.Am.T

set_option linter.unusedVariables false
set_option linter.unusedSimpArgs false
set_option maxRecDepth 10000
namespace Go.Am.T

theorem WRow.shutD {H : Heap} {W : V} {L : List V} {R : List Nat} (h : WRow H W L R) (hB : Bods L) (d : Nat) : V.shut (fun o => H[o]?) (d + 2) W = some (sealW W L) ∧ (sealW W L).free = true := by
  refine ⟨?_, (h.shut hB).2.1⟩
  rcases h with ⟨rfl, rfl, -⟩ | ⟨o, ver, x, rfl, ho, ⟨rfl, rfl⟩ | ⟨hne, rfl⟩, -⟩
  · rfl
  · have e : V.shut (fun o => H[o]?) (d + 2) (.vend o ver 1) = match cellsAt (fun o => H[o]?) o ver with | some _ => some (.sl [] 1 none) | none => none := rfl
    rw [e]
    simp [cellsAt, ho, sealW]
  · refine shut_view (by decide) (fun e he => ?_) rfl ?_
    · obtain ⟨l, hl, -⟩ := hB e he
      exact hl.elem
    · rw [flat_self (fun b hb => by obtain ⟨l, hl, -⟩ := hB b hb; exact hl.cells)]
      simp only [loadA, cellsAt, ho, ↓reduceIte]
      rw [if_pos (by simp), List.drop_left, List.take_of_length_le (by simp)]

theorem SAt.shutD {H : Heap} {a : Nat} {s : Ses} {L : List V} {W : V} {R : List Nat} (h : SAt H a s L W R) (d : Nat) : ∃ v, V.shut (fun o => H[o]?) (d + 3) (.ptr a 1 0) = some v ∧ v.free = true := by
  refine ⟨.iptr (s.cs (sealW W L)) 0, ?_, cs_free (h.row.shut h.bods).2.1⟩
  have e : V.shut (fun o => H[o]?) (d + 3) (.ptr a 1 0) = match cellsAt (fun o => H[o]?) a 1 with
      | some all => (all.mapM (V.shut (fun o => H[o]?) (d + 2))).map fun cs => .iptr cs 0
      | none => none := rfl
  rw [e]
  simp only [cellsAt, h.ob, ↓reduceIte]
  have hp : ∀ v : V, v.free = true → V.shut (fun o => H[o]?) (d + 2) v = some v := fun v hv => shut_plain (d := d + 1) hv
  simp only [Ses.cs, List.mapM_cons, List.mapM_nil, hp (.bool true) rfl, hp (.int .i64 _) rfl, hp (.bool _) rfl, (h.row.shutD h.bods d).1, Option.bind_eq_bind, Option.bind_some, Option.pure_def, Option.map_some]

/-- What came out is a first part of what was sent: told on the memory. -/
theorem right_spec {N n : Nat} (hN : 1500 ≤ N) (hn : 1 ≤ n) {H : Heap} {w a c : Nat} {S0 S1 O0 O1 : V} (hw : H[w]? = some ⟨1, .var (twoC a c .nils S0 S1 O0 O1)⟩) {sa sc : Ses} {La Lc : List V} {Wa Wc : V} {Ra Rc : List Nat} (hA : SAt H a sa La Wa Ra) (hC : SAt H c sc Lc Wc Rc)
    {A0 A1 B0 B1 : List (List Int)} (hS0 : ERow H S0 A0) (hS1 : ERow H S1 A1) (hO0 : ERow H O0 B0) (hO1 : ERow H O1 B1) {r0 r1 : List (List Int)} (p0 : A1 = B0 ++ r0) (p1 : A0 = B1 ++ r1) (hA0 : A0.length ≤ 1000) (hA1 : A1.length ≤ 1000) :
    callA am N n 14 [.ptr w 1 0] H = some (.bool true, H) := by
  obtain ⟨va, a1, a2⟩ := hA.shutD 60
  obtain ⟨vc, c1, c2⟩ := hC.shutD 60
  obtain ⟨t0, s0, q0, f0, -, n0, -⟩ := hS0.shut 60
  obtain ⟨t1, s1, q1, f1, -, n1, -⟩ := hS1.shut 60
  obtain ⟨u0, o0, k0, g0, -, m0, -⟩ := hO0.shut 60
  obtain ⟨u1, o1, k1, g1, -, m1, -⟩ := hO1.shut 60
  have hfree : V.freeL [va, vc, .nils, t0, t1, u0, u1] = true := by
    simp only [freeL_cons, freeL_nil, a2, c2, f0, f1, g0, g1, Bool.and_true]; rfl
  have e : V.shut (fun o => H[o]?) sealDepth (.ptr w 1 0) = match cellsAt (fun o => H[o]?) w 1 with
      | some all => (all.mapM (V.shut (fun o => H[o]?) 63)).map fun cs => .iptr cs 0
      | none => none := rfl
  have hn' : V.shut (fun o => H[o]?) 63 .nils = some .nils := rfl
  have hsh : V.shut (fun o => H[o]?) sealDepth (.ptr w 1 0) = some (.iptr [va, vc, .nils, t0, t1, u0, u1] 0) := by
    rw [e]
    simp only [cellsAt, hw, ↓reduceIte, twoC, List.mapM_cons, List.mapM_nil, a1, c1, s0, s1, o0, o1, hn', Option.bind_eq_bind, Option.bind_some, Option.pure_def, Option.map_some]
  exact right_i hN hn hfree q0 q1 k0 k1 n0 n1 m0 m1 p0 p1 hA0 hA1 (by rw [List.mapM_cons, hsh]; rfl) rfl

end Go.Am.T

set_option linter.unusedVariables false
set_option linter.unusedSimpArgs false
set_option maxRecDepth 10000
namespace Go.Am.T

/-- One end in the memory: its session, what it sent, what came out at it; Rs: all objects of it, each once. -/
structure EndAt (H : Heap) (a : Nat) (s : Ses) (sent out : List (List Int)) (g : Nat) (S O : V) (Rs : List Nat) : Prop where
  all : ∃ (L : List V) (W : V) (R : List Nat) (LS : List V) (RS : List Nat) (LO : List V) (RO : List Nat),
    SAt H a s L W R ∧ Bys (sent.drop (s.first - 1).toNat) L ∧ WRow H S LS RS ∧ Els H sent LS ∧ WRow H O LO RO ∧ Bys out LO ∧ End s L.length sent out g ∧ Rs = a :: (R ++ (RS ++ (V.objsL LS ++ RO))) ∧ Rs.Nodup

theorem EndAt.keep {H H' : Heap} {a : Nat} {s : Ses} {sent out : List (List Int)} {g : Nat} {S O : V} {Rs : List Nat} (h : EndAt H a s sent out g S O Rs) (hk : ∀ o ∈ Rs, H'[o]? = H[o]?) : EndAt H' a s sent out g S O Rs := by
  obtain ⟨L, W, R, LS, RS, LO, RO, h1, h2, h3, h4, h5, h6, h7, h8, h9⟩ := h.all
  refine ⟨L, W, R, LS, RS, LO, RO, ⟨?_, h1.row.keep (fun o ho => hk o (by rw [h8]; simp [ho])), h1.bods, h1.apart⟩, h2, h3.keep (fun o ho => hk o (by rw [h8]; simp [ho])), h4.keep (fun o ho => hk o (by rw [h8]; simp [ho])), h5.keep (fun o ho => hk o (by rw [h8]; simp [ho])), h6, h7, h8, h9⟩
  rw [hk a (by rw [h8]; simp)]
  exact h1.ob

theorem El.lt {H : Heap} {l : List Int} {e : V} (h : El H l e) : ∀ o ∈ e.objs, o < H.length := by
  rcases h with h | ⟨o, ver, -, rfl, ho⟩
  · rw [h.objs]; intro o ho; cases ho
  · intro o' h'
    obtain rfl : o' = o := by simpa [V.objs] using h'
    exact lt_of_get ho

theorem Els.lt {H : Heap} : ∀ {L : List V} {B : List (List Int)}, Els H B L → ∀ o ∈ V.objsL L, o < H.length
  | [], B, h, o, ho => by cases ho
  | e :: L, [], h, o, ho => by have := h.1; simp at this
  | e :: L, l :: B, h, o, ho => by
    have ho' : o ∈ e.objs ++ V.objsL L := ho
    rcases List.mem_append.1 ho' with ho | ho
    · exact (h.2 0 e l rfl rfl).lt o ho
    · exact Els.lt (L := L) (B := B) ⟨by simpa using h.1, fun i e l h1 h2 => h.2 (i + 1) e l (by simpa using h1) (by simpa using h2)⟩ o ho

/-- All its objects lie in the memory. -/
theorem EndAt.lt {H : Heap} {a : Nat} {s : Ses} {sent out : List (List Int)} {g : Nat} {S O : V} {Rs : List Nat} (h : EndAt H a s sent out g S O Rs) : ∀ o ∈ Rs, o < H.length := by
  obtain ⟨L, W, R, LS, RS, LO, RO, h1, h2, h3, h4, h5, h6, h7, rfl, h9⟩ := h.all
  intro o ho
  simp only [List.mem_cons, List.mem_append] at ho
  rcases ho with rfl | ho | ho | ho | ho
  · exact lt_of_get h1.ob
  · exact h1.row.lt o ho
  · exact h3.lt o ho
  · exact h4.lt o ho
  · exact h5.lt o ho

end Go.Am.T

/- Calls on the caller's memory inside regions whose order is open: in general. -/
set_option linter.unusedVariables false
set_option linter.unusedSimpArgs false
namespace Go.Am

/-- A framed call: what it does to the objects that can be come to from its arguments, it does to the whole memory. -/
theorem frame_gen {m : FMode} {pureF : FuncId → FMode} {call : Caller} {f : FuncId} {args : List V} {h h1 : Heap} {v : V} {R : List Nat} (hm : pureF f = m) (hk : m = .keep ∨ m = .auto) (hR : reachC h (V.objsL args) = R)
    (hcl : ∀ o ∈ R, ∀ y, h[o]? = some y → ∀ i ∈ y.bd.objs, i ∈ R) (hc : call f args (keepOnly R h) = some (v, h1)) (hle : h.length ≤ h1.length) (hv : ∀ o ∈ v.objs, o ∈ R ∨ h.length ≤ o)
    (hn : ∀ (o : Nat) (y : Ob), h1[o]? = some y → (o ∈ R ∨ h.length ≤ o) → ∀ i ∈ y.bd.objs, i ∈ R ∨ h.length ≤ i) (hy : f ≠ YLD := by decide) :
    frameC pureF call f args h = some (v, mergeH R h h1) := by
  have ins : ∀ o, inside R h.length o = true ↔ (o ∈ R ∨ h.length ≤ o) := fun o => by simp [inside]
  have c1 : closedIn R h.length (keepOnly R h) = true := closedIn_of fun o y hy' hi i hi' => by
    rw [keepOnly_get] at hy'
    simp only [Option.map_eq_some_iff] at hy'
    obtain ⟨z, hz, rfl⟩ := hy'
    split at hi'
    · rename_i hcn
      exact (ins i).2 (.inl (hcl o (by simpa using hcn) z hz i hi'))
    · simp [Bd.objs] at hi'
  have c2 : closedIn R h.length h1 = true := closedIn_of fun o y hy' hi i hi' => (ins i).2 (hn o y hy' ((ins o).1 hi) i hi')
  have c3 : v.objs.all (inside R h.length) = true := List.all_eq_true.2 fun o ho => (ins o).2 (hv o ho)
  unfold frameC
  rw [if_neg hy, hR]
  rcases hk with rfl | rfl <;> simp only [hm, c1, hc, c2, c3, hle, decide_true, Bool.and_self, ↓reduceIte]

/-- What such a call leaves: of R, and behind it, as the call left it; all else as it was. -/
theorem merge_in {R : List Nat} {h h1 : Heap} {o : Nat} (ho : o ∈ R ∨ h.length ≤ o) : (mergeH R h h1)[o]? = h1[o]? := by
  rw [mergeH_get]
  have : inside R h.length o = true := by simpa [inside] using ho
  cases h1[o]? <;> simp [this]

theorem merge_out {R : List Nat} {h h1 : Heap} {o : Nat} (ho : o ∉ R) (hl : o < h.length) (hle : h.length ≤ h1.length) : (mergeH R h h1)[o]? = h[o]? := by
  rw [mergeH_get]
  have : inside R h.length o = false := by simp [inside, ho]; omega
  rw [List.getElem?_eq_getElem (show o < h1.length by omega), List.getElem?_eq_getElem hl]
  simp [this, List.getD_eq_getElem?_getD, hl]

end Go.Am

set_option linter.unusedVariables false
set_option linter.unusedSimpArgs false
set_option maxRecDepth 10000
namespace Go.Am.T

/-! ### Cuts -/

/-- A walk is cut behind its first part. -/
theorem wp_cutM {E : Env} {a b : ACode} {t : List V} {h : Heap} {Q : Post} (M : List V → Heap → Prop) (h1 : wp E a t h fun e t' h' => e = .norm ∧ M t' h') (h2 : ∀ t' h', M t' h' → wp E b t' h' Q) : wp E (.seq a b) t h Q := by
  rw [wp_seq]
  refine wp_mono h1 ?_
  rintro e t' h' ⟨rfl, hM⟩
  exact h2 t' h' hM

theorem wp_fresh {E : Env} {n : Nat} {c : ACode} {t : List V} {h : Heap} {Q : Post} : wp E (.fresh n c) t h Q = wp { E with fb := h.length } c t (h ++ deads n) Q := rfl

/-! ### Both ends -/

/-- Both ends' cells, told from the k-th end. -/
def tw (k : Nat) (on : V) (a c : Nat) (S T O U : V) : List V := if k = 0 then twoC a c on S T O U else twoC c a on T S U O

section
variable {k : Nat} {on : V} {a c : Nat} {S T O U S' O' on' T' U' : V}
theorem two_cases (hk : k < 2) : k = 0 ∨ k = 1 := by omega
theorem tw_len : (tw k on a c S T O U).length = 7 := by unfold tw; split <;> rfl
theorem tw_near (hk : k < 2) : List.take 1 (List.drop k (tw k on a c S T O U)) = [.ptr a 1 0] := by rcases two_cases hk with rfl | rfl <;> rfl
theorem tw_far (hk : k < 2) : List.take 1 (List.drop (1 - k) (tw k on a c S T O U)) = [.ptr c 1 0] := by rcases two_cases hk with rfl | rfl <;> rfl
theorem tw_sent (hk : k < 2) : List.take 1 (List.drop (3 + k) (tw k on a c S T O U)) = [S] := by rcases two_cases hk with rfl | rfl <;> rfl
theorem tw_on (hk : k < 2) : List.take 1 (List.drop 2 (tw k on a c S T O U)) = [on] := by rcases two_cases hk with rfl | rfl <;> rfl
theorem tw_setS (hk : k < 2) : setRange (tw k on a c S T O U) (3 + k) [S'] = tw k on a c S' T O U := by rcases two_cases hk with rfl | rfl <;> rfl
theorem tw_setOn (hk : k < 2) : setRange (tw k on a c S T O U) 2 [on'] = tw k on' a c S T O U := by rcases two_cases hk with rfl | rfl <;> rfl
theorem tw_swap (hk : k < 2) : tw k on a c S T O U = tw (1 - k) on c a T S U O := by rcases two_cases hk with rfl | rfl <;> rfl
end

/-- Both ends in the memory, told from the k-th one: what each sent, what came out at each. -/
structure Duo (H : Heap) (w k : Nat) (on : V) (a c : Nat) (sa sc : Ses) (sent sent' out out' : List (List Int)) (S T O U : V) (R R' : List Nat) : Prop where
  ob : H[w]? = some ⟨1, .var (tw k on a c S T O U)⟩
  near : EndAt H a sa sent out out'.length S O R
  far : EndAt H c sc sent' out' out.length T U R'
  wR : w ∉ R
  wR' : w ∉ R'
  apart : ∀ o ∈ R, o ∉ R'
  me : sa.me = k
  other : sa.other = 1 - k
  me' : sc.me = 1 - k
  other' : sc.other = k
  view : sa.view = sc.view
  pre : ∃ r, sent' = out ++ r
  pre' : ∃ r, sent = out' ++ r
  told : 0 ≤ sa.told ∧ sa.told ≤ 2000
  told' : 0 ≤ sc.told ∧ sc.told ≤ 2000

theorem Duo.swap {H : Heap} {w k : Nat} {on : V} {a c : Nat} {sa sc : Ses} {sent sent' out out' : List (List Int)} {S T O U : V} {R R' : List Nat} (hk : k < 2) (D : Duo H w k on a c sa sc sent sent' out out' S T O U R R') : Duo H w (1 - k) on c a sc sa sent' sent out' out T S U O R' R := by
  obtain ⟨d1, d2, d3, d4, d5, d6, d7, d8, d9, d10, d11, d12, d13, d14, d15⟩ := D
  exact ⟨by rw [← tw_swap hk]; exact d1, d3, d2, d5, d4, fun o ho hn => d6 o hn ho, by rw [d9]; omega, by rw [d10]; omega, by rw [d7]; omega, by rw [d8]; omega, d11.symm, d13, d12, d15, d14⟩

theorem Duo.keep {H H' : Heap} {w k : Nat} {on : V} {a c : Nat} {sa sc : Ses} {sent sent' out out' : List (List Int)} {S T O U : V} {R R' : List Nat} (D : Duo H w k on a c sa sc sent sent' out out' S T O U R R') (h : ∀ o, o = w ∨ o ∈ R ∨ o ∈ R' → H'[o]? = H[o]?) : Duo H' w k on a c sa sc sent sent' out out' S T O U R R' := by
  obtain ⟨d1, d2, d3, d4, d5, d6, d7, d8, d9, d10, d11, d12, d13, d14, d15⟩ := D
  exact ⟨by rw [h w (.inl rfl)]; exact d1, d2.keep (fun o ho => h o (.inr (.inl ho))), d3.keep (fun o ho => h o (.inr (.inr ho))), d4, d5, d6, d7, d8, d9, d10, d11, d12, d13, d14, d15⟩

theorem Duo.lt {H : Heap} {w k : Nat} {on : V} {a c : Nat} {sa sc : Ses} {sent sent' out out' : List (List Int)} {S T O U : V} {R R' : List Nat} (D : Duo H w k on a c sa sc sent sent' out out' S T O U R R') : ∀ o, o = w ∨ o ∈ R ∨ o ∈ R' → o < H.length := by
  rintro o (rfl | ho | ho)
  · exact lt_of_get D.ob
  · exact D.near.lt o ho
  · exact D.far.lt o ho

theorem and_one (x : Int) : ∃ k : Nat, k < 2 ∧ IntKind.i64.wrap ((BitVec.ofInt IntKind.i64.bits x) &&& (BitVec.ofInt IntKind.i64.bits 1)).toNat = (k : Int) := by
  refine ⟨((BitVec.ofInt IntKind.i64.bits x) &&& (BitVec.ofInt IntKind.i64.bits 1)).toNat, ?_, ?_⟩
  · rw [BitVec.toNat_and]
    have : (BitVec.ofInt IntKind.i64.bits 1).toNat = 1 := by decide
    rw [this]
    exact Nat.lt_of_le_of_lt Nat.and_le_right (by decide)
  · have h : ((BitVec.ofInt IntKind.i64.bits x) &&& (BitVec.ofInt IntKind.i64.bits 1)).toNat < 2 := by
      rw [BitVec.toNat_and]
      have : (BitVec.ofInt IntKind.i64.bits 1).toNat = 1 := by decide
      rw [this]
      exact Nat.lt_of_le_of_lt Nat.and_le_right (by decide)
    exact wrap64 (by omega) (by omega)

/-- Bytes, copied behind nothing. -/
theorem copy_bytes {H : Heap} {o : Nat} {l : List Int} {b : V} (hb : By l b) (ho : H[o]? = some ⟨0, .dead⟩) (hl : l.length ≤ 100000) :
    (l = [] ∧ appendA (fun o => H[o]?) o 1 1 .nils b = some (.ret .nils)) ∨
    (l ≠ [] ∧ appendA (fun o => H[o]?) o 1 1 .nils b = some (.set o ⟨1, .arr (l.map (V.int .u8))⟩ (.view o 1 0 l.length 1 none))) := by
  have h1 := hb.len
  have h2 := hb.first (fun o => H[o]?)
  by_cases hn : l = []
  · subst hn
    refine .inl ⟨rfl, ?_⟩
    unfold appendA
    simp only [List.length_nil] at h1 h2
    simp [h1, h2]
  · refine .inr ⟨hn, ?_⟩
    have hne : l.length ≠ 0 := fun e => hn (List.length_eq_zero_iff.1 e)
    have hm : l.length ≤ maxBytes := by unfold maxBytes; omega
    unfold appendA
    simp only [h1, h2, allOne_ints, ↓reduceIte, hne, mkA, ho, Nat.mul_one, hm, Nat.zero_add]

end Go.Am.T
