import Derived.Test.YtifbkofianklaaaTy3
set_option linter.unusedVariables false
set_option linter.unusedSimpArgs false
set_option maxRecDepth 10000
namespace Go.Am.T
attribute [local congr] selV_congr impB_congr

/-- A datagram's cells. -/
def dgC (frm to view seq ack : Int) (b : V) : List V := [.int .i64 frm, .int .i64 to, .int .i64 view, .int .i64 seq, .int .i64 ack, b]
def dgS (s : Ses) (seq : Int) (b : V) : List V := dgC s.me s.other s.view seq s.got b

theorem SAt.app {H : Heap} {a : Nat} {s : Ses} {L : List V} {W : V} {R : List Nat} (h : SAt H a s L W R) (y : List Ob) : SAt (H ++ y) a s L W R :=
  ⟨by rw [List.getElem?_append_left (lt_of_get h.ob)]; exact h.ob, h.row.keep (fun o ho => List.getElem?_append_left (h.row.lt o ho)), h.bods, h.apart⟩

theorem make_spec {N n : Nat} (hn : 2 ≤ n) {a p : Nat} {s : Ses} {W : V} {L : List V} {R : List Nat} {H : Heap} (ha : SAt H a s L W R) (hp : H[p]? = some ⟨1, .var [.ptr a 1 0]⟩) (seq : Int) {l : List Int} {b : V} (hb : By l b) (hl : l.length ≤ 256) :
    ∃ b' y, By l b' ∧ callA am N n 27 [.int .i64 seq, b, .ptr p 1 0] H = some (.agg (dgS s seq b'), H ++ [y]) := by
  obtain ⟨n, rfl⟩ : ∃ m, n = m + 1 := ⟨n - 1, by omega⟩
  obtain ⟨b', hb', c23⟩ := @clone_spec N n (by omega) l b hb (by omega)
  refine ⟨b', ⟨1, .var (dgS s seq b')⟩, hb', ?_⟩
  obtain ⟨h0, e0⟩ : ∃ h0, h0 = H ++ [(⟨1, .var [.int .i64 0, .int .i64 0, .int .i64 0, .int .i64 0, .int .i64 0, .nils]⟩ : Ob)] := ⟨_, rfl⟩
  have e0' := e0.symm
  have l0 : h0.length = H.length + 1 := by rw [e0]; simp
  have d0 : h0[H.length]? = some ⟨1, .var [.int .i64 0, .int .i64 0, .int .i64 0, .int .i64 0, .int .i64 0, .nils]⟩ := by rw [e0, app_get0]; rfl
  have d1 : ∀ x, h0.set H.length x = H ++ [x] := fun x => by rw [e0, app_set0]; rfl
  have d2 : ∀ x, (H ++ [x])[H.length]? = some x := fun x => by rw [app_get0]; rfl
  have hpl := lt_of_get hp
  have hal := lt_of_get ha.ob
  have p0 : h0[p]? = some ⟨1, .var [.ptr a 1 0]⟩ := by rw [e0, List.getElem?_append_left hpl]; exact hp
  have a0 : h0[a]? = some ⟨1, .var (s.cs W)⟩ := by rw [e0, List.getElem?_append_left hal]; exact ha.ob
  have hobb : b.objs = [] := hb.objs
  have f23 : ∀ fb (h : Heap), ({ pureF := pureOf am, call := callA am N n, N := N, fb := fb } : Env).framed.call 23 [b] h = some (b', h) := fun fb h =>
    frame_free pm23 (.inr rfl) (by simp [V.objsL, hobb]) c23 hb'.objs
  have k1 := hb'.cells
  have k2 := hb'.one
  have k3 := hb'.njunk
  have k4 := hb'.nagg
  have k5 := hb'.ntup
  have q3 : (s.cs W).length = 9 := rfl
  have t1 : List.take 1 (List.drop 1 (s.cs W)) = [.int .i64 s.me] := rfl
  have t2 : List.take 1 (List.drop 2 (s.cs W)) = [.int .i64 s.other] := rfl
  have t3 : List.take 1 (List.drop 3 (s.cs W)) = [.int .i64 s.view] := rfl
  have t7 : List.take 1 (List.drop 7 (s.cs W)) = [.int .i64 s.got] := rfl
  have n1 : p ≠ H.length := by omega
  have n2 : a ≠ H.length := by omega
  have e1 : (p == H.length) = false := by simp; omega
  have e2 : (H.length == p) = false := by simp; omega
  have e3 : (a == H.length) = false := by simp; omega
  have e4 : (H.length == a) = false := by simp; omega
  have m1 : p < h0.length := by omega
  have m2 : a < h0.length := by omega
  refine call_keep_eq at27 rfl rfl (by decide) (sx_wp ?_)
  unfold dgS dgC
  simp +contextual -implicitDefEqProofs (maxSteps := 10000000) only [sx_seq, sxL_succ, lpQ_norm, lpQ_exit, lpQ_ret, loopQ_norm, loopQ_exit, loopQ_ret, sqQ_norm, sqQ_ret, sqQ_exit, sx_block, blkQ_norm, blkQ_exit, blkQ_ret, sx_cond, cdP_true, cdP_false, cdP_bool, sx_region, sx_draw, plainD, List.all_cons, List.all_nil, List.isEmpty_nil, List.isEmpty_cons, sxo_nil, sxo_cons, sxo_guard, gdS_bool, gdS_eff, gdS_tup, gdS_sel, gdS_seleff, sxK_def, wcall_some, effP_ret, effP_set, effP_none, effP_ite, wop_call, wop_cv, cvP_func, sx_ret, sx_exit, sx_skip, sx_clr, stays, ↓selV_wt, ↓selV_wf, ↓impB_wt, ↓impB_wf, ↓selV_nor, ↓impB_nor, ↓selV_nt, ↓selV_nf, ↓impB_nt, ↓impB_nf, wantB_true, wantB_false, ↓selV_true, ↓selV_false, ↓selV_and, ↓impB_true, ↓impB_false, ↓impB_and, impB_triv, valOf_some, retH_some, ↓prim_pick, pickO_true, pickO_false, pickO_and, pickO_or, pickO_andr, pickO_orr, pickO_orrn, pickO_orn, pickO_bb, pickAnd_bool, pickOr_bool, ↓selV_nn, ↓impB_nn, Bool.and_assoc, Bool.or_assoc, doOp, ev_fr, ev_cst, put_none, put_fr, get, ins, del, dels, Nat.reduceLT, Nat.reduceEqDiff, ↓reduceIte, reduceCtorEq, ne_eq, not_false_eq_true, implies_true, framed_pureF, framed_fb, framed_N, framed_pure, wop_prim, prim, YLD, mkA, V.cells, List.getElem?_cons_zero, List.getElem?_cons_succ, List.set_cons_zero, List.set_cons_succ, Nat.zero_add, Nat.add_zero, Nat.reduceAdd, Nat.reduceSub, Nat.reduceMul, Nat.reduceLeDiff, Nat.not_lt_zero, List.map_cons, List.map_nil, List.cons_append, List.nil_append, loadA, cellsAt, nAg, packA, opt_bind_some, opt_map_some, opt_bind_none, opt_map_none, List.drop, List.take, List.head?, List.length_cons, List.length_nil, binA, unA, eqCells, eqCell, negB, fillA, sr_nil, sr_cons, sr_succ, sr_all, sr_len, storeA, Ob.with, indexedI, V.oneCell, intOf?, retQ_ret, retQ_norm, resA, resA1, fr_getD, packR, sealDepth, shut_bool, shut_int, Option.some.injEq, V.bool.injEq, V.int.injEq, Bool.not_true, Bool.not_false, true_and, and_true, and_self, Bool.and_true, Bool.and_false, Bool.true_and, Bool.false_and, Bool.or_true, Bool.or_false, Bool.true_or, Bool.false_or, Bool.false_eq_true, Int.reduceLT, Int.reduceLE, Int.reduceToNat, Int.reduceNeg, shut_plain, freeL_cons, freeL_nil, free_int, free_bool, free_agg, free_str, free_nils, free_tup, free_sl, true_implies, false_implies, Nat.sub_zero, Int.natCast_nonneg, Int.toNat_natCast, Nat.le_refl, not_true_eq_false, Int.reduceAdd, Int.reduceSub, Int.reduceMul, wrap64, false_and, and_false, cond_true, cond_false, Bool.cond_true_left, Bool.cond_false_right, Int.reduceBNe, Int.reduceBEq, decide_true, decide_false, Int.cast_ofNat_Int, Nat.mul_one, eq_self, Bool.true_eq_false, Bool.not_eq_true, Bool.not_eq_false, deads, List.replicate, argsF, am27, sx_drawd, wpd_nil, wpd_cons, wdK_def, fpOf, fpV, fpCall, Fp.ok, disj, List.contains_cons, List.contains_nil, Nat.reduceBEq, List.all_append, V.objsL, V.objs,  List.getD_cons_zero, List.getD_cons_succ, List.append_nil, app_get0, app_get, app_set0, app_set, e0', d0, d1, d2, p0, a0, hobb, pm23, f23, k1, k2, q3, t1, t2, t3, t7, isNil, e1, e2, e3, e4, m1, m2]

/-! ### Rows of datagrams -/

def Cells6 (C : List (List V)) : Prop := ∀ c ∈ C, c.length = 6 ∧ c.all V.oneCell = true

/-- A slice of datagrams that was made behind object p. -/
def DRow (p : Nat) (H : Heap) (sl : V) (C : List (List V)) : Prop :=
  (C = [] ∧ sl = .nils) ∨ (C ≠ [] ∧ ∃ o ver, p ≤ o ∧ sl = .view o ver 0 C.length 6 none ∧ H[o]? = some ⟨ver, .arr C.flatten⟩)

theorem DRow.keep {p : Nat} {H H' : Heap} {sl : V} {C : List (List V)} (h : DRow p H sl C) (hk : ∀ o, p ≤ o → o < H.length → H'[o]? = H[o]?) : DRow p H' sl C := by
  rcases h with h | ⟨hL, o, ver, hp, rfl, ho⟩
  · exact .inl h
  · exact .inr ⟨hL, o, ver, hp, rfl, by rw [hk o hp (lt_of_get ho)]; exact ho⟩

theorem DRow.len {p : Nat} {H : Heap} {sl : V} {C : List (List V)} (h : DRow p H sl C) : lenA sl = some C.length ∧ (∀ s, sl ≠ .str s) ∧ sl.cells = [sl] := by
  rcases h with ⟨rfl, rfl⟩ | ⟨hL, o, ver, hp, rfl, ho⟩
  · exact ⟨rfl, fun _ => V.noConfusion, rfl⟩
  · exact ⟨rfl, fun _ => V.noConfusion, rfl⟩

theorem flat6 {C : List (List V)} (h : Cells6 C) : C.flatten.length = C.length * 6 := flat_length (fun c hc => (h c hc).1)

/-- One datagram more. -/
theorem DRow.append {p o0 : Nat} {H : Heap} {sl : V} {C : List (List V)} {x : Ob} {c : List V} (h : DRow p H sl C) (hC : Cells6 C) (hc : c.length = 6) (h1 : c.all V.oneCell = true) (h0 : H[o0]? = some x) (hp : p ≤ o0) (hL : C.length ≤ 1100) :
    ∃ o1 y v, appendA (fun o => H[o]?) o0 6 64 sl (.sl [.agg c] 6 (some 1)) = some (.set o1 y v) ∧ DRow p (H.set o1 y) v (C ++ [c]) ∧ p ≤ o1 ∧ o1 < H.length := by
  have hl1 : lenA (.sl [.agg c] 6 (some 1)) = some 1 := rfl
  have hf1 : firstA (fun o => H[o]?) 6 1 (.sl [.agg c] 6 (some 1)) = some c := by rw [firstA_sl1]; rfl
  rcases h with ⟨rfl, rfl⟩ | ⟨hne, o, ver, hpo, rfl, hob⟩
  · refine ⟨o0, ⟨x.ver + 1, .arr c⟩, .view o0 (x.ver + 1) 0 1 6 none, ?_, .inr ⟨by simp, o0, x.ver + 1, hp, rfl, ?_⟩, hp, lt_of_get h0⟩
    · unfold appendA
      simp [hl1, hf1, h1, mkA, h0, maxBytes]
    · rw [List.getElem?_set_self (lt_of_get h0)]; simp
  · refine ⟨o, ⟨ver + 1, .arr (C.flatten ++ c)⟩, .view o (ver + 1) 0 (C.length + 1) 6 none, ?_, .inr ⟨by simp, o, ver + 1, hpo, by simp, ?_⟩, hpo, lt_of_get hob⟩
    · have : (C.length + 1) * 64 ≤ maxBytes := by unfold maxBytes; omega
      have h6 := flat6 hC
      unfold appendA
      simp [hl1, hf1, h1, cellsAt, hob, this, h6]
    · rw [List.getElem?_set_self (lt_of_get hob)]; simp

/-! ### What is told -/

def tellI (first from_ : Int) : Nat → List Nat
  | 0 => []
  | i + 1 => tellI first from_ i ++ (if first + (i : Int) ≥ from_ then [i] else [])

theorem tellI_len (f g : Int) : ∀ i, (tellI f g i).length ≤ i
  | 0 => Nat.le_refl _
  | i + 1 => by
    have := tellI_len f g i
    simp only [tellI, List.length_append]
    split <;> simp <;> omega

/-- The datagrams of these waiting ones. -/
inductive TD (s : Ses) (L : List V) : List Nat → List (List V) → Prop
  | nil : TD s L [] []
  | snoc {I : List Nat} {C : List (List V)} {j : Nat} {c b : V} {l : List Int} (h : TD s L I C) (hj : L[j]? = some c) (hc : By l c) (hb : By l b) : TD s L (I ++ [j]) (C ++ [dgS s (s.first + (j : Int)) b])

theorem TD.len {s : Ses} {L : List V} {I : List Nat} {C : List (List V)} (h : TD s L I C) : C.length = I.length := by
  induction h with
  | nil => rfl
  | snoc _ _ _ _ ih => simp [ih]

theorem dgS_six {s : Ses} {seq : Int} {l : List Int} {b : V} (hb : By l b) : (dgS s seq b).length = 6 ∧ (dgS s seq b).all V.oneCell = true := by
  refine ⟨rfl, ?_⟩
  simp [dgS, dgC, V.oneCell]
  have := hb.one
  unfold V.oneCell at this
  exact this

theorem TD.six {s : Ses} {L : List V} {I : List Nat} {C : List (List V)} (h : TD s L I C) : Cells6 C := by
  induction h with
  | nil => intro c hc; cases hc
  | snoc _ _ _ hb ih =>
    intro c hc
    rcases List.mem_append.1 hc with hc | hc
    · exact ih c hc
    · obtain rfl := List.mem_singleton.1 hc
      exact dgS_six hb

end Go.Am.T
