import Derived.Test.YtmaijpjjopechaaK2
import Derived.Calls
import Derived.Carry
import Derived.ChangeShapes
import Derived.KernelRfl
import Derived.OpenShut
set_option linter.unusedSectionVars false
set_option linter.unusedVariables false
set_option linter.unusedSimpArgs false
set_option maxRecDepth 10000
namespace Go.Am.T
attribute [local congr] selV_congr impB_congr
theorem DAt.keep {H H' : Heap} {d o : Nat} {D : Dv} (h : DAt H d o D) (hk : ∀ p, p = d ∨ p = o → H'[p]? = H[p]?) : DAt H' d o D := by
  obtain ⟨ok, ⟨ver, cap, h1, h2⟩, h3⟩ := h
  exact ⟨ok, ⟨ver, cap, by rw [hk d (.inl rfl)]; exact h1, by rw [hk o (.inr rfl)]; exact h2⟩, h3⟩
theorem DAt.lt {H : Heap} {d o : Nat} {D : Dv} (h : DAt H d o D) : d < H.length ∧ o < H.length := by
  obtain ⟨ok, ⟨ver, cap, h1, h2⟩, h3⟩ := h
  exact ⟨lt_of_get h1, lt_of_get h2⟩
theorem DAt.app {H : Heap} {d o : Nat} {D : Dv} (h : DAt H d o D) (l : Heap) : DAt (H ++ l) d o D :=
  h.keep fun p hp => List.getElem?_append_left (by rcases hp with rfl | rfl <;> simp [h.lt])
theorem RAt.keep {H H' : Heap} {r s e : Nat} {D : Dv} (h : RAt H r s e D) (hk : ∀ p, p = r ∨ p = s ∨ p = e → H'[p]? = H[p]?) : RAt H' r s e D := by
  obtain ⟨ok, ⟨ver, cap, ver', cap', h1, h2, h3⟩, h4, h5, h6⟩ := h
  exact ⟨ok, ⟨ver, cap, ver', cap', by rw [hk r (.inl rfl)]; exact h1, by rw [hk s (.inr (.inl rfl))]; exact h2, by rw [hk e (.inr (.inr rfl))]; exact h3⟩, h4, h5, h6⟩
theorem RAt.lt {H : Heap} {r s e : Nat} {D : Dv} (h : RAt H r s e D) : r < H.length ∧ s < H.length ∧ e < H.length := by
  obtain ⟨ok, ⟨ver, cap, ver', cap', h1, h2, h3⟩, h4⟩ := h
  exact ⟨lt_of_get h1, lt_of_get h2, lt_of_get h3⟩
theorem DAt.put {H H' : Heap} {d o : Nat} {D D' : Dv} {ver : Nat} {cap : Option Nat} (h : DAt H d o D) (ok : D'.Ok) (hS : D'.S = D.S) (hd : H'[d]? = some ⟨1, .var (D'.cs (.view o ver 0 D.S.length 64 cap))⟩) (ho : H[o]? = some ⟨ver, .arr (D.S.flatten.map (V.int .u8))⟩) (hk : H'[o]? = H[o]?) : DAt H' d o D' :=
  ⟨ok, ⟨ver, cap, by rw [hS]; exact hd, by rw [hk, hS]; exact ho⟩, h.apart⟩
def Dv.whole (D : Dv) : Dv := { D with cut := false, lost := false }
theorem Dv.Ok.whole {D : Dv} (h : D.Ok) : D.whole.Ok := ⟨h.e8, h.n1, h.n8, h.s1, h.s4, h.sec, fun h => (by cases h), h.l1, h.z, h.eb⟩
def Dv.cutAt (D : Dv) (n : Int) : Dv := { D with cut := true, left := n, lost := false }
theorem Dv.Ok.cutAt {D : Dv} (h : D.Ok) {n : Int} (h0 : 0 ≤ n) (h1 : n ≤ 9223372036854775807) : (D.cutAt n).Ok := ⟨h.e8, h.n1, h.n8, h.s1, h.s4, h.sec, fun _ => h0, h1, h.z, h.eb⟩
theorem whole_spec {N n : Nat} (hn : 2 ≤ n) {H : Heap} {d o : Nat} {D : Dv} (h : DAt H d o D) :
    ∃ H', callA am N n 20 [.ptr d 1 0] H = some (.bool (!D.lost), H') ∧ H'.length = H.length ∧ (∀ p, p ≠ d → H'[p]? = H[p]?) ∧ DAt H' d o D.whole := by
  obtain ⟨n, rfl⟩ : ∃ m, n = m + 1 := ⟨n - 1, by omega⟩
  have c48 := @there_spec N n (by omega) H _ _ h.looks
  obtain ⟨ver, cap, hd, ho⟩ := h.ob
  have ok := h.ok
  have hlt := lt_of_get hd
  have gs : ∀ y : Ob, (H.set d y)[d]? = some y := fun y => List.getElem?_set_self hlt
  have ss : ∀ y z : Ob, (H.set d y).set d z = H.set d z := fun y z => List.set_set ..
  refine ⟨H.set d ⟨1, .var (D.whole.cs (.view o ver 0 D.S.length 64 cap))⟩, ?_, List.length_set, fun p hp => List.getElem?_set_ne (Ne.symm hp), h.put ok.whole rfl (gs _) ho (List.getElem?_set_ne h.apart)⟩
  generalize V.view o ver 0 D.S.length 64 cap = X at *
  have q1 := @dv_len D X ok.e8
  have ql := @dv_lost D X ok.e8
  have sc := @dv_setCut D X ok.e8 false
  have p1 := @dv_len ({ D with cut := false } : Dv) X ok.e8
  have sl : setRange (({ D with cut := false } : Dv).cs X) 12 [.bool false] = D.whole.cs X := @dv_setLost ({ D with cut := false } : Dv) X ok.e8 false
  refine call_keep_eq at20 rfl rfl (by decide) (sx_wp ?_)
  generalize D.whole.cs X = cs' at *
  generalize D.cs X = cs at *
  generalize ({ D with cut := false } : Dv).cs X = cs1 at *
  simp +contextual -implicitDefEqProofs (maxSteps := 10000000) only [sxb, plainD, stays, ↓selV_wt, ↓selV_wf, ↓impB_wt, ↓impB_wf, ↓selV_nor, ↓impB_nor, ↓selV_nt, ↓selV_nf, ↓impB_nt, ↓impB_nf, ↓selV_true, ↓selV_false, ↓selV_and, ↓impB_true, ↓impB_false, ↓impB_and, ↓prim_pick, ↓selV_nn, ↓impB_nn, doOp, get, ins, del, dels, Nat.reduceLT, Nat.reduceEqDiff, ↓reduceIte, reduceCtorEq, ne_eq, implies_true, prim, YLD, mkA, V.cells, Nat.reduceAdd, Nat.reduceSub, Nat.reduceMul, Nat.reduceLeDiff, loadA, cellsAt, nAg, packA, List.drop, List.take, List.head?, binA, unA, eqCells, eqCell, negB, fillA, storeA, Ob.with, indexedI, V.oneCell, intOf?, resA, resA1, packR, sealDepth, Int.reduceLT, Int.reduceLE, Int.reduceToNat, Int.reduceNeg, Int.reduceAdd, Int.reduceSub, Int.reduceMul, cond_true, cond_false, Int.reduceBNe, Int.reduceBEq, eq_self, deads, List.replicate, argsF, am20, isNil, List.append_nil, c48, hd, hlt, q1, ql, sc, gs, ss, p1, sl]
theorem cut_spec {N n : Nat} (hn : 2 ≤ n) {H : Heap} {d o : Nat} {D : Dv} (h : DAt H d o D) (k : Int) (hk : k ≤ 9223372036854775807) :
    ∃ H', callA am N n 25 [.ptr d 1 0, .int .i64 k] H = some (.int .i64 (bif decide (k < 0) then 2 else bif D.cut then 9 else 0), H') ∧ H'.length = H.length ∧ (∀ p, p ≠ d → H'[p]? = H[p]?) ∧ DAt H' d o (bif (decide (k < 0) || D.cut) then D else D.cutAt k) := by
  obtain ⟨n, rfl⟩ : ∃ m, n = m + 1 := ⟨n - 1, by omega⟩
  have c48 := @there_spec N n (by omega) H _ _ h.looks
  obtain ⟨ver, cap, hd, ho⟩ := h.ob
  have ok := h.ok
  have hlt := lt_of_get hd
  have gs : ∀ y : Ob, (H.set d y)[d]? = some y := fun y => List.getElem?_set_self hlt
  have ss : ∀ y z : Ob, (H.set d y).set d z = H.set d z := fun y z => List.set_set ..
  cases g : decide (k < 0) with
  | true =>
    refine ⟨H, ?_, rfl, fun _ _ => rfl, h⟩
    refine call_keep_eq at25 rfl rfl (by decide) (sx_wp ?_)
    simp +contextual -implicitDefEqProofs (maxSteps := 10000000) only [sxb, plainD, stays, ↓selV_wt, ↓selV_wf, ↓impB_wt, ↓impB_wf, ↓selV_nor, ↓impB_nor, ↓selV_nt, ↓selV_nf, ↓impB_nt, ↓impB_nf, ↓selV_true, ↓selV_false, ↓selV_and, ↓impB_true, ↓impB_false, ↓impB_and, ↓prim_pick, ↓selV_nn, ↓impB_nn, doOp, get, ins, del, dels, Nat.reduceLT, Nat.reduceEqDiff, ↓reduceIte, reduceCtorEq, ne_eq, implies_true, prim, YLD, mkA, V.cells, Nat.reduceAdd, Nat.reduceSub, Nat.reduceMul, Nat.reduceLeDiff, loadA, cellsAt, nAg, packA, List.drop, List.take, List.head?, binA, unA, eqCells, eqCell, negB, fillA, storeA, Ob.with, indexedI, V.oneCell, intOf?, resA, resA1, packR, sealDepth, Int.reduceLT, Int.reduceLE, Int.reduceToNat, Int.reduceNeg, Int.reduceAdd, Int.reduceSub, Int.reduceMul, cond_true, cond_false, Int.reduceBNe, Int.reduceBEq, eq_self, deads, List.replicate, argsF, am25, isNil, List.append_nil, c48, g]
  | false =>
    have k0 : 0 ≤ k := by have := of_decide_eq_false g; omega
    cases gc : D.cut with
    | true =>
      refine ⟨H, ?_, rfl, fun _ _ => rfl, h⟩
      generalize V.view o ver 0 D.S.length 64 cap = X at *
      have q1 := @dv_len D X ok.e8
      have qc := @dv_cut D X ok.e8
      rw [gc] at qc
      refine call_keep_eq at25 rfl rfl (by decide) (sx_wp ?_)
      generalize D.cs X = cs at *
      simp +contextual -implicitDefEqProofs (maxSteps := 10000000) only [sxb, plainD, stays, ↓selV_wt, ↓selV_wf, ↓impB_wt, ↓impB_wf, ↓selV_nor, ↓impB_nor, ↓selV_nt, ↓selV_nf, ↓impB_nt, ↓impB_nf, ↓selV_true, ↓selV_false, ↓selV_and, ↓impB_true, ↓impB_false, ↓impB_and, ↓prim_pick, ↓selV_nn, ↓impB_nn, doOp, get, ins, del, dels, Nat.reduceLT, Nat.reduceEqDiff, ↓reduceIte, reduceCtorEq, ne_eq, implies_true, prim, YLD, mkA, V.cells, Nat.reduceAdd, Nat.reduceSub, Nat.reduceMul, Nat.reduceLeDiff, loadA, cellsAt, nAg, packA, List.drop, List.take, List.head?, binA, unA, eqCells, eqCell, negB, fillA, storeA, Ob.with, indexedI, V.oneCell, intOf?, resA, resA1, packR, sealDepth, Int.reduceLT, Int.reduceLE, Int.reduceToNat, Int.reduceNeg, Int.reduceAdd, Int.reduceSub, Int.reduceMul, cond_true, cond_false, Int.reduceBNe, Int.reduceBEq, eq_self, deads, List.replicate, argsF, am25, isNil, List.append_nil, c48, g, hd, hlt, q1, qc]
    | false =>
      refine ⟨H.set d ⟨1, .var ((D.cutAt k).cs (.view o ver 0 D.S.length 64 cap))⟩, ?_, List.length_set, fun p hp => List.getElem?_set_ne (Ne.symm hp), h.put (ok.cutAt k0 hk) rfl (gs _) ho (List.getElem?_set_ne h.apart)⟩
      generalize V.view o ver 0 D.S.length 64 cap = X at *
      have q1 := @dv_len D X ok.e8
      have qc := @dv_cut D X ok.e8
      rw [gc] at qc
      have sc := @dv_setCut D X ok.e8 true
      have p1 := @dv_len ({ D with cut := true } : Dv) X ok.e8
      have sl := @dv_setLeft ({ D with cut := true } : Dv) X ok.e8 k
      have p2 := @dv_len ({ ({ D with cut := true } : Dv) with left := k } : Dv) X ok.e8
      have so : setRange (({ ({ D with cut := true } : Dv) with left := k } : Dv).cs X) 12 [.bool false] = (D.cutAt k).cs X := @dv_setLost ({ ({ D with cut := true } : Dv) with left := k } : Dv) X ok.e8 false
      refine call_keep_eq at25 rfl rfl (by decide) (sx_wp ?_)
      generalize (D.cutAt k).cs X = cs' at *
      generalize D.cs X = cs at *
      generalize ({ D with cut := true } : Dv).cs X = cs1 at *
      generalize ({ ({ D with cut := true } : Dv) with left := k } : Dv).cs X = cs2 at *
      simp +contextual -implicitDefEqProofs (maxSteps := 10000000) only [sxb, plainD, stays, ↓selV_wt, ↓selV_wf, ↓impB_wt, ↓impB_wf, ↓selV_nor, ↓impB_nor, ↓selV_nt, ↓selV_nf, ↓impB_nt, ↓impB_nf, ↓selV_true, ↓selV_false, ↓selV_and, ↓impB_true, ↓impB_false, ↓impB_and, ↓prim_pick, ↓selV_nn, ↓impB_nn, doOp, get, ins, del, dels, Nat.reduceLT, Nat.reduceEqDiff, ↓reduceIte, reduceCtorEq, ne_eq, implies_true, prim, YLD, mkA, V.cells, Nat.reduceAdd, Nat.reduceSub, Nat.reduceMul, Nat.reduceLeDiff, loadA, cellsAt, nAg, packA, List.drop, List.take, List.head?, binA, unA, eqCells, eqCell, negB, fillA, storeA, Ob.with, indexedI, V.oneCell, intOf?, resA, resA1, packR, sealDepth, Int.reduceLT, Int.reduceLE, Int.reduceToNat, Int.reduceNeg, Int.reduceAdd, Int.reduceSub, Int.reduceMul, cond_true, cond_false, Int.reduceBNe, Int.reduceBEq, eq_self, deads, List.replicate, argsF, am25, isNil, List.append_nil, c48, g, hd, hlt, q1, qc, sc, gs, ss, p1, sl, p2, so]
def Dv.setE (D : Dv) (i : Nat) (v : Int) : Dv := { D with E := D.E.set i v }
theorem Dv.Ok.setE {D : Dv} (h : D.Ok) {i : Nat} (hi : i < D.n) {v : Int} (hv : 0 ≤ v ∧ v ≤ 2147483647) : (D.setE i v).Ok := by
  refine ⟨by simp [Dv.setE, h.e8], h.n1, h.n8, h.s1, h.s4, h.sec, h.l0, h.l1, fun j hj => ?_, fun e he => ?_⟩
  rotate_left
  · rcases List.mem_or_eq_of_mem_set he with he | he
    · exact h.eb e he
    · rw [he]; exact hv
  have hne : i ≠ j := by have : D.n ≤ j := hj; omega
  have := h.z j hj
  simp only [Dv.setE, List.getD_eq_getElem?_getD] at this ⊢
  rw [List.getElem?_set_ne hne]; exact this
def Dv.doE (D : Dv) (i : Nat) (v : Int) : Dv := bif D.out then D.lose else D.tick.setE i v
theorem Dv.Ok.doE {D : Dv} (h : D.Ok) {i : Nat} (hi : i < D.n) {v : Int} (hv : 0 ≤ v ∧ v ≤ 2147483647) : (D.doE i v).Ok := by
  unfold Dv.doE
  cases g : D.out with
  | true => exact h.lose
  | false => exact (h.tick g).setE (D := D.tick) hi hv
theorem up1_spec {N n : Nat} (hn : 1 ≤ n) {K : Heap} {b0 b1 d : Nat} {D : Dv} {X : V} {i : Nat} (hi : i < 8) (e8 : D.E.length = 8) (h0 : K[b0]? = some ⟨1, .var [.ptr d 1 0]⟩) (h1 : K[b1]? = some ⟨1, .var [.int .i64 i]⟩) (hd : K[d]? = some ⟨1, .var (D.cs X)⟩) :
    callA am N n 56 [.ptr b0 1 0, .ptr b1 1 0] K = some (.tup [], K.set d ⟨1, .var ((D.setE i (IntKind.i64.wrap (D.E.getD i 0 + 1))).cs X)⟩) := by
  obtain ⟨n, rfl⟩ : ∃ m, n = m + 1 := ⟨n - 1, by omega⟩
  have hlt := lt_of_get hd
  have q1 := @dv_len D X e8
  have q2 := @dv_e D X e8 i hi
  have se : ∀ v, setRange (D.cs X) (1 + i) [.int .i64 v] = (D.setE i v).cs X := fun v => @dv_setE D X e8 i hi v
  have i8 : (i : Int) < 8 := by omega
  have i7 : 1 + i + 1 ≤ 14 := by omega
  refine call_keep_eq at56 rfl rfl (by decide) (sx_wp ?_)
  generalize D.cs X = cs at *
  simp +contextual -implicitDefEqProofs (maxSteps := 10000000) only [sxb, plainD, stays, ↓selV_wt, ↓selV_wf, ↓impB_wt, ↓impB_wf, ↓selV_nor, ↓impB_nor, ↓selV_nt, ↓selV_nf, ↓impB_nt, ↓impB_nf, ↓selV_true, ↓selV_false, ↓selV_and, ↓impB_true, ↓impB_false, ↓impB_and, ↓prim_pick, ↓selV_nn, ↓impB_nn, doOp, get, ins, del, dels, Nat.reduceLT, Nat.reduceEqDiff, ↓reduceIte, reduceCtorEq, ne_eq, implies_true, prim, YLD, mkA, V.cells, Nat.reduceAdd, Nat.reduceSub, Nat.reduceMul, Nat.reduceLeDiff, loadA, cellsAt, nAg, packA, List.drop, List.take, List.head?, binA, unA, eqCells, eqCell, negB, fillA, storeA, Ob.with, indexedI, V.oneCell, intOf?, resA, resA1, packR, sealDepth, Int.reduceLT, Int.reduceLE, Int.reduceToNat, Int.reduceNeg, Int.reduceAdd, Int.reduceSub, Int.reduceMul, cond_true, cond_false, Int.reduceBNe, Int.reduceBEq, eq_self, deads, List.replicate, argsF, am56, isNil, List.append_nil, h0, h1, hd, hlt, q1, q2, se, i8, i7]
theorem ep_bound {D : Dv} (h : D.Ok) (i : Int) : 0 ≤ D.ep i ∧ D.ep i ≤ 2147483647 := by
  unfold Dv.ep
  rw [List.getD_eq_getElem?_getD]
  cases g : D.E[i.toNat]? with
  | none => exact ⟨Int.le_refl 0, by decide⟩
  | some v => exact h.eb v (List.mem_of_getElem? g)
def Dv.upR (D : Dv) (i : Int) : List V := bif !D.isNode i then [.int .i64 0, .int .i64 2] else bif D.ep i == 2147483647 then [.int .i64 0, .int .i64 5] else [.int .i64 (D.ep i + 1), .int .i64 0]
def Dv.up (D : Dv) (i : Int) : Dv := bif D.isNode i && !(D.ep i == 2147483647) then D.doE i.toNat (D.ep i + 1) else D
theorem up_spec {N n : Nat} (hn : 4 ≤ n) {H : Heap} {d o : Nat} {D : Dv} (h : DAt H d o D) (i : Int) :
    ∃ H', callA am N n 27 [.ptr d 1 0, .int .i64 i] H = some (.tup (D.upR i), H') ∧ H.length ≤ H'.length ∧ (∀ p, p < H.length → p ≠ d → H'[p]? = H[p]?) ∧ DAt H' d o (D.up i) := by
  obtain ⟨n, rfl⟩ : ∃ m, n = m + 1 := ⟨n - 1, by omega⟩
  obtain ⟨K, hK⟩ : ∃ K : Heap, K = H ++ [⟨1, .var [.ptr d 1 0]⟩, ⟨1, .var [.int .i64 i]⟩] := ⟨_, rfl⟩
  have hKl : K.length = H.length + 2 := by rw [hK]; simp
  have hKo : ∀ p, p < H.length → K[p]? = H[p]? := fun p hp => by rw [hK, List.getElem?_append_left hp]
  have D1 : DAt K d o D := by rw [hK]; exact h.app _
  have c19 := @epoch_spec N n (by omega) K _ _ D1.looks i
  have ok := h.ok
  have hlt := h.lt.1
  cases g : D.isNode i with
  | false =>
    refine ⟨K, ?_, by omega, fun p hp _ => hKo p hp, by simpa [Dv.up, g] using D1⟩
    have e : D.upR i = [.int .i64 0, .int .i64 2] := by simp [Dv.upR, g]
    rw [g] at c19
    rw [e]
    subst hK
    refine call_keep_eq at27 rfl rfl (by decide) (sx_wp ?_)
    simp +contextual -implicitDefEqProofs (maxSteps := 10000000) only [sxb, plainD, stays, ↓selV_wt, ↓selV_wf, ↓impB_wt, ↓impB_wf, ↓selV_nor, ↓impB_nor, ↓selV_nt, ↓selV_nf, ↓impB_nt, ↓impB_nf, ↓selV_true, ↓selV_false, ↓selV_and, ↓impB_true, ↓impB_false, ↓impB_and, ↓prim_pick, ↓selV_nn, ↓impB_nn, doOp, get, ins, del, dels, Nat.reduceLT, Nat.reduceEqDiff, ↓reduceIte, reduceCtorEq, ne_eq, implies_true, prim, YLD, mkA, V.cells, Nat.reduceAdd, Nat.reduceSub, Nat.reduceMul, Nat.reduceLeDiff, loadA, cellsAt, nAg, packA, List.drop, List.take, List.head?, binA, unA, eqCells, eqCell, negB, fillA, storeA, Ob.with, indexedI, V.oneCell, intOf?, resA, resA1, packR, sealDepth, Int.reduceLT, Int.reduceLE, Int.reduceToNat, Int.reduceNeg, Int.reduceAdd, Int.reduceSub, Int.reduceMul, cond_true, cond_false, Int.reduceBNe, Int.reduceBEq, eq_self, deads, List.replicate, argsF, am27, isNil, app_get0, app_get, app_set0, app_set, c19]
  | true =>
    rw [g] at c19
    obtain ⟨g1, g2⟩ := isNode_true g
    cases gm : D.ep i == 2147483647 with
    | true =>
      refine ⟨K, ?_, by omega, fun p hp _ => hKo p hp, by simpa [Dv.up, g, gm] using D1⟩
      have e : D.upR i = [.int .i64 0, .int .i64 5] := by simp [Dv.upR, g, gm]
      rw [e]
      subst hK
      refine call_keep_eq at27 rfl rfl (by decide) (sx_wp ?_)
      simp +contextual -implicitDefEqProofs (maxSteps := 10000000) only [sxb, plainD, stays, ↓selV_wt, ↓selV_wf, ↓impB_wt, ↓impB_wf, ↓selV_nor, ↓impB_nor, ↓selV_nt, ↓selV_nf, ↓impB_nt, ↓impB_nf, ↓selV_true, ↓selV_false, ↓selV_and, ↓impB_true, ↓impB_false, ↓impB_and, ↓prim_pick, ↓selV_nn, ↓impB_nn, doOp, get, ins, del, dels, Nat.reduceLT, Nat.reduceEqDiff, ↓reduceIte, reduceCtorEq, ne_eq, implies_true, prim, YLD, mkA, V.cells, Nat.reduceAdd, Nat.reduceSub, Nat.reduceMul, Nat.reduceLeDiff, loadA, cellsAt, nAg, packA, List.drop, List.take, List.head?, binA, unA, eqCells, eqCell, negB, fillA, storeA, Ob.with, indexedI, V.oneCell, intOf?, resA, resA1, packR, sealDepth, Int.reduceLT, Int.reduceLE, Int.reduceToNat, Int.reduceNeg, Int.reduceAdd, Int.reduceSub, Int.reduceMul, cond_true, cond_false, Int.reduceBNe, Int.reduceBEq, eq_self, deads, List.replicate, argsF, am27, isNil, app_get0, app_get, app_set0, app_set, c19, gm]
    | false =>
      have hb := ep_bound ok i
      have hne : D.ep i ≠ 2147483647 := by simpa using gm
      have w : IntKind.i64.wrap (D.ep i + 1) = D.ep i + 1 := wrap64 (by omega) (by omega)
      have ei : ((i.toNat : Nat) : Int) = i := by omega
      obtain ⟨ver, cap, hd, ho⟩ := D1.ob
      have k0 : K[H.length]? = some ⟨1, .var [.ptr d 1 0]⟩ := by rw [hK, app_get0]; rfl
      have k1 : K[H.length + 1]? = some ⟨1, .var [.int .i64 i]⟩ := by rw [hK, app_get]; rfl
      have hdK := lt_of_get hd
      have e : D.upR i = [.int .i64 (D.ep i + 1), .int .i64 0] := by simp [Dv.upR, g, gm]
      have eu : D.up i = D.doE i.toNat (D.ep i + 1) := by simp [Dv.up, g, gm]
      have okE : (D.doE i.toNat (D.ep i + 1)).Ok := ok.doE (by omega) (by omega)
      have c53 : ∃ b, callA am N n 53 [.ptr d 1 0, .func 56 [] [.ptr H.length 1 0, .ptr (H.length + 1) 1 0]] K = some (.bool b, K.set d ⟨1, .var ((D.doE i.toNat (D.ep i + 1)).cs (.view o ver 0 D.S.length 64 cap))⟩) := by
        obtain ⟨n, rfl⟩ : ∃ m, n = m + 1 := ⟨n - 1, by omega⟩
        cases go : D.out with
        | true =>
          refine ⟨false, ?_⟩
          rw [does_no hd ok go]
          simp only [Dv.doE, go, cond_true]
        | false =>
          refine ⟨true, ?_⟩
          have q := @up1_spec N n (by omega) (K.set d ⟨1, .var (D.tick.cs (.view o ver 0 D.S.length 64 cap))⟩) H.length (H.length + 1) d D.tick (.view o ver 0 D.S.length 64 cap) i.toNat (by have := ok.n8; omega) ok.e8
            (by rw [List.getElem?_set_ne (by omega)]; exact k0) (by rw [List.getElem?_set_ne (by omega), ei]; exact k1) (List.getElem?_set_self hdK)
          rw [does_yes hd ok go (by decide) q, List.set_set]
          have e1 : D.tick.E.getD i.toNat 0 = D.ep i := rfl
          simp only [Dv.doE, go, cond_false, e1, w]
      obtain ⟨b, c53⟩ := c53
      refine ⟨K.set d ⟨1, .var ((D.doE i.toNat (D.ep i + 1)).cs (.view o ver 0 D.S.length 64 cap))⟩, ?_, by rw [List.length_set]; omega, fun p hp hpd => by rw [List.getElem?_set_ne (Ne.symm hpd), hKo p hp], ?_⟩
      · rw [e]
        generalize (D.doE i.toNat (D.ep i + 1)).cs (.view o ver 0 D.S.length 64 cap) = cs' at *
        have c53' := c53
        subst hK
        refine call_keep_eq at27 rfl rfl (by decide) (sx_wp ?_)
        simp +contextual -implicitDefEqProofs (maxSteps := 10000000) only [sxb, plainD, stays, ↓selV_wt, ↓selV_wf, ↓impB_wt, ↓impB_wf, ↓selV_nor, ↓impB_nor, ↓selV_nt, ↓selV_nf, ↓impB_nt, ↓impB_nf, ↓selV_true, ↓selV_false, ↓selV_and, ↓impB_true, ↓impB_false, ↓impB_and, ↓prim_pick, ↓selV_nn, ↓impB_nn, doOp, get, ins, del, dels, Nat.reduceLT, Nat.reduceEqDiff, ↓reduceIte, reduceCtorEq, ne_eq, implies_true, prim, YLD, mkA, V.cells, Nat.reduceAdd, Nat.reduceSub, Nat.reduceMul, Nat.reduceLeDiff, loadA, cellsAt, nAg, packA, List.drop, List.take, List.head?, binA, unA, eqCells, eqCell, negB, fillA, storeA, Ob.with, indexedI, V.oneCell, intOf?, resA, resA1, packR, sealDepth, Int.reduceLT, Int.reduceLE, Int.reduceToNat, Int.reduceNeg, Int.reduceAdd, Int.reduceSub, Int.reduceMul, cond_true, cond_false, Int.reduceBNe, Int.reduceBEq, eq_self, deads, List.replicate, argsF, am27, isNil, app_get0, app_get, app_set0, app_set, c19, gm, c53', w]
      · rw [eu]
        have eS : (D.doE i.toNat (D.ep i + 1)).S = D.S := by unfold Dv.doE; cases D.out <;> rfl
        exact D1.put okE eS (List.getElem?_set_self hdK) ho (List.getElem?_set_ne D1.apart)
end Go.Am.T


set_option linter.unusedVariables false
set_option linter.unusedSimpArgs false
set_option maxRecDepth 10000
namespace Go.Am.T
attribute [local congr] selV_congr impB_congr
theorem fence1_spec {N n : Nat} (hn : 1 ≤ n) {K : Heap} {b0 b1 b2 d : Nat} {D : Dv} {X : V} {i : Nat} {a : Int} (hi : i < 8) (e8 : D.E.length = 8) (h0 : K[b0]? = some ⟨1, .var [.int .i64 a]⟩) (h1 : K[b1]? = some ⟨1, .var [.ptr d 1 0]⟩) (h2 : K[b2]? = some ⟨1, .var [.int .i64 i]⟩) (hd : K[d]? = some ⟨1, .var (D.cs X)⟩) :
    callA am N n 55 [.ptr b0 1 0, .ptr b1 1 0, .ptr b2 1 0] K = some (.tup [], K.set d ⟨1, .var ((D.setE i (IntKind.i64.wrap (a + 1))).cs X)⟩) := by
  obtain ⟨n, rfl⟩ : ∃ m, n = m + 1 := ⟨n - 1, by omega⟩
  have hlt := lt_of_get hd
  have q1 := @dv_len D X e8
  have se : ∀ v, setRange (D.cs X) (1 + i) [.int .i64 v] = (D.setE i v).cs X := fun v => @dv_setE D X e8 i hi v
  have i8 : (i : Int) < 8 := by omega
  have i7 : 1 + i + 1 ≤ 14 := by omega
  refine call_keep_eq at55 rfl rfl (by decide) (sx_wp ?_)
  generalize D.cs X = cs at *
  simp +contextual -implicitDefEqProofs (maxSteps := 10000000) only [sxb, plainD, stays, ↓selV_wt, ↓selV_wf, ↓impB_wt, ↓impB_wf, ↓selV_nor, ↓impB_nor, ↓selV_nt, ↓selV_nf, ↓impB_nt, ↓impB_nf, ↓selV_true, ↓selV_false, ↓selV_and, ↓impB_true, ↓impB_false, ↓impB_and, ↓prim_pick, ↓selV_nn, ↓impB_nn, doOp, get, ins, del, dels, Nat.reduceLT, Nat.reduceEqDiff, ↓reduceIte, reduceCtorEq, ne_eq, implies_true, prim, YLD, mkA, V.cells, Nat.reduceAdd, Nat.reduceSub, Nat.reduceMul, Nat.reduceLeDiff, loadA, cellsAt, nAg, packA, List.drop, List.take, List.head?, binA, unA, eqCells, eqCell, negB, fillA, storeA, Ob.with, indexedI, V.oneCell, intOf?, resA, resA1, packR, sealDepth, Int.reduceLT, Int.reduceLE, Int.reduceToNat, Int.reduceNeg, Int.reduceAdd, Int.reduceSub, Int.reduceMul, cond_true, cond_false, Int.reduceBNe, Int.reduceBEq, eq_self, deads, List.replicate, argsF, am55, isNil, List.append_nil, h0, h1, h2, hd, hlt, q1, se, i8, i7]
theorem doE_spec {N n : Nat} (hn : 1 ≤ n) {K : Heap} {d : Nat} {D : Dv} {X : V} {g : FuncId} {caps : List V} {i : Nat} {v : Int} (ok : D.Ok) (hd : K[d]? = some ⟨1, .var (D.cs X)⟩) (hg : g ≠ 1000000007)
    (hc : D.out = false → ∃ u, callA am N (n - 1) g caps (K.set d ⟨1, .var (D.tick.cs X)⟩) = some (u, (K.set d ⟨1, .var (D.tick.cs X)⟩).set d ⟨1, .var ((D.tick.setE i v).cs X)⟩)) :
    ∃ b, callA am N n 53 [.ptr d 1 0, .func g [] caps] K = some (.bool b, K.set d ⟨1, .var ((D.doE i v).cs X)⟩) := by
  obtain ⟨n, rfl⟩ : ∃ m, n = m + 1 := ⟨n - 1, by omega⟩
  cases go : D.out with
  | true =>
    refine ⟨false, ?_⟩
    rw [does_no hd ok go]
    simp only [Dv.doE, go, cond_true]
  | false =>
    refine ⟨true, ?_⟩
    obtain ⟨u, q⟩ := hc go
    rw [Nat.add_sub_cancel] at q
    rw [does_yes hd ok go hg q, List.set_set]
    simp only [Dv.doE, go, cond_false]
def Dv.may (D : Dv) (w a : Int) : Bool := D.isNode w && (decide (a ≥ 0) && decide (a < 2147483647))
def Dv.fence (D : Dv) (i e w a : Int) : Dv := bif (D.who i e (D.may w a) == 0) && decide (D.ep w ≤ a) then D.doE w.toNat (a + 1) else D
theorem who_more {D : Dv} {i e : Int} {b : Bool} (h : D.who i e b = 0) : b = true := by
  cases b with
  | true => rfl
  | false => simp [Dv.who] at h
theorem who_cases {D : Dv} (i e : Int) (b : Bool) : D.who i e b = 0 ∨ D.who i e b = 2 ∨ D.who i e b = 8 := by
  unfold Dv.who
  cases (!D.isNode i || (decide (e < 0) || (decide (e > D.ep i) || !b))) with
  | true => exact .inr (.inl rfl)
  | false => cases decide (e < D.ep i) with
    | true => exact .inr (.inr rfl)
    | false => exact .inl rfl
theorem fence_spec {N n : Nat} (hn : 4 ≤ n) {H : Heap} {d o : Nat} {D : Dv} (h : DAt H d o D) (i e w a : Int) :
    ∃ H', callA am N n 24 [.ptr d 1 0, .int .i64 i, .int .i64 e, .int .i64 w, .int .i64 a] H = some (.int .i64 (D.who i e (D.may w a)), H') ∧ H.length ≤ H'.length ∧ (∀ p, p < H.length → p ≠ d → H'[p]? = H[p]?) ∧ DAt H' d o (D.fence i e w a) := by
  obtain ⟨n, rfl⟩ : ∃ m, n = m + 1 := ⟨n - 1, by omega⟩
  obtain ⟨K, hK⟩ : ∃ K : Heap, K = H ++ [⟨1, .var [.ptr d 1 0]⟩, ⟨1, .var [.int .i64 w]⟩, ⟨1, .var [.int .i64 a]⟩] := ⟨_, rfl⟩
  have hKl : K.length = H.length + 3 := by rw [hK]; simp
  have hKo : ∀ p, p < H.length → K[p]? = H[p]? := fun p hp => by rw [hK, List.getElem?_append_left hp]
  have D1 : DAt K d o D := by rw [hK]; exact h.app _
  have c48 := @there_spec N n (by omega) K _ _ D1.looks
  have c50 := @node_spec N n (by omega) K _ _ D1.looks w
  rw [show (decide (w ≥ 0) && decide (w < (D.n : Int))) = D.isNode w from rfl] at c50
  have c52 := @who_spec N n (by omega) K _ _ D1.looks i e (D.may w a)
  have em : (D.isNode w && (decide (a ≥ 0) && decide (a < 2147483647))) = D.may w a := rfl
  have ok := h.ok
  have hlt := h.lt.1
  rcases Int.lt_or_le 0 (D.who i e (D.may w a)) with hpos | hneg
  · have gz : (D.who i e (D.may w a) != 0) = true := by simp; omega
    have gz' : (D.who i e (D.may w a) == 0) = false := by simp; omega
    refine ⟨K, ?_, by omega, fun p hp _ => hKo p hp, by simpa [Dv.fence, gz'] using D1⟩
    generalize D.who i e (D.may w a) = R at *
    subst hK
    refine call_keep_eq at24 rfl rfl (by decide) (sx_wp ?_)
    simp +contextual -implicitDefEqProofs (maxSteps := 10000000) only [sxb, plainD, stays, ↓selV_wt, ↓selV_wf, ↓impB_wt, ↓impB_wf, ↓selV_nor, ↓impB_nor, ↓selV_nt, ↓selV_nf, ↓impB_nt, ↓impB_nf, ↓selV_true, ↓selV_false, ↓selV_and, ↓impB_true, ↓impB_false, ↓impB_and, ↓prim_pick, ↓selV_nn, ↓impB_nn, doOp, get, ins, del, dels, Nat.reduceLT, Nat.reduceEqDiff, ↓reduceIte, reduceCtorEq, ne_eq, implies_true, prim, YLD, mkA, V.cells, Nat.reduceAdd, Nat.reduceSub, Nat.reduceMul, Nat.reduceLeDiff, loadA, cellsAt, nAg, packA, List.drop, List.take, List.head?, binA, unA, eqCells, eqCell, negB, fillA, storeA, Ob.with, indexedI, V.oneCell, intOf?, resA, resA1, packR, sealDepth, Int.reduceLT, Int.reduceLE, Int.reduceToNat, Int.reduceNeg, Int.reduceAdd, Int.reduceSub, Int.reduceMul, cond_true, cond_false, Int.reduceBNe, Int.reduceBEq, eq_self, deads, List.replicate, argsF, am24, isNil, app_get0, app_get, app_set0, app_set, c48, c50, c52, pm48, pm50, em, gz]
  · have hR : D.who i e (D.may w a) = 0 := by rcases who_cases (D := D) i e (D.may w a) with h | h | h <;> omega
    have hmay := who_more hR
    rw [hR, hmay] at c52
    rw [hmay] at em
    simp only [Dv.may, Bool.and_eq_true, decide_eq_true_eq] at hmay
    obtain ⟨gw, a0, a1⟩ := hmay
    have ga0 : decide (a ≥ 0) = true := decide_eq_true a0
    have ga1 : decide (a < 2147483647) = true := decide_eq_true a1
    obtain ⟨g1, g2⟩ := isNode_true gw
    have hn8 := ok.n8
    have ei : ((w.toNat : Nat) : Int) = w := by omega
    have i8 : w < 8 := by omega
    have i7 : 1 + w.toNat + 1 ≤ 14 := by omega
    obtain ⟨ver, cap, hd, ho⟩ := D1.ob
    have hdK := lt_of_get hd
    have k0 : K[H.length]? = some ⟨1, .var [.ptr d 1 0]⟩ := by rw [hK, app_get0]; rfl
    have k1 : K[H.length + 1]? = some ⟨1, .var [.int .i64 w]⟩ := by rw [hK, app_get]; rfl
    have k2 : K[H.length + 2]? = some ⟨1, .var [.int .i64 a]⟩ := by rw [hK, app_get]; rfl
    have q1 := fun X => @dv_len D X ok.e8
    have q2 := fun X => @dv_e D X ok.e8 w.toNat (by omega)
    have e0 : D.E.getD w.toNat 0 = D.ep w := rfl
    rw [hR]
    cases gl : decide (D.ep w ≤ a) with
    | false =>
      refine ⟨K, ?_, by omega, fun p hp _ => hKo p hp, by simpa [Dv.fence, gl] using D1⟩
      generalize hX : V.view o ver 0 D.S.length 64 cap = X at *
      have q1 := q1 X
      have q2 := q2 X
      generalize D.cs X = cs at *
      subst hK
      refine call_keep_eq at24 rfl rfl (by decide) (sx_wp ?_)
      simp +contextual -implicitDefEqProofs (maxSteps := 10000000) only [sxb, plainD, stays, ↓selV_wt, ↓selV_wf, ↓impB_wt, ↓impB_wf, ↓selV_nor, ↓impB_nor, ↓selV_nt, ↓selV_nf, ↓impB_nt, ↓impB_nf, ↓selV_true, ↓selV_false, ↓selV_and, ↓impB_true, ↓impB_false, ↓impB_and, ↓prim_pick, ↓selV_nn, ↓impB_nn, doOp, get, ins, del, dels, Nat.reduceLT, Nat.reduceEqDiff, ↓reduceIte, reduceCtorEq, ne_eq, implies_true, prim, YLD, mkA, V.cells, Nat.reduceAdd, Nat.reduceSub, Nat.reduceMul, Nat.reduceLeDiff, loadA, cellsAt, nAg, packA, List.drop, List.take, List.head?, binA, unA, eqCells, eqCell, negB, fillA, storeA, Ob.with, indexedI, V.oneCell, intOf?, resA, resA1, packR, sealDepth, Int.reduceLT, Int.reduceLE, Int.reduceToNat, Int.reduceNeg, Int.reduceAdd, Int.reduceSub, Int.reduceMul, cond_true, cond_false, Int.reduceBNe, Int.reduceBEq, eq_self, deads, List.replicate, argsF, am24, isNil, app_get0, app_get, app_set0, app_set, c48, c50, c52, pm48, pm50, ga0, ga1, gw, hd, q1, q2, e0, g1, i8, i7, gl]
    | true =>
      have eu : D.fence i e w a = D.doE w.toNat (a + 1) := by unfold Dv.fence; rw [hR, gl]; rfl
      have okE : (D.doE w.toNat (a + 1)).Ok := ok.doE (by omega) (by omega)
      have w1 : IntKind.i64.wrap (a + 1) = a + 1 := wrap64 (by omega) (by omega)
      obtain ⟨b, c53⟩ := @doE_spec N n (by omega) K d D (.view o ver 0 D.S.length 64 cap) 55 [.ptr (H.length + 2) 1 0, .ptr H.length 1 0, .ptr (H.length + 1) 1 0] w.toNat (a + 1) ok hd (by decide) (fun go => by
        refine ⟨.tup [], ?_⟩
        have q := @fence1_spec N (n - 1) (by omega) (K.set d ⟨1, .var (D.tick.cs (.view o ver 0 D.S.length 64 cap))⟩) (H.length + 2) H.length (H.length + 1) d D.tick (.view o ver 0 D.S.length 64 cap) w.toNat a (by omega) ok.e8
          (by rw [List.getElem?_set_ne (by omega)]; exact k2) (by rw [List.getElem?_set_ne (by omega)]; exact k0) (by rw [List.getElem?_set_ne (by omega), ei]; exact k1) (List.getElem?_set_self hdK)
        rw [w1] at q
        exact q)
      refine ⟨K.set d ⟨1, .var ((D.doE w.toNat (a + 1)).cs (.view o ver 0 D.S.length 64 cap))⟩, ?_, by rw [List.length_set]; omega, fun p hp hpd => by rw [List.getElem?_set_ne (Ne.symm hpd), hKo p hp], ?_⟩
      · generalize hX : V.view o ver 0 D.S.length 64 cap = X at *
        generalize (D.doE w.toNat (a + 1)).cs X = cs' at *
        have q1 := q1 X
        have q2 := q2 X
        generalize D.cs X = cs at *
        subst hK
        refine call_keep_eq at24 rfl rfl (by decide) (sx_wp ?_)
        simp +contextual -implicitDefEqProofs (maxSteps := 10000000) only [sxb, plainD, stays, ↓selV_wt, ↓selV_wf, ↓impB_wt, ↓impB_wf, ↓selV_nor, ↓impB_nor, ↓selV_nt, ↓selV_nf, ↓impB_nt, ↓impB_nf, ↓selV_true, ↓selV_false, ↓selV_and, ↓impB_true, ↓impB_false, ↓impB_and, ↓prim_pick, ↓selV_nn, ↓impB_nn, doOp, get, ins, del, dels, Nat.reduceLT, Nat.reduceEqDiff, ↓reduceIte, reduceCtorEq, ne_eq, implies_true, prim, YLD, mkA, V.cells, Nat.reduceAdd, Nat.reduceSub, Nat.reduceMul, Nat.reduceLeDiff, loadA, cellsAt, nAg, packA, List.drop, List.take, List.head?, binA, unA, eqCells, eqCell, negB, fillA, storeA, Ob.with, indexedI, V.oneCell, intOf?, resA, resA1, packR, sealDepth, Int.reduceLT, Int.reduceLE, Int.reduceToNat, Int.reduceNeg, Int.reduceAdd, Int.reduceSub, Int.reduceMul, cond_true, cond_false, Int.reduceBNe, Int.reduceBEq, eq_self, deads, List.replicate, argsF, am24, isNil, app_get0, app_get, app_set0, app_set, c48, c50, c52, pm48, pm50, ga0, ga1, gw, hd, q1, q2, e0, g1, i8, i7, gl, c53]
      · rw [eu]
        have eS : (D.doE w.toNat (a + 1)).S = D.S := by unfold Dv.doE; cases D.out <;> rfl
        exact D1.put okE eS (List.getElem?_set_self hdK) ho (List.getElem?_set_ne D1.apart)
end Go.Am.T


set_option linter.unusedVariables false
set_option linter.unusedSimpArgs false
set_option maxRecDepth 10000
namespace Go.Am.T
attribute [local congr] selV_congr impB_congr
end Go.Am.T


set_option linter.unusedVariables false
set_option linter.unusedSimpArgs false
set_option maxRecDepth 10000
namespace Go.Am.T
attribute [local congr] selV_congr impB_congr
end Go.Am.T


set_option linter.unusedVariables false
set_option linter.unusedSimpArgs false
set_option maxRecDepth 10000
namespace Go.Am.T
attribute [local congr] selV_congr impB_congr
def Dv.setS (D : Dv) (i : Nat) (v : List Int) : Dv := { D with S := D.S.set i v }
theorem Dv.Ok.setS {D : Dv} (h : D.Ok) (i : Nat) {v : List Int} (hv : v.length = 64) : (D.setS i v).Ok := by
  refine ⟨h.e8, h.n1, h.n8, by simpa [Dv.setS] using h.s1, by simpa [Dv.setS] using h.s4, fun s hs => ?_, h.l0, h.l1, h.z, h.eb⟩
  rcases List.mem_or_eq_of_mem_set hs with hs | hs
  · exact h.sec s hs
  · rw [hs]; exact hv
theorem flat_set : ∀ {S : List (List Int)} {i : Nat} {v : List Int}, (∀ s ∈ S, s.length = 64) → v.length = 64 → i < S.length → setRange (S.flatten.map (V.int .u8)) (i * 64) (v.map (V.int .u8)) = (S.set i v).flatten.map (V.int .u8)
  | s :: S, 0, v, h, hv, _ => by
    have hs := h s (by simp)
    unfold setRange
    rw [Nat.zero_mul, List.take_zero, List.nil_append, Nat.zero_add, List.length_map, hv, List.flatten_cons, List.map_append, List.drop_append, List.drop_eq_nil_of_le (by simp [hs]), List.nil_append, List.length_map, hs]
    simp
  | s :: S, i + 1, v, h, hv, hi => by
    have hs := h s (by simp)
    have ih := flat_set (S := S) (i := i) (v := v) (fun t ht => h t (by simp [ht])) hv (by simpa using hi)
    unfold setRange at ih ⊢
    have e1 : (i + 1) * 64 = (s.map (V.int .u8)).length + i * 64 := by rw [List.length_map, hs]; omega
    rw [List.flatten_cons, List.map_append, e1, List.take_length_add_append, Nat.add_assoc, List.drop_length_add_append, List.append_assoc, List.append_assoc, ← List.append_assoc (List.take _ _), ih, List.set_cons_succ, List.flatten_cons, List.map_append]
theorem DAt.putS {H : Heap} {d o : Nat} {D : Dv} {ver : Nat} {cap : Option Nat} (ok : D.Ok) (hdo : d ≠ o) (hd : H[d]? = some ⟨1, .var (D.cs (.view o ver 0 D.S.length 64 cap))⟩) (ho : H[o]? = some ⟨ver, .arr (D.S.flatten.map (V.int .u8))⟩) (i : Nat) {v : List Int} (hv : v.length = 64) :
    DAt (H.set o ⟨ver, .arr ((D.S.set i v).flatten.map (V.int .u8))⟩) d o (D.setS i v) :=
  ⟨ok.setS i hv, ⟨ver, cap, by rw [List.getElem?_set_ne (Ne.symm hdo), hd]; simp only [Dv.setS, List.length_set]; rfl, List.getElem?_set_self (lt_of_get ho)⟩, hdo⟩
end Go.Am.T


set_option linter.unusedVariables false
set_option linter.unusedSimpArgs false
set_option maxRecDepth 10000
namespace Go.Am.T
attribute [local congr] selV_congr impB_congr
def Dv.doS (D : Dv) (i : Nat) (v : List Int) : Dv := bif D.out then D.lose else D.tick.setS i v
theorem Dv.Ok.doS {D : Dv} (h : D.Ok) (i : Nat) {v : List Int} (hv : v.length = 64) : (D.doS i v).Ok := by
  unfold Dv.doS
  cases g : D.out with
  | true => exact h.lose
  | false => exact (h.tick g).setS (D := D.tick) i hv
theorem doS_spec {N n : Nat} (hn : 1 ≤ n) {K : Heap} {d o ver : Nat} {cap : Option Nat} {D : Dv} {g : FuncId} {caps : List V} {i : Nat} {v : List Int} (ok : D.Ok) (hv : v.length = 64) (hdo : d ≠ o) (hd : K[d]? = some ⟨1, .var (D.cs (.view o ver 0 D.S.length 64 cap))⟩) (ho : K[o]? = some ⟨ver, .arr (D.S.flatten.map (V.int .u8))⟩) (hg : g ≠ 1000000007)
    (hc : D.out = false → ∃ u, callA am N (n - 1) g caps (K.set d ⟨1, .var (D.tick.cs (.view o ver 0 D.S.length 64 cap))⟩) = some (u, (K.set d ⟨1, .var (D.tick.cs (.view o ver 0 D.S.length 64 cap))⟩).set o ⟨ver, .arr ((D.S.set i v).flatten.map (V.int .u8))⟩)) :
    ∃ H', callA am N n 53 [.ptr d 1 0, .func g [] caps] K = some (.bool (!D.out), H') ∧ H'.length = K.length ∧ (∀ p, p ≠ d → p ≠ o → H'[p]? = K[p]?) ∧ DAt H' d o (D.doS i v) := by
  obtain ⟨n, rfl⟩ : ∃ m, n = m + 1 := ⟨n - 1, by omega⟩
  have hlt := lt_of_get hd
  cases go : D.out with
  | true =>
    refine ⟨_, does_no hd ok go _, List.length_set, fun p hp _ => List.getElem?_set_ne (Ne.symm hp), ?_⟩
    simp only [Dv.doS, go, cond_true]
    exact ⟨ok.lose, ⟨ver, cap, List.getElem?_set_self hlt, by rw [List.getElem?_set_ne hdo]; exact ho⟩, hdo⟩
  | false =>
    obtain ⟨u, q⟩ := hc go
    rw [Nat.add_sub_cancel] at q
    refine ⟨_, does_yes hd ok go hg q, by rw [List.length_set, List.length_set], fun p hp hpo => by rw [List.getElem?_set_ne (Ne.symm hpo), List.getElem?_set_ne (Ne.symm hp)], ?_⟩
    simp only [Dv.doS, go, cond_false]
    exact DAt.putS (D := D.tick) (cap := cap) (ok.tick go) hdo (List.getElem?_set_self hlt) (by rw [List.getElem?_set_ne hdo]; exact ho) i hv
end Go.Am.T


set_option linter.unusedVariables false
set_option linter.unusedSimpArgs false
set_option maxRecDepth 10000
namespace Go.Am.T
attribute [local congr] selV_congr impB_congr
theorem RAt.app {H : Heap} {r s e : Nat} {D : Dv} (h : RAt H r s e D) (l : Heap) : RAt (H ++ l) r s e D :=
  h.keep fun p hp => List.getElem?_append_left (by rcases hp with rfl | rfl | rfl <;> simp [h.lt])
theorem RAt.putS {H : Heap} {r s e : Nat} {D : Dv} (h : RAt H r s e D) (i : Nat) {v : List Int} (hv : v.length = 64) (ho : D.out = false) {ver ver' : Nat} {cap cap' : Option Nat}
    (hr : H[r]? = some ⟨1, .var (D.rcs (.view s ver 0 D.S.length 64 cap) (.view e ver' 0 D.n 1 cap'))⟩) (hs : H[s]? = some ⟨ver, .arr (D.S.flatten.map (V.int .u8))⟩) (he : H[e]? = some ⟨ver', .arr (D.eps.map (V.int .i64))⟩) :
    RAt ((H.set r ⟨1, .var (D.tick.rcs (.view s ver 0 D.S.length 64 cap) (.view e ver' 0 D.n 1 cap'))⟩).set s ⟨ver, .arr ((D.S.set i v).flatten.map (V.int .u8))⟩) r s e (D.tick.setS i v) := by
  obtain ⟨q1, q2, q3⟩ := h.lt
  refine ⟨(h.ok.tick ho).setS (D := D.tick) i hv, ⟨ver, cap, ver', cap', ?_, ?_, ?_⟩, h.rs, h.re, h.se⟩
  · rw [List.getElem?_set_ne (Ne.symm h.rs), List.getElem?_set_self q1]
    have e1 : (D.tick.setS i v).S.length = D.S.length := List.length_set
    rw [e1]; rfl
  · rw [List.getElem?_set_self (by rw [List.length_set]; exact q2)]; rfl
  · rw [List.getElem?_set_ne h.se, List.getElem?_set_ne h.re]; exact he
end Go.Am.T


set_option linter.unusedVariables false
set_option linter.unusedSimpArgs false
set_option maxRecDepth 10000
namespace Go.Am.T
attribute [local congr] selV_congr impB_congr
def newOk (s k : Int) : Bool := !(decide (s < 1) || (decide (s > 4096) || (decide (k < 1) || decide (k > 8))))
def newD (s k : Nat) : Dv := ⟨List.replicate s zeroS, List.replicate 8 0, k, false, 0, false, 0⟩
theorem newOk_true {s k : Int} (h : newOk s k = true) : 1 ≤ s ∧ s ≤ 4096 ∧ 1 ≤ k ∧ k ≤ 8 := by
  simp only [newOk, Bool.not_eq_true', Bool.or_eq_false_iff, decide_eq_false_iff_not] at h
  omega
theorem newD_ok {s k : Nat} (h1 : 1 ≤ s) (h2 : s ≤ 4096) (h3 : 1 ≤ k) (h4 : k ≤ 8) : (newD s k).Ok := by
  refine ⟨rfl, h3, h4, by simpa [newD] using h1, by simpa [newD] using h2, fun t ht => ?_, fun h => (by cases h), (by decide : (0 : Int) ≤ _), fun i hi => ?_, fun e he => ?_⟩
  · rw [List.eq_of_mem_replicate ht]; rfl
  · show (List.replicate 8 (0 : Int)).getD i 0 = 0
    rw [List.getD_eq_getElem?_getD, List.getElem?_replicate]
    split <;> rfl
  · rw [List.eq_of_mem_replicate he]
    exact ⟨Int.le_refl 0, by decide⟩
theorem zeros_flat (s : Nat) : (List.replicate s (List.replicate 64 (V.int .u8 0))).flatten = ((List.replicate s zeroS).flatten).map (V.int .u8) := by
  rw [List.map_flatten, List.map_replicate]
  rfl
theorem new_spec {N n : Nat} (hn : 1 ≤ n) (s k : Int) (H : Heap) :
    ∃ H', callA am N n 15 [.int .i64 s, .int .i64 k] H = some (.tup (bif newOk s k then [.ptr (H.length + 1) 1 0, .int .i64 0] else [.nilp, .int .i64 2]), H') ∧ H'.length = H.length + 2 ∧ (∀ p, p < H.length → H'[p]? = H[p]?) ∧
      (newOk s k = true → DAt H' (H.length + 1) H.length (newD s.toNat k.toNat) ∧ H' = H ++ [⟨1, .arr ((newD s.toNat k.toNat).S.flatten.map (V.int .u8))⟩, ⟨1, .var ((newD s.toNat k.toNat).cs (.view H.length 1 0 s.toNat 64 (some s.toNat)))⟩]) := by
  obtain ⟨n, rfl⟩ : ∃ m, n = m + 1 := ⟨n - 1, by omega⟩
  cases g : newOk s k with
  | false =>
    have g' : (decide (s < 1) || (decide (s > 4096) || (decide (k < 1) || decide (k > 8)))) = true := (Bool.not_eq_false' _).mp g
    refine ⟨H ++ [⟨0, .dead⟩, ⟨0, .dead⟩], ?_, by simp, fun p hp => List.getElem?_append_left hp, fun h => by cases h⟩
    refine call_keep_eq at15 rfl rfl (by decide) (sx_wp ?_)
    simp +contextual -implicitDefEqProofs (maxSteps := 10000000) only [sxb, plainD, stays, ↓selV_wt, ↓selV_wf, ↓impB_wt, ↓impB_wf, ↓selV_nor, ↓impB_nor, ↓selV_nt, ↓selV_nf, ↓impB_nt, ↓impB_nf, ↓selV_true, ↓selV_false, ↓selV_and, ↓impB_true, ↓impB_false, ↓impB_and, ↓prim_pick, ↓selV_nn, ↓impB_nn, doOp, get, ins, del, dels, Nat.reduceLT, Nat.reduceEqDiff, ↓reduceIte, reduceCtorEq, ne_eq, implies_true, prim, YLD, mkA, V.cells, Nat.reduceAdd, Nat.reduceSub, Nat.reduceMul, Nat.reduceLeDiff, loadA, cellsAt, nAg, packA, List.drop, List.take, List.head?, binA, unA, eqCells, eqCell, negB, fillA, storeA, Ob.with, indexedI, V.oneCell, intOf?, resA, resA1, packR, sealDepth, Int.reduceLT, Int.reduceLE, Int.reduceToNat, Int.reduceNeg, Int.reduceAdd, Int.reduceSub, Int.reduceMul, cond_true, cond_false, Int.reduceBNe, Int.reduceBEq, eq_self, deads, List.replicate, argsF, am15, isNil, g']
  | true =>
    obtain ⟨h1, h2, h3, h4⟩ := newOk_true g
    have g' : (decide (s < 1) || (decide (s > 4096) || (decide (k < 1) || decide (k > 8)))) = false := (Bool.not_eq_true' _).mp g
    have s0 : 0 ≤ s := by omega
    have m1 : s.toNat * 64 ≤ maxBytes := by unfold maxBytes; omega
    have m2 : s.toNat ≤ maxBytes := by unfold maxBytes; omega
    have ek : ((k.toNat : Nat) : Int) = k := by omega
    have ok := @newD_ok s.toNat k.toNat (by omega) (by omega) (by omega) (by omega)
    have eS : (newD s.toNat k.toNat).S.length = s.toNat := by simp [newD]
    refine ⟨H ++ [⟨1, .arr ((newD s.toNat k.toNat).S.flatten.map (V.int .u8))⟩, ⟨1, .var ((newD s.toNat k.toNat).cs (.view H.length 1 0 s.toNat 64 (some s.toNat)))⟩], ?_, by simp, fun p hp => List.getElem?_append_left hp, fun _ => ?_⟩
    · have e : ∀ X, (newD s.toNat k.toNat).cs X = [X, V.int .i64 0, V.int .i64 0, V.int .i64 0, V.int .i64 0, V.int .i64 0, V.int .i64 0, V.int .i64 0, V.int .i64 0, .int .i64 k, .bool false, .int .i64 0, .bool false, .int .i64 0] := fun X => by
        rw [← ek]; rfl
      rw [e]
      have z := zeros_flat s.toNat
      simp only [List.replicate] at z
      have z' : (newD s.toNat k.toNat).S.flatten.map (V.int .u8) = ((List.replicate s.toNat zeroS).flatten).map (V.int .u8) := rfl
      rw [z']
      refine call_keep_eq at15 rfl rfl (by decide) (sx_wp ?_)
      simp +contextual -implicitDefEqProofs (maxSteps := 10000000) only [sxb, plainD, stays, ↓selV_wt, ↓selV_wf, ↓impB_wt, ↓impB_wf, ↓selV_nor, ↓impB_nor, ↓selV_nt, ↓selV_nf, ↓impB_nt, ↓impB_nf, ↓selV_true, ↓selV_false, ↓selV_and, ↓impB_true, ↓impB_false, ↓impB_and, ↓prim_pick, ↓selV_nn, ↓impB_nn, doOp, get, ins, del, dels, Nat.reduceLT, Nat.reduceEqDiff, ↓reduceIte, reduceCtorEq, ne_eq, implies_true, prim, YLD, mkA, V.cells, Nat.reduceAdd, Nat.reduceSub, Nat.reduceMul, Nat.reduceLeDiff, loadA, cellsAt, nAg, packA, List.drop, List.take, List.head?, binA, unA, eqCells, eqCell, negB, fillA, storeA, Ob.with, indexedI, V.oneCell, intOf?, resA, resA1, packR, sealDepth, Int.reduceLT, Int.reduceLE, Int.reduceToNat, Int.reduceNeg, Int.reduceAdd, Int.reduceSub, Int.reduceMul, cond_true, cond_false, Int.reduceBNe, Int.reduceBEq, eq_self, deads, List.replicate, argsF, am15, isNil, g', s0, m1, m2, z, app_get0, app_get, app_set0, app_set, Int.le_refl, mkA]
    · refine ⟨⟨ok, ⟨1, some s.toNat, ?_, ?_⟩, by omega⟩, rfl⟩
      · rw [app_get, eS]; rfl
      · rw [app_get0]; rfl
end Go.Am.T


set_option linter.unusedVariables false
set_option linter.unusedSimpArgs false
set_option maxRecDepth 10000
namespace Go.Am.T
attribute [local congr] selV_congr impB_congr
theorem all_spec {N n : Nat} (hn : 1 ≤ n) (d : V) (hd : ∀ cs, d ≠ .agg cs) (hj : d ≠ .junk) (h1 : d.oneCell = true) (h2 : d.cells = [d]) (H : Heap) : callA am N n 41 [d] H = some (.func 59 [] [.ptr H.length 1 0], H ++ [⟨1, .var [d]⟩]) := by
  obtain ⟨n, rfl⟩ : ∃ m, n = m + 1 := ⟨n - 1, by omega⟩
  refine call_keep_eq at41 rfl rfl (by decide) (sx_wp ?_)
  simp +contextual -implicitDefEqProofs (maxSteps := 10000000) only [sxb, plainD, stays, ↓selV_wt, ↓selV_wf, ↓impB_wt, ↓impB_wf, ↓selV_nor, ↓impB_nor, ↓selV_nt, ↓selV_nf, ↓impB_nt, ↓impB_nf, ↓selV_true, ↓selV_false, ↓selV_and, ↓impB_true, ↓impB_false, ↓impB_and, ↓prim_pick, ↓selV_nn, ↓impB_nn, doOp, get, ins, del, dels, Nat.reduceLT, Nat.reduceEqDiff, ↓reduceIte, reduceCtorEq, ne_eq, implies_true, prim, YLD, mkA, V.cells, Nat.reduceAdd, Nat.reduceSub, Nat.reduceMul, Nat.reduceLeDiff, loadA, cellsAt, nAg, packA, List.drop, List.take, List.head?, binA, unA, eqCells, eqCell, negB, fillA, storeA, Ob.with, indexedI, V.oneCell, intOf?, resA, resA1, packR, sealDepth, Int.reduceLT, Int.reduceLE, Int.reduceToNat, Int.reduceNeg, Int.reduceAdd, Int.reduceSub, Int.reduceMul, cond_true, cond_false, Int.reduceBNe, Int.reduceBEq, eq_self, deads, List.replicate, argsF, am41, app_get0, app_get, app_set0, app_set, h1, h2]
structure Taker (D : Dv) (d so : Nat) (N n o ver lo : Nat) (stop : Nat → Bool) (Inv : Bool → Nat → Heap → Prop) : Prop where
  len : ∀ b k h, Inv b k h → h.length = lo
  dev : ∀ b k h, Inv b k h → DAt h d so D
  round : ∀ k h tl, k < D.S.length → Inv true k h → ∃ h', callA am N n YLD [.yld o ver, .int .i64 (k : Nat), secV (D.S.getD k zeroS)] (h ++ tl) = some (.bool (!stop k), h' ++ tl) ∧ Inv (!stop k) (k + 1) h'
structure Taken (L : Nat) (stop : Nat → Bool) (Inv : Bool → Nat → Heap → Prop) (b : Bool) (K : Nat) (h : Heap) : Prop where
  inv : Inv b K h
  all : b = true → K = L ∧ ∀ k, k < K → stop k = false
  left : b = false → ∃ k, K = k + 1 ∧ k < L ∧ stop k = true ∧ ∀ j, j < k → stop j = false
end Go.Am.T


set_option linter.unusedVariables false
set_option linter.unusedSimpArgs false
set_option maxRecDepth 10000
namespace Go.Am.T
attribute [local congr] selV_congr impB_congr
def tB (b : Nat) : List V := fr 14 [(2, .nils), (3, .ptr b 1 0), (7, .func 59 [] [.ptr (b + 4) 1 0])]
end Go.Am.T


set_option linter.unusedVariables false
set_option linter.unusedSimpArgs false
set_option maxRecDepth 10000
namespace Go.Am.T
attribute [local congr] selV_congr impB_congr
end Go.Am.T


set_option linter.unusedVariables false
set_option linter.unusedSimpArgs false
set_option maxRecDepth 10000
namespace Go.Am.T
attribute [local congr] selV_congr impB_congr
end Go.Am.T


set_option linter.unusedVariables false
set_option linter.unusedSimpArgs false
set_option maxRecDepth 10000
namespace Go.Am.T
attribute [local congr] selV_congr impB_congr
def badE (x : Int) : Bool := decide (x < 0) || decide (x > 2147483647)
theorem bad_spec {N n : Nat} (hn : 1 ≤ n) (x : Int) (H : Heap) : callA am N n 31 [.int .i64 x] H = some (.bool (badE x), H) := by
  obtain ⟨n, rfl⟩ : ∃ m, n = m + 1 := ⟨n - 1, by omega⟩
  refine call_pure at31 rfl rfl (by decide) rfl (sx_wp ?_)
  simp +contextual -implicitDefEqProofs (maxSteps := 10000000) only [sxb, plainD, stays, ↓selV_wt, ↓selV_wf, ↓impB_wt, ↓impB_wf, ↓selV_nor, ↓impB_nor, ↓selV_nt, ↓selV_nf, ↓impB_nt, ↓impB_nf, ↓selV_true, ↓selV_false, ↓selV_and, ↓impB_true, ↓impB_false, ↓impB_and, ↓prim_pick, ↓selV_nn, ↓impB_nn, doOp, get, ins, del, dels, Nat.reduceLT, Nat.reduceEqDiff, ↓reduceIte, reduceCtorEq, ne_eq, implies_true, prim, YLD, mkA, V.cells, Nat.reduceAdd, Nat.reduceSub, Nat.reduceMul, Nat.reduceLeDiff, loadA, cellsAt, nAg, packA, List.drop, List.take, List.head?, binA, unA, eqCells, eqCell, negB, fillA, storeA, Ob.with, indexedI, V.oneCell, intOf?, resA, resA1, packR, sealDepth, Int.reduceLT, Int.reduceLE, Int.reduceToNat, Int.reduceNeg, Int.reduceAdd, Int.reduceSub, Int.reduceMul, cond_true, cond_false, Int.reduceBNe, Int.reduceBEq, eq_self, deads, List.replicate, argsF, am31, isNil, badE]
end Go.Am.T


set_option linter.unusedVariables false
set_option linter.unusedSimpArgs false
set_option maxRecDepth 10000
namespace Go.Am.T
attribute [local congr] selV_congr impB_congr
structure Rd (H : Heap) (x : V) (k : IntKind) (L : List Int) : Prop where
  len : lenA x = some L.length
  nstr : ∀ b, x ≠ .str b
  at_ : ∀ i, (h : i < L.length) → iaddrSA 1 x (.int .i64 (i : Nat)) = some (.ret (.iptr [.int k L[i]] 0)) ∨
    ∃ o v off cs, iaddrSA 1 x (.int .i64 (i : Nat)) = some (.ret (.ptr o v off)) ∧ H[o]? = some ⟨v, .arr cs⟩ ∧ off + 1 ≤ cs.length ∧ List.take 1 (List.drop off cs) = [.int k L[i]]
theorem Rd.app {H : Heap} {x : V} {k : IntKind} {L : List Int} (h : Rd H x k L) (l : Heap) : Rd (H ++ l) x k L := by
  refine ⟨h.len, h.nstr, fun i hi => ?_⟩
  rcases h.at_ i hi with q | ⟨o, v, off, cs, q1, q2, q3⟩
  · exact .inl q
  · exact .inr ⟨o, v, off, cs, q1, by rw [List.getElem?_append_left (lt_of_get q2)]; exact q2, q3⟩
def chunks (B : List Int) : List (List Int) := (List.range (B.length / 64)).map fun i => (B.drop (i * 64)).take 64
def ofOk (B Es : List Int) : Bool := (B.length % 64 == 0) && (newOk ((B.length / 64 : Nat) : Int) (Es.length : Int) && !Es.any badE)
def ofD (B Es : List Int) : Dv := ⟨chunks B, Es ++ List.replicate (8 - Es.length) 0, Es.length, false, 0, false, 0⟩
theorem chunks_sec {B : List Int} : ∀ s ∈ chunks B, s.length = 64 := fun s hs => by
  obtain ⟨i, hi, rfl⟩ := List.mem_map.1 hs
  have := List.mem_range.1 hi
  rw [List.length_take, List.length_drop]
  omega
theorem range_flat (B : List Int) : ∀ m, ((List.range m).map fun i => (B.drop (i * 64)).take 64).flatten = B.take (m * 64)
  | 0 => by simp
  | m + 1 => by
    rw [List.range_succ, List.map_append, List.flatten_append, range_flat B m, List.map_singleton, List.flatten_singleton, Nat.succ_mul, List.take_add]
theorem chunks_flat {B : List Int} (h : B.length % 64 = 0) : (chunks B).flatten = B := by
  rw [chunks, range_flat, List.take_of_length_le (by omega)]
theorem ofOk_true {B Es : List Int} (h : ofOk B Es = true) : B.length % 64 = 0 ∧ 1 ≤ B.length / 64 ∧ B.length / 64 ≤ 4096 ∧ 1 ≤ Es.length ∧ Es.length ≤ 8 ∧ Es.any badE = false := by
  simp only [ofOk, Bool.and_eq_true, beq_iff_eq, Bool.not_eq_true'] at h
  have := newOk_true h.2.1
  exact ⟨h.1, by omega, by omega, by omega, by omega, h.2.2⟩
theorem ofD_ok {B Es : List Int} (h : ofOk B Es = true) : (ofD B Es).Ok := by
  obtain ⟨h1, h2, h3, h4, h5, h6⟩ := ofOk_true h
  have hc : (chunks B).length = B.length / 64 := by simp [chunks]
  refine ⟨by simp [ofD]; omega, h4, h5, by show 1 ≤ (chunks B).length; omega, by show (chunks B).length ≤ 4096; omega, chunks_sec, fun h => (by cases h), (by decide : (0 : Int) ≤ _), fun i hi => ?_, fun e he => ?_⟩
  · show (Es ++ List.replicate (8 - Es.length) 0).getD i 0 = 0
    have hi : Es.length ≤ i := hi
    rw [List.getD_eq_getElem?_getD, List.getElem?_append_right hi, List.getElem?_replicate]
    split <;> rfl
  · rcases List.mem_append.1 he with he | he
    · have : badE e = false := by
        cases hb : badE e with
        | false => rfl
        | true => rw [List.any_eq_true.2 ⟨e, he, hb⟩] at h6; cases h6
      simp only [badE, Bool.or_eq_false_iff, decide_eq_false_iff_not] at this
      omega
    · rw [List.eq_of_mem_replicate he]
      exact ⟨Int.le_refl 0, by decide⟩
end Go.Am.T


set_option linter.unusedVariables false
set_option linter.unusedSimpArgs false
set_option maxRecDepth 10000
namespace Go.Am.T
attribute [local congr] selV_congr impB_congr
end Go.Am.T


set_option linter.unusedVariables false
set_option linter.unusedSimpArgs false
set_option maxRecDepth 10000
namespace Go.Am.T
attribute [local congr] selV_congr impB_congr
end Go.Am.T


set_option linter.unusedVariables false
set_option linter.unusedSimpArgs false
namespace Go.Am
def InV (S : Nat → Prop) (v : V) : Prop := ∀ o ∈ v.objs, S o
def InL (S : Nat → Prop) (l : List V) : Prop := ∀ v ∈ l, InV S v
section
variable {S : Nat → Prop}
theorem mem_objsL' : ∀ {l : List V} {o : Nat}, o ∈ V.objsL l → ∃ c ∈ l, o ∈ c.objs
  | [], o, h => by cases h
  | v :: l, o, h => by
    have h' : o ∈ v.objs ++ V.objsL l := h
    rcases List.mem_append.1 h' with h | h
    · exact ⟨v, by simp, h⟩
    · obtain ⟨c, h1, h2⟩ := mem_objsL' h
      exact ⟨c, by simp [h1], h2⟩
theorem inL_iff {l : List V} : InL S l ↔ ∀ o ∈ V.objsL l, S o := by
  constructor
  · intro h o ho
    obtain ⟨c, h1, h2⟩ := mem_objsL' ho
    exact h c h1 o h2
  · intro h c hc o ho
    exact h o (mem_objsL hc o ho)
theorem inV_nil {v : V} (h : v.objs = []) : InV S v := fun o ho => by rw [h] at ho; cases ho
mutual
theorem free_objs : ∀ (v : V), v.free = true → v.objs = []
  | .junk, _ | .bool _, _ | .int .., _ | .str _, _ | .nilp, _ | .nils, _ | .nilm, _ | .nilf, _ | .nili, _ => rfl
  | .ptr .., h | .view .., h | .vend .., h | .map .., h | .yld .., h => by simp [V.free] at h
  | .iptr cs _, h => by simp only [V.objs]; exact free_objsL cs (by simpa [V.free] using h)
  | .sl L _ _, h => by simp only [V.objs]; exact free_objsL L (by simpa [V.free] using h)
  | .func _ xs ys, h => by
    simp only [V.free, Bool.and_eq_true] at h
    simp only [V.objs, free_objsL xs h.1, free_objsL ys h.2, List.append_nil]
  | .iface _ v, h => by simp only [V.objs]; exact free_objs v (by simpa [V.free] using h)
  | .agg cs, h => by simp only [V.objs]; exact free_objsL cs (by simpa [V.free] using h)
  | .tup cs, h => by simp only [V.objs]; exact free_objsL cs (by simpa [V.free] using h)
  termination_by structural v => v
theorem free_objsL : ∀ (l : List V), V.freeL l = true → V.objsL l = []
  | [], _ => rfl
  | v :: l, h => by
    simp only [V.freeL, Bool.and_eq_true] at h
    simp only [V.objsL, free_objs v h.1, free_objsL l h.2, List.append_nil]
  termination_by structural l => l
end
theorem InL.sub {l m : List V} (h : InL S l) (hs : ∀ v ∈ m, v ∈ l) : InL S m := fun v hv => h v (hs v hv)
theorem InL.take {l : List V} (h : InL S l) (n : Nat) : InL S (l.take n) := h.sub fun v hv => List.mem_of_mem_take hv
theorem InL.drop {l : List V} (h : InL S l) (n : Nat) : InL S (l.drop n) := h.sub fun v hv => List.mem_of_mem_drop hv
theorem InL.app {l m : List V} (h1 : InL S l) (h2 : InL S m) : InL S (l ++ m) := fun v hv => by
  rcases List.mem_append.1 hv with h | h
  · exact h1 v h
  · exact h2 v h
theorem InL.cons {v : V} {l : List V} (h1 : InV S v) (h2 : InL S l) : InL S (v :: l) := fun u hu => by
  rcases List.mem_cons.1 hu with rfl | h
  · exact h1
  · exact h2 u h
theorem inL_nil : InL S [] := fun v hv => by cases hv
theorem InV.agg {l : List V} (h : InL S l) : InV S (.agg l) := fun o ho => inL_iff.1 h o (by simpa [V.objs] using ho)
theorem InV.tup {l : List V} (h : InL S l) : InV S (.tup l) := fun o ho => inL_iff.1 h o (by simpa [V.objs] using ho)
theorem InV.sl {l : List V} {s : Nat} {c : Option Nat} (h : InL S l) : InV S (.sl l s c) := fun o ho => inL_iff.1 h o (by simpa [V.objs] using ho)
theorem InV.iptr {l : List V} {f : Nat} (h : InL S l) : InV S (.iptr l f) := fun o ho => inL_iff.1 h o (by simpa [V.objs] using ho)
theorem InV.agg' {l : List V} (h : InV S (.agg l)) : InL S l := inL_iff.2 fun o ho => h o (by simpa [V.objs] using ho)
theorem InV.cells {v : V} (h : InV S v) : InL S v.cells := by
  cases v <;> first | exact h.agg' | exact InL.cons h inL_nil
def InG (S : Nat → Prop) (get : Nat → Option Ob) : Prop := ∀ o x, get o = some x → ∀ i ∈ x.bd.objs, S i
def Bd.plainBd : Bd → Bool
  | .loop .. => false
  | _ => true
end
end Go.Am


set_option linter.unusedVariables false
set_option linter.unusedSimpArgs false
namespace Go.Am
structure Good (S : Nat → Prop) (n0 : Nat) (h : Heap) : Prop where
  names : InG S (fun o => h[o]?)
  base : ∀ (o v st : Nat) pd t fb f k, h[o]? = some ⟨v, .loop st pd t fb f k⟩ → n0 ≤ fb
  len : n0 ≤ h.length
section
variable {S : Nat → Prop} {n0 : Nat}
theorem Good.set {h : Heap} (H : Good S n0 h) {o : Nat} {x : Ob} (hx : ∀ i ∈ x.bd.objs, S i) (hl : ∀ st pd t fb f k, x.bd = .loop st pd t fb f k → n0 ≤ fb) : Good S n0 (h.set o x) := by
  refine ⟨fun i y hy => ?_, fun i v st pd t fb f k hy => ?_, by rw [List.length_set]; exact H.len⟩
  · simp only [List.getElem?_set] at hy
    split at hy
    · split at hy
      · cases hy; exact hx
      · cases hy
    · exact H.names i y hy
  · simp only [List.getElem?_set] at hy
    split at hy
    · split at hy
      · cases hy; exact hl _ _ _ _ _ _ rfl
      · cases hy
    · exact H.base i v st pd t fb f k hy
theorem Good.setP {h : Heap} (H : Good S n0 h) {o : Nat} {x : Ob} (hx : ∀ i ∈ x.bd.objs, S i) (hl : x.bd.plainBd = true) : Good S n0 (h.set o x) :=
  H.set hx fun st pd t fb f k e => by rw [e] at hl; cases hl
theorem Good.dead {h : Heap} (H : Good S n0 h) {o v : Nat} : Good S n0 (h.set o ⟨v, .dead⟩) := H.setP (fun i hi => by cases hi) rfl
theorem Good.app {h : Heap} (H : Good S n0 h) (n : Nat) : Good S n0 (h ++ deads n) := by
  refine ⟨fun i y hy => ?_, fun i v st pd t fb f k hy => ?_, by have := H.len; simp; omega⟩
  · simp only at hy
    rcases Nat.lt_or_ge i h.length with hl | hl
    · rw [List.getElem?_append_left hl] at hy; exact H.names i y hy
    · rw [List.getElem?_append_right hl] at hy
      obtain rfl := List.eq_of_mem_replicate (List.mem_of_getElem? hy)
      intro j hj; cases hj
  · rcases Nat.lt_or_ge i h.length with hl | hl
    · rw [List.getElem?_append_left hl] at hy; exact H.base i v st pd t fb f k hy
    · rw [List.getElem?_append_right hl] at hy
      have := List.eq_of_mem_replicate (List.mem_of_getElem? hy)
      cases this
theorem InL.put {t : List V} (h : InL S t) {d : Option Nat} {v : V} (hv : InV S v) : InL S (put t d v) := by
  cases d with
  | none => exact h
  | some d =>
    intro u hu
    rcases List.mem_or_eq_of_mem_set hu with hu | rfl
    · exact h u hu
    · exact hv
theorem InL.clear {t : List V} : ∀ (l : List Nat), InL S t → InL S (clear l t) := by
  intro l
  induction l generalizing t with
  | nil => exact fun h => h
  | cons i l ih => exact fun h => ih (h.put (d := some i) (v := .junk) (inV_nil rfl))
theorem Good.kill {h : Heap} (fb : Nat) : ∀ (l : List Nat), Good S n0 h → Good S n0 (killA fb l h) := by
  intro l
  induction l generalizing h with
  | nil => exact fun H => H
  | cons i l ih =>
    intro H
    unfold killA
    simp only [List.foldl_cons]
    split
    · exact ih H.dead
    · exact ih H
variable (hS : ∀ i, n0 ≤ i → S i)
include hS in
include hS in
include hS in
include hS in
mutual
theorem plain_free : ∀ (v : V), v.plain = true → v.free = true
  | .bool _, _ | .int .., _ | .str _, _ | .nilp, _ | .nils, _ | .nilm, _ | .nilf, _ | .nili, _ => rfl
  | .agg cs, h => plainL_free cs (by simpa [V.plain] using h)
  | .tup cs, h => plainL_free cs (by simpa [V.plain] using h)
  | .iface _ v, h => plain_free v (by simpa [V.plain] using h)
  | .junk, h | .ptr .., h | .iptr .., h | .view .., h | .vend .., h | .sl .., h | .map .., h | .func .., h | .yld .., h => by simp [V.plain] at h
  termination_by structural v => v
theorem plainL_free : ∀ (l : List V), V.plainL l = true → V.freeL l = true
  | [], _ => rfl
  | v :: l, h => by
    simp only [V.plainL, Bool.and_eq_true] at h
    simp only [V.freeL, plain_free v h.1, plainL_free l h.2, Bool.and_self]
  termination_by structural l => l
end
include hS in
include hS in
include hS in
end
end Go.Am


set_option linter.unusedVariables false
set_option linter.unusedSimpArgs false
set_option maxRecDepth 10000
namespace Go.Am.T
attribute [local congr] selV_congr impB_congr
theorem ints_objs (k : IntKind) : ∀ l : List Int, V.objsL (l.map (V.int k)) = []
  | [] => rfl
  | x :: l => by show [] ++ V.objsL (l.map (V.int k)) = []; rw [ints_objs k l]; rfl
theorem dv_objs {D : Dv} {X : V} : V.objsL (D.cs X) = X.objs := by
  have app : ∀ a b : List V, V.objsL (a ++ b) = V.objsL a ++ V.objsL b := by
    intro a
    induction a with
    | nil => intro b; rfl
    | cons x a ih =>
      intro b
      show x.objs ++ V.objsL (a ++ b) = (x.objs ++ V.objsL a) ++ V.objsL b
      rw [ih, List.append_assoc]
  show X.objs ++ V.objsL _ = _
  rw [app, ints_objs]
  simp [V.objsL, V.objs]
theorem DAt.closed {H : Heap} {d o : Nat} {D : Dv} (h : DAt H d o D) : ∀ p ∈ [d, o], ∀ y, H[p]? = some y → (∀ i ∈ y.bd.objs, i ∈ [d, o]) ∧ y.bd.plainBd = true := by
  obtain ⟨ver, cap, hd, ho⟩ := h.ob
  intro p hp y hy
  simp only [List.mem_cons, List.not_mem_nil, or_false] at hp
  rcases hp with rfl | rfl
  · rw [hd] at hy; cases hy
    refine ⟨fun i hi => ?_, rfl⟩
    have hi' : i ∈ V.objsL (D.cs (.view o ver 0 D.S.length 64 cap)) := hi
    rw [dv_objs] at hi'
    simp only [V.objs, List.mem_cons, List.not_mem_nil, or_false] at hi'
    simp [hi']
  · rw [ho] at hy; cases hy
    refine ⟨fun i hi => ?_, rfl⟩
    have hi' : i ∈ V.objsL (D.S.flatten.map (V.int .u8)) := hi
    rw [ints_objs] at hi'
    cases hi'
theorem RAt.closed {H : Heap} {r s e : Nat} {D : Dv} (h : RAt H r s e D) : ∀ p ∈ [r, s, e], ∀ y, H[p]? = some y → (∀ i ∈ y.bd.objs, i ∈ [r, s, e]) ∧ y.bd.plainBd = true := by
  obtain ⟨ver, cap, ver', cap', hr, hs, he⟩ := h.ob
  intro p hp y hy
  simp only [List.mem_cons, List.not_mem_nil, or_false] at hp
  rcases hp with rfl | rfl | rfl
  · rw [hr] at hy; cases hy
    refine ⟨fun i hi => ?_, rfl⟩
    have hi' : i ∈ [s, e] := hi
    simp only [List.mem_cons, List.not_mem_nil, or_false] at hi'
    rcases hi' with rfl | rfl <;> simp
  · rw [hs] at hy; cases hy
    refine ⟨fun i hi => ?_, rfl⟩
    have hi' : i ∈ V.objsL (D.S.flatten.map (V.int .u8)) := hi
    rw [ints_objs] at hi'
    cases hi'
  · rw [he] at hy; cases hy
    refine ⟨fun i hi => ?_, rfl⟩
    have hi' : i ∈ V.objsL (D.eps.map (V.int .i64)) := hi
    rw [ints_objs] at hi'
    cases hi'
theorem DAt.only {H : Heap} {d o : Nat} {D : Dv} (h : DAt H d o D) : DAt (keepOnly [d, o] H) d o D := h.keep fun p hp => keepOnly_in (by simpa using hp)
theorem RAt.only {H : Heap} {r s e : Nat} {D : Dv} (h : RAt H r s e D) : RAt (keepOnly [r, s, e] H) r s e D := h.keep fun p hp => keepOnly_in (by simpa using hp)
end Go.Am.T


set_option linter.unusedVariables false
set_option linter.unusedSimpArgs false
set_option maxRecDepth 10000
namespace Go.Am.T
attribute [local congr] selV_congr impB_congr
theorem ext_app {H H' : Heap} (hl : H.length ≤ H'.length) (hk : ∀ p, p < H.length → H'[p]? = H[p]?) : ∃ T, H' = H ++ T := by
  refine ⟨H'.drop H.length, ?_⟩
  apply List.ext_getElem?
  intro i
  rcases Nat.lt_or_ge i H.length with h | h
  · rw [List.getElem?_append_left h]; exact hk i h
  · rw [List.getElem?_append_right h, List.getElem?_drop, Nat.add_sub_cancel' h]
theorem num_spec {N n : Nat} (hn : 1 ≤ n) (x : Int) (H : Heap) : callA am N n 11 [.int .i64 x] H = some (.int .i64 x, H) := by
  obtain ⟨n, rfl⟩ : ∃ m, n = m + 1 := ⟨n - 1, by omega⟩
  refine call_pure at11 rfl rfl (by decide) rfl (sx_wp ?_)
  simp +contextual -implicitDefEqProofs (maxSteps := 10000000) only [sxb, plainD, stays, ↓selV_wt, ↓selV_wf, ↓impB_wt, ↓impB_wf, ↓selV_nor, ↓impB_nor, ↓selV_nt, ↓selV_nf, ↓impB_nt, ↓impB_nf, ↓selV_true, ↓selV_false, ↓selV_and, ↓impB_true, ↓impB_false, ↓impB_and, ↓prim_pick, ↓selV_nn, ↓impB_nn, doOp, get, ins, del, dels, Nat.reduceLT, Nat.reduceEqDiff, ↓reduceIte, reduceCtorEq, ne_eq, implies_true, prim, YLD, mkA, V.cells, Nat.reduceAdd, Nat.reduceSub, Nat.reduceMul, Nat.reduceLeDiff, loadA, cellsAt, nAg, packA, List.drop, List.take, List.head?, binA, unA, eqCells, eqCell, negB, fillA, storeA, Ob.with, indexedI, V.oneCell, intOf?, resA, resA1, packR, sealDepth, Int.reduceLT, Int.reduceLE, Int.reduceToNat, Int.reduceNeg, Int.reduceAdd, Int.reduceSub, Int.reduceMul, cond_true, cond_false, Int.reduceBNe, Int.reduceBEq, eq_self, deads, List.replicate, argsF, am11, isNil]
def zz : Ob := ⟨0, .dead⟩
def hS (H T : Heap) (r : Nat) (leave : Int) (a b c d e f g : Ob) : Heap := H ++ ⟨1, .var [.ptr r 1 0]⟩ :: ⟨1, .var [.int .i64 leave]⟩ :: ⟨1, .var [.bool false]⟩ :: a :: b :: c :: d :: e :: f :: g :: T
def sB : ACode := (.seq (.seq (.draw [(⟨some 23, (.move (.tmp 0)), none⟩, []), (⟨some 24, (.call 32 [(.tmp 23)]), none⟩, []), (⟨some 25, (.load none (.tmp 4)), none⟩, []), (⟨some 26, (.nilck (.tmp 25)), none⟩, []), (⟨some 27, (.faddr 0 (.tmp 26)), none⟩, []), (⟨some 28, (.load none (.tmp 27)), none⟩, []), (⟨some 29, (.lenS (.tmp 28)), none⟩, []), (⟨some 30, (.bin .neq (.tmp 24) (.tmp 29)), none⟩, []), (⟨some 31, (.move (.tmp 30)), none⟩, []), (⟨some 32, (.move (.tmp 0)), some (31, false)⟩, []), (⟨some 33, (.call 33 [(.tmp 32)]), some (31, false)⟩, []), (⟨some 34, (.load none (.tmp 4)), some (31, false)⟩, []), (⟨some 35, (.nilck (.tmp 34)), some (31, false)⟩, []), (⟨some 36, (.faddr 1 (.tmp 35)), some (31, false)⟩, []), (⟨some 37, (.load none (.tmp 36)), some (31, false)⟩, []), (⟨some 38, (.lenS (.tmp 37)), some (31, false)⟩, []), (⟨some 39, (.bin .neq (.tmp 33) (.tmp 38)), some (31, false)⟩, []), (⟨some 40, (.pick (.tmp 31) (.cst (.bool true)) (.tmp 39)), none⟩, []), (⟨some 41, (.move (.tmp 40)), none⟩, []), (⟨some 42, (.move (.tmp 0)), some (41, false)⟩, []), (⟨some 43, (.call 34 [(.tmp 42)]), some (41, false)⟩, []), (⟨some 44, (.load none (.tmp 4)), some (41, false)⟩, []), (⟨some 45, (.nilck (.tmp 44)), some (41, false)⟩, []), (⟨some 46, (.faddr 4 (.tmp 45)), some (41, false)⟩, []), (⟨some 47, (.load none (.tmp 46)), some (41, false)⟩, []), (⟨some 48, (.bin .neq (.tmp 43) (.tmp 47)), some (41, false)⟩, []), (⟨some 49, (.pick (.tmp 41) (.cst (.bool true)) (.tmp 48)), none⟩, []), (⟨some 50, (.move (.tmp 49)), none⟩, []), (⟨some 51, (.move (.tmp 0)), some (50, false)⟩, []), (⟨some 52, (.call 35 [(.tmp 51)]), some (50, false)⟩, []), (⟨some 53, (.b2s (.tmp 52)), some (50, false)⟩, []), (⟨some 54, (.load none (.tmp 4)), some (50, false)⟩, [29]), (⟨some 55, (.call 36 [(.tmp 54)]), some (50, false)⟩, [30]), (⟨some 56, (.b2s (.tmp 55)), some (50, false)⟩, []), (⟨some 57, (.bin .neq (.tmp 53) (.tmp 56)), some (50, false)⟩, []), (⟨some 58, (.pick (.tmp 50) (.cst (.bool true)) (.tmp 57)), none⟩, [])]) (.clr [57, 56, 55, 54, 53, 52, 51, 50, 49, 48, 47, 46, 45, 44, 43, 42, 41, 40, 39, 38, 37, 36, 35, 34, 33, 32, 31, 30, 29, 28, 27, 26, 25, 24, 23])) (.cond (.tmp 58) (.seq (.clr [146, 145, 58, 5, 4, 0]) (.seq (.region [⟨none, (.store 1 (.tmp 6) (.cst (.bool false))), none⟩]) .ret)) (.seq (.clr [58]) .skip)))
def sC : ACode := (.seq (.region [⟨some 7, (.move (.cst (.int .i64 (-1)))), none⟩]) (.block 0 (.loop [] [] (.seq (.seq (.seq (.region [⟨some 59, (.move (.tmp 7)), none⟩, ⟨some 60, (.load none (.tmp 4)), none⟩, ⟨some 61, (.nilck (.tmp 60)), none⟩, ⟨some 62, (.faddr 1 (.tmp 61)), none⟩, ⟨some 63, (.load none (.tmp 62)), none⟩, ⟨some 64, (.lenS (.tmp 63)), none⟩, ⟨some 65, (.bin .leq (.tmp 59) (.tmp 64)), none⟩]) (.clr [64, 63, 62, 61, 60, 59])) (.cond (.tmp 65) (.seq (.clr [65]) .skip) (.seq (.clr [65, 7]) (.exit 0)))) (.seq (.block 1 (.seq (.seq (.region [⟨some 69, (.move (.tmp 0)), none⟩, ⟨some 70, (.move (.tmp 7)), none⟩, ⟨some 71, (.call 19 [(.tmp 69), (.tmp 70)]), none⟩, ⟨some 68, (.move (.tmp 71)), none⟩, ⟨some 72, (.extract (.tmp 68) 0), none⟩, ⟨some 73, (.extract (.tmp 68) 1), none⟩, ⟨some 8, (.move (.tmp 72)), none⟩, ⟨some 9, (.move (.tmp 73)), none⟩]) (.clr [73, 72, 71, 70, 69, 68])) (.seq (.seq (.region [⟨some 75, (.load none (.tmp 4)), none⟩, ⟨some 76, (.move (.tmp 7)), none⟩, ⟨some 77, (.call 37 [(.tmp 75), (.tmp 76)]), none⟩, ⟨some 74, (.move (.tmp 77)), none⟩, ⟨some 78, (.extract (.tmp 74) 0), none⟩, ⟨some 79, (.extract (.tmp 74) 1), none⟩, ⟨some 10, (.move (.tmp 78)), none⟩, ⟨some 11, (.move (.tmp 79)), none⟩]) (.clr [79, 78, 77, 76, 75, 74])) (.seq (.seq (.seq (.region [⟨some 80, (.move (.tmp 8)), none⟩, ⟨some 81, (.move (.tmp 10)), none⟩, ⟨some 82, (.bin .neq (.tmp 80) (.tmp 81)), none⟩, ⟨some 83, (.move (.tmp 82)), none⟩, ⟨some 84, (.move (.tmp 9)), some (83, false)⟩, ⟨some 85, (.call 11 [(.tmp 84)]), some (83, false)⟩, ⟨some 86, (.move (.tmp 11)), some (83, false)⟩, ⟨some 87, (.bin .neq (.tmp 85) (.tmp 86)), some (83, false)⟩, ⟨some 88, (.pick (.tmp 83) (.cst (.bool true)) (.tmp 87)), none⟩]) (.clr [87, 86, 85, 84, 83, 82, 81, 80, 11, 9, 8])) (.cond (.tmp 88) (.seq (.clr [146, 145, 88, 10, 7, 5, 4, 0]) (.seq (.region [⟨none, (.store 1 (.tmp 6) (.cst (.bool false))), none⟩]) .ret)) (.seq (.clr [88]) .skip))) (.seq (.seq (.region [⟨some 89, (.move (.tmp 10)), none⟩, ⟨some 90, (.bin .sub (.tmp 89) (.cst (.int .i64 1))), none⟩, ⟨some 12, (.move (.tmp 90)), none⟩]) (.clr [90, 89])) (.block 2 (.loop [] [] (.seq (.seq (.seq (.region [⟨some 91, (.move (.tmp 12)), none⟩, ⟨some 92, (.move (.tmp 10)), none⟩, ⟨some 93, (.bin .add (.tmp 92) (.cst (.int .i64 1))), none⟩, ⟨some 94, (.bin .leq (.tmp 91) (.tmp 93)), none⟩]) (.clr [93, 92, 91])) (.cond (.tmp 94) (.seq (.clr [94]) .skip) (.seq (.clr [94, 12, 10]) (.exit 2)))) (.seq (.block 3 (.seq (.seq (.region [⟨some 97, (.move (.tmp 0)), none⟩, ⟨some 98, (.move (.tmp 7)), none⟩, ⟨some 99, (.move (.tmp 12)), none⟩, ⟨some 100, (.call 38 [(.tmp 97), (.tmp 98), (.tmp 99)]), none⟩, ⟨some 101, (.load none (.tmp 4)), none⟩, ⟨some 102, (.move (.tmp 7)), none⟩, ⟨some 103, (.move (.tmp 12)), none⟩, ⟨some 104, (.call 39 [(.tmp 101), (.tmp 102), (.tmp 103)]), none⟩, ⟨some 105, (.eqc true false [.b] (.tmp 100) (.tmp 104)), none⟩]) (.clr [104, 103, 102, 101, 100, 99, 98, 97])) (.cond (.tmp 105) (.seq (.clr [146, 145, 105, 12, 10, 7, 5, 4, 0]) (.seq (.region [⟨none, (.store 1 (.tmp 6) (.cst (.bool false))), none⟩]) .ret)) (.seq (.clr [105]) .skip)))) (.seq (.region [⟨some 95, (.move (.tmp 12)), none⟩, ⟨some 96, (.bin .add (.tmp 95) (.cst (.int .i64 1))), none⟩, ⟨some 12, (.move (.tmp 96)), none⟩]) (.clr [96, 95]))))))))))) (.seq (.region [⟨some 66, (.move (.tmp 7)), none⟩, ⟨some 67, (.bin .add (.tmp 66) (.cst (.int .i64 1))), none⟩, ⟨some 7, (.move (.tmp 67)), none⟩]) (.clr [67, 66])))))))
def sD : ACode := (.seq (.region [⟨some 13, (.move (.cst (.int .i64 (-1)))), none⟩]) (.block 4 (.loop [] [] (.seq (.seq (.seq (.region [⟨some 106, (.move (.tmp 13)), none⟩, ⟨some 107, (.load none (.tmp 4)), none⟩, ⟨some 108, (.nilck (.tmp 107)), none⟩, ⟨some 109, (.faddr 0 (.tmp 108)), none⟩, ⟨some 110, (.load none (.tmp 109)), none⟩, ⟨some 111, (.lenS (.tmp 110)), none⟩, ⟨some 112, (.bin .leq (.tmp 106) (.tmp 111)), none⟩]) (.clr [111, 110, 109, 108, 107, 106])) (.cond (.tmp 112) (.seq (.clr [112]) .skip) (.seq (.clr [112, 13]) (.exit 4)))) (.seq (.block 5 (.seq (.seq (.region [⟨some 116, (.move (.tmp 0)), none⟩, ⟨some 117, (.move (.tmp 13)), none⟩, ⟨some 118, (.call 26 [(.tmp 116), (.tmp 117)]), none⟩, ⟨some 115, (.move (.tmp 118)), none⟩, ⟨some 119, (.extract (.tmp 115) 0), none⟩, ⟨some 120, (.extract (.tmp 115) 1), none⟩, ⟨some 14, (.allocz 3 [(.int .u8 0), (.int .u8 0), (.int .u8 0), (.int .u8 0), (.int .u8 0), (.int .u8 0), (.int .u8 0), (.int .u8 0), (.int .u8 0), (.int .u8 0), (.int .u8 0), (.int .u8 0), (.int .u8 0), (.int .u8 0), (.int .u8 0), (.int .u8 0), (.int .u8 0), (.int .u8 0), (.int .u8 0), (.int .u8 0), (.int .u8 0), (.int .u8 0), (.int .u8 0), (.int .u8 0), (.int .u8 0), (.int .u8 0), (.int .u8 0), (.int .u8 0), (.int .u8 0), (.int .u8 0), (.int .u8 0), (.int .u8 0), (.int .u8 0), (.int .u8 0), (.int .u8 0), (.int .u8 0), (.int .u8 0), (.int .u8 0), (.int .u8 0), (.int .u8 0), (.int .u8 0), (.int .u8 0), (.int .u8 0), (.int .u8 0), (.int .u8 0), (.int .u8 0), (.int .u8 0), (.int .u8 0), (.int .u8 0), (.int .u8 0), (.int .u8 0), (.int .u8 0), (.int .u8 0), (.int .u8 0), (.int .u8 0), (.int .u8 0), (.int .u8 0), (.int .u8 0), (.int .u8 0), (.int .u8 0), (.int .u8 0), (.int .u8 0), (.int .u8 0), (.int .u8 0)]), none⟩, ⟨none, (.store 64 (.tmp 14) (.tmp 119)), none⟩, ⟨some 15, (.move (.tmp 120)), none⟩]) (.clr [120, 119, 118, 117, 116, 115])) (.seq (.seq (.region [⟨some 122, (.load none (.tmp 4)), none⟩, ⟨some 123, (.move (.tmp 13)), none⟩, ⟨some 124, (.call 40 [(.tmp 122), (.tmp 123)]), none⟩, ⟨some 121, (.move (.tmp 124)), none⟩, ⟨some 125, (.extract (.tmp 121) 0), none⟩, ⟨some 126, (.extract (.tmp 121) 1), none⟩, ⟨some 16, (.allocz 4 [(.int .u8 0), (.int .u8 0), (.int .u8 0), (.int .u8 0), (.int .u8 0), (.int .u8 0), (.int .u8 0), (.int .u8 0), (.int .u8 0), (.int .u8 0), (.int .u8 0), (.int .u8 0), (.int .u8 0), (.int .u8 0), (.int .u8 0), (.int .u8 0), (.int .u8 0), (.int .u8 0), (.int .u8 0), (.int .u8 0), (.int .u8 0), (.int .u8 0), (.int .u8 0), (.int .u8 0), (.int .u8 0), (.int .u8 0), (.int .u8 0), (.int .u8 0), (.int .u8 0), (.int .u8 0), (.int .u8 0), (.int .u8 0), (.int .u8 0), (.int .u8 0), (.int .u8 0), (.int .u8 0), (.int .u8 0), (.int .u8 0), (.int .u8 0), (.int .u8 0), (.int .u8 0), (.int .u8 0), (.int .u8 0), (.int .u8 0), (.int .u8 0), (.int .u8 0), (.int .u8 0), (.int .u8 0), (.int .u8 0), (.int .u8 0), (.int .u8 0), (.int .u8 0), (.int .u8 0), (.int .u8 0), (.int .u8 0), (.int .u8 0), (.int .u8 0), (.int .u8 0), (.int .u8 0), (.int .u8 0), (.int .u8 0), (.int .u8 0), (.int .u8 0), (.int .u8 0)]), none⟩, ⟨none, (.store 64 (.tmp 16) (.tmp 125)), none⟩, ⟨some 17, (.move (.tmp 126)), none⟩]) (.clr [126, 125, 124, 123, 122, 121])) (.seq (.seq (.region [⟨some 127, (.load (some 64) (.tmp 14)), none⟩, ⟨some 128, (.load (some 64) (.tmp 16)), none⟩, ⟨some 129, (.eqc true true [(.i .u8), (.i .u8), (.i .u8), (.i .u8), (.i .u8), (.i .u8), (.i .u8), (.i .u8), (.i .u8), (.i .u8), (.i .u8), (.i .u8), (.i .u8), (.i .u8), (.i .u8), (.i .u8), (.i .u8), (.i .u8), (.i .u8), (.i .u8), (.i .u8), (.i .u8), (.i .u8), (.i .u8), (.i .u8), (.i .u8), (.i .u8), (.i .u8), (.i .u8), (.i .u8), (.i .u8), (.i .u8), (.i .u8), (.i .u8), (.i .u8), (.i .u8), (.i .u8), (.i .u8), (.i .u8), (.i .u8), (.i .u8), (.i .u8), (.i .u8), (.i .u8), (.i .u8), (.i .u8), (.i .u8), (.i .u8), (.i .u8), (.i .u8), (.i .u8), (.i .u8), (.i .u8), (.i .u8), (.i .u8), (.i .u8), (.i .u8), (.i .u8), (.i .u8), (.i .u8), (.i .u8), (.i .u8), (.i .u8), (.i .u8)] (.tmp 127) (.tmp 128)), none⟩, ⟨some 130, (.move (.tmp 129)), none⟩, ⟨some 131, (.move (.tmp 15)), some (130, false)⟩, ⟨some 132, (.call 11 [(.tmp 131)]), some (130, false)⟩, ⟨some 133, (.move (.tmp 17)), some (130, false)⟩, ⟨some 134, (.bin .neq (.tmp 132) (.tmp 133)), some (130, false)⟩, ⟨some 135, (.pick (.tmp 130) (.cst (.bool true)) (.tmp 134)), none⟩]) (.clr [134, 133, 132, 131, 130, 129, 128, 127, 17, 16, 15, 14])) (.cond (.tmp 135) (.seq (.clr [146, 145, 135, 13, 5, 4, 0]) (.seq (.region [⟨none, (.store 1 (.tmp 6) (.cst (.bool false))), none⟩]) .ret)) (.seq (.clr [135]) .skip)))))) (.seq (.region [⟨some 113, (.move (.tmp 13)), none⟩, ⟨some 114, (.bin .add (.tmp 113) (.cst (.int .i64 1))), none⟩, ⟨some 13, (.move (.tmp 114)), none⟩]) (.clr [114, 113])))))))
end Go.Am.T


set_option linter.unusedVariables false
set_option linter.unusedSimpArgs false
set_option maxRecDepth 10000
namespace Go.Am.T
attribute [local congr] selV_congr impB_congr
end Go.Am.T


set_option linter.unusedVariables false
set_option linter.unusedSimpArgs false
set_option maxRecDepth 10000
namespace Go.Am.T
attribute [local congr] selV_congr impB_congr
end Go.Am.T


set_option linter.unusedVariables false
set_option linter.unusedSimpArgs false
set_option maxRecDepth 10000
namespace Go.Am.T
attribute [local congr] selV_congr impB_congr
end Go.Am.T


set_option linter.unusedVariables false
set_option linter.unusedSimpArgs false
set_option maxRecDepth 10000
namespace Go.Am.T
attribute [local congr] selV_congr impB_congr
section
variable {N n : Nat} {H T : Heap} {d so r s e : Nat} {D : Dv}
end
def sZ : ACode := (.seq (.seq (.region [⟨some 136, (.move (.tmp 0)), none⟩, ⟨some 137, (.call 41 [(.tmp 136)]), none⟩, ⟨some 18, (.move (.tmp 137)), none⟩]) (.clr [137, 136, 0])) (.seq (.seq (.seq (.region [⟨some 138, (.move (.tmp 18)), none⟩, ⟨some 139, (.eqnil false NK.f (.tmp 138)), none⟩]) (.clr [138])) (.cond (.tmp 139) (.seq (.clr [146, 145, 139, 18, 5, 4]) (.seq (.region [⟨none, (.store 1 (.tmp 6) (.cst (.bool false))), none⟩]) .ret)) (.seq (.clr [139]) .skip))) (.seq (.seq (.region [⟨some 19, (.allocz 5 [(.int .i64 0)]), none⟩, ⟨none, (.store 1 (.tmp 19) (.cst (.int .i64 0))), none⟩]) (.block 6 (.loop [] [] (.seq (.seq (.seq (.region [⟨some 140, (.load none (.tmp 19)), none⟩, ⟨some 141, (.bin .lss (.tmp 140) (.cst (.int .i64 2))), none⟩]) (.clr [140])) (.cond (.tmp 141) (.seq (.clr [141]) .skip) (.seq (.clr [146, 145, 141, 19, 18, 5, 4]) (.exit 6)))) (.seq (.block 7 (.seq (.region [⟨some 20, (.allocz 6 [(.int .i64 0)]), none⟩, ⟨none, (.store 1 (.tmp 20) (.cst (.int .i64 0))), none⟩]) (.seq (.seq (.region [⟨some 144, (.move (.tmp 18)), none⟩]) (.block 8 (.rangeF (.tmp 144) [145, 146] (.seq (.seq (.region [⟨some 21, (.move (.tmp 145)), none⟩]) (.clr [145])) (.seq (.region [⟨some 22, (.allocz 7 [(.int .u8 0), (.int .u8 0), (.int .u8 0), (.int .u8 0), (.int .u8 0), (.int .u8 0), (.int .u8 0), (.int .u8 0), (.int .u8 0), (.int .u8 0), (.int .u8 0), (.int .u8 0), (.int .u8 0), (.int .u8 0), (.int .u8 0), (.int .u8 0), (.int .u8 0), (.int .u8 0), (.int .u8 0), (.int .u8 0), (.int .u8 0), (.int .u8 0), (.int .u8 0), (.int .u8 0), (.int .u8 0), (.int .u8 0), (.int .u8 0), (.int .u8 0), (.int .u8 0), (.int .u8 0), (.int .u8 0), (.int .u8 0), (.int .u8 0), (.int .u8 0), (.int .u8 0), (.int .u8 0), (.int .u8 0), (.int .u8 0), (.int .u8 0), (.int .u8 0), (.int .u8 0), (.int .u8 0), (.int .u8 0), (.int .u8 0), (.int .u8 0), (.int .u8 0), (.int .u8 0), (.int .u8 0), (.int .u8 0), (.int .u8 0), (.int .u8 0), (.int .u8 0), (.int .u8 0), (.int .u8 0), (.int .u8 0), (.int .u8 0), (.int .u8 0), (.int .u8 0), (.int .u8 0), (.int .u8 0), (.int .u8 0), (.int .u8 0), (.int .u8 0), (.int .u8 0)]), none⟩, ⟨none, (.store 64 (.tmp 22) (.tmp 146)), none⟩]) (.clr [146]))) (.block 9 (.seq (.seq (.seq (.region [⟨some 147, (.move (.tmp 21)), none⟩, ⟨some 148, (.load none (.tmp 20)), none⟩, ⟨some 149, (.bin .neq (.tmp 147) (.tmp 148)), none⟩, ⟨some 150, (.move (.tmp 149)), none⟩, ⟨some 151, (.load none (.tmp 20)), some (150, false)⟩, ⟨some 152, (.load none (.tmp 4)), some (150, false)⟩, ⟨some 153, (.nilck (.tmp 152)), some (150, false)⟩, ⟨some 154, (.faddr 0 (.tmp 153)), some (150, false)⟩, ⟨some 155, (.load none (.tmp 154)), some (150, false)⟩, ⟨some 156, (.lenS (.tmp 155)), some (150, false)⟩, ⟨some 157, (.bin .geq (.tmp 151) (.tmp 156)), some (150, false)⟩, ⟨some 158, (.pick (.tmp 150) (.cst (.bool true)) (.tmp 157)), none⟩, ⟨some 159, (.move (.tmp 158)), none⟩, ⟨some 160, (.load (some 64) (.tmp 22)), some (159, false)⟩, ⟨some 161, (.load none (.tmp 4)), some (159, false)⟩, ⟨some 162, (.nilck (.tmp 161)), some (159, false)⟩, ⟨some 163, (.faddr 0 (.tmp 162)), some (159, false)⟩, ⟨some 164, (.load none (.tmp 163)), some (159, false)⟩, ⟨some 165, (.load none (.tmp 20)), some (159, false)⟩, ⟨some 166, (.iaddrS 64 (.tmp 164) (.tmp 165)), some (159, false)⟩, ⟨some 167, (.load (some 64) (.tmp 166)), some (159, false)⟩, ⟨some 168, (.eqc true true [(.i .u8), (.i .u8), (.i .u8), (.i .u8), (.i .u8), (.i .u8), (.i .u8), (.i .u8), (.i .u8), (.i .u8), (.i .u8), (.i .u8), (.i .u8), (.i .u8), (.i .u8), (.i .u8), (.i .u8), (.i .u8), (.i .u8), (.i .u8), (.i .u8), (.i .u8), (.i .u8), (.i .u8), (.i .u8), (.i .u8), (.i .u8), (.i .u8), (.i .u8), (.i .u8), (.i .u8), (.i .u8), (.i .u8), (.i .u8), (.i .u8), (.i .u8), (.i .u8), (.i .u8), (.i .u8), (.i .u8), (.i .u8), (.i .u8), (.i .u8), (.i .u8), (.i .u8), (.i .u8), (.i .u8), (.i .u8), (.i .u8), (.i .u8), (.i .u8), (.i .u8), (.i .u8), (.i .u8), (.i .u8), (.i .u8), (.i .u8), (.i .u8), (.i .u8), (.i .u8), (.i .u8), (.i .u8), (.i .u8), (.i .u8)] (.tmp 160) (.tmp 167)), some (159, false)⟩, ⟨some 169, (.pick (.tmp 159) (.cst (.bool true)) (.tmp 168)), none⟩]) (.clr [168, 167, 166, 165, 164, 163, 162, 161, 160, 159, 158, 157, 156, 155, 154, 153, 152, 151, 150, 149, 148, 147, 22, 21, 4])) (.cond (.tmp 169) (.seq (.clr [169, 20, 19, 5]) (.seq (.seq (.region [⟨none, (.store 1 (.tmp 6) (.cst (.bool false))), none⟩]) (.clr [6])) .ret)) (.seq (.clr [169, 6]) .skip))) (.seq (.seq (.region [⟨some 170, (.load none (.tmp 20)), none⟩, ⟨some 171, (.bin .add (.tmp 170) (.cst (.int .i64 1))), none⟩, ⟨none, (.store 1 (.tmp 20) (.tmp 171)), none⟩]) (.clr [171, 170])) (.seq (.seq (.region [⟨some 172, (.load none (.tmp 19)), none⟩, ⟨some 173, (.bin .eql (.tmp 172) (.cst (.int .i64 0))), none⟩, ⟨some 174, (.move (.tmp 173)), none⟩, ⟨some 175, (.load none (.tmp 20)), some (174, true)⟩, ⟨some 176, (.load none (.tmp 5)), some (174, true)⟩, ⟨some 177, (.bin .eql (.tmp 175) (.tmp 176)), some (174, true)⟩, ⟨some 178, (.pick (.tmp 174) (.tmp 177) (.cst (.bool false))), none⟩]) (.clr [177, 176, 175, 174, 173, 172, 20, 19, 5])) (.cond (.tmp 178) (.seq (.clr [178]) (.exit 8)) (.seq (.clr [178]) .skip)))))) 12 0 9))) (.seq (.seq (.region [⟨some 179, (.load none (.tmp 19)), none⟩, ⟨some 180, (.bin .eql (.tmp 179) (.cst (.int .i64 1))), none⟩, ⟨some 181, (.move (.tmp 180)), none⟩, ⟨some 182, (.load none (.tmp 20)), some (181, true)⟩, ⟨some 183, (.load none (.tmp 4)), some (181, true)⟩, ⟨some 184, (.nilck (.tmp 183)), some (181, true)⟩, ⟨some 185, (.faddr 0 (.tmp 184)), some (181, true)⟩, ⟨some 186, (.load none (.tmp 185)), some (181, true)⟩, ⟨some 187, (.lenS (.tmp 186)), some (181, true)⟩, ⟨some 188, (.bin .neq (.tmp 182) (.tmp 187)), some (181, true)⟩, ⟨some 189, (.pick (.tmp 181) (.tmp 188) (.cst (.bool false))), none⟩, ⟨some 190, (.move (.tmp 189)), none⟩, ⟨some 191, (.load none (.tmp 19)), some (190, false)⟩, ⟨some 192, (.bin .eql (.tmp 191) (.cst (.int .i64 0))), some (190, false)⟩, ⟨some 193, (.move (.tmp 192)), some (190, false)⟩, ⟨some 194, (.load none (.tmp 20)), some (193, true)⟩, ⟨some 195, (.load none (.tmp 4)), some (193, true)⟩, ⟨some 196, (.nilck (.tmp 195)), some (193, true)⟩, ⟨some 197, (.faddr 0 (.tmp 196)), some (193, true)⟩, ⟨some 198, (.load none (.tmp 197)), some (193, true)⟩, ⟨some 199, (.lenS (.tmp 198)), some (193, true)⟩, ⟨some 200, (.bin .neq (.tmp 194) (.tmp 199)), some (193, true)⟩, ⟨some 201, (.pick (.tmp 193) (.tmp 200) (.cst (.bool false))), some (190, false)⟩, ⟨some 202, (.move (.tmp 201)), some (190, false)⟩, ⟨some 203, (.load none (.tmp 20)), some (202, true)⟩, ⟨some 204, (.load none (.tmp 5)), some (202, true)⟩, ⟨some 205, (.bin .neq (.tmp 203) (.tmp 204)), some (202, true)⟩, ⟨some 206, (.pick (.tmp 202) (.tmp 205) (.cst (.bool false))), some (190, false)⟩, ⟨some 207, (.pick (.tmp 190) (.cst (.bool true)) (.tmp 206)), none⟩]) (.clr [206, 205, 204, 203, 202, 201, 200, 199, 198, 197, 196, 195, 194, 193, 192, 191, 190, 189, 188, 187, 186, 185, 184, 183, 182, 181, 180, 179, 20])) (.cond (.tmp 207) (.seq (.clr [207, 146, 145, 19, 18, 5, 4]) (.seq (.region [⟨none, (.store 1 (.tmp 6) (.cst (.bool false))), none⟩]) .ret)) (.seq (.clr [207]) .skip)))))) (.seq (.seq (.seq (.region [⟨some 208, (.load none (.tmp 19)), none⟩]) (.clr [19])) (.seq (.region [⟨some 19, (.allocz 5 [(.int .i64 0)]), none⟩, ⟨none, (.store 1 (.tmp 19) (.tmp 208)), none⟩]) (.clr [208]))) (.seq (.region [⟨some 142, (.load none (.tmp 19)), none⟩, ⟨some 143, (.bin .add (.tmp 142) (.cst (.int .i64 1))), none⟩, ⟨none, (.store 1 (.tmp 19) (.tmp 143)), none⟩]) (.clr [143, 142])))))))) (.seq (.region [⟨none, (.store 1 (.tmp 6) (.cst (.bool true))), none⟩]) .ret))))
end Go.Am.T


set_option linter.unusedVariables false
set_option linter.unusedSimpArgs false
set_option maxRecDepth 10000
namespace Go.Am.T
attribute [local congr] selV_congr impB_congr
attribute [local irreducible] sB sC sD sZ
end Go.Am.T


set_option linter.unusedVariables false
set_option linter.unusedSimpArgs false
namespace Go.Am
variable {P : Program}
inductive Sh where
  | int (k : IntKind)
  | bool
  | str
  | unit
  | pair (a b : Sh)
  | arr (n : Nat) (e : Sh)
  | sl (ag : Bool) (s : Nat) (e : Sh)
  deriving DecidableEq
def elemV (ag : Bool) (u : List V) : V := match ag with | true => .agg u | false => u.headD .junk
def InSh : Sh → List V → Prop
  | .int k, vs => ∃ n, vs = [.int k n] ∧ (Lit.int k n).wf = true
  | .bool, vs => ∃ b, vs = [.bool b]
  | .str, vs => ∃ s, vs = [.str s] ∧ s.length ≤ maxLen
  | .unit, vs => vs = []
  | .pair a b, vs => ∃ u v, vs = u ++ v ∧ InSh a u ∧ InSh b v
  | .arr n e, vs => ∃ us : List (List V), us.length = n ∧ vs = us.flatten ∧ ∀ u ∈ us, InSh e u
  | .sl ag s e, vs => vs = [.nils] ∨ ∃ (us : List (List V)) (c : Nat), vs = [.sl (us.map (elemV ag)) s (some c)] ∧ us.length ≤ c ∧ c ≤ maxLen ∧ ∀ u ∈ us, u.length = s ∧ InSh e u
section
variable {H : Type} {enc : TypeId × Value → H} {w : World} {sp : Nat → Bool} {held : Bool} {g : G}
def InP (ag : Bool) (S : Sh) (v : V) : Prop := match ag with | true => ∃ cs, v = .agg cs ∧ InSh S cs | false => InSh S [v]
theorem InSh.free : ∀ {S : Sh} {vs : List V}, InSh S vs → V.freeL vs = true
  | .int k, vs, ⟨n, h, _⟩ => by subst h; rfl
  | .bool, vs, ⟨n, h⟩ => by subst h; rfl
  | .str, vs, ⟨n, h, _⟩ => by subst h; rfl
  | .unit, vs, h => by cases h; rfl
  | .pair a b, vs, ⟨u, v, h, h1, h2⟩ => by subst h; rw [freeL_append, InSh.free h1, InSh.free h2]; rfl
  | .arr n e, vs, ⟨us, hn, h, h1⟩ => by
    subst h
    clear hn
    induction us with
    | nil => rfl
    | cons u us ih => rw [List.flatten_cons, freeL_append, InSh.free (h1 u (by simp)), ih (fun v hv => h1 v (by simp [hv]))]; rfl
  | .sl ag s e, vs, h => by
    rcases h with rfl | ⟨us, c, rfl, -, -, h1⟩
    · rfl
    · rw [freeL_cons, freeL_nil, Bool.and_true, free_sl]
      clear c
      induction us with
      | nil => rfl
      | cons u us ih =>
        have hu := InSh.free (h1 u (by simp)).2
        rw [List.map_cons, freeL_cons, ih (fun v hv => h1 v (by simp [hv])), Bool.and_true]
        cases ag with
        | true => exact hu
        | false =>
          cases u with
          | nil => rfl
          | cons x u => rw [freeL_cons, Bool.and_eq_true] at hu; exact hu.1
theorem InP.free {ag : Bool} {S : Sh} {v : V} (h : InP ag S v) : v.free = true := by
  cases ag with
  | true => obtain ⟨cs, rfl, h⟩ := h; exact h.free
  | false => have := InSh.free h; rw [freeL_cons, Bool.and_eq_true] at this; exact this.1
end
end Go.Am


set_option linter.unusedVariables false
set_option linter.unusedSimpArgs false
namespace Go.Am
end Go.Am


set_option linter.unusedVariables false
set_option linter.unusedSimpArgs false
set_option maxRecDepth 10000
namespace Go.Am.T
attribute [local congr] selV_congr impB_congr
theorem known_spec {N n : Nat} (hN : 5000 ≤ N) (hn : 20 ≤ n) (h : Heap) : callA am N n 8 [] h = some (.bool true, h) :=
  closed_quick pm8 (show callB am 5000 20 8 [] [] = some (.bool true, []) by kernel_rfl) hN hn h
def Ro (k : IntKind) (m : List Int) (b : V) : Prop := (m = [] ∧ b = .nils) ∨ ∃ c, b = .sl (m.map (V.int k)) 1 c
theorem Ro.isL {k : IntKind} {m : List Int} {b : V} (h : Ro k m b) : IsL b 1 (m.map fun n => [V.int k n]) := by
  rcases h with ⟨rfl, rfl⟩ | ⟨c, rfl⟩
  · exact isL_nils 1
  · exact isL_sl (ints_free k m) (by rw [List.map_map]; rfl)
theorem ones_flat (k : IntKind) : ∀ m : List Int, (m.map fun n => [V.int k n]).flatten = m.map (V.int k)
  | [] => rfl
  | x :: m => by rw [List.map_cons, List.flatten_cons, ones_flat k m]; rfl
theorem Ro.first {k : IntKind} {m : List Int} {b : V} (h : Ro k m b) (get : Nat → Option Ob) : lenA b = some m.length ∧ firstA get 1 m.length b = some (m.map (V.int k)) := by
  have hl := h.isL
  refine ⟨by rw [hl.len, List.length_map], ?_⟩
  rw [hl.first get m.length (by simp), List.take_of_length_le (by simp), ones_flat]
end Go.Am.T


set_option linter.unusedVariables false
set_option linter.unusedSimpArgs false
set_option maxRecDepth 10000
namespace Go.Am.T
attribute [local congr] selV_congr impB_congr
def oA : ACode := (.seq (.region [⟨some 4, (.move (.cst (.bool false))), none⟩]) (.clr [4]))
def oB : ACode := (.seq (.seq (.region [⟨some 12, (.move (.tmp 0)), none⟩, ⟨some 13, (.lenS (.tmp 12)), none⟩, ⟨some 14, (.bin .gtr (.tmp 13) (.cst (.int .i64 9000))), none⟩, ⟨some 15, (.move (.tmp 14)), none⟩, ⟨some 16, (.move (.tmp 1)), some (15, false)⟩, ⟨some 17, (.lenS (.tmp 16)), some (15, false)⟩, ⟨some 18, (.bin .gtr (.tmp 17) (.cst (.int .i64 20))), some (15, false)⟩, ⟨some 19, (.pick (.tmp 15) (.cst (.bool true)) (.tmp 18)), none⟩]) (.clr [18, 17, 16, 15, 14, 13, 12])) (.cond (.tmp 19) (.seq (.clr [19, 1, 0]) (.seq (.seq (.region [⟨some 20, (.call 8 []), none⟩, ⟨some 4, (.move (.tmp 20)), none⟩]) (.clr [20])) .ret)) (.seq (.clr [19]) .skip)))
def oP : ACode := (.seq (.region [⟨some 21, (.move (.tmp 0)), none⟩, ⟨some 22, (.append 0 1 1 (.cst .nils) (.tmp 21)), none⟩, ⟨some 23, (.bnew 1 [(.int .u8 0)] 1 1 [(0, 1, (.cst (.int .u8 119)))]), none⟩, ⟨some 24, (.append 2 1 1 (.tmp 22) (.tmp 23)), none⟩, ⟨some 25, (.move (.tmp 1)), none⟩, ⟨some 26, (.append 3 1 8 (.cst .nils) (.tmp 25)), none⟩, ⟨some 27, (.bslice [(.int .i64 0)] 1 1 [(0, 1, (.cst (.int .i64 77)))]), none⟩, ⟨some 28, (.append 4 1 8 (.tmp 26) (.tmp 27)), none⟩, ⟨some 5, (.move (.tmp 24)), none⟩, ⟨some 6, (.move (.tmp 28)), none⟩]) (.clr [28, 27, 26, 25, 24, 23, 22, 21]))
def oR : ACode := (.seq (.seq (.region [⟨some 30, (.move (.tmp 5)), none⟩, ⟨some 31, (.move (.tmp 0)), none⟩, ⟨some 32, (.lenS (.tmp 31)), none⟩, ⟨some 33, (.slS 1 (.tmp 30) none (some (.tmp 32)) none), none⟩, ⟨some 34, (.move (.tmp 6)), none⟩, ⟨some 35, (.move (.tmp 1)), none⟩, ⟨some 36, (.lenS (.tmp 35)), none⟩, ⟨some 37, (.slS 1 (.tmp 34) none (some (.tmp 36)) none), none⟩, ⟨some 38, (.call 9 [(.tmp 33), (.tmp 37)]), none⟩, ⟨some 29, (.move (.tmp 38)), none⟩, ⟨some 39, (.extract (.tmp 29) 0), none⟩, ⟨some 40, (.extract (.tmp 29) 1), none⟩, ⟨some 7, (.move (.tmp 39)), none⟩, ⟨some 8, (.move (.tmp 40)), none⟩]) (.clr [40, 39, 38, 37, 36, 35, 34, 33, 32, 31, 30, 29])) (.seq (.seq (.region [⟨some 41, (.move (.tmp 0)), none⟩, ⟨some 42, (.move (.tmp 1)), none⟩, ⟨some 43, (.call 10 [(.tmp 41), (.tmp 42)]), none⟩, ⟨some 9, (.move (.tmp 43)), none⟩]) (.clr [43, 42, 41])) (.seq (.seq (.seq (.region [⟨some 44, (.move (.tmp 5)), none⟩, ⟨some 45, (.b2s (.tmp 44)), none⟩, ⟨some 46, (.move (.tmp 0)), none⟩, ⟨some 47, (.b2s (.tmp 46)), none⟩, ⟨some 48, (.bin .add (.tmp 47) (.cst (.str [119]))), none⟩, ⟨some 49, (.bin .neq (.tmp 45) (.tmp 48)), none⟩, ⟨some 50, (.move (.tmp 49)), none⟩, ⟨some 51, (.move (.tmp 6)), some (50, false)⟩, ⟨some 52, (.move (.tmp 1)), some (50, false)⟩, ⟨some 53, (.lenS (.tmp 52)), some (50, false)⟩, ⟨some 54, (.iaddrS 1 (.tmp 51) (.tmp 53)), some (50, false)⟩, ⟨some 55, (.load none (.tmp 54)), some (50, false)⟩, ⟨some 56, (.bin .neq (.tmp 55) (.cst (.int .i64 77))), some (50, false)⟩, ⟨some 57, (.pick (.tmp 50) (.cst (.bool true)) (.tmp 56)), none⟩]) (.clr [56, 55, 54, 53, 52, 51, 50, 49, 48, 47, 46, 45, 44, 0])) (.cond (.tmp 57) (.seq (.clr [57, 9, 8, 7, 6, 5, 1]) (.seq (.region [⟨some 4, (.move (.cst (.bool false))), none⟩]) .ret)) (.seq (.clr [57]) .skip))) (.seq (.seq (.region [⟨some 10, (.move (.cst (.int .i64 0))), none⟩]) (.block 0 (.loop [] [] (.seq (.seq (.seq (.region [⟨some 58, (.move (.tmp 10)), none⟩, ⟨some 59, (.move (.tmp 5)), none⟩, ⟨some 60, (.lenS (.tmp 59)), none⟩, ⟨some 61, (.bin .lss (.tmp 58) (.tmp 60)), none⟩]) (.clr [60, 59, 58])) (.cond (.tmp 61) (.seq (.clr [61]) .skip) (.seq (.clr [61, 10, 5]) (.exit 0)))) (.seq (.block 1 (.seq (.region [⟨some 64, (.move (.tmp 5)), none⟩, ⟨some 65, (.move (.tmp 10)), none⟩, ⟨some 66, (.iaddrS 1 (.tmp 64) (.tmp 65)), none⟩, ⟨none, (.store 1 (.tmp 66) (.cst (.int .u8 102))), none⟩]) (.clr [66, 65, 64]))) (.seq (.region [⟨some 62, (.move (.tmp 10)), none⟩, ⟨some 63, (.bin .add (.tmp 62) (.cst (.int .i64 1))), none⟩, ⟨some 10, (.move (.tmp 63)), none⟩]) (.clr [63, 62]))))))) (.seq (.seq (.region [⟨some 11, (.move (.cst (.int .i64 0))), none⟩]) (.block 2 (.loop [] [] (.seq (.seq (.seq (.region [⟨some 67, (.move (.tmp 11)), none⟩, ⟨some 68, (.move (.tmp 1)), none⟩, ⟨some 69, (.lenS (.tmp 68)), none⟩, ⟨some 70, (.bin .lss (.tmp 67) (.tmp 69)), none⟩]) (.clr [69, 68, 67])) (.cond (.tmp 70) (.seq (.clr [70]) .skip) (.seq (.clr [70, 11, 6, 1]) (.exit 2)))) (.seq (.block 3 (.seq (.seq (.seq (.region [⟨some 73, (.move (.tmp 6)), none⟩, ⟨some 74, (.move (.tmp 11)), none⟩, ⟨some 75, (.iaddrS 1 (.tmp 73) (.tmp 74)), none⟩, ⟨some 76, (.load none (.tmp 75)), none⟩, ⟨some 77, (.move (.tmp 1)), none⟩, ⟨some 78, (.move (.tmp 11)), none⟩, ⟨some 79, (.iaddrS 1 (.tmp 77) (.tmp 78)), none⟩, ⟨some 80, (.load none (.tmp 79)), none⟩, ⟨some 81, (.bin .neq (.tmp 76) (.tmp 80)), none⟩]) (.clr [80, 79, 78, 77, 76, 75, 74, 73])) (.cond (.tmp 81) (.seq (.clr [81, 11, 9, 8, 7, 6, 1]) (.seq (.region [⟨some 4, (.move (.cst (.bool false))), none⟩]) .ret)) (.seq (.clr [81]) .skip))) (.seq (.region [⟨some 82, (.move (.tmp 6)), none⟩, ⟨some 83, (.move (.tmp 11)), none⟩, ⟨some 84, (.iaddrS 1 (.tmp 82) (.tmp 83)), none⟩, ⟨none, (.store 1 (.tmp 84) (.cst (.int .i64 5))), none⟩]) (.clr [84, 83, 82])))) (.seq (.region [⟨some 71, (.move (.tmp 11)), none⟩, ⟨some 72, (.bin .add (.tmp 71) (.cst (.int .i64 1))), none⟩, ⟨some 11, (.move (.tmp 72)), none⟩]) (.clr [72, 71]))))))) (.seq (.seq (.seq (.region [⟨some 85, (.move (.tmp 9)), none⟩, ⟨some 86, (.eqnil false NK.p (.tmp 85)), none⟩]) (.clr [85])) (.cond (.tmp 86) (.seq (.clr [86, 9]) (.seq (.seq (.region [⟨some 87, (.move (.tmp 7)), none⟩, ⟨some 88, (.eqnil false NK.p (.tmp 87)), none⟩, ⟨some 89, (.move (.tmp 88)), none⟩, ⟨some 90, (.move (.tmp 8)), some (89, true)⟩, ⟨some 91, (.call 11 [(.tmp 90)]), some (89, true)⟩, ⟨some 92, (.bin .eql (.tmp 91) (.cst (.int .i64 2))), some (89, true)⟩, ⟨some 93, (.pick (.tmp 89) (.tmp 92) (.cst (.bool false))), none⟩, ⟨some 94, (.move (.tmp 93)), none⟩, ⟨some 95, (.call 8 []), some (94, true)⟩, ⟨some 96, (.pick (.tmp 94) (.tmp 95) (.cst (.bool false))), none⟩, ⟨some 4, (.move (.tmp 96)), none⟩]) (.clr [96, 95, 94, 93, 92, 91, 90, 89, 88, 87, 8, 7])) .ret)) (.seq (.clr [86]) .skip))) (.seq (.seq (.region [⟨some 97, (.move (.tmp 7)), none⟩, ⟨some 98, (.eqnil true NK.p (.tmp 97)), none⟩, ⟨some 99, (.move (.tmp 98)), none⟩, ⟨some 100, (.move (.tmp 8)), some (99, true)⟩, ⟨some 101, (.call 11 [(.tmp 100)]), some (99, true)⟩, ⟨some 102, (.bin .eql (.tmp 101) (.cst (.int .i64 0))), some (99, true)⟩, ⟨some 103, (.pick (.tmp 99) (.tmp 102) (.cst (.bool false))), none⟩, ⟨some 104, (.move (.tmp 103)), none⟩, ⟨some 105, (.move (.tmp 7)), some (104, true)⟩, ⟨some 106, (.move (.tmp 9)), some (104, true)⟩, ⟨some 107, (.call 12 [(.tmp 105), (.tmp 106), (.cst (.int .i64 0))]), some (104, true)⟩, ⟨some 108, (.pick (.tmp 104) (.tmp 107) (.cst (.bool false))), none⟩, ⟨some 109, (.move (.tmp 108)), none⟩, ⟨some 110, (.call 8 []), some (109, true)⟩, ⟨some 111, (.pick (.tmp 109) (.tmp 110) (.cst (.bool false))), none⟩, ⟨some 4, (.move (.tmp 111)), none⟩]) (.clr [111, 110, 109, 108, 107, 106, 105, 104, 103, 102, 101, 100, 99, 98, 97, 9, 8, 7])) .ret)))))))
end Go.Am.T


set_option linter.unusedVariables false
set_option linter.unusedSimpArgs false
set_option maxRecDepth 10000
namespace Go.Am.T
attribute [local congr] selV_congr impB_congr
end Go.Am.T


set_option linter.unusedVariables false
set_option linter.unusedSimpArgs false
set_option maxRecDepth 10000
namespace Go.Am.T
attribute [local congr] selV_congr impB_congr
attribute [local irreducible] oA oB oP oR
end Go.Am.T


set_option linter.unusedVariables false
set_option linter.unusedSimpArgs false
set_option maxRecDepth 10000
namespace Go.Am.T
attribute [local congr] selV_congr impB_congr
def Dv.puts : Dv → Nat → List (List Int) → Dv
  | D, _, [] => D
  | D, f, v :: L => (D.doS f v).puts (f + 1) L
theorem doS_len (D : Dv) (f : Nat) (v : List Int) : (D.doS f v).S.length = D.S.length := by
  unfold Dv.doS
  cases D.out
  · exact List.length_set
  · rfl
theorem puts_len : ∀ (L : List (List Int)) (D : Dv) (f : Nat), (D.puts f L).S.length = D.S.length
  | [], _, _ => rfl
  | v :: L, D, f => by rw [Dv.puts, puts_len L, doS_len]
theorem puts_ok : ∀ (L : List (List Int)) (D : Dv) (f : Nat), D.Ok → (∀ v ∈ L, v.length = 64) → (D.puts f L).Ok
  | [], _, _, h, _ => h
  | v :: L, D, f, h, hv => puts_ok L _ _ (h.doS f (hv v (by simp))) fun w hw => hv w (by simp [hw])
theorem puts_app : ∀ (L M : List (List Int)) (D : Dv) (f : Nat), D.puts f (L ++ M) = (D.puts f L).puts (f + L.length) M
  | [], M, D, f => rfl
  | v :: L, M, D, f => by
    show (D.doS f v).puts (f + 1) (L ++ M) = _
    rw [puts_app L M, List.length_cons]
    show _ = ((D.doS f v).puts (f + 1) L).puts (f + (L.length + 1)) M
    rw [show f + 1 + L.length = f + (L.length + 1) by omega]
theorem puts_succ {D : Dv} {f k : Nat} {L : List (List Int)} (hk : k < L.length) : D.puts f (L.take (k + 1)) = (D.puts f (L.take k)).doS (f + k) L[k] := by
  rw [List.take_add_one, List.getElem?_eq_getElem hk, puts_app, List.length_take, Nat.min_eq_left (by omega)]
  rfl
theorem puts_out : ∀ (L : List (List Int)) (D : Dv) (f : Nat), D.out = true → D.lose.puts f L = D.lose
  | [], _, _, _ => rfl
  | v :: L, D, f, h => by
    have h2 : D.lose.out = true := h
    have e : D.lose.doS f v = D.lose := by simp only [Dv.doS, h2, cond_true]; rfl
    show (D.lose.doS f v).puts (f + 1) L = _
    rw [e, puts_out L D (f + 1) h]
theorem puts_stop {D : Dv} {f k : Nat} {L : List (List Int)} (hk : k < L.length) (ho : (D.puts f (L.take k)).out = true) : D.puts f L = D.puts f (L.take (k + 1)) := by
  have e : L = L.take (k + 1) ++ L.drop (k + 1) := (List.take_append_drop _ _).symm
  have e2 : D.puts f (L.take (k + 1)) = (D.puts f (L.take k)).lose := by rw [puts_succ hk]; simp only [Dv.doS, ho, cond_true]
  rw [e, puts_app, ← e, e2, puts_out _ _ _ ho]
structure RdS (H : Heap) (X : List Nat) (x : V) (L : List (List Int)) : Prop where
  len : lenA x = some L.length
  nstr : ∀ b, x ≠ .str b
  one : x.cells = [x] ∧ x ≠ .junk
  sec : ∀ v ∈ L, v.length = 64
  at_ : ∀ i, (h : i < L.length) → iaddrSA 64 x (.int .i64 (i : Nat)) = some (.ret (.iptr (L[i].map (V.int .u8)) 0)) ∨
    ∃ o v off cs, o ∉ X ∧ o < H.length ∧ iaddrSA 64 x (.int .i64 (i : Nat)) = some (.ret (.ptr o v off)) ∧ H[o]? = some ⟨v, .arr cs⟩ ∧ off + 64 ≤ cs.length ∧ List.take 64 (List.drop off cs) = L[i].map (V.int .u8)
theorem RdS.keep {H H' : Heap} {X : List Nat} {x : V} {L : List (List Int)} (h : RdS H X x L) (hl : H.length ≤ H'.length) (hk : ∀ p, p < H.length → p ∉ X → H'[p]? = H[p]?) : RdS H' X x L := by
  refine ⟨h.len, h.nstr, h.one, h.sec, fun i hi => ?_⟩
  rcases h.at_ i hi with q | ⟨o, v, off, cs, q0, q1, q2, q3, q4⟩
  · exact .inl q
  · exact .inr ⟨o, v, off, cs, q0, by omega, q2, by rw [hk o q1 q0]; exact q3, q4⟩
def Dv.room (D : Dv) (f : Int) (k : Nat) : Bool := decide (f ≥ 0) && (decide (f ≤ (D.S.length : Int)) && decide ((k : Int) ≤ (D.S.length : Int) - f))
def Dv.wrR (D : Dv) (i e f : Int) (L : List (List Int)) : Int := D.who i e (D.room f L.length)
def Dv.wr (D : Dv) (i e f : Int) (L : List (List Int)) : Dv := bif D.wrR i e f L == 0 then D.puts f.toNat L else D
theorem Dv.Ok.wr {D : Dv} (h : D.Ok) (i e f : Int) {L : List (List Int)} (hL : ∀ v ∈ L, v.length = 64) : (D.wr i e f L).Ok := by
  unfold Dv.wr
  cases D.wrR i e f L == 0
  · exact h
  · exact puts_ok L D _ h hL
theorem write1_gen {N n : Nat} (hn : 1 ≤ n) {K : Heap} {b0 b1 b2 b3 d o ver w0 w3 : Nat} {cap : Option Nat} {D : Dv} {f j : Int} {v : List Int} (ok : D.Ok) (hv : v.length = 64) (i0 : 0 ≤ f + j) (i1 : f + j < (D.S.length : Int))
    (h0 : K[b0]? = some ⟨w0, .var (v.map (V.int .u8))⟩) (h1 : K[b1]? = some ⟨1, .var [.ptr d 1 0]⟩) (h2 : K[b2]? = some ⟨1, .var [.int .i64 f]⟩) (h3 : K[b3]? = some ⟨w3, .var [.int .i64 j]⟩) (hd : K[d]? = some ⟨1, .var (D.cs (.view o ver 0 D.S.length 64 cap))⟩) (ho : K[o]? = some ⟨ver, .arr (D.S.flatten.map (V.int .u8))⟩) :
    callA am N n 54 [.ptr b0 w0 0, .ptr b1 1 0, .ptr b2 1 0, .ptr b3 w3 0] K = some (.tup [], K.set o ⟨ver, .arr ((D.S.set (f + j).toNat v).flatten.map (V.int .u8))⟩) := by
  obtain ⟨n, rfl⟩ : ∃ m, n = m + 1 := ⟨n - 1, by omega⟩
  have hlt := lt_of_get hd
  have hlo := lt_of_get ho
  have := ok.s4
  have w : IntKind.i64.wrap (f + j) = f + j := wrap64 (by omega) (by omega)
  have q1 := fun X => @dv_len D X ok.e8
  have q0 : ∀ X, List.take 1 (D.cs X) = [X] := fun X => rfl
  have l64 : (v.map (V.int .u8)).length = 64 := by simp [hv]
  have t64 : List.take 64 (v.map (V.int .u8)) = v.map (V.int .u8) := List.take_of_length_le (by simp [hv])
  have o64 := ints_one .u8 v
  have fl : (D.S.flatten.map (V.int .u8)).length = D.S.length * 64 := by rw [List.length_map, flat_len ok.sec]
  have le : (f + j).toNat * 64 + 64 ≤ D.S.length * 64 := by omega
  have fs := @flat_set D.S (f + j).toNat v ok.sec hv (by omega)
  generalize D.S.flatten.map (V.int .u8) = F at *
  generalize (D.S.set (f + j).toNat v).flatten.map (V.int .u8) = F' at *
  generalize v.map (V.int .u8) = vs at *
  generalize D.S.length = L at *
  refine call_keep_eq at54 rfl rfl (by decide) (sx_wp ?_)
  simp +contextual -implicitDefEqProofs (maxSteps := 10000000) only [sxb, plainD, stays, ↓selV_wt, ↓selV_wf, ↓impB_wt, ↓impB_wf, ↓selV_nor, ↓impB_nor, ↓selV_nt, ↓selV_nf, ↓impB_nt, ↓impB_nf, ↓selV_true, ↓selV_false, ↓selV_and, ↓impB_true, ↓impB_false, ↓impB_and, ↓prim_pick, ↓selV_nn, ↓impB_nn, doOp, get, ins, del, dels, Nat.reduceLT, Nat.reduceEqDiff, ↓reduceIte, reduceCtorEq, ne_eq, implies_true, prim, YLD, mkA, V.cells, Nat.reduceAdd, Nat.reduceSub, Nat.reduceMul, Nat.reduceLeDiff, loadA, cellsAt, nAg, packA, List.drop, List.take, List.head?, binA, unA, eqCells, eqCell, negB, fillA, storeA, Ob.with, indexedI, V.oneCell, intOf?, resA, resA1, packR, sealDepth, Int.reduceLT, Int.reduceLE, Int.reduceToNat, Int.reduceNeg, Int.reduceAdd, Int.reduceSub, Int.reduceMul, cond_true, cond_false, Int.reduceBNe, Int.reduceBEq, eq_self, deads, List.replicate, argsF, am54, isNil, List.append_nil, h0, h1, h2, h3, hd, ho, hlt, hlo, q1, q0, w, l64, t64, o64, fl, le, fs, iaddrSA, i0, i1]
theorem tail4 {H : Heap} {n : Nat} {a b c d : Ob} (hl : H.length = n + 4) (h0 : H[n]? = some a) (h1 : H[n + 1]? = some b) (h2 : H[n + 2]? = some c) (h3 : H[n + 3]? = some d) : H = H.take n ++ [a, b, c, d] := by
  apply List.ext_getElem?
  intro i
  have ht : (H.take n).length = n := by simp; omega
  rcases Nat.lt_or_ge i n with h | h
  · rw [List.getElem?_append_left (by omega), List.getElem?_take, if_pos h]
  · rw [List.getElem?_append_right (by omega), ht]
    obtain ⟨k, rfl⟩ : ∃ k, i = n + k := ⟨i - n, by omega⟩
    rw [Nat.add_sub_cancel_left]
    match k with
    | 0 => exact h0
    | 1 => exact h1
    | 2 => exact h2
    | 3 => exact h3
    | k + 4 => rw [List.getElem?_eq_none (by omega)]; simp
end Go.Am.T


set_option linter.unusedVariables false
set_option linter.unusedSimpArgs false
set_option maxRecDepth 10000
namespace Go.Am.T
attribute [local congr] selV_congr impB_congr
theorem box_at0 {h l : Heap} {n : Nat} (hl : h.length = n) : (h ++ l)[n]? = l[0]? := by subst hl; exact app_get0
theorem box_at {h l : Heap} {n k : Nat} (hl : h.length = n) : (h ++ l)[n + k]? = l[k]? := by subst hl; exact app_get
theorem box_st {h l : Heap} {n k : Nat} {x : Ob} (hl : h.length = n) : (h ++ l).set (n + k) x = h ++ l.set k x := by subst hl; exact app_set
set_option maxHeartbeats 4000000 in
theorem write_spec {N n : Nat} (hN : 5000 ≤ N) (hn : 4 ≤ n) {H : Heap} {d so : Nat} {D : Dv} (h : DAt H d so D) (i e f : Int) {x : V} {L : List (List Int)} (hx : RdS H [d, so] x L) :
    ∃ H', callA am N n 22 [.ptr d 1 0, .int .i64 i, .int .i64 e, .int .i64 f, x] H = some (.int .i64 (D.wrR i e f L), H') ∧ H.length ≤ H'.length ∧ (∀ p, p < H.length → p ≠ d → p ≠ so → H'[p]? = H[p]?) ∧ DAt H' d so (D.wr i e f L) := by
  obtain ⟨n, rfl⟩ : ∃ m, n = m + 1 := ⟨n - 1, by omega⟩
  obtain ⟨K, hK⟩ : ∃ K : Heap, K = H ++ [⟨1, .var [.ptr d 1 0]⟩, ⟨1, .var [.int .i64 f]⟩, ⟨0, .dead⟩, ⟨0, .dead⟩] := ⟨_, rfl⟩
  have hKl : K.length = H.length + 4 := by rw [hK]; simp
  have hKo : ∀ p, p < H.length → K[p]? = H[p]? := fun p hp => by rw [hK, List.getElem?_append_left hp]
  have D1 : DAt K d so D := by rw [hK]; exact h.app _
  have c48 := @there_spec N n (by omega) K _ _ D1.looks
  have c52 := @who_spec N n (by omega) K _ _ D1.looks i e (D.room f L.length)
  have ok := h.ok
  have s4 := ok.s4
  have lx := hx.len
  have nx := hx.nstr
  obtain ⟨ver, cap, hd, -⟩ := D1.ob
  have q1 := fun X => @dv_len D X ok.e8
  have q0 : ∀ X, List.take 1 (D.cs X) = [X] := fun X => rfl
  have eR : D.who i e (D.room f L.length) = D.wrR i e f L := rfl
  rw [eR] at c52
  suffices Hs : ∃ v H', callA am N (n + 1) 22 [.ptr d 1 0, .int .i64 i, .int .i64 e, .int .i64 f, x] H = some (v, H') ∧ v = .int .i64 (D.wrR i e f L) ∧ H.length ≤ H'.length ∧ (∀ p, p < H.length → p ≠ d → p ≠ so → H'[p]? = H[p]?) ∧ DAt H' d so (D.wr i e f L) by
    obtain ⟨v, H', h1, rfl, h2⟩ := Hs
    exact ⟨H', h1, h2⟩
  by_cases hf0 : f ≥ 0
  · have g0 : decide (f ≥ 0) = true := decide_eq_true hf0
    by_cases hf1 : f ≤ (D.S.length : Int)
    · have g1 : decide (f ≤ (D.S.length : Int)) = true := decide_eq_true hf1
      have wf : IntKind.i64.wrap ((D.S.length : Int) - f) = (D.S.length : Int) - f := wrap64 (by omega) (by omega)
      have er : D.room f L.length = decide ((L.length : Int) ≤ (D.S.length : Int) - f) := by rw [Dv.room, g0, g1]; rfl
      rw [er] at c52
      by_cases hw : D.wrR i e f L = 0
      · have e2 : D.wr i e f L = D.puts f.toNat L := by simp only [Dv.wr, hw]; rfl
        have hroom := who_more hw
        rw [er] at hroom
        have hroom' := of_decide_eq_true hroom
        have hlL : L.length ≤ 4096 := by omega
        rw [hw, hroom] at c52
        rw [e2, hw]
        have hb0 : K[H.length]? = some ⟨1, .var [.ptr d 1 0]⟩ := by rw [hK, app_get0]; rfl
        have hb1 : K[H.length + 1]? = some ⟨1, .var [.int .i64 f]⟩ := by rw [hK, app_get]; rfl
        refine call_keep at22 rfl rfl (by decide) (sx_wp ?_)
        have hK' := hK
        simp +contextual -implicitDefEqProofs (maxSteps := 10000000) only [sxb, plainD, stays, ↓selV_wt, ↓selV_wf, ↓impB_wt, ↓impB_wf, ↓selV_nor, ↓impB_nor, ↓selV_nt, ↓selV_nf, ↓impB_nt, ↓impB_nf, ↓selV_true, ↓selV_false, ↓selV_and, ↓impB_true, ↓impB_false, ↓impB_and, ↓prim_pick, ↓selV_nn, ↓impB_nn, doOp, get, ins, del, dels, Nat.reduceLT, Nat.reduceEqDiff, ↓reduceIte, reduceCtorEq, ne_eq, implies_true, prim, YLD, mkA, V.cells, Nat.reduceAdd, Nat.reduceSub, Nat.reduceMul, Nat.reduceLeDiff, loadA, cellsAt, nAg, packA, List.drop, List.take, List.head?, binA, unA, eqCells, eqCell, negB, fillA, storeA, Ob.with, indexedI, V.oneCell, intOf?, resA, resA1, packR, sealDepth, Int.reduceLT, Int.reduceLE, Int.reduceToNat, Int.reduceNeg, Int.reduceAdd, Int.reduceSub, Int.reduceMul, cond_true, cond_false, Int.reduceBNe, Int.reduceBEq, eq_self, deads, List.replicate, argsF, am22, isNil, app_get0, app_get, app_set0, app_set, ← hK', hb0, hb1, c48, c52, g0, g1, hroom, wf, lx, hd, q1, q0, lenA_view, mkA]
        clear c48 c52 hb0 hb1 hd hKo q1 q0
        refine sx_loop (fun k t K' => k ≤ L.length ∧ t = fr 62 [(5, .ptr H.length 1 0), (8, .ptr (H.length + 1) 1 0), (50, x), (51, .int .i64 L.length), (52, .int .i64 k)] ∧
          ∃ H' x2 x3, K' = H' ++ [⟨1, .var [.ptr d 1 0]⟩, ⟨1, .var [.int .i64 f]⟩, x2, x3] ∧ H'.length = H.length ∧ (∀ p, p < H.length → p ≠ d → p ≠ so → H'[p]? = H[p]?) ∧ DAt H' d so (D.puts f.toNat (L.take k))) L.length (by show L.length < N; omega) ⟨Nat.zero_le _, rfl, H, _, _, hK', rfl, fun _ _ _ _ => rfl, h⟩ ?_
        rintro k t K' hk ⟨hk', rfl, H', x2, x3, rfl, hl, hkp, hD⟩
        have a0 : ∀ l : Heap, (H' ++ l)[H.length]? = l[0]? := fun l => box_at0 hl
        have a1 : ∀ (l : Heap) (j : Nat), (H' ++ l)[H.length + j]? = l[j]? := fun l j => box_at hl
        have s1 : ∀ (l : Heap) (j : Nat) (z : Ob), (H' ++ l).set (H.length + j) z = H' ++ l.set j z := fun l j z => box_st hl
        obtain ⟨ld, lo⟩ := h.lt
        by_cases hlt : k < L.length
        · have c1 : decide ((k : Int) < (L.length : Int)) = true := decide_eq_true (by omega)
          have w4 : IntKind.i64.wrap ((k : Int) + 1) = ((k + 1 : Nat) : Int) := (wrap64 (by omega) (by omega)).trans (by omega)
          have hk1 : k + 1 ≤ L.length := by omega
          have hv := hx.sec L[k] (List.getElem_mem hlt)
          have l64 : (L[k].map (V.int .u8)).length = 64 := by simp [hv]
          have o64 := ints_one .u8 L[k]
          have t64 : List.take 64 (L[k].map (V.int .u8)) = L[k].map (V.int .u8) := List.take_of_length_le (by simp [hv])
          have sr := fun (z : List V) (hz : z.length = 64) => @sr_all z (L[k].map (V.int .u8)) (by rw [l64, hz])
          have hR := (hx.keep (H' := H' ++ [⟨1, .var [.ptr d 1 0]⟩, ⟨1, .var [.int .i64 f]⟩, x2, x3]) (by rw [List.length_append]; omega) (fun p hp hpx => by
            simp only [List.mem_cons, List.not_mem_nil, or_false, not_or] at hpx
            rw [List.getElem?_append_left (by omega), hkp p hp hpx.1 hpx.2])).at_ k hlt
          obtain ⟨Kx, hKx⟩ : ∃ Kx : Heap, Kx = H' ++ [⟨1, .var [.ptr d 1 0]⟩, ⟨1, .var [.int .i64 f]⟩, ⟨x2.ver + 1, .var [.int .i64 k]⟩, ⟨x3.ver + 1, .var (L[k].map (V.int .u8))⟩] := ⟨_, rfl⟩
          have Dx : DAt Kx d so (D.puts f.toNat (L.take k)) := by rw [hKx]; exact hD.app _
          obtain ⟨vx, cx, dx, ox⟩ := Dx.ob
          have eS : (D.puts f.toNat (L.take k)).S.length = D.S.length := puts_len _ _ _
          have ef : (f + (k : Int)).toNat = f.toNat + k := by omega
          obtain ⟨Hn, c53, n1, n2, n3⟩ := @doS_spec N n (by omega) Kx d so vx cx (D.puts f.toNat (L.take k)) 54 [.ptr (H.length + 3) (x3.ver + 1) 0, .ptr H.length 1 0, .ptr (H.length + 1) 1 0, .ptr (H.length + 2) (x2.ver + 1) 0] (f.toNat + k) L[k] Dx.ok hv Dx.apart dx ox (by decide) (fun go => by
            refine ⟨.tup [], ?_⟩
            have q := @write1_gen N (n - 1) (by omega) (Kx.set d ⟨1, .var ((D.puts f.toNat (L.take k)).tick.cs (.view so vx 0 (D.puts f.toNat (L.take k)).S.length 64 cx))⟩) (H.length + 3) H.length (H.length + 1) (H.length + 2) d so vx (x3.ver + 1) (x2.ver + 1) cx (D.puts f.toNat (L.take k)).tick f (k : Int) L[k]
              (Dx.ok.tick go) hv (by omega) (by show f + (k : Int) < ((D.puts f.toNat (L.take k)).S.length : Int); rw [eS]; omega)
              (by rw [List.getElem?_set_ne (by omega), hKx, a1]; rfl) (by rw [List.getElem?_set_ne (by omega), hKx, a0]; rfl) (by rw [List.getElem?_set_ne (by omega), hKx, a1]; rfl) (by rw [List.getElem?_set_ne (by omega), hKx, a1]; rfl)
              (List.getElem?_set_self (lt_of_get dx)) (by rw [List.getElem?_set_ne Dx.apart]; exact ox)
            rw [ef] at q
            exact q)
          have hKxl : Kx.length = H.length + 4 := by rw [hKx]; simp; omega
          have nb : ∀ j, j < 4 → Hn[H.length + j]? = Kx[H.length + j]? := fun j hj => n2 _ (by omega) (by omega)
          have b0' := n2 H.length (by omega) (by omega)
          have hHn := @tail4 Hn H.length _ _ _ _ (by omega) (b0'.trans (by rw [hKx, a0]; rfl)) ((nb 1 (by omega)).trans (by rw [hKx, a1]; rfl)) ((nb 2 (by omega)).trans (by rw [hKx, a1]; rfl)) ((nb 3 (by omega)).trans (by rw [hKx, a1]; rfl))
          have hkeep : ∀ p, p < H.length → p ≠ d → p ≠ so → (Hn.take H.length)[p]? = H[p]? := fun p hp h1 h2 => by
            rw [List.getElem?_take, if_pos hp, n2 p h1 h2, hKx, List.getElem?_append_left (by omega), hkp p hp h1 h2]
          have hDn : DAt (Hn.take H.length) d so (D.puts f.toNat (L.take (k + 1))) := by
            rw [puts_succ hlt]
            exact n3.keep fun p hp => by rw [List.getElem?_take, if_pos (by rcases hp with rfl | rfl <;> assumption)]
          have hln : (Hn.take H.length).length = H.length := by rw [List.length_take]; omega
          generalize hT : Hn.take H.length = Hn' at *
          have stop := fun ho => @puts_stop D f.toNat k L hlt ho
          rw [hHn, hKx] at c53
          clear hHn hKx Dx dx ox n1 n2 n3 nb b0' hD hx hkp hK' hK D1
          generalize L[k].map (V.int .u8) = as at *
          cases ho : (D.puts f.toNat (L.take k)).out with
          | true =>
            rw [ho] at c53
            simp only [Bool.not_true] at c53
            have stop' := stop ho
            rw [← stop'] at hDn
            rcases hR with r1 | ⟨o, v, off, cs, r0, r1, r2, r3, r4, r5⟩
            · simp +contextual -implicitDefEqProofs (maxSteps := 10000000) only [sxb, plainD, stays, ↓selV_wt, ↓selV_wf, ↓impB_wt, ↓impB_wf, ↓selV_nor, ↓impB_nor, ↓selV_nt, ↓selV_nf, ↓impB_nt, ↓impB_nf, ↓selV_true, ↓selV_false, ↓selV_and, ↓impB_true, ↓impB_false, ↓impB_and, ↓prim_pick, ↓selV_nn, ↓impB_nn, doOp, get, ins, del, dels, Nat.reduceLT, Nat.reduceEqDiff, ↓reduceIte, reduceCtorEq, ne_eq, implies_true, prim, YLD, mkA, V.cells, Nat.reduceAdd, Nat.reduceSub, Nat.reduceMul, Nat.reduceLeDiff, loadA, cellsAt, nAg, packA, List.drop, List.take, List.head?, binA, unA, eqCells, eqCell, negB, fillA, storeA, Ob.with, indexedI, V.oneCell, intOf?, resA, resA1, packR, sealDepth, Int.reduceLT, Int.reduceLE, Int.reduceToNat, Int.reduceNeg, Int.reduceAdd, Int.reduceSub, Int.reduceMul, cond_true, cond_false, Int.reduceBNe, Int.reduceBEq, eq_self, deads, List.replicate, argsF, c1, r1, l64, o64, t64, a0, a1, s1, mkA, sr, c53]
              exact ⟨by simp; omega, fun p hp h1 h2 => by rw [List.getElem?_append_left (by omega)]; exact hkeep p hp h1 h2, hDn.app _⟩
            · simp +contextual -implicitDefEqProofs (maxSteps := 10000000) only [sxb, plainD, stays, ↓selV_wt, ↓selV_wf, ↓impB_wt, ↓impB_wf, ↓selV_nor, ↓impB_nor, ↓selV_nt, ↓selV_nf, ↓impB_nt, ↓impB_nf, ↓selV_true, ↓selV_false, ↓selV_and, ↓impB_true, ↓impB_false, ↓impB_and, ↓prim_pick, ↓selV_nn, ↓impB_nn, doOp, get, ins, del, dels, Nat.reduceLT, Nat.reduceEqDiff, ↓reduceIte, reduceCtorEq, ne_eq, implies_true, prim, YLD, mkA, V.cells, Nat.reduceAdd, Nat.reduceSub, Nat.reduceMul, Nat.reduceLeDiff, loadA, cellsAt, nAg, packA, List.drop, List.take, List.head?, binA, unA, eqCells, eqCell, negB, fillA, storeA, Ob.with, indexedI, V.oneCell, intOf?, resA, resA1, packR, sealDepth, Int.reduceLT, Int.reduceLE, Int.reduceToNat, Int.reduceNeg, Int.reduceAdd, Int.reduceSub, Int.reduceMul, cond_true, cond_false, Int.reduceBNe, Int.reduceBEq, eq_self, deads, List.replicate, argsF, c1, r2, r3, r4, r5, l64, o64, t64, a0, a1, s1, mkA, sr, c53]
              exact ⟨by simp; omega, fun p hp h1 h2 => by rw [List.getElem?_append_left (by omega)]; exact hkeep p hp h1 h2, hDn.app _⟩
          | false =>
            rw [ho] at c53
            simp only [Bool.not_false] at c53
            rcases hR with r1 | ⟨o, v, off, cs, r0, r1, r2, r3, r4, r5⟩
            · simp +contextual -implicitDefEqProofs (maxSteps := 10000000) only [sxb, plainD, stays, ↓selV_wt, ↓selV_wf, ↓impB_wt, ↓impB_wf, ↓selV_nor, ↓impB_nor, ↓selV_nt, ↓selV_nf, ↓impB_nt, ↓impB_nf, ↓selV_true, ↓selV_false, ↓selV_and, ↓impB_true, ↓impB_false, ↓impB_and, ↓prim_pick, ↓selV_nn, ↓impB_nn, doOp, get, ins, del, dels, Nat.reduceLT, Nat.reduceEqDiff, ↓reduceIte, reduceCtorEq, ne_eq, implies_true, prim, YLD, mkA, V.cells, Nat.reduceAdd, Nat.reduceSub, Nat.reduceMul, Nat.reduceLeDiff, loadA, cellsAt, nAg, packA, List.drop, List.take, List.head?, binA, unA, eqCells, eqCell, negB, fillA, storeA, Ob.with, indexedI, V.oneCell, intOf?, resA, resA1, packR, sealDepth, Int.reduceLT, Int.reduceLE, Int.reduceToNat, Int.reduceNeg, Int.reduceAdd, Int.reduceSub, Int.reduceMul, cond_true, cond_false, Int.reduceBNe, Int.reduceBEq, eq_self, deads, List.replicate, argsF, c1, r1, l64, o64, t64, a0, a1, s1, mkA, sr, c53, w4, hk1, hlt]
              exact ⟨_, _, _, rfl, hln, hkeep, hDn⟩
            · simp +contextual -implicitDefEqProofs (maxSteps := 10000000) only [sxb, plainD, stays, ↓selV_wt, ↓selV_wf, ↓impB_wt, ↓impB_wf, ↓selV_nor, ↓impB_nor, ↓selV_nt, ↓selV_nf, ↓impB_nt, ↓impB_nf, ↓selV_true, ↓selV_false, ↓selV_and, ↓impB_true, ↓impB_false, ↓impB_and, ↓prim_pick, ↓selV_nn, ↓impB_nn, doOp, get, ins, del, dels, Nat.reduceLT, Nat.reduceEqDiff, ↓reduceIte, reduceCtorEq, ne_eq, implies_true, prim, YLD, mkA, V.cells, Nat.reduceAdd, Nat.reduceSub, Nat.reduceMul, Nat.reduceLeDiff, loadA, cellsAt, nAg, packA, List.drop, List.take, List.head?, binA, unA, eqCells, eqCell, negB, fillA, storeA, Ob.with, indexedI, V.oneCell, intOf?, resA, resA1, packR, sealDepth, Int.reduceLT, Int.reduceLE, Int.reduceToNat, Int.reduceNeg, Int.reduceAdd, Int.reduceSub, Int.reduceMul, cond_true, cond_false, Int.reduceBNe, Int.reduceBEq, eq_self, deads, List.replicate, argsF, c1, r2, r3, r4, r5, l64, o64, t64, a0, a1, s1, mkA, sr, c53, w4, hk1, hlt]
              exact ⟨_, _, _, rfl, hln, hkeep, hDn⟩
        · have e8 : k = L.length := by omega
          subst e8
          have c1 : decide ((L.length : Int) < (L.length : Int)) = false := decide_eq_false (by omega)
          rw [List.take_length] at hD
          simp +contextual -implicitDefEqProofs (maxSteps := 10000000) only [sxb, plainD, stays, ↓selV_wt, ↓selV_wf, ↓impB_wt, ↓impB_wf, ↓selV_nor, ↓impB_nor, ↓selV_nt, ↓selV_nf, ↓impB_nt, ↓impB_nf, ↓selV_true, ↓selV_false, ↓selV_and, ↓impB_true, ↓impB_false, ↓impB_and, ↓prim_pick, ↓selV_nn, ↓impB_nn, doOp, get, ins, del, dels, Nat.reduceLT, Nat.reduceEqDiff, ↓reduceIte, reduceCtorEq, ne_eq, implies_true, prim, YLD, mkA, V.cells, Nat.reduceAdd, Nat.reduceSub, Nat.reduceMul, Nat.reduceLeDiff, loadA, cellsAt, nAg, packA, List.drop, List.take, List.head?, binA, unA, eqCells, eqCell, negB, fillA, storeA, Ob.with, indexedI, V.oneCell, intOf?, resA, resA1, packR, sealDepth, Int.reduceLT, Int.reduceLE, Int.reduceToNat, Int.reduceNeg, Int.reduceAdd, Int.reduceSub, Int.reduceMul, cond_true, cond_false, Int.reduceBNe, Int.reduceBEq, eq_self, deads, List.replicate, argsF, c1]
          exact ⟨by simp; omega, fun p hp h1 h2 => by rw [List.getElem?_append_left (by omega)]; exact hkp p hp h1 h2, hD.app _⟩
      · have hne : (D.wrR i e f L != 0) = true := by simpa using hw
        have e2 : D.wr i e f L = D := by
          have : (D.wrR i e f L == 0) = false := by simpa using hw
          simp only [Dv.wr, this, cond_false]
        rw [e2]
        refine call_keep at22 rfl rfl (by decide) (sx_wp ?_)
        have hK' := hK
        have hb0 : K[H.length]? = some ⟨1, .var [.ptr d 1 0]⟩ := by rw [hK, app_get0]; rfl
        have hb1 : K[H.length + 1]? = some ⟨1, .var [.int .i64 f]⟩ := by rw [hK, app_get]; rfl
        generalize D.wrR i e f L = R at *
        simp +contextual -implicitDefEqProofs (maxSteps := 10000000) only [sxb, plainD, stays, ↓selV_wt, ↓selV_wf, ↓impB_wt, ↓impB_wf, ↓selV_nor, ↓impB_nor, ↓selV_nt, ↓selV_nf, ↓impB_nt, ↓impB_nf, ↓selV_true, ↓selV_false, ↓selV_and, ↓impB_true, ↓impB_false, ↓impB_and, ↓prim_pick, ↓selV_nn, ↓impB_nn, doOp, get, ins, del, dels, Nat.reduceLT, Nat.reduceEqDiff, ↓reduceIte, reduceCtorEq, ne_eq, implies_true, prim, YLD, mkA, V.cells, Nat.reduceAdd, Nat.reduceSub, Nat.reduceMul, Nat.reduceLeDiff, loadA, cellsAt, nAg, packA, List.drop, List.take, List.head?, binA, unA, eqCells, eqCell, negB, fillA, storeA, Ob.with, indexedI, V.oneCell, intOf?, resA, resA1, packR, sealDepth, Int.reduceLT, Int.reduceLE, Int.reduceToNat, Int.reduceNeg, Int.reduceAdd, Int.reduceSub, Int.reduceMul, cond_true, cond_false, Int.reduceBNe, Int.reduceBEq, eq_self, deads, List.replicate, argsF, am22, isNil, app_get0, app_get, app_set0, app_set, ← hK', hb0, hb1, c48, c52, g0, g1, wf, lx, hd, q1, q0, lenA_view, mkA, hne]
        exact ⟨by omega, fun p hp _ _ => hKo p hp, D1⟩
    · have g1 : decide (f ≤ (D.S.length : Int)) = false := decide_eq_false hf1
      have er : D.room f L.length = false := by rw [Dv.room, g0, g1]; rfl
      rw [er] at c52
      have hw : D.wrR i e f L ≠ 0 := fun hw => by
        have := who_more (b := D.room f L.length) hw
        rw [er] at this
        cases this
      have hne : (D.wrR i e f L != 0) = true := by simpa using hw
      have e2 : D.wr i e f L = D := by
        have : (D.wrR i e f L == 0) = false := by simpa using hw
        simp only [Dv.wr, this, cond_false]
      rw [e2]
      refine call_keep at22 rfl rfl (by decide) (sx_wp ?_)
      have hK' := hK
      have hb0 : K[H.length]? = some ⟨1, .var [.ptr d 1 0]⟩ := by rw [hK, app_get0]; rfl
      have hb1 : K[H.length + 1]? = some ⟨1, .var [.int .i64 f]⟩ := by rw [hK, app_get]; rfl
      generalize D.wrR i e f L = R at *
      simp +contextual -implicitDefEqProofs (maxSteps := 10000000) only [sxb, plainD, stays, ↓selV_wt, ↓selV_wf, ↓impB_wt, ↓impB_wf, ↓selV_nor, ↓impB_nor, ↓selV_nt, ↓selV_nf, ↓impB_nt, ↓impB_nf, ↓selV_true, ↓selV_false, ↓selV_and, ↓impB_true, ↓impB_false, ↓impB_and, ↓prim_pick, ↓selV_nn, ↓impB_nn, doOp, get, ins, del, dels, Nat.reduceLT, Nat.reduceEqDiff, ↓reduceIte, reduceCtorEq, ne_eq, implies_true, prim, YLD, mkA, V.cells, Nat.reduceAdd, Nat.reduceSub, Nat.reduceMul, Nat.reduceLeDiff, loadA, cellsAt, nAg, packA, List.drop, List.take, List.head?, binA, unA, eqCells, eqCell, negB, fillA, storeA, Ob.with, indexedI, V.oneCell, intOf?, resA, resA1, packR, sealDepth, Int.reduceLT, Int.reduceLE, Int.reduceToNat, Int.reduceNeg, Int.reduceAdd, Int.reduceSub, Int.reduceMul, cond_true, cond_false, Int.reduceBNe, Int.reduceBEq, eq_self, deads, List.replicate, argsF, am22, isNil, app_get0, app_get, app_set0, app_set, ← hK', hb0, hb1, c48, c52, g0, g1, lx, hd, q1, q0, lenA_view, mkA, hne]
      exact ⟨by omega, fun p hp _ _ => hKo p hp, D1⟩
  · have g0 : decide (f ≥ 0) = false := decide_eq_false hf0
    have er : D.room f L.length = false := by rw [Dv.room, g0]; rfl
    rw [er] at c52
    have hw : D.wrR i e f L ≠ 0 := fun hw => by
      have := who_more (b := D.room f L.length) hw
      rw [er] at this
      cases this
    have hne : (D.wrR i e f L != 0) = true := by simpa using hw
    have e2 : D.wr i e f L = D := by
      have : (D.wrR i e f L == 0) = false := by simpa using hw
      simp only [Dv.wr, this, cond_false]
    rw [e2]
    refine call_keep at22 rfl rfl (by decide) (sx_wp ?_)
    have hK' := hK
    have hb0 : K[H.length]? = some ⟨1, .var [.ptr d 1 0]⟩ := by rw [hK, app_get0]; rfl
    have hb1 : K[H.length + 1]? = some ⟨1, .var [.int .i64 f]⟩ := by rw [hK, app_get]; rfl
    generalize D.wrR i e f L = R at *
    simp +contextual -implicitDefEqProofs (maxSteps := 10000000) only [sxb, plainD, stays, ↓selV_wt, ↓selV_wf, ↓impB_wt, ↓impB_wf, ↓selV_nor, ↓impB_nor, ↓selV_nt, ↓selV_nf, ↓impB_nt, ↓impB_nf, ↓selV_true, ↓selV_false, ↓selV_and, ↓impB_true, ↓impB_false, ↓impB_and, ↓prim_pick, ↓selV_nn, ↓impB_nn, doOp, get, ins, del, dels, Nat.reduceLT, Nat.reduceEqDiff, ↓reduceIte, reduceCtorEq, ne_eq, implies_true, prim, YLD, mkA, V.cells, Nat.reduceAdd, Nat.reduceSub, Nat.reduceMul, Nat.reduceLeDiff, loadA, cellsAt, nAg, packA, List.drop, List.take, List.head?, binA, unA, eqCells, eqCell, negB, fillA, storeA, Ob.with, indexedI, V.oneCell, intOf?, resA, resA1, packR, sealDepth, Int.reduceLT, Int.reduceLE, Int.reduceToNat, Int.reduceNeg, Int.reduceAdd, Int.reduceSub, Int.reduceMul, cond_true, cond_false, Int.reduceBNe, Int.reduceBEq, eq_self, deads, List.replicate, argsF, am22, isNil, app_get0, app_get, app_set0, app_set, ← hK', hb0, hb1, c48, c52, g0, lx, hd, q1, q0, lenA_view, mkA, hne]
    exact ⟨by omega, fun p hp _ _ => hKo p hp, D1⟩
end Go.Am.T


set_option linter.unusedVariables false
set_option linter.unusedSimpArgs false
set_option maxRecDepth 10000
namespace Go.Am.T
attribute [local congr] selV_congr impB_congr
end Go.Am.T


set_option linter.unusedVariables false
set_option linter.unusedSimpArgs false
set_option maxRecDepth 10000
namespace Go.Am.T
attribute [local congr] selV_congr impB_congr
end Go.Am.T


set_option linter.unusedVariables false
set_option linter.unusedSimpArgs false
set_option maxRecDepth 10000
namespace Go.Am.T
attribute [local congr] selV_congr impB_congr
theorem sl_at {S : List (List Int)} {i : Nat} (hi : i < S.length) (cap : Option Nat) : iaddrSA 64 (.sl (S.map secV) 64 cap) (.int .i64 (i : Nat)) = some (.ret (.iptr (S[i].map (V.int .u8)) 0)) := by
  have h0 : (0 : Int) ≤ (i : Int) := by omega
  have h1 : (i : Int) < (S.length : Int) := by omega
  have q : (S.map secV)[i]? = some (secV S[i]) := by rw [List.getElem?_map, List.getElem?_eq_getElem hi]; rfl
  simp only [iaddrSA, ↓reduceIte, indexedI, List.length_map, h0, h1, Option.bind_some, Int.toNat_natCast, q, Option.map_some]
  rfl
end Go.Am.T


set_option linter.unusedVariables false
set_option linter.unusedSimpArgs false
set_option maxRecDepth 10000
namespace Go.Am.T
attribute [local congr] selV_congr impB_congr
attribute [local irreducible] sx wp
end Go.Am.T


set_option linter.unusedVariables false
set_option linter.unusedSimpArgs false
set_option maxRecDepth 10000
namespace Go.Am.T
attribute [local congr] selV_congr impB_congr
def SRo (L : List (List Int)) (b : V) : Prop := ((L = [] ∧ b = .nils) ∨ ∃ c, b = .sl (L.map secV) 64 c) ∧ ∀ v ∈ L, v.length = 64
theorem SRo.rd {L : List (List Int)} {b : V} (h : SRo L b) (H : Heap) (X : List Nat) : RdS H X b L := by
  obtain ⟨h, hs⟩ := h
  rcases h with ⟨rfl, rfl⟩ | ⟨c, rfl⟩
  · exact ⟨rfl, fun _ => V.noConfusion, ⟨rfl, V.noConfusion⟩, hs, fun i hi => by simp at hi⟩
  · exact ⟨by simp [lenA], fun _ => V.noConfusion, ⟨rfl, V.noConfusion⟩, hs, fun i hi => .inl (sl_at hi c)⟩
structure Stp where
  k : Int
  n : Int
  a : Int
  e : Int
  b : Int
  L : List (List Int)
  lv : V
  was : List Int
  new : List Int
structure Stp.Ok (s : Stp) : Prop where
  l : SRo s.L s.lv
  w : s.was.length = 64
  n : s.new.length = 64
  a : s.a ≤ 9223372036854775807
def Stp.cs (s : Stp) : List V := .int .i64 s.k :: .int .i64 s.n :: .int .i64 s.a :: .int .i64 s.e :: .int .i64 s.b :: s.lv :: (s.was.map (V.int .u8) ++ s.new.map (V.int .u8))
section
variable {s : Stp} (h : s.Ok)
include h
end
structure Two (H : Heap) (d so r s e : Nat) (D : Dv) : Prop where
  da : DAt H d so D
  ra : RAt H r s e D
  nrd : r ≠ d
  nro : r ≠ so
  nsd : s ≠ d
  nso : s ≠ so
  ned : e ≠ d
  neo : e ≠ so
theorem Two.app {H : Heap} {d so r s e : Nat} {D : Dv} (h : Two H d so r s e D) (l : Heap) : Two (H ++ l) d so r s e D := ⟨h.da.app l, h.ra.app l, h.nrd, h.nro, h.nsd, h.nso, h.ned, h.neo⟩
def Mono (D D' : Dv) : Prop := D'.n = D.n ∧ D'.S.length = D.S.length ∧ ∀ i, D.ep i ≤ D'.ep i
theorem Mono.refl (D : Dv) : Mono D D := ⟨rfl, rfl, fun _ => Int.le_refl _⟩
theorem Mono.trans {A B C : Dv} (h : Mono A B) (g : Mono B C) : Mono A C := ⟨g.1.trans h.1, g.2.1.trans h.2.1, fun i => Int.le_trans (h.2.2 i) (g.2.2 i)⟩
def Stepped (H H' : Heap) (d so r s e : Nat) (D : Dv) (v : V) : Prop :=
  ∃ d' so' r' s' e' D', v = .tup [.ptr d' 1 0, .ptr r' 1 0, .bool true] ∧ Two H' d' so' r' s' e' D' ∧ Mono D D' ∧ H.length ≤ H'.length ∧
    (∀ p, p < H.length → p ≠ d → p ≠ so → p ≠ r → p ≠ s → p ≠ e → H'[p]? = H[p]?) ∧ ∀ q ∈ [d', so', r', s', e'], q ∈ [d, so, r, s, e] ∨ H.length ≤ q
theorem Two.next {H l H1 H2 : Heap} {d so r s e : Nat} {D D' : Dv} (hT : Two H d so r s e D) (h1 : (H ++ l).length ≤ H1.length) (k1 : ∀ p, p < (H ++ l).length → p ≠ d → p ≠ so → H1[p]? = (H ++ l)[p]?) (d1 : DAt H1 d so D')
    (h2 : H1.length ≤ H2.length) (k2 : ∀ p, p < H1.length → p ≠ r → p ≠ s → p ≠ e → H2[p]? = H1[p]?) (r2 : RAt H2 r s e D') (hm : Mono D D') : Stepped H H2 d so r s e D (.tup [.ptr d 1 0, .ptr r 1 0, .bool true]) := by
  obtain ⟨m1, m2⟩ := d1.lt
  simp only [List.length_append] at h1 k1
  refine ⟨d, so, r, s, e, D', rfl, ⟨d1.keep fun p hp => ?_, r2, hT.nrd, hT.nro, hT.nsd, hT.nso, hT.ned, hT.neo⟩, hm, by omega, fun p hp a b c f g => ?_, fun q hq => .inl hq⟩
  · rcases hp with rfl | rfl
    · exact k2 _ m1 (Ne.symm hT.nrd) (Ne.symm hT.nsd) (Ne.symm hT.ned)
    · exact k2 _ m2 (Ne.symm hT.nro) (Ne.symm hT.nso) (Ne.symm hT.neo)
  · rw [k2 p (by omega) c f g, k1 p (by omega) a b, List.getElem?_append_left hp]
end Go.Am.T


set_option linter.unusedVariables false
set_option linter.unusedSimpArgs false
set_option maxRecDepth 10000
namespace Go.Am.T
attribute [local congr] selV_congr impB_congr
attribute [local irreducible] sx wp
section
variable {N n : Nat} {H : Heap} {d so r s e : Nat} {D : Dv} (hT : Two H d so r s e D) {st : Stp} (ok : st.Ok)
include hT ok
end
end Go.Am.T


set_option linter.unusedVariables false
set_option linter.unusedSimpArgs false
set_option maxRecDepth 10000
namespace Go.Am.T
attribute [local congr] selV_congr impB_congr
attribute [local irreducible] sx wp
section
variable {N n : Nat} {H : Heap} {d so r s e : Nat} {D : Dv} (hT : Two H d so r s e D) {st : Stp} (ok : st.Ok)
include hT ok
end
end Go.Am.T


set_option linter.unusedVariables false
set_option linter.unusedSimpArgs false
set_option maxRecDepth 10000
namespace Go.Am.T
attribute [local congr] selV_congr impB_congr
attribute [local irreducible] sx wp
section
variable {N n : Nat} {H : Heap} {d so r s e : Nat} {D : Dv} (hT : Two H d so r s e D) {st : Stp} (ok : st.Ok)
include hT ok
end
end Go.Am.T


set_option linter.unusedVariables false
set_option linter.unusedSimpArgs false
set_option maxRecDepth 10000
namespace Go.Am.T
attribute [local congr] selV_congr impB_congr
attribute [local irreducible] sx wp
section
variable {N n : Nat} {H : Heap} {d so r s e : Nat} {D : Dv} (hT : Two H d so r s e D) {st : Stp} (ok : st.Ok)
include hT ok
end
end Go.Am.T


set_option linter.unusedVariables false
set_option linter.unusedSimpArgs false
set_option maxRecDepth 10000
namespace Go.Am.T
attribute [local congr] selV_congr impB_congr
attribute [local irreducible] sx wp
section
variable {N n : Nat} {H : Heap} {d so r s e : Nat} {D : Dv} (hT : Two H d so r s e D) {st : Stp} (ok : st.Ok)
include hT ok
end
end Go.Am.T


set_option linter.unusedVariables false
set_option linter.unusedSimpArgs false
namespace Go.Am
variable {P : Program}
mutual
def bulkD {H : Type} : DataW H → Nat
  | .lit (.string bytes) => bytes.length + 1
  | .lit _ => 1
  | .nil => 1
  | .ptr d => bulkD d + 1
  | .slice elems spare => bulkAllD elems + bulkAllD spare + 1
  | .agg parts => bulkAllD parts + 1
  | .iface _ d => bulkD d + 1
  | .map entries => bulkEntriesD entries + 1
  | .held _ => 1
def bulkAllD {H : Type} : List (DataW H) → Nat
  | [] => 0
  | d :: r => bulkD d + bulkAllD r
def bulkEntriesD {H : Type} : List (Lit × DataW H) → Nat
  | [] => 0
  | x :: r => bulkEntryD x + bulkEntriesD r
def bulkEntryD {H : Type} : Lit × DataW H → Nat
  | (.string bytes, d) => bytes.length + bulkD d + 1
  | (_, d) => bulkD d + 1
end
section
variable {H : Type} {enc : TypeId × Value → H} {w : World} {sp : Nat → Bool} {held : Bool} {g : G} {M : Nat}
end
end Go.Am


set_option linter.unusedVariables false
set_option linter.unusedSimpArgs false
set_option maxRecDepth 10000
namespace Go.Am.T
attribute [local congr] selV_congr impB_congr
attribute [local irreducible] sx wp
end Go.Am.T


set_option linter.unusedVariables false
set_option linter.unusedSimpArgs false
set_option maxRecDepth 10000
namespace Go.Am.T
attribute [local congr] selV_congr impB_congr
attribute [local irreducible] sx wp
end Go.Am.T


set_option linter.unusedVariables false
set_option linter.unusedSimpArgs false
set_option maxRecDepth 10000
namespace Go.Am.T
attribute [local congr] selV_congr impB_congr
attribute [local irreducible] sx wp
theorem Two.other {H H' : Heap} {d so r s e d2 so2 r2 s2 e2 : Nat} {B : Dv} (hB : Two H d2 so2 r2 s2 e2 B) (hap : ∀ p ∈ [d2, so2, r2, s2, e2], p ∉ [d, so, r, s, e])
    (hk : ∀ p, p < H.length → p ≠ d → p ≠ so → p ≠ r → p ≠ s → p ≠ e → H'[p]? = H[p]?) : Two H' d2 so2 r2 s2 e2 B := by
  obtain ⟨m1, m2⟩ := hB.da.lt
  obtain ⟨m3, m4, m5⟩ := hB.ra.lt
  have key : ∀ p ∈ [d2, so2, r2, s2, e2], p < H.length → H'[p]? = H[p]? := fun p hp hl => by
    have := hap p hp
    simp only [List.mem_cons, List.not_mem_nil, or_false, not_or] at this
    exact hk p hl this.1 this.2.1 this.2.2.1 this.2.2.2.1 this.2.2.2.2
  refine ⟨hB.da.keep fun p hp => ?_, hB.ra.keep fun p hp => ?_, hB.nrd, hB.nro, hB.nsd, hB.nso, hB.ned, hB.neo⟩
  · rcases hp with rfl | rfl
    · exact key _ (by simp) m1
    · exact key _ (by simp) m2
  · rcases hp with rfl | rfl | rfl
    · exact key _ (by simp) m3
    · exact key _ (by simp) m4
    · exact key _ (by simp) m5
structure Four (H : Heap) (d so r s e : Nat) (A : Dv) (d2 so2 r2 s2 e2 : Nat) (B : Dv) : Prop where
  a : Two H d so r s e A
  b : Two H d2 so2 r2 s2 e2 B
  ap : ∀ p ∈ [d2, so2, r2, s2, e2], p ∉ [d, so, r, s, e]
theorem Four.app {H : Heap} {d so r s e d2 so2 r2 s2 e2 : Nat} {A B : Dv} (h : Four H d so r s e A d2 so2 r2 s2 e2 B) (l : Heap) : Four (H ++ l) d so r s e A d2 so2 r2 s2 e2 B := ⟨h.a.app l, h.b.app l, h.ap⟩
theorem Four.step {H H' : Heap} {d so r s e d2 so2 r2 s2 e2 : Nat} {A B : Dv} (h : Four H d so r s e A d2 so2 r2 s2 e2 B) {v : V} (hs : Stepped H H' d so r s e A v) :
    ∃ d' so' r' s' e' A', v = .tup [.ptr d' 1 0, .ptr r' 1 0, .bool true] ∧ Four H' d' so' r' s' e' A' d2 so2 r2 s2 e2 B := by
  obtain ⟨d', so', r', s', e', A', rfl, hT, -, hl, hk, hq⟩ := hs
  refine ⟨d', so', r', s', e', A', rfl, hT, h.b.other h.ap hk, fun p hp hp' => ?_⟩
  obtain ⟨m1, m2⟩ := h.b.da.lt
  obtain ⟨m3, m4, m5⟩ := h.b.ra.lt
  have hlt : p < H.length := by
    simp only [List.mem_cons, List.not_mem_nil, or_false] at hp
    rcases hp with rfl | rfl | rfl | rfl | rfl <;> assumption
  rcases hq p hp' with h1 | h1
  · exact h.ap p hp h1
  · omega
end Go.Am.T


set_option linter.unusedVariables false
set_option linter.unusedSimpArgs false
set_option maxRecDepth 10000
namespace Go.Am.T
attribute [local congr] selV_congr impB_congr
attribute [local irreducible] sx wp
end Go.Am.T


set_option linter.unusedVariables false
set_option linter.unusedSimpArgs false
set_option maxRecDepth 10000
namespace Go.Am.T
attribute [local congr] selV_congr impB_congr
attribute [local irreducible] sx wp
def eH : ACode := (.seq (.seq (.region [⟨some 93, (.move (.tmp 10)), none⟩, ⟨some 94, (.un .not (.tmp 93)), none⟩]) (.clr [93, 10])) (.cond (.tmp 94) (.seq (.clr [94, 7, 2, 1]) (.seq (.region [⟨some 6, (.move (.cst (.bool false))), none⟩]) .ret)) (.seq (.clr [94]) .skip)))
def eI : ACode := (.seq (.region [⟨some 95, (.move (.tmp 7)), none⟩, ⟨some 96, (.call 20 [(.tmp 95)]), none⟩]) (.clr [96, 95]))
def eJ : ACode := (.seq (.region [⟨some 98, (.move (.tmp 7)), none⟩, ⟨some 99, (.call 19 [(.tmp 98), (.cst (.int .i64 0))]), none⟩, ⟨some 97, (.move (.tmp 99)), none⟩, ⟨some 100, (.extract (.tmp 97) 0), none⟩, ⟨some 101, (.extract (.tmp 97) 1), none⟩, ⟨some 16, (.move (.tmp 100)), none⟩, ⟨some 17, (.move (.tmp 101)), none⟩]) (.clr [101, 100, 99, 98, 97, 17]))
def eK : ACode := (.seq (.region [⟨some 102, (.move (.tmp 7)), none⟩, ⟨some 103, (.call 21 [(.tmp 102)]), none⟩, ⟨some 18, (.move (.tmp 103)), none⟩]) (.clr [103, 102]))
def eL : ACode := (.seq (.seq (.region [⟨some 104, (.move (.tmp 16)), none⟩, ⟨some 105, (.bin .gtr (.tmp 104) (.cst (.int .i64 0))), none⟩, ⟨some 106, (.move (.tmp 105)), none⟩, ⟨some 107, (.move (.tmp 7)), some (106, true)⟩, ⟨some 108, (.move (.tmp 16)), some (106, true)⟩, ⟨some 109, (.bin .sub (.tmp 108) (.cst (.int .i64 1))), some (106, true)⟩, ⟨some 110, (.call 23 [(.cst (.int .u8 1))]), some (106, true)⟩, ⟨some 111, (.bslice [(.int .u8 0), (.int .u8 0), (.int .u8 0), (.int .u8 0), (.int .u8 0), (.int .u8 0), (.int .u8 0), (.int .u8 0), (.int .u8 0), (.int .u8 0), (.int .u8 0), (.int .u8 0), (.int .u8 0), (.int .u8 0), (.int .u8 0), (.int .u8 0), (.int .u8 0), (.int .u8 0), (.int .u8 0), (.int .u8 0), (.int .u8 0), (.int .u8 0), (.int .u8 0), (.int .u8 0), (.int .u8 0), (.int .u8 0), (.int .u8 0), (.int .u8 0), (.int .u8 0), (.int .u8 0), (.int .u8 0), (.int .u8 0), (.int .u8 0), (.int .u8 0), (.int .u8 0), (.int .u8 0), (.int .u8 0), (.int .u8 0), (.int .u8 0), (.int .u8 0), (.int .u8 0), (.int .u8 0), (.int .u8 0), (.int .u8 0), (.int .u8 0), (.int .u8 0), (.int .u8 0), (.int .u8 0), (.int .u8 0), (.int .u8 0), (.int .u8 0), (.int .u8 0), (.int .u8 0), (.int .u8 0), (.int .u8 0), (.int .u8 0), (.int .u8 0), (.int .u8 0), (.int .u8 0), (.int .u8 0), (.int .u8 0), (.int .u8 0), (.int .u8 0), (.int .u8 0)] 1 64 [(0, 64, (.tmp 110))]), some (106, true)⟩, ⟨some 112, (.call 22 [(.tmp 107), (.cst (.int .i64 0)), (.tmp 109), (.cst (.int .i64 0)), (.tmp 111)]), some (106, true)⟩, ⟨some 113, (.call 11 [(.tmp 112)]), some (106, true)⟩, ⟨some 114, (.bin .neq (.tmp 113) (.cst (.int .i64 8))), some (106, true)⟩, ⟨some 115, (.pick (.tmp 106) (.tmp 114) (.cst (.bool false))), none⟩, ⟨some 116, (.move (.tmp 115)), none⟩, ⟨some 117, (.move (.tmp 16)), some (116, false)⟩, ⟨some 118, (.bin .gtr (.tmp 117) (.cst (.int .i64 0))), some (116, false)⟩, ⟨some 119, (.move (.tmp 118)), some (116, false)⟩, ⟨some 120, (.move (.tmp 7)), some (119, true)⟩, ⟨some 121, (.move (.tmp 16)), some (119, true)⟩, ⟨some 122, (.bin .sub (.tmp 121) (.cst (.int .i64 1))), some (119, true)⟩, ⟨some 123, (.call 24 [(.tmp 120), (.cst (.int .i64 0)), (.tmp 122), (.cst (.int .i64 1)), (.cst (.int .i64 9))]), some (119, true)⟩, ⟨some 124, (.call 11 [(.tmp 123)]), some (119, true)⟩, ⟨some 125, (.bin .neq (.tmp 124) (.cst (.int .i64 8))), some (119, true)⟩, ⟨some 126, (.pick (.tmp 119) (.tmp 125) (.cst (.bool false))), some (116, false)⟩, ⟨some 127, (.pick (.tmp 116) (.cst (.bool true)) (.tmp 126)), none⟩, ⟨some 128, (.move (.tmp 127)), none⟩, ⟨some 129, (.move (.tmp 7)), some (128, false)⟩, ⟨some 130, (.move (.tmp 18)), some (128, false)⟩, ⟨some 131, (.call 17 [(.tmp 129), (.tmp 130)]), some (128, false)⟩, ⟨some 132, (.un .not (.tmp 131)), some (128, false)⟩, ⟨some 133, (.pick (.tmp 128) (.cst (.bool true)) (.tmp 132)), none⟩]) (.clr [132, 131, 130, 129, 128, 127, 126, 125, 124, 123, 122, 121, 120, 119, 118, 117, 116, 115, 114, 113, 112, 111, 110, 109, 108, 107, 106, 105, 104])) (.cond (.tmp 133) (.seq (.clr [133, 18, 16, 7, 2, 1]) (.seq (.region [⟨some 6, (.move (.cst (.bool false))), none⟩]) .ret)) (.seq (.clr [133]) .skip)))
def eM : ACode := (.seq (.seq (.region [⟨some 134, (.move (.tmp 7)), none⟩, ⟨some 135, (.move (.tmp 2)), none⟩, ⟨some 136, (.call 25 [(.tmp 134), (.tmp 135)]), none⟩, ⟨some 137, (.call 11 [(.tmp 136)]), none⟩, ⟨some 138, (.bin .neq (.tmp 137) (.cst (.int .i64 0))), none⟩, ⟨some 139, (.move (.tmp 138)), none⟩, ⟨some 140, (.move (.tmp 7)), some (139, false)⟩, ⟨some 141, (.move (.tmp 16)), some (139, false)⟩, ⟨some 142, (.move (.tmp 1)), some (139, false)⟩, ⟨some 143, (.call 22 [(.tmp 140), (.cst (.int .i64 0)), (.tmp 141), (.cst (.int .i64 0)), (.tmp 142)]), some (139, false)⟩, ⟨some 144, (.call 11 [(.tmp 143)]), some (139, false)⟩, ⟨some 145, (.bin .neq (.tmp 144) (.cst (.int .i64 0))), some (139, false)⟩, ⟨some 146, (.pick (.tmp 139) (.cst (.bool true)) (.tmp 145)), none⟩, ⟨some 147, (.move (.tmp 146)), none⟩, ⟨some 148, (.move (.tmp 7)), some (147, false)⟩, ⟨some 149, (.call 20 [(.tmp 148)]), some (147, false)⟩, ⟨some 150, (.move (.tmp 1)), some (147, false)⟩, ⟨some 151, (.lenS (.tmp 150)), some (147, false)⟩, ⟨some 152, (.move (.tmp 2)), some (147, false)⟩, ⟨some 153, (.bin .leq (.tmp 151) (.tmp 152)), some (147, false)⟩, ⟨some 154, (.eqc true false [.b] (.tmp 149) (.tmp 153)), some (147, false)⟩, ⟨some 155, (.pick (.tmp 147) (.cst (.bool true)) (.tmp 154)), none⟩]) (.clr [154, 153, 152, 151, 150, 149, 148, 147, 146, 145, 144, 143, 142, 141, 140, 139, 138, 137, 136, 135, 134, 16])) (.cond (.tmp 155) (.seq (.clr [155, 18, 7, 2, 1]) (.seq (.region [⟨some 6, (.move (.cst (.bool false))), none⟩]) .ret)) (.seq (.clr [155]) .skip)))
def eZ : ACode := (.seq (.seq (.region [⟨some 19, (.move (.cst (.int .i64 0))), none⟩]) (.block 4 (.loop [] [] (.seq (.seq (.seq (.region [⟨some 156, (.move (.tmp 19)), none⟩, ⟨some 157, (.bin .lss (.tmp 156) (.cst (.int .i64 40))), none⟩]) (.clr [156])) (.cond (.tmp 157) (.seq (.clr [157]) .skip) (.seq (.clr [157, 19, 18, 7, 2, 1]) (.exit 4)))) (.seq (.block 5 (.seq (.seq (.region [⟨some 161, (.move (.tmp 7)), none⟩, ⟨some 162, (.move (.tmp 19)), none⟩, ⟨some 163, (.call 26 [(.tmp 161), (.tmp 162)]), none⟩, ⟨some 160, (.move (.tmp 163)), none⟩, ⟨some 164, (.extract (.tmp 160) 0), none⟩, ⟨some 165, (.extract (.tmp 160) 1), none⟩, ⟨some 20, (.allocz 1 [(.int .u8 0), (.int .u8 0), (.int .u8 0), (.int .u8 0), (.int .u8 0), (.int .u8 0), (.int .u8 0), (.int .u8 0), (.int .u8 0), (.int .u8 0), (.int .u8 0), (.int .u8 0), (.int .u8 0), (.int .u8 0), (.int .u8 0), (.int .u8 0), (.int .u8 0), (.int .u8 0), (.int .u8 0), (.int .u8 0), (.int .u8 0), (.int .u8 0), (.int .u8 0), (.int .u8 0), (.int .u8 0), (.int .u8 0), (.int .u8 0), (.int .u8 0), (.int .u8 0), (.int .u8 0), (.int .u8 0), (.int .u8 0), (.int .u8 0), (.int .u8 0), (.int .u8 0), (.int .u8 0), (.int .u8 0), (.int .u8 0), (.int .u8 0), (.int .u8 0), (.int .u8 0), (.int .u8 0), (.int .u8 0), (.int .u8 0), (.int .u8 0), (.int .u8 0), (.int .u8 0), (.int .u8 0), (.int .u8 0), (.int .u8 0), (.int .u8 0), (.int .u8 0), (.int .u8 0), (.int .u8 0), (.int .u8 0), (.int .u8 0), (.int .u8 0), (.int .u8 0), (.int .u8 0), (.int .u8 0), (.int .u8 0), (.int .u8 0), (.int .u8 0), (.int .u8 0)]), none⟩, ⟨none, (.store 64 (.tmp 20) (.tmp 164)), none⟩, ⟨some 21, (.move (.tmp 165)), none⟩]) (.clr [165, 164, 163, 162, 161, 160, 21])) (.seq (.seq (.region [⟨some 167, (.move (.tmp 18)), none⟩, ⟨some 168, (.move (.tmp 19)), none⟩, ⟨some 169, (.call 26 [(.tmp 167), (.tmp 168)]), none⟩, ⟨some 166, (.move (.tmp 169)), none⟩, ⟨some 170, (.extract (.tmp 166) 0), none⟩, ⟨some 171, (.extract (.tmp 166) 1), none⟩, ⟨some 22, (.allocz 2 [(.int .u8 0), (.int .u8 0), (.int .u8 0), (.int .u8 0), (.int .u8 0), (.int .u8 0), (.int .u8 0), (.int .u8 0), (.int .u8 0), (.int .u8 0), (.int .u8 0), (.int .u8 0), (.int .u8 0), (.int .u8 0), (.int .u8 0), (.int .u8 0), (.int .u8 0), (.int .u8 0), (.int .u8 0), (.int .u8 0), (.int .u8 0), (.int .u8 0), (.int .u8 0), (.int .u8 0), (.int .u8 0), (.int .u8 0), (.int .u8 0), (.int .u8 0), (.int .u8 0), (.int .u8 0), (.int .u8 0), (.int .u8 0), (.int .u8 0), (.int .u8 0), (.int .u8 0), (.int .u8 0), (.int .u8 0), (.int .u8 0), (.int .u8 0), (.int .u8 0), (.int .u8 0), (.int .u8 0), (.int .u8 0), (.int .u8 0), (.int .u8 0), (.int .u8 0), (.int .u8 0), (.int .u8 0), (.int .u8 0), (.int .u8 0), (.int .u8 0), (.int .u8 0), (.int .u8 0), (.int .u8 0), (.int .u8 0), (.int .u8 0), (.int .u8 0), (.int .u8 0), (.int .u8 0), (.int .u8 0), (.int .u8 0), (.int .u8 0), (.int .u8 0), (.int .u8 0)]), none⟩, ⟨none, (.store 64 (.tmp 22) (.tmp 170)), none⟩, ⟨some 23, (.move (.tmp 171)), none⟩]) (.clr [171, 170, 169, 168, 167, 166, 23])) (.seq (.seq (.seq (.region [⟨some 172, (.move (.tmp 19)), none⟩, ⟨some 173, (.move (.tmp 1)), none⟩, ⟨some 174, (.lenS (.tmp 173)), none⟩, ⟨some 175, (.bin .lss (.tmp 172) (.tmp 174)), none⟩, ⟨some 176, (.move (.tmp 175)), none⟩, ⟨some 177, (.move (.tmp 19)), some (176, true)⟩, ⟨some 178, (.move (.tmp 2)), some (176, true)⟩, ⟨some 179, (.bin .lss (.tmp 177) (.tmp 178)), some (176, true)⟩, ⟨some 180, (.pick (.tmp 176) (.tmp 179) (.cst (.bool false))), none⟩]) (.clr [179, 178, 177, 176, 175, 174, 173, 172])) (.cond (.tmp 180) (.seq (.clr [180]) (.seq (.region [⟨some 181, (.move (.tmp 1)), none⟩, ⟨some 182, (.move (.tmp 19)), none⟩, ⟨some 183, (.iaddrS 64 (.tmp 181) (.tmp 182)), none⟩, ⟨some 184, (.load (some 64) (.tmp 183)), none⟩, ⟨none, (.store 64 (.tmp 22) (.tmp 184)), none⟩]) (.clr [184, 183, 182, 181]))) (.seq (.clr [180]) .skip))) (.seq (.seq (.region [⟨some 185, (.load (some 64) (.tmp 20)), none⟩, ⟨some 186, (.load (some 64) (.tmp 22)), none⟩, ⟨some 187, (.eqc true true [(.i .u8), (.i .u8), (.i .u8), (.i .u8), (.i .u8), (.i .u8), (.i .u8), (.i .u8), (.i .u8), (.i .u8), (.i .u8), (.i .u8), (.i .u8), (.i .u8), (.i .u8), (.i .u8), (.i .u8), (.i .u8), (.i .u8), (.i .u8), (.i .u8), (.i .u8), (.i .u8), (.i .u8), (.i .u8), (.i .u8), (.i .u8), (.i .u8), (.i .u8), (.i .u8), (.i .u8), (.i .u8), (.i .u8), (.i .u8), (.i .u8), (.i .u8), (.i .u8), (.i .u8), (.i .u8), (.i .u8), (.i .u8), (.i .u8), (.i .u8), (.i .u8), (.i .u8), (.i .u8), (.i .u8), (.i .u8), (.i .u8), (.i .u8), (.i .u8), (.i .u8), (.i .u8), (.i .u8), (.i .u8), (.i .u8), (.i .u8), (.i .u8), (.i .u8), (.i .u8), (.i .u8), (.i .u8), (.i .u8), (.i .u8)] (.tmp 185) (.tmp 186)), none⟩]) (.clr [186, 185, 22, 20])) (.cond (.tmp 187) (.seq (.clr [187, 19, 18, 7, 2, 1]) (.seq (.region [⟨some 6, (.move (.cst (.bool false))), none⟩]) .ret)) (.seq (.clr [187]) .skip))))))) (.seq (.region [⟨some 158, (.move (.tmp 19)), none⟩, ⟨some 159, (.bin .add (.tmp 158) (.cst (.int .i64 1))), none⟩, ⟨some 19, (.move (.tmp 159)), none⟩]) (.clr [159, 158]))))))) (.seq (.region [⟨some 6, (.move (.cst (.bool true))), none⟩]) .ret))
end Go.Am.T


set_option linter.unusedVariables false
set_option linter.unusedSimpArgs false
set_option maxRecDepth 10000
namespace Go.Am.T
attribute [local congr] selV_congr impB_congr
attribute [local irreducible] sx wp eZ
end Go.Am.T


set_option linter.unusedVariables false
set_option linter.unusedSimpArgs false
set_option maxRecDepth 10000
namespace Go.Am.T
attribute [local congr] selV_congr impB_congr
attribute [local irreducible] sx wp
def eT : ACode := .seq eH (.seq eI (.seq eJ (.seq eK (.seq eL (.seq eM eZ)))))
attribute [local irreducible] eT
end Go.Am.T


set_option linter.unusedVariables false
set_option linter.unusedSimpArgs false
set_option maxRecDepth 10000
namespace Go.Am.T
attribute [local congr] selV_congr impB_congr
attribute [local irreducible] sx wp
def zc : List V := [.nils, .int .i64 0, .int .i64 0, .int .i64 0, .int .i64 0, .int .i64 0, .int .i64 0, .int .i64 0, .int .i64 0, .int .i64 0, .bool false, .int .i64 0, .bool false, .int .i64 0]
def Off (H : Heap) (x : V) : Prop := x = .nilp ∨ ∃ z, x = .ptr z 1 0 ∧ H[z]? = some ⟨1, .var zc⟩
def OffS (x : V) : Prop := x = .nilp ∨ x = .iptr zc 0
def OffA (H : Heap) (x : V) : Prop := ∃ y, V.shut (fun o => H[o]?) sealDepth x = some y ∧ OffS y
theorem Off.app {H : Heap} {x : V} (h : Off H x) (l : Heap) : Off (H ++ l) x := by
  rcases h with h | ⟨z, h, hz⟩
  · exact .inl h
  · exact .inr ⟨z, h, by rw [List.getElem?_append_left (lt_of_get hz)]; exact hz⟩
theorem zc_free : V.freeL zc = true := rfl
theorem Off.a {H : Heap} {x : V} (h : Off H x) : OffA H x := by
  rcases h with rfl | ⟨z, rfl, hz⟩
  · exact ⟨.nilp, rfl, .inl rfl⟩
  · refine ⟨.iptr zc 0, ?_, .inr rfl⟩
    have e : V.shut (fun o => H[o]?) sealDepth (.ptr z 1 0) = match cellsAt (fun o => H[o]?) z 1 with
      | some all => (all.mapM (V.shut (fun o => H[o]?) 63)).map fun cs => .iptr cs 0
      | none => none := rfl
    have hc : cellsAt (fun o => H[o]?) z 1 = some zc := by simp only [cellsAt, hz, ↓reduceIte]
    rw [e, hc]
    simp only
    rw [mapM_self fun y hy => shut_plain (d := 62) (freeL_mem zc_free y hy)]
    rfl
theorem OffS.a {H : Heap} {x : V} (h : OffS x) : OffA H x := by
  refine ⟨x, ?_, h⟩
  rcases h with rfl | rfl
  · rfl
  · exact shut_plain (d := 63) (show V.freeL zc = true from rfl)
theorem off_args1 {H : Heap} {x : V} (h : OffA H x) : ∃ y, OffS y ∧ [x].mapM (V.shut (fun o => H[o]?) sealDepth) = some [y] := by
  obtain ⟨y, e, hy⟩ := h
  exact ⟨y, hy, by rw [List.mapM_cons, e]; rfl⟩
theorem off_args2 {H : Heap} {x : V} (h : OffA H x) (i : Int) : ∃ y, OffS y ∧ [x, .int .i64 i].mapM (V.shut (fun o => H[o]?) sealDepth) = some [y, .int .i64 i] := by
  obtain ⟨y, e, hy⟩ := h
  exact ⟨y, hy, by rw [List.mapM_cons, e]; rfl⟩
theorem off_args3 {H : Heap} {x : V} (h : OffA H x) (i j : Int) : ∃ y, OffS y ∧ [x, .int .i64 i, .int .i64 j].mapM (V.shut (fun o => H[o]?) sealDepth) = some [y, .int .i64 i, .int .i64 j] := by
  obtain ⟨y, e, hy⟩ := h
  exact ⟨y, hy, by rw [List.mapM_cons, e]; rfl⟩
section
variable {N n : Nat} {H : Heap} {x : V} (h : OffA H x)
include h
theorem there_off (hn : 1 ≤ n) : callA am N n 48 [x] H = some (.bool false, H) := by
  obtain ⟨n, rfl⟩ : ∃ m, n = m + 1 := ⟨n - 1, by omega⟩
  obtain ⟨y, hy, ha⟩ := off_args1 h
  refine call_look at48 rfl rfl (by decide) ha (sx_wp ?_)
  have g : decide ((0 : Int) > 0) = false := by decide
  rcases hy with rfl | rfl
  · simp +contextual -implicitDefEqProofs (maxSteps := 10000000) only [sxb, plainD, stays, ↓selV_wt, ↓selV_wf, ↓impB_wt, ↓impB_wf, ↓selV_nor, ↓impB_nor, ↓selV_nt, ↓selV_nf, ↓impB_nt, ↓impB_nf, ↓selV_true, ↓selV_false, ↓selV_and, ↓impB_true, ↓impB_false, ↓impB_and, ↓prim_pick, ↓selV_nn, ↓impB_nn, doOp, get, ins, del, dels, Nat.reduceLT, Nat.reduceEqDiff, ↓reduceIte, reduceCtorEq, ne_eq, implies_true, prim, YLD, mkA, V.cells, Nat.reduceAdd, Nat.reduceSub, Nat.reduceMul, Nat.reduceLeDiff, loadA, cellsAt, nAg, packA, List.drop, List.take, List.head?, binA, unA, eqCells, eqCell, negB, fillA, storeA, Ob.with, indexedI, V.oneCell, intOf?, resA, resA1, packR, sealDepth, Int.reduceLT, Int.reduceLE, Int.reduceToNat, Int.reduceNeg, Int.reduceAdd, Int.reduceSub, Int.reduceMul, cond_true, cond_false, Int.reduceBNe, Int.reduceBEq, eq_self, deads, List.replicate, argsF, am48, isNil, plain_bool]
  · unfold zc
    simp +contextual -implicitDefEqProofs (maxSteps := 10000000) only [sxb, plainD, stays, ↓selV_wt, ↓selV_wf, ↓impB_wt, ↓impB_wf, ↓selV_nor, ↓impB_nor, ↓selV_nt, ↓selV_nf, ↓impB_nt, ↓impB_nf, ↓selV_true, ↓selV_false, ↓selV_and, ↓impB_true, ↓impB_false, ↓impB_and, ↓prim_pick, ↓selV_nn, ↓impB_nn, doOp, get, ins, del, dels, Nat.reduceLT, Nat.reduceEqDiff, ↓reduceIte, reduceCtorEq, ne_eq, implies_true, prim, YLD, mkA, V.cells, Nat.reduceAdd, Nat.reduceSub, Nat.reduceMul, Nat.reduceLeDiff, loadA, cellsAt, nAg, packA, List.drop, List.take, List.head?, binA, unA, eqCells, eqCell, negB, fillA, storeA, Ob.with, indexedI, V.oneCell, intOf?, resA, resA1, packR, sealDepth, Int.reduceLT, Int.reduceLE, Int.reduceToNat, Int.reduceNeg, Int.reduceAdd, Int.reduceSub, Int.reduceMul, cond_true, cond_false, Int.reduceBNe, Int.reduceBEq, eq_self, deads, List.replicate, argsF, am48, isNil, g, plain_bool]
end
section
variable {N n : Nat} {H : Heap} {x : V} (h : OffA H x)
include h
theorem size_off (hn : 2 ≤ n) : callA am N n 32 [x] H = some (.int .i64 0, H) := by
  obtain ⟨n, rfl⟩ : ∃ m, n = m + 1 := ⟨n - 1, by omega⟩
  obtain ⟨y, hy, ha⟩ := off_args1 h
  have c48 := fun H => @there_off N n H y hy.a (by omega)
  refine call_look at32 rfl rfl (by decide) ha (sx_wp ?_)
  simp +contextual -implicitDefEqProofs (maxSteps := 10000000) only [sxb, plainD, stays, ↓selV_wt, ↓selV_wf, ↓impB_wt, ↓impB_wf, ↓selV_nor, ↓impB_nor, ↓selV_nt, ↓selV_nf, ↓impB_nt, ↓impB_nf, ↓selV_true, ↓selV_false, ↓selV_and, ↓impB_true, ↓impB_false, ↓impB_and, ↓prim_pick, ↓selV_nn, ↓impB_nn, doOp, get, ins, del, dels, Nat.reduceLT, Nat.reduceEqDiff, ↓reduceIte, reduceCtorEq, ne_eq, implies_true, prim, YLD, mkA, V.cells, Nat.reduceAdd, Nat.reduceSub, Nat.reduceMul, Nat.reduceLeDiff, loadA, cellsAt, nAg, packA, List.drop, List.take, List.head?, binA, unA, eqCells, eqCell, negB, fillA, storeA, Ob.with, indexedI, V.oneCell, intOf?, resA, resA1, packR, sealDepth, Int.reduceLT, Int.reduceLE, Int.reduceToNat, Int.reduceNeg, Int.reduceAdd, Int.reduceSub, Int.reduceMul, cond_true, cond_false, Int.reduceBNe, Int.reduceBEq, eq_self, deads, List.replicate, argsF, am32, isNil, c48, plain_int]
theorem nodes_off (hn : 2 ≤ n) : callA am N n 33 [x] H = some (.int .i64 0, H) := by
  obtain ⟨n, rfl⟩ : ∃ m, n = m + 1 := ⟨n - 1, by omega⟩
  obtain ⟨y, hy, ha⟩ := off_args1 h
  have c48 := fun H => @there_off N n H y hy.a (by omega)
  refine call_look at33 rfl rfl (by decide) ha (sx_wp ?_)
  simp +contextual -implicitDefEqProofs (maxSteps := 10000000) only [sxb, plainD, stays, ↓selV_wt, ↓selV_wf, ↓impB_wt, ↓impB_wf, ↓selV_nor, ↓impB_nor, ↓selV_nt, ↓selV_nf, ↓impB_nt, ↓impB_nf, ↓selV_true, ↓selV_false, ↓selV_and, ↓impB_true, ↓impB_false, ↓impB_and, ↓prim_pick, ↓selV_nn, ↓impB_nn, doOp, get, ins, del, dels, Nat.reduceLT, Nat.reduceEqDiff, ↓reduceIte, reduceCtorEq, ne_eq, implies_true, prim, YLD, mkA, V.cells, Nat.reduceAdd, Nat.reduceSub, Nat.reduceMul, Nat.reduceLeDiff, loadA, cellsAt, nAg, packA, List.drop, List.take, List.head?, binA, unA, eqCells, eqCell, negB, fillA, storeA, Ob.with, indexedI, V.oneCell, intOf?, resA, resA1, packR, sealDepth, Int.reduceLT, Int.reduceLE, Int.reduceToNat, Int.reduceNeg, Int.reduceAdd, Int.reduceSub, Int.reduceMul, cond_true, cond_false, Int.reduceBNe, Int.reduceBEq, eq_self, deads, List.replicate, argsF, am33, isNil, c48, plain_int]
theorem done_off (hn : 2 ≤ n) : callA am N n 34 [x] H = some (.int .i64 0, H) := by
  obtain ⟨n, rfl⟩ : ∃ m, n = m + 1 := ⟨n - 1, by omega⟩
  obtain ⟨y, hy, ha⟩ := off_args1 h
  have c48 := fun H => @there_off N n H y hy.a (by omega)
  refine call_look at34 rfl rfl (by decide) ha (sx_wp ?_)
  simp +contextual -implicitDefEqProofs (maxSteps := 10000000) only [sxb, plainD, stays, ↓selV_wt, ↓selV_wf, ↓impB_wt, ↓impB_wf, ↓selV_nor, ↓impB_nor, ↓selV_nt, ↓selV_nf, ↓impB_nt, ↓impB_nf, ↓selV_true, ↓selV_false, ↓selV_and, ↓impB_true, ↓impB_false, ↓impB_and, ↓prim_pick, ↓selV_nn, ↓impB_nn, doOp, get, ins, del, dels, Nat.reduceLT, Nat.reduceEqDiff, ↓reduceIte, reduceCtorEq, ne_eq, implies_true, prim, YLD, mkA, V.cells, Nat.reduceAdd, Nat.reduceSub, Nat.reduceMul, Nat.reduceLeDiff, loadA, cellsAt, nAg, packA, List.drop, List.take, List.head?, binA, unA, eqCells, eqCell, negB, fillA, storeA, Ob.with, indexedI, V.oneCell, intOf?, resA, resA1, packR, sealDepth, Int.reduceLT, Int.reduceLE, Int.reduceToNat, Int.reduceNeg, Int.reduceAdd, Int.reduceSub, Int.reduceMul, cond_true, cond_false, Int.reduceBNe, Int.reduceBEq, eq_self, deads, List.replicate, argsF, am34, isNil, c48, plain_int]
theorem epoch_off (hn : 2 ≤ n) (i : Int) : callA am N n 19 [x, .int .i64 i] H = some (.tup [.int .i64 0, .int .i64 1], H) := by
  obtain ⟨n, rfl⟩ : ∃ m, n = m + 1 := ⟨n - 1, by omega⟩
  obtain ⟨y, hy, ha⟩ := off_args2 h i
  have c48 := fun H => @there_off N n H y hy.a (by omega)
  refine call_look at19 rfl rfl (by decide) ha (sx_wp ?_)
  simp +contextual -implicitDefEqProofs (maxSteps := 10000000) only [sxb, plainD, stays, ↓selV_wt, ↓selV_wf, ↓impB_wt, ↓impB_wf, ↓selV_nor, ↓impB_nor, ↓selV_nt, ↓selV_nf, ↓impB_nt, ↓impB_nf, ↓selV_true, ↓selV_false, ↓selV_and, ↓impB_true, ↓impB_false, ↓impB_and, ↓prim_pick, ↓selV_nn, ↓impB_nn, doOp, get, ins, del, dels, Nat.reduceLT, Nat.reduceEqDiff, ↓reduceIte, reduceCtorEq, ne_eq, implies_true, prim, YLD, mkA, V.cells, Nat.reduceAdd, Nat.reduceSub, Nat.reduceMul, Nat.reduceLeDiff, loadA, cellsAt, nAg, packA, List.drop, List.take, List.head?, binA, unA, eqCells, eqCell, negB, fillA, storeA, Ob.with, indexedI, V.oneCell, intOf?, resA, resA1, packR, sealDepth, Int.reduceLT, Int.reduceLE, Int.reduceToNat, Int.reduceNeg, Int.reduceAdd, Int.reduceSub, Int.reduceMul, cond_true, cond_false, Int.reduceBNe, Int.reduceBEq, eq_self, deads, List.replicate, argsF, am19, isNil, c48]
  rfl
theorem read_off (hn : 2 ≤ n) (i : Int) : callA am N n 26 [x, .int .i64 i] H = some (.tup [secV zeroS, .int .i64 1], H) := by
  obtain ⟨n, rfl⟩ : ∃ m, n = m + 1 := ⟨n - 1, by omega⟩
  obtain ⟨y, hy, ha⟩ := off_args2 h i
  have c48 := fun H => @there_off N n H y hy.a (by omega)
  refine call_look at26 rfl rfl (by decide) ha (sx_wp ?_)
  simp +contextual -implicitDefEqProofs (maxSteps := 10000000) only [sxb, plainD, stays, ↓selV_wt, ↓selV_wf, ↓impB_wt, ↓impB_wf, ↓selV_nor, ↓impB_nor, ↓selV_nt, ↓selV_nf, ↓impB_nt, ↓impB_nf, ↓selV_true, ↓selV_false, ↓selV_and, ↓impB_true, ↓impB_false, ↓impB_and, ↓prim_pick, ↓selV_nn, ↓impB_nn, doOp, get, ins, del, dels, Nat.reduceLT, Nat.reduceEqDiff, ↓reduceIte, reduceCtorEq, ne_eq, implies_true, prim, YLD, mkA, V.cells, Nat.reduceAdd, Nat.reduceSub, Nat.reduceMul, Nat.reduceLeDiff, loadA, cellsAt, nAg, packA, List.drop, List.take, List.head?, binA, unA, eqCells, eqCell, negB, fillA, storeA, Ob.with, indexedI, V.oneCell, intOf?, resA, resA1, packR, sealDepth, Int.reduceLT, Int.reduceLE, Int.reduceToNat, Int.reduceNeg, Int.reduceAdd, Int.reduceSub, Int.reduceMul, cond_true, cond_false, Int.reduceBNe, Int.reduceBEq, eq_self, deads, List.replicate, argsF, am26, isNil, c48]
  exact ⟨rfl, rfl⟩
theorem fenced_off (hn : 2 ≤ n) (i j : Int) : callA am N n 38 [x, .int .i64 i, .int .i64 j] H = some (.bool false, H) := by
  obtain ⟨n, rfl⟩ : ∃ m, n = m + 1 := ⟨n - 1, by omega⟩
  obtain ⟨y, hy, ha⟩ := off_args3 h i j
  have c48 := fun H => @there_off N n H y hy.a (by omega)
  refine call_look at38 rfl rfl (by decide) ha (sx_wp ?_)
  simp +contextual -implicitDefEqProofs (maxSteps := 10000000) only [sxb, plainD, stays, ↓selV_wt, ↓selV_wf, ↓impB_wt, ↓impB_wf, ↓selV_nor, ↓impB_nor, ↓selV_nt, ↓selV_nf, ↓impB_nt, ↓impB_nf, ↓selV_true, ↓selV_false, ↓selV_and, ↓impB_true, ↓impB_false, ↓impB_and, ↓prim_pick, ↓selV_nn, ↓impB_nn, doOp, get, ins, del, dels, Nat.reduceLT, Nat.reduceEqDiff, ↓reduceIte, reduceCtorEq, ne_eq, implies_true, prim, YLD, mkA, V.cells, Nat.reduceAdd, Nat.reduceSub, Nat.reduceMul, Nat.reduceLeDiff, loadA, cellsAt, nAg, packA, List.drop, List.take, List.head?, binA, unA, eqCells, eqCell, negB, fillA, storeA, Ob.with, indexedI, V.oneCell, intOf?, resA, resA1, packR, sealDepth, Int.reduceLT, Int.reduceLE, Int.reduceToNat, Int.reduceNeg, Int.reduceAdd, Int.reduceSub, Int.reduceMul, cond_true, cond_false, Int.reduceBNe, Int.reduceBEq, eq_self, deads, List.replicate, argsF, am38, isNil, c48, pm48, pm50, plain_bool]
theorem who_off (hn : 2 ≤ n) (i e : Int) (m : Bool) : callA am N n 52 [x, .int .i64 i, .int .i64 e, .bool m] H = some (.int .i64 1, H) := by
  obtain ⟨n, rfl⟩ : ∃ m, n = m + 1 := ⟨n - 1, by omega⟩
  obtain ⟨y, e1, hy⟩ := h
  have ha : [x, .int .i64 i, .int .i64 e, .bool m].mapM (V.shut (fun o => H[o]?) sealDepth) = some [y, .int .i64 i, .int .i64 e, .bool m] := by rw [List.mapM_cons, e1]; rfl
  have c48 := fun H => @there_off N n H y hy.a (by omega)
  refine call_look at52 rfl rfl (by decide) ha (sx_wp ?_)
  simp +contextual -implicitDefEqProofs (maxSteps := 10000000) only [sxb, plainD, stays, ↓selV_wt, ↓selV_wf, ↓impB_wt, ↓impB_wf, ↓selV_nor, ↓impB_nor, ↓selV_nt, ↓selV_nf, ↓impB_nt, ↓impB_nf, ↓selV_true, ↓selV_false, ↓selV_and, ↓impB_true, ↓impB_false, ↓impB_and, ↓prim_pick, ↓selV_nn, ↓impB_nn, doOp, get, ins, del, dels, Nat.reduceLT, Nat.reduceEqDiff, ↓reduceIte, reduceCtorEq, ne_eq, implies_true, prim, YLD, mkA, V.cells, Nat.reduceAdd, Nat.reduceSub, Nat.reduceMul, Nat.reduceLeDiff, loadA, cellsAt, nAg, packA, List.drop, List.take, List.head?, binA, unA, eqCells, eqCell, negB, fillA, storeA, Ob.with, indexedI, V.oneCell, intOf?, resA, resA1, packR, sealDepth, Int.reduceLT, Int.reduceLE, Int.reduceToNat, Int.reduceNeg, Int.reduceAdd, Int.reduceSub, Int.reduceMul, cond_true, cond_false, Int.reduceBNe, Int.reduceBEq, eq_self, deads, List.replicate, argsF, am52, isNil, c48, plain_int]
theorem same_off (hn : 2 ≤ n) : callA am N n 17 [x, .nilp] H = some (.bool true, H) := by
  obtain ⟨n, rfl⟩ : ∃ m, n = m + 1 := ⟨n - 1, by omega⟩
  obtain ⟨y, e1, hy⟩ := h
  have ha : [x, .nilp].mapM (V.shut (fun o => H[o]?) sealDepth) = some [y, .nilp] := by rw [List.mapM_cons, e1]; rfl
  have c48 := fun H => @there_off N n H y hy.a (by omega)
  have c48n := fun H => @there_off N n H .nilp (OffS.a (.inl rfl)) (by omega)
  refine call_look at17 rfl rfl (by decide) ha (sx_wp ?_)
  simp +contextual -implicitDefEqProofs (maxSteps := 10000000) only [sxb, plainD, stays, ↓selV_wt, ↓selV_wf, ↓impB_wt, ↓impB_wf, ↓selV_nor, ↓impB_nor, ↓selV_nt, ↓selV_nf, ↓impB_nt, ↓impB_nf, ↓selV_true, ↓selV_false, ↓selV_and, ↓impB_true, ↓impB_false, ↓impB_and, ↓prim_pick, ↓selV_nn, ↓impB_nn, doOp, get, ins, del, dels, Nat.reduceLT, Nat.reduceEqDiff, ↓reduceIte, reduceCtorEq, ne_eq, implies_true, prim, YLD, mkA, V.cells, Nat.reduceAdd, Nat.reduceSub, Nat.reduceMul, Nat.reduceLeDiff, loadA, cellsAt, nAg, packA, List.drop, List.take, List.head?, binA, unA, eqCells, eqCell, negB, fillA, storeA, Ob.with, indexedI, V.oneCell, intOf?, resA, resA1, packR, sealDepth, Int.reduceLT, Int.reduceLE, Int.reduceToNat, Int.reduceNeg, Int.reduceAdd, Int.reduceSub, Int.reduceMul, cond_true, cond_false, Int.reduceBNe, Int.reduceBEq, eq_self, deads, List.replicate, argsF, am17, isNil, c48, c48n, pm48, pm49, beq_self_eq_true, eqCells, eqCell, plain_bool]
end
theorem same_nil {N n : Nat} (hn : 2 ≤ n) {H : Heap} {x : V} {D : Dv} (hx : Looks H x D) : callA am N n 17 [x, .nilp] H = some (.bool false, H) := by
  obtain ⟨n, rfl⟩ : ∃ m, n = m + 1 := ⟨n - 1, by omega⟩
  obtain ⟨ok, cap, e1⟩ := hx
  have ha : [x, .nilp].mapM (V.shut (fun o => H[o]?) sealDepth) = some [D.seen cap, .nilp] := by rw [List.mapM_cons, e1]; rfl
  have c48 := fun H => @there_spec N n (by omega) H _ _ (looks_i (H := H) ok cap)
  have c48n := fun H => @there_off N n H .nilp (OffS.a (.inl rfl)) (by omega)
  refine call_look at17 rfl rfl (by decide) ha (sx_wp ?_)
  simp +contextual -implicitDefEqProofs (maxSteps := 10000000) only [sxb, plainD, stays, ↓selV_wt, ↓selV_wf, ↓impB_wt, ↓impB_wf, ↓selV_nor, ↓impB_nor, ↓selV_nt, ↓selV_nf, ↓impB_nt, ↓impB_nf, ↓selV_true, ↓selV_false, ↓selV_and, ↓impB_true, ↓impB_false, ↓impB_and, ↓prim_pick, ↓selV_nn, ↓impB_nn, doOp, get, ins, del, dels, Nat.reduceLT, Nat.reduceEqDiff, ↓reduceIte, reduceCtorEq, ne_eq, implies_true, prim, YLD, mkA, V.cells, Nat.reduceAdd, Nat.reduceSub, Nat.reduceMul, Nat.reduceLeDiff, loadA, cellsAt, nAg, packA, List.drop, List.take, List.head?, binA, unA, eqCells, eqCell, negB, fillA, storeA, Ob.with, indexedI, V.oneCell, intOf?, resA, resA1, packR, sealDepth, Int.reduceLT, Int.reduceLE, Int.reduceToNat, Int.reduceNeg, Int.reduceAdd, Int.reduceSub, Int.reduceMul, cond_true, cond_false, Int.reduceBNe, Int.reduceBEq, eq_self, deads, List.replicate, argsF, am17, isNil, c48, c48n, pm48, pm49, eqCells, eqCell, plain_bool]
  rfl
section
variable {N n : Nat} {H : Heap} {x : V} (h : Off H x)
include h
theorem off_one : x.cells = [x] ∧ x.oneCell = true ∧ x ≠ .junk := by
  rcases h with rfl | ⟨z, rfl, -⟩ <;> exact ⟨rfl, rfl, V.noConfusion⟩
theorem whole_off (hn : 2 ≤ n) : callA am N n 20 [x] H = some (.bool true, H) := by
  obtain ⟨n, rfl⟩ : ∃ m, n = m + 1 := ⟨n - 1, by omega⟩
  have c48 := @there_off N n H x h.a (by omega)
  refine call_keep_eq at20 rfl rfl (by decide) (sx_wp ?_)
  simp +contextual -implicitDefEqProofs (maxSteps := 10000000) only [sxb, plainD, stays, ↓selV_wt, ↓selV_wf, ↓impB_wt, ↓impB_wf, ↓selV_nor, ↓impB_nor, ↓selV_nt, ↓selV_nf, ↓impB_nt, ↓impB_nf, ↓selV_true, ↓selV_false, ↓selV_and, ↓impB_true, ↓impB_false, ↓impB_and, ↓prim_pick, ↓selV_nn, ↓impB_nn, doOp, get, ins, del, dels, Nat.reduceLT, Nat.reduceEqDiff, ↓reduceIte, reduceCtorEq, ne_eq, implies_true, prim, YLD, mkA, V.cells, Nat.reduceAdd, Nat.reduceSub, Nat.reduceMul, Nat.reduceLeDiff, loadA, cellsAt, nAg, packA, List.drop, List.take, List.head?, binA, unA, eqCells, eqCell, negB, fillA, storeA, Ob.with, indexedI, V.oneCell, intOf?, resA, resA1, packR, sealDepth, Int.reduceLT, Int.reduceLE, Int.reduceToNat, Int.reduceNeg, Int.reduceAdd, Int.reduceSub, Int.reduceMul, cond_true, cond_false, Int.reduceBNe, Int.reduceBEq, eq_self, deads, List.replicate, argsF, am20, isNil, c48, List.append_nil]
theorem cut_off (hn : 2 ≤ n) (i : Int) : callA am N n 25 [x, .int .i64 i] H = some (.int .i64 1, H) := by
  obtain ⟨n, rfl⟩ : ∃ m, n = m + 1 := ⟨n - 1, by omega⟩
  have c48 := @there_off N n H x h.a (by omega)
  refine call_keep_eq at25 rfl rfl (by decide) (sx_wp ?_)
  simp +contextual -implicitDefEqProofs (maxSteps := 10000000) only [sxb, plainD, stays, ↓selV_wt, ↓selV_wf, ↓impB_wt, ↓impB_wf, ↓selV_nor, ↓impB_nor, ↓selV_nt, ↓selV_nf, ↓impB_nt, ↓impB_nf, ↓selV_true, ↓selV_false, ↓selV_and, ↓impB_true, ↓impB_false, ↓impB_and, ↓prim_pick, ↓selV_nn, ↓impB_nn, doOp, get, ins, del, dels, Nat.reduceLT, Nat.reduceEqDiff, ↓reduceIte, reduceCtorEq, ne_eq, implies_true, prim, YLD, mkA, V.cells, Nat.reduceAdd, Nat.reduceSub, Nat.reduceMul, Nat.reduceLeDiff, loadA, cellsAt, nAg, packA, List.drop, List.take, List.head?, binA, unA, eqCells, eqCell, negB, fillA, storeA, Ob.with, indexedI, V.oneCell, intOf?, resA, resA1, packR, sealDepth, Int.reduceLT, Int.reduceLE, Int.reduceToNat, Int.reduceNeg, Int.reduceAdd, Int.reduceSub, Int.reduceMul, cond_true, cond_false, Int.reduceBNe, Int.reduceBEq, eq_self, deads, List.replicate, argsF, am25, isNil, c48, List.append_nil]
theorem copy_off (hn : 2 ≤ n) : ∃ L, callA am N n 21 [x] H = some (.nilp, H ++ L) := by
  obtain ⟨n, rfl⟩ : ∃ m, n = m + 1 := ⟨n - 1, by omega⟩
  have c48 := @there_off N n (H ++ [⟨0, .dead⟩]) x (h.app _).a (by omega)
  refine ⟨[⟨0, .dead⟩], ?_⟩
  refine call_keep_eq at21 rfl rfl (by decide) (sx_wp ?_)
  simp +contextual -implicitDefEqProofs (maxSteps := 10000000) only [sxb, plainD, stays, ↓selV_wt, ↓selV_wf, ↓impB_wt, ↓impB_wf, ↓selV_nor, ↓impB_nor, ↓selV_nt, ↓selV_nf, ↓impB_nt, ↓impB_nf, ↓selV_true, ↓selV_false, ↓selV_and, ↓impB_true, ↓impB_false, ↓impB_and, ↓prim_pick, ↓selV_nn, ↓impB_nn, doOp, get, ins, del, dels, Nat.reduceLT, Nat.reduceEqDiff, ↓reduceIte, reduceCtorEq, ne_eq, implies_true, prim, YLD, mkA, V.cells, Nat.reduceAdd, Nat.reduceSub, Nat.reduceMul, Nat.reduceLeDiff, loadA, cellsAt, nAg, packA, List.drop, List.take, List.head?, binA, unA, eqCells, eqCell, negB, fillA, storeA, Ob.with, indexedI, V.oneCell, intOf?, resA, resA1, packR, sealDepth, Int.reduceLT, Int.reduceLE, Int.reduceToNat, Int.reduceNeg, Int.reduceAdd, Int.reduceSub, Int.reduceMul, cond_true, cond_false, Int.reduceBNe, Int.reduceBEq, eq_self, deads, List.replicate, argsF, am21, isNil, c48]
theorem up_off (hn : 3 ≤ n) (i : Int) : ∃ L, callA am N n 27 [x, .int .i64 i] H = some (.tup [.int .i64 0, .int .i64 1], H ++ L) := by
  obtain ⟨n, rfl⟩ : ∃ m, n = m + 1 := ⟨n - 1, by omega⟩
  refine ⟨[⟨1, .var [x]⟩, ⟨1, .var [.int .i64 i]⟩], ?_⟩
  have c19 := @epoch_off N n (H ++ [⟨1, .var [x]⟩, ⟨1, .var [.int .i64 i]⟩]) x (h.app _).a (by omega) i
  obtain ⟨h1, h2, h3⟩ := off_one h
  refine call_keep_eq at27 rfl rfl (by decide) (sx_wp ?_)
  rcases h with rfl | ⟨z, rfl, -⟩ <;> simp +contextual -implicitDefEqProofs (maxSteps := 10000000) only [sxb, plainD, stays, ↓selV_wt, ↓selV_wf, ↓impB_wt, ↓impB_wf, ↓selV_nor, ↓impB_nor, ↓selV_nt, ↓selV_nf, ↓impB_nt, ↓impB_nf, ↓selV_true, ↓selV_false, ↓selV_and, ↓impB_true, ↓impB_false, ↓impB_and, ↓prim_pick, ↓selV_nn, ↓impB_nn, doOp, get, ins, del, dels, Nat.reduceLT, Nat.reduceEqDiff, ↓reduceIte, reduceCtorEq, ne_eq, implies_true, prim, YLD, mkA, V.cells, Nat.reduceAdd, Nat.reduceSub, Nat.reduceMul, Nat.reduceLeDiff, loadA, cellsAt, nAg, packA, List.drop, List.take, List.head?, binA, unA, eqCells, eqCell, negB, fillA, storeA, Ob.with, indexedI, V.oneCell, intOf?, resA, resA1, packR, sealDepth, Int.reduceLT, Int.reduceLE, Int.reduceToNat, Int.reduceNeg, Int.reduceAdd, Int.reduceSub, Int.reduceMul, cond_true, cond_false, Int.reduceBNe, Int.reduceBEq, eq_self, deads, List.replicate, argsF, am27, isNil, app_get0, app_get, app_set0, app_set, mkA, c19]
theorem write_off (hn : 3 ≤ n) (i e f : Int) : ∃ L, callA am N n 22 [x, .int .i64 i, .int .i64 e, .int .i64 f, .nils] H = some (.int .i64 1, H ++ L) := by
  obtain ⟨n, rfl⟩ : ∃ m, n = m + 1 := ⟨n - 1, by omega⟩
  refine ⟨[⟨1, .var [x]⟩, ⟨1, .var [.int .i64 f]⟩, ⟨0, .dead⟩, ⟨0, .dead⟩], ?_⟩
  have c48 := @there_off N n (H ++ [⟨1, .var [x]⟩, ⟨1, .var [.int .i64 f]⟩, ⟨0, .dead⟩, ⟨0, .dead⟩]) x (h.app _).a (by omega)
  have c52 := @who_off N n (H ++ [⟨1, .var [x]⟩, ⟨1, .var [.int .i64 f]⟩, ⟨0, .dead⟩, ⟨0, .dead⟩]) x (h.app _).a (by omega) i e false
  have b1 : ((1 : Int) != 0) = true := rfl
  refine call_keep_eq at22 rfl rfl (by decide) (sx_wp ?_)
  rcases h with rfl | ⟨z, rfl, -⟩ <;> simp +contextual -implicitDefEqProofs (maxSteps := 10000000) only [sxb, plainD, stays, ↓selV_wt, ↓selV_wf, ↓impB_wt, ↓impB_wf, ↓selV_nor, ↓impB_nor, ↓selV_nt, ↓selV_nf, ↓impB_nt, ↓impB_nf, ↓selV_true, ↓selV_false, ↓selV_and, ↓impB_true, ↓impB_false, ↓impB_and, ↓prim_pick, ↓selV_nn, ↓impB_nn, doOp, get, ins, del, dels, Nat.reduceLT, Nat.reduceEqDiff, ↓reduceIte, reduceCtorEq, ne_eq, implies_true, prim, YLD, mkA, V.cells, Nat.reduceAdd, Nat.reduceSub, Nat.reduceMul, Nat.reduceLeDiff, loadA, cellsAt, nAg, packA, List.drop, List.take, List.head?, binA, unA, eqCells, eqCell, negB, fillA, storeA, Ob.with, indexedI, V.oneCell, intOf?, resA, resA1, packR, sealDepth, Int.reduceLT, Int.reduceLE, Int.reduceToNat, Int.reduceNeg, Int.reduceAdd, Int.reduceSub, Int.reduceMul, cond_true, cond_false, Int.reduceBNe, Int.reduceBEq, eq_self, deads, List.replicate, argsF, am22, isNil, app_get0, app_get, app_set0, app_set, mkA, c48, pm48, c52, b1]
theorem fence_off (hn : 3 ≤ n) (i e w a : Int) : ∃ L, callA am N n 24 [x, .int .i64 i, .int .i64 e, .int .i64 w, .int .i64 a] H = some (.int .i64 1, H ++ L) := by
  obtain ⟨n, rfl⟩ : ∃ m, n = m + 1 := ⟨n - 1, by omega⟩
  refine ⟨[⟨1, .var [x]⟩, ⟨1, .var [.int .i64 w]⟩, ⟨1, .var [.int .i64 a]⟩], ?_⟩
  have c48 := @there_off N n (H ++ [⟨1, .var [x]⟩, ⟨1, .var [.int .i64 w]⟩, ⟨1, .var [.int .i64 a]⟩]) x (h.app _).a (by omega)
  have c52 := @who_off N n (H ++ [⟨1, .var [x]⟩, ⟨1, .var [.int .i64 w]⟩, ⟨1, .var [.int .i64 a]⟩]) x (h.app _).a (by omega) i e false
  have b1 : ((1 : Int) != 0) = true := rfl
  refine call_keep_eq at24 rfl rfl (by decide) (sx_wp ?_)
  rcases h with rfl | ⟨z, rfl, -⟩ <;> simp +contextual -implicitDefEqProofs (maxSteps := 10000000) only [sxb, plainD, stays, ↓selV_wt, ↓selV_wf, ↓impB_wt, ↓impB_wf, ↓selV_nor, ↓impB_nor, ↓selV_nt, ↓selV_nf, ↓impB_nt, ↓impB_nf, ↓selV_true, ↓selV_false, ↓selV_and, ↓impB_true, ↓impB_false, ↓impB_and, ↓prim_pick, ↓selV_nn, ↓impB_nn, doOp, get, ins, del, dels, Nat.reduceLT, Nat.reduceEqDiff, ↓reduceIte, reduceCtorEq, ne_eq, implies_true, prim, YLD, mkA, V.cells, Nat.reduceAdd, Nat.reduceSub, Nat.reduceMul, Nat.reduceLeDiff, loadA, cellsAt, nAg, packA, List.drop, List.take, List.head?, binA, unA, eqCells, eqCell, negB, fillA, storeA, Ob.with, indexedI, V.oneCell, intOf?, resA, resA1, packR, sealDepth, Int.reduceLT, Int.reduceLE, Int.reduceToNat, Int.reduceNeg, Int.reduceAdd, Int.reduceSub, Int.reduceMul, cond_true, cond_false, Int.reduceBNe, Int.reduceBEq, eq_self, deads, List.replicate, argsF, am24, isNil, app_get0, app_get, app_set0, app_set, mkA, c48, pm48, pm50, c52, b1]
theorem swap_off (hn : 4 ≤ n) (i e s : Int) : ∃ L, callA am N n 29 [x, .int .i64 i, .int .i64 e, .int .i64 s, secV zeroS, secV zeroS] H = some (.tup [.bool false, .int .i64 1], H ++ L) := by
  obtain ⟨n, rfl⟩ : ∃ m, n = m + 1 := ⟨n - 1, by omega⟩
  obtain ⟨L, hL⟩ : ∃ L : Heap, L = [⟨1, .var [x]⟩, ⟨1, .var [.int .i64 s]⟩, ⟨1, .var (zeroS.map (V.int .u8))⟩, ⟨1, .var (zeroS.map (V.int .u8))⟩] := ⟨_, rfl⟩
  refine ⟨L, ?_⟩
  have c32 := @size_off N n (H ++ L) x (h.app _).a (by omega)
  have c52 := fun b => @who_off N n (H ++ L) x (h.app _).a (by omega) i e b
  have b1 : ((1 : Int) != 0) = true := rfl
  have cz : (secV zeroS).cells = zeroS.map (V.int .u8) := rfl
  have lz : (zeroS.map (V.int .u8)).length = 64 := rfl
  have oz := ints_one .u8 zeroS
  subst hL
  unfold secV at *
  have cz' : ∀ l, (V.agg l).cells = l := fun l => rfl
  refine call_keep_eq at29 rfl rfl (by decide) (sx_wp ?_)
  rcases h with rfl | ⟨z, rfl, -⟩ <;> simp +contextual -implicitDefEqProofs (maxSteps := 10000000) only [sxb, plainD, stays, ↓selV_wt, ↓selV_wf, ↓impB_wt, ↓impB_wf, ↓selV_nor, ↓impB_nor, ↓selV_nt, ↓selV_nf, ↓impB_nt, ↓impB_nf, ↓selV_true, ↓selV_false, ↓selV_and, ↓impB_true, ↓impB_false, ↓impB_and, ↓prim_pick, ↓selV_nn, ↓impB_nn, doOp, get, ins, del, dels, Nat.reduceLT, Nat.reduceEqDiff, ↓reduceIte, reduceCtorEq, ne_eq, implies_true, prim, YLD, mkA, V.cells, Nat.reduceAdd, Nat.reduceSub, Nat.reduceMul, Nat.reduceLeDiff, loadA, cellsAt, nAg, packA, List.drop, List.take, List.head?, binA, unA, eqCells, eqCell, negB, fillA, storeA, Ob.with, indexedI, V.oneCell, intOf?, resA, resA1, packR, sealDepth, Int.reduceLT, Int.reduceLE, Int.reduceToNat, Int.reduceNeg, Int.reduceAdd, Int.reduceSub, Int.reduceMul, cond_true, cond_false, Int.reduceBNe, Int.reduceBEq, eq_self, deads, List.replicate, argsF, am29, isNil, app_get0, app_get, app_set0, app_set, mkA, c32, c52, pm32, b1, lz, oz]
end
end Go.Am.T


set_option linter.unusedVariables false
set_option linter.unusedSimpArgs false
set_option maxRecDepth 10000
namespace Go.Am.T
attribute [local congr] selV_congr impB_congr
attribute [local irreducible] sx wp
theorem Off.keep {H K : Heap} {x : V} (h : Off H x) (hk : ∀ p, p < H.length → K[p]? = H[p]?) : Off K x := by
  rcases h with h | ⟨z, h, hz⟩
  · exact .inl h
  · exact .inr ⟨z, h, by rw [hk z (lt_of_get hz)]; exact hz⟩
theorem all_off {N n : Nat} (hn : 1 ≤ n) {H : Heap} {x : V} (h : Off H x) (K : Heap) : callA am N n 41 [x] K = some (.func 59 [] [.ptr K.length 1 0], K ++ [⟨1, .var [x]⟩]) := by
  rcases h with rfl | ⟨z, rfl, -⟩ <;> exact all_spec hn _ (fun _ => V.noConfusion) V.noConfusion rfl rfl K
theorem iter_off {N n : Nat} (hN : 5 ≤ N) (hn : 3 ≤ n) {K : Heap} {x : V} (h : Off K x) {lo o v : Nat} (hb : K[lo]? = some ⟨1, .var [x]⟩) : callA am N n 59 [.yld o v, .ptr lo 1 0] K = some (.tup [], K) := by
  obtain ⟨n, rfl⟩ : ∃ m, n = m + 1 := ⟨n - 1, by omega⟩
  have c32 := @size_off N n K x h.a (by omega)
  have g : decide ((0 : Int) < 0) = false := by decide
  refine call_keep_eq at59 rfl rfl (by decide) (sx_wp ?_)
  simp +contextual -implicitDefEqProofs (maxSteps := 10000000) only [sxb, plainD, stays, ↓selV_wt, ↓selV_wf, ↓impB_wt, ↓impB_wf, ↓selV_nor, ↓impB_nor, ↓selV_nt, ↓selV_nf, ↓impB_nt, ↓impB_nf, ↓selV_true, ↓selV_false, ↓selV_and, ↓impB_true, ↓impB_false, ↓impB_and, ↓prim_pick, ↓selV_nn, ↓impB_nn, doOp, get, ins, del, dels, Nat.reduceLT, Nat.reduceEqDiff, ↓reduceIte, reduceCtorEq, ne_eq, implies_true, prim, YLD, mkA, V.cells, Nat.reduceAdd, Nat.reduceSub, Nat.reduceMul, Nat.reduceLeDiff, loadA, cellsAt, nAg, packA, List.drop, List.take, List.head?, binA, unA, eqCells, eqCell, negB, fillA, storeA, Ob.with, indexedI, V.oneCell, intOf?, resA, resA1, packR, sealDepth, Int.reduceLT, Int.reduceLE, Int.reduceToNat, Int.reduceNeg, Int.reduceAdd, Int.reduceSub, Int.reduceMul, cond_true, cond_false, Int.reduceBNe, Int.reduceBEq, eq_self, deads, List.replicate, argsF, am59, hb, c32, List.append_nil]
  refine sx_unroll 1 (by show 1 ≤ N; omega) ?_
  simp +contextual -implicitDefEqProofs (maxSteps := 10000000) only [sxb, plainD, stays, ↓selV_wt, ↓selV_wf, ↓impB_wt, ↓impB_wf, ↓selV_nor, ↓impB_nor, ↓selV_nt, ↓selV_nf, ↓impB_nt, ↓impB_nf, ↓selV_true, ↓selV_false, ↓selV_and, ↓impB_true, ↓impB_false, ↓impB_and, ↓prim_pick, ↓selV_nn, ↓impB_nn, doOp, get, ins, del, dels, Nat.reduceLT, Nat.reduceEqDiff, ↓reduceIte, reduceCtorEq, ne_eq, implies_true, prim, YLD, mkA, V.cells, Nat.reduceAdd, Nat.reduceSub, Nat.reduceMul, Nat.reduceLeDiff, loadA, cellsAt, nAg, packA, List.drop, List.take, List.head?, binA, unA, eqCells, eqCell, negB, fillA, storeA, Ob.with, indexedI, V.oneCell, intOf?, resA, resA1, packR, sealDepth, Int.reduceLT, Int.reduceLE, Int.reduceToNat, Int.reduceNeg, Int.reduceAdd, Int.reduceSub, Int.reduceMul, cond_true, cond_false, Int.reduceBNe, Int.reduceBEq, eq_self, deads, List.replicate, argsF, g]
theorem bytes_off {N n : Nat} (hN : 5 ≤ N) (hn : 5 ≤ n) {H : Heap} {x : V} (h : Off H x) : ∃ L, callA am N n 35 [x] H = some (.nils, H ++ L) := by
  obtain ⟨n, rfl⟩ : ∃ m, n = m + 1 := ⟨n - 1, by omega⟩
  have c41 := fun K => @all_off N n (by omega) H x h K
  have hc := @iter_off N n hN (by omega) (H ++ [⟨1, .var [.nils]⟩, ⟨0, .dead⟩, ⟨0, .dead⟩, ⟨1, .loop 0 none (tB H.length) H.length 35 0⟩, ⟨1, .var [x]⟩]) x (h.app _) (H.length + 4) (H.length + 3) 1 (by rw [app_get]; rfl)
  refine ⟨[⟨1, .var [.nils]⟩, ⟨0, .dead⟩, ⟨0, .dead⟩, ⟨1, .dead⟩, ⟨1, .var [x]⟩], ?_⟩
  refine call_keep_eq at35 rfl rfl (by decide) (sx_wp ?_)
  unfold tB at hc
  have l4 : ∀ a b c d : Ob, (H ++ [a, b, c, d]).length = H.length + 4 := fun _ _ _ _ => by simp
  simp +contextual -implicitDefEqProofs (maxSteps := 10000000) only [sxb, plainD, stays, ↓selV_wt, ↓selV_wf, ↓impB_wt, ↓impB_wf, ↓selV_nor, ↓impB_nor, ↓selV_nt, ↓selV_nf, ↓impB_nt, ↓impB_nf, ↓selV_true, ↓selV_false, ↓selV_and, ↓impB_true, ↓impB_false, ↓impB_and, ↓prim_pick, ↓selV_nn, ↓impB_nn, doOp, get, ins, del, dels, Nat.reduceLT, Nat.reduceEqDiff, ↓reduceIte, reduceCtorEq, ne_eq, implies_true, prim, YLD, mkA, V.cells, Nat.reduceAdd, Nat.reduceSub, Nat.reduceMul, Nat.reduceLeDiff, loadA, cellsAt, nAg, packA, List.drop, List.take, List.head?, binA, unA, eqCells, eqCell, negB, fillA, storeA, Ob.with, indexedI, V.oneCell, intOf?, resA, resA1, packR, sealDepth, Int.reduceLT, Int.reduceLE, Int.reduceToNat, Int.reduceNeg, Int.reduceAdd, Int.reduceSub, Int.reduceMul, cond_true, cond_false, Int.reduceBNe, Int.reduceBEq, eq_self, deads, List.replicate, argsF, am35, isNil, app_get0, app_get, app_set0, app_set, c41, mkA, List.append_assoc, List.cons_append, List.nil_append, l4]
  refine sx_rangeF (x := ⟨0, .dead⟩) (g := 59) (xs := []) (ys := [.ptr (H.length + 4) 1 0]) (by rw [app_get]; rfl) rfl (by simp only [app_set, List.set_cons_succ, List.set_cons_zero]; exact hc) (st := 0) (by rw [app_get]; rfl) (by decide) ?_
  simp only [jumpE, app_set]
  simp +contextual -implicitDefEqProofs (maxSteps := 10000000) only [sxb, plainD, stays, ↓selV_wt, ↓selV_wf, ↓impB_wt, ↓impB_wf, ↓selV_nor, ↓impB_nor, ↓selV_nt, ↓selV_nf, ↓impB_nt, ↓impB_nf, ↓selV_true, ↓selV_false, ↓selV_and, ↓impB_true, ↓impB_false, ↓impB_and, ↓prim_pick, ↓selV_nn, ↓impB_nn, doOp, get, ins, del, dels, Nat.reduceLT, Nat.reduceEqDiff, ↓reduceIte, reduceCtorEq, ne_eq, implies_true, prim, YLD, mkA, V.cells, Nat.reduceAdd, Nat.reduceSub, Nat.reduceMul, Nat.reduceLeDiff, loadA, cellsAt, nAg, packA, List.drop, List.take, List.head?, binA, unA, eqCells, eqCell, negB, fillA, storeA, Ob.with, indexedI, V.oneCell, intOf?, resA, resA1, packR, sealDepth, Int.reduceLT, Int.reduceLE, Int.reduceToNat, Int.reduceNeg, Int.reduceAdd, Int.reduceSub, Int.reduceMul, cond_true, cond_false, Int.reduceBNe, Int.reduceBEq, eq_self, deads, List.replicate, argsF, app_get0, app_get, app_set0, app_set, List.append_nil]
set_option maxHeartbeats 4000000 in
theorem nothing_off {N n : Nat} (hN : 5000 ≤ N) (hn : 7 ≤ n) {H : Heap} {x : V} (h : Off H x) :
    ∃ H', callA am N n 28 [x] H = some (.bool true, H') ∧ H.length ≤ H'.length ∧ ∀ p, p < H.length → H'[p]? = H[p]? := by
  obtain ⟨n, rfl⟩ : ∃ m, n = m + 1 := ⟨n - 1, by omega⟩
  obtain ⟨Kp, hKp⟩ : ∃ Kp : Heap, Kp = H ++ [⟨1, .var [.bool false]⟩, ⟨0, .dead⟩, ⟨0, .dead⟩] := ⟨_, rfl⟩
  obtain ⟨K0, hK0⟩ : ∃ K0 : Heap, K0 = H ++ [⟨1, .var [.bool false]⟩, ⟨1, .var (zeroS.map (V.int .u8))⟩, ⟨0, .dead⟩] := ⟨_, rfl⟩
  have l0 : K0.length = H.length + 3 := by rw [hK0]; simp
  have Op : Off Kp x := by rw [hKp]; exact h.app _
  have O0 : Off K0 x := by rw [hK0]; exact h.app _
  have c19 := @epoch_off N n Kp x Op.a (by omega) 0
  have c26 := @read_off N n Kp x Op.a (by omega) 0
  obtain ⟨L1, c29⟩ := @swap_off N n K0 x O0 (by omega) 0 0 0
  obtain ⟨K1, hK1⟩ : ∃ K1 : Heap, K1 = K0 ++ L1 := ⟨_, rfl⟩
  have O1 : Off K1 x := by rw [hK1]; exact O0.app _
  rw [← hK1] at c29
  obtain ⟨L2, c27⟩ := @up_off N n K1 x O1 (by omega) 0
  obtain ⟨K2, hK2⟩ : ∃ K2 : Heap, K2 = K1 ++ L2 := ⟨_, rfl⟩
  have O2 : Off K2 x := by rw [hK2]; exact O1.app _
  rw [← hK2] at c27
  have c41 := @all_off N n (by omega) K2 x O2 K2
  obtain ⟨K3, hK3⟩ : ∃ K3 : Heap, K3 = K2 ++ [⟨1, .var [x]⟩] := ⟨_, rfl⟩
  rw [← hK3] at c41
  have k3 : ∀ p, p < K0.length → K3[p]? = K0[p]? := fun p hp => by
    rw [hK3, List.getElem?_append_left (by rw [hK2, hK1, List.length_append, List.length_append]; omega), hK2, List.getElem?_append_left (by rw [hK1, List.length_append]; omega), hK1, List.getElem?_append_left hp]
  have e3 : K3 = K0 ++ (L1 ++ (L2 ++ [⟨1, .var [x]⟩])) := by rw [hK3, hK2, hK1]; simp
  have l2 : H.length + 3 ≤ K2.length := by rw [hK2, hK1, List.length_append, List.length_append]; omega
  have l3 : K3.length = K2.length + 1 := by rw [hK3]; simp
  have s3 : K3[H.length + 2]? = some ⟨0, .dead⟩ := by rw [k3 _ (by omega), hK0, app_get]; rfl
  have b3 : K3[H.length]? = some ⟨1, .var [.bool false]⟩ := by rw [k3 _ (by omega), hK0, app_get0]; rfl
  have x3 : K3[K2.length]? = some ⟨1, .var [x]⟩ := by rw [hK3, app_get0]; rfl
  have O3 : Off K3 x := O0.keep k3
  have kH : ∀ p, p < H.length → K3[p]? = H[p]? := fun p hp => by rw [k3 p (by omega), hK0, List.getElem?_append_left hp]
  have O4 : ∀ y : Ob, Off (K3.set (H.length + 2) y) x := fun y => h.keep fun p hp => by rw [List.getElem?_set_ne (by omega), kH p hp]
  have x4 : ∀ y : Ob, (K3.set (H.length + 2) y)[K2.length]? = some ⟨1, .var [x]⟩ := fun y => by rw [List.getElem?_set_ne (by omega), x3]
  have c59 := fun y => @iter_off N n (by omega) (by omega) (K3.set (H.length + 2) y) x (O4 y) K2.length (H.length + 2) 1 (x4 y)
  have g3 : ∀ y : Ob, (K3.set (H.length + 2) y)[H.length + 2]? = some y := fun y => List.getElem?_set_self (by omega)
  have ss : ∀ y z : Ob, (K3.set (H.length + 2) y).set (H.length + 2) z = K3.set (H.length + 2) z := fun y z => List.set_set ..
  obtain ⟨K5, hK5⟩ : ∃ K5 : Heap, K5 = K3.set (H.length + 2) ⟨1, .dead⟩ := ⟨_, rfl⟩
  have O5 : Off K5 x := by rw [hK5]; exact O4 _
  have l5 : K5.length = K3.length := by rw [hK5, List.length_set]
  obtain ⟨L6, c22⟩ := @write_off N n K5 x O5 (by omega) 0 0 0
  obtain ⟨K6, hK6⟩ : ∃ K6 : Heap, K6 = K5 ++ L6 := ⟨_, rfl⟩
  rw [← hK6] at c22
  have O6 : Off K6 x := by rw [hK6]; exact O5.app _
  obtain ⟨L7, c24⟩ := @fence_off N n K6 x O6 (by omega) 0 0 0 0
  obtain ⟨K7, hK7⟩ : ∃ K7 : Heap, K7 = K6 ++ L7 := ⟨_, rfl⟩
  rw [← hK7] at c24
  have O7 : Off K7 x := by rw [hK7]; exact O6.app _
  have c25 := @cut_off N n K7 x O7 (by omega) 1
  have c20 := @whole_off N n K7 x O7 (by omega)
  have c38 := @fenced_off N n K7 x O7.a (by omega) 0 0
  have c32 := @size_off N n K7 x O7.a (by omega)
  have c33 := @nodes_off N n K7 x O7.a (by omega)
  have c34 := @done_off N n K7 x O7.a (by omega)
  obtain ⟨L8, c35⟩ := @bytes_off N n (by omega) (by omega) K7 x O7
  obtain ⟨K8, hK8⟩ : ∃ K8 : Heap, K8 = K7 ++ L8 := ⟨_, rfl⟩
  rw [← hK8] at c35
  have O8 : Off K8 x := by rw [hK8]; exact O7.app _
  obtain ⟨L9, c21⟩ := @copy_off N n K8 x O8 (by omega)
  obtain ⟨K9, hK9⟩ : ∃ K9 : Heap, K9 = K8 ++ L9 := ⟨_, rfl⟩
  rw [← hK9] at c21
  have O9 : Off K9 x := by rw [hK9]; exact O8.app _
  have c17 := @same_off N n K9 x O9.a (by omega)
  have k9 : ∀ p, p < K5.length → K9[p]? = K5[p]? := fun p hp => by
    have e : K9 = K5 ++ (L6 ++ (L7 ++ (L8 ++ L9))) := by rw [hK9, hK8, hK7, hK6]; simp
    rw [e, List.getElem?_append_left hp]
  have b9 : K9[H.length]? = some ⟨1, .var [.bool false]⟩ := by rw [k9 _ (by omega), hK5, List.getElem?_set_ne (by omega), b3]
  have l9 : K5.length ≤ K9.length := by rw [hK9, hK8, hK7, hK6]; simp only [List.length_append]; omega
  have g9 : ∀ y : Ob, (K9.set H.length y)[H.length]? = some y := fun y => List.getElem?_set_self (by omega)
  have c11 := fun x K => @num_spec N n (by omega) x K
  have lz : (zeroS.map (V.int .u8)).length = 64 := rfl
  have oz := ints_one .u8 zeroS
  refine ⟨K9.set H.length ⟨1, .var [.bool true]⟩, ?_, by rw [List.length_set]; omega, fun p hp => ?_⟩
  · have hK0' := hK0
    clear hK1 hK2 hK3 hK6 hK7 hK8 hK9 O0 O1 O2 O3 O4 O5 O6 O7 O8 O9 Op k3 kH k9 x3 e3
    subst hKp
    have sr := fun (z : List V) (hz : z.length = 64) => @sr_all z (zeroS.map (V.int .u8)) (by rw [lz, hz])
    refine call_keep_eq at28 rfl rfl (by decide) (sx_wp ?_)
    unfold secV at *
    have hz : zeroS.map (V.int .u8) = List.replicate 64 (V.int .u8 0) := rfl
    simp only [List.replicate] at hz
    have p01 : K0[H.length + 1]? = some ⟨1, .var (zeroS.map (V.int .u8))⟩ := by rw [hK0', app_get]; rfl
    have s01 : K0.set (H.length + 1) ⟨1, .var (zeroS.map (V.int .u8))⟩ = K0 := by rw [hK0', app_set]; rfl
    rw [hz] at c29 hK0' p01 s01
    simp +contextual -implicitDefEqProofs (maxSteps := 10000000) only [sxb, plainD, stays, ↓selV_wt, ↓selV_wf, ↓impB_wt, ↓impB_wf, ↓selV_nor, ↓impB_nor, ↓selV_nt, ↓selV_nf, ↓impB_nt, ↓impB_nf, ↓selV_true, ↓selV_false, ↓selV_and, ↓impB_true, ↓impB_false, ↓impB_and, ↓prim_pick, ↓selV_nn, ↓impB_nn, doOp, get, ins, del, dels, Nat.reduceLT, Nat.reduceEqDiff, ↓reduceIte, reduceCtorEq, ne_eq, implies_true, prim, YLD, mkA, V.cells, Nat.reduceAdd, Nat.reduceSub, Nat.reduceMul, Nat.reduceLeDiff, loadA, cellsAt, nAg, packA, List.drop, List.take, List.head?, binA, unA, eqCells, eqCell, negB, fillA, storeA, Ob.with, indexedI, V.oneCell, intOf?, resA, resA1, packR, sealDepth, Int.reduceLT, Int.reduceLE, Int.reduceToNat, Int.reduceNeg, Int.reduceAdd, Int.reduceSub, Int.reduceMul, cond_true, cond_false, Int.reduceBNe, Int.reduceBEq, eq_self, deads, List.replicate, argsF, am28, isNil, app_get0, app_get, app_set0, app_set, mkA, c19, c26, lz, oz, sr, hz, ← hK0', p01, s01, c29, c27, c41]
    refine sx_rangeF (x := ⟨0, .dead⟩) (g := 59) (xs := []) (ys := [.ptr K2.length 1 0]) (by exact s3) rfl (by exact c59 _) (st := 0) (by exact g3 _) (by decide) ?_
    simp only [jumpE, ss]
    have b1 : ((1 : Int) == 1) = true := rfl
    have b0 : ((0 : Int) == 0) = true := rfl
    simp +contextual -implicitDefEqProofs (maxSteps := 10000000) only [sxb, plainD, stays, ↓selV_wt, ↓selV_wf, ↓impB_wt, ↓impB_wf, ↓selV_nor, ↓impB_nor, ↓selV_nt, ↓selV_nf, ↓impB_nt, ↓impB_nf, ↓selV_true, ↓selV_false, ↓selV_and, ↓impB_true, ↓impB_false, ↓impB_and, ↓prim_pick, ↓selV_nn, ↓impB_nn, doOp, get, ins, del, dels, Nat.reduceLT, Nat.reduceEqDiff, ↓reduceIte, reduceCtorEq, ne_eq, implies_true, prim, YLD, mkA, V.cells, Nat.reduceAdd, Nat.reduceSub, Nat.reduceMul, Nat.reduceLeDiff, loadA, cellsAt, nAg, packA, List.drop, List.take, List.head?, binA, unA, eqCells, eqCell, negB, fillA, storeA, Ob.with, indexedI, V.oneCell, intOf?, resA, resA1, packR, sealDepth, Int.reduceLT, Int.reduceLE, Int.reduceToNat, Int.reduceNeg, Int.reduceAdd, Int.reduceSub, Int.reduceMul, cond_true, cond_false, Int.reduceBNe, Int.reduceBEq, eq_self, deads, List.replicate, argsF, ← hK5, c22, c24, c25, c20, c38, c32, c33, c34, c35, c21, c17, c11, pm11, pm17, pm20, pm22, pm24, pm25, pm32, pm33, pm34, pm35, pm38, pm21, b1, b0, isNil, lenA_nils, b9, g9]
  · rw [List.getElem?_set_ne (by omega), k9 p (by omega), hK5, List.getElem?_set_ne (by omega)]
    exact kH p hp
end Go.Am.T


set_option linter.unusedVariables false
set_option linter.unusedSimpArgs false
set_option maxRecDepth 10000
namespace Go.Am.T
attribute [local congr] selV_congr impB_congr
attribute [local irreducible] sx wp
theorem contains_one' {N n : Nat} (hN : 5 ≤ N) (hn : 3 ≤ n) (e : Int) (K : Heap) : callA am N n 30 [.sl [.int .i64 e] 1 (some 1), .func 31 [] []] K = some (.bool (badE e), K) := by
  obtain ⟨n, rfl⟩ : ∃ m, n = m + 2 := ⟨n - 2, by omega⟩
  have c31 := @bad_spec N n (by omega) e K
  have c58 : callA am N (n + 1) 58 [.sl [.int .i64 e] 1 (some 1), .func 31 [] []] K = some (.int .i64 (if badE e then 0 else -1), K) := by
    have hat : iaddrSA 1 (.sl [.int .i64 e] 1 (some 1)) (.int .i64 0) = some (.ret (.iptr [.int .i64 e] 0)) := rfl
    have g1 : decide ((0 : Int) < 1) = true := by decide
    have g2 : decide ((1 : Int) < 1) = false := by decide
    have w1 : IntKind.i64.wrap (0 + 1) = 1 := by decide
    refine call_keep_eq at58 rfl rfl (by decide) (sx_wp ?_)
    cases hb : badE e with
    | true =>
      rw [hb] at c31
      simp +contextual -implicitDefEqProofs (maxSteps := 10000000) only [sxb, plainD, stays, ↓selV_wt, ↓selV_wf, ↓impB_wt, ↓impB_wf, ↓selV_nor, ↓impB_nor, ↓selV_nt, ↓selV_nf, ↓impB_nt, ↓impB_nf, ↓selV_true, ↓selV_false, ↓selV_and, ↓impB_true, ↓impB_false, ↓impB_and, ↓prim_pick, ↓selV_nn, ↓impB_nn, doOp, get, ins, del, dels, Nat.reduceLT, Nat.reduceEqDiff, ↓reduceIte, reduceCtorEq, ne_eq, implies_true, prim, YLD, mkA, V.cells, Nat.reduceAdd, Nat.reduceSub, Nat.reduceMul, Nat.reduceLeDiff, loadA, cellsAt, nAg, packA, List.drop, List.take, List.head?, binA, unA, eqCells, eqCell, negB, fillA, storeA, Ob.with, indexedI, V.oneCell, intOf?, resA, resA1, packR, sealDepth, Int.reduceLT, Int.reduceLE, Int.reduceToNat, Int.reduceNeg, Int.reduceAdd, Int.reduceSub, Int.reduceMul, cond_true, cond_false, Int.reduceBNe, Int.reduceBEq, eq_self, deads, List.replicate, argsF, am58, isNil, lenA, List.append_nil]
      refine sx_unroll 2 (by show 2 ≤ N; omega) ?_
      simp +contextual -implicitDefEqProofs (maxSteps := 10000000) only [sxb, plainD, stays, ↓selV_wt, ↓selV_wf, ↓impB_wt, ↓impB_wf, ↓selV_nor, ↓impB_nor, ↓selV_nt, ↓selV_nf, ↓impB_nt, ↓impB_nf, ↓selV_true, ↓selV_false, ↓selV_and, ↓impB_true, ↓impB_false, ↓impB_and, ↓prim_pick, ↓selV_nn, ↓impB_nn, doOp, get, ins, del, dels, Nat.reduceLT, Nat.reduceEqDiff, ↓reduceIte, reduceCtorEq, ne_eq, implies_true, prim, YLD, mkA, V.cells, Nat.reduceAdd, Nat.reduceSub, Nat.reduceMul, Nat.reduceLeDiff, loadA, cellsAt, nAg, packA, List.drop, List.take, List.head?, binA, unA, eqCells, eqCell, negB, fillA, storeA, Ob.with, indexedI, V.oneCell, intOf?, resA, resA1, packR, sealDepth, Int.reduceLT, Int.reduceLE, Int.reduceToNat, Int.reduceNeg, Int.reduceAdd, Int.reduceSub, Int.reduceMul, cond_true, cond_false, Int.reduceBNe, Int.reduceBEq, eq_self, deads, List.replicate, argsF, g1, hat, cvP_func (g := 31) (by decide), c31]
    | false =>
      rw [hb] at c31
      simp +contextual -implicitDefEqProofs (maxSteps := 10000000) only [sxb, plainD, stays, ↓selV_wt, ↓selV_wf, ↓impB_wt, ↓impB_wf, ↓selV_nor, ↓impB_nor, ↓selV_nt, ↓selV_nf, ↓impB_nt, ↓impB_nf, ↓selV_true, ↓selV_false, ↓selV_and, ↓impB_true, ↓impB_false, ↓impB_and, ↓prim_pick, ↓selV_nn, ↓impB_nn, doOp, get, ins, del, dels, Nat.reduceLT, Nat.reduceEqDiff, ↓reduceIte, reduceCtorEq, ne_eq, implies_true, prim, YLD, mkA, V.cells, Nat.reduceAdd, Nat.reduceSub, Nat.reduceMul, Nat.reduceLeDiff, loadA, cellsAt, nAg, packA, List.drop, List.take, List.head?, binA, unA, eqCells, eqCell, negB, fillA, storeA, Ob.with, indexedI, V.oneCell, intOf?, resA, resA1, packR, sealDepth, Int.reduceLT, Int.reduceLE, Int.reduceToNat, Int.reduceNeg, Int.reduceAdd, Int.reduceSub, Int.reduceMul, cond_true, cond_false, Int.reduceBNe, Int.reduceBEq, eq_self, deads, List.replicate, argsF, am58, isNil, lenA, List.append_nil]
      refine sx_unroll 2 (by show 2 ≤ N; omega) ?_
      simp +contextual -implicitDefEqProofs (maxSteps := 10000000) only [sxb, plainD, stays, ↓selV_wt, ↓selV_wf, ↓impB_wt, ↓impB_wf, ↓selV_nor, ↓impB_nor, ↓selV_nt, ↓selV_nf, ↓impB_nt, ↓impB_nf, ↓selV_true, ↓selV_false, ↓selV_and, ↓impB_true, ↓impB_false, ↓impB_and, ↓prim_pick, ↓selV_nn, ↓impB_nn, doOp, get, ins, del, dels, Nat.reduceLT, Nat.reduceEqDiff, ↓reduceIte, reduceCtorEq, ne_eq, implies_true, prim, YLD, mkA, V.cells, Nat.reduceAdd, Nat.reduceSub, Nat.reduceMul, Nat.reduceLeDiff, loadA, cellsAt, nAg, packA, List.drop, List.take, List.head?, binA, unA, eqCells, eqCell, negB, fillA, storeA, Ob.with, indexedI, V.oneCell, intOf?, resA, resA1, packR, sealDepth, Int.reduceLT, Int.reduceLE, Int.reduceToNat, Int.reduceNeg, Int.reduceAdd, Int.reduceSub, Int.reduceMul, cond_true, cond_false, Int.reduceBNe, Int.reduceBEq, eq_self, deads, List.replicate, argsF, g1, hat, cvP_func (g := 31) (by decide), c31, w1, g2]
  have hi : decide ((if badE e then (0 : Int) else -1) ≥ 0) = badE e := by cases badE e <;> rfl
  refine call_keep_eq at30 rfl rfl (by decide) (sx_wp ?_)
  generalize (if badE e then (0 : Int) else -1) = r at *
  simp +contextual -implicitDefEqProofs (maxSteps := 10000000) only [sxb, plainD, stays, ↓selV_wt, ↓selV_wf, ↓impB_wt, ↓impB_wf, ↓selV_nor, ↓impB_nor, ↓selV_nt, ↓selV_nf, ↓impB_nt, ↓impB_nf, ↓selV_true, ↓selV_false, ↓selV_and, ↓impB_true, ↓impB_false, ↓impB_and, ↓prim_pick, ↓selV_nn, ↓impB_nn, doOp, get, ins, del, dels, Nat.reduceLT, Nat.reduceEqDiff, ↓reduceIte, reduceCtorEq, ne_eq, implies_true, prim, YLD, mkA, V.cells, Nat.reduceAdd, Nat.reduceSub, Nat.reduceMul, Nat.reduceLeDiff, loadA, cellsAt, nAg, packA, List.drop, List.take, List.head?, binA, unA, eqCells, eqCell, negB, fillA, storeA, Ob.with, indexedI, V.oneCell, intOf?, resA, resA1, packR, sealDepth, Int.reduceLT, Int.reduceLE, Int.reduceToNat, Int.reduceNeg, Int.reduceAdd, Int.reduceSub, Int.reduceMul, cond_true, cond_false, Int.reduceBNe, Int.reduceBEq, eq_self, deads, List.replicate, argsF, am30, isNil, c58, hi, List.append_nil]
theorem contains_nil {N n : Nat} (hN : 5 ≤ N) (hn : 3 ≤ n) (K : Heap) : callA am N n 30 [.nils, .func 31 [] []] K = some (.bool false, K) := by
  obtain ⟨n, rfl⟩ : ∃ m, n = m + 2 := ⟨n - 2, by omega⟩
  have g2 : decide ((0 : Int) < 0) = false := by decide
  have c58 : callA am N (n + 1) 58 [.nils, .func 31 [] []] K = some (.int .i64 (-1), K) := by
    refine call_keep_eq at58 rfl rfl (by decide) (sx_wp ?_)
    simp +contextual -implicitDefEqProofs (maxSteps := 10000000) only [sxb, plainD, stays, ↓selV_wt, ↓selV_wf, ↓impB_wt, ↓impB_wf, ↓selV_nor, ↓impB_nor, ↓selV_nt, ↓selV_nf, ↓impB_nt, ↓impB_nf, ↓selV_true, ↓selV_false, ↓selV_and, ↓impB_true, ↓impB_false, ↓impB_and, ↓prim_pick, ↓selV_nn, ↓impB_nn, doOp, get, ins, del, dels, Nat.reduceLT, Nat.reduceEqDiff, ↓reduceIte, reduceCtorEq, ne_eq, implies_true, prim, YLD, mkA, V.cells, Nat.reduceAdd, Nat.reduceSub, Nat.reduceMul, Nat.reduceLeDiff, loadA, cellsAt, nAg, packA, List.drop, List.take, List.head?, binA, unA, eqCells, eqCell, negB, fillA, storeA, Ob.with, indexedI, V.oneCell, intOf?, resA, resA1, packR, sealDepth, Int.reduceLT, Int.reduceLE, Int.reduceToNat, Int.reduceNeg, Int.reduceAdd, Int.reduceSub, Int.reduceMul, cond_true, cond_false, Int.reduceBNe, Int.reduceBEq, eq_self, deads, List.replicate, argsF, am58, isNil, lenA, List.append_nil]
    refine sx_unroll 1 (by show 1 ≤ N; omega) ?_
    simp +contextual -implicitDefEqProofs (maxSteps := 10000000) only [sxb, plainD, stays, ↓selV_wt, ↓selV_wf, ↓impB_wt, ↓impB_wf, ↓selV_nor, ↓impB_nor, ↓selV_nt, ↓selV_nf, ↓impB_nt, ↓impB_nf, ↓selV_true, ↓selV_false, ↓selV_and, ↓impB_true, ↓impB_false, ↓impB_and, ↓prim_pick, ↓selV_nn, ↓impB_nn, doOp, get, ins, del, dels, Nat.reduceLT, Nat.reduceEqDiff, ↓reduceIte, reduceCtorEq, ne_eq, implies_true, prim, YLD, mkA, V.cells, Nat.reduceAdd, Nat.reduceSub, Nat.reduceMul, Nat.reduceLeDiff, loadA, cellsAt, nAg, packA, List.drop, List.take, List.head?, binA, unA, eqCells, eqCell, negB, fillA, storeA, Ob.with, indexedI, V.oneCell, intOf?, resA, resA1, packR, sealDepth, Int.reduceLT, Int.reduceLE, Int.reduceToNat, Int.reduceNeg, Int.reduceAdd, Int.reduceSub, Int.reduceMul, cond_true, cond_false, Int.reduceBNe, Int.reduceBEq, eq_self, deads, List.replicate, argsF, g2]
  have hi : decide ((-1 : Int) ≥ 0) = false := by decide
  refine call_keep_eq at30 rfl rfl (by decide) (sx_wp ?_)
  simp +contextual -implicitDefEqProofs (maxSteps := 10000000) only [sxb, plainD, stays, ↓selV_wt, ↓selV_wf, ↓impB_wt, ↓impB_wf, ↓selV_nor, ↓impB_nor, ↓selV_nt, ↓selV_nf, ↓impB_nt, ↓impB_nf, ↓selV_true, ↓selV_false, ↓selV_and, ↓impB_true, ↓impB_false, ↓impB_and, ↓prim_pick, ↓selV_nn, ↓impB_nn, doOp, get, ins, del, dels, Nat.reduceLT, Nat.reduceEqDiff, ↓reduceIte, reduceCtorEq, ne_eq, implies_true, prim, YLD, mkA, V.cells, Nat.reduceAdd, Nat.reduceSub, Nat.reduceMul, Nat.reduceLeDiff, loadA, cellsAt, nAg, packA, List.drop, List.take, List.head?, binA, unA, eqCells, eqCell, negB, fillA, storeA, Ob.with, indexedI, V.oneCell, intOf?, resA, resA1, packR, sealDepth, Int.reduceLT, Int.reduceLE, Int.reduceToNat, Int.reduceNeg, Int.reduceAdd, Int.reduceSub, Int.reduceMul, cond_true, cond_false, Int.reduceBNe, Int.reduceBEq, eq_self, deads, List.replicate, argsF, am30, isNil, c58, hi, List.append_nil]
section
variable {N n : Nat} {K : Heap} {o v : Nat}
theorem of_bad (hN : 5 ≤ N) (hn : 4 ≤ n) {e : Int} (he : badE e = true) : callA am N n 9 [.view o v 0 64 1 (some 64), .sl [.int .i64 e] 1 (some 1)] K = some (.tup [.nilp, .int .i64 2], K) := by
  obtain ⟨n, rfl⟩ : ∃ m, n = m + 1 := ⟨n - 1, by omega⟩
  have c30 := @contains_one' N n hN (by omega) e K
  rw [he] at c30
  have if64 : ∀ a b : Option V, (if (64 : Int) = 0 then a else b) = b := fun a b => if_neg (by decide)
  have em : Int.tmod (64 : Int) 64 = 0 := rfl
  have g0 : ((0 : Int) != 0) = false := rfl
  refine call_keep_eq at9 rfl rfl (by decide) (sx_wp ?_)
  simp +contextual -implicitDefEqProofs (maxSteps := 10000000) only [sxb, plainD, stays, ↓selV_wt, ↓selV_wf, ↓impB_wt, ↓impB_wf, ↓selV_nor, ↓impB_nor, ↓selV_nt, ↓selV_nf, ↓impB_nt, ↓impB_nf, ↓selV_true, ↓selV_false, ↓selV_and, ↓impB_true, ↓impB_false, ↓impB_and, ↓prim_pick, ↓selV_nn, ↓impB_nn, doOp, get, ins, del, dels, Nat.reduceLT, Nat.reduceEqDiff, ↓reduceIte, reduceCtorEq, ne_eq, implies_true, prim, YLD, mkA, V.cells, Nat.reduceAdd, Nat.reduceSub, Nat.reduceMul, Nat.reduceLeDiff, loadA, cellsAt, nAg, packA, List.drop, List.take, List.head?, binA, unA, eqCells, eqCell, negB, fillA, storeA, Ob.with, indexedI, V.oneCell, intOf?, resA, resA1, packR, sealDepth, Int.reduceLT, Int.reduceLE, Int.reduceToNat, Int.reduceNeg, Int.reduceAdd, Int.reduceSub, Int.reduceMul, cond_true, cond_false, Int.reduceBNe, Int.reduceBEq, eq_self, deads, List.replicate, argsF, am9, if64, isNil, lenA, Int.cast_ofNat_Int, em, g0, c30, pm30, List.append_nil]
theorem of_none (hN : 5 ≤ N) (hn : 4 ≤ n) : ∃ L, callA am N n 9 [.view o v 0 64 1 (some 64), .nils] K = some (.tup [.nilp, .int .i64 2], K ++ L) := by
  obtain ⟨n, rfl⟩ : ∃ m, n = m + 1 := ⟨n - 1, by omega⟩
  have c30 := @contains_nil N n hN (by omega) K
  obtain ⟨H1, c15, l1, k1, -⟩ := @new_spec N n (by omega) 1 0 K
  have hn0 : newOk 1 0 = false := rfl
  rw [hn0] at c15
  simp only [cond_false] at c15
  obtain ⟨L, hL⟩ := ext_app (H := K) (H' := H1) (by omega) k1
  have if64 : ∀ a b : Option V, (if (64 : Int) = 0 then a else b) = b := fun a b => if_neg (by decide)
  have em : Int.tmod (64 : Int) 64 = 0 := rfl
  have eq : Int.tdiv (64 : Int) 64 = 1 := rfl
  have w1 : IntKind.i64.wrap 1 = 1 := by decide
  have g0 : ((0 : Int) != 0) = false := rfl
  have g2 : ((2 : Int) != 0) = true := rfl
  refine ⟨L, ?_⟩
  rw [← hL]
  refine call_keep_eq at9 rfl rfl (by decide) (sx_wp ?_)
  simp +contextual -implicitDefEqProofs (maxSteps := 10000000) only [sxb, plainD, stays, ↓selV_wt, ↓selV_wf, ↓impB_wt, ↓impB_wf, ↓selV_nor, ↓impB_nor, ↓selV_nt, ↓selV_nf, ↓impB_nt, ↓impB_nf, ↓selV_true, ↓selV_false, ↓selV_and, ↓impB_true, ↓impB_false, ↓impB_and, ↓prim_pick, ↓selV_nn, ↓impB_nn, doOp, get, ins, del, dels, Nat.reduceLT, Nat.reduceEqDiff, ↓reduceIte, reduceCtorEq, ne_eq, implies_true, prim, YLD, mkA, V.cells, Nat.reduceAdd, Nat.reduceSub, Nat.reduceMul, Nat.reduceLeDiff, loadA, cellsAt, nAg, packA, List.drop, List.take, List.head?, binA, unA, eqCells, eqCell, negB, fillA, storeA, Ob.with, indexedI, V.oneCell, intOf?, resA, resA1, packR, sealDepth, Int.reduceLT, Int.reduceLE, Int.reduceToNat, Int.reduceNeg, Int.reduceAdd, Int.reduceSub, Int.reduceMul, cond_true, cond_false, Int.reduceBNe, Int.reduceBEq, eq_self, deads, List.replicate, argsF, am9, if64, isNil, lenA, Int.cast_ofNat_Int, em, eq, w1, g0, c30, pm30, List.append_nil, c15, g2]
end
end Go.Am.T


set_option linter.unusedVariables false
set_option linter.unusedSimpArgs false
set_option maxRecDepth 10000
namespace Go.Am.T
attribute [local congr] selV_congr impB_congr
attribute [local irreducible] sx wp
theorem copy_ep1 {K : Heap} {d : Nat} {C : List V} (e : Int) (hd : K[d]? = some ⟨1, .var C⟩) (hC : C.length = 14) :
    copyA (fun o => K[o]?) 1 (.view d 1 1 8 1 (some 8)) (.sl [.int .i64 e] 1 (some 1)) = some (.set d ⟨1, .var (setRange C 1 [.int .i64 e])⟩ (.int .i64 1)) := by
  have hs : 1 + 1 ≤ 14 := by omega
  have e1 : Nat.min (0 + 1) 8 = 1 := rfl
  have ec : V.cells (.int .i64 e) = [.int .i64 e] := rfl
  have eo : V.oneCell (.int .i64 e) = true := rfl
  simp only [copyA, lenA, firstA, storeA, cellsAt, hd, hC, List.length_cons, List.length_nil, e1, ↓reduceIte, Nat.le_refl, List.take_succ_cons, List.take_zero, List.flatMap_cons, List.flatMap_nil, ec, List.append_nil, List.all_cons, List.all_nil, eo, Bool.and_true, Nat.zero_add, hs, Nat.one_ne_zero, Ob.with]
  rfl
set_option maxHeartbeats 2000000 in
theorem of_one {N n : Nat} (hN : 5000 ≤ N) (hn : 4 ≤ n) {H : Heap} {ob vb : Nat} {B : List Int} {e : Int} (hb : H[ob]? = some ⟨vb, .arr (B.map (V.int .u8))⟩) (hB : B.length = 64) (he : badE e = false) :
    ∃ H', callA am N n 9 [.view ob vb 0 64 1 (some 64), .sl [.int .i64 e] 1 (some 1)] H = some (.tup [.ptr (H.length + 1) 1 0, .int .i64 0], H') ∧ H.length ≤ H'.length ∧ (∀ p, p < H.length → H'[p]? = H[p]?) ∧
      DAt H' (H.length + 1) H.length (ofD B [e]) := by
  obtain ⟨n, rfl⟩ : ∃ m, n = m + 1 := ⟨n - 1, by omega⟩
  suffices Hs : ∃ W H', callA am N (n + 1) 9 [.view ob vb 0 64 1 (some 64), .sl [.int .i64 e] 1 (some 1)] H = some (W, H') ∧ W = .tup [.ptr (H.length + 1) 1 0, .int .i64 0] ∧ H.length ≤ H'.length ∧ (∀ p, p < H.length → H'[p]? = H[p]?) ∧
      DAt H' (H.length + 1) H.length (ofD B [e]) by
    obtain ⟨W, H', h1, rfl, h2⟩ := Hs
    exact ⟨H', h1, h2⟩
  have c30 := @contains_one' N n (by omega) (by omega) e H
  rw [he] at c30
  obtain ⟨H1, c15, h1l, h1k, h1r⟩ := @new_spec N n (by omega) 1 1 H
  have hn1 : newOk 1 1 = true := rfl
  obtain ⟨-, h1e⟩ := h1r hn1
  rw [hn1] at c15
  simp only [cond_true] at c15
  have if64 : ∀ a b : Option V, (if (64 : Int) = 0 then a else b) = b := fun a b => if_neg (by decide)
  have em : Int.tmod (64 : Int) 64 = 0 := rfl
  have eq : Int.tdiv (64 : Int) 64 = 1 := rfl
  have wq : IntKind.i64.wrap 1 = 1 := by decide
  have g0 : ((0 : Int) != 0) = false := rfl
  have go : ofOk B [e] = true := by simp only [ofOk, hB, List.any_cons, List.any_nil, he]; rfl
  have okD := ofD_ok go
  obtain ⟨Xv, hXv⟩ : ∃ Xv : V, Xv = .view H.length 1 0 1 64 (some 1) := ⟨_, rfl⟩
  obtain ⟨C0, hC0⟩ : ∃ C0 : List V, C0 = (newD 1 1).cs Xv := ⟨_, rfl⟩
  have h1e : H1 = H ++ [⟨1, .arr ((List.replicate 64 (0 : Int)).map (V.int .u8))⟩, ⟨1, .var C0⟩] := by rw [h1e, hC0, hXv]; rfl
  have lC0 : C0.length = 14 := by rw [hC0]; rfl
  have hC1 : setRange C0 1 [.int .i64 e] = (ofD B [e]).cs Xv := by rw [hC0]; rfl
  have lC1 : ((ofD B [e]).cs Xv).length = 14 := dv_len okD.e8
  have tC1 : List.take 1 ((ofD B [e]).cs Xv) = [Xv] := rfl
  subst h1e
  have cp := @copy_ep1 (H ++ [⟨1, .arr ((List.replicate 64 (0 : Int)).map (V.int .u8))⟩, ⟨1, .var C0⟩]) (H.length + 1) C0 e (by rw [app_get]; rfl) lC0
  rw [hC1] at cp
  have sl : ∀ (get : Nat → Option Ob), sliceA get 1 (.view ob vb 0 64 1 (some 64)) (some (.int .i64 0)) none none = some (.view ob vb 0 64 1 (some 64)) := fun get => rfl
  have fl : ∀ Y Z : List V, Y.length = 64 → Z.length = 64 → setRange Y 0 Z = Z := fun Y Z h1 h2 => by
    unfold setRange
    rw [List.take_zero, List.nil_append, h2, List.drop_eq_nil_of_le (by omega), List.append_nil]
  have l64 : (B.map (V.int .u8)).length = 64 := by simp [hB]
  have lz : ((List.replicate 64 (0 : Int)).map (V.int .u8)).length = 64 := by simp
  have fs := fl _ _ lz l64
  have o64 := ints_one .u8 B
  have tk : List.take 64 (B.map (V.int .u8)) = B.map (V.int .u8) := List.take_of_length_le (by omega)
  have gl0 : decide ((0 : Int) < 1) = true := by decide
  have gl1 : decide ((1 : Int) < 1) = false := by decide
  have w0 : IntKind.i64.wrap (0 * 64) = 0 := by decide
  have w1 : IntKind.i64.wrap (0 + 1) = 1 := by decide
  have hbK : ∀ L : List Ob, (H ++ L : Heap)[ob]? = some ⟨vb, .arr (B.map (V.int .u8))⟩ := fun L => by rw [List.getElem?_append_left (lt_of_get hb)]; exact hb
  refine call_keep at9 rfl rfl (by decide) (sx_wp ?_)
  generalize hC1v : (ofD B [e]).cs Xv = C1 at *
  generalize hEi : (List.replicate 64 (0 : Int)).map (V.int .u8) = Ei at *
  generalize has : B.map (V.int .u8) = as at *
  simp +contextual -implicitDefEqProofs (maxSteps := 10000000) only [sxb, plainD, stays, ↓selV_wt, ↓selV_wf, ↓impB_wt, ↓impB_wf, ↓selV_nor, ↓impB_nor, ↓selV_nt, ↓selV_nf, ↓impB_nt, ↓impB_nf, ↓selV_true, ↓selV_false, ↓selV_and, ↓impB_true, ↓impB_false, ↓impB_and, ↓prim_pick, ↓selV_nn, ↓impB_nn, doOp, get, ins, del, dels, Nat.reduceLT, Nat.reduceEqDiff, ↓reduceIte, reduceCtorEq, ne_eq, implies_true, prim, YLD, mkA, V.cells, Nat.reduceAdd, Nat.reduceSub, Nat.reduceMul, Nat.reduceLeDiff, loadA, cellsAt, nAg, packA, List.drop, List.take, List.head?, binA, unA, eqCells, eqCell, negB, fillA, storeA, Ob.with, indexedI, V.oneCell, intOf?, resA, resA1, packR, sealDepth, Int.reduceLT, Int.reduceLE, Int.reduceToNat, Int.reduceNeg, Int.reduceAdd, Int.reduceSub, Int.reduceMul, cond_true, cond_false, Int.reduceBNe, Int.reduceBEq, eq_self, deads, List.replicate, argsF, am9, if64, isNil, lenA, Int.cast_ofNat_Int, em, eq, wq, g0, c30, pm30, c15, List.append_nil, boundsA, Option.isNone, app_get0, app_get, app_set0, app_set, lC0, cp, lC1, tC1, hXv]
  refine sx_unroll 2 (by show 2 ≤ N; omega) ?_
  simp +contextual -implicitDefEqProofs (maxSteps := 10000000) only [sxb, plainD, stays, ↓selV_wt, ↓selV_wf, ↓impB_wt, ↓impB_wf, ↓selV_nor, ↓impB_nor, ↓selV_nt, ↓selV_nf, ↓impB_nt, ↓impB_nf, ↓selV_true, ↓selV_false, ↓selV_and, ↓impB_true, ↓impB_false, ↓impB_and, ↓prim_pick, ↓selV_nn, ↓impB_nn, doOp, get, ins, del, dels, Nat.reduceLT, Nat.reduceEqDiff, ↓reduceIte, reduceCtorEq, ne_eq, implies_true, prim, YLD, mkA, V.cells, Nat.reduceAdd, Nat.reduceSub, Nat.reduceMul, Nat.reduceLeDiff, loadA, cellsAt, nAg, packA, List.drop, List.take, List.head?, binA, unA, eqCells, eqCell, negB, fillA, storeA, Ob.with, indexedI, V.oneCell, intOf?, resA, resA1, packR, sealDepth, Int.reduceLT, Int.reduceLE, Int.reduceToNat, Int.reduceNeg, Int.reduceAdd, Int.reduceSub, Int.reduceMul, cond_true, cond_false, Int.reduceBNe, Int.reduceBEq, eq_self, deads, List.replicate, argsF, gl0, app_get0, app_get, app_set0, app_set, lC1, tC1, hXv, w0, sl, s2apA, hbK, tk, l64, lz, o64, iaddrSA, fs, w1, gl1]
  refine ⟨by simp, fun p hp => List.getElem?_append_left hp, okD, ⟨1, some 1, ?_, ?_⟩, by omega⟩
  · rw [app_get, ← hC1v, hXv, show (ofD B [e]).S.length = 1 from by simp [ofD, chunks, hB]]; rfl
  · rw [app_get0, ← has, show (ofD B [e]).S.flatten = B from chunks_flat (by rw [hB])]; rfl
end Go.Am.T


set_option linter.unusedVariables false
set_option linter.unusedSimpArgs false
set_option maxRecDepth 10000
namespace Go.Am.T
attribute [local congr] selV_congr impB_congr
attribute [local irreducible] sx wp
theorem RdS.nils {H : Heap} {X : List Nat} : RdS H X .nils [] := ⟨rfl, fun b => V.noConfusion, ⟨rfl, V.noConfusion⟩, fun v h => (by cases h), fun i h => (by cases h)⟩
set_option maxHeartbeats 4000000 in
theorem nilLaw_spec {N n : Nat} (hN : 10000 ≤ N) (hn : 30 ≤ n) (H : Heap) : callA am N n 7 [] H = some (.bool true, H) := by
  obtain ⟨n, rfl⟩ : ∃ m, n = m + 1 := ⟨n - 1, by omega⟩
  obtain ⟨H1, c15, l1, k1, r1⟩ := @new_spec N n (by omega) 4096 8 [⟨0, .dead⟩, ⟨0, .dead⟩, ⟨0, .dead⟩, ⟨0, .dead⟩]
  have hn1 : newOk 4096 8 = true := rfl
  obtain ⟨D1, -⟩ := r1 hn1
  rw [hn1] at c15
  simp only [cond_true] at c15
  simp only [List.length_cons, List.length_nil, Nat.zero_add, Nat.reduceAdd] at c15 l1 k1 D1
  -- the big device
  obtain ⟨A0, hA0⟩ : ∃ A0 : Dv, A0 = newD (Int.toNat 4096) (Int.toNat 8) := ⟨_, rfl⟩
  have aS : A0.S.length = 4096 := by rw [hA0]; show (List.replicate (Int.toNat 4096) zeroS).length = 4096; rw [List.length_replicate]; rfl
  rw [← hA0] at D1
  have z : (List.replicate 64 [V.int .u8 0]).flatten = zeroS.map (V.int .u8) := rfl
  simp only [List.replicate] at z
  have m64 : 64 ≤ maxBytes := by unfold maxBytes; omega
  -- a device of one sector and one epoch, the greatest
  have g10 : H1[0]? = some ⟨0, .dead⟩ := k1 0 (by omega)
  obtain ⟨K1, hK1⟩ : ∃ K1 : Heap, K1 = H1.set 0 ⟨1, .arr (zeroS.map (V.int .u8))⟩ := ⟨_, rfl⟩
  have e1 : H1.set 0 ⟨1, .arr (zeroS.map (V.int .u8))⟩ = K1 := hK1.symm
  have kl1 : K1.length = 6 := by rw [hK1, List.length_set, l1]
  have kk1 : ∀ p, p ≠ 0 → K1[p]? = H1[p]? := fun p hp => by rw [hK1, List.getElem?_set_ne (by omega)]
  have D2 : DAt K1 5 4 A0 := D1.keep fun p hp => kk1 p (by omega)
  obtain ⟨H2, c9, l2, k2, E2⟩ := @of_one N n (by omega) (by omega) K1 0 1 zeroS 2147483647 (by rw [hK1]; exact List.getElem?_set_self (by omega)) rfl rfl
  rw [kl1] at c9 l2 k2 E2
  have l2' : 8 ≤ H2.length := E2.lt.1
  have D3 : DAt H2 5 4 A0 := D2.keep fun p hp => k2 p (by omega)
  obtain ⟨B0, hB0⟩ : ∃ B0 : Dv, B0 = ofD zeroS [2147483647] := ⟨_, rfl⟩
  rw [← hB0] at E2
  -- its node may not come up
  obtain ⟨H3, c27, l3, k3, E3⟩ := @up_spec N n (by omega) H2 7 6 B0 E2 0
  have hu : B0.upR 0 = [.int .i64 0, .int .i64 5] := by rw [hB0]; rfl
  have hu' : B0.up 0 = B0 := by rw [hB0]; rfl
  rw [hu] at c27
  rw [hu'] at E3
  have D4 : DAt H3 5 4 A0 := D3.keep fun p hp => k3 p (by omega) (by omega)
  -- an epoch too great
  have g31 : H3[1]? = some ⟨0, .dead⟩ := by rw [k3 1 (by omega) (by omega), k2 1 (by omega), kk1 1 (by omega)]; exact k1 1 (by omega)
  obtain ⟨K3, hK3⟩ : ∃ K3 : Heap, K3 = H3.set 1 ⟨1, .arr (zeroS.map (V.int .u8))⟩ := ⟨_, rfl⟩
  have e3 : H3.set 1 ⟨1, .arr (zeroS.map (V.int .u8))⟩ = K3 := hK3.symm
  have kl3 : K3.length = H3.length := by rw [hK3, List.length_set]
  have kk3 : ∀ p, p ≠ 1 → K3[p]? = H3[p]? := fun p hp => by rw [hK3, List.getElem?_set_ne (by omega)]
  have D5 : DAt K3 5 4 A0 := D4.keep fun p hp => kk3 p (by omega)
  have E5 : DAt K3 7 6 B0 := E3.keep fun p hp => kk3 p (by omega)
  have cb := @of_bad N n K3 1 1 (by omega) (by omega) 2147483648 rfl
  -- no epochs
  have g32 : K3[2]? = some ⟨0, .dead⟩ := by rw [kk3 2 (by omega), k3 2 (by omega) (by omega), k2 2 (by omega), kk1 2 (by omega)]; exact k1 2 (by omega)
  obtain ⟨K4, hK4⟩ : ∃ K4 : Heap, K4 = K3.set 2 ⟨1, .arr (zeroS.map (V.int .u8))⟩ := ⟨_, rfl⟩
  have e4 : K3.set 2 ⟨1, .arr (zeroS.map (V.int .u8))⟩ = K4 := hK4.symm
  have kl4 : K4.length = H3.length := by rw [hK4, List.length_set, kl3]
  have kk4 : ∀ p, p ≠ 2 → K4[p]? = K3[p]? := fun p hp => by rw [hK4, List.getElem?_set_ne (by omega)]
  obtain ⟨L5, cn⟩ := @of_none N n K4 2 1 (by omega) (by omega)
  obtain ⟨K5, hK5⟩ : ∃ K5 : Heap, K5 = K4 ++ L5 := ⟨_, rfl⟩
  rw [← hK5] at cn
  have D6 : DAt K5 5 4 A0 := by rw [hK5]; exact (D5.keep fun p hp => kk4 p (by omega)).app _
  have E6 : DAt K5 7 6 B0 := by rw [hK5]; exact (E5.keep fun p hp => kk4 p (by omega)).app _
  have g53 : K5[3]? = some ⟨0, .dead⟩ := by
    rw [hK5, List.getElem?_append_left (by omega), kk4 3 (by omega), kk3 3 (by omega), k3 3 (by omega) (by omega), k2 3 (by omega), kk1 3 (by omega)]; exact k1 3 (by omega)
  have l5 : 8 ≤ K5.length := by rw [hK5, List.length_append]; omega
  -- fences of the greatest epoch
  obtain ⟨H6, cf1, l6, k6, E7⟩ := @fence_spec N n (by omega) K5 7 6 B0 E6 0 2147483647 0 2147483647
  have hf1 : B0.who 0 2147483647 (B0.may 0 2147483647) = 2 := by rw [hB0]; rfl
  have hf1' : B0.fence 0 2147483647 0 2147483647 = B0 := by rw [hB0]; rfl
  rw [hf1] at cf1
  rw [hf1'] at E7
  have D7 : DAt H6 5 4 A0 := D6.keep fun p hp => k6 p (by omega) (by omega)
  obtain ⟨H7, cf2, l7, k7, E8⟩ := @fence_spec N n (by omega) H6 7 6 B0 E7 0 2147483647 0 2147483646
  have hf2 : B0.who 0 2147483647 (B0.may 0 2147483646) = 0 := by rw [hB0]; rfl
  rw [hf2] at cf2
  have D8 : DAt H7 5 4 A0 := D7.keep fun p hp => k7 p (by omega) (by omega)
  -- writes at the end, and beyond
  obtain ⟨H8, cw1, l8, k8, D9⟩ := @write_spec N n (by omega) (by omega) H7 5 4 A0 D8 7 0 4096 .nils [] RdS.nils
  have wh : ∀ f, A0.wrR 7 0 f [] = bif A0.room f 0 then 0 else 2 := fun f => by
    show A0.who 7 0 (A0.room f 0) = _
    cases A0.room f 0 <;> (rw [hA0]; rfl)
  have r1 : A0.room 4096 0 = true := by simp [Dv.room, aS]
  have r2 : A0.room 4097 0 = false := by simp [Dv.room, aS]
  have r3 : A0.wrR 7 (-1) 0 [] = 2 := by
    show A0.who 7 (-1) (A0.room 0 0) = _
    cases A0.room 0 0 <;> (rw [hA0]; rfl)
  have a1 : A0.wr 7 0 4096 [] = A0 := by unfold Dv.wr; cases A0.wrR 7 0 4096 [] == 0 <;> rfl
  have a2 : A0.wr 7 0 4097 [] = A0 := by unfold Dv.wr; cases A0.wrR 7 0 4097 [] == 0 <;> rfl
  have a3 : A0.wr 7 (-1) 0 [] = A0 := by unfold Dv.wr; cases A0.wrR 7 (-1) 0 [] == 0 <;> rfl
  rw [wh, r1] at cw1
  rw [a1] at D9
  obtain ⟨H9, cw2, l9, k9, D10⟩ := @write_spec N n (by omega) (by omega) H8 5 4 A0 D9 7 0 4097 .nils [] RdS.nils
  rw [wh, r2] at cw2
  rw [a2] at D10
  obtain ⟨H10, cw3, l10, k10, D11⟩ := @write_spec N n (by omega) (by omega) H9 5 4 A0 D10 7 (-1) 0 .nils [] RdS.nils
  rw [r3] at cw3
  rw [a3] at D11
  simp only [cond_true, cond_false] at cw1 cw2
  -- cut, cut again, whole
  obtain ⟨H11, cc1, l11, k11, D12⟩ := @cut_spec N n (by omega) H10 5 4 A0 D11 0 (by omega)
  have b1 : A0.cut = false := by rw [hA0]; rfl
  have b0 : decide ((0 : Int) < 0) = false := by decide
  simp only [b1, b0, cond_false, Bool.or_false] at cc1 D12
  obtain ⟨H12, cc2, l12, k12, D13⟩ := @cut_spec N n (by omega) H11 5 4 _ D12 0 (by omega)
  have b2 : (A0.cutAt 0).cut = true := rfl
  simp only [b2, b0, cond_false, cond_true, Bool.or_true] at cc2 D13
  obtain ⟨H13, cw, l13, k13, D14⟩ := @whole_spec N n (by omega) H12 5 4 _ D13
  have b3 : (A0.cutAt 0).lost = false := rfl
  rw [b3] at cw
  -- no device, and a zero one
  obtain ⟨H14, cn1, l14, k14⟩ := @nothing_off N n (by omega) (by omega) H13 .nilp (.inl rfl)
  have D15 : DAt H14 5 4 _ := D14.keep fun p hp => k14 p (by omega)
  have g143 : H14[3]? = some ⟨0, .dead⟩ := by
    rw [k14 3 (by omega), k13 3 (by omega), k12 3 (by omega), k11 3 (by omega), k10 3 (by omega) (by omega) (by omega), k9 3 (by omega) (by omega) (by omega), k8 3 (by omega) (by omega) (by omega), k7 3 (by omega) (by omega), k6 3 (by omega) (by omega)]; exact g53
  obtain ⟨K14, hK14⟩ : ∃ K14 : Heap, K14 = H14.set 3 ⟨1, .var zc⟩ := ⟨_, rfl⟩
  have e14 : H14.set 3 ⟨1, .var zc⟩ = K14 := hK14.symm
  unfold zc at e14
  have kl14 : K14.length = H14.length := by rw [hK14, List.length_set]
  have kk14 : ∀ p, p ≠ 3 → K14[p]? = H14[p]? := fun p hp => by rw [hK14, List.getElem?_set_ne (by omega)]
  have D16 : DAt K14 5 4 _ := D15.keep fun p hp => kk14 p (by omega)
  obtain ⟨H15, cn2, l15, k15⟩ := @nothing_off N n (by omega) (by omega) K14 (.ptr 3 1 0) (.inr ⟨3, rfl, by rw [hK14]; exact List.getElem?_set_self (by omega)⟩)
  have D17 : DAt H15 5 4 _ := D16.keep fun p hp => k15 p (by omega)
  have cs := @same_nil N n (by omega) H15 _ _ D17.looks
  have ck := @known_spec N n (by omega) (by omega)
  have cnum := fun x H => @num_spec N n (by omega) x H
  have ms : ∀ e, List.map (fun i => wrapV (List.take 1 (List.drop i [V.int .i64 e]))) (List.range 1) = [.int .i64 e] := fun e => rfl
  have wz : IntKind.i64.wrap (0 + 0) = 0 := by decide
  refine call_pure at7 rfl rfl (by decide) rfl (sx_wp ?_)
  simp +contextual -implicitDefEqProofs (maxSteps := 10000000) only [sxb, plainD, stays, ↓selV_wt, ↓selV_wf, ↓impB_wt, ↓impB_wf, ↓selV_nor, ↓impB_nor, ↓selV_nt, ↓selV_nf, ↓impB_nt, ↓impB_nf, ↓selV_true, ↓selV_false, ↓selV_and, ↓impB_true, ↓impB_false, ↓impB_and, ↓prim_pick, ↓selV_nn, ↓impB_nn, doOp, get, ins, del, dels, Nat.reduceLT, Nat.reduceEqDiff, ↓reduceIte, reduceCtorEq, ne_eq, implies_true, prim, YLD, mkA, V.cells, Nat.reduceAdd, Nat.reduceSub, Nat.reduceMul, Nat.reduceLeDiff, loadA, cellsAt, nAg, packA, List.drop, List.take, List.head?, binA, unA, eqCells, eqCell, negB, fillA, storeA, Ob.with, indexedI, V.oneCell, intOf?, resA, resA1, packR, sealDepth, Int.reduceLT, Int.reduceLE, Int.reduceToNat, Int.reduceNeg, Int.reduceAdd, Int.reduceSub, Int.reduceMul, cond_true, cond_false, Int.reduceBNe, Int.reduceBEq, eq_self, deads, List.replicate, argsF, am7, isNil, ms, c15, g10, z, m64, e1, c9, c27, g31, e3, cb, g32, e4, cn, cf1, cf2, List.append_nil, cnum, pm11, pm22, pm25, pm20, pm28, pm17, pm8, wz, cw1, cw2, cw3, cc1, cc2, cw, cn1, g143, e14, cn2, cs, ck]
theorem runsDeviceNil : callA am 10000 30 7 [] [] = some (.bool true, []) := nilLaw_spec (Nat.le_refl _) (Nat.le_refl _) []
end Go.Am.T

