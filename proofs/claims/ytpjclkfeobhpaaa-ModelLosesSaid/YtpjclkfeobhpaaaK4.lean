import Derived.Test.YtpjclkfeobhpaaaK3
set_option linter.unusedVariables false
set_option linter.unusedSimpArgs false
set_option linter.unusedSectionVars false
set_option maxRecDepth 10000
namespace Go.Am.T
attribute [local congr] selV_congr impB_congr
structure Bey (H H' : Heap) (a m : Nat) (Q Q' : List Pg) (O O' : List Od) : Prop where
  len : H.length ≤ H'.length
  oth : ∀ x, x < H.length → ¬ Own a m Q O x → H'[x]? = H[x]?
  new : ∀ x, Own a m Q' O' x → Own a m Q O x ∨ H.length ≤ x
theorem Bey.app {H : Heap} {a m : Nat} {Q : List Pg} {O : List Od} (l : Heap) : Bey H (H ++ l) a m Q Q O O :=
  ⟨by simp, fun x hx _ => List.getElem?_append_left hx, fun x hx => .inl hx⟩
theorem am11_wp {N n : Nat} {args : List V} {h : Heap} {C : V → Heap → Prop} (ha : args.length = 4) (H : sx ⟨pureOf am, callA am N n, N, h.length⟩ am11.body (fr am11.nt (argsF 0 args)) (h ++ deads am11.sites) (retQ am11.res C)) : ∃ v h', callA am N (n + 1) 11 args h = some (v, h') ∧ C v h' :=
  call_keep at11 rfl ha (by decide) (sx_wp H)
theorem am11_eq {N n : Nat} {args : List V} {h h' : Heap} {v : V} (ha : args.length = 4) (H : sx ⟨pureOf am, callA am N n, N, h.length⟩ am11.body (fr am11.nt (argsF 0 args)) (h ++ deads am11.sites) (retQ am11.res fun x k => x = v ∧ k = h')) : callA am N (n + 1) 11 args h = some (v, h') :=
  call_keep_eq at11 rfl ha (by decide) (sx_wp H)
theorem write_bad {N n : Nat} (hn : 6 ≤ n) {H : Heap} {a m : Nat} {nn : Int} {Q : List Pg} {O : List Od} (h : MdAt H a m nn Q O) (hp1 : 1 ≤ nn) (w : Int × Int) (p : Int) (hb : badA nn w p 0 = true) (B : List V) :
    ∃ v' H', callA am N n 11 [.ptr a 1 0, .agg (pcs w), .int .i64 p, .agg B] H = some (v', H') ∧ v' = .tup [.int .i64 0, .int .i64 2] ∧ ∃ tl, H' = H ++ tl := by
  obtain ⟨n, rfl⟩ : ∃ m, n = m + 1 := ⟨n - 1, by omega⟩
  have hm := h.app [(⟨1, .var (pcs w)⟩ : Ob), ⟨1, .var B⟩, ⟨0, .dead⟩, ⟨0, .dead⟩, ⟨0, .dead⟩]
  have c29 := @ask_spec N n (by omega) _ a m nn Q h.q16 hp1 hm.ob' w p 0
  have eA : askE nn w p 0 = 2 := by unfold askE; rw [hb]; rfl
  rw [eA] at c29
  unfold pcs at c29 ⊢
  refine am11_wp rfl ?_
  simp +contextual -implicitDefEqProofs (maxSteps := 10000000) only [sxb, plainD, stays, ↓selV_wt, ↓selV_wf, ↓impB_wt, ↓impB_wf, ↓selV_nor, ↓impB_nor, ↓selV_nt, ↓selV_nf, ↓impB_nt, ↓impB_nf, ↓selV_true, ↓selV_false, ↓selV_and, ↓impB_true, ↓impB_false, ↓impB_and, ↓prim_pick, ↓selV_nn, ↓impB_nn, doOp, get, ins, del, dels, Nat.reduceLT, Nat.reduceEqDiff, ↓reduceIte, reduceCtorEq, ne_eq, implies_true, prim, YLD, mkA, V.cells, Nat.reduceAdd, Nat.reduceSub, Nat.reduceMul, Nat.reduceLeDiff, loadA, cellsAt, nAg, packA, List.drop, List.take, List.head?, binA, unA, eqCells, eqCell, negB, fillA, storeA, Ob.with, indexedI, V.oneCell, intOf?, resA, resA1, packR, sealDepth, Int.reduceLT, Int.reduceLE, Int.reduceToNat, Int.reduceNeg, Int.reduceAdd, Int.reduceSub, Int.reduceMul, cond_true, cond_false, Int.reduceBNe, Int.reduceBEq, eq_self, deads, List.replicate, argsF, am11, app_get0, app_get, app_set0, app_set, c29, List.append_assoc]
  exact ⟨_, rfl⟩
theorem badA_page {nn : Int} {w : Int × Int} {p k : Int} (h : badA nn w p k = false) : 0 ≤ p ∧ p < nn ∧ badA nn (0, 1) p 0 = false := by
  unfold badA at h ⊢
  simp only [Bool.or_eq_false_iff, decide_eq_false_iff_not] at h ⊢
  obtain ⟨h1, h2, h3, h4, h5, h6, h7⟩ := h
  refine ⟨by omega, by omega, by omega, by omega, by omega, by omega, by omega, by omega, by omega⟩
set_option maxHeartbeats 2000000 in
theorem write_spec {N n : Nat} (hN : 5000 ≤ N) (hn : 8 ≤ n) {H : Heap} {a m : Nat} {nn : Int} {Q : List Pg} {O : List Od} (h : MdAt H a m nn Q O) (hp1 : 1 ≤ nn) {w : Int × Int} {p : Nat} (hb : badA nn w p 0 = false) {q : Pg} (hq : Q[p]? = some q) (hl : q.l.length ≤ 4096) {B : List Int} (hB : B.length = 96)
    (hO : (ordOf O w).length ≤ 100000) :
    ∃ v' H', callA am N n 11 [.ptr a 1 0, .agg (pcs w), .int .i64 p, .agg (B.map (V.int .u8))] H = some (v', H') ∧
      (((whoseW q.l).2 = true ∧ (whoseW q.l).1 ≠ w ∧ v' = .tup [.int .i64 0, .int .i64 11] ∧ MdAt H' a m nn Q O ∧ Bey H H' a m Q Q O O) ∨
       (¬ ((whoseW q.l).2 = true ∧ (whoseW q.l).1 ≠ w) ∧ q.l.length = 4096 ∧ v' = .tup [.int .i64 0, .int .i64 5] ∧ MdAt H' a m nn Q O ∧ Bey H H' a m Q Q O O) ∨
       (¬ ((whoseW q.l).2 = true ∧ (whoseW q.l).1 ≠ w) ∧ q.l.length < 4096 ∧ v' = .tup [.int .i64 (q.l.length + 1 : Nat), .int .i64 0] ∧ ∃ W' R' W2 R2, MdAt H' a m nn (Q.set p ⟨q.l ++ [⟨w.1, w.2, p, (q.l.length + 1 : Nat), B, false⟩], W', R'⟩) (putO ⟨w, ordOf O w ++ [((p : Int), (q.l.length : Int))], W2, R2⟩ O) ∧
         Bey H H' a m Q (Q.set p ⟨q.l ++ [⟨w.1, w.2, p, (q.l.length + 1 : Nat), B, false⟩], W', R'⟩) O (putO ⟨w, ordOf O w ++ [((p : Int), (q.l.length : Int))], W2, R2⟩ O))) := by
  obtain ⟨n, rfl⟩ : ∃ m, n = m + 1 := ⟨n - 1, by omega⟩
  obtain ⟨hp0, hpn, hb1⟩ := badA_page hb
  obtain ⟨hs, ehs⟩ : ∃ hs, hs = H ++ [(⟨1, .var (pcs w)⟩ : Ob), ⟨1, .var (B.map (V.int .u8))⟩, ⟨0, .dead⟩, ⟨0, .dead⟩, ⟨0, .dead⟩] := ⟨_, rfl⟩
  have hm := h.app [(⟨1, .var (pcs w)⟩ : Ob), ⟨1, .var (B.map (V.int .u8))⟩, ⟨0, .dead⟩, ⟨0, .dead⟩, ⟨0, .dead⟩]
  rw [← ehs] at hm
  have c29 := @ask_spec N n (by omega) _ a m nn Q h.q16 hp1 hm.ob' w p 0
  have eA : askE nn w p 0 = 0 := by unfold askE; rw [hb]; rfl
  rw [eA] at c29
  have hm2 := hm.app [(⟨1, .var (pcs w)⟩ : Ob)]
  obtain ⟨vw, h3, c24, rfl, tl, e3⟩ := @whose_spec N n hN (by omega) _ a m nn Q O hm2 hp1 p hb1 q hq hl
  have hm3 := hm2.app tl
  rw [← e3] at hm3
  have e3' : h3 = H ++ ([(⟨1, .var (pcs w)⟩ : Ob), ⟨1, .var (B.map (V.int .u8))⟩, ⟨0, .dead⟩, ⟨0, .dead⟩, ⟨0, .dead⟩] ++ ([(⟨1, .var (pcs w)⟩ : Ob)] ++ tl)) := by rw [e3, ehs]; simp only [List.append_assoc]
  have hl3 : H.length + 5 ≤ h3.length := by rw [e3']; simp
  have g0 : h3[H.length]? = some ⟨1, .var (pcs w)⟩ := by rw [e3', List.cons_append, app_get0]; rfl
  have g1 : h3[H.length + 1]? = some ⟨1, .var (B.map (V.int .u8))⟩ := by rw [e3', app_get]; rfl
  have g2 : h3[H.length + 2]? = some ⟨0, .dead⟩ := by rw [e3', app_get]; rfl
  have g3 : h3[H.length + 3]? = some ⟨0, .dead⟩ := by rw [e3', app_get]; rfl
  have g4 : h3[H.length + 4]? = some ⟨0, .dead⟩ := by rw [e3', app_get]; rfl
  have gl : ∀ x, x < H.length → h3[x]? = H[x]? := fun x hx => by rw [e3', List.getElem?_append_left hx]
  generalize hwh : whoseW q.l = wh at *
  obtain ⟨⟨t1, t2⟩, tb⟩ := wh
  obtain ⟨h2, e2⟩ : ∃ h2, h2 = hs ++ [(⟨1, .var (pcs w)⟩ : Ob)] := ⟨_, rfl⟩
  rw [← e2] at c29 c24
  have own : ∀ k, ¬ Own a m Q O (H.length + k) := fun k hk => by have := h.lt _ hk; omega
  have hm4 := hm3.set ⟨1, .var (pcs (t1, t2))⟩ (own 2)
  obtain ⟨h4, e4⟩ : ∃ h4, h4 = h3.set (H.length + 2) ⟨1, .var (pcs (t1, t2))⟩ := ⟨_, rfl⟩
  rw [← e4] at hm4
  have al := h.lta
  have l4 : h4.length = h3.length := by rw [e4]; simp
  have al3 : a < h3.length := by omega
  have k0 : h4[H.length]? = some ⟨1, .var (pcs w)⟩ := by rw [e4, List.getElem?_set_ne (by omega)]; exact g0
  have k1 : h4[H.length + 1]? = some ⟨1, .var (B.map (V.int .u8))⟩ := by rw [e4, List.getElem?_set_ne (by omega)]; exact g1
  have k2 : h4[H.length + 2]? = some ⟨1, .var (pcs (t1, t2))⟩ := by rw [e4, List.getElem?_set_self (by omega)]
  have k3 : h4[H.length + 3]? = some ⟨0, .dead⟩ := by rw [e4, List.getElem?_set_ne (by omega)]; exact g3
  have k4 : h4[H.length + 4]? = some ⟨0, .dead⟩ := by rw [e4, List.getElem?_set_ne (by omega)]; exact g4
  have kl : ∀ x, x < H.length → h4[x]? = H[x]? := fun x hx => by rw [e4, List.getElem?_set_ne (by omega)]; exact gl x hx
  have B4 : Bey H h4 a m Q Q O O := ⟨by omega, fun x hx _ => kl x hx, fun x hx => .inl hx⟩
  have e4' := e4.symm
  have oa := hm4.ob'
  have hrow := hm4.pg q (List.mem_of_getElem? hq)
  have hlen := hrow.len
  obtain ⟨w1, w2, w3, w4, w5, w6⟩ := hrow.shape
  have hp16 : p < 16 := by rw [← h.q16]; exact (List.getElem?_eq_some_iff.1 hq).1
  have hp16' : ((p : Int) < 16) := by omega
  have hpl : p + 1 ≤ 18 := by omega
  have qp := @mcs_p Q nn m p q hq
  have ql := @mcs_len Q nn m h.q16
  have l2 : H.length + 2 < h3.length := by omega
  obtain ⟨nd, ep⟩ := w
  unfold pcs at *
  simp only at *
  have bl : (B.map (V.int .u8)).length = 96 := by simp [hB]
  subst ehs
  clear e3 e3' e2
  by_cases hA : tb = true ∧ (t1, t2) ≠ (nd, ep)
  · obtain ⟨rfl, hne⟩ := hA
    have hq1 : ((t1 == nd) && (t2 == ep)) = false := by
      rw [Bool.and_eq_false_iff, beq_eq_false_iff_ne, beq_eq_false_iff_ne]
      by_cases e : t1 = nd
      · refine .inr fun e2 => hne (by rw [e, e2])
      · exact .inl e
    have call : callA am N (n + 1) 11 [.ptr a 1 0, .agg [.int .i64 nd, .int .i64 ep], .int .i64 p, .agg (B.map (V.int .u8))] H = some (.tup [.int .i64 0, .int .i64 11], h4) := by
      refine am11_eq rfl ?_
      generalize B.map (V.int .u8) = BV at *
      generalize mcs Q nn m = cs at *
      simp +contextual -implicitDefEqProofs (maxSteps := 10000000) only [sxb, plainD, stays, ↓selV_wt, ↓selV_wf, ↓impB_wt, ↓impB_wf, ↓selV_nor, ↓impB_nor, ↓selV_nt, ↓selV_nf, ↓impB_nt, ↓impB_nf, ↓selV_true, ↓selV_false, ↓selV_and, ↓impB_true, ↓impB_false, ↓impB_and, ↓prim_pick, ↓selV_nn, ↓impB_nn, doOp, get, ins, del, dels, Nat.reduceLT, Nat.reduceEqDiff, ↓reduceIte, reduceCtorEq, ne_eq, implies_true, prim, YLD, mkA, V.cells, Nat.reduceAdd, Nat.reduceSub, Nat.reduceMul, Nat.reduceLeDiff, loadA, cellsAt, nAg, packA, List.drop, List.take, List.head?, binA, unA, eqCells, eqCell, negB, fillA, storeA, Ob.with, indexedI, V.oneCell, intOf?, resA, resA1, packR, sealDepth, Int.reduceLT, Int.reduceLE, Int.reduceToNat, Int.reduceNeg, Int.reduceAdd, Int.reduceSub, Int.reduceMul, cond_true, cond_false, Int.reduceBNe, Int.reduceBEq, eq_self, deads, List.replicate, argsF, am11, app_get0, app_get, app_set0, app_set, c29, c24, g2, l2, e4', List.getElem?_set_self, List.length_set, List.set_set, k0, k2, hq1]
    exact ⟨_, _, call, .inl ⟨rfl, hne, rfl, hm4, B4⟩⟩
  · have hgo : (tb && !((t1 == nd) && (t2 == ep))) = false := by
      cases tb with
      | false => rfl
      | true =>
        have : (t1, t2) = (nd, ep) := Classical.byContradiction fun e => hA ⟨rfl, e⟩
        cases this
        simp
    by_cases hfull : q.l.length = 4096
    · have g5 : decide ((q.l.length : Int) ≥ 4096) = true := decide_eq_true (by omega)
      have call : callA am N (n + 1) 11 [.ptr a 1 0, .agg [.int .i64 nd, .int .i64 ep], .int .i64 p, .agg (B.map (V.int .u8))] H = some (.tup [.int .i64 0, .int .i64 5], h4) := by
        refine am11_eq rfl ?_
        generalize B.map (V.int .u8) = BV at *
        generalize mcs Q nn m = cs at *
        simp +contextual -implicitDefEqProofs (maxSteps := 10000000) only [sxb, plainD, stays, ↓selV_wt, ↓selV_wf, ↓impB_wt, ↓impB_wf, ↓selV_nor, ↓impB_nor, ↓selV_nt, ↓selV_nf, ↓impB_nt, ↓impB_nf, ↓selV_true, ↓selV_false, ↓selV_and, ↓impB_true, ↓impB_false, ↓impB_and, ↓prim_pick, ↓selV_nn, ↓impB_nn, doOp, get, ins, del, dels, Nat.reduceLT, Nat.reduceEqDiff, ↓reduceIte, reduceCtorEq, ne_eq, implies_true, prim, YLD, mkA, V.cells, Nat.reduceAdd, Nat.reduceSub, Nat.reduceMul, Nat.reduceLeDiff, loadA, cellsAt, nAg, packA, List.drop, List.take, List.head?, binA, unA, eqCells, eqCell, negB, fillA, storeA, Ob.with, indexedI, V.oneCell, intOf?, resA, resA1, packR, sealDepth, Int.reduceLT, Int.reduceLE, Int.reduceToNat, Int.reduceNeg, Int.reduceAdd, Int.reduceSub, Int.reduceMul, cond_true, cond_false, Int.reduceBNe, Int.reduceBEq, eq_self, deads, List.replicate, argsF, am11, app_get0, app_get, app_set0, app_set, c29, c24, g2, l2, e4', List.getElem?_set_self, List.length_set, List.set_set, k0, k2, hgo, oa, ql, qp, hpl, hp16', hlen, w1, g5]
      exact ⟨_, _, call, .inr (.inl ⟨hA, hfull, rfl, hm4, B4⟩)⟩
    · have hl' : q.l.length < 4096 := by omega
      have g5 : decide ((q.l.length : Int) ≥ 4096) = false := decide_eq_false (by omega)
      have hw : IntKind.i64.wrap ((q.l.length : Int) + 1) = ((q.l.length + 1 : Nat) : Int) := (wrap64 (by omega) (by omega)).trans (by omega)
      have xok : (⟨nd, ep, p, (q.l.length + 1 : Nat), B, false⟩ : Wr).Ok := hB
      obtain ⟨o1, y1, W', hA1, hrow1, ho1, hol1⟩ := hrow.append xok k3 (by omega)
      have ow1 : o1 = H.length + 3 ∨ o1 ∈ q.R := ho1
      have hqm : q ∈ Q := List.mem_of_getElem? hq
      have mlt := h.ltm
      have noa : o1 ≠ a := by
        rcases ow1 with e | e
        · omega
        · exact fun e' => h.dqa q hqm o1 e (by simp [e'])
      have nom : o1 ≠ m := by
        rcases ow1 with e | e
        · omega
        · exact fun e' => h.dqa q hqm o1 e (by simp [e'])
      have nam := h.ne
      have o1l : ∀ k, k ≠ 3 → H.length + k ≠ o1 := fun k hk => by
        rcases ow1 with e | e
        · omega
        · intro e'; exact own k (by rw [e']; exact .inr (.inr (.inl ⟨q, hqm, e⟩)))
      obtain ⟨q', eq'⟩ : ∃ q' : Pg, q' = ⟨q.l ++ [⟨nd, ep, p, (q.l.length + 1 : Nat), B, false⟩], W', [o1]⟩ := ⟨_, rfl⟩
      have a5 : a < (h4.set o1 y1).length := by simp; omega
      have oa5 : (h4.set o1 y1)[a]? = some ⟨1, .var (mcs Q nn m)⟩ := by rw [List.getElem?_set_ne noa]; exact oa
      obtain ⟨h6, e6⟩ : ∃ h6, h6 = (h4.set o1 y1).set a ⟨1, .var (mcs (Q.set p q') nn m)⟩ := ⟨_, rfl⟩
      have k6 : ∀ x, x ≠ a → x ≠ o1 → h6[x]? = h4[x]? := fun x h1 h2 => by rw [e6, List.getElem?_set_ne (Ne.symm h1), List.getElem?_set_ne (Ne.symm h2)]
      have ga6 : h6[a]? = some ⟨1, .var (mcs (Q.set p q') nn m)⟩ := by rw [e6, List.getElem?_set_self a5]
      have l6 : h6.length = h3.length := by rw [e6]; simp [l4]
      have M6 : MdAt h6 a m nn (Q.set p q') O := by
        refine hm4.page hq ga6 (k6 m (Ne.symm nam) (Ne.symm nom)) (fun i r hi hr o ho => k6 o (fun e => h.dqa r (List.mem_of_getElem? hr) o ho (by simp [e])) (fun e => ?_)) (fun r hr o ho => k6 o (fun e => h.doa r hr o ho (by simp [e])) (fun e => ?_)) ?_ (fun o ho => ?_)
        · subst e
          rcases ow1 with e | e
          · exact own 3 (by rw [← e]; exact .inr (.inr (.inl ⟨r, List.mem_of_getElem? hr, ho⟩)))
          · exact h.dq i p r q hr hq hi o ho e
        · subst e
          rcases ow1 with e | e
          · exact own 3 (by rw [← e]; exact .inr (.inr (.inr ⟨r, hr, ho⟩)))
          · exact h.dqo q hqm r hr o e ho
        · rw [eq']
          refine hrow1.keep fun o ho => ?_
          obtain rfl : o = o1 := by simpa using ho
          rw [e6, List.getElem?_set_ne (Ne.symm noa)]
        · rw [eq'] at ho
          obtain rfl : o = o1 := by simpa using ho
          rcases ow1 with e | e
          · exact .inr (by rw [e]; exact own 3)
          · exact .inl e
      have hro := ord_row M6 (nd, ep)
      have g64 : h6[H.length + 4]? = some ⟨0, .dead⟩ := by rw [k6 _ (by omega) (o1l 4 (by omega))]; exact k4
      have g60 : h6[H.length]? = some ⟨1, .var [.int .i64 nd, .int .i64 ep]⟩ := by rw [k6 _ (by omega) (by have := o1l 0 (by omega); omega)]; exact k0
      obtain ⟨o2, y2, W2, hA2, hrow2, ho2, hol2⟩ := hro.append (p := ((p : Int), (q.l.length : Int))) g64 hO
      have no2a : o2 ≠ a := by
        rcases ho2 with e | e
        · omega
        · obtain ⟨r, hr, -, hxr⟩ := ord_own (a := a) (m := m) (Q := Q) (nd, ep) o2 e
          exact fun e' => h.doa r hr o2 hxr (by simp [e'])
      have no2m : o2 ≠ m := by
        rcases ho2 with e | e
        · omega
        · obtain ⟨r, hr, -, hxr⟩ := ord_own (a := a) (m := m) (Q := Q) (nd, ep) o2 e
          exact fun e' => h.doa r hr o2 hxr (by simp [e'])
      obtain ⟨od, eod⟩ : ∃ od : Od, od = ⟨(nd, ep), ordOf O (nd, ep) ++ [((p : Int), (q.l.length : Int))], W2, [o2]⟩ := ⟨_, rfl⟩
      have m7 : (h6.set o2 y2)[m]? = some ⟨1, .map (O.map Od.e)⟩ := by rw [List.getElem?_set_ne no2m]; exact M6.mp
      have mp7 := mput_w (get := fun o => (h6.set o2 y2)[o]?) m7 od
      have mg6 := mget_w (get := fun o => h6[o]?) M6.mp (nd, ep)
      obtain ⟨h8, e8⟩ : ∃ h8, h8 = (h6.set o2 y2).set m ⟨1, .map ((putO od O).map Od.e)⟩ := ⟨_, rfl⟩
      have l8 : h8.length = h3.length := by rw [e8]; simp [l6]
      have M8 : MdAt h8 a m nn (Q.set p q') (putO od O) := by
        refine M6.ord (by rw [e8, List.getElem?_set_ne (Ne.symm nam), List.getElem?_set_ne no2a]) (by rw [e8, List.getElem?_set_self (by simp; omega)]) (fun x h1 h2 h3 => ?_) ?_ (fun x hx => ?_)
        · rw [e8, List.getElem?_set_ne (Ne.symm h1), List.getElem?_set_ne]
          rintro rfl
          rw [eod] at h2
          rcases ho2 with e | e
          · have := M6.lt o2 h3
            have hnot : ¬ Own a m (Q.set p q') O (H.length + 4) := by
              rintro (h1 | h1 | ⟨r, hr, hx⟩ | ⟨r, hr, hx⟩)
              · omega
              · omega
              · rcases List.mem_or_eq_of_mem_set hr with hr | rfl
                · exact own 4 (.inr (.inr (.inl ⟨r, hr, hx⟩)))
                · rw [eq'] at hx
                  simp at hx
                  exact o1l 4 (by omega) hx
              · exact own 4 (.inr (.inr (.inr ⟨r, hr, hx⟩)))
            exact hnot (by rw [← e]; exact h3)
          · exact h2 e
        · rw [eod]
          refine hrow2.keep fun o ho => ?_
          obtain rfl : o = o2 := by simpa using ho
          rw [e8, List.getElem?_set_ne (Ne.symm no2m)]
        · rw [eod] at hx ⊢
          obtain rfl : x = o2 := by simpa using hx
          rcases ho2 with e | e
          · refine .inr ?_
            rw [e]
            rintro (h1 | h1 | ⟨r, hr, hx⟩ | ⟨r, hr, hx⟩)
            · omega
            · omega
            · rcases List.mem_or_eq_of_mem_set hr with hr | rfl
              · exact own 4 (.inr (.inr (.inl ⟨r, hr, hx⟩)))
              · rw [eq'] at hx
                simp at hx
                exact o1l 4 (by omega) hx
            · exact own 4 (.inr (.inr (.inr ⟨r, hr, hx⟩)))
          · exact .inl e
      have B8 : Bey H h8 a m Q (Q.set p q') O (putO od O) := by
        refine ⟨by omega, fun x hx hn => ?_, fun x hx => ?_⟩
        · have x1 : x ≠ a := fun e => hn (.inl e)
          have x2 : x ≠ m := fun e => hn (.inr (.inl e))
          have x3 : x ≠ o1 := fun e => by
            rcases ow1 with e' | e'
            · omega
            · exact hn (.inr (.inr (.inl ⟨q, hqm, by rw [e]; exact e'⟩)))
          have x4 : x ≠ o2 := fun e => by
            rcases ho2 with e' | e'
            · omega
            · obtain ⟨r, hr, -, hxr⟩ := ord_own (a := a) (m := m) (Q := Q) (nd, ep) o2 e'
              exact hn (.inr (.inr (.inr ⟨r, hr, by rw [e]; exact hxr⟩)))
          rw [e8, List.getElem?_set_ne (Ne.symm x2), List.getElem?_set_ne (Ne.symm x4), k6 x x1 x3]
          exact kl x hx
        · rcases hx with h1 | h1 | ⟨r, hr, hx⟩ | ⟨r, hr, hx⟩
          · exact .inl (.inl h1)
          · exact .inl (.inr (.inl h1))
          · rcases List.mem_or_eq_of_mem_set hr with hr | rfl
            · exact .inl (.inr (.inr (.inl ⟨r, hr, hx⟩)))
            · rw [eq'] at hx
              obtain rfl : x = o1 := by simpa using hx
              rcases ow1 with e | e
              · exact .inr (by omega)
              · exact .inl (.inr (.inr (.inl ⟨q, hqm, e⟩)))
          · rcases putO_mem hr with rfl | ⟨-, hr⟩
            · rw [eod] at hx
              obtain rfl : x = o2 := by simpa using hx
              rcases ho2 with e | e
              · exact .inr (by omega)
              · obtain ⟨r, hr, -, hxr⟩ := ord_own (a := a) (m := m) (Q := Q) (nd, ep) x e
                exact .inl (.inr (.inr (.inr ⟨r, hr, hxr⟩)))
            · exact .inl (.inr (.inr (.inr ⟨r, hr, hx⟩)))
      have call : callA am N (n + 1) 11 [.ptr a 1 0, .agg [.int .i64 nd, .int .i64 ep], .int .i64 p, .agg (B.map (V.int .u8))] H = some (.tup [.int .i64 (q.l.length + 1 : Nat), .int .i64 0], h8) := by
        have qs : setRange (mcs Q nn m) p [W'] = mcs (Q.set p q') nn m := by
          have := @mcs_set Q nn m p q q' hq
          rwa [eq'] at this ⊢
        have qm := @mcs_m (Q.set p q') nn m (by simp [h.q16])
        have ql' := @mcs_len (Q.set p q') nn m (by simp [h.q16])
        have hxc : (⟨nd, ep, p, (q.l.length + 1 : Nat), B, false⟩ : Wr).cs = .int .i64 nd :: .int .i64 ep :: .int .i64 p :: .int .i64 (q.l.length + 1 : Nat) :: (B.map (V.int .u8) ++ [.bool false]) := rfl
        rw [hxc] at hA1
        have eodw : od.w = (nd, ep) := by rw [eod]
        have eodW : od.W = W2 := by rw [eod]
        rw [eodw, eodW] at mp7
        obtain ⟨v1, v2, v3, v4, v5, v6⟩ := hrow1.shape
        obtain ⟨z1, z2, z3, z4, z5, z6⟩ := hro.shape
        have e6' := e6.symm
        have e8' := e8.symm
        have bone : (B.map (V.int .u8)).all V.oneCell = true := allOne_ints _ _
        have hsr : setRange (List.replicate 96 (V.int .u8 0) ++ [.bool false]) 0 (B.map (V.int .u8)) = B.map (V.int .u8) ++ [.bool false] := by
          unfold setRange
          rw [bl]
          rfl
        simp only [List.replicate, List.cons_append, List.nil_append] at hsr
        have r1 : List.range 1 = [0] := rfl
        have b97 : (B.map (V.int .u8) ++ [V.bool false]).length = 97 := by simp [hB]
        have wr2 : ∀ (a b : V) (l : List V), wrapV (a :: b :: l) = .agg (a :: b :: l) := fun _ _ _ => rfl
        have tk2 : ∀ a b : V, List.take 2 [a, b] = [a, b] := fun _ _ => rfl
        have t101 : List.take 101 (.int .i64 nd :: .int .i64 ep :: .int .i64 p :: .int .i64 (q.l.length + 1 : Nat) :: (B.map (V.int .u8) ++ [.bool false])) = .int .i64 nd :: .int .i64 ep :: .int .i64 p :: .int .i64 (q.l.length + 1 : Nat) :: (B.map (V.int .u8) ++ [.bool false]) :=
          List.take_of_length_le (by simp [hB])
        have btk : List.take 96 (B.map (V.int .u8)) = B.map (V.int .u8) := List.take_of_length_le (by omega)
        unfold pcs at mp7 mg6 hA2
        simp only at mp7 mg6 hA2
        refine am11_eq rfl ?_
        generalize B.map (V.int .u8) = BV at *
        generalize hcs' : mcs (Q.set p q') nn m = cs' at *
        generalize mcs Q nn m = cs at *
        generalize (putO od O).map Od.e = es8 at *
        simp +contextual -implicitDefEqProofs (maxSteps := 10000000) only [sxb, plainD, stays, ↓selV_wt, ↓selV_wf, ↓impB_wt, ↓impB_wf, ↓selV_nor, ↓impB_nor, ↓selV_nt, ↓selV_nf, ↓impB_nt, ↓impB_nf, ↓selV_true, ↓selV_false, ↓selV_and, ↓impB_true, ↓impB_false, ↓impB_and, ↓prim_pick, ↓selV_nn, ↓impB_nn, doOp, get, ins, del, dels, Nat.reduceLT, Nat.reduceEqDiff, ↓reduceIte, reduceCtorEq, ne_eq, implies_true, prim, YLD, mkA, V.cells, Nat.reduceAdd, Nat.reduceSub, Nat.reduceMul, Nat.reduceLeDiff, loadA, cellsAt, nAg, packA, List.drop, List.take, List.head?, binA, unA, eqCells, eqCell, negB, fillA, storeA, Ob.with, indexedI, V.oneCell, intOf?, resA, resA1, packR, sealDepth, Int.reduceLT, Int.reduceLE, Int.reduceToNat, Int.reduceNeg, Int.reduceAdd, Int.reduceSub, Int.reduceMul, cond_true, cond_false, Int.reduceBNe, Int.reduceBEq, eq_self, deads, List.replicate, argsF, am11, app_get0, app_get, app_set0, app_set, c29, c24, g2, l2, e4', List.getElem?_set_self, List.length_set, List.set_set, k0, k1, k2, hgo, oa, ql, qp, hpl, hp16', hlen, w1, g5, hw, bl, btk, hA1, oa5, a5, qs, e6', ga6, ql', qm, g60, mg6, hA2, mp7, e8', v1, v2, z1, bone, hsr, r1, wr2, List.drop_zero, t101, tk2, b97, List.all_append, -List.drop, -List.take]
      rw [eq'] at M8 B8
      rw [eod] at M8 B8
      exact ⟨_, _, call, .inr (.inr ⟨hA, hl', rfl, W', [o1], W2, [o2], M8, B8⟩)⟩
end Go.Am.T


set_option linter.unusedVariables false
set_option linter.unusedSimpArgs false
set_option linter.unusedSectionVars false
set_option maxRecDepth 10000
namespace Go.Am.T
attribute [local congr] selV_congr impB_congr
def Wr.mark (x : Wr) : Wr := { x with du := true }
def markL (l : List Wr) (i : Nat) : List Wr := match l[i]? with | some x => l.set i x.mark | none => l
def markQ (Q : List Pg) (p i : Nat) : List Pg := match Q[p]? with | some q => Q.set p { q with l := markL q.l i } | none => Q
def marks (Q : List Pg) (l : List (Int × Int)) : List Pg := l.foldl (fun Q p => markQ Q p.1.toNat p.2.toNat) Q
theorem Wr.mark_cs {x : Wr} (h : x.Ok) : x.mark.cs = setRange x.cs 100 [.bool true] := by
  unfold Wr.Ok at h
  have hl : (x.hd ++ x.b.map (V.int .u8)).length = 100 := by simp [Wr.hd, h]
  have e : ∀ d : Bool, (⟨x.nd, x.ep, x.pg, x.ps, x.b, d⟩ : Wr).cs = (x.hd ++ x.b.map (V.int .u8)) ++ [.bool d] := fun d => by simp [Wr.cs, Wr.hd]
  have e1 := e true
  have e2 := e x.du
  have e1 : x.mark.cs = _ := e1
  have e2 : x.cs = _ := e2
  rw [e1, e2]
  unfold setRange
  rw [List.take_append, hl, List.take_of_length_le (by omega), Nat.sub_self, List.take_zero, List.append_nil, List.drop_of_length_le (by rw [List.length_append, hl]; simp), List.append_nil]
theorem markL_len (l : List Wr) (i : Nat) : (markL l i).length = l.length := by
  unfold markL
  cases l[i]? <;> simp
theorem mark_ok {x : Wr} (h : x.Ok) : x.mark.Ok := h
theorem markL_ok {l : List Wr} (h : ∀ x ∈ l, x.Ok) (i : Nat) : ∀ x ∈ markL l i, x.Ok := by
  unfold markL
  cases hi : l[i]? with
  | none => exact h
  | some y =>
    intro x hx
    rcases List.mem_or_eq_of_mem_set hx with hx | rfl
    · exact h x hx
    · exact mark_ok (h y (List.mem_of_getElem? hi))
theorem PRow.mark {H : Heap} {W : V} {l : List Wr} {R : List Nat} (h : PRow H W l R) {i : Nat} (hi : i < l.length) :
    ∃ o ver cap A, R = [o] ∧ W = .view o ver 0 l.length 101 cap ∧ H[o]? = some ⟨ver, .arr A⟩ ∧ i * 101 + 101 ≤ A.length ∧ PRow (H.set o ⟨ver, .arr (setRange A (i * 101 + 100) [.bool true])⟩) W (markL l i) R := by
  obtain ⟨hall, ⟨rfl, -⟩ | ⟨o, ver, cap, rest, rfl, rfl, ho, hc⟩⟩ := h
  · simp at hi
  · have hx : l[i]? = some l[i] := List.getElem?_eq_getElem hi
    generalize l[i] = x at hx
    have hxo := hall x (List.mem_of_getElem? hx)
    have hfl := flatW_len hall
    refine ⟨o, ver, cap, flatW l ++ rest, rfl, rfl, ho, by rw [List.length_append, hfl]; omega, markL_ok hall i, .inr ⟨o, ver, cap, rest, rfl, by rw [markL_len], ?_, by rw [markL_len]; exact hc⟩⟩
    rw [List.getElem?_set_self (lt_of_get ho)]
    have : markL l i = l.set i x.mark := by unfold markL; rw [hx]
    rw [this]
    exact congrArg (fun c => some (⟨ver, .arr c⟩ : Ob)) (flat_set Wr.cs 101 (fun y hy => Wr.len (hall y hy)) hx (Wr.mark_cs hxo) (by simp))
theorem markQ_get {Q : List Pg} {p i j : Nat} {q : Pg} (h : (markQ Q p i)[j]? = some q) : ∃ r, Q[j]? = some r ∧ q.W = r.W ∧ q.R = r.R ∧ q.l = (if j = p then markL r.l i else r.l) := by
  unfold markQ at h
  cases hp : Q[p]? with
  | none =>
    rw [hp] at h
    refine ⟨q, h, rfl, rfl, ?_⟩
    by_cases e : j = p
    · subst e; rw [hp] at h; cases h
    · rw [if_neg e]
  | some r =>
    rw [hp] at h
    simp only at h
    by_cases e : p = j
    · subst e
      rw [List.getElem?_set_self (List.getElem?_eq_some_iff.1 hp).1] at h
      cases h
      exact ⟨r, hp, rfl, rfl, by simp⟩
    · rw [List.getElem?_set_ne e] at h
      exact ⟨q, h, rfl, rfl, by rw [if_neg (Ne.symm e)]⟩
theorem markQ_W (Q : List Pg) (p i : Nat) : (markQ Q p i).map Pg.W = Q.map Pg.W := by
  unfold markQ
  cases hp : Q[p]? with
  | none => rfl
  | some q =>
    simp only
    rw [List.map_set]
    apply List.ext_getElem?
    intro j
    by_cases e : p = j
    · subst e
      rw [List.getElem?_set_self (by rw [List.length_map]; exact (List.getElem?_eq_some_iff.1 hp).1), List.getElem?_map, hp]
      rfl
    · rw [List.getElem?_set_ne e]
theorem mcs_mark (Q : List Pg) (p i : Nat) (n : Int) (m : Nat) : mcs (markQ Q p i) n m = mcs Q n m := by
  unfold mcs
  rw [markQ_W]
theorem own_mark {a m : Nat} {Q : List Pg} {O : List Od} {p i : Nat} (x : Nat) : Own a m (markQ Q p i) O x ↔ Own a m Q O x := by
  have key : (∃ q ∈ markQ Q p i, x ∈ q.R) ↔ ∃ q ∈ Q, x ∈ q.R := by
    constructor
    · rintro ⟨q, hq, hx⟩
      obtain ⟨j, hj⟩ := List.getElem?_of_mem hq
      obtain ⟨r, hr, -, h2, -⟩ := markQ_get hj
      exact ⟨r, List.mem_of_getElem? hr, h2 ▸ hx⟩
    · rintro ⟨q, hq, hx⟩
      obtain ⟨j, hj⟩ := List.getElem?_of_mem hq
      unfold markQ
      cases hp : Q[p]? with
      | none => exact ⟨q, hq, hx⟩
      | some r =>
        simp only
        by_cases e : p = j
        · subst e
          rw [hp] at hj
          cases hj
          exact ⟨_, List.mem_iff_getElem?.2 ⟨p, List.getElem?_set_self (List.getElem?_eq_some_iff.1 hp).1⟩, hx⟩
        · exact ⟨q, List.mem_iff_getElem?.2 ⟨j, by rw [List.getElem?_set_ne e]; exact hj⟩, hx⟩
  unfold Own
  rw [key]
theorem MdAt.mark {H : Heap} {a m : Nat} {n : Int} {Q : List Pg} {O : List Od} (h : MdAt H a m n Q O) {p i : Nat} {q : Pg} (hq : Q[p]? = some q) (hi : i < q.l.length) :
    ∃ o ver cap A, q.R = [o] ∧ q.W = .view o ver 0 q.l.length 101 cap ∧ H[o]? = some ⟨ver, .arr A⟩ ∧ i * 101 + 101 ≤ A.length ∧ MdAt (H.set o ⟨ver, .arr (setRange A (i * 101 + 100) [.bool true])⟩) a m n (markQ Q p i) O := by
  have hqm := List.mem_of_getElem? hq
  obtain ⟨o, ver, cap, A, h1, h2, h3, h4, h5⟩ := (h.pg q hqm).mark hi
  refine ⟨o, ver, cap, A, h1, h2, h3, h4, ?_⟩
  have hoq : o ∈ q.R := by rw [h1]; simp
  have noa : o ≠ a := fun e => h.dqa q hqm o hoq (by simp [e])
  have nom : o ≠ m := fun e => h.dqa q hqm o hoq (by simp [e])
  have eq : markQ Q p i = Q.set p { q with l := markL q.l i } := by unfold markQ; rw [hq]
  have em := mcs_mark Q p i n m
  rw [eq] at em ⊢
  refine h.page hq (by rw [em, List.getElem?_set_ne noa]; exact h.ob') (List.getElem?_set_ne nom) (fun j r hj hr x hx => List.getElem?_set_ne fun e : o = x => h.dq p j q r hq hr (Ne.symm hj) o hoq (by rw [e]; exact hx)) (fun r hr x hx => List.getElem?_set_ne fun e : o = x => h.dqo q hqm r hr o hoq (by rw [e]; exact hx)) h5 (fun x hx => .inl hx)
theorem marks_snoc (Q : List Pg) (l : List (Int × Int)) (x : Int × Int) : marks Q (l ++ [x]) = markQ (marks Q l) x.1.toNat x.2.toNat := by simp [marks]
theorem marks_cons (Q : List Pg) (l : List (Int × Int)) (x : Int × Int) : marks Q (x :: l) = marks (markQ Q x.1.toNat x.2.toNat) l := rfl
theorem marks_q16 : ∀ (l : List (Int × Int)) (Q : List Pg), (marks Q l).length = Q.length ∧ (marks Q l).map Pg.W = Q.map Pg.W ∧ (∀ (j : Nat) (q : Pg), (marks Q l)[j]? = some q → ∃ r : Pg, Q[j]? = some r ∧ q.W = r.W ∧ q.R = r.R ∧ q.l.length = r.l.length)
  | [], Q => ⟨rfl, rfl, fun j q h => ⟨q, h, rfl, rfl, rfl⟩⟩
  | x :: l, Q => by
    obtain ⟨h1, h2, h3⟩ := marks_q16 l (markQ Q x.1.toNat x.2.toNat)
    rw [marks_cons]
    refine ⟨?_, by rw [h2, markQ_W], fun j q hj => ?_⟩
    · have := congrArg List.length (markQ_W Q x.1.toNat x.2.toNat)
      simp only [List.length_map] at this
      omega
    · obtain ⟨s, hs, s1, s2, s3⟩ := h3 j q hj
      obtain ⟨r, hr, r1, r2, r3⟩ := markQ_get hs
      refine ⟨r, hr, s1.trans r1, s2.trans r2, ?_⟩
      rw [s3, r3]
      by_cases e : j = x.1.toNat
      · rw [if_pos e, markL_len]
      · rw [if_neg e]
theorem own_marks {a m : Nat} {O : List Od} (x : Nat) : ∀ (l : List (Int × Int)) (Q : List Pg), Own a m (marks Q l) O x ↔ Own a m Q O x
  | [], Q => Iff.rfl
  | y :: l, Q => by rw [marks_cons, own_marks x l, own_mark]
end Go.Am.T


set_option linter.unusedVariables false
set_option linter.unusedSimpArgs false
set_option linter.unusedSectionVars false
set_option maxRecDepth 10000
namespace Go.Am.T
attribute [local congr] selV_congr impB_congr
theorem mm0 (x y : Nat) : mmA false (.int .i64 (x : Int)) (.int .i64 (y : Int)) = some (.int .i64 ((min x y : Nat) : Int)) := by
  simp only [mmA]
  split <;> congr 2 <;> omega
theorem flatP_at {l : List (Int × Int)} {k : Nat} {x : Int × Int} (hx : l[k]? = some x) (pre : List V) : ((pre ++ flatP l).drop (pre.length + k * 2)).take 2 = pcs x := by
  rw [List.drop_append, List.drop_of_length_le (by omega), List.nil_append, Nat.add_sub_cancel_left]
  exact flat_at pcs 2 (fun _ _ => rfl) hx
theorem flatP_split (l : List (Int × Int)) (n : Nat) : flatP l = flatP (l.take n) ++ flatP (l.drop n) := by
  unfold flatP
  rw [← List.flatMap_append, List.take_append_drop]
theorem ORow.head {H : Heap} {W : V} {l : List (Int × Int)} {R : List Nat} (h : ORow H W l R) {n : Nat} (hn : n ≤ l.length) :
    ∃ S, sliceA (fun o => H[o]?) 2 W none (some (.int .i64 n)) none = some S ∧ lenA S = some n ∧ (∀ b, S ≠ .str b) ∧
      ∀ H', ORow H' W l R → ∀ k x, k < n → l[k]? = some x → ∃ o ver off c, S = .view o ver off n 2 none ∧ H'[o]? = some ⟨ver, .arr c⟩ ∧ off + k * 2 + 2 ≤ c.length ∧ (c.drop (off + k * 2)).take 2 = pcs x := by
  rcases h with ⟨rfl, rfl, rfl⟩ | ⟨o, ver, pre, hpre, rfl, rfl, ho⟩
  · have : n = 0 := by simpa using hn
    subst this
    exact ⟨.nils, rfl, rfl, fun _ => V.noConfusion, fun H' _ k x hk => by omega⟩
  · have hlen := flatP_len l
    have hcap : ((pre ++ flatP l).length - pre.length) / 2 = l.length := by rw [List.length_append, hlen]; omega
    refine ⟨.view o ver pre.length n 2 none, ?_, rfl, fun _ => V.noConfusion, fun H' h' k x hk hx => ?_⟩
    · simp only [sliceA, ↓reduceIte, cellsAt, ho, hcap]
      simp [boundsA, intOf?, hn]
    · rcases h' with ⟨-, e, -⟩ | ⟨o', ver', pre', -, -, e, ho'⟩
      · cases e
      · simp only [V.view.injEq] at e
        obtain ⟨rfl, rfl, e3, -⟩ := e
        refine ⟨o, ver, pre.length, _, rfl, ho', ?_, ?_⟩
        · rw [List.length_append, hlen, e3]; omega
        · rw [e3]; exact flatP_at hx pre'
theorem ORow.rest {H : Heap} {W : V} {l : List (Int × Int)} {R : List Nat} (h : ORow H W l R) {n : Nat} (hn : n ≤ l.length) :
    ∃ W', sliceA (fun o => H[o]?) 2 W (some (.int .i64 n)) none none = some W' ∧ (n < l.length → ∀ H', (∀ o ∈ R, H'[o]? = H[o]?) → ORow H' W' (l.drop n) R) := by
  rcases h with ⟨rfl, rfl, rfl⟩ | ⟨o, ver, pre, hpre, rfl, rfl, ho⟩
  · have : n = 0 := by simpa using hn
    subst this
    exact ⟨.nils, rfl, fun h => by simp at h⟩
  · have hlen := flatP_len l
    have hcap : ((pre ++ flatP l).length - pre.length) / 2 = l.length := by rw [List.length_append, hlen]; omega
    by_cases h0 : n = 0
    · subst h0
      refine ⟨.view o ver pre.length l.length 2 none, ?_, fun _ H' hk => .inr ⟨o, ver, pre, hpre, rfl, rfl, by rw [hk o (by simp)]; exact ho⟩⟩
      simp only [sliceA, ↓reduceIte, cellsAt, ho, hcap]
      simp [boundsA, intOf?]
    · by_cases h1 : n < l.length
      · refine ⟨.view o ver (pre.length + n * 2) (l.length - n) 2 none, ?_, fun _ H' hk => .inr ⟨o, ver, pre ++ flatP (l.take n), fun v hv => (by rcases List.mem_append.1 hv with h | h; exact hpre v h; exact flatP_obj _ v h), rfl, ?_, ?_⟩⟩
        · simp only [sliceA, ↓reduceIte, cellsAt, ho, hcap]
          simp [boundsA, intOf?, hn, h0, h1]
        · rw [List.length_append, flatP_len, List.length_take, List.length_drop, Nat.min_eq_left hn]
        · rw [hk o (by simp), ho, List.append_assoc, ← flatP_split]
      · refine ⟨.vend o ver 2, ?_, fun h => absurd h h1⟩
        simp only [sliceA, ↓reduceIte, cellsAt, ho, hcap]
        simp [boundsA, intOf?, hn, h0, h1]
def Valid (Q : List Pg) (l : List (Int × Int)) : Prop := ∀ x ∈ l, 0 ≤ x.1 ∧ 0 ≤ x.2 ∧ ∃ q, Q[x.1.toNat]? = some q ∧ x.2.toNat < q.l.length
theorem Valid.marks {Q : List Pg} {l l' : List (Int × Int)} (h : Valid Q l) : Valid (marks Q l') l := by
  intro x hx
  obtain ⟨h1, h2, q, hq, hl⟩ := h x hx
  obtain ⟨e1, e2, e3⟩ := marks_q16 l' Q
  have hlt : x.1.toNat < (T.marks Q l').length := by rw [e1]; exact (List.getElem?_eq_some_iff.1 hq).1
  have hg := List.getElem?_eq_getElem hlt
  obtain ⟨r, hr, -, -, r3⟩ := e3 _ _ hg
  rw [hq] at hr
  cases hr
  exact ⟨h1, h2, _, hg, by rw [r3]; exact hl⟩
theorem mcs_marks (Q : List Pg) (l : List (Int × Int)) (n : Int) (m : Nat) : mcs (T.marks Q l) n m = mcs Q n m := by
  unfold mcs
  rw [(marks_q16 l Q).2.1]
theorem am12_wp {N n : Nat} {args : List V} {h : Heap} {C : V → Heap → Prop} (ha : args.length = 3) (H : sx ⟨pureOf am, callA am N n, N, h.length⟩ am12.body (fr am12.nt (argsF 0 args)) (h ++ deads am12.sites) (retQ am12.res C)) : ∃ v h', callA am N (n + 1) 12 args h = some (v, h') ∧ C v h' :=
  call_keep at12 rfl ha (by decide) (sx_wp H)
theorem durable_bad {N n : Nat} (hn : 6 ≤ n) {H : Heap} {a m : Nat} {nn : Int} {Q : List Pg} {O : List Od} (h : MdAt H a m nn Q O) (hp1 : 1 ≤ nn) (w : Int × Int) (k : Int) (hb : badA nn w 0 k = true) :
    ∃ v' H', callA am N n 12 [.ptr a 1 0, .agg (pcs w), .int .i64 k] H = some (v', H') ∧ v' = .tup [.int .i64 0, .int .i64 2] ∧ ∃ tl, H' = H ++ tl := by
  obtain ⟨n, rfl⟩ : ∃ m, n = m + 1 := ⟨n - 1, by omega⟩
  have hm := h.app [(⟨1, .var (pcs w)⟩ : Ob), ⟨0, .dead⟩]
  have c29 := @ask_spec N n (by omega) _ a m nn Q h.q16 hp1 hm.ob' w 0 k
  have eA : askE nn w 0 k = 2 := by unfold askE; rw [hb]; rfl
  rw [eA] at c29
  unfold pcs at c29 ⊢
  refine am12_wp rfl ?_
  simp +contextual -implicitDefEqProofs (maxSteps := 10000000) only [sxb, plainD, stays, ↓selV_wt, ↓selV_wf, ↓impB_wt, ↓impB_wf, ↓selV_nor, ↓impB_nor, ↓selV_nt, ↓selV_nf, ↓impB_nt, ↓impB_nf, ↓selV_true, ↓selV_false, ↓selV_and, ↓impB_true, ↓impB_false, ↓impB_and, ↓prim_pick, ↓selV_nn, ↓impB_nn, doOp, get, ins, del, dels, Nat.reduceLT, Nat.reduceEqDiff, ↓reduceIte, reduceCtorEq, ne_eq, implies_true, prim, YLD, mkA, V.cells, Nat.reduceAdd, Nat.reduceSub, Nat.reduceMul, Nat.reduceLeDiff, loadA, cellsAt, nAg, packA, List.drop, List.take, List.head?, binA, unA, eqCells, eqCell, negB, fillA, storeA, Ob.with, indexedI, V.oneCell, intOf?, resA, resA1, packR, sealDepth, Int.reduceLT, Int.reduceLE, Int.reduceToNat, Int.reduceNeg, Int.reduceAdd, Int.reduceSub, Int.reduceMul, cond_true, cond_false, Int.reduceBNe, Int.reduceBEq, eq_self, deads, List.replicate, argsF, am12, app_get0, app_get, app_set0, app_set, c29, List.append_assoc]
  exact ⟨_, rfl⟩
def restO (O : List Od) (w : Int × Int) (n : Nat) (W' : V) : List Od :=
  if n = (ordOf O w).length then O.filter (fun x => !(w == x.w)) else putO ⟨w, (ordOf O w).drop n, W', ordR O w⟩ O
theorem filter_putO (o : Od) (O : List Od) : (putO o O).filter (fun x => !(o.w == x.w)) = O.filter (fun x => !(o.w == x.w)) := by
  unfold putO
  cases ha : O.any (fun x => o.w == x.w) with
  | true =>
    clear ha
    induction O with
    | nil => rfl
    | cons x O ih =>
      simp only [List.map_cons, List.filter_cons]
      cases e : o.w == x.w with
      | true => simpa using ih
      | false => simp only [e, Bool.not_false, ↓reduceIte]; rw [ih]
  | false => simp [List.filter_append]
end Go.Am.T


set_option linter.unusedVariables false
set_option linter.unusedSimpArgs false
set_option linter.unusedSectionVars false
set_option maxRecDepth 10000
namespace Go.Am.T
attribute [local congr] selV_congr impB_congr
structure DurI (H : Heap) (a m : Nat) (nn : Int) (Q : List Pg) (O : List Od) (w : Int × Int) (l : List (Int × Int)) (L : Nat) (h : Heap) : Prop where
  md : MdAt h a m nn (marks Q l) O
  len : h.length = L
  who : h[H.length]? = some ⟨1, .var (pcs w)⟩
  site : ∃ x, h[H.length + 1]? = some x
  oth : ∀ x, x < H.length → ¬ Own a m Q O x → h[x]? = H[x]?
set_option maxHeartbeats 2000000 in
theorem durable_spec {N n : Nat} (hN : 5000 ≤ N) (hn : 6 ≤ n) {H : Heap} {a m : Nat} {nn : Int} {Q : List Pg} {O : List Od} (h : MdAt H a m nn Q O) (hp1 : 1 ≤ nn) {w : Int × Int} {k : Nat} (hb : badA nn w 0 k = false) (hv : Valid Q (ordOf O w)) (hbig : (ordOf O w).length ≤ 4900) :
    ∃ v' H', callA am N n 12 [.ptr a 1 0, .agg (pcs w), .int .i64 k] H = some (v', H') ∧ v' = .tup [.int .i64 (min k (ordOf O w).length : Nat), .int .i64 0] ∧
      ∃ W', MdAt H' a m nn (marks Q ((ordOf O w).take (min k (ordOf O w).length))) (restO O w (min k (ordOf O w).length) W') ∧
        Bey H H' a m Q (marks Q ((ordOf O w).take (min k (ordOf O w).length))) O (restO O w (min k (ordOf O w).length) W') := by
  obtain ⟨n, rfl⟩ : ∃ m, n = m + 1 := ⟨n - 1, by omega⟩
  obtain ⟨h0, e0⟩ : ∃ h0, h0 = H ++ [(⟨1, .var (pcs w)⟩ : Ob), ⟨0, .dead⟩] ++ [(⟨1, .var (pcs w)⟩ : Ob)] := ⟨_, rfl⟩
  have hm := h.app [(⟨1, .var (pcs w)⟩ : Ob), ⟨0, .dead⟩]
  have c29 := @ask_spec N n (by omega) _ a m nn Q h.q16 hp1 hm.ob' w 0 k
  have eA : askE nn w 0 k = 0 := by unfold askE; rw [hb]; rfl
  rw [eA, ← e0] at c29
  have M0 := hm.app [(⟨1, .var (pcs w)⟩ : Ob)]
  rw [← e0] at M0
  have g0 : h0[H.length]? = some ⟨1, .var (pcs w)⟩ := by rw [e0, List.append_assoc, List.cons_append, app_get0]; rfl
  have g1 : h0[H.length + 1]? = some ⟨0, .dead⟩ := by rw [e0, List.append_assoc, app_get]; rfl
  have l0 : h0.length = H.length + 3 := by rw [e0]; simp
  have D0 : DurI H a m nn Q O w [] (H.length + 3) h0 := ⟨M0, l0, g0, ⟨_, g1⟩, fun x hx _ => by rw [e0, List.append_assoc, List.getElem?_append_left hx]⟩
  have own : ∀ j, ¬ Own a m Q O (H.length + j) := fun j hj => by have := h.lt _ hj; omega
  have al := h.lta
  have ml := h.ltm
  have nam := h.ne
  have mg := mget_w (get := fun o => h0[o]?) M0.mp w
  have row0 := ord_row M0 w
  have hW := row0.len
  obtain ⟨w1, w2, w3, w4, w5, w6⟩ := row0.shape
  obtain ⟨K, hK⟩ : ∃ K, K = min k (ordOf O w).length := ⟨_, rfl⟩
  have hKl : K ≤ (ordOf O w).length := by rw [hK]; exact Nat.min_le_right _ _
  have mm : mmA false (.int .i64 (k : Int)) (.int .i64 ((ordOf O w).length : Int)) = some (.int .i64 (K : Int)) := by rw [hK]; exact mm0 _ _
  rw [← hK]
  obtain ⟨S, hS, hSl, hSn, hSat⟩ := row0.head hKl
  have oa := M0.ob'
  have qm := @mcs_m Q nn m h.q16
  have ql := @mcs_len Q nn m h.q16
  suffices T : ∃ v' H', callA am N (n + 1) 12 [.ptr a 1 0, .agg (pcs w), .int .i64 k] H = some (v', H') ∧ v' = .tup [.int .i64 K, .int .i64 0] ∧ ∃ h1 W', DurI H a m nn Q O w ((ordOf O w).take K) (H.length + 3) h1 ∧ sliceA (fun o => h1[o]?) 2 (ordV O w) (some (.int .i64 K)) none none = some W' ∧
      H' = (if K = (ordOf O w).length then h1.set m ⟨1, .map ((O.filter (fun x => !(w == x.w))).map Od.e)⟩ else h1.set m ⟨1, .map ((putO ⟨w, (ordOf O w).drop K, W', ordR O w⟩ O).map Od.e)⟩) by
    obtain ⟨v', H', hc, hv', h1, W', D, hW', rfl⟩ := T
    refine ⟨v', _, hc, hv', W', ?_⟩
    have al1 : m < h1.length := by rw [D.len]; omega
    have ownm : ∀ y, Own a m Q O y → y < H.length := h.lt
    unfold restO
    by_cases hlast : K = (ordOf O w).length
    · rw [if_pos hlast, if_pos hlast]
      refine ⟨D.md.del (List.getElem?_set_self al1) (fun x hx _ => List.getElem?_set_ne (Ne.symm hx)), ⟨by simp [D.len], fun x hx hn => ?_, fun x hx => ?_⟩⟩
      · rw [List.getElem?_set_ne (fun e => hn (.inr (.inl e.symm)))]
        exact D.oth x hx hn
      · refine .inl ((own_marks (O := O) x ((ordOf O w).take K) Q).1 ?_)
        rcases hx with h1 | h1 | h1 | ⟨o, ho, hx⟩
        · exact .inl h1
        · exact .inr (.inl h1)
        · exact .inr (.inr (.inl h1))
        · exact .inr (.inr (.inr ⟨o, (List.mem_filter.1 ho).1, hx⟩))
    · rw [if_neg hlast, if_neg hlast]
      obtain ⟨W2, hW2, hrow⟩ := (ord_row D.md w).rest hKl
      rw [hW'] at hW2
      cases hW2
      have hordm : m ∉ ordR O w := fun hx => by
        obtain ⟨r, hr, -, hxr⟩ := ord_own (a := a) (m := m) (Q := Q) w m hx
        exact h.doa r hr m hxr (by simp)
      refine ⟨D.md.ord (List.getElem?_set_ne (Ne.symm nam)) (List.getElem?_set_self al1) (fun x hx _ _ => List.getElem?_set_ne (Ne.symm hx)) (hrow (by omega) _ fun o ho => List.getElem?_set_ne fun e : m = o => hordm (by rw [e]; exact ho)) (fun x hx => .inl hx), ⟨by simp [D.len], fun x hx hn => ?_, fun x hx => ?_⟩⟩
      · rw [List.getElem?_set_ne (fun e => hn (.inr (.inl e.symm)))]
        exact D.oth x hx hn
      · refine .inl ((own_marks (O := O) x ((ordOf O w).take K) Q).1 ?_)
        rcases hx with h1 | h1 | h1 | ⟨o, ho, hx⟩
        · exact .inl h1
        · exact .inr (.inl h1)
        · exact .inr (.inr (.inl h1))
        · rcases putO_mem ho with rfl | ⟨-, ho⟩
          · obtain ⟨r, hr, -, hxr⟩ := ord_own (a := a) (m := m) (Q := Q) w x hx
            exact .inr (.inr (.inr ⟨r, hr, hxr⟩))
          · exact .inr (.inr (.inr ⟨o, ho, hx⟩))
  have g0' := g0
  unfold pcs at c29 g0 ⊢
  have e0' : h0 = H ++ [(⟨1, .var [.int .i64 w.1, .int .i64 w.2]⟩ : Ob), ⟨0, .dead⟩, ⟨1, .var [.int .i64 w.1, .int .i64 w.2]⟩] := by rw [e0, List.append_assoc]; rfl
  refine am12_wp rfl ?_
  generalize hcs : mcs Q nn m = cs at *
  unfold pcs at mg
  simp +contextual -implicitDefEqProofs (maxSteps := 10000000) only [sxb, plainD, stays, ↓selV_wt, ↓selV_wf, ↓impB_wt, ↓impB_wf, ↓selV_nor, ↓impB_nor, ↓selV_nt, ↓selV_nf, ↓impB_nt, ↓impB_nf, ↓selV_true, ↓selV_false, ↓selV_and, ↓impB_true, ↓impB_false, ↓impB_and, ↓prim_pick, ↓selV_nn, ↓impB_nn, doOp, get, ins, del, dels, Nat.reduceLT, Nat.reduceEqDiff, ↓reduceIte, reduceCtorEq, ne_eq, implies_true, prim, YLD, mkA, V.cells, Nat.reduceAdd, Nat.reduceSub, Nat.reduceMul, Nat.reduceLeDiff, loadA, cellsAt, nAg, packA, List.drop, List.take, List.head?, binA, unA, eqCells, eqCell, negB, fillA, storeA, Ob.with, indexedI, V.oneCell, intOf?, resA, resA1, packR, sealDepth, Int.reduceLT, Int.reduceLE, Int.reduceToNat, Int.reduceNeg, Int.reduceAdd, Int.reduceSub, Int.reduceMul, cond_true, cond_false, Int.reduceBNe, Int.reduceBEq, eq_self, deads, List.replicate, argsF, am12, app_get0, app_get, app_set0, app_set, c29, g0, g1, oa, qm, ql, mg, hW, mm, List.foldlM_cons, List.foldlM_nil, List.map_cons, List.map_nil, Option.bind_eq_bind, Option.pure_def, Option.bind_some, hS, hSl, w1, -List.drop, -List.take]
  refine sx_loop (fun i t h => t = fr 67 [(0, .ptr a 1 0), (2, .int .i64 K), (4, .ptr H.length 1 0), (9, ordV O w), (31, S), (32, .int .i64 K), (33, .int .i64 i)] ∧ i ≤ K ∧ DurI H a m nn Q O w ((ordOf O w).take i) (H.length + 3) h) K (by show K < N; omega) ⟨rfl, Nat.zero_le _, D0⟩ ?_
  rintro i t h1 hi ⟨rfl, hiK, D⟩
  have sl1 : H.length + 1 < h1.length := by rw [D.len]; omega
  by_cases hlt : i < K
  · have gi : decide ((i : Int) < (K : Int)) = true := decide_eq_true (by omega)
    have w4 : IntKind.i64.wrap ((i : Int) + 1) = ((i + 1 : Nat) : Int) := (wrap64 (by omega) (by omega)).trans (by omega)
    have hi1 : i + 1 ≤ K := by omega
    have hx : (ordOf O w)[i]? = some (ordOf O w)[i] := List.getElem?_eq_getElem (by omega)
    generalize (ordOf O w)[i] = x at hx
    have hxm := List.mem_of_getElem? hx
    have hvx := (Valid.marks (l' := (ordOf O w).take i) hv) x hxm
    obtain ⟨x0, hsite⟩ := D.site
    obtain ⟨oo, vo, off, c, hSv, hoo, hole, hoat⟩ := hSat h1 (ord_row D.md w) i x hlt hx
    obtain ⟨p, j⟩ := x
    obtain ⟨p, rfl⟩ : ∃ p' : Nat, p = p' := ⟨p.toNat, by have := hvx.1; simp only at this; omega⟩
    obtain ⟨j, rfl⟩ : ∃ j' : Nat, j = j' := ⟨j.toNat, by have := hvx.2.1; simp only at this; omega⟩
    simp only [Int.toNat_natCast] at hvx
    obtain ⟨-, -, q, hq, hj⟩ := hvx
    have htk : (ordOf O w).take (i + 1) = (ordOf O w).take i ++ [((p : Int), (j : Int))] := by rw [List.take_add_one, hx]; rfl
    have M1 : MdAt (h1.set (H.length + 1) ⟨x0.ver + 1, .var (pcs ((p : Int), (j : Int)))⟩) a m nn (marks Q ((ordOf O w).take i)) O := D.md.set _ (by rw [own_marks]; exact own 1)
    obtain ⟨oq, vq, cap, A, r1, r2, r3, r4, M2⟩ := M1.mark hq hj
    have hoqm : Own a m Q O oq := (own_marks _ _ _).1 (.inr (.inr (.inl ⟨q, List.mem_of_getElem? hq, by rw [r1]; simp⟩)))
    have ca1 : (h1.set (H.length + 1) ⟨x0.ver + 1, .var (pcs ((p : Int), (j : Int)))⟩)[a]? = some ⟨1, .var cs⟩ := by rw [← hcs, ← mcs_marks Q ((ordOf O w).take i)]; exact M1.ob'
    have qp : List.take 1 (List.drop p cs) = [q.W] := by
      rw [← hcs, ← mcs_marks Q ((ordOf O w).take i)]
      exact mcs_p hq
    have hp16 : p < 16 := by
      have := (List.getElem?_eq_some_iff.1 hq).1
      rw [(marks_q16 _ Q).1, h.q16] at this
      exact this
    have hp16' : ((p : Int) < 16) := by omega
    have hpl : p + 1 ≤ 18 := by omega
    have hjl : (j : Int) < (q.l.length : Int) := by omega
    have r4' : j * 101 + 100 + 1 ≤ A.length := by omega
    have hrd : (h1.set (H.length + 1) ⟨x0.ver + 1, .var [.int .i64 p, .int .i64 j]⟩)[H.length + 1]? = some ⟨x0.ver + 1, .var [.int .i64 p, .int .i64 j]⟩ := List.getElem?_set_self sl1
    have hiK' : (i : Int) < (K : Int) := by omega
    have t1 : ∀ a b : V, List.take 1 [a, b] = [a] := fun _ _ => rfl
    have t2 : ∀ a b : V, List.take 1 (List.drop 1 [a, b]) = [b] := fun _ _ => rfl
    unfold pcs at hoat M1 r3 M2 ca1
    simp only at hoat M1 r3 M2 ca1
    rw [hSv]
    rw [r2] at qp
    simp +contextual -implicitDefEqProofs (maxSteps := 10000000) only [sxb, plainD, stays, ↓selV_wt, ↓selV_wf, ↓impB_wt, ↓impB_wf, ↓selV_nor, ↓impB_nor, ↓selV_nt, ↓selV_nf, ↓impB_nt, ↓impB_nf, ↓selV_true, ↓selV_false, ↓selV_and, ↓impB_true, ↓impB_false, ↓impB_and, ↓prim_pick, ↓selV_nn, ↓impB_nn, doOp, get, ins, del, dels, Nat.reduceLT, Nat.reduceEqDiff, ↓reduceIte, reduceCtorEq, ne_eq, implies_true, prim, YLD, mkA, V.cells, Nat.reduceAdd, Nat.reduceSub, Nat.reduceMul, Nat.reduceLeDiff, loadA, cellsAt, nAg, packA, List.drop, List.take, List.head?, binA, unA, eqCells, eqCell, negB, fillA, storeA, Ob.with, indexedI, V.oneCell, intOf?, resA, resA1, packR, sealDepth, Int.reduceLT, Int.reduceLE, Int.reduceToNat, Int.reduceNeg, Int.reduceAdd, Int.reduceSub, Int.reduceMul, cond_true, cond_false, Int.reduceBNe, Int.reduceBEq, eq_self, deads, List.replicate, argsF, gi, iaddrSA, hiK', hoo, hole, hoat, hsite, sl1, hrd, ca1, ql, qp, hp16', hpl, t1, t2, hjl, r3, r4', w4, hi1, hlt, List.getElem?_set_self, List.length_set, List.set_set, List.drop_zero, -List.drop, -List.take]
    have nq : ∀ y, H.length ≤ y → y ≠ oq := fun y hy e => by have := h.lt _ hoqm; omega
    refine ⟨?_, by simp [D.len], ?_, ⟨_, by rw [List.getElem?_set_ne (Ne.symm (nq _ (by omega)))]; exact hrd⟩, fun y hy hn => ?_⟩
    · rw [htk, marks_snoc]
      exact M2
    · rw [List.getElem?_set_ne (Ne.symm (nq _ (Nat.le_refl _))), List.getElem?_set_ne (by omega)]
      exact D.who
    · rw [List.getElem?_set_ne (fun e : oq = y => hn (by rw [← e]; exact hoqm)), List.getElem?_set_ne (by omega)]
      exact D.oth y hy hn
  · have eK : i = K := by omega
    subst eK
    have gi : decide ((i : Int) < (i : Int)) = false := decide_eq_false (by omega)
    obtain ⟨W', hW', -⟩ := (ord_row D.md w).rest hKl
    have ca1 : h1[a]? = some ⟨1, .var cs⟩ := by rw [← hcs, ← mcs_marks Q ((ordOf O w).take i)]; exact D.md.ob'
    have gw : h1[H.length]? = some ⟨1, .var [.int .i64 w.1, .int .i64 w.2]⟩ := D.who
    have mp := mput_w (get := fun o => h1[o]?) D.md.mp ⟨w, (ordOf O w).drop i, W', ordR O w⟩
    simp only at mp
    have al1 : m < h1.length := by rw [D.len]; omega
    have t2 : ∀ a b : V, List.take 2 [a, b] = [a, b] := fun _ _ => rfl
    have gm : (h1.set m ⟨1, .map ((putO ⟨w, (ordOf O w).drop i, W', ordR O w⟩ O).map Od.e)⟩)[m]? = some ⟨1, .map ((putO ⟨w, (ordOf O w).drop i, W', ordR O w⟩ O).map Od.e)⟩ := List.getElem?_set_self al1
    have md := mdel_w (get := fun o => (h1.set m ⟨1, .map ((putO ⟨w, (ordOf O w).drop i, W', ordR O w⟩ O).map Od.e)⟩)[o]?) gm w
    have ca2 : (h1.set m ⟨1, .map ((putO ⟨w, (ordOf O w).drop i, W', ordR O w⟩ O).map Od.e)⟩)[a]? = some ⟨1, .var cs⟩ := by rw [List.getElem?_set_ne (Ne.symm nam)]; exact ca1
    have gw2 : (h1.set m ⟨1, .map ((putO ⟨w, (ordOf O w).drop i, W', ordR O w⟩ O).map Od.e)⟩)[H.length]? = some ⟨1, .var [.int .i64 w.1, .int .i64 w.2]⟩ := by rw [List.getElem?_set_ne (by omega)]; exact gw
    have hf := filter_putO ⟨w, (ordOf O w).drop i, W', ordR O w⟩ O
    simp only at hf
    rw [hf] at md
    unfold pcs at mp md
    by_cases hlast : i = (ordOf O w).length
    · have gl : ((i : Int) == ((ordOf O w).length : Int)) = true := by rw [← hlast]; simp
      have hfin : (if i = (ordOf O w).length then h1.set m ⟨1, .map ((O.filter (fun x => !(w == x.w))).map Od.e)⟩ else h1.set m ⟨1, .map ((putO ⟨w, (ordOf O w).drop i, W', ordR O w⟩ O).map Od.e)⟩) = h1.set m ⟨1, .map ((O.filter (fun x => !(w == x.w))).map Od.e)⟩ := if_pos hlast
      simp +contextual -implicitDefEqProofs (maxSteps := 10000000) only [sxb, plainD, stays, ↓selV_wt, ↓selV_wf, ↓impB_wt, ↓impB_wf, ↓selV_nor, ↓impB_nor, ↓selV_nt, ↓selV_nf, ↓impB_nt, ↓impB_nf, ↓selV_true, ↓selV_false, ↓selV_and, ↓impB_true, ↓impB_false, ↓impB_and, ↓prim_pick, ↓selV_nn, ↓impB_nn, doOp, get, ins, del, dels, Nat.reduceLT, Nat.reduceEqDiff, ↓reduceIte, reduceCtorEq, ne_eq, implies_true, prim, YLD, mkA, V.cells, Nat.reduceAdd, Nat.reduceSub, Nat.reduceMul, Nat.reduceLeDiff, loadA, cellsAt, nAg, packA, List.drop, List.take, List.head?, binA, unA, eqCells, eqCell, negB, fillA, storeA, Ob.with, indexedI, V.oneCell, intOf?, resA, resA1, packR, sealDepth, Int.reduceLT, Int.reduceLE, Int.reduceToNat, Int.reduceNeg, Int.reduceAdd, Int.reduceSub, Int.reduceMul, cond_true, cond_false, Int.reduceBNe, Int.reduceBEq, eq_self, deads, List.replicate, argsF, gi, ca1, ql, qm, gw, hW', mp, hW, gl, ca2, gw2, md, t2, w1, List.set_set, List.drop_zero, -List.drop, -List.take]
      exact ⟨h1, W', D, hW', hfin.symm⟩
    · have gl : ((i : Int) == ((ordOf O w).length : Int)) = false := by simp; omega
      have hfin : (if i = (ordOf O w).length then h1.set m ⟨1, .map ((O.filter (fun x => !(w == x.w))).map Od.e)⟩ else h1.set m ⟨1, .map ((putO ⟨w, (ordOf O w).drop i, W', ordR O w⟩ O).map Od.e)⟩) = h1.set m ⟨1, .map ((putO ⟨w, (ordOf O w).drop i, W', ordR O w⟩ O).map Od.e)⟩ := if_neg hlast
      simp +contextual -implicitDefEqProofs (maxSteps := 10000000) only [sxb, plainD, stays, ↓selV_wt, ↓selV_wf, ↓impB_wt, ↓impB_wf, ↓selV_nor, ↓impB_nor, ↓selV_nt, ↓selV_nf, ↓impB_nt, ↓impB_nf, ↓selV_true, ↓selV_false, ↓selV_and, ↓impB_true, ↓impB_false, ↓impB_and, ↓prim_pick, ↓selV_nn, ↓impB_nn, doOp, get, ins, del, dels, Nat.reduceLT, Nat.reduceEqDiff, ↓reduceIte, reduceCtorEq, ne_eq, implies_true, prim, YLD, mkA, V.cells, Nat.reduceAdd, Nat.reduceSub, Nat.reduceMul, Nat.reduceLeDiff, loadA, cellsAt, nAg, packA, List.drop, List.take, List.head?, binA, unA, eqCells, eqCell, negB, fillA, storeA, Ob.with, indexedI, V.oneCell, intOf?, resA, resA1, packR, sealDepth, Int.reduceLT, Int.reduceLE, Int.reduceToNat, Int.reduceNeg, Int.reduceAdd, Int.reduceSub, Int.reduceMul, cond_true, cond_false, Int.reduceBNe, Int.reduceBEq, eq_self, deads, List.replicate, argsF, gi, ca1, ql, qm, gw, hW', mp, hW, gl, ca2, gw2, md, t2, w1, List.set_set, List.drop_zero, -List.drop, -List.take]
      exact ⟨h1, W', D, hW', hfin.symm⟩
end Go.Am.T


set_option linter.unusedVariables false
set_option linter.unusedSimpArgs false
set_option linter.unusedSectionVars false
set_option maxRecDepth 10000
namespace Go.Am.T
attribute [local congr] selV_congr impB_congr
def cutW (W : V) (i : Nat) : V := match W with | .view o ver off _ s _ => .view o ver off i s (some i) | v => v
def cutP (q : Pg) (i : Nat) : Pg := if i < q.l.length then ⟨q.l.take i, cutW q.W i, q.R⟩ else q
def cutQ (Q : List Pg) (p i : Nat) : List Pg := match Q[p]? with | some q => Q.set p (cutP q i) | none => Q
def cuts (Q : List Pg) (l : List (Int × Int)) : List Pg := l.foldl (fun Q p => cutQ Q p.1.toNat p.2.toNat) Q
theorem PRow.cut {H : Heap} {W : V} {l : List Wr} {R : List Nat} (h : PRow H W l R) {i : Nat} (hi : i < l.length) :
    sliceA (fun o => H[o]?) 101 W none (some (.int .i64 i)) (some (.int .i64 i)) = some (cutW W i) ∧ PRow H (cutW W i) (l.take i) R := by
  obtain ⟨hall, ⟨rfl, -⟩ | ⟨o, ver, cap, rest, rfl, rfl, ho, hc⟩⟩ := h
  · simp at hi
  · have hlen := flatW_len hall
    have hil : (l.take i).length = i := by rw [List.length_take]; omega
    refine ⟨?_, fun x hx => hall x (List.mem_of_mem_take hx), .inr ⟨o, ver, some i, flatW (l.drop i) ++ rest, rfl, by rw [hil]; rfl, ?_, .inr (by rw [hil])⟩⟩
    · have e0 : (if i = 0 then 0 else 0 + 0 * 101) = 0 := by split <;> rfl
      rcases hc with ⟨rfl, rfl⟩ | rfl
      · have hcap : ((flatW l ++ []).length - 0) / 101 = l.length := by rw [List.append_nil, hlen, Nat.sub_zero]; omega
        simp only [sliceA, ↓reduceIte, cellsAt, ho, hcap]
        simp [boundsA, intOf?, show i ≤ l.length by omega, cutW]
      · simp only [sliceA, ↓reduceIte]
        simp [boundsA, intOf?, show i ≤ l.length by omega, cutW]
    · rw [ho, ← List.append_assoc, ← flatW_app, List.take_append_drop]
theorem cutQ_len (Q : List Pg) (p i : Nat) : (cutQ Q p i).length = Q.length := by
  unfold cutQ
  cases Q[p]? <;> simp
theorem cutP_R (q : Pg) (i : Nat) : (cutP q i).R = q.R := by
  unfold cutP
  split <;> rfl
theorem own_cut {a m : Nat} {Q : List Pg} {O : List Od} {p i : Nat} (x : Nat) : Own a m (cutQ Q p i) O x ↔ Own a m Q O x := by
  have key : (∃ q ∈ cutQ Q p i, x ∈ q.R) ↔ ∃ q ∈ Q, x ∈ q.R := by
    unfold cutQ
    cases hp : Q[p]? with
    | none => exact Iff.rfl
    | some r =>
      simp only
      constructor
      · rintro ⟨q, hq, hx⟩
        rcases List.mem_or_eq_of_mem_set hq with hq | rfl
        · exact ⟨q, hq, hx⟩
        · rw [cutP_R] at hx
          exact ⟨r, List.mem_of_getElem? hp, hx⟩
      · rintro ⟨q, hq, hx⟩
        obtain ⟨j, hj⟩ := List.getElem?_of_mem hq
        by_cases e : p = j
        · subst e
          rw [hp] at hj
          cases hj
          exact ⟨_, List.mem_iff_getElem?.2 ⟨p, List.getElem?_set_self (List.getElem?_eq_some_iff.1 hp).1⟩, by rw [cutP_R]; exact hx⟩
        · exact ⟨q, List.mem_iff_getElem?.2 ⟨j, by rw [List.getElem?_set_ne e]; exact hj⟩, hx⟩
  unfold Own
  rw [key]
theorem cuts_cons (Q : List Pg) (l : List (Int × Int)) (x : Int × Int) : cuts Q (x :: l) = cuts (cutQ Q x.1.toNat x.2.toNat) l := rfl
theorem cuts_snoc (Q : List Pg) (l : List (Int × Int)) (x : Int × Int) : cuts Q (l ++ [x]) = cutQ (cuts Q l) x.1.toNat x.2.toNat := by simp [cuts]
theorem cuts_len : ∀ (l : List (Int × Int)) (Q : List Pg), (cuts Q l).length = Q.length
  | [], Q => rfl
  | x :: l, Q => by rw [cuts_cons, cuts_len l, cutQ_len]
theorem own_cuts {a m : Nat} {O : List Od} (x : Nat) : ∀ (l : List (Int × Int)) (Q : List Pg), Own a m (cuts Q l) O x ↔ Own a m Q O x
  | [], Q => Iff.rfl
  | y :: l, Q => by rw [cuts_cons, own_cuts x l, own_cut]
theorem MdAt.cut {H : Heap} {a m : Nat} {n : Int} {Q : List Pg} {O : List Od} (h : MdAt H a m n Q O) {p i : Nat} {q : Pg} (hq : Q[p]? = some q) (hi : i < q.l.length) : MdAt (H.set a ⟨1, .var (mcs (cutQ Q p i) n m)⟩) a m n (cutQ Q p i) O := by
  have hqm := List.mem_of_getElem? hq
  have eq : cutQ Q p i = Q.set p ⟨q.l.take i, cutW q.W i, q.R⟩ := by unfold cutQ cutP; rw [hq]; simp [hi]
  rw [eq]
  refine h.page hq (List.getElem?_set_self h.lta) (List.getElem?_set_ne h.ne) (fun j r hj hr x hx => List.getElem?_set_ne fun e : a = x => h.dqa r (List.mem_of_getElem? hr) x hx (by simp [e])) (fun r hr x hx => List.getElem?_set_ne fun e : a = x => h.doa r hr x hx (by simp [e])) ?_ (fun x hx => .inl hx)
  exact ((h.pg q hqm).cut hi).2.keep fun x hx => List.getElem?_set_ne fun e : a = x => h.dqa q hqm x hx (by simp [e])
theorem am13_wp {N n : Nat} {args : List V} {h : Heap} {C : V → Heap → Prop} (ha : args.length = 3) (H : sx ⟨pureOf am, callA am N n, N, h.length⟩ am13.body (fr am13.nt (argsF 0 args)) (h ++ deads am13.sites) (retQ am13.res C)) : ∃ v h', callA am N (n + 1) 13 args h = some (v, h') ∧ C v h' :=
  call_keep at13 rfl ha (by decide) (sx_wp H)
theorem lose_bad {N n : Nat} (hn : 7 ≤ n) {H : Heap} {a m : Nat} {nn : Int} {Q : List Pg} {O : List Od} (h : MdAt H a m nn Q O) (hp1 : 1 ≤ nn) (w : Int × Int) (k : Int) (hb : badA nn w 0 k = true) :
    ∃ v' H', callA am N n 13 [.ptr a 1 0, .agg (pcs w), .int .i64 k] H = some (v', H') ∧ v' = .tup [.int .i64 0, .int .i64 2] ∧ ∃ tl, H' = H ++ tl := by
  obtain ⟨n, rfl⟩ : ∃ m, n = m + 1 := ⟨n - 1, by omega⟩
  have hm := h.app [(⟨1, .var (pcs w)⟩ : Ob), ⟨0, .dead⟩]
  obtain ⟨v', H', c12, rfl, tl, rfl⟩ := @durable_bad N n (by omega) _ a m nn Q O hm hp1 w k hb
  unfold pcs at c12 ⊢
  refine am13_wp rfl ?_
  simp +contextual -implicitDefEqProofs (maxSteps := 10000000) only [sxb, plainD, stays, ↓selV_wt, ↓selV_wf, ↓impB_wt, ↓impB_wf, ↓selV_nor, ↓impB_nor, ↓selV_nt, ↓selV_nf, ↓impB_nt, ↓impB_nf, ↓selV_true, ↓selV_false, ↓selV_and, ↓impB_true, ↓impB_false, ↓impB_and, ↓prim_pick, ↓selV_nn, ↓impB_nn, doOp, get, ins, del, dels, Nat.reduceLT, Nat.reduceEqDiff, ↓reduceIte, reduceCtorEq, ne_eq, implies_true, prim, YLD, mkA, V.cells, Nat.reduceAdd, Nat.reduceSub, Nat.reduceMul, Nat.reduceLeDiff, loadA, cellsAt, nAg, packA, List.drop, List.take, List.head?, binA, unA, eqCells, eqCell, negB, fillA, storeA, Ob.with, indexedI, V.oneCell, intOf?, resA, resA1, packR, sealDepth, Int.reduceLT, Int.reduceLE, Int.reduceToNat, Int.reduceNeg, Int.reduceAdd, Int.reduceSub, Int.reduceMul, cond_true, cond_false, Int.reduceBNe, Int.reduceBEq, eq_self, deads, List.replicate, argsF, am13, app_get0, app_get, app_set0, app_set, c12, List.append_assoc]
  exact ⟨_, rfl⟩
end Go.Am.T


set_option linter.unusedVariables false
set_option linter.unusedSimpArgs false
set_option linter.unusedSectionVars false
set_option maxRecDepth 10000
namespace Go.Am.T
attribute [local congr] selV_congr impB_congr
structure LosI (H1 : Heap) (b a m : Nat) (nn : Int) (Q : List Pg) (O : List Od) (w : Int × Int) (l : List (Int × Int)) (h : Heap) : Prop where
  md : MdAt h a m nn (cuts Q l) O
  len : h.length = H1.length
  who : h[b]? = some ⟨1, .var (pcs w)⟩
  site : ∃ x, h[b + 1]? = some x
  oth : ∀ x, x < b → ¬ Own a m Q O x → h[x]? = H1[x]?
def Valid0 (Q : List Pg) (l : List (Int × Int)) : Prop := ∀ x ∈ l, 0 ≤ x.1 ∧ 0 ≤ x.2 ∧ x.1.toNat < Q.length
theorem ORow.at_ {H : Heap} {W : V} {l : List (Int × Int)} {R : List Nat} (h : ORow H W l R) {k : Nat} {x : Int × Int} (hx : l[k]? = some x) :
    ∃ o ver off c, W = .view o ver off l.length 2 none ∧ H[o]? = some ⟨ver, .arr c⟩ ∧ off + k * 2 + 2 ≤ c.length ∧ (c.drop (off + k * 2)).take 2 = pcs x := by
  rcases h with ⟨rfl, rfl, rfl⟩ | ⟨o, ver, pre, hpre, rfl, rfl, ho⟩
  · simp at hx
  · have hk := (List.getElem?_eq_some_iff.1 hx).1
    refine ⟨o, ver, pre.length, _, rfl, ho, ?_, flatP_at hx pre⟩
    rw [List.length_append, flatP_len]; omega
theorem find_putO (o : Od) (O : List Od) : (putO o O).find? (fun x => o.w == x.w) = some o := by
  cases hfd : (putO o O).find? (fun x => o.w == x.w) with
  | none =>
    exfalso
    have hall := List.find?_eq_none.1 hfd
    have : o ∈ putO o O := by
      unfold putO
      cases ha : O.any (fun x => o.w == x.w) with
      | true =>
        obtain ⟨x, hx, hb⟩ := List.any_eq_true.1 ha
        exact List.mem_map.2 ⟨x, hx, by rw [hb]⟩
      | false => simp
    have := hall _ this
    simp at this
  | some r =>
    have h1 := List.find?_some hfd
    have h2 := List.mem_of_find?_eq_some hfd
    rcases putO_mem h2 with rfl | ⟨h3, -⟩
    · rfl
    · exact absurd (beq_iff_eq.1 h1).symm h3
theorem ordOf_put (o : Od) (O : List Od) : ordOf (putO o O) o.w = o.l := by
  unfold ordOf
  rw [find_putO]
theorem ordOf_filter (w : Int × Int) (O : List Od) : ordOf (O.filter (fun x => !(w == x.w))) w = [] := by
  unfold ordOf
  have : (O.filter (fun x => !(w == x.w))).find? (fun x => w == x.w) = none := by
    rw [List.find?_eq_none]
    intro x hx
    have := (List.mem_filter.1 hx).2
    simpa using this
  rw [this]
set_option maxHeartbeats 2000000 in
theorem lose_spec {N n : Nat} (hN : 5000 ≤ N) (hn : 7 ≤ n) {H : Heap} {a m : Nat} {nn : Int} {Q : List Pg} {O : List Od} (h : MdAt H a m nn Q O) (hp1 : 1 ≤ nn) {w : Int × Int} {k : Nat} (hb : badA nn w 0 k = false) (hv : Valid Q (ordOf O w)) (hbig : (ordOf O w).length ≤ 4900) :
    ∃ v' H', callA am N n 13 [.ptr a 1 0, .agg (pcs w), .int .i64 k] H = some (v', H') ∧ v' = .tup [.int .i64 ((ordOf O w).length - min k (ordOf O w).length : Nat), .int .i64 0] ∧
      MdAt H' a m nn (cuts (marks Q ((ordOf O w).take (min k (ordOf O w).length))) ((ordOf O w).drop (min k (ordOf O w).length))) (O.filter (fun x => !(w == x.w))) ∧
        Bey H H' a m Q (cuts (marks Q ((ordOf O w).take (min k (ordOf O w).length))) ((ordOf O w).drop (min k (ordOf O w).length))) O (O.filter (fun x => !(w == x.w))) := by
  obtain ⟨n, rfl⟩ : ∃ m, n = m + 1 := ⟨n - 1, by omega⟩
  have hm := h.app [(⟨1, .var (pcs w)⟩ : Ob), ⟨0, .dead⟩]
  obtain ⟨v1, H1, c12, rfl, W', M1, B1⟩ := @durable_spec N n hN (by omega) _ a m nn Q O hm hp1 w k hb hv hbig
  obtain ⟨K, hK⟩ : ∃ K, K = min k (ordOf O w).length := ⟨_, rfl⟩
  have hKl : K ≤ (ordOf O w).length := by rw [hK]; exact Nat.min_le_right _ _
  rw [← hK] at c12 M1 B1 ⊢
  have own : ∀ j, ¬ Own a m Q O (H.length + j) := fun j hj => by have := h.lt _ hj; omega
  have hH0 : (H ++ [(⟨1, .var (pcs w)⟩ : Ob), ⟨0, .dead⟩]).length = H.length + 2 := by simp
  have own1 : ∀ j, j < 2 → ¬ Own a m (marks Q ((ordOf O w).take K)) (restO O w K W') (H.length + j) := fun j hj hx => by
    rcases B1.new _ hx with h1 | h1
    · exact own j h1
    · rw [hH0] at h1; omega
  have l1 : H.length + 2 ≤ H1.length := by have := B1.len; rw [hH0] at this; exact this
  have g0 : H1[H.length]? = some ⟨1, .var (pcs w)⟩ := by rw [B1.oth H.length (by rw [hH0]; omega) (own 0), app_get0]; rfl
  have g1 : H1[H.length + 1]? = some ⟨0, .dead⟩ := by rw [B1.oth _ (by rw [hH0]; omega) (own 1), app_get]; rfl
  have gl : ∀ x, x < H.length → ¬ Own a m Q O x → H1[x]? = H[x]? := fun x hx hn => by rw [B1.oth x (by rw [hH0]; omega) hn, List.getElem?_append_left hx]
  -- what is left of the places
  have hl1 : ordOf (restO O w K W') w = (ordOf O w).drop K := by
    unfold restO
    by_cases e : K = (ordOf O w).length
    · rw [if_pos e, e, List.drop_length]
      exact ordOf_filter w O
    · rw [if_neg e]
      exact ordOf_put ⟨w, (ordOf O w).drop K, W', ordR O w⟩ O
  have hfil : (restO O w K W').filter (fun x => !(w == x.w)) = O.filter (fun x => !(w == x.w)) := by
    unfold restO
    by_cases e : K = (ordOf O w).length
    · rw [if_pos e, List.filter_filter]
      simp
    · rw [if_neg e]
      exact filter_putO ⟨w, (ordOf O w).drop K, W', ordR O w⟩ O
  have ha16 : (marks Q ((ordOf O w).take K)).length = 16 := by rw [(marks_q16 _ Q).1, h.q16]
  have hv1 : Valid0 (marks Q ((ordOf O w).take K)) ((ordOf O w).drop K) := fun x hx => by
    obtain ⟨h1, h2, q, hq, -⟩ := hv x (List.mem_of_mem_drop hx)
    refine ⟨h1, h2, ?_⟩
    rw [(marks_q16 _ Q).1]
    exact (List.getElem?_eq_some_iff.1 hq).1
  have hnew : ∀ x, Own a m (marks Q ((ordOf O w).take K)) (restO O w K W') x → Own a m Q O x ∨ H.length ≤ x := fun x hx => by
    rcases B1.new x hx with h1 | h1
    · exact .inl h1
    · exact .inr (by rw [hH0] at h1; omega)
  have hownf : ∀ x, Own a m (cuts (marks Q ((ordOf O w).take K)) ((ordOf O w).drop K)) (O.filter (fun x => !(w == x.w))) x → Own a m (marks Q ((ordOf O w).take K)) (restO O w K W') x := fun x hx => by
    rw [own_cuts] at hx
    rcases hx with h1 | h1 | h1 | ⟨o, ho, hx⟩
    · exact .inl h1
    · exact .inr (.inl h1)
    · exact .inr (.inr (.inl h1))
    · rw [← hfil] at ho
      exact .inr (.inr (.inr ⟨o, (List.mem_filter.1 ho).1, hx⟩))
  have hownQ : ∀ x, x < H.length → Own a m (marks Q ((ordOf O w).take K)) (restO O w K W') x → Own a m Q O x := fun x hx h1 => by
    rcases hnew x h1 with h2 | h2
    · exact h2
    · omega
  have hlen1 : ((ordOf O w).drop K).length = (ordOf O w).length - K := List.length_drop
  have hbig1 : (ordOf (restO O w K W') w).length ≤ 4900 := by rw [hl1, List.length_drop]; omega
  rw [← hfil, ← hlen1, ← hl1] at *
  have hgoal : ∀ H' v', callA am N (n + 1) 13 [.ptr a 1 0, .agg (pcs w), .int .i64 k] H = some (v', H') → v' = .tup [.int .i64 ((ordOf (restO O w K W') w).length : Nat), .int .i64 0] → (∃ h1, LosI H1 H.length a m nn (marks Q ((ordOf O w).take K)) (restO O w K W') w (ordOf (restO O w K W') w) h1 ∧ H' = h1.set m ⟨1, .map (((restO O w K W').filter (fun x => !(w == x.w))).map Od.e)⟩) →
      ∃ v' H', callA am N (n + 1) 13 [.ptr a 1 0, .agg (pcs w), .int .i64 k] H = some (v', H') ∧ v' = .tup [.int .i64 ((ordOf (restO O w K W') w).length : Nat), .int .i64 0] ∧
      MdAt H' a m nn (cuts (marks Q ((ordOf O w).take K)) (ordOf (restO O w K W') w)) ((restO O w K W').filter (fun x => !(w == x.w))) ∧
        Bey H H' a m Q (cuts (marks Q ((ordOf O w).take K)) (ordOf (restO O w K W') w)) O ((restO O w K W').filter (fun x => !(w == x.w))) := by
    rintro H' v' hc hv' ⟨h1, D, rfl⟩
    have ml1 : m < h1.length := D.md.ltm
    refine ⟨v', _, hc, hv', D.md.del (List.getElem?_set_self ml1) (fun x hx _ => List.getElem?_set_ne (Ne.symm hx)), ⟨?_, fun x hx hn => ?_, fun x hx => hnew x (hownf x hx)⟩⟩
    · rw [List.length_set, D.len]; omega
    · rw [List.getElem?_set_ne (fun e => hn (.inr (.inl e.symm))), D.oth x hx (fun h1 => hn (hownQ x hx h1))]
      exact gl x hx hn
  generalize hQ1 : marks Q ((ordOf O w).take K) = Q1 at *
  clear hownf hownQ hnew gl B1 hb hQ1
  generalize restO O w K W' = O1 at *
  have D0 : LosI H1 H.length a m nn Q1 O1 w [] H1 := ⟨M1, rfl, g0, ⟨_, g1⟩, fun _ _ _ => rfl⟩
  have mg := mget_w (get := fun o => H1[o]?) M1.mp w
  have row0 := ord_row M1 w
  have hW := row0.len
  obtain ⟨w1, w2, w3, w4, w5, w6⟩ := row0.shape
  have oa := M1.ob'
  have qm := @mcs_m Q1 nn m ha16
  have ql := @mcs_len Q1 nn m ha16
  have al := h.lta
  have ml := h.ltm
  have nam := h.ne
  have t2 : ∀ a b : V, List.take 2 [a, b] = [a, b] := fun _ _ => rfl
  suffices T : ∃ v' H', callA am N (n + 1) 13 [.ptr a 1 0, .agg (pcs w), .int .i64 k] H = some (v', H') ∧ v' = .tup [.int .i64 ((ordOf O1 w).length : Nat), .int .i64 0] ∧ ∃ h1, LosI H1 H.length a m nn Q1 O1 w (ordOf O1 w) h1 ∧ H' = h1.set m ⟨1, .map ((O1.filter (fun x => !(w == x.w))).map Od.e)⟩ by
    obtain ⟨v', H', hc, hv', hI⟩ := T
    exact hgoal H' v' hc hv' hI
  clear hgoal
  have g0' := g0
  have own0 := own1 0 (by omega)
  have own2 := own1 1 (by omega)
  unfold pcs at c12 g0
  refine am13_wp rfl ?_
  have hcs0 : mcs (cuts Q1 []) nn m = mcs Q1 nn m := rfl
  generalize hcs : mcs Q1 nn m = cs at *
  unfold pcs at mg ⊢
  simp +contextual -implicitDefEqProofs (maxSteps := 10000000) only [sxb, plainD, stays, ↓selV_wt, ↓selV_wf, ↓impB_wt, ↓impB_wf, ↓selV_nor, ↓impB_nor, ↓selV_nt, ↓selV_nf, ↓impB_nt, ↓impB_nf, ↓selV_true, ↓selV_false, ↓selV_and, ↓impB_true, ↓impB_false, ↓impB_and, ↓prim_pick, ↓selV_nn, ↓impB_nn, doOp, get, ins, del, dels, Nat.reduceLT, Nat.reduceEqDiff, ↓reduceIte, reduceCtorEq, ne_eq, implies_true, prim, YLD, mkA, V.cells, Nat.reduceAdd, Nat.reduceSub, Nat.reduceMul, Nat.reduceLeDiff, loadA, cellsAt, nAg, packA, List.drop, List.take, List.head?, binA, unA, eqCells, eqCell, negB, fillA, storeA, Ob.with, indexedI, V.oneCell, intOf?, resA, resA1, packR, sealDepth, Int.reduceLT, Int.reduceLE, Int.reduceToNat, Int.reduceNeg, Int.reduceAdd, Int.reduceSub, Int.reduceMul, cond_true, cond_false, Int.reduceBNe, Int.reduceBEq, eq_self, deads, List.replicate, argsF, am13, app_get0, app_get, app_set0, app_set, c12, g0, g1, oa, qm, ql, mg, hW, t2, w1, List.drop_zero, -List.drop, -List.take]
  refine sx_loop (fun i t h => t = fr 72 [(0, .ptr a 1 0), (4, .ptr H.length 1 0), (10, ordV O1 w), (29, ordV O1 w), (30, .int .i64 ((ordOf O1 w).length : Nat)), (31, .int .i64 i)] ∧ i ≤ (ordOf O1 w).length ∧ LosI H1 H.length a m nn Q1 O1 w ((ordOf O1 w).take i) h) (ordOf O1 w).length (by show (ordOf O1 w).length < N; omega) ⟨rfl, Nat.zero_le _, D0⟩ ?_
  rintro i t h1 hi ⟨rfl, hiK, D⟩
  have sl1 : H.length + 1 < h1.length := by rw [D.len]; omega
  by_cases hlt : i < (ordOf O1 w).length
  · have gi : decide ((i : Int) < ((ordOf O1 w).length : Int)) = true := decide_eq_true (by omega)
    have w4 : IntKind.i64.wrap ((i : Int) + 1) = ((i + 1 : Nat) : Int) := (wrap64 (by omega) (by omega)).trans (by omega)
    have hi1 : i + 1 ≤ (ordOf O1 w).length := by omega
    have hx : (ordOf O1 w)[i]? = some (ordOf O1 w)[i] := List.getElem?_eq_getElem (by omega)
    generalize (ordOf O1 w)[i] = x at hx
    have hxm := List.mem_of_getElem? hx
    have hvx := hv1 x hxm
    obtain ⟨x0, hsite⟩ := D.site
    obtain ⟨oo, vo, off, c, hSv, hoo, hole, hoat⟩ := (ord_row D.md w).at_ hx
    obtain ⟨p, j⟩ := x
    obtain ⟨p, rfl⟩ : ∃ p' : Nat, p = p' := ⟨p.toNat, by have := hvx.1; simp only at this; omega⟩
    obtain ⟨j, rfl⟩ : ∃ j' : Nat, j = j' := ⟨j.toNat, by have := hvx.2.1; simp only at this; omega⟩
    simp only [Int.toNat_natCast] at hvx
    obtain ⟨-, -, hpl0⟩ := hvx
    have hcl := cuts_len ((ordOf O1 w).take i) Q1
    have hq : (cuts Q1 ((ordOf O1 w).take i))[p]? = some (cuts Q1 ((ordOf O1 w).take i))[p] := List.getElem?_eq_getElem (by omega)
    generalize (cuts Q1 ((ordOf O1 w).take i))[p]'(by omega) = q at hq
    have htk : (ordOf O1 w).take (i + 1) = (ordOf O1 w).take i ++ [((p : Int), (j : Int))] := by rw [List.take_add_one, hx]; rfl
    have M2 : MdAt (h1.set (H.length + 1) ⟨x0.ver + 1, .var (pcs ((p : Int), (j : Int)))⟩) a m nn (cuts Q1 ((ordOf O1 w).take i)) O1 := D.md.set _ (by rw [own_cuts]; exact own2)
    have hrow := M2.pg q (List.mem_of_getElem? hq)
    have hrl := hrow.len
    obtain ⟨r1, r2, r3, r4, r5, r6⟩ := hrow.shape
    have ca1 := M2.ob'
    have qp := @mcs_p (cuts Q1 ((ordOf O1 w).take i)) nn m p q hq
    have ql1 := @mcs_len (cuts Q1 ((ordOf O1 w).take i)) nn m (by omega)
    have hp16 : p < 16 := by omega
    have hp16' : ((p : Int) < 16) := by omega
    have hpl : p + 1 ≤ 18 := by omega
    have hrd : (h1.set (H.length + 1) ⟨x0.ver + 1, .var [.int .i64 p, .int .i64 j]⟩)[H.length + 1]? = some ⟨x0.ver + 1, .var [.int .i64 p, .int .i64 j]⟩ := List.getElem?_set_self sl1
    have hiK' : (i : Int) < ((ordOf O1 w).length : Int) := by omega
    have t1 : ∀ a b : V, List.take 1 [a, b] = [a] := fun _ _ => rfl
    have t2' : ∀ a b : V, List.take 1 (List.drop 1 [a, b]) = [b] := fun _ _ => rfl
    have al1 : a < (h1.set (H.length + 1) ⟨x0.ver + 1, .var [.int .i64 p, .int .i64 j]⟩).length := M2.lta
    by_cases hj : j < q.l.length
    · have gj : decide ((j : Int) < (q.l.length : Int)) = true := decide_eq_true (by omega)
      obtain ⟨hsl, -⟩ := hrow.cut hj
      have M3 := M2.cut hq hj
      have eq : cutQ (cuts Q1 ((ordOf O1 w).take i)) p j = (cuts Q1 ((ordOf O1 w).take i)).set p ⟨q.l.take j, cutW q.W j, q.R⟩ := by unfold cutQ cutP; rw [hq]; simp [hj]
      have qs := @mcs_set (cuts Q1 ((ordOf O1 w).take i)) nn m p q ⟨q.l.take j, cutW q.W j, q.R⟩ hq
      rw [← eq] at qs
      simp only at qs
      have cw : (cutW q.W j).cells = [cutW q.W j] := by
        obtain ⟨-, ⟨-, hw | hw, -⟩ | ⟨_, _, _, _, -, hw, -⟩⟩ := hrow <;> rw [hw] <;> rfl
      have cw1 : (cutW q.W j).oneCell = true := by
        obtain ⟨-, ⟨-, hw | hw, -⟩ | ⟨_, _, _, _, -, hw, -⟩⟩ := hrow <;> rw [hw] <;> rfl
      unfold pcs at hoat ca1 M2 hsl M3
      simp only at hoat ca1 M2 hsl M3
      rw [hSv]
      have cI : ∀ k n, (V.int k n).cells = [.int k n] := fun _ _ => rfl
      have cO : ∀ k n, (V.int k n).oneCell = true := fun _ _ => rfl
      have cA : ∀ l, (V.agg l).cells = l := fun _ => rfl
      generalize hW3 : cutW q.W j = W3 at *
      generalize mcs (cutQ (cuts Q1 ((ordOf O1 w).take i)) p j) nn m = cs3 at *
      generalize mcs (cuts Q1 ((ordOf O1 w).take i)) nn m = cs2 at *
      simp +contextual -implicitDefEqProofs (maxSteps := 10000000) only [sxb, plainD, stays, ↓selV_wt, ↓selV_wf, ↓impB_wt, ↓impB_wf, ↓selV_nor, ↓impB_nor, ↓selV_nt, ↓selV_nf, ↓impB_nt, ↓impB_nf, ↓selV_true, ↓selV_false, ↓selV_and, ↓impB_true, ↓impB_false, ↓impB_and, ↓prim_pick, ↓selV_nn, ↓impB_nn, doOp, get, ins, del, dels, Nat.reduceLT, Nat.reduceEqDiff, ↓reduceIte, reduceCtorEq, ne_eq, implies_true, prim, YLD, mkA, V.cells, Nat.reduceAdd, Nat.reduceSub, Nat.reduceMul, Nat.reduceLeDiff, loadA, cellsAt, nAg, packA, List.drop, List.take, List.head?, binA, unA, eqCells, eqCell, negB, fillA, storeA, Ob.with, indexedI, V.oneCell, intOf?, resA, resA1, packR, sealDepth, Int.reduceLT, Int.reduceLE, Int.reduceToNat, Int.reduceNeg, Int.reduceAdd, Int.reduceSub, Int.reduceMul, cond_true, cond_false, Int.reduceBNe, Int.reduceBEq, eq_self, deads, List.replicate, argsF, gi, iaddrSA, hiK', hoo, hole, hoat, hsite, sl1, hrd, ca1, ql1, qp, hp16', hpl, t1, t2', hrl, gj, hsl, qs, cw, cw1, r1, w4, hi1, hlt, al1, List.getElem?_set_self, List.length_set, List.set_set, List.drop_zero, cI, cA, cO, List.all_cons, List.all_nil, Bool.and_self, -List.drop, -List.take, -V.cells, -V.oneCell]
      refine ⟨?_, by simp [D.len], ?_, ⟨_, by rw [List.getElem?_set_ne (by omega)]; exact hrd⟩, fun y hy hn => ?_⟩
      · rw [htk, cuts_snoc]
        exact M3
      · rw [List.getElem?_set_ne (by omega), List.getElem?_set_ne (by omega)]
        exact D.who
      · rw [List.getElem?_set_ne (fun e => hn (.inl e.symm)), List.getElem?_set_ne (by omega)]
        exact D.oth y hy hn
    · have gj : decide ((j : Int) < (q.l.length : Int)) = false := decide_eq_false (by omega)
      have eq : cutQ (cuts Q1 ((ordOf O1 w).take i)) p j = cuts Q1 ((ordOf O1 w).take i) := by
        unfold cutQ cutP
        rw [hq]
        simp only [if_neg hj]
        apply List.ext_getElem?
        intro y
        by_cases e : p = y
        · subst e; rw [List.getElem?_set_self (by omega), hq]
        · rw [List.getElem?_set_ne e]
      unfold pcs at hoat ca1 M2
      simp only at hoat ca1 M2
      rw [hSv]
      generalize mcs (cuts Q1 ((ordOf O1 w).take i)) nn m = cs2 at *
      simp +contextual -implicitDefEqProofs (maxSteps := 10000000) only [sxb, plainD, stays, ↓selV_wt, ↓selV_wf, ↓impB_wt, ↓impB_wf, ↓selV_nor, ↓impB_nor, ↓selV_nt, ↓selV_nf, ↓impB_nt, ↓impB_nf, ↓selV_true, ↓selV_false, ↓selV_and, ↓impB_true, ↓impB_false, ↓impB_and, ↓prim_pick, ↓selV_nn, ↓impB_nn, doOp, get, ins, del, dels, Nat.reduceLT, Nat.reduceEqDiff, ↓reduceIte, reduceCtorEq, ne_eq, implies_true, prim, YLD, mkA, V.cells, Nat.reduceAdd, Nat.reduceSub, Nat.reduceMul, Nat.reduceLeDiff, loadA, cellsAt, nAg, packA, List.drop, List.take, List.head?, binA, unA, eqCells, eqCell, negB, fillA, storeA, Ob.with, indexedI, V.oneCell, intOf?, resA, resA1, packR, sealDepth, Int.reduceLT, Int.reduceLE, Int.reduceToNat, Int.reduceNeg, Int.reduceAdd, Int.reduceSub, Int.reduceMul, cond_true, cond_false, Int.reduceBNe, Int.reduceBEq, eq_self, deads, List.replicate, argsF, gi, iaddrSA, hiK', hoo, hole, hoat, hsite, sl1, hrd, ca1, ql1, qp, hp16', hpl, t1, t2', hrl, gj, r1, w4, hi1, hlt, al1, List.getElem?_set_self, List.length_set, List.set_set, List.drop_zero, -List.drop, -List.take]
      refine ⟨?_, by simp [D.len], ?_, ⟨_, hrd⟩, fun y hy hn => ?_⟩
      · rw [htk, cuts_snoc]
        exact eq.symm ▸ M2
      · rw [List.getElem?_set_ne (by omega)]
        exact D.who
      · rw [List.getElem?_set_ne (by omega)]
        exact D.oth y hy hn
  · have eK : i = (ordOf O1 w).length := by omega
    subst eK
    have gi : decide (((ordOf O1 w).length : Int) < ((ordOf O1 w).length : Int)) = false := decide_eq_false (by omega)
    have ca1 := D.md.ob'
    have qm1 := @mcs_m (cuts Q1 ((ordOf O1 w).take (ordOf O1 w).length)) nn m (by rw [cuts_len]; exact ha16)
    have ql1 := @mcs_len (cuts Q1 ((ordOf O1 w).take (ordOf O1 w).length)) nn m (by rw [cuts_len]; exact ha16)
    have gw : h1[H.length]? = some ⟨1, .var [.int .i64 w.1, .int .i64 w.2]⟩ := D.who
    have md := mdel_w (get := fun o => h1[o]?) D.md.mp w
    unfold pcs at md
    generalize mcs (cuts Q1 ((ordOf O1 w).take (ordOf O1 w).length)) nn m = cs2 at *
    simp +contextual -implicitDefEqProofs (maxSteps := 10000000) only [sxb, plainD, stays, ↓selV_wt, ↓selV_wf, ↓impB_wt, ↓impB_wf, ↓selV_nor, ↓impB_nor, ↓selV_nt, ↓selV_nf, ↓impB_nt, ↓impB_nf, ↓selV_true, ↓selV_false, ↓selV_and, ↓impB_true, ↓impB_false, ↓impB_and, ↓prim_pick, ↓selV_nn, ↓impB_nn, doOp, get, ins, del, dels, Nat.reduceLT, Nat.reduceEqDiff, ↓reduceIte, reduceCtorEq, ne_eq, implies_true, prim, YLD, mkA, V.cells, Nat.reduceAdd, Nat.reduceSub, Nat.reduceMul, Nat.reduceLeDiff, loadA, cellsAt, nAg, packA, List.drop, List.take, List.head?, binA, unA, eqCells, eqCell, negB, fillA, storeA, Ob.with, indexedI, V.oneCell, intOf?, resA, resA1, packR, sealDepth, Int.reduceLT, Int.reduceLE, Int.reduceToNat, Int.reduceNeg, Int.reduceAdd, Int.reduceSub, Int.reduceMul, cond_true, cond_false, Int.reduceBNe, Int.reduceBEq, eq_self, deads, List.replicate, argsF, gi, ca1, ql1, qm1, gw, hW, md, t2, w1, List.set_set, List.drop_zero, -List.drop, -List.take]
    refine ⟨h1, by rw [List.take_length] at D; exact D, rfl⟩
end Go.Am.T


set_option linter.unusedVariables false
set_option linter.unusedSimpArgs false
set_option linter.unusedSectionVars false
set_option maxRecDepth 10000
namespace Go.Am.T
attribute [local congr] selV_congr impB_congr
def noQ : List Pg := List.replicate 16 ⟨[], .nils, []⟩
theorem am8_wp {N n : Nat} {args : List V} {h h' : Heap} {v : V} (ha : args.length = 1) (H : sx ⟨pureOf am, callA am N n, N, h.length⟩ am8.body (fr am8.nt (argsF 0 args)) (h ++ deads am8.sites) (retQ am8.res fun x k => x = v ∧ k = h')) : callA am N (n + 1) 8 args h = some (v, h') :=
  call_keep_eq at8 rfl ha (by decide) (sx_wp H)
theorem new_spec {N n : Nat} (hn : 1 ≤ n) {nn : Int} (h1 : 1 ≤ nn) (h2 : nn ≤ 16) (H : Heap) : callA am N n 8 [.int .i64 nn] H = some (.tup [.ptr (H.length + 1) 1 0, .int .i64 0], H ++ [⟨1, .map []⟩, ⟨1, .var (mcs noQ nn H.length)⟩]) := by
  obtain ⟨n, rfl⟩ : ∃ m, n = m + 1 := ⟨n - 1, by omega⟩
  have g1 : decide (nn < 1) = false := decide_eq_false (by omega)
  have g2 : decide (nn > 16) = false := decide_eq_false (by omega)
  refine am8_wp rfl ?_
  simp +contextual -implicitDefEqProofs (maxSteps := 10000000) only [sxb, plainD, stays, ↓selV_wt, ↓selV_wf, ↓impB_wt, ↓impB_wf, ↓selV_nor, ↓impB_nor, ↓selV_nt, ↓selV_nf, ↓impB_nt, ↓impB_nf, ↓selV_true, ↓selV_false, ↓selV_and, ↓impB_true, ↓impB_false, ↓impB_and, ↓prim_pick, ↓selV_nn, ↓impB_nn, doOp, get, ins, del, dels, Nat.reduceLT, Nat.reduceEqDiff, ↓reduceIte, reduceCtorEq, ne_eq, implies_true, prim, YLD, mkA, V.cells, Nat.reduceAdd, Nat.reduceSub, Nat.reduceMul, Nat.reduceLeDiff, loadA, cellsAt, nAg, packA, List.drop, List.take, List.head?, binA, unA, eqCells, eqCell, negB, fillA, storeA, Ob.with, indexedI, V.oneCell, intOf?, resA, resA1, packR, sealDepth, Int.reduceLT, Int.reduceLE, Int.reduceToNat, Int.reduceNeg, Int.reduceAdd, Int.reduceSub, Int.reduceMul, cond_true, cond_false, Int.reduceBNe, Int.reduceBEq, eq_self, deads, List.replicate, argsF, am8, g1, g2, app_get0, app_get, app_set0, app_set]
  rfl
theorem new_at {H : Heap} {a m : Nat} {nn : Int} (ha : H[a]? = some ⟨1, .var (mcs noQ nn m)⟩) (hm : H[m]? = some ⟨1, .map []⟩) (hne : a ≠ m) : MdAt H a m nn noQ [] := by
  have hq : ∀ q ∈ noQ, q = ⟨[], .nils, []⟩ := fun q hq => (List.mem_replicate.1 hq).2
  refine ⟨ha, hm, rfl, fun q h => ?_, (fun o h => by cases h), fun i j q r hi _ _ x hx => ?_, (fun i j q r hi => by simp at hi), (fun q _ o h => by cases h), fun q h x hx => ?_, (fun o h => by cases h), hne, by simp⟩
  · rw [hq q h]
    exact ⟨by simp, .inl ⟨rfl, .inl rfl, rfl⟩⟩
  · rw [hq q (List.mem_of_getElem? hi)] at hx
    cases hx
  · rw [hq q h] at hx
    cases hx
def alT (n0 : Nat) : List V := fr 21 [(4, .nils), (5, .bool false), (7, .ptr n0 1 0), (14, .func 49 [] [.ptr (n0 + 4) 1 0, .ptr (n0 + 5) 1 0])]
def alH (H : Heap) (a : Nat) (p : Int) (st : Nat) (W : V) (x1 x2 y : Ob) : Heap :=
  H ++ [⟨1, .var [W]⟩, x1, x2, ⟨1, .loop st none (alT H.length) H.length 14 0⟩, ⟨1, .var [.ptr a 1 0]⟩, ⟨1, .var [.int .i64 p]⟩, y, ⟨1, .var (pcs (0, 1))⟩]
def alI (H : Heap) (a : Nat) (p : Int) (l : List Wr) (b : Bool) (k : Nat) (h : Heap) : Prop := b = true ∧ ∃ W x1 x2 y R, h = alH H a p 0 W x1 x2 y ∧ PRow h W (l.take k) R ∧ ∀ o ∈ R, o = H.length + 2
theorem all_taker {N n : Nat} {H : Heap} {a : Nat} {p : Int} {l : List Wr} {W : V} {R : List Nat} (hr : PRow H W l R) (hl : l.length ≤ 4096) : WTaker l W R N (n + 1) (H.length + 3) 1 (H.length + 6) (fun _ => false) (alI H a p l) := by
  refine ⟨?_, ?_, ?_, ?_⟩
  · rintro b k h ⟨-, W, x1, x2, y, R, rfl, -, -⟩
    simp [alH]
  · rintro b k h ⟨-, W, x1, x2, y, R, rfl, -, -⟩
    exact hr.keep fun o ho => List.getElem?_append_left (hr.lt o ho)
  · rintro b k h x ⟨rfl, W, x1, x2, y, R, rfl, hp, hR⟩
    refine ⟨rfl, W, x1, x2, x, R, ?_, hp.keep fun o ho => List.getElem?_set_ne (by have := hR o ho; omega), hR⟩
    unfold alH
    rw [app_set]
    rfl
  · rintro k h x hk ⟨-, W, x1, x2, y, R, rfl, hp, hR⟩
    have hx := hr.1 x (List.mem_of_getElem? hk)
    have hxl := Wr.len hx
    have hone := x.one
    have tk : List.take 101 x.cs = x.cs := List.take_of_length_le (by omega)
    have hk1 : l.take (k + 1) = l.take k ++ [x] := by rw [List.take_add_one, hk]; rfl
    have hbs : List.map (fun i => wrapV (List.take 101 (List.drop (i * 101) x.cs))) (List.range 1) = [.agg x.cs] := by
      rw [show List.range 1 = [0] from rfl, List.map_cons, List.map_nil, Nat.zero_mul, List.drop_zero, tk]
      rfl
    -- the array behind x's coming in
    have hg2 : ∀ z, (alH H a p 1 W ⟨z, .var x.cs⟩ x2 y)[H.length + 2]? = some x2 := fun z => by unfold alH; rw [app_get]; rfl
    have hp2 : PRow (alH H a p 1 W ⟨x1.ver + 1, .var x.cs⟩ x2 y) W (l.take k) R := hp.keep fun o ho => by
      rw [hR o ho, hg2]
      unfold alH
      rw [app_get]
      rfl
    obtain ⟨o1, z, W', hA, hrow, ho1, hol⟩ := hp2.append hx (hg2 _) (by rw [List.length_take]; omega)
    have eo : o1 = H.length + 2 := by
      rcases ho1 with e | e
      · exact e
      · exact hR _ e
    subst eo
    obtain ⟨w1, w2, w3, w4, w5, w6⟩ := hp.shape
    obtain ⟨v1, v2, v3, v4, v5, v6⟩ := hrow.shape
    have eset : (alH H a p 1 W ⟨x1.ver + 1, .var x.cs⟩ x2 y).set (H.length + 2) z = alH H a p 1 W ⟨x1.ver + 1, .var x.cs⟩ z y := by unfold alH; rw [app_set]; rfl
    rw [eset] at hrow
    refine ⟨alH H a p 0 W' ⟨x1.ver + 1, .var x.cs⟩ z y, ?_, ⟨rfl, W', ⟨x1.ver + 1, .var x.cs⟩, z, y, [H.length + 2], rfl, ?_, fun o ho => by simpa using ho⟩⟩
    · unfold alH at hA ⊢
      refine call_yld (ho := by rw [app_get]; rfl) (hp := at14) (hr := rfl) (hl := rfl) ?_
      unfold alT at hA ⊢
      generalize x.cs = X at *
      simp +contextual -implicitDefEqProofs (maxSteps := 10000000) only [sxb, plainD, stays, ↓selV_wt, ↓selV_wf, ↓impB_wt, ↓impB_wf, ↓selV_nor, ↓impB_nor, ↓selV_nt, ↓selV_nf, ↓impB_nt, ↓impB_nf, ↓selV_true, ↓selV_false, ↓selV_and, ↓impB_true, ↓impB_false, ↓impB_and, ↓prim_pick, ↓selV_nn, ↓impB_nn, doOp, get, ins, del, dels, Nat.reduceLT, Nat.reduceEqDiff, ↓reduceIte, reduceCtorEq, ne_eq, implies_true, prim, YLD, mkA, V.cells, Nat.reduceAdd, Nat.reduceSub, Nat.reduceMul, Nat.reduceLeDiff, loadA, cellsAt, nAg, packA, List.drop, List.take, List.head?, binA, unA, eqCells, eqCell, negB, fillA, storeA, Ob.with, indexedI, V.oneCell, intOf?, resA, resA1, packR, sealDepth, Int.reduceLT, Int.reduceLE, Int.reduceToNat, Int.reduceNeg, Int.reduceAdd, Int.reduceSub, Int.reduceMul, cond_true, cond_false, Int.reduceBNe, Int.reduceBEq, eq_self, deads, List.replicate, argsF, setPs_cons, setPs_nil, app_get0, app_get, app_set0, app_set, hxl, hone, tk, hbs, w1, v1]
      refine ⟨none, _, _, _, _, rfl, ?_⟩
      simp +contextual -implicitDefEqProofs (maxSteps := 10000000) only [sxb, plainD, stays, ↓selV_wt, ↓selV_wf, ↓impB_wt, ↓impB_wf, ↓selV_nor, ↓impB_nor, ↓selV_nt, ↓selV_nf, ↓impB_nt, ↓impB_nf, ↓selV_true, ↓selV_false, ↓selV_and, ↓impB_true, ↓impB_false, ↓impB_and, ↓prim_pick, ↓selV_nn, ↓impB_nn, doOp, get, ins, del, dels, Nat.reduceLT, Nat.reduceEqDiff, ↓reduceIte, reduceCtorEq, ne_eq, implies_true, prim, YLD, mkA, V.cells, Nat.reduceAdd, Nat.reduceSub, Nat.reduceMul, Nat.reduceLeDiff, loadA, cellsAt, nAg, packA, List.drop, List.take, List.head?, binA, unA, eqCells, eqCell, negB, fillA, storeA, Ob.with, indexedI, V.oneCell, intOf?, resA, resA1, packR, sealDepth, Int.reduceLT, Int.reduceLE, Int.reduceToNat, Int.reduceNeg, Int.reduceAdd, Int.reduceSub, Int.reduceMul, cond_true, cond_false, Int.reduceBNe, Int.reduceBEq, eq_self, deads, List.replicate, argsF, app_get0, app_get, app_set0, app_set, hA, w1, v1]
      exact ⟨_, _, _, _, _, _, rfl, rfl, rfl⟩
    · rw [hk1]
      refine hrow.keep fun o ho => ?_
      obtain rfl : o = H.length + 2 := by simpa using ho
      unfold alH
      rw [app_get, app_get]
      rfl
end Go.Am.T


set_option linter.unusedVariables false
set_option linter.unusedSimpArgs false
set_option linter.unusedSectionVars false
set_option maxRecDepth 10000
namespace Go.Am.T
attribute [local congr] selV_congr impB_congr
theorem am14_wp {N n : Nat} {args : List V} {h : Heap} {C : V → Heap → Prop} (ha : args.length = 2) (H : sx ⟨pureOf am, callA am N n, N, h.length⟩ am14.body (fr am14.nt (argsF 0 args)) (h ++ deads am14.sites) (retQ am14.res C)) : ∃ v h', callA am N (n + 1) 14 args h = some (v, h') ∧ C v h' :=
  call_keep at14 rfl ha (by decide) (sx_wp H)
set_option maxHeartbeats 1000000 in
theorem all_spec {N n : Nat} (hN : 5000 ≤ N) (hn : 6 ≤ n) {H : Heap} {a m : Nat} {nn : Int} {Q : List Pg} {O : List Od} (h : MdAt H a m nn Q O) (hp1 : 1 ≤ nn) {p : Nat} (hb : badA nn (0, 1) p 0 = false) {q : Pg} (hq : Q[p]? = some q) (hl : q.l.length ≤ 4096) :
    ∃ v' H', callA am N n 14 [.ptr a 1 0, .int .i64 p] H = some (v', H') ∧ ∃ W R tl, v' = .tup [W, .bool true] ∧ H' = H ++ tl ∧ PRow H' W q.l R ∧ ∀ o ∈ R, H.length ≤ o := by
  obtain ⟨n, rfl⟩ : ∃ m, n = m + 3 := ⟨n - 3, by omega⟩
  have al := h.lta
  have c30 := fun H => @writes_spec N (n + 2) (by omega) a p H
  obtain ⟨hs, ehs⟩ : ∃ hs, hs = H ++ [(⟨1, .var [.nils]⟩ : Ob), ⟨0, .dead⟩, ⟨0, .dead⟩, ⟨1, .loop 0 none (alT H.length) H.length 14 0⟩, ⟨1, .var [.ptr a 1 0]⟩, ⟨1, .var [.int .i64 p]⟩] := ⟨_, rfl⟩
  have hsl : hs.length = H.length + 6 := by rw [ehs]; simp
  have hm := h.app [(⟨1, .var [.nils]⟩ : Ob), ⟨0, .dead⟩, ⟨0, .dead⟩, ⟨1, .loop 0 none (alT H.length) H.length 14 0⟩, ⟨1, .var [.ptr a 1 0]⟩, ⟨1, .var [.int .i64 p]⟩]
  rw [← ehs] at hm
  have b1 : hs[H.length + 4]? = some ⟨1, .var [.ptr a 1 0]⟩ := by rw [ehs, app_get]; rfl
  have b2 : hs[H.length + 5]? = some ⟨1, .var [.int .i64 p]⟩ := by rw [ehs, app_get]; rfl
  have T := @all_taker N n H a p q.l q.W q.R (h.pg q (List.mem_of_getElem? hq)) hl
  rw [← hsl] at T
  obtain ⟨v0, h', c49, rfl, b, K, hI, hall, hleft⟩ := @iter_spec N (n + 1) (by omega) (by omega) hs a m _ _ nn Q h.q16 hp1 hm.ob' b1 p b2 hb q hq hl _ _ _ _ T ⟨rfl, .nils, ⟨0, .dead⟩, ⟨0, .dead⟩, ⟨0, .dead⟩, [], by rw [ehs, List.append_assoc]; rfl, ⟨by simp, .inl ⟨by simp, .inl rfl, rfl⟩⟩, by simp⟩
  obtain ⟨rfl, W, x1, x2, y, R, rfl, hp, hR⟩ := hI
  obtain ⟨rfl, -⟩ := hall rfl
  rw [List.take_length] at hp
  obtain ⟨w1, w2, w3, w4, w5, w6⟩ := hp.shape
  refine am14_wp rfl ?_
  simp +contextual -implicitDefEqProofs (maxSteps := 10000000) only [sxb, plainD, stays, ↓selV_wt, ↓selV_wf, ↓impB_wt, ↓impB_wf, ↓selV_nor, ↓impB_nor, ↓selV_nt, ↓selV_nf, ↓impB_nt, ↓impB_nf, ↓selV_true, ↓selV_false, ↓selV_and, ↓impB_true, ↓impB_false, ↓impB_and, ↓prim_pick, ↓selV_nn, ↓impB_nn, doOp, get, ins, del, dels, Nat.reduceLT, Nat.reduceEqDiff, ↓reduceIte, reduceCtorEq, ne_eq, implies_true, prim, YLD, mkA, V.cells, Nat.reduceAdd, Nat.reduceSub, Nat.reduceMul, Nat.reduceLeDiff, loadA, cellsAt, nAg, packA, List.drop, List.take, List.head?, binA, unA, eqCells, eqCell, negB, fillA, storeA, Ob.with, indexedI, V.oneCell, intOf?, resA, resA1, packR, sealDepth, Int.reduceLT, Int.reduceLE, Int.reduceToNat, Int.reduceNeg, Int.reduceAdd, Int.reduceSub, Int.reduceMul, cond_true, cond_false, Int.reduceBNe, Int.reduceBEq, eq_self, deads, List.replicate, argsF, am14, isNil, app_get0, app_get, app_set0, app_set, c30, List.length_append, List.append_assoc]
  refine sx_rangeF (x := ⟨0, .dead⟩) (g := 49) (xs := []) (ys := [.ptr (H.length + 4) 1 0, .ptr (H.length + 5) 1 0]) (by rw [app_get]; rfl) rfl (by rw [app_set]; subst ehs; exact c49) (by show (alH _ _ _ _ _ _ _ _)[_]? = _; unfold alH; rw [app_get]; rfl) (by decide) ?_
  have hfin : (alH H a p 0 W x1 x2 y).set (H.length + 3) ⟨1, .dead⟩ = H ++ [⟨1, .var [W]⟩, x1, x2, ⟨1, .dead⟩, ⟨1, .var [.ptr a 1 0]⟩, ⟨1, .var [.int .i64 p]⟩, y, ⟨1, .var (pcs (0, 1))⟩] := by unfold alH; rw [app_set]; rfl
  have hp' : PRow (H ++ [⟨1, .var [W]⟩, x1, x2, ⟨1, .dead⟩, ⟨1, .var [.ptr a 1 0]⟩, ⟨1, .var [.int .i64 p]⟩, y, ⟨1, .var (pcs (0, 1))⟩]) W q.l R := by
    rw [← hfin]
    exact hp.keep fun o ho => List.getElem?_set_ne (by have := hR o ho; omega)
  unfold alH
  simp +contextual -implicitDefEqProofs (maxSteps := 10000000) only [sxb, plainD, stays, ↓selV_wt, ↓selV_wf, ↓impB_wt, ↓impB_wf, ↓selV_nor, ↓impB_nor, ↓selV_nt, ↓selV_nf, ↓impB_nt, ↓impB_nf, ↓selV_true, ↓selV_false, ↓selV_and, ↓impB_true, ↓impB_false, ↓impB_and, ↓prim_pick, ↓selV_nn, ↓impB_nn, doOp, get, ins, del, dels, Nat.reduceLT, Nat.reduceEqDiff, ↓reduceIte, reduceCtorEq, ne_eq, implies_true, prim, YLD, mkA, V.cells, Nat.reduceAdd, Nat.reduceSub, Nat.reduceMul, Nat.reduceLeDiff, loadA, cellsAt, nAg, packA, List.drop, List.take, List.head?, binA, unA, eqCells, eqCell, negB, fillA, storeA, Ob.with, indexedI, V.oneCell, intOf?, resA, resA1, packR, sealDepth, Int.reduceLT, Int.reduceLE, Int.reduceToNat, Int.reduceNeg, Int.reduceAdd, Int.reduceSub, Int.reduceMul, cond_true, cond_false, Int.reduceBNe, Int.reduceBEq, eq_self, deads, List.replicate, argsF, app_get0, app_get, app_set0, app_set, jumpE, w1]
  exact ⟨W, R, _, rfl, rfl, hp', fun o ho => by have := hR o ho; omega⟩
end Go.Am.T


set_option linter.unusedVariables false
set_option linter.unusedSimpArgs false
set_option linter.unusedSectionVars false
set_option maxRecDepth 10000
namespace Go.Am.T
attribute [local congr] selV_congr impB_congr
theorem am27_eq {N n : Nat} {args : List V} {h h' : Heap} {v : V} (ha : args.length = 1) (H : sx ⟨pureOf am, callA am N n, N, h.length⟩ am27.body (fr am27.nt (argsF 0 args)) (h ++ deads am27.sites) (retQ am27.res fun x k => x = v ∧ k = h')) : callA am N (n + 1) 27 args h = some (v, h') :=
  call_keep_eq at27 rfl ha (by decide) (sx_wp H)
theorem am28_eq {N n : Nat} {args : List V} {h h' : Heap} {v : V} (ha : args.length = 1) (H : sx ⟨pureOf am, callA am N n, N, h.length⟩ am28.body (fr am28.nt (argsF 0 args)) (h ++ deads am28.sites) (retQ am28.res fun x k => x = v ∧ k = h')) : callA am N (n + 1) 28 args h = some (v, h') :=
  call_keep_eq at28 rfl ha (by decide) (sx_wp H)
theorem clone27 {N n : Nat} (hn : 1 ≤ n) {H : Heap} {W : V} {l : List Wr} {R : List Nat} (h : PRow H W l R) (hl : l.length ≤ 4096) :
    ∃ W' x R', callA am N n 27 [W] H = some (W', H ++ [x]) ∧ PRow (H ++ [x]) W' l R' ∧ ∀ o ∈ R', o = H.length := by
  obtain ⟨n, rfl⟩ : ∃ m, n = m + 1 := ⟨n - 1, by omega⟩
  obtain ⟨hall, ⟨rfl, rfl | rfl, rfl⟩ | ⟨o, ver, cap, rest, rfl, rfl, ho, hc⟩⟩ := h
  · refine ⟨.nils, ⟨0, .dead⟩, [], am27_eq rfl ?_, ⟨hall, .inl ⟨rfl, .inl rfl, rfl⟩⟩, by simp⟩
    simp +contextual -implicitDefEqProofs (maxSteps := 10000000) only [sxb, plainD, stays, ↓selV_wt, ↓selV_wf, ↓impB_wt, ↓impB_wf, ↓selV_nor, ↓impB_nor, ↓selV_nt, ↓selV_nf, ↓impB_nt, ↓impB_nf, ↓selV_true, ↓selV_false, ↓selV_and, ↓impB_true, ↓impB_false, ↓impB_and, ↓prim_pick, ↓selV_nn, ↓impB_nn, doOp, get, ins, del, dels, Nat.reduceLT, Nat.reduceEqDiff, ↓reduceIte, reduceCtorEq, ne_eq, implies_true, prim, YLD, mkA, V.cells, Nat.reduceAdd, Nat.reduceSub, Nat.reduceMul, Nat.reduceLeDiff, loadA, cellsAt, nAg, packA, List.drop, List.take, List.head?, binA, unA, eqCells, eqCell, negB, fillA, storeA, Ob.with, indexedI, V.oneCell, intOf?, resA, resA1, packR, sealDepth, Int.reduceLT, Int.reduceLE, Int.reduceToNat, Int.reduceNeg, Int.reduceAdd, Int.reduceSub, Int.reduceMul, cond_true, cond_false, Int.reduceBNe, Int.reduceBEq, eq_self, deads, List.replicate, argsF, am27, isNil]
  · refine ⟨.sl [] 101 (some 0), ⟨0, .dead⟩, [], am27_eq rfl ?_, ⟨hall, .inl ⟨rfl, .inr rfl, rfl⟩⟩, by simp⟩
    simp +contextual -implicitDefEqProofs (maxSteps := 10000000) only [sxb, plainD, stays, ↓selV_wt, ↓selV_wf, ↓impB_wt, ↓impB_wf, ↓selV_nor, ↓impB_nor, ↓selV_nt, ↓selV_nf, ↓impB_nt, ↓impB_nf, ↓selV_true, ↓selV_false, ↓selV_and, ↓impB_true, ↓impB_false, ↓impB_and, ↓prim_pick, ↓selV_nn, ↓impB_nn, doOp, get, ins, del, dels, Nat.reduceLT, Nat.reduceEqDiff, ↓reduceIte, reduceCtorEq, ne_eq, implies_true, prim, YLD, mkA, V.cells, Nat.reduceAdd, Nat.reduceSub, Nat.reduceMul, Nat.reduceLeDiff, loadA, cellsAt, nAg, packA, List.drop, List.take, List.head?, binA, unA, eqCells, eqCell, negB, fillA, storeA, Ob.with, indexedI, V.oneCell, intOf?, resA, resA1, packR, sealDepth, Int.reduceLT, Int.reduceLE, Int.reduceToNat, Int.reduceNeg, Int.reduceAdd, Int.reduceSub, Int.reduceMul, cond_true, cond_false, Int.reduceBNe, Int.reduceBEq, eq_self, deads, List.replicate, argsF, am27, isNil, List.range_zero, appendA, lenA, firstA, List.flatMap_nil]
  · have hlen := flatW_len hall
    have hol := lt_of_get ho
    have ho' : (H ++ [(⟨0, .dead⟩ : Ob)])[o]? = some ⟨ver, .arr (flatW l ++ rest)⟩ := by rw [List.getElem?_append_left hol]; exact ho
    have hf : firstA (fun o => (H ++ [(⟨0, .dead⟩ : Ob)])[o]?) 101 l.length (.view o ver 0 l.length 101 cap) = some (flatW l) := by
      simp only [firstA, ↓reduceIte, Nat.le_refl, loadA, cellsAt, ho', Nat.zero_add, List.length_append, hlen, List.drop_zero]
      rw [if_pos (by omega), List.take_append, ← hlen, Nat.sub_self, List.take_zero, List.append_nil, List.take_of_length_le (by omega)]
    have hone : (flatW l).all V.oneCell = true := by
      rw [List.all_eq_true]
      intro v hv
      obtain ⟨x, hx, hvx⟩ := List.mem_flatMap.1 hv
      exact List.all_eq_true.1 x.one v hvx
    by_cases h0 : l = []
    · subst h0
      have hA : appendA (fun o => (H ++ [(⟨0, .dead⟩ : Ob)])[o]?) H.length 101 136 (.sl [] 101 (some 0)) (.view o ver 0 0 101 cap) = some (.ret (.sl [] 101 (some 0))) := by
        have hf' := hf
        simp only [List.length_nil] at hf'
        unfold appendA
        simp only [lenA, hf', hone, ↓reduceIte]
      refine ⟨.sl [] 101 (some 0), ⟨0, .dead⟩, [], am27_eq rfl ?_, ⟨hall, .inl ⟨rfl, .inr rfl, rfl⟩⟩, by simp⟩
      simp +contextual -implicitDefEqProofs (maxSteps := 10000000) only [sxb, plainD, stays, ↓selV_wt, ↓selV_wf, ↓impB_wt, ↓impB_wf, ↓selV_nor, ↓impB_nor, ↓selV_nt, ↓selV_nf, ↓impB_nt, ↓impB_nf, ↓selV_true, ↓selV_false, ↓selV_and, ↓impB_true, ↓impB_false, ↓impB_and, ↓prim_pick, ↓selV_nn, ↓impB_nn, doOp, get, ins, del, dels, Nat.reduceLT, Nat.reduceEqDiff, ↓reduceIte, reduceCtorEq, ne_eq, implies_true, prim, YLD, mkA, V.cells, Nat.reduceAdd, Nat.reduceSub, Nat.reduceMul, Nat.reduceLeDiff, loadA, cellsAt, nAg, packA, List.drop, List.take, List.head?, binA, unA, eqCells, eqCell, negB, fillA, storeA, Ob.with, indexedI, V.oneCell, intOf?, resA, resA1, packR, sealDepth, Int.reduceLT, Int.reduceLE, Int.reduceToNat, Int.reduceNeg, Int.reduceAdd, Int.reduceSub, Int.reduceMul, cond_true, cond_false, Int.reduceBNe, Int.reduceBEq, eq_self, deads, List.replicate, argsF, am27, isNil, List.range_zero, hA]
    · have hl0 : l.length ≠ 0 := fun e => h0 (List.length_eq_zero_iff.1 e)
      have hA : appendA (fun o => (H ++ [(⟨0, .dead⟩ : Ob)])[o]?) H.length 101 136 (.sl [] 101 (some 0)) (.view o ver 0 l.length 101 cap) = some (.set H.length ⟨1, .arr (flatW l)⟩ (.view H.length 1 0 l.length 101 none)) := by
        unfold appendA
        simp only [lenA, hf, hone, ↓reduceIte, if_neg hl0, List.length_nil, Nat.zero_add, List.flatMap_nil, List.nil_append]
        rw [if_pos (by omega), if_pos (by unfold maxBytes; omega)]
        simp [mkA]
      refine ⟨.view H.length 1 0 l.length 101 none, ⟨1, .arr (flatW l)⟩, [H.length], am27_eq rfl ?_, ⟨hall, .inr ⟨H.length, 1, none, [], rfl, rfl, by rw [List.append_nil, app_get0]; rfl, .inl ⟨rfl, rfl⟩⟩⟩, by simp⟩
      simp +contextual -implicitDefEqProofs (maxSteps := 10000000) only [sxb, plainD, stays, ↓selV_wt, ↓selV_wf, ↓impB_wt, ↓impB_wf, ↓selV_nor, ↓impB_nor, ↓selV_nt, ↓selV_nf, ↓impB_nt, ↓impB_nf, ↓selV_true, ↓selV_false, ↓selV_and, ↓impB_true, ↓impB_false, ↓impB_and, ↓prim_pick, ↓selV_nn, ↓impB_nn, doOp, get, ins, del, dels, Nat.reduceLT, Nat.reduceEqDiff, ↓reduceIte, reduceCtorEq, ne_eq, implies_true, prim, YLD, mkA, V.cells, Nat.reduceAdd, Nat.reduceSub, Nat.reduceMul, Nat.reduceLeDiff, loadA, cellsAt, nAg, packA, List.drop, List.take, List.head?, binA, unA, eqCells, eqCell, negB, fillA, storeA, Ob.with, indexedI, V.oneCell, intOf?, resA, resA1, packR, sealDepth, Int.reduceLT, Int.reduceLE, Int.reduceToNat, Int.reduceNeg, Int.reduceAdd, Int.reduceSub, Int.reduceMul, cond_true, cond_false, Int.reduceBNe, Int.reduceBEq, eq_self, deads, List.replicate, argsF, am27, isNil, List.range_zero, hA, app_set0]
theorem clone28 {N n : Nat} (hn : 1 ≤ n) {H : Heap} {W : V} {l : List (Int × Int)} {R : List Nat} (h : ORow H W l R) (hne : l ≠ []) (hl : l.length ≤ 4900) :
    callA am N n 28 [W] H = some (.view H.length 1 0 l.length 2 none, H ++ [⟨1, .arr (flatP l)⟩]) := by
  obtain ⟨n, rfl⟩ : ∃ m, n = m + 1 := ⟨n - 1, by omega⟩
  rcases h with ⟨rfl, -, -⟩ | ⟨o, ver, pre, hpre, rfl, rfl, ho⟩
  · exact absurd rfl hne
  · have hlen := flatP_len l
    have hol := lt_of_get ho
    have ho' : (H ++ [(⟨0, .dead⟩ : Ob)])[o]? = some ⟨ver, .arr (pre ++ flatP l)⟩ := by rw [List.getElem?_append_left hol]; exact ho
    have hf : firstA (fun o => (H ++ [(⟨0, .dead⟩ : Ob)])[o]?) 2 l.length (.view o ver pre.length l.length 2 none) = some (flatP l) := by
      simp only [firstA, ↓reduceIte, Nat.le_refl, loadA, cellsAt, ho', List.length_append, hlen, List.drop_left]
      rw [List.take_of_length_le (by omega)]
    have hone : (flatP l).all V.oneCell = true := by
      rw [List.all_eq_true]
      intro v hv
      obtain ⟨x, hx, hvx⟩ := List.mem_flatMap.1 hv
      simp only [pcs, List.mem_cons, List.not_mem_nil, or_false] at hvx
      rcases hvx with rfl | rfl <;> rfl
    have hl0 : l.length ≠ 0 := fun e => hne (List.length_eq_zero_iff.1 e)
    have hA : appendA (fun o => (H ++ [(⟨0, .dead⟩ : Ob)])[o]?) H.length 2 16 (.sl [] 2 (some 0)) (.view o ver pre.length l.length 2 none) = some (.set H.length ⟨1, .arr (flatP l)⟩ (.view H.length 1 0 l.length 2 none)) := by
      unfold appendA
      simp only [lenA, hf, hone, ↓reduceIte, if_neg hl0, List.length_nil, Nat.zero_add, List.flatMap_nil, List.nil_append]
      rw [if_pos (by omega), if_pos (by unfold maxBytes; omega)]
      simp [mkA]
    refine am28_eq rfl ?_
    simp +contextual -implicitDefEqProofs (maxSteps := 10000000) only [sxb, plainD, stays, ↓selV_wt, ↓selV_wf, ↓impB_wt, ↓impB_wf, ↓selV_nor, ↓impB_nor, ↓selV_nt, ↓selV_nf, ↓impB_nt, ↓impB_nf, ↓selV_true, ↓selV_false, ↓selV_and, ↓impB_true, ↓impB_false, ↓impB_and, ↓prim_pick, ↓selV_nn, ↓impB_nn, doOp, get, ins, del, dels, Nat.reduceLT, Nat.reduceEqDiff, ↓reduceIte, reduceCtorEq, ne_eq, implies_true, prim, YLD, mkA, V.cells, Nat.reduceAdd, Nat.reduceSub, Nat.reduceMul, Nat.reduceLeDiff, loadA, cellsAt, nAg, packA, List.drop, List.take, List.head?, binA, unA, eqCells, eqCell, negB, fillA, storeA, Ob.with, indexedI, V.oneCell, intOf?, resA, resA1, packR, sealDepth, Int.reduceLT, Int.reduceLE, Int.reduceToNat, Int.reduceNeg, Int.reduceAdd, Int.reduceSub, Int.reduceMul, cond_true, cond_false, Int.reduceBNe, Int.reduceBEq, eq_self, deads, List.replicate, argsF, am28, isNil, List.range_zero, hA, app_set0]
end Go.Am.T


set_option linter.unusedVariables false
set_option linter.unusedSimpArgs false
set_option linter.unusedSectionVars false
set_option maxRecDepth 10000
namespace Go.Am.T
attribute [local congr] selV_congr impB_congr
theorem sx_rangeM {E : Env} {m : Opd} {it nx ok en site : Nat} {clr kill : List Nat} {b : ACode} {t : List V} {h : Heap} {Q : Post} {x : Ob} {om : Option (Nat × Nat)} {es : List (V × V)} {r : Ex × List V × Heap} {e : Ex} {t' : List V} {h' : Heap}
    (hx : h[E.fb + site]? = some x) (hm : mapOf h (ev t m) = some (om, es))
    (hr : roundsM (exec E.pureF E.call E.N E.fb b) it nx ok en (.ptr (E.fb + site) (x.ver + 1) 0) es (t.set it (.ptr (E.fb + site) (x.ver + 1) 0)) ((hideM om h).set (E.fb + site) ⟨x.ver + 1, .dead⟩) = some r)
    (ha : Clo h t → AnyOrder (exec E.pureF E.call E.N E.fb b) it nx ok en (.ptr (E.fb + site) (x.ver + 1) 0) clr kill E.fb es (t.set it (.ptr (E.fb + site) (x.ver + 1) 0)) ((hideM om h).set (E.fb + site) ⟨x.ver + 1, .dead⟩) r)
    (hs : showM om es (leaveM clr kill E.fb r) = some (e, t', h')) (HQ : Q e t' h') : sx E (.rangeM m it nx ok en site clr kill b) t h Q := by
  show wp E (.rangeM m it nx ok en site clr kill b) t h Q
  unfold wp
  simp only [exec, hx, hm, rangeC, hr, if_pos ha, hs]
  exact HQ
end Go.Am.T


set_option linter.unusedVariables false
set_option linter.unusedSimpArgs false
set_option linter.unusedSectionVars false
set_option maxRecDepth 10000
namespace Go.Am.T
attribute [local congr] selV_congr impB_congr
theorem known_spec {N n : Nat} (hN : 5000 ≤ N) (hn : 20 ≤ n) (h : Heap) : callA am N n 7 [] h = some (.bool true, h) :=
  closed_quick pm7 (show callB am 5000 20 7 [] [] = some (.bool true, []) by kernel_rfl) hN hn h
theorem num_spec {N n : Nat} (hn : 1 ≤ n) (e : Int) (h : Heap) : callA am N n 9 [.int .i64 e] h = some (.int .i64 e, h) := by
  obtain ⟨n, rfl⟩ : ∃ m, n = m + 1 := ⟨n - 1, by omega⟩
  refine call_pure at9 rfl rfl (by decide) rfl (sx_wp ?_)
  simp +contextual -implicitDefEqProofs (maxSteps := 10000000) only [sxb, plainD, stays, ↓selV_wt, ↓selV_wf, ↓impB_wt, ↓impB_wf, ↓selV_nor, ↓impB_nor, ↓selV_nt, ↓selV_nf, ↓impB_nt, ↓impB_nf, ↓selV_true, ↓selV_false, ↓selV_and, ↓impB_true, ↓impB_false, ↓impB_and, ↓prim_pick, ↓selV_nn, ↓impB_nn, doOp, get, ins, del, dels, Nat.reduceLT, Nat.reduceEqDiff, ↓reduceIte, reduceCtorEq, ne_eq, implies_true, prim, YLD, mkA, V.cells, Nat.reduceAdd, Nat.reduceSub, Nat.reduceMul, Nat.reduceLeDiff, loadA, cellsAt, nAg, packA, List.drop, List.take, List.head?, binA, unA, eqCells, eqCell, negB, fillA, storeA, Ob.with, indexedI, V.oneCell, intOf?, resA, resA1, packR, sealDepth, Int.reduceLT, Int.reduceLE, Int.reduceToNat, Int.reduceNeg, Int.reduceAdd, Int.reduceSub, Int.reduceMul, cond_true, cond_false, Int.reduceBNe, Int.reduceBEq, eq_self, deads, List.replicate, argsF, am9]
end Go.Am.T


set_option linter.unusedVariables false
set_option linter.unusedSimpArgs false
set_option linter.unusedSectionVars false
set_option maxRecDepth 10000
namespace Go.Am.T
attribute [local congr] selV_congr impB_congr
def sg (L0 : Nat) (a b : List (Int × Int)) (o : Nat) : Nat := if L0 ≤ o then (match a[o - L0]? with | some w => L0 + b.idxOf w | none => o) else o
theorem sg_low {L0 : Nat} {a b : List (Int × Int)} {o : Nat} (h : o < L0) : sg L0 a b o = o := by
  unfold sg
  rw [if_neg (by omega)]
theorem sg_at {L0 : Nat} {a b : List (Int × Int)} {i : Nat} {w : Int × Int} (h : a[i]? = some w) : sg L0 a b (L0 + i) = L0 + b.idxOf w := by
  unfold sg
  rw [if_pos (by omega), Nat.add_sub_cancel_left, h]
theorem idx_get {b : List (Int × Int)} {w : Int × Int} (h : w ∈ b) : b[b.idxOf w]? = some w := by
  have hl := List.idxOf_lt_length_of_mem h
  rw [List.getElem?_eq_getElem hl, List.getElem_idxOf hl]
theorem idx_nodup {a : List (Int × Int)} (hn : a.Nodup) {i : Nat} {w : Int × Int} (h : a[i]? = some w) : a.idxOf w = i := by
  have hm := List.mem_of_getElem? h
  have h1 := idx_get hm
  exact (List.getElem?_inj (List.getElem?_eq_some_iff.1 h1).1 hn).1 (h1.trans h.symm)
theorem sg_inv {L0 : Nat} {a b : List (Int × Int)} (ha : a.Nodup) (hp : a.Perm b) (o : Nat) : sg L0 b a (sg L0 a b o) = o := by
  by_cases h : L0 ≤ o
  · obtain ⟨i, rfl⟩ : ∃ i, o = L0 + i := ⟨o - L0, by omega⟩
    cases hi : a[i]? with
    | some w =>
      rw [sg_at hi, sg_at (idx_get (hp.mem_iff.1 (List.mem_of_getElem? hi))), idx_nodup ha hi]
    | none =>
      have hb : b[i]? = none := by
        rw [List.getElem?_eq_none_iff] at hi ⊢
        rw [← hp.length_eq]
        exact hi
      have e : ∀ c d : List (Int × Int), c[i]? = none → sg L0 c d (L0 + i) = L0 + i := fun c d hc => by
        unfold sg
        rw [if_pos (by omega), Nat.add_sub_cancel_left, hc]
      rw [e a b hi, e b a hb]
  · have h' : o < L0 := by omega
    rw [sg_low (a := a) h', sg_low h']
theorem sg_lt {L0 n : Nat} {a b : List (Int × Int)} (hp : a.Perm b) (hn : L0 + a.length ≤ n) {o : Nat} (ho : o < n) : sg L0 a b o < n := by
  by_cases h : L0 ≤ o
  · obtain ⟨i, rfl⟩ : ∃ i, o = L0 + i := ⟨o - L0, by omega⟩
    cases hi : a[i]? with
    | some w =>
      rw [sg_at hi]
      have := List.idxOf_lt_length_of_mem (hp.mem_iff.1 (List.mem_of_getElem? hi))
      have := hp.length_eq
      omega
    | none =>
      unfold sg
      rw [if_pos (by omega), Nat.add_sub_cancel_left, hi]
      exact ho
  · rw [sg_low (by omega)]
    exact ho
theorem sg_ren {L0 lo n : Nat} {a b : List (Int × Int)} (ha : a.Nodup) (hp : a.Perm b) (hlo : lo ≤ L0) (hn : L0 + a.length ≤ n) : Ren (sg L0 a b) (sg L0 b a) lo n where
  st o _ := sg_inv ha hp o
  ts o _ := sg_inv (hp.nodup_iff.1 ha) hp.symm o
  sn o ho := sg_lt hp hn ho
  tn o ho := sg_lt hp.symm (by rw [← hp.length_eq]; exact hn) ho
  low o ho := sg_low (by omega)
  le := by omega
end Go.Am.T


set_option linter.unusedVariables false
set_option linter.unusedSimpArgs false
set_option linter.unusedSectionVars false
set_option maxRecDepth 10000
namespace Go.Am.T
attribute [local congr] selV_congr impB_congr
theorem rounds_inv {f : List V → Heap → Option (Ex × List V × Heap)} {it nx ok en : Nat} {itv : V} (Inv : Nat → List V → Heap → Prop) : ∀ (es : List (V × V)) (k : Nat) (t : List V) (h : Heap), Inv k t h →
    (∀ i e t h, es[i]? = some e → Inv (k + i) t h → rdyM it nx ok itv t = true ∧ ∃ t' h', f (roundM nx ok en e t) h = some (.norm, t', h') ∧ Inv (k + i + 1) t' h') → (∀ t h, Inv (k + es.length) t h → rdyM it nx ok itv t = true) →
    ∃ t' h', Inv (k + es.length) t' h' ∧ roundsM f it nx ok en itv es t h = some (.norm, overM nx ok t', h')
  | [], k, t, h, h0, _, hr => ⟨t, h, h0, by simp only [roundsM, hr t h h0]⟩
  | e :: es, k, t, h, h0, hs, hr => by
    obtain ⟨h1, t1, k1, h2, h3⟩ := hs 0 e t h rfl h0
    obtain ⟨t', h', i1, i2⟩ := rounds_inv Inv es (k + 1) t1 k1 h3 (fun i e' t h hi hI => by
      have := hs (i + 1) e' t h (by simpa using hi) (by rw [show k + (i + 1) = k + 1 + i by omega]; exact hI)
      rwa [show k + (i + 1) + 1 = k + 1 + i + 1 by omega] at this) (fun t h hI => hr t h (by rw [List.length_cons, show k + (es.length + 1) = k + 1 + es.length by omega]; exact hI))
    refine ⟨t', h', by rw [List.length_cons, show k + (es.length + 1) = k + 1 + es.length by omega]; exact i1, ?_⟩
    simp only [roundsM, h1, h2]
    exact i2
theorem sx_exec {E : Env} {b : ACode} {t : List V} {h : Heap} {P : List V → Heap → Prop} (H : sx E b t h fun e t' h' => e = .norm ∧ P t' h') : ∃ t' h', exec E.pureF E.call E.N E.fb b t h = some (.norm, t', h') ∧ P t' h' := by
  have H1 := sx_wp H
  unfold wp at H1
  split at H1
  case h_2 => exact H1.elim
  rename_i e t1 h1 he
  obtain ⟨rfl, hp⟩ := H1
  exact ⟨t1, h1, he, hp⟩
theorem rdy_fr {it nx ok n : Nat} {l : List (Nat × V)} {v : V} (hi : it < n) (hg : V.same (get l it) v = true) (h1 : nx < n) (h2 : ok < n) : rdyM it nx ok v (fr n l) = true := by
  unfold rdyM
  rw [fr_getD hi, hg, fr_length]
  simp [h1, h2]
theorem round_fr {nx ok en n : Nat} {l : List (Nat × V)} {e : V × V} : roundM nx ok en e (fr n l) = fr n (ins en (.tup [e.1, e.2]) (ins ok (.bool true) (ins nx (.tup [.bool true, e.1, e.2]) l))) := by
  unfold roundM
  rw [fr_set, fr_set, fr_set]
theorem over_fr {nx ok n : Nat} {l : List (Nat × V)} : overM nx ok (fr n l) = fr n (ins ok (.bool false) (ins nx (.tup [.bool false]) l)) := by
  unfold overM
  rw [fr_set, fr_set]
theorem clean_am : cleanP am = true := by kernel_rfl
theorem frame_app {N n : Nat} {f : FuncId} {args : List V} {v : V} {K T : Heap} {R : List Nat} (hm : pureOf am f = .keep) (hR : reachC K (V.objsL args) = R) (hcl : ∀ o ∈ R, ∀ y, K[o]? = some y → (∀ i ∈ y.bd.objs, i ∈ R) ∧ y.bd.plainBd = true)
    (hc : callA am N n f args (keepOnly R K) = some (v, keepOnly R K ++ T)) (hy : f ≠ YLD := by decide) : frameC (pureOf am) (callA am N n) f args K = some (v, K ++ T) := by
  obtain ⟨e1, e2⟩ := frame_all clean_am (m := .keep) hm (.inl rfl) hR hcl hc hy
  suffices key : mergeH R K (keepOnly R K ++ T) = K ++ T by rw [e1, key]
  apply List.ext_getElem?
  intro p
  rw [mergeH_get]
  rcases Nat.lt_or_ge p K.length with hp | hp
  · rw [List.getElem?_append_left (by rw [keepOnly_length]; exact hp), List.getElem?_append_left hp, keepOnly_get, List.getElem?_eq_getElem hp]
    simp only [Option.map_some, inside]
    by_cases hpo : p ∈ R
    · simp [hpo]
    · simp [hpo, Nat.not_le.2 hp, List.getD_eq_getElem?_getD, hp]
  · rw [List.getElem?_append_right (by rw [keepOnly_length]; exact hp), List.getElem?_append_right hp, keepOnly_length]
    cases hq : T[p - K.length]? with
    | none => rfl
    | some x => simp [inside, hp]
theorem objsL_flat {l : List V} (h : ∀ v ∈ l, v.objs = []) : V.objsL l = [] := by
  induction l with
  | nil => rfl
  | cons v l ih =>
    simp only [V.objsL, h v (by simp), ih fun u hu => h u (by simp [hu]), List.append_nil]
theorem clone28_framed {N n : Nat} (hn : 1 ≤ n) {K : Heap} {o ver : Nat} {pre : List V} {l : List (Int × Int)} (hpre : ∀ v ∈ pre, V.objs v = []) (ho : K[o]? = some ⟨ver, .arr (pre ++ flatP l)⟩) (hne : l ≠ []) (hl : l.length ≤ 4900) :
    frameC (pureOf am) (callA am N n) 28 [.view o ver pre.length l.length 2 none] K = some (.view K.length 1 0 l.length 2 none, K ++ [⟨1, .arr (flatP l)⟩]) ∧ reachC K [o] = [o] := by
  have hno : (Bd.arr (pre ++ flatP l)).objs = [] := objsL_flat fun v hv => by
    rcases List.mem_append.1 hv with h | h
    · exact hpre v h
    · exact flatP_obj _ v h
  have hR : reachC K [o] = [o] := by
    refine reachC_own (l := [o]) fun p hp y hy i hi => ?_
    obtain rfl : p = o := by simpa using hp
    rw [ho] at hy
    cases hy
    rw [hno] at hi
    cases hi
  refine ⟨?_, hR⟩
  have hk : (keepOnly [o] K)[o]? = some ⟨ver, .arr (pre ++ flatP l)⟩ := by rw [keepOnly_get, ho]; simp
  have hc := @clone28 N n hn (keepOnly [o] K) (.view o ver pre.length l.length 2 none) l [o] (.inr ⟨o, ver, pre, hpre, rfl, rfl, hk⟩) hne hl
  rw [keepOnly_length] at hc
  refine frame_app pm28 (R := [o]) hR (fun p hp y hy => ?_) hc
  obtain rfl : p = o := by simpa using hp
  rw [ho] at hy
  cases hy
  exact ⟨fun i hi => (by rw [hno] at hi; cases hi), rfl⟩
def news (P : List Od) : Heap := P.map fun o => ⟨1, .arr (flatP o.l)⟩
def cpO (L0 : Nat) : List Od → List Od
  | [] => []
  | o :: l => ⟨o.w, o.l, .view L0 1 0 o.l.length 2 none, [L0]⟩ :: cpO (L0 + 1) l
def cpK (Hh : Heap) (P : List Od) (cs : List V) (q3 : Ob) (xs : Heap) : Heap := Hh ++ (⟨1, .map ((cpO (Hh.length + 20) P).map Od.e)⟩ :: ⟨1, .var cs⟩ :: ⟨1, .dead⟩ :: q3 :: (xs ++ news P))
theorem cpO_snoc (o : Od) : ∀ (P : List Od) (L0 : Nat), cpO L0 (P ++ [o]) = cpO L0 P ++ [⟨o.w, o.l, .view (L0 + P.length) 1 0 o.l.length 2 none, [L0 + P.length]⟩]
  | [], L0 => rfl
  | p :: P, L0 => by
    have := cpO_snoc o P (L0 + 1)
    simp only [cpO, List.cons_append, this, List.length_cons]
    rw [show L0 + 1 + P.length = L0 + (P.length + 1) by omega]
theorem cpO_w : ∀ (P : List Od) (L0 : Nat), (cpO L0 P).map Od.w = P.map Od.w
  | [], _ => rfl
  | p :: P, L0 => by simp only [cpO, List.map_cons, cpO_w P]
theorem cpO_len : ∀ (P : List Od) (L0 : Nat), (cpO L0 P).length = P.length
  | [], _ => rfl
  | p :: P, L0 => by simp only [cpO, List.length_cons, cpO_len P]
theorem cpO_get : ∀ {P : List Od} {L0 i : Nat} {o : Od}, P[i]? = some o → (cpO L0 P)[i]? = some ⟨o.w, o.l, .view (L0 + i) 1 0 o.l.length 2 none, [L0 + i]⟩
  | p :: P, L0, 0, o, h => by
    simp only [List.getElem?_cons_zero, Option.some.injEq] at h
    subst h
    rfl
  | p :: P, L0, i + 1, o, h => by
    have := cpO_get (P := P) (L0 := L0 + 1) (i := i) (o := o) (by simpa using h)
    simp only [cpO, List.getElem?_cons_succ, this]
    rw [show L0 + 1 + i = L0 + (i + 1) by omega]
theorem putO_new {o : Od} {P : List Od} (h : ∀ x ∈ P, x.w ≠ o.w) : putO o P = P ++ [o] := by
  unfold putO
  have : P.any (fun x => o.w == x.w) = false := by
    rw [List.any_eq_false]
    intro x hx
    simpa using Ne.symm (h x hx)
  rw [this]
def cpB : ACode := (ACode.block 3 (ACode.seq (ACode.region [{ dst := (some 42), op := (AOp.extract (Opd.tmp 41) 0), guard := none }, { dst := (some 43), op := (AOp.extract (Opd.tmp 41) 1), guard := none }, { dst := (some 6), op := (AOp.allocz 3 [(V.int IntKind.i64 0), (V.int IntKind.i64 0)]), guard := none }, { dst := none, op := (AOp.store 2 (Opd.tmp 6) (Opd.tmp 42)), guard := none }, { dst := (some 7), op := (AOp.move (Opd.tmp 43)), guard := none }]) (ACode.seq (ACode.draw [({ dst := (some 44), op := (AOp.move (Opd.tmp 3)), guard := none }, []), ({ dst := (some 45), op := (AOp.nilck (Opd.tmp 44)), guard := none }, []), ({ dst := (some 46), op := (AOp.faddr 17 (Opd.tmp 45)), guard := none }, []), ({ dst := (some 47), op := (AOp.load none (Opd.tmp 46)), guard := none }, []), ({ dst := (some 48), op := (AOp.load (some 2) (Opd.tmp 6)), guard := none }, []), ({ dst := (some 49), op := (AOp.move (Opd.tmp 7)), guard := none }, []), ({ dst := (some 50), op := (AOp.call 28 [(Opd.tmp 49)]), guard := none }, [3, 4]), ({ dst := none, op := (AOp.mput true [(CK.i IntKind.i64), (CK.i IntKind.i64)] (Opd.tmp 47) (Opd.tmp 48) (Opd.tmp 50)), guard := none }, [])]) (ACode.clr [50, 49, 48, 47, 46, 45, 44, 7, 6]))))
def cpT (L a m : Nat) : List (Nat × V) := [(0, .ptr a 1 0), (3, .ptr (L + 1) 1 0), (34, .ptr a 1 0), (35, .ptr a 1 0), (36, .ptr a 1 17), (37, .map m 1), (38, .ptr (L + 2) 1 0)]
theorem cp_round {N n : Nat} (hn : 1 ≤ n) {Hh : Heap} {a m : Nat} {P : List Od} {o : Od} {cs : List V} {b : Bd} {xs : Heap} {J : List (Nat × V)} (hJ : J = [] ∨ ∃ v1 v2 v3 v4 v5, J = [(39, v1), (40, v2), (41, v3), (42, v4), (43, v5)])
    (hcl : cs.length = 18) (hcm : (cs.drop 17).take 1 = [.map Hh.length 1]) (hx : xs.length = 16) (hk : ∀ x ∈ P, x.w ≠ o.w) (hr : ORow Hh o.W o.l o.R) (hne : o.l ≠ []) (hl : o.l.length ≤ 4900) :
    ∃ t' h', exec (pureOf am) (callA am N n) N Hh.length cpB (roundM 39 40 41 o.e (fr 52 (cpT Hh.length a m ++ J))) (cpK Hh P cs ⟨P.length, b⟩ xs) = some (.norm, t', h') ∧
      ∃ J' b', t' = fr 52 (cpT Hh.length a m ++ J') ∧ (J' = [] ∨ ∃ v1 v2 v3 v4 v5, J' = [(39, v1), (40, v2), (41, v3), (42, v4), (43, v5)]) ∧ h' = cpK Hh (P ++ [o]) cs ⟨P.length + 1, b'⟩ xs := by
  refine @sx_exec ⟨pureOf am, callA am N n, N, Hh.length⟩ _ _ _ _ ?_
  obtain ⟨w1, w2, w3, w4, w5, w6⟩ := hr.shape
  rcases hr with ⟨h0, -, -⟩ | ⟨oo, ver, pre, hpre, hR, hW, ho⟩
  · exact absurd h0 hne
  have hobb : o.W.objs = [oo] := by rw [hW]; rfl
  have hol := lt_of_get ho
  have kk : ∀ l : Heap, (Hh ++ l)[oo]? = some ⟨ver, .arr (pre ++ flatP o.l)⟩ := fun l => by rw [List.getElem?_append_left hol]; exact ho
  have c28 : ∀ l : Heap, frameC (pureOf am) (callA am N n) 28 [o.W] (Hh ++ l) = some (.view (Hh ++ l).length 1 0 o.l.length 2 none, (Hh ++ l) ++ [⟨1, .arr (flatP o.l)⟩]) ∧ reachC (Hh ++ l) [oo] = [oo] := fun l => by
    rw [hW]; exact clone28_framed hn hpre (kk l) hne hl
  have f28 : ∀ l : Heap, ({ pureF := pureOf am, call := callA am N n, N := N, fb := Hh.length } : Env).framed.call 28 [o.W] (Hh ++ l) = some (.view (Hh.length + l.length) 1 0 o.l.length 2 none, Hh ++ (l ++ [⟨1, .arr (flatP o.l)⟩])) := fun l => by
    have := (c28 l).1
    rw [List.append_assoc, List.length_append] at this
    exact this
  have hR28 := fun l => (c28 l).2
  rw [round_fr]
  unfold cpK cpB
  have mp := mput_w (get := fun x => (Hh ++ (⟨1, .map ((cpO (Hh.length + 20) P).map Od.e)⟩ :: ⟨1, .var cs⟩ :: ⟨1, .dead⟩ :: ⟨P.length + 1, .var (pcs o.w)⟩ :: (xs ++ (news P ++ [⟨1, .arr (flatP o.l)⟩]))))[x]?) (m := Hh.length) (by rw [app_get0]; rfl) ⟨o.w, o.l, .view (Hh.length + 20 + P.length) 1 0 o.l.length 2 none, [Hh.length + 20 + P.length]⟩
  have hnew : ∀ x ∈ cpO (Hh.length + 20) P, x.w ≠ o.w := fun x hx => by
    have : x.w ∈ P.map Od.w := by rw [← cpO_w P (Hh.length + 20)]; exact List.mem_map_of_mem hx
    obtain ⟨y, hy, e⟩ := List.mem_map.1 this
    rw [← e]; exact hk y hy
  rw [putO_new (o := ⟨o.w, o.l, .view (Hh.length + 20 + P.length) 1 0 o.l.length 2 none, [Hh.length + 20 + P.length]⟩) hnew, ← cpO_snoc o P (Hh.length + 20)] at mp
  have hnw : news (P ++ [o]) = news P ++ [⟨1, .arr (flatP o.l)⟩] := by simp [news]
  have hnl : (news P).length = P.length := by simp [news]
  have hcm' : List.take 1 (List.drop 17 cs) = [.map Hh.length 1] := hcm
  rw [hnw]
  obtain ⟨⟨nd, ep⟩, ol, oW, oR⟩ := o
  unfold Od.e kw pcs at *
  simp only at *
  generalize hES : List.map (fun o => (V.agg [V.int IntKind.i64 o.w.fst, V.int IntKind.i64 o.w.snd], o.W)) (cpO (Hh.length + 20) P) = ES at *
  generalize hES' : List.map (fun o => (V.agg [V.int IntKind.i64 o.w.fst, V.int IntKind.i64 o.w.snd], o.W)) (cpO (Hh.length + 20) (P ++ [⟨(nd, ep), ol, oW, oR⟩])) = ES' at *
  have hvl : Hh.length + (16 + P.length + 1 + 1 + 1 + 1) = Hh.length + 20 + P.length := by omega
  have n1 : (oo == Hh.length + 1) = false := beq_eq_false_iff_ne.2 (by omega)
  have n3 : (oo == Hh.length + 3) = false := beq_eq_false_iff_ne.2 (by omega)
  have n0 : (oo == Hh.length) = false := beq_eq_false_iff_ne.2 (by omega)
  rcases hJ with rfl | ⟨v1, v2, v3, v4, v5, rfl⟩ <;>
  · unfold cpT
    simp +contextual -implicitDefEqProofs (maxSteps := 10000000) only [sxb, plainD, stays, ↓selV_wt, ↓selV_wf, ↓impB_wt, ↓impB_wf, ↓selV_nor, ↓impB_nor, ↓selV_nt, ↓selV_nf, ↓impB_nt, ↓impB_nf, ↓selV_true, ↓selV_false, ↓selV_and, ↓impB_true, ↓impB_false, ↓impB_and, ↓prim_pick, ↓selV_nn, ↓impB_nn, doOp, get, ins, del, dels, Nat.reduceLT, Nat.reduceEqDiff, ↓reduceIte, reduceCtorEq, ne_eq, implies_true, prim, YLD, mkA, V.cells, Nat.reduceAdd, Nat.reduceSub, Nat.reduceMul, Nat.reduceLeDiff, loadA, cellsAt, nAg, packA, List.drop, List.take, List.head?, binA, unA, eqCells, eqCell, negB, fillA, storeA, Ob.with, indexedI, V.oneCell, intOf?, resA, resA1, packR, sealDepth, Int.reduceLT, Int.reduceLE, Int.reduceToNat, Int.reduceNeg, Int.reduceAdd, Int.reduceSub, Int.reduceMul, cond_true, cond_false, Int.reduceBNe, Int.reduceBEq, eq_self, deads, List.replicate, argsF, sx_drawd, reachC_nil, wpd_nil, wpd_cons, wpd_gt, wpd_gf, wpd_gu, wdK_def, fpOf, fpV, fpCall, Fp.ok, okT_of, okT_rd_io, okT_rd_call, okT_rd_bar, tagP_io, tagP_bar, tagP_call, tagF, AOp.rds, disj, List.contains_cons, List.contains_nil, Nat.reduceBEq, List.all_append, V.objsL, V.objs,  List.getD_cons_zero, List.getD_cons_succ, List.append_nil, app_get0, app_get, app_set0, app_set, f28, hR28, hobb, pm28, hcl, hcm', w1, List.append_assoc, hx, hnl, List.length_append, hvl, mp, n0, n1, n3]
    exact ⟨_, _, rfl, .inr ⟨_, _, _, _, _, rfl⟩, rfl⟩
def cpClr : List Nat := [50, 49, 48, 47, 46, 45, 44, 43, 42, 41, 40, 39, 7, 6]
theorem cp_rounds {N n : Nat} (hn : 1 ≤ n) {Hh : Heap} {a m : Nat} {P : List Od} {cs : List V} {xs : Heap} (hcl : cs.length = 18) (hcm : (cs.drop 17).take 1 = [.map Hh.length 1]) (hx : xs.length = 16) (hk : (P.map Od.w).Nodup) (hr : ∀ o ∈ P, ORow Hh o.W o.l o.R ∧ o.l ≠ [] ∧ o.l.length ≤ 4900) :
    ∃ r, roundsM (exec (pureOf am) (callA am N n) N Hh.length cpB) 38 39 40 41 (.ptr (Hh.length + 2) 1 0) (P.map Od.e) (fr 52 (cpT Hh.length a m)) (cpK Hh [] cs ⟨0, .dead⟩ xs) = some r ∧
      leaveM cpClr [3] Hh.length r = (.norm, fr 52 (cpT Hh.length a m), cpK Hh P cs ⟨P.length, .dead⟩ xs) := by
  have rdy : ∀ J : List (Nat × V), (J = [] ∨ ∃ v1 v2 v3 v4 v5, J = [(39, v1), (40, v2), (41, v3), (42, v4), (43, v5)]) → rdyM 38 39 40 (.ptr (Hh.length + 2) 1 0) (fr 52 (cpT Hh.length a m ++ J)) = true := fun J hJ =>
    rdy_fr (by decide) (by rcases hJ with rfl | ⟨v1, v2, v3, v4, v5, rfl⟩ <;> simp [cpT, get, V.same]) (by decide) (by decide)
  obtain ⟨t', h', ⟨J, b, rfl, hJ, rfl⟩, hrs⟩ := rounds_inv (f := exec (pureOf am) (callA am N n) N Hh.length cpB) (it := 38) (nx := 39) (ok := 40) (en := 41) (itv := .ptr (Hh.length + 2) 1 0)
    (fun i t h => ∃ J b, t = fr 52 (cpT Hh.length a m ++ J) ∧ (J = [] ∨ ∃ v1 v2 v3 v4 v5, J = [(39, v1), (40, v2), (41, v3), (42, v4), (43, v5)]) ∧ h = cpK Hh (P.take i) cs ⟨i, b⟩ xs) (P.map Od.e) 0 (fr 52 (cpT Hh.length a m)) (cpK Hh [] cs ⟨0, .dead⟩ xs)
    ⟨[], .dead, by rw [List.append_nil], .inl rfl, by rw [List.take_zero]⟩ (fun i e t h hi hI => by
      obtain ⟨J, b, rfl, hJ, rfl⟩ := hI
      rw [Nat.zero_add]
      refine ⟨rdy J hJ, ?_⟩
      rw [List.getElem?_map, Option.map_eq_some_iff] at hi
      obtain ⟨o, ho, rfl⟩ := hi
      have hil := (List.getElem?_eq_some_iff.1 ho).1
      obtain ⟨r1, r2, r3⟩ := hr o (List.mem_of_getElem? ho)
      have htl : (P.take i).length = i := by rw [List.length_take]; omega
      have hts : P.take (i + 1) = P.take i ++ [o] := by rw [List.take_add_one, ho]; rfl
      have := @cp_round N n hn Hh a m (P.take i) o cs b xs J hJ hcl hcm hx (fun x hx e => by
        obtain ⟨j, hj⟩ := List.getElem?_of_mem hx
        have hji : j < i := by have := (List.getElem?_eq_some_iff.1 hj).1; omega
        rw [List.getElem?_take_of_lt hji] at hj
        have := same_od hk hj ho e
        omega) r1 r2 r3
      rw [htl, ← hts] at this
      obtain ⟨t', h', c1, J', b', e1, e2, e3⟩ := this
      exact ⟨t', h', c1, J', b', e1, e2, e3⟩) (fun t h hI => by
      obtain ⟨J, b, rfl, hJ, rfl⟩ := hI
      exact rdy J hJ)
  refine ⟨_, hrs, ?_⟩
  rw [Nat.zero_add, List.length_map, List.take_length]
  unfold leaveM
  simp only [over_fr, cpClr, fr_clear]
  have hk3 : ∀ v b, killA Hh.length [3] (cpK Hh P cs ⟨v, b⟩ xs) = cpK Hh P cs ⟨v, .dead⟩ xs := fun v b => by
    unfold killA cpK
    simp only [List.foldl_cons, List.foldl_nil, app_get, List.getElem?_cons_succ, List.getElem?_cons_zero, app_set, List.set_cons_succ, List.set_cons_zero]
  rw [hk3]
  rcases hJ with rfl | ⟨v1, v2, v3, v4, v5, rfl⟩ <;> simp [cpT, ins, dels, del]
end Go.Am.T


set_option linter.unusedVariables false
set_option linter.unusedSimpArgs false
set_option linter.unusedSectionVars false
set_option maxRecDepth 10000
namespace Go.Am.T
attribute [local congr] selV_congr impB_congr
mutual
theorem V.ren_same {σ : Nat → Nat} : ∀ (v : V), (∀ o ∈ v.objs, σ o = o) → v.ren σ = v
  | .junk, _ => rfl
  | .bool _, _ => rfl
  | .int _ _, _ => rfl
  | .str _, _ => rfl
  | .nilp, _ => rfl
  | .ptr o v f, h => by simp only [V.ren, h o (by simp [V.objs])]
  | .iptr cs f, h => by simp only [V.ren, V.renL_same cs fun o ho => h o (by simpa [V.objs] using ho)]
  | .nils, _ => rfl
  | .view o v f l s c, h => by simp only [V.ren, h o (by simp [V.objs])]
  | .vend o v s, h => by simp only [V.ren, h o (by simp [V.objs])]
  | .sl L s c, h => by simp only [V.ren, V.renL_same L fun o ho => h o (by simpa [V.objs] using ho)]
  | .nilm, _ => rfl
  | .map o v, h => by simp only [V.ren, h o (by simp [V.objs])]
  | .nilf, _ => rfl
  | .func f x y, h => by simp only [V.ren, V.renL_same x fun o ho => h o (by simp [V.objs, ho]), V.renL_same y fun o ho => h o (by simp [V.objs, ho])]
  | .yld o v, h => by simp only [V.ren, h o (by simp [V.objs])]
  | .nili, _ => rfl
  | .iface t v, h => by simp only [V.ren, V.ren_same v fun o ho => h o (by simpa [V.objs] using ho)]
  | .agg cs, h => by simp only [V.ren, V.renL_same cs fun o ho => h o (by simpa [V.objs] using ho)]
  | .tup cs, h => by simp only [V.ren, V.renL_same cs fun o ho => h o (by simpa [V.objs] using ho)]
  termination_by structural v => v
theorem V.renL_same {σ : Nat → Nat} : ∀ (l : List V), (∀ o ∈ V.objsL l, σ o = o) → V.renL σ l = l
  | [], _ => rfl
  | v :: l, h => by simp only [V.renL, V.ren_same v fun o ho => h o (by simp [V.objsL, ho]), V.renL_same l fun o ho => h o (by simp [V.objsL, ho])]
  termination_by structural l => l
end
theorem map_ren_same {σ : Nat → Nat} {l : List V} (h : ∀ o ∈ V.objsL l, σ o = o) : l.map (V.ren σ) = l := by rw [← renL_map]; exact V.renL_same l h
theorem BdEq.same {σ : Nat → Nat} {b : Bd} (hl : b.lives = true) (h : ∀ o ∈ b.objs, σ o = o) : BdEq σ b b := by
  cases b with
  | dead => cases hl
  | var cs => exact (map_ren_same h).symm
  | arr cs => exact (map_ren_same h).symm
  | map es =>
    have key : ∀ e ∈ es, e.1.ren σ = e.1 ∧ e.2.ren σ = e.2 := fun e he =>
      ⟨V.ren_same _ fun o ho => h o (List.mem_flatMap.2 ⟨e, he, by simp [ho]⟩), V.ren_same _ fun o ho => h o (List.mem_flatMap.2 ⟨e, he, by simp [ho]⟩)⟩
    refine ⟨fun e he => (key e he).1, ?_⟩
    have : es.map (fun e => (e.1, e.2.ren σ)) = es := by
      rw [List.map_congr_left (g := id) fun e he => by rw [(key e he).2]; rfl]
      simp
    rw [this]
  | loop st p t fb f k => exact ⟨rfl, rfl, rfl, rfl, (map_ren_same h).symm⟩
theorem perm_map {f : Od → V × V} {π es : List (V × V)} (hp : π.Perm es) : ∀ O : List Od, es = O.map f → ∃ P : List Od, P.Perm O ∧ π = P.map f := by
  induction hp with
  | nil =>
    intro O h
    cases O with
    | nil => exact ⟨[], List.Perm.nil, rfl⟩
    | cons _ _ => cases h
  | cons x _ ih =>
    intro O h
    cases O with
    | nil => cases h
    | cons o O =>
      simp only [List.map_cons, List.cons.injEq] at h
      obtain ⟨P, h1, rfl⟩ := ih O h.2
      exact ⟨o :: P, h1.cons o, by rw [h.1]; rfl⟩
  | swap x y l =>
    intro O h
    match O, h with
    | o :: q :: O, h =>
      simp only [List.map_cons, List.cons.injEq] at h
      obtain ⟨rfl, rfl, rfl⟩ := h
      exact ⟨q :: o :: O, List.Perm.swap o q O, rfl⟩
  | trans _ _ ih1 ih2 =>
    intro O h
    obtain ⟨P, h1, e1⟩ := ih2 O h
    obtain ⟨Q, h2, e2⟩ := ih1 P e1
    exact ⟨Q, h2.trans h1, e2⟩
theorem cpK_split (Hh : Heap) (P : List Od) (cs : List V) (q3 : Ob) (xs : Heap) : cpK Hh P cs q3 xs = (cpK Hh [] cs q3 xs).set Hh.length ⟨1, .map ((cpO (Hh.length + 20) P).map Od.e)⟩ ++ news P := by
  unfold cpK
  rw [app_set0]
  simp [news]
theorem cpO_e (L0 : Nat) (P : List Od) (hn : (P.map Od.w).Nodup) (O : List Od) (hp : P.Perm O) : (cpO L0 P).map (fun o => ((o.e).1, (o.e).2.ren (sg L0 (P.map Od.w) (O.map Od.w)))) = P.map fun o => (kw o.w, .view (L0 + (O.map Od.w).idxOf o.w) 1 0 o.l.length 2 none) := by
  apply List.ext_getElem?
  intro i
  rw [List.getElem?_map, List.getElem?_map]
  cases hi : P[i]? with
  | none => rw [List.getElem?_eq_none (by rw [cpO_len]; exact List.getElem?_eq_none_iff.1 hi)]; rfl
  | some o =>
    rw [cpO_get hi]
    simp only [Option.map_some, Od.e, V.ren]
    rw [sg_at (w := o.w) (by rw [List.getElem?_map, hi]; rfl)]
theorem cpO_e' (L0 : Nat) (O : List Od) (hn : (O.map Od.w).Nodup) : (cpO L0 O).map Od.e = O.map fun o => (kw o.w, .view (L0 + (O.map Od.w).idxOf o.w) 1 0 o.l.length 2 none) := by
  apply List.ext_getElem?
  intro i
  rw [List.getElem?_map, List.getElem?_map]
  cases hi : O[i]? with
  | none => rw [List.getElem?_eq_none (by rw [cpO_len]; exact List.getElem?_eq_none_iff.1 hi)]; rfl
  | some o =>
    rw [cpO_get hi]
    simp only [Option.map_some, Od.e]
    rw [idx_nodup hn (i := i) (w := o.w) (by rw [List.getElem?_map, hi]; rfl)]
theorem cp_alike {Hh : Heap} {a m : Nat} {P O : List Od} {cs : List V} {xs : Heap} (hx : xs.length = 16) (hk : (O.map Od.w).Nodup) (hp : P.Perm O) (ha : a < Hh.length) (hm : m < Hh.length)
    (hclo : ∀ (o : Nat) (x : Ob), (cpK Hh [] cs ⟨P.length, .dead⟩ xs)[o]? = some x → x.bd.lives = true → ∀ i ∈ x.bd.objs, i < Hh.length + 20) :
    Alike (Hh.length + 20) (.norm, fr 52 (cpT Hh.length a m), cpK Hh P cs ⟨P.length, .dead⟩ xs) (.norm, fr 52 (cpT Hh.length a m), cpK Hh O cs ⟨O.length, .dead⟩ xs) := by
  have hkP : (P.map Od.w).Nodup := (hp.map Od.w).nodup_iff.2 hk
  have hpw : (P.map Od.w).Perm (O.map Od.w) := hp.map Od.w
  have hlen := hp.length_eq
  have hl0 : (cpK Hh [] cs ⟨P.length, .dead⟩ xs).length = Hh.length + 20 := by simp [cpK, news, hx]
  obtain ⟨σ, eσ⟩ : ∃ σ, σ = sg (Hh.length + 20) (P.map Od.w) (O.map Od.w) := ⟨_, rfl⟩
  obtain ⟨τ, eτ⟩ : ∃ τ, τ = sg (Hh.length + 20) (O.map Od.w) (P.map Od.w) := ⟨_, rfl⟩
  have lowσ : ∀ o, o < Hh.length + 20 → σ o = o := fun o ho => by rw [eσ]; exact sg_low ho
  have lowτ : ∀ o, o < Hh.length + 20 → τ o = o := fun o ho => by rw [eτ]; exact sg_low ho
  refine ⟨rfl, σ, τ, ?_, ?_, ?_, ?_⟩
  · rw [eσ, eτ]
    exact sg_ren hkP hpw (Nat.le_refl _) (by rw [cpK_split]; simp [hl0, news])
  · show fr 52 _ = (fr 52 _).map _
    refine (map_ren_same fun o ho => lowσ o ?_).symm
    have : ∀ v ∈ fr 52 (cpT Hh.length a m), ∀ o ∈ v.objs, o < Hh.length + 20 := by
      intro v hv o ho
      unfold fr at hv
      obtain ⟨i, -, rfl⟩ := List.mem_map.1 hv
      unfold cpT at ho
      simp only [get] at ho
      repeat' split at ho
      all_goals simp [V.objs] at ho
      all_goals omega
    obtain ⟨v, hv, hov⟩ : ∃ v ∈ fr 52 (cpT Hh.length a m), o ∈ v.objs := by
      generalize fr 52 (cpT Hh.length a m) = l at ho
      clear this
      induction l with
      | nil => cases ho
      | cons v l ih =>
        simp only [V.objsL, List.mem_append] at ho
        rcases ho with h | h
        · exact ⟨v, by simp, h⟩
        · obtain ⟨u, hu, hou⟩ := ih h
          exact ⟨u, by simp [hu], hou⟩
    exact this v hv o hov
  · simp only
    rw [cpK_split, cpK_split Hh P]
    simp [news, cpK, hlen]
  · intro o y hy
    simp only at hy ⊢
    rw [cpK_split, ← hlen] at hy
    rw [cpK_split]
    rcases Nat.lt_or_ge o (Hh.length + 20) with ho | ho
    · rw [lowτ o ho]
      rw [List.getElem?_append_left (by rw [List.length_set, hl0]; exact ho)] at hy ⊢
      by_cases e : o = Hh.length
      · subst e
        rw [List.getElem?_set_self (by rw [hl0]; omega)] at hy ⊢
        cases hy
        refine ⟨_, rfl, rfl, fun _ => ⟨fun e he => ?_, ?_⟩⟩
        · obtain ⟨x, -, rfl⟩ := List.mem_map.1 he
          rfl
        · rw [List.map_map]
          have h1 := cpO_e (Hh.length + 20) P hkP O hp
          have h2 := cpO_e' (Hh.length + 20) O hk
          rw [← eσ] at h1
          rw [show ((fun e : V × V => (e.1, e.2.ren σ)) ∘ Od.e) = fun o => ((o.e).1, (o.e).2.ren σ) from rfl, h1, h2]
          exact (hp.map _).symm
      · rw [List.getElem?_set_ne (Ne.symm e)] at hy ⊢
        exact ⟨y, hy, rfl, fun hl => BdEq.same hl fun i hi => lowσ i (hclo o y hy hl i hi)⟩
    · obtain ⟨i, rfl⟩ : ∃ i, o = Hh.length + 20 + i := ⟨o - (Hh.length + 20), by omega⟩
      rw [List.getElem?_append_right (by rw [List.length_set, hl0]; omega), List.length_set, hl0, Nat.add_sub_cancel_left] at hy
      unfold news at hy
      rw [List.getElem?_map, Option.map_eq_some_iff] at hy
      obtain ⟨q, hq, rfl⟩ := hy
      have hqw : (O.map Od.w)[i]? = some q.w := by rw [List.getElem?_map, hq]; rfl
      have hqP := idx_get (hpw.mem_iff.2 (List.mem_of_getElem? hqw))
      rw [eτ, sg_at hqw, List.getElem?_append_right (by rw [List.length_set, hl0]; omega), List.length_set, hl0, Nat.add_sub_cancel_left]
      generalize (P.map Od.w).idxOf q.w = j at hqP
      rw [List.getElem?_map, Option.map_eq_some_iff] at hqP
      obtain ⟨r, hr, hrw⟩ := hqP
      have hrO : r ∈ O := hp.mem_iff.1 (List.mem_of_getElem? hr)
      obtain ⟨i', hi'⟩ := List.getElem?_of_mem hrO
      have := same_od hk hi' hq hrw
      subst this
      rw [hq] at hi'
      cases hi'
      refine ⟨⟨1, .arr (flatP q.l)⟩, by unfold news; rw [List.getElem?_map, hr]; rfl, rfl, fun _ => BdEq.same rfl fun x hx => ?_⟩
      have : (Bd.arr (flatP q.l)).objs = [] := objsL_flat (flatP_obj _)
      rw [this] at hx
      cases hx
end Go.Am.T


set_option linter.unusedVariables false
set_option linter.unusedSimpArgs false
set_option linter.unusedSectionVars false
set_option maxRecDepth 10000
namespace Go.Am.T
attribute [local congr] selV_congr impB_congr
theorem am10_wp {N n : Nat} {args : List V} {h : Heap} {C : V → Heap → Prop} (ha : args.length = 1) (H : sx ⟨pureOf am, callA am N n, N, h.length⟩ am10.body (fr am10.nt (argsF 0 args)) (h ++ deads am10.sites) (retQ am10.res C)) : ∃ v h', callA am N (n + 1) 10 args h = some (v, h') ∧ C v h' :=
  call_keep at10 rfl ha (by decide) (sx_wp H)
def z16 : List Pg := List.replicate 16 ⟨[], .nils, []⟩
structure CpI (H : Heap) (Q : List Pg) (nn : Int) (p : Nat) (Qc : List Pg) (xs : Heap) : Prop where
  q16 : Qc.length = 16
  xl : xs.length = p
  old : ∀ j q, p ≤ j → Qc[j]? = some q → q = ⟨[], .nils, []⟩
  new : ∀ j q, j < p → Qc[j]? = some q → ∃ r, Q[j]? = some r ∧ q.l = r.l ∧ (∀ o ∈ q.R, o = H.length + 4 + j) ∧ ∀ x0 x1 x2 x3 : Ob, PRow (H ++ ([x0, x1, x2, x3] ++ xs)) q.W q.l q.R
theorem CpI.next {H : Heap} {Q : List Pg} {nn : Int} {p : Nat} {Qc : List Pg} {xs : Heap} (C : CpI H Q nn p Qc xs) (hp : p < 16) {q r : Pg} (hq : Q[p]? = some q) (hr : r.l = q.l) (ho : ∀ o ∈ r.R, o = H.length + 4 + p) {x : Ob} (hx : ∀ x0 x1 x2 x3 : Ob, PRow (H ++ ([x0, x1, x2, x3] ++ (xs ++ [x]))) r.W r.l r.R) :
    CpI H Q nn (p + 1) (Qc.set p r) (xs ++ [x]) := by
  have hpl : p < Qc.length := by rw [C.q16]; exact hp
  refine ⟨by simp [C.q16], by simp [C.xl], fun j q' hj hq' => ?_, fun j q' hj hq' => ?_⟩
  · rw [List.getElem?_set_ne (by omega)] at hq'
    exact C.old j q' (by omega) hq'
  · by_cases e : p = j
    · subst e
      rw [List.getElem?_set_self hpl] at hq'
      cases hq'
      exact ⟨q, hq, hr, ho, hx⟩
    · rw [List.getElem?_set_ne e] at hq'
      obtain ⟨s, h1, h2, h3, h4⟩ := C.new j q' (by omega) hq'
      refine ⟨s, h1, h2, h3, fun x0 x1 x2 x3 => (h4 x0 x1 x2 x3).keep fun o ho' => ?_⟩
      have e1 : H ++ ([x0, x1, x2, x3] ++ (xs ++ [x])) = (H ++ ([x0, x1, x2, x3] ++ xs)) ++ [x] := by simp
      rw [e1, List.getElem?_append_left]
      have := h3 o ho'
      have := C.xl
      simp
      omega
def cpH (H : Heap) (es : List (V × V)) (cs : List V) (x2 x3 : Ob) (xs : Heap) : Heap := H ++ ([⟨1, .map es⟩, ⟨1, .var cs⟩, x2, x3] ++ xs)
def cpF (H : Heap) (O : List Od) (cs : List V) (xs : Heap) : Heap := H ++ (⟨1, .map ((cpO (H.length + 20) O).map Od.e)⟩ :: ⟨1, .var cs⟩ :: ⟨1, .dead⟩ :: ⟨O.length, .dead⟩ :: (xs ++ news O))
theorem hide_eq {H : Heap} {m : Nat} (hm : m < H.length) (cs : List V) (xs : Heap) :
    ((H ++ (⟨1, .map []⟩ :: ⟨1, .var cs⟩ :: ⟨0, .dead⟩ :: ⟨0, .dead⟩ :: xs)).set m ⟨1, .dead⟩).set (H.length + 2) ⟨1, .dead⟩ = cpK (H.set m ⟨1, .dead⟩) [] cs ⟨0, .dead⟩ xs := by
  unfold cpK
  rw [List.set_append_left _ _ hm]
  have : H.length = (H.set m ⟨1, .dead⟩).length := by simp
  rw [this, app_set]
  simp [news, cpO]
theorem live_set {h : Heap} {i v o : Nat} {x : Ob} (hx : (h.set i ⟨v, .dead⟩)[o]? = some x) (hl : x.bd.lives = true) : h[o]? = some x := by
  by_cases e : i = o
  · subst e
    rcases Nat.lt_or_ge i h.length with k | k
    · rw [List.getElem?_set_self k] at hx
      cases hx
      cases hl
    · rw [List.getElem?_eq_none (by simpa using k)] at hx
      cases hx
  · rwa [List.getElem?_set_ne e] at hx
theorem hide_eq3 {H : Heap} {m : Nat} (hm : m < H.length) (cs : List V) (xs : Heap) (k : Nat) :
    (((H ++ (⟨1, .map []⟩ :: ⟨1, .var cs⟩ :: ⟨0, .dead⟩ :: ⟨0, .dead⟩ :: xs)).set m ⟨1, .dead⟩).set (H.length + 2) ⟨1, .dead⟩).set (H.length + 3) ⟨k, .dead⟩ = cpK (H.set m ⟨1, .dead⟩) [] cs ⟨k, .dead⟩ xs := by
  rw [hide_eq hm]
  unfold cpK
  have : H.length = (H.set m ⟨1, .dead⟩).length := by simp
  rw [this, app_set]
  rfl
theorem show_eq {H : Heap} {m : Nat} {es : List (V × V)} (hm : H[m]? = some ⟨1, .map es⟩) (O : List Od) (cs : List V) (xs : Heap) :
    (cpK (H.set m ⟨1, .dead⟩) O cs ⟨O.length, .dead⟩ xs)[m]? = some ⟨1, .dead⟩ ∧ (cpK (H.set m ⟨1, .dead⟩) O cs ⟨O.length, .dead⟩ xs).set m ⟨1, .map es⟩ = cpF H O cs xs := by
  have hl := lt_of_get hm
  unfold cpK cpF
  refine ⟨by rw [List.getElem?_append_left (by simp; exact hl), List.getElem?_set_self hl], ?_⟩
  rw [List.set_append_left _ _ (by simp; exact hl), List.set_set, List.length_set]
  have : H.set m ⟨1, .map es⟩ = H := by
    apply List.ext_getElem?
    intro i
    by_cases e : m = i
    · subst e; rw [List.getElem?_set_self hl, hm]
    · rw [List.getElem?_set_ne e]
  rw [this]
theorem cp_md {H : Heap} {nn : Int} {Q Qc : List Pg} {O : List Od} {xs : Heap} (C : CpI H Q nn 16 Qc xs) (hq16 : Q.length = 16) (hk : (O.map Od.w).Nodup) :
    MdAt (cpF H O (mcs Qc nn H.length) xs) (H.length + 1) H.length nn Qc (cpO (H.length + 20) O) ∧ (∀ x, Own (H.length + 1) H.length Qc (cpO (H.length + 20) O) x → H.length ≤ x) ∧ Qc.map Pg.l = Q.map Pg.l := by
  have hx := C.xl
  have hQ : ∀ j q, Qc[j]? = some q → ∃ r, Q[j]? = some r ∧ q.l = r.l ∧ (∀ o ∈ q.R, o = H.length + 4 + j) ∧ ∀ x0 x1 x2 x3 : Ob, PRow (H ++ ([x0, x1, x2, x3] ++ xs)) q.W q.l q.R := fun j q hq =>
    C.new j q (by have := (List.getElem?_eq_some_iff.1 hq).1; rw [C.q16] at this; exact this) hq
  have hO : ∀ o ∈ cpO (H.length + 20) O, ∃ i r, O[i]? = some r ∧ o = ⟨r.w, r.l, .view (H.length + 20 + i) 1 0 r.l.length 2 none, [H.length + 20 + i]⟩ := fun o ho => by
    obtain ⟨i, hi⟩ := List.getElem?_of_mem ho
    have hil : i < O.length := by have := (List.getElem?_eq_some_iff.1 hi).1; rwa [cpO_len] at this
    have hr := List.getElem?_eq_getElem hil
    rw [cpO_get hr] at hi
    exact ⟨i, _, hr, (Option.some.inj hi).symm⟩
  have hj16 : ∀ {j q}, Qc[j]? = some q → j < 16 := fun {j q} hq => by have := (List.getElem?_eq_some_iff.1 hq).1; rwa [C.q16] at this
  have hQm : ∀ q ∈ Qc, ∃ j, Qc[j]? = some q := fun q hq => List.getElem?_of_mem hq
  refine ⟨⟨by unfold cpF; rw [app_get]; rfl, by unfold cpF; rw [app_get0]; rfl, C.q16, fun q hq => ?_, fun o ho => ?_, fun i j q r hi hj hij x hx1 hx2 => ?_, fun i j o r hi hj hij x hx1 hx2 => ?_, fun q hq o ho x hx1 hx2 => ?_, fun q hq x hx1 hx2 => ?_, fun o ho x hx1 hx2 => ?_, by omega, by rw [cpO_w]; exact hk⟩, fun x hx => ?_, ?_⟩
  · obtain ⟨j, hj⟩ := hQm q hq
    obtain ⟨r, -, -, h3, h4⟩ := hQ j q hj
    refine (h4 ⟨1, .map ((cpO (H.length + 20) O).map Od.e)⟩ ⟨1, .var (mcs Qc nn H.length)⟩ ⟨1, .dead⟩ ⟨O.length, .dead⟩).keep fun o ho => ?_
    have e1 : cpF H O (mcs Qc nn H.length) xs = (H ++ ([⟨1, .map ((cpO (H.length + 20) O).map Od.e)⟩, ⟨1, .var (mcs Qc nn H.length)⟩, ⟨1, .dead⟩, ⟨O.length, .dead⟩] ++ xs)) ++ news O := by simp [cpF]
    rw [e1, List.getElem?_append_left]
    have := h3 o ho
    have := hj16 hj
    simp
    omega
  · obtain ⟨i, r, hr, rfl⟩ := hO o ho
    refine .inr ⟨H.length + 20 + i, 1, [], fun _ h => by (cases h), rfl, rfl, ?_⟩
    have e1 : cpF H O (mcs Qc nn H.length) xs = (H ++ ([⟨1, .map ((cpO (H.length + 20) O).map Od.e)⟩, ⟨1, .var (mcs Qc nn H.length)⟩, ⟨1, .dead⟩, ⟨O.length, .dead⟩] ++ xs)) ++ news O := by simp [cpF]
    have e2 : (H ++ ([(⟨1, .map ((cpO (H.length + 20) O).map Od.e)⟩ : Ob), ⟨1, .var (mcs Qc nn H.length)⟩, ⟨1, .dead⟩, ⟨O.length, .dead⟩] ++ xs)).length = H.length + 20 := by simp [hx]
    rw [e1, List.getElem?_append_right (by omega), e2, Nat.add_sub_cancel_left]
    unfold news
    rw [List.getElem?_map, hr]
    rfl
  · obtain ⟨-, -, -, h1, -⟩ := hQ i q hi
    obtain ⟨-, -, -, h2, -⟩ := hQ j r hj
    have := h1 x hx1
    have := h2 x hx2
    omega
  · obtain ⟨i', hi'⟩ : ∃ r, O[i]? = some r := ⟨_, List.getElem?_eq_getElem (by have := (List.getElem?_eq_some_iff.1 hi).1; rwa [cpO_len] at this)⟩
    obtain ⟨j', hj'⟩ : ∃ r, O[j]? = some r := ⟨_, List.getElem?_eq_getElem (by have := (List.getElem?_eq_some_iff.1 hj).1; rwa [cpO_len] at this)⟩
    rw [cpO_get hi'] at hi
    rw [cpO_get hj'] at hj
    cases hi
    cases hj
    simp only [List.mem_singleton] at hx1 hx2
    omega
  · obtain ⟨j, hj⟩ := hQm q hq
    obtain ⟨-, -, -, h1, -⟩ := hQ j q hj
    obtain ⟨i, r, hr, rfl⟩ := hO o ho
    have := h1 x hx1
    have := hj16 hj
    simp only [List.mem_singleton] at hx2
    omega
  · obtain ⟨j, hj⟩ := hQm q hq
    obtain ⟨-, -, -, h1, -⟩ := hQ j q hj
    have := h1 x hx1
    simp only [List.mem_cons, List.not_mem_nil, or_false] at hx2
    omega
  · obtain ⟨i, r, hr, rfl⟩ := hO o ho
    simp only [List.mem_singleton] at hx1
    simp only [List.mem_cons, List.not_mem_nil, or_false] at hx2
    omega
  · rcases hx with rfl | rfl | ⟨q, hq, hx⟩ | ⟨o, ho, hx⟩
    · omega
    · omega
    · obtain ⟨j, hj⟩ := hQm q hq
      obtain ⟨-, -, -, h1, -⟩ := hQ j q hj
      have := h1 x hx
      omega
    · obtain ⟨i, r, hr, rfl⟩ := hO o ho
      simp only [List.mem_singleton] at hx
      omega
  · apply List.ext_getElem?
    intro j
    rw [List.getElem?_map, List.getElem?_map]
    cases hj : Qc[j]? with
    | none => rw [List.getElem?_eq_none (by rw [hq16, ← C.q16]; exact List.getElem?_eq_none_iff.1 hj)]
    | some q =>
      obtain ⟨r, h1, h2, -, -⟩ := hQ j q hj
      rw [h1]
      simp [h2]
theorem copy_spec {N n : Nat} (hN : 5000 ≤ N) (hn : 4 ≤ n) {H : Heap} {a m : Nat} {nn : Int} {Q : List Pg} {O : List Od} (h : MdAt H a m nn Q O) (hp1 : 1 ≤ nn) (hl : ∀ q ∈ Q, q.l.length ≤ 4096) (hO : ∀ o ∈ O, o.l ≠ [] ∧ o.l.length ≤ 4900) :
    ∃ v' H', callA am N n 10 [.ptr a 1 0] H = some (v', H') ∧ ∃ tl Q' O', v' = .ptr (H.length + 1) 1 0 ∧ H' = H ++ tl ∧ MdAt H' (H.length + 1) H.length nn Q' O' ∧ Q'.map Pg.l = Q.map Pg.l ∧ O' = cpO (H.length + 20) O ∧ ∀ x, Own (H.length + 1) H.length Q' O' x → H.length ≤ x := by
  obtain ⟨n, rfl⟩ : ∃ m, n = m + 1 := ⟨n - 1, by omega⟩
  have h4 := h.app (deads 4)
  have c26 := @there_spec N n (by omega) _ a m nn Q h.q16 hp1 h4.ob'
  have q1 := @mcs_n Q nn m h.q16
  have q2 := @mcs_m Q nn m h.q16
  have ql := @mcs_len Q nn m h.q16
  have oa : ∀ l : Heap, (H ++ l)[a]? = some ⟨1, .var (mcs Q nn m)⟩ := fun l => (h.app l).ob'
  unfold deads at c26
  simp only [List.replicate] at c26
  obtain ⟨PW, ePW⟩ : ∃ PW, PW = Q.map Pg.W := ⟨_, rfl⟩
  have pl : PW.length = 16 := by rw [ePW]; simp [h.q16]
  have tk : List.take 16 (mcs Q nn m) = PW := by unfold mcs; rw [ePW, List.take_append, List.length_map, h.q16, Nat.sub_self, List.take_zero, List.append_nil, List.take_of_length_le (by simp [h.q16])]
  refine am10_wp rfl ?_
  generalize mcs Q nn m = cs at *
  simp +contextual -implicitDefEqProofs (maxSteps := 10000000) only [sxb, plainD, stays, ↓selV_wt, ↓selV_wf, ↓impB_wt, ↓impB_wf, ↓selV_nor, ↓impB_nor, ↓selV_nt, ↓selV_nf, ↓impB_nt, ↓impB_nf, ↓selV_true, ↓selV_false, ↓selV_and, ↓impB_true, ↓impB_false, ↓impB_and, ↓prim_pick, ↓selV_nn, ↓impB_nn, doOp, get, ins, del, dels, Nat.reduceLT, Nat.reduceEqDiff, ↓reduceIte, reduceCtorEq, ne_eq, implies_true, prim, YLD, mkA, V.cells, Nat.reduceAdd, Nat.reduceSub, Nat.reduceMul, Nat.reduceLeDiff, loadA, cellsAt, nAg, packA, List.drop, List.take, List.head?, binA, unA, eqCells, eqCell, negB, fillA, storeA, Ob.with, indexedI, V.oneCell, intOf?, resA, resA1, packR, sealDepth, Int.reduceLT, Int.reduceLE, Int.reduceToNat, Int.reduceNeg, Int.reduceAdd, Int.reduceSub, Int.reduceMul, cond_true, cond_false, Int.reduceBNe, Int.reduceBEq, eq_self, deads, List.replicate, argsF, am10, isNil, app_get0, app_get, app_set0, app_set, c26, oa, q1, ql, tk, pl]
  refine sx_loop (fun i t h => ∃ Qc xs, t = fr 52 [(0, .ptr a 1 0), (3, .ptr (H.length + 1) 1 0), (21, .agg PW), (22, .int .i64 i)] ∧ i ≤ 16 ∧ CpI H Q nn i Qc xs ∧ h = cpH H [] (mcs Qc nn H.length) ⟨0, .dead⟩ ⟨0, .dead⟩ xs) 16 (by show 16 < N; omega) ⟨z16, [], rfl, by omega, ⟨rfl, rfl, fun j q _ hq => List.eq_of_mem_replicate (List.mem_of_getElem? hq), fun j q hj => by omega⟩, rfl⟩ ?_
  rintro i t hh hi ⟨Qc, xs, rfl, hi16, C, rfl⟩
  by_cases hlt : i < 16
  · have g1 : decide ((i : Int) < 16) = true := decide_eq_true (by omega)
    have w4 : IntKind.i64.wrap ((i : Int) + 1) = ((i + 1 : Nat) : Int) := (wrap64 (by omega) (by omega)).trans (by omega)
    have hi1 : i + 1 ≤ 16 := by omega
    have hq : Q[i]? = some (Q[i]'(by rw [h.q16]; exact hlt)) := List.getElem?_eq_getElem (by rw [h.q16]; exact hlt)
    generalize Q[i]'(by rw [h.q16]; exact hlt) = q at hq
    have hc : Qc[i]? = some (Qc[i]'(by rw [C.q16]; exact hlt)) := List.getElem?_eq_getElem (by rw [C.q16]; exact hlt)
    generalize Qc[i]'(by rw [C.q16]; exact hlt) = qc at hc
    have hrow : PRow (cpH H [] (mcs Qc nn H.length) ⟨0, .dead⟩ ⟨0, .dead⟩ xs) q.W q.l q.R := (h.pg q (List.mem_of_getElem? hq)).keep fun o ho => List.getElem?_append_left ((h.pg q (List.mem_of_getElem? hq)).lt o ho)
    obtain ⟨W', x, R', c27, hrow', hR'⟩ := @clone27 N n (by omega) _ _ _ _ hrow (hl q (List.mem_of_getElem? hq))
    have hPW : PW[i]? = some q.W := by rw [ePW, List.getElem?_map, hq]; rfl
    have pw1 : List.take 1 (List.drop i PW) = [q.W] := by
      rw [List.drop_eq_getElem_cons (by rw [pl]; exact hlt)]
      have : PW[i]'(by rw [pl]; exact hlt) = q.W := by rw [List.getElem?_eq_getElem (by rw [pl]; exact hlt)] at hPW; simpa using hPW
      rw [this]; rfl
    have hi15 : i ≤ 15 := by omega
    obtain ⟨w1, w2, w3, w4', w5, w6⟩ := hrow.shape
    obtain ⟨v1, v2, v3, v4, v5, v6⟩ := hrow'.shape
    have hlti : (i : Int) < 16 := by omega
    have qs := @mcs_set Qc nn H.length i qc ⟨q.l, W', R'⟩ hc
    have qcl := @mcs_len Qc nn H.length C.q16
    unfold cpH at *
    have hin : i + 1 ≤ 18 := by omega
    simp only [List.cons_append, List.nil_append, List.append_assoc] at c27
    simp +contextual -implicitDefEqProofs (maxSteps := 10000000) only [sxb, plainD, stays, ↓selV_wt, ↓selV_wf, ↓impB_wt, ↓impB_wf, ↓selV_nor, ↓impB_nor, ↓selV_nt, ↓selV_nf, ↓impB_nt, ↓impB_nf, ↓selV_true, ↓selV_false, ↓selV_and, ↓impB_true, ↓impB_false, ↓impB_and, ↓prim_pick, ↓selV_nn, ↓impB_nn, doOp, get, ins, del, dels, Nat.reduceLT, Nat.reduceEqDiff, ↓reduceIte, reduceCtorEq, ne_eq, implies_true, prim, YLD, mkA, V.cells, Nat.reduceAdd, Nat.reduceSub, Nat.reduceMul, Nat.reduceLeDiff, loadA, cellsAt, nAg, packA, List.drop, List.take, List.head?, binA, unA, eqCells, eqCell, negB, fillA, storeA, Ob.with, indexedI, V.oneCell, intOf?, resA, resA1, packR, sealDepth, Int.reduceLT, Int.reduceLE, Int.reduceToNat, Int.reduceNeg, Int.reduceAdd, Int.reduceSub, Int.reduceMul, cond_true, cond_false, Int.reduceBNe, Int.reduceBEq, eq_self, deads, List.replicate, argsF, g1, w4, hi15, pw1, c27, w1, v1, v2, hlti, app_get0, app_get, app_set0, app_set, List.append_assoc, qs, qcl, pl]
    refine ⟨fun _ => ⟨hlt, _, _, C.next (r := ⟨q.l, W', R'⟩) hlt hq rfl ?_ ?_, rfl⟩, fun h => absurd (by omega) h⟩
    · intro o ho
      rw [hR' o ho]
      simp [C.xl]
      omega
    · intro x0 x1 x2 x3
      refine hrow'.keep fun o ho => ?_
      have ho' : o = H.length + (4 + xs.length) := by
        rw [hR' o ho]
        simp
        omega
      rw [ho']
      have e1 : H ++ ([x0, x1, x2, x3] ++ (xs ++ [x])) = (H ++ ([x0, x1, x2, x3] ++ xs)) ++ [x] := by simp
      rw [e1, List.getElem?_append_right (by simp; omega), List.getElem?_append_right (by simp; omega)]
      simp
  · have e16 : i = 16 := by omega
    subst e16
    have g1 : decide (((16 : Nat) : Int) < 16) = false := rfl
    clear hi hi16 hlt
    unfold cpH
    simp +contextual -implicitDefEqProofs (maxSteps := 10000000) only [sxb, plainD, stays, ↓selV_wt, ↓selV_wf, ↓impB_wt, ↓impB_wf, ↓selV_nor, ↓impB_nor, ↓selV_nt, ↓selV_nf, ↓impB_nt, ↓impB_nf, ↓selV_true, ↓selV_false, ↓selV_and, ↓impB_true, ↓impB_false, ↓impB_and, ↓prim_pick, ↓selV_nn, ↓impB_nn, doOp, get, ins, del, dels, Nat.reduceLT, Nat.reduceEqDiff, ↓reduceIte, reduceCtorEq, ne_eq, implies_true, prim, YLD, mkA, V.cells, Nat.reduceAdd, Nat.reduceSub, Nat.reduceMul, Nat.reduceLeDiff, loadA, cellsAt, nAg, packA, List.drop, List.take, List.head?, binA, unA, eqCells, eqCell, negB, fillA, storeA, Ob.with, indexedI, V.oneCell, intOf?, resA, resA1, packR, sealDepth, Int.reduceLT, Int.reduceLE, Int.reduceToNat, Int.reduceNeg, Int.reduceAdd, Int.reduceSub, Int.reduceMul, cond_true, cond_false, Int.reduceBNe, Int.reduceBEq, eq_self, deads, List.replicate, argsF, g1, oa, q2, ql]
    have hml := h.ltm
    have hal := h.lta
    have hHl : (H.set m ⟨1, .dead⟩).length = H.length := by simp
    have hcl := @mcs_len Qc nn H.length C.q16
    have hcm := @mcs_m Qc nn H.length C.q16
    obtain ⟨hM, hown, hql⟩ := @cp_md H nn Q Qc O xs C h.q16 h.ks
    obtain ⟨s1, s2⟩ := @show_eq H m _ h.mp O (mcs Qc nn H.length) xs
    have hOr : ∀ o ∈ O, ORow (H.set m ⟨1, .dead⟩) o.W o.l o.R ∧ o.l ≠ [] ∧ o.l.length ≤ 4900 := fun o ho => ⟨(h.od o ho).keep fun x hx => List.getElem?_set_ne fun e : m = x => h.doa o ho x hx (by simp [e]), hO o ho⟩
    have hrs : ∀ P : List Od, P.Perm O → _ := fun P hP => @cp_rounds N n (by omega) (H.set m ⟨1, .dead⟩) a m P (mcs Qc nn H.length) xs hcl (by rw [hHl]; exact hcm) C.xl ((hP.map Od.w).nodup_iff.2 h.ks) (fun o ho => hOr o (hP.mem_iff.1 ho))
    obtain ⟨r, r1, r2⟩ := hrs O (List.Perm.refl _)
    have t38 : (fr 52 [(0, V.ptr a 1 0), (3, V.ptr (List.length H + 1) 1 0), (34, V.ptr a 1 0), (35, V.ptr a 1 0), (36, V.ptr a 1 17), (37, V.map m 1)]).set 38 (.ptr (H.length + 2) 1 0) = fr 52 (cpT H.length a m) := by rw [fr_set]; simp [ins, cpT]
    have hide := hide_eq hml (mcs Qc nn H.length) xs
    rw [hHl] at r1 r2
    have hmH : ∀ l : Heap, (H ++ l)[m]? = some ⟨1, .map (O.map Od.e)⟩ := fun l => (h.app l).mp
    refine sx_rangeM (x := ⟨0, .dead⟩) (om := some (m, 1)) (es := O.map Od.e) (r := r) (e := .norm) (t' := fr 52 (cpT H.length a m)) (h' := cpF H O (mcs Qc nn H.length) xs) (by rw [app_get]; rfl) ?_ ?_ ?_ ?_ ?_
    · rw [ev_fr (by decide)]
      simp [get, mapOf, mapAt, hmH]
    · show roundsM _ 38 39 40 41 (.ptr (H.length + 2) 1 0) _ (List.set (fr 52 _) 38 (.ptr (H.length + 2) 1 0)) ((List.set (H ++ _) m ⟨1, .dead⟩).set (H.length + 2) ⟨1, .dead⟩) = _
      rw [t38, hide]
      exact r1
    · intro hclo
      show AnyOrder _ 38 39 40 41 (.ptr (H.length + 2) 1 0) cpClr [3] H.length _ (List.set (fr 52 _) 38 (.ptr (H.length + 2) 1 0)) ((List.set (H ++ _) m ⟨1, .dead⟩).set (H.length + 2) ⟨1, .dead⟩) r
      rw [t38, hide]
      intro π hπ
      obtain ⟨P, hP, rfl⟩ := perm_map hπ O rfl
      obtain ⟨r', r1', r2'⟩ := hrs P hP
      rw [hHl] at r1' r2'
      refine ⟨r', r1', ?_⟩
      rw [r2, r2']
      have hL : (cpK (H.set m ⟨1, .dead⟩) [] (mcs Qc nn H.length) ⟨0, .dead⟩ xs).length = (H.set m ⟨1, .dead⟩).length + 20 := by simp [cpK, news, C.xl]
      rw [hL, ← hHl]
      refine cp_alike C.xl h.ks hP (by simp; exact hal) (by simp; exact hml) fun o x hx hl i hi => ?_
      rw [← hide_eq3 hml] at hx
      have hx := live_set (h := H ++ _) (live_set (live_set hx hl) hl) hl
      rw [hHl] at hx
      have := hclo.1 o x hx hl i hi
      simpa [C.xl] using this
    · show (match (leaveM cpClr [3] H.length r).2.2[m]? with | some ⟨v, .dead⟩ => if v = 1 then some ((leaveM cpClr [3] H.length r).1, (leaveM cpClr [3] H.length r).2.1, (leaveM cpClr [3] H.length r).2.2.set m ⟨1, .map (O.map Od.e)⟩) else none | _ => none) = _
      rw [r2]
      simp only [s1, s2, ↓reduceIte]
    · unfold cpT
      simp +contextual -implicitDefEqProofs (maxSteps := 10000000) only [sxb, plainD, stays, ↓selV_wt, ↓selV_wf, ↓impB_wt, ↓impB_wf, ↓selV_nor, ↓impB_nor, ↓selV_nt, ↓selV_nf, ↓impB_nt, ↓impB_nf, ↓selV_true, ↓selV_false, ↓selV_and, ↓impB_true, ↓impB_false, ↓impB_and, ↓prim_pick, ↓selV_nn, ↓impB_nn, doOp, get, ins, del, dels, Nat.reduceLT, Nat.reduceEqDiff, ↓reduceIte, reduceCtorEq, ne_eq, implies_true, prim, YLD, mkA, V.cells, Nat.reduceAdd, Nat.reduceSub, Nat.reduceMul, Nat.reduceLeDiff, loadA, cellsAt, nAg, packA, List.drop, List.take, List.head?, binA, unA, eqCells, eqCell, negB, fillA, storeA, Ob.with, indexedI, V.oneCell, intOf?, resA, resA1, packR, sealDepth, Int.reduceLT, Int.reduceLE, Int.reduceToNat, Int.reduceNeg, Int.reduceAdd, Int.reduceSub, Int.reduceMul, cond_true, cond_false, Int.reduceBNe, Int.reduceBEq, eq_self, deads, List.replicate, argsF]
      exact ⟨_, Qc, _, rfl, hM, hql, rfl, hown⟩
end Go.Am.T


set_option linter.unusedVariables false
set_option linter.unusedSimpArgs false
set_option linter.unusedSectionVars false
set_option maxRecDepth 10000
namespace Go.Am.T
def Wr.who (x : Wr) : Int × Int := (x.nd, x.ep)
def vol (w : Int × Int) (x : Wr) : Bool := !x.du && (x.who == w)
def pgOf (L : List Wr) (p : Int) : List Wr := L.filter (fun x => x.pg == p)
def plOf (w : Int × Int) : List Wr → List Wr → List (Int × Int)
  | _, [] => []
  | pre, x :: l => if vol w x = true then (x.pg, ((pgOf pre x.pg).length : Int)) :: plOf w (pre ++ [x]) l else plOf w (pre ++ [x]) l
def dur (w : Int × Int) : Nat → List Wr → List Wr
  | _, [] => []
  | k, x :: l => if vol w x = true then (match k with | 0 => x :: l | k + 1 => x.mark :: dur w k l) else x :: dur w k l
def los (w : Int × Int) (L : List Wr) : List Wr := L.filter (fun x => !vol w x)
theorem vol_iff {w : Int × Int} {x : Wr} : vol w x = true ↔ x.du = false ∧ x.who = w := by
  unfold vol
  simp
theorem pgOf_app (a b : List Wr) (p : Int) : pgOf (a ++ b) p = pgOf a p ++ pgOf b p := by simp [pgOf]
theorem pgOf_cons (x : Wr) (l : List Wr) (p : Int) : pgOf (x :: l) p = if x.pg = p then x :: pgOf l p else pgOf l p := by
  unfold pgOf
  rw [List.filter_cons]
  simp only [beq_iff_eq]
theorem pgOf_one (x : Wr) (p : Int) : pgOf [x] p = if x.pg = p then [x] else [] := by rw [pgOf_cons]; rfl
theorem mark_pg (x : Wr) : x.mark.pg = x.pg := rfl
theorem plOf_congr (w : Int × Int) : ∀ (l pre pre' : List Wr), (∀ p, (pgOf pre p).length = (pgOf pre' p).length) → plOf w pre l = plOf w pre' l
  | [], _, _, _ => rfl
  | x :: l, pre, pre', h => by
    have ih := plOf_congr w l (pre ++ [x]) (pre' ++ [x]) fun p => by rw [pgOf_app, pgOf_app, List.length_append, List.length_append, h p]
    unfold plOf
    rw [h x.pg, ih]
theorem plOf_snoc (w : Int × Int) (x : Wr) : ∀ (l pre : List Wr), plOf w pre (l ++ [x]) = plOf w pre l ++ (if vol w x = true then [(x.pg, ((pgOf (pre ++ l) x.pg).length : Int))] else [])
  | [], pre => by
    simp only [List.nil_append, plOf, List.append_nil]
  | y :: l, pre => by
    have ih := plOf_snoc w x l (pre ++ [y])
    simp only [List.cons_append, plOf, ih, List.append_assoc, List.nil_append]
    split <;> simp
def Pgs (Q : List Pg) (L : List Wr) : Prop := ∀ (p : Nat) (q : Pg), Q[p]? = some q → q.l = pgOf L p
theorem marks_dur (w : Int × Int) : ∀ (l pre : List Wr) (k : Nat) (Q : List Pg), Pgs Q (pre ++ l) → (∀ x ∈ l, 0 ≤ x.pg) → Pgs (marks Q ((plOf w pre l).take k)) (pre ++ dur w k l)
  | [], pre, k, Q, h, _ => by simpa [plOf, dur, marks] using h
  | x :: l, pre, k, Q, h, hp => by
    unfold plOf dur
    by_cases hv : vol w x = true
    · rw [if_pos hv, if_pos hv]
      cases k with
      | zero => simpa [marks] using h
      | succ k =>
        rw [List.take_succ_cons, marks_cons]
        have ih := marks_dur w l (pre ++ [x.mark]) k (markQ Q x.pg.toNat (pgOf pre x.pg).length) ?_ fun y hy => hp y (by simp [hy])
        · rw [plOf_congr w l (pre ++ [x]) (pre ++ [x.mark]) fun p => by rw [pgOf_app, pgOf_app, pgOf_one, pgOf_one, mark_pg]; split <;> simp]
          simpa using ih
        · intro p q hq
          obtain ⟨r, hr, -, -, hl⟩ := markQ_get hq
          have e := h p r hr
          have hx := hp x (by simp)
          rw [hl, e, pgOf_app, pgOf_app, pgOf_app, pgOf_one, pgOf_cons, mark_pg]
          by_cases ep : p = x.pg.toNat
          · have ep' : x.pg = (p : Int) := by omega
            rw [if_pos ep, if_pos ep', if_pos ep', ep']
            unfold markL
            rw [List.getElem?_append_right (Nat.le_refl _), Nat.sub_self]
            simp
          · have ep' : ¬ x.pg = (p : Int) := by omega
            rw [if_neg ep, if_neg ep', if_neg ep']
            simp
    · rw [if_neg hv, if_neg hv]
      have ih := marks_dur w l (pre ++ [x]) k Q (by simpa using h) fun y hy => hp y (by simp [hy])
      simpa using ih
def Chain (L : List Wr) : Prop := L.Pairwise (fun x y => x.pg = y.pg → x.du = false → y.du = false ∧ y.who = x.who)
theorem Chain.vol {L : List Wr} (h : Chain L) (w : Int × Int) : L.Pairwise (fun x y => x.pg = y.pg → vol w x = true → vol w y = true) := by
  refine List.Pairwise.imp (fun {x y} hxy e hx => ?_) h
  obtain ⟨h1, h2⟩ := vol_iff.1 hx
  obtain ⟨h3, h4⟩ := hxy e h1
  exact vol_iff.2 ⟨h3, h4.trans h2⟩
theorem cutQ_get {Q : List Pg} {p i j : Nat} {q : Pg} (h : (cutQ Q p i)[j]? = some q) : ∃ r, Q[j]? = some r ∧ q.l = (if j = p ∧ i < r.l.length then r.l.take i else r.l) := by
  unfold cutQ at h
  cases hp : Q[p]? with
  | none =>
    rw [hp] at h
    refine ⟨q, h, ?_⟩
    by_cases e : j = p
    · subst e; rw [hp] at h; cases h
    · rw [if_neg (fun h => e h.1)]
  | some r =>
    rw [hp] at h
    simp only at h
    by_cases e : p = j
    · subst e
      rw [List.getElem?_set_self (List.getElem?_eq_some_iff.1 hp).1] at h
      cases h
      refine ⟨r, hp, ?_⟩
      unfold cutP
      by_cases e2 : i < r.l.length
      · rw [if_pos e2, if_pos ⟨rfl, e2⟩]
      · rw [if_neg e2, if_neg (fun h => e2 h.2)]
    · rw [List.getElem?_set_ne e] at h
      exact ⟨q, h, by rw [if_neg (fun h => e h.1.symm)]⟩
theorem cuts_los (w : Int × Int) : ∀ (l pre org : List Wr) (Q : List Pg), (∀ x ∈ l, 0 ≤ x.pg) → l.Pairwise (fun x y => x.pg = y.pg → vol w x = true → vol w y = true) →
    (∀ (p : Nat) q, Q[p]? = some q → (q.l = pgOf pre p ++ pgOf l p ∧ (pgOf org p).length = (pgOf pre p).length) ∨ (q.l = pgOf pre p ∧ (pgOf pre p).length ≤ (pgOf org p).length ∧ ∀ x ∈ l, x.pg = (p : Int) → vol w x = true)) →
    Pgs (cuts Q (plOf w org l)) (pre ++ los w l)
  | [], pre, org, Q, _, _, h => by
    intro p q hq
    have hq : Q[p]? = some q := hq
    show q.l = pgOf (pre ++ []) p
    rw [List.append_nil]
    rcases h p q hq with ⟨h1, -⟩ | ⟨h1, -⟩
    · rw [h1]; simp [pgOf]
    · exact h1
  | x :: l, pre, org, Q, hp, hw, h => by
    obtain ⟨hw1, hw2⟩ := List.pairwise_cons.1 hw
    have hx := hp x (by simp)
    unfold plOf
    by_cases hv : vol w x = true
    · rw [if_pos hv, cuts_cons]
      have hl : los w (x :: l) = los w l := by simp [los, hv]
      rw [hl]
      refine cuts_los w l pre (org ++ [x]) _ (fun y hy => hp y (by simp [hy])) hw2 fun p q hq => ?_
      obtain ⟨r, hr, hql⟩ := cutQ_get hq
      simp only [Int.toNat_natCast] at hql
      rw [pgOf_app, pgOf_one]
      by_cases ep : p = x.pg.toNat
      · have ep' : x.pg = (p : Int) := by omega
        rw [if_pos ep']
        rcases h p r hr with ⟨h1, h2⟩ | ⟨h1, h2, h3⟩
        · rw [pgOf_cons, if_pos ep'] at h1
          refine .inr ⟨?_, by simp; omega, fun y hy hyp => hw1 y hy (ep'.trans hyp.symm) hv⟩
          rw [hql, if_pos ⟨ep, by rw [h1, ep', h2]; simp⟩, h1, ep', h2]
          simp
        · refine .inr ⟨?_, by simp; omega, fun y hy hyp => h3 y (by simp [hy]) hyp⟩
          rw [hql, if_neg (fun hh => by have := hh.2; rw [h1, ep'] at this; omega), h1]
      · have ep' : ¬ x.pg = (p : Int) := by omega
        rw [if_neg ep', List.append_nil]
        rw [if_neg (fun hh => ep hh.1)] at hql
        rcases h p r hr with ⟨h1, h2⟩ | ⟨h1, h2, h3⟩
        · rw [pgOf_cons, if_neg ep'] at h1
          exact .inl ⟨hql.trans h1, h2⟩
        · exact .inr ⟨hql.trans h1, h2, fun y hy hyp => h3 y (by simp [hy]) hyp⟩
    · rw [if_neg hv]
      have hl : los w (x :: l) = x :: los w l := by simp [los, hv]
      rw [hl]
      have := cuts_los w l (pre ++ [x]) (org ++ [x]) Q (fun y hy => hp y (by simp [hy])) hw2 fun p q hq => ?_
      · simpa using this
      · rw [pgOf_app, pgOf_app, pgOf_one]
        rcases h p q hq with ⟨h1, h2⟩ | ⟨h1, h2, h3⟩
        · rw [pgOf_cons] at h1
          refine .inl ⟨?_, by split <;> simp [h2]⟩
          rw [h1]
          split <;> simp
        · have ep' : ¬ x.pg = (p : Int) := fun e => hv (h3 x (by simp) e)
          rw [if_neg ep', List.append_nil, List.append_nil]
          exact .inr ⟨h1, h2, fun y hy hyp => h3 y (by simp [hy]) hyp⟩
end Go.Am.T


set_option linter.unusedVariables false
set_option linter.unusedSimpArgs false
set_option linter.unusedSectionVars false
set_option maxRecDepth 10000
namespace Go.Am.T
inductive MkL (w : Int × Int) : List Wr → List Wr → Prop
  | nil : MkL w [] []
  | same (x : Wr) {l' l : List Wr} : MkL w l' l → MkL w (x :: l') (x :: l)
  | mark (x : Wr) {l' l : List Wr} : vol w x = true → MkL w l' l → MkL w (x.mark :: l') (x :: l)
theorem MkL.refl (w : Int × Int) : ∀ l, MkL w l l
  | [] => .nil
  | x :: l => .same x (MkL.refl w l)
theorem MkL.len {w : Int × Int} {l' l : List Wr} (h : MkL w l' l) : l'.length = l.length := by
  induction h with
  | nil => rfl
  | same x _ ih => simp [ih]
  | mark x _ _ ih => simp [ih]
theorem MkL.get {w : Int × Int} {l' l : List Wr} (h : MkL w l' l) : ∀ {k : Nat} {x' : Wr}, l'[k]? = some x' → ∃ x, l[k]? = some x ∧ (x' = x ∨ vol w x = true ∧ x' = x.mark) := by
  induction h with
  | nil => intro k x' h; simp at h
  | same x _ ih =>
    intro k x' h
    cases k with
    | zero => exact ⟨x, rfl, .inl (by simpa using h.symm)⟩
    | succ k => exact ih (by simpa using h)
  | mark x hv _ ih =>
    intro k x' h
    cases k with
    | zero => exact ⟨x, rfl, .inr ⟨hv, by simpa using h.symm⟩⟩
    | succ k => exact ih (by simpa using h)
theorem MkL.mem {w : Int × Int} {l' l : List Wr} (h : MkL w l' l) {x' : Wr} (hx : x' ∈ l') : ∃ x ∈ l, x' = x ∨ vol w x = true ∧ x' = x.mark := by
  obtain ⟨k, hk⟩ := List.getElem?_of_mem hx
  obtain ⟨x, h1, h2⟩ := h.get hk
  exact ⟨x, List.mem_of_getElem? h1, h2⟩
theorem MkL.pg {w : Int × Int} {l' l : List Wr} (h : MkL w l' l) (p : Int) : MkL w (pgOf l' p) (pgOf l p) := by
  induction h with
  | nil => exact .nil
  | same x _ ih =>
    rw [pgOf_cons, pgOf_cons]
    split
    · exact .same x ih
    · exact ih
  | mark x hv _ ih =>
    rw [pgOf_cons, pgOf_cons, mark_pg]
    split
    · exact .mark x hv ih
    · exact ih
theorem dur_mk (w : Int × Int) : ∀ (l : List Wr) (k : Nat), MkL w (dur w k l) l
  | [], k => .nil
  | x :: l, k => by
    unfold dur
    by_cases hv : vol w x = true
    · rw [if_pos hv]
      cases k with
      | zero => exact .refl w _
      | succ k => exact .mark x hv (dur_mk w l k)
    · rw [if_neg hv]
      exact .same x (dur_mk w l k)
theorem dur_chain (w : Int × Int) : ∀ (l : List Wr) (k : Nat), Chain l → Chain (dur w k l)
  | [], k, h => h
  | x :: l, k, h => by
    obtain ⟨h1, h2⟩ := List.pairwise_cons.1 h
    unfold dur
    by_cases hv : vol w x = true
    · rw [if_pos hv]
      cases k with
      | zero => exact h
      | succ k => exact List.pairwise_cons.2 ⟨fun y _ _ hd => absurd hd (by simp [Wr.mark]), dur_chain w l k h2⟩
    · rw [if_neg hv]
      refine List.pairwise_cons.2 ⟨fun y' hy' e hd => ?_, dur_chain w l k h2⟩
      obtain ⟨y, hy, rfl | ⟨hvy, rfl⟩⟩ := (dur_mk w l k).mem hy'
      · exact h1 _ hy e hd
      · obtain ⟨q1, q2⟩ := h1 y hy e hd
        obtain ⟨r1, r2⟩ := vol_iff.1 hvy
        exact absurd (vol_iff.2 ⟨hd, q2.symm.trans r2⟩) hv
theorem mark_vol (w : Int × Int) (x : Wr) : vol w x.mark = false := by simp [vol, Wr.mark]
theorem plOf_dur (w : Int × Int) : ∀ (l pre : List Wr) (k : Nat), plOf w pre (dur w k l) = (plOf w pre l).drop k
  | [], pre, k => by simp [plOf, dur]
  | x :: l, pre, k => by
    unfold dur
    by_cases hv : vol w x = true
    · rw [if_pos hv]
      cases k with
      | zero => rfl
      | succ k =>
        have ih := plOf_dur w l (pre ++ [x]) k
        have e := plOf_congr w (dur w k l) (pre ++ [x.mark]) (pre ++ [x]) fun p => by rw [pgOf_app, pgOf_app, pgOf_one, pgOf_one, mark_pg]; split <;> simp
        simp only [plOf, hv, mark_vol, ↓reduceIte, Bool.false_eq_true, e, ih, List.drop_succ_cons]
    · rw [if_neg hv]
      simp only [plOf, hv, ↓reduceIte, Bool.false_eq_true]
      exact plOf_dur w l (pre ++ [x]) k
theorem vol_other {w w' : Int × Int} {x : Wr} (h : vol w x = true) (hne : w' ≠ w) : vol w' x = false := by
  obtain ⟨h1, h2⟩ := vol_iff.1 h
  cases e : vol w' x with
  | false => rfl
  | true => exact absurd ((vol_iff.1 e).2.symm.trans h2) hne
theorem plOf_mk {w w' : Int × Int} (hne : w' ≠ w) {l' l : List Wr} (h : MkL w l' l) : ∀ pre, plOf w' pre l' = plOf w' pre l := by
  induction h with
  | nil => intro pre; rfl
  | same x _ ih => intro pre; simp only [plOf, ih]
  | mark x hv hh ih =>
    rename_i l1 l2
    intro pre
    have e := plOf_congr w' l1 (pre ++ [x.mark]) (pre ++ [x]) fun p => by rw [pgOf_app, pgOf_app, pgOf_one, pgOf_one, mark_pg]; split <;> simp
    simp only [plOf, mark_vol, vol_other hv hne, ↓reduceIte, Bool.false_eq_true, e, ih]
theorem plOf_none (w : Int × Int) : ∀ (l pre : List Wr), (∀ x ∈ l, vol w x = false) → plOf w pre l = []
  | [], _, _ => rfl
  | x :: l, pre, h => by
    simp only [plOf, h x (by simp), ↓reduceIte, Bool.false_eq_true]
    exact plOf_none w l _ fun y hy => h y (by simp [hy])
theorem plOf_los {w w' : Int × Int} (hne : w' ≠ w) : ∀ (l pre org : List Wr), l.Pairwise (fun x y => x.pg = y.pg → vol w x = true → vol w y = true) →
    (∀ p : Int, (pgOf pre p).length = (pgOf org p).length ∨ ∀ x ∈ l, x.pg = p → vol w x = true) → plOf w' pre (los w l) = plOf w' org l
  | [], _, _, _, _ => rfl
  | x :: l, pre, org, hw, h => by
    obtain ⟨hw1, hw2⟩ := List.pairwise_cons.1 hw
    by_cases hv : vol w x = true
    · have hl : los w (x :: l) = los w l := by simp [los, hv]
      rw [hl]
      simp only [plOf, vol_other hv hne, ↓reduceIte, Bool.false_eq_true]
      refine plOf_los hne l pre (org ++ [x]) hw2 fun p => ?_
      by_cases e : x.pg = p
      · exact .inr fun y hy hyp => hw1 y hy (e.trans hyp.symm) hv
      · rw [pgOf_app, pgOf_one, if_neg e, List.append_nil]
        rcases h p with h1 | h1
        · exact .inl h1
        · exact .inr fun y hy hyp => h1 y (by simp [hy]) hyp
    · have hl : los w (x :: l) = x :: los w l := by simp [los, hv]
      have hp : (pgOf pre x.pg).length = (pgOf org x.pg).length := by
        rcases h x.pg with h1 | h1
        · exact h1
        · exact absurd (h1 x (by simp) rfl) hv
      have ih := plOf_los hne l (pre ++ [x]) (org ++ [x]) hw2 fun p => ?_
      · rw [hl]
        simp only [plOf, hp, ih]
      · rw [pgOf_app, pgOf_app, List.length_append, List.length_append]
        rcases h p with h1 | h1
        · exact .inl (by rw [h1])
        · exact .inr fun y hy hyp => h1 y (by simp [hy]) hyp
theorem pg_los (w : Int × Int) (L : List Wr) (p : Int) : pgOf (los w L) p = (pgOf L p).filter (fun x => !vol w x) := by
  unfold pgOf los
  rw [List.filter_filter, List.filter_filter]
  congr 1
  funext x
  exact Bool.and_comm _ _
theorem filter_pre (w : Int × Int) : ∀ (A : List Wr), A.Pairwise (fun x y => vol w x = true → vol w y = true) → ∃ t, A = A.filter (fun x => !vol w x) ++ t ∧ ∀ x ∈ t, vol w x = true
  | [], _ => ⟨[], rfl, by simp⟩
  | x :: A, h => by
    obtain ⟨h1, h2⟩ := List.pairwise_cons.1 h
    by_cases hv : vol w x = true
    · refine ⟨x :: A, ?_, fun y hy => ?_⟩
      · have : (x :: A).filter (fun x => !vol w x) = [] := by
          rw [List.filter_eq_nil_iff]
          intro y hy
          rcases List.mem_cons.1 hy with rfl | hy
          · simp [hv]
          · simp [h1 y hy hv]
        rw [this]
        rfl
      · rcases List.mem_cons.1 hy with rfl | hy
        · exact hv
        · exact h1 y hy hv
    · obtain ⟨t, e, ht⟩ := filter_pre w A h2
      refine ⟨t, ?_, ht⟩
      rw [List.filter_cons]
      simp only [hv, Bool.not_false, ↓reduceIte, List.cons_append]
      rw [← e]
theorem Chain.page {L : List Wr} (h : Chain L) (w : Int × Int) (p : Int) : (pgOf L p).Pairwise (fun x y => T.vol w x = true → T.vol w y = true) := by
  have h1 := List.Pairwise.sublist (List.filter_sublist (p := fun x : Wr => x.pg == p)) (h.vol w)
  refine List.Pairwise.imp_of_mem (fun {x y} hx hy hxy => hxy ?_) h1
  have ex := (List.mem_filter.1 hx).2
  have ey := (List.mem_filter.1 hy).2
  simp only [beq_iff_eq] at ex ey
  exact ex.trans ey.symm
theorem los_pre {L : List Wr} (h : Chain L) (w : Int × Int) (p : Int) : ∃ t, pgOf L p = pgOf (los w L) p ++ t ∧ ∀ x ∈ t, vol w x = true := by
  rw [pg_los]
  exact filter_pre w _ (h.page w p)
structure LOk (nn : Int) (L : List Wr) : Prop where
  ok : ∀ x ∈ L, x.Ok
  pg : ∀ x ∈ L, 0 ≤ x.pg ∧ x.pg < nn
  ps : ∀ p k x, (pgOf L p)[k]? = some x → x.ps = ((k + 1 : Nat) : Int)
  ch : Chain L
theorem LOk.dur {nn : Int} {L : List Wr} (h : LOk nn L) (w : Int × Int) (k : Nat) : LOk nn (T.dur w k L) := by
  refine ⟨fun x' hx => ?_, fun x' hx => ?_, fun p i x' hx => ?_, dur_chain w L k h.ch⟩
  · obtain ⟨x, h1, rfl | ⟨-, rfl⟩⟩ := (dur_mk w L k).mem hx
    · exact h.ok _ h1
    · exact mark_ok (h.ok _ h1)
  · obtain ⟨x, h1, rfl | ⟨-, rfl⟩⟩ := (dur_mk w L k).mem hx
    · exact h.pg _ h1
    · exact h.pg x h1
  · obtain ⟨x, h1, rfl | ⟨-, rfl⟩⟩ := ((dur_mk w L k).pg p).get hx
    · exact h.ps p i _ h1
    · exact h.ps p i x h1
theorem LOk.los {nn : Int} {L : List Wr} (h : LOk nn L) (w : Int × Int) : LOk nn (los w L) := by
  have hm : ∀ x ∈ T.los w L, x ∈ L := fun x hx => (List.mem_filter.1 hx).1
  refine ⟨fun x hx => h.ok x (hm x hx), fun x hx => h.pg x (hm x hx), fun p i x hx => ?_, List.Pairwise.sublist List.filter_sublist h.ch⟩
  obtain ⟨t, e, -⟩ := los_pre h.ch w p
  refine h.ps p i x ?_
  rw [e, List.getElem?_append_left (List.getElem?_eq_some_iff.1 hx).1]
  exact hx
theorem LOk.nil (nn : Int) : LOk nn [] := ⟨by simp, by simp, fun p k x h => by simp [pgOf] at h, List.Pairwise.nil⟩
theorem lastK_eq {l : List Wr} {x : Wr} (h : l.getLast? = some x) : lastK l l.length = x := by
  unfold lastK
  rw [List.take_length, List.getLastD_eq_getLast?, h]
  rfl
theorem whose_vol {nn : Int} {L : List Wr} (h : LOk nn L) {x : Wr} (hx : x ∈ L) (hd : x.du = false) : whoseW (pgOf L x.pg) = (x.who, true) := by
  have hm : x ∈ pgOf L x.pg := List.mem_filter.2 ⟨hx, by simp⟩
  obtain ⟨z, hz⟩ : ∃ z, (pgOf L x.pg).getLast? = some z := by
    cases e : (pgOf L x.pg).getLast? with
    | none => rw [List.getLast?_eq_none_iff] at e; rw [e] at hm; cases hm
    | some z => exact ⟨z, rfl⟩
  have hz' := hz
  rw [List.getLast?_eq_getElem?] at hz'
  have hps := h.ps _ _ _ hz'
  have hv := (h.ch.page x.who x.pg)
  have hvz : vol x.who z = true := by
    obtain ⟨i, hi⟩ := List.getElem?_of_mem hm
    have hil := (List.getElem?_eq_some_iff.1 hi).1
    rcases Nat.lt_or_ge i ((pgOf L x.pg).length - 1) with hlt | hge
    · have hh := List.pairwise_iff_getElem.1 hv i ((pgOf L x.pg).length - 1) hil (by omega) hlt
      have e1 := (List.getElem?_eq_some_iff.1 hi).2
      have e2 := (List.getElem?_eq_some_iff.1 hz').2
      rw [e1, e2] at hh
      exact hh (vol_iff.2 ⟨hd, rfl⟩)
    · have : i = (pgOf L x.pg).length - 1 := by omega
      subst this
      rw [hi] at hz'
      cases hz'
      exact vol_iff.2 ⟨hd, rfl⟩
  obtain ⟨v1, v2⟩ := vol_iff.1 hvz
  unfold whoseW
  rw [lastK_eq hz, if_neg (by
    rintro (e | e)
    · omega
    · rw [v1] at e; cases e)]
  exact congrArg (·, true) v2
theorem LOk.write {nn : Int} {L : List Wr} (h : LOk nn L) {w : Int × Int} {p : Nat} (hp : (p : Int) < nn) {B : List Int} (hB : B.length = 96) (hw : ¬ ((whoseW (pgOf L p)).2 = true ∧ (whoseW (pgOf L p)).1 ≠ w)) :
    LOk nn (L ++ [⟨w.1, w.2, p, ((pgOf L p).length + 1 : Nat), B, false⟩]) := by
  refine ⟨fun x hx => ?_, fun x hx => ?_, fun q k x hx => ?_, ?_⟩
  · rcases List.mem_append.1 hx with hx | hx
    · exact h.ok x hx
    · obtain rfl : x = _ := by simpa using hx
      exact hB
  · rcases List.mem_append.1 hx with hx | hx
    · exact h.pg x hx
    · obtain rfl : x = _ := by simpa using hx
      exact ⟨Int.natCast_nonneg _, hp⟩
  · rw [pgOf_app, pgOf_one] at hx
    split at hx
    · rename_i e
      have e : (p : Int) = q := e
      subst e
      rcases Nat.lt_or_ge k (pgOf L p).length with hk | hk
      · rw [List.getElem?_append_left hk] at hx
        exact h.ps _ _ _ hx
      · have hl := (List.getElem?_eq_some_iff.1 hx).1
        simp only [List.length_append, List.length_singleton] at hl
        have : k = (pgOf L p).length := by omega
        subst this
        rw [List.getElem?_append_right (Nat.le_refl _), Nat.sub_self] at hx
        cases hx
        rfl
    · rw [List.append_nil] at hx
      exact h.ps _ _ _ hx
  · refine List.pairwise_append.2 ⟨h.ch, List.pairwise_singleton _ _, fun x hx y hy e hd => ?_⟩
    obtain rfl : y = _ := by simpa using hy
    refine ⟨rfl, ?_⟩
    have e : x.pg = (p : Int) := e
    have hv := whose_vol h hx hd
    rw [e] at hv
    rw [hv] at hw
    exact (Classical.not_not.1 fun hne => hw ⟨rfl, fun e => hne e.symm⟩)
structure Ab (nn : Int) (L : List Wr) (Q : List Pg) (O : List Od) : Prop where
  pg : Pgs Q L
  od : ∀ w, ordOf O w = plOf w [] L
  ne : ∀ o ∈ O, o.l ≠ []
  ok : LOk nn L
theorem plOf_len (w : Int × Int) : ∀ (l pre : List Wr), (plOf w pre l).length ≤ l.length
  | [], _ => Nat.le_refl _
  | x :: l, pre => by
    have := plOf_len w l (pre ++ [x])
    unfold plOf
    split <;> simp only [List.length_cons] <;> omega
theorem plOf_mem (w : Int × Int) : ∀ (l pre : List Wr) (y : Int × Int), y ∈ plOf w pre l → ∃ x ∈ l, y.1 = x.pg ∧ ∃ k : Nat, y.2 = (k : Int) ∧ k < (pgOf (pre ++ l) x.pg).length
  | [], _, y, h => by cases h
  | x :: l, pre, y, h => by
    have ih := plOf_mem w l (pre ++ [x]) y
    rw [List.append_assoc] at ih
    unfold plOf at h
    split at h
    · rcases List.mem_cons.1 h with rfl | h
      · refine ⟨x, by simp, rfl, _, rfl, ?_⟩
        rw [pgOf_app, List.length_append, pgOf_cons, if_pos rfl]
        simp
      · obtain ⟨z, hz, h1⟩ := ih h
        exact ⟨z, by simp [hz], h1⟩
    · obtain ⟨z, hz, h1⟩ := ih h
      exact ⟨z, by simp [hz], h1⟩
theorem Ab.valid {nn : Int} {L : List Wr} {Q : List Pg} {O : List Od} (h : Ab nn L Q O) (hQ : Q.length = 16) (hn : nn ≤ 16) (w : Int × Int) : Valid Q (ordOf O w) := by
  rw [h.od w]
  intro y hy
  obtain ⟨x, hx, h1, k, h2, h3⟩ := plOf_mem w L [] y hy
  obtain ⟨p1, p2⟩ := h.ok.pg x hx
  have hlt : y.1.toNat < Q.length := by rw [hQ]; omega
  have hq := List.getElem?_eq_getElem hlt
  refine ⟨by omega, by omega, _, hq, ?_⟩
  rw [h.pg _ _ hq, show ((y.1.toNat : Nat) : Int) = x.pg by omega, h2]
  exact h3
theorem ordOf_putW (o : Od) (O : List Od) (w : Int × Int) : ordOf (putO o O) w = if w = o.w then o.l else ordOf O w := by
  unfold putO
  cases ha : O.any (fun x => o.w == x.w) with
  | true =>
    simp only
    induction O with
    | nil => simp at ha
    | cons x O ih =>
      unfold ordOf at ih ⊢
      simp only [List.map_cons, List.find?_cons]
      by_cases e : o.w = x.w
      · have e1 : (o.w == x.w) = true := beq_iff_eq.2 e
        simp only [e1]
        by_cases e2 : w = o.w
        · have e3 : (w == o.w) = true := beq_iff_eq.2 e2
          simp [e3, e2]
        · have e3 : (w == o.w) = false := beq_eq_false_iff_ne.2 e2
          have e4 : (w == x.w) = false := beq_eq_false_iff_ne.2 fun e5 => e2 (e5.trans e.symm)
          simp only [e3, e4, if_neg e2]
          cases ha2 : O.any (fun x => o.w == x.w) with
          | true => rw [ih ha2, if_neg e2]
          | false =>
            rw [List.map_congr_left (l := O) (g := id), List.map_id]
            intro y hy
            have := List.any_eq_false.1 ha2 y hy
            simp only [Bool.not_eq_true] at this
            rw [this]
            rfl
      · have e1 : (o.w == x.w) = false := beq_eq_false_iff_ne.2 e
        have ha2 : O.any (fun x => o.w == x.w) = true := by simpa [List.any_cons, e1] using ha
        simp only [e1]
        by_cases e2 : w = x.w
        · have e3 : (w == x.w) = true := beq_iff_eq.2 e2
          have e4 : ¬ w = o.w := fun e5 => e (e5.symm.trans e2)
          simp [e3, e4]
        · have e3 : (w == x.w) = false := beq_eq_false_iff_ne.2 e2
          simp only [e3]
          exact ih ha2
  | false =>
    simp only
    unfold ordOf
    rw [List.find?_append]
    by_cases e2 : w = o.w
    · subst e2
      have : O.find? (fun x => o.w == x.w) = none := by
        rw [List.find?_eq_none]
        intro x hx
        have := List.any_eq_false.1 ha x hx
        simpa using this
      simp [this]
    · have e3 : (w == o.w) = false := beq_eq_false_iff_ne.2 e2
      rw [if_neg e2]
      simp only [List.find?_cons, e3, List.find?_nil, Option.or_none]
theorem ordOf_filterW (O : List Od) (w u : Int × Int) : ordOf (O.filter (fun x => !(w == x.w))) u = if u = w then [] else ordOf O u := by
  induction O with
  | nil => unfold ordOf; simp
  | cons x O ih =>
    unfold ordOf at ih ⊢
    rw [List.filter_cons]
    by_cases e : w = x.w
    · have e1 : (w == x.w) = true := beq_iff_eq.2 e
      simp only [e1, Bool.not_true, Bool.false_eq_true, ↓reduceIte, ih, List.find?_cons]
      by_cases e2 : u = w
      · simp [e2]
      · have e3 : (u == x.w) = false := beq_eq_false_iff_ne.2 fun h => e2 (h.trans e.symm)
        simp only [if_neg e2, e3]
    · have e1 : (w == x.w) = false := beq_eq_false_iff_ne.2 e
      simp only [e1, Bool.not_false, ↓reduceIte, List.find?_cons]
      by_cases e3 : u = x.w
      · have e4 : (u == x.w) = true := beq_iff_eq.2 e3
        have e5 : ¬ u = w := fun h => e (h.symm.trans e3)
        simp only [e4, if_neg e5]
      · have e4 : (u == x.w) = false := beq_eq_false_iff_ne.2 e3
        simp only [e4]
        exact ih
theorem Ab.write {nn : Int} {L : List Wr} {Q : List Pg} {O : List Od} (h : Ab nn L Q O) {w : Int × Int} {p : Nat} {q : Pg} (hq : Q[p]? = some q) (hp : (p : Int) < nn) {B : List Int} (hB : B.length = 96) (hw : ¬ ((whoseW q.l).2 = true ∧ (whoseW q.l).1 ≠ w)) (W' : V) (R' : List Nat) (W2 : V) (R2 : List Nat) :
    Ab nn (L ++ [⟨w.1, w.2, p, (q.l.length + 1 : Nat), B, false⟩]) (Q.set p ⟨q.l ++ [⟨w.1, w.2, p, (q.l.length + 1 : Nat), B, false⟩], W', R'⟩) (putO ⟨w, ordOf O w ++ [((p : Int), (q.l.length : Int))], W2, R2⟩ O) := by
  have hql := h.pg p q hq
  have hpl := (List.getElem?_eq_some_iff.1 hq).1
  refine ⟨fun j r hj => ?_, fun u => ?_, fun o ho => ?_, ?_⟩
  · rw [pgOf_app, pgOf_one]
    by_cases e : p = j
    · subst e
      rw [List.getElem?_set_self hpl] at hj
      cases hj
      rw [if_pos rfl, ← hql]
    · rw [List.getElem?_set_ne e] at hj
      rw [if_neg (fun h : (p : Int) = (j : Int) => e (by omega)), List.append_nil]
      exact h.pg j r hj
  · rw [ordOf_putW, plOf_snoc, List.nil_append]
    by_cases e : u = w
    · subst e
      rw [if_pos rfl, if_pos (by simp [vol, Wr.who]), h.od u, hql]
    · rw [if_neg e, if_neg (fun hv => e ((vol_iff.1 hv).2.symm)), List.append_nil]
      exact h.od u
  · rcases putO_mem ho with rfl | ⟨-, ho⟩
    · simp
    · exact h.ne o ho
  · rw [hql]
    refine h.ok.write hp hB ?_
    rw [← hql]
    exact hw
theorem Ab.dur {nn : Int} {L : List Wr} {Q : List Pg} {O : List Od} (h : Ab nn L Q O) (w : Int × Int) (k : Nat) (W' : V) : Ab nn (T.dur w k L) (marks Q ((ordOf O w).take (min k (ordOf O w).length))) (restO O w (min k (ordOf O w).length) W') := by
  refine ⟨?_, fun u => ?_, fun o ho => ?_, h.ok.dur w k⟩
  · have := marks_dur w L [] k Q h.pg fun x hx => (h.ok.pg x hx).1
    rw [h.od w]
    have e : (plOf w [] L).take (min k (plOf w [] L).length) = (plOf w [] L).take k := by
      rcases Nat.le_total k (plOf w [] L).length with hk | hk
      · rw [Nat.min_eq_left hk]
      · rw [Nat.min_eq_right hk, List.take_length, List.take_of_length_le hk]
    rw [e]
    exact this
  · have hown : (ordOf O w).drop (min k (ordOf O w).length) = plOf w [] (T.dur w k L) := by
      rw [plOf_dur, ← h.od w]
      rcases Nat.le_total k (ordOf O w).length with hk | hk
      · rw [Nat.min_eq_left hk]
      · rw [Nat.min_eq_right hk, List.drop_length, List.drop_of_length_le hk]
    unfold restO
    split
    · rename_i e
      rw [ordOf_filterW]
      split
      · rename_i eu
        subst eu
        rw [← hown, e, List.drop_length]
      · rename_i eu
        rw [plOf_mk eu (dur_mk w L k), h.od u]
    · rw [ordOf_putW]
      simp only
      split
      · rename_i eu
        subst eu
        exact hown
      · rename_i eu
        rw [plOf_mk eu (dur_mk w L k), h.od u]
  · unfold restO at ho
    split at ho
    · exact h.ne o (List.mem_filter.1 ho).1
    · rename_i e
      rcases putO_mem ho with rfl | ⟨-, ho⟩
      · simp only
        intro e'
        rw [List.drop_eq_nil_iff] at e'
        omega
      · exact h.ne o ho
theorem Ab.los {nn : Int} {L : List Wr} {Q : List Pg} {O : List Od} (h : Ab nn L Q O) (w : Int × Int) (k : Nat) : Ab nn (T.los w (T.dur w k L)) (cuts (marks Q ((ordOf O w).take (min k (ordOf O w).length))) ((ordOf O w).drop (min k (ordOf O w).length))) (O.filter (fun x => !(w == x.w))) := by
  have h1 := Ab.dur h w k .nils
  have hdrop : (ordOf O w).drop (min k (ordOf O w).length) = plOf w [] (T.dur w k L) := by
    rw [plOf_dur, ← h.od w]
    rcases Nat.le_total k (ordOf O w).length with hk | hk
    · rw [Nat.min_eq_left hk]
    · rw [Nat.min_eq_right hk, List.drop_length, List.drop_of_length_le hk]
  refine ⟨?_, fun u => ?_, fun o ho => h.ne o (List.mem_filter.1 ho).1, h1.ok.los w⟩
  · rw [hdrop]
    exact cuts_los w (T.dur w k L) [] [] _ (fun x hx => (h1.ok.pg x hx).1) (h1.ok.ch.vol w) fun p q hq => .inl ⟨h1.pg p q hq, rfl⟩
  · rw [ordOf_filterW]
    split
    · rename_i e
      subst e
      exact (plOf_none u _ _ fun x hx => by simpa using (List.mem_filter.1 hx).2).symm
    · rename_i e
      rw [plOf_los e _ [] [] (h1.ok.ch.vol w) (fun p => .inl rfl), plOf_mk e (dur_mk w L k), h.od u]
theorem Ab.new (nn : Int) : Ab nn [] noQ [] := by
  refine ⟨fun p q hq => ?_, fun w => rfl, by simp, LOk.nil nn⟩
  have := (List.mem_replicate.1 (List.mem_of_getElem? hq)).2
  rw [this]
  rfl
theorem ordOf_cp (O : List Od) (w : Int × Int) : ∀ L0, ordOf (cpO L0 O) w = ordOf O w := by
  induction O with
  | nil => intro L0; rfl
  | cons o O ih =>
    intro L0
    unfold ordOf at ih ⊢
    simp only [cpO, List.find?_cons]
    cases w == o.w with
    | true => rfl
    | false => exact ih (L0 + 1)
theorem Ab.copy {nn : Int} {L : List Wr} {Q Q' : List Pg} {O : List Od} (h : Ab nn L Q O) (hQ : Q'.map Pg.l = Q.map Pg.l) (L0 : Nat) : Ab nn L Q' (cpO L0 O) := by
  refine ⟨fun p q hq => ?_, fun w => by rw [ordOf_cp]; exact h.od w, fun o ho => ?_, h.ok⟩
  · have h1 : (Q'.map Pg.l)[p]? = some q.l := by rw [List.getElem?_map, hq]; rfl
    rw [hQ, List.getElem?_map, Option.map_eq_some_iff] at h1
    obtain ⟨r, hr, e⟩ := h1
    rw [← e]
    exact h.pg p r hr
  · obtain ⟨i, hi⟩ := List.getElem?_of_mem ho
    have hil : i < O.length := by have := (List.getElem?_eq_some_iff.1 hi).1; rwa [cpO_len] at this
    have hr := List.getElem?_eq_getElem hil
    rw [cpO_get hr] at hi
    cases hi
    exact h.ne (O[i]) (List.getElem_mem hil)
end Go.Am.T


set_option linter.unusedVariables false
set_option linter.unusedSimpArgs false
set_option linter.unusedSectionVars false
set_option maxRecDepth 10000
namespace Go.Am.T
attribute [local congr] selV_congr impB_congr
theorem eqCells_ints {k : IntKind} : ∀ {n : Nat} {A B : List Int}, A.length = n → B.length = n → eqCells (List.replicate n (.i k)) (A.map (V.int k)) (B.map (V.int k)) = some (decide (A = B))
  | 0, [], [], _, _ => rfl
  | n + 1, a :: A, b :: B, h1, h2 => by
    simp only [List.replicate, List.map_cons, eqCells, eqCell, ↓reduceIte, eqCells_ints (k := k) (n := n) (A := A) (B := B) (by simpa using h1) (by simpa using h2), Option.some.injEq]
    by_cases e : a = b <;> by_cases e2 : A = B <;> simp [e, e2]
theorem PRow.read {H : Heap} {W : V} {l : List Wr} {R : List Nat} (h : PRow H W l R) (hne : l ≠ []) : ∃ o ver, ∀ (k : Nat) (x : Wr), l[k]? = some x → x.Ok ∧ iaddrSA 101 W (.int .i64 (k : Int)) = some (.ret (.ptr o ver (k * 101))) ∧
    (∀ j n, j + n ≤ 101 → loadA (fun o => H[o]?) n (.ptr o ver (k * 101 + j)) = some ((x.cs.drop j).take n)) := by
  obtain ⟨hall, ⟨h0, -⟩ | ⟨o, ver, cap, rest, -, hW, ho, hc⟩⟩ := h
  · exact absurd h0 hne
  · refine ⟨o, ver, fun k x hk => ?_⟩
    have hkl := (List.getElem?_eq_some_iff.1 hk).1
    have hl := flatW_len hall
    refine ⟨hall x (List.mem_of_getElem? hk), ?_, fun j n hjn => ?_⟩
    · rw [hW]
      have g0 : (0 : Int) ≤ (k : Int) := by omega
      have g1 : (k : Int) < (l.length : Int) := by omega
      simp [iaddrSA, indexedI, intOf?, g0, g1]
    · simp only [loadA, cellsAt, ho, ↓reduceIte]
      rw [if_pos (by rw [List.length_append, hl]; omega), ← flatW_at hall hk rest, List.drop_take, List.take_take, List.drop_drop, Nat.min_eq_left (by omega)]
theorem Wr.c0 (x : Wr) : (x.cs.drop 0).take 2 = [.int .i64 x.nd, .int .i64 x.ep] := rfl
theorem Wr.c3 (x : Wr) : (x.cs.drop 3).take 1 = [.int .i64 x.ps] := rfl
theorem Wr.cv {x : Wr} (h : x.Ok) : (x.cs.drop 3).take 97 = .int .i64 x.ps :: x.b.map (V.int .u8) := by
  unfold Wr.Ok at h
  have : x.cs.drop 3 = (.int .i64 x.ps :: x.b.map (V.int .u8)) ++ [.bool x.du] := rfl
  rw [this, List.take_append_of_le_length (by simp [h]), List.take_of_length_le (by simp [h])]
theorem Wr.cd {x : Wr} (h : x.Ok) : (x.cs.drop 100).take 1 = [.bool x.du] := by
  unfold Wr.Ok at h
  unfold Wr.cs Wr.hd
  rw [List.drop_append, List.drop_of_length_le (by simp), List.nil_append, List.drop_append, List.drop_of_length_le (by simp; omega), List.length_map, h]
  rfl
def lcA : ACode := (ACode.loop [] [] (ACode.seq (ACode.seq (ACode.seq (ACode.region [{ dst := (some 104), op := (AOp.move (Opd.tmp 13)), guard := none }, { dst := (some 105), op := (AOp.move (Opd.tmp 11)), guard := none }, { dst := (some 106), op := (AOp.lenS (Opd.tmp 105)), guard := none }, { dst := (some 107), op := (AOp.bin BinOp.lss (Opd.tmp 104) (Opd.tmp 106)), guard := none }]) (ACode.clr [106, 105, 104])) (ACode.cond (Opd.tmp 107) (ACode.seq (ACode.clr [107]) ACode.skip) (ACode.seq (ACode.clr [107, 13]) (ACode.exit 5)))) (ACode.seq (ACode.block 6 (ACode.seq (ACode.seq (ACode.region [{ dst := (some 110), op := (AOp.move (Opd.tmp 11)), guard := none }, { dst := (some 111), op := (AOp.move (Opd.tmp 13)), guard := none }, { dst := (some 112), op := (AOp.iaddrS 101 (Opd.tmp 110) (Opd.tmp 111)), guard := none }, { dst := (some 113), op := (AOp.faddr 3 (Opd.tmp 112)), guard := none }, { dst := (some 114), op := (AOp.faddr 0 (Opd.tmp 113)), guard := none }, { dst := (some 115), op := (AOp.load none (Opd.tmp 114)), guard := none }, { dst := (some 116), op := (AOp.move (Opd.tmp 13)), guard := none }, { dst := (some 117), op := (AOp.bin BinOp.add (Opd.tmp 116) (Opd.cst (V.int IntKind.i64 1))), guard := none }, { dst := (some 118), op := (AOp.bin BinOp.neq (Opd.tmp 115) (Opd.tmp 117)), guard := none }, { dst := (some 119), op := (AOp.move (Opd.tmp 118)), guard := none }, { dst := (some 120), op := (AOp.move (Opd.tmp 13)), guard := (some (119, false)) }, { dst := (some 121), op := (AOp.move (Opd.tmp 9)), guard := (some (119, false)) }, { dst := (some 122), op := (AOp.lenS (Opd.tmp 121)), guard := (some (119, false)) }, { dst := (some 123), op := (AOp.bin BinOp.lss (Opd.tmp 120) (Opd.tmp 122)), guard := (some (119, false)) }, { dst := (some 124), op := (AOp.move (Opd.tmp 123)), guard := (some (119, false)) }, { dst := (some 125), op := (AOp.move (Opd.tmp 9)), guard := (some (124, true)) }, { dst := (some 126), op := (AOp.move (Opd.tmp 13)), guard := (some (124, true)) }, { dst := (some 127), op := (AOp.iaddrS 101 (Opd.tmp 125) (Opd.tmp 126)), guard := (some (124, true)) }, { dst := (some 128), op := (AOp.faddr 3 (Opd.tmp 127)), guard := (some (124, true)) }, { dst := (some 129), op := (AOp.load (some 97) (Opd.tmp 128)), guard := (some (124, true)) }, { dst := (some 130), op := (AOp.move (Opd.tmp 11)), guard := (some (124, true)) }, { dst := (some 131), op := (AOp.move (Opd.tmp 13)), guard := (some (124, true)) }, { dst := (some 132), op := (AOp.iaddrS 101 (Opd.tmp 130) (Opd.tmp 131)), guard := (some (124, true)) }, { dst := (some 133), op := (AOp.faddr 3 (Opd.tmp 132)), guard := (some (124, true)) }, { dst := (some 134), op := (AOp.load (some 97) (Opd.tmp 133)), guard := (some (124, true)) }, { dst := (some 135), op := (AOp.eqc true true [(CK.i IntKind.i64), (CK.i IntKind.u8), (CK.i IntKind.u8), (CK.i IntKind.u8), (CK.i IntKind.u8), (CK.i IntKind.u8), (CK.i IntKind.u8), (CK.i IntKind.u8), (CK.i IntKind.u8), (CK.i IntKind.u8), (CK.i IntKind.u8), (CK.i IntKind.u8), (CK.i IntKind.u8), (CK.i IntKind.u8), (CK.i IntKind.u8), (CK.i IntKind.u8), (CK.i IntKind.u8), (CK.i IntKind.u8), (CK.i IntKind.u8), (CK.i IntKind.u8), (CK.i IntKind.u8), (CK.i IntKind.u8), (CK.i IntKind.u8), (CK.i IntKind.u8), (CK.i IntKind.u8), (CK.i IntKind.u8), (CK.i IntKind.u8), (CK.i IntKind.u8), (CK.i IntKind.u8), (CK.i IntKind.u8), (CK.i IntKind.u8), (CK.i IntKind.u8), (CK.i IntKind.u8), (CK.i IntKind.u8), (CK.i IntKind.u8), (CK.i IntKind.u8), (CK.i IntKind.u8), (CK.i IntKind.u8), (CK.i IntKind.u8), (CK.i IntKind.u8), (CK.i IntKind.u8), (CK.i IntKind.u8), (CK.i IntKind.u8), (CK.i IntKind.u8), (CK.i IntKind.u8), (CK.i IntKind.u8), (CK.i IntKind.u8), (CK.i IntKind.u8), (CK.i IntKind.u8), (CK.i IntKind.u8), (CK.i IntKind.u8), (CK.i IntKind.u8), (CK.i IntKind.u8), (CK.i IntKind.u8), (CK.i IntKind.u8), (CK.i IntKind.u8), (CK.i IntKind.u8), (CK.i IntKind.u8), (CK.i IntKind.u8), (CK.i IntKind.u8), (CK.i IntKind.u8), (CK.i IntKind.u8), (CK.i IntKind.u8), (CK.i IntKind.u8), (CK.i IntKind.u8), (CK.i IntKind.u8), (CK.i IntKind.u8), (CK.i IntKind.u8), (CK.i IntKind.u8), (CK.i IntKind.u8), (CK.i IntKind.u8), (CK.i IntKind.u8), (CK.i IntKind.u8), (CK.i IntKind.u8), (CK.i IntKind.u8), (CK.i IntKind.u8), (CK.i IntKind.u8), (CK.i IntKind.u8), (CK.i IntKind.u8), (CK.i IntKind.u8), (CK.i IntKind.u8), (CK.i IntKind.u8), (CK.i IntKind.u8), (CK.i IntKind.u8), (CK.i IntKind.u8), (CK.i IntKind.u8), (CK.i IntKind.u8), (CK.i IntKind.u8), (CK.i IntKind.u8), (CK.i IntKind.u8), (CK.i IntKind.u8), (CK.i IntKind.u8), (CK.i IntKind.u8), (CK.i IntKind.u8), (CK.i IntKind.u8), (CK.i IntKind.u8), (CK.i IntKind.u8)] (Opd.tmp 129) (Opd.tmp 134)), guard := (some (124, true)) }, { dst := (some 136), op := (AOp.move (Opd.tmp 135)), guard := (some (124, true)) }, { dst := (some 137), op := (AOp.move (Opd.tmp 9)), guard := (some (136, false)) }, { dst := (some 138), op := (AOp.move (Opd.tmp 13)), guard := (some (136, false)) }, { dst := (some 139), op := (AOp.iaddrS 101 (Opd.tmp 137) (Opd.tmp 138)), guard := (some (136, false)) }, { dst := (some 140), op := (AOp.faddr 0 (Opd.tmp 139)), guard := (some (136, false)) }, { dst := (some 141), op := (AOp.load (some 2) (Opd.tmp 140)), guard := (some (136, false)) }, { dst := (some 142), op := (AOp.move (Opd.tmp 11)), guard := (some (136, false)) }, { dst := (some 143), op := (AOp.move (Opd.tmp 13)), guard := (some (136, false)) }, { dst := (some 144), op := (AOp.iaddrS 101 (Opd.tmp 142) (Opd.tmp 143)), guard := (some (136, false)) }, { dst := (some 145), op := (AOp.faddr 0 (Opd.tmp 144)), guard := (some (136, false)) }, { dst := (some 146), op := (AOp.load (some 2) (Opd.tmp 145)), guard := (some (136, false)) }, { dst := (some 147), op := (AOp.eqc true true [(CK.i IntKind.i64), (CK.i IntKind.i64)] (Opd.tmp 141) (Opd.tmp 146)), guard := (some (136, false)) }, { dst := (some 148), op := (AOp.pick (Opd.tmp 136) (Opd.cst (V.bool true)) (Opd.tmp 147)), guard := (some (124, true)) }, { dst := (some 149), op := (AOp.move (Opd.tmp 148)), guard := (some (124, true)) }, { dst := (some 150), op := (AOp.move (Opd.tmp 9)), guard := (some (149, false)) }, { dst := (some 151), op := (AOp.move (Opd.tmp 13)), guard := (some (149, false)) }, { dst := (some 152), op := (AOp.iaddrS 101 (Opd.tmp 150) (Opd.tmp 151)), guard := (some (149, false)) }, { dst := (some 153), op := (AOp.faddr 100 (Opd.tmp 152)), guard := (some (149, false)) }, { dst := (some 154), op := (AOp.load none (Opd.tmp 153)), guard := (some (149, false)) }, { dst := (some 155), op := (AOp.move (Opd.tmp 154)), guard := (some (149, false)) }, { dst := (some 156), op := (AOp.move (Opd.tmp 11)), guard := (some (155, true)) }, { dst := (some 157), op := (AOp.move (Opd.tmp 13)), guard := (some (155, true)) }, { dst := (some 158), op := (AOp.iaddrS 101 (Opd.tmp 156) (Opd.tmp 157)), guard := (some (155, true)) }, { dst := (some 159), op := (AOp.faddr 100 (Opd.tmp 158)), guard := (some (155, true)) }, { dst := (some 160), op := (AOp.load none (Opd.tmp 159)), guard := (some (155, true)) }, { dst := (some 161), op := (AOp.un UnOp.not (Opd.tmp 160)), guard := (some (155, true)) }, { dst := (some 162), op := (AOp.pick (Opd.tmp 155) (Opd.tmp 161) (Opd.cst (V.bool false))), guard := (some (149, false)) }, { dst := (some 163), op := (AOp.pick (Opd.tmp 149) (Opd.cst (V.bool true)) (Opd.tmp 162)), guard := (some (124, true)) }, { dst := (some 164), op := (AOp.pick (Opd.tmp 124) (Opd.tmp 163) (Opd.cst (V.bool false))), guard := (some (119, false)) }, { dst := (some 165), op := (AOp.pick (Opd.tmp 119) (Opd.cst (V.bool true)) (Opd.tmp 164)), guard := none }, { dst := (some 166), op := (AOp.move (Opd.tmp 165)), guard := none }, { dst := (some 167), op := (AOp.move (Opd.tmp 13)), guard := (some (166, false)) }, { dst := (some 168), op := (AOp.bin BinOp.gtr (Opd.tmp 167) (Opd.cst (V.int IntKind.i64 0))), guard := (some (166, false)) }, { dst := (some 169), op := (AOp.move (Opd.tmp 168)), guard := (some (166, false)) }, { dst := (some 170), op := (AOp.move (Opd.tmp 11)), guard := (some (169, true)) }, { dst := (some 171), op := (AOp.move (Opd.tmp 13)), guard := (some (169, true)) }, { dst := (some 172), op := (AOp.bin BinOp.sub (Opd.tmp 171) (Opd.cst (V.int IntKind.i64 1))), guard := (some (169, true)) }, { dst := (some 173), op := (AOp.iaddrS 101 (Opd.tmp 170) (Opd.tmp 172)), guard := (some (169, true)) }, { dst := (some 174), op := (AOp.faddr 100 (Opd.tmp 173)), guard := (some (169, true)) }, { dst := (some 175), op := (AOp.load none (Opd.tmp 174)), guard := (some (169, true)) }, { dst := (some 176), op := (AOp.un UnOp.not (Opd.tmp 175)), guard := (some (169, true)) }, { dst := (some 177), op := (AOp.pick (Opd.tmp 169) (Opd.tmp 176) (Opd.cst (V.bool false))), guard := (some (166, false)) }, { dst := (some 178), op := (AOp.move (Opd.tmp 177)), guard := (some (166, false)) }, { dst := (some 179), op := (AOp.move (Opd.tmp 11)), guard := (some (178, true)) }, { dst := (some 180), op := (AOp.move (Opd.tmp 13)), guard := (some (178, true)) }, { dst := (some 181), op := (AOp.iaddrS 101 (Opd.tmp 179) (Opd.tmp 180)), guard := (some (178, true)) }, { dst := (some 182), op := (AOp.faddr 100 (Opd.tmp 181)), guard := (some (178, true)) }, { dst := (some 183), op := (AOp.load none (Opd.tmp 182)), guard := (some (178, true)) }, { dst := (some 184), op := (AOp.move (Opd.tmp 183)), guard := (some (178, true)) }, { dst := (some 185), op := (AOp.move (Opd.tmp 11)), guard := (some (184, false)) }, { dst := (some 186), op := (AOp.move (Opd.tmp 13)), guard := (some (184, false)) }, { dst := (some 187), op := (AOp.iaddrS 101 (Opd.tmp 185) (Opd.tmp 186)), guard := (some (184, false)) }, { dst := (some 188), op := (AOp.faddr 0 (Opd.tmp 187)), guard := (some (184, false)) }, { dst := (some 189), op := (AOp.load (some 2) (Opd.tmp 188)), guard := (some (184, false)) }, { dst := (some 190), op := (AOp.move (Opd.tmp 11)), guard := (some (184, false)) }, { dst := (some 191), op := (AOp.move (Opd.tmp 13)), guard := (some (184, false)) }, { dst := (some 192), op := (AOp.bin BinOp.sub (Opd.tmp 191) (Opd.cst (V.int IntKind.i64 1))), guard := (some (184, false)) }, { dst := (some 193), op := (AOp.iaddrS 101 (Opd.tmp 190) (Opd.tmp 192)), guard := (some (184, false)) }, { dst := (some 194), op := (AOp.faddr 0 (Opd.tmp 193)), guard := (some (184, false)) }, { dst := (some 195), op := (AOp.load (some 2) (Opd.tmp 194)), guard := (some (184, false)) }, { dst := (some 196), op := (AOp.eqc true true [(CK.i IntKind.i64), (CK.i IntKind.i64)] (Opd.tmp 189) (Opd.tmp 195)), guard := (some (184, false)) }, { dst := (some 197), op := (AOp.pick (Opd.tmp 184) (Opd.cst (V.bool true)) (Opd.tmp 196)), guard := (some (178, true)) }, { dst := (some 198), op := (AOp.pick (Opd.tmp 178) (Opd.tmp 197) (Opd.cst (V.bool false))), guard := (some (166, false)) }, { dst := (some 199), op := (AOp.pick (Opd.tmp 166) (Opd.cst (V.bool true)) (Opd.tmp 198)), guard := none }]) (ACode.clr [198, 197, 196, 195, 194, 193, 192, 191, 190, 189, 188, 187, 186, 185, 184, 183, 182, 181, 180, 179, 178, 177, 176, 175, 174, 173, 172, 171, 170, 169, 168, 167, 166, 165, 164, 163, 162, 161, 160, 159, 158, 157, 156, 155, 154, 153, 152, 151, 150, 149, 148, 147, 146, 145, 144, 143, 142, 141, 140, 139, 138, 137, 136, 135, 134, 133, 132, 131, 130, 129, 128, 127, 126, 125, 124, 123, 122, 121, 120, 119, 118, 117, 116, 115, 114, 113, 112, 111, 110])) (ACode.cond (Opd.tmp 199) (ACode.seq (ACode.clr [199, 13, 11, 9, 8, 7, 6, 5, 3, 0]) (ACode.seq (ACode.region [{ dst := (some 2), op := (AOp.move (Opd.cst (V.bool false))), guard := none }]) ACode.ret)) (ACode.seq (ACode.clr [199]) ACode.skip)))) (ACode.seq (ACode.region [{ dst := (some 108), op := (AOp.move (Opd.tmp 13)), guard := none }, { dst := (some 109), op := (AOp.bin BinOp.add (Opd.tmp 108) (Opd.cst (V.int IntKind.i64 1))), guard := none }, { dst := (some 13), op := (AOp.move (Opd.tmp 109)), guard := none }]) (ACode.clr [109, 108])))))
def lcB : ACode := (ACode.loop [] [] (ACode.seq (ACode.seq (ACode.seq (ACode.region [{ dst := (some 202), op := (AOp.move (Opd.tmp 14)), guard := none }, { dst := (some 203), op := (AOp.move (Opd.tmp 9)), guard := none }, { dst := (some 204), op := (AOp.lenS (Opd.tmp 203)), guard := none }, { dst := (some 205), op := (AOp.bin BinOp.lss (Opd.tmp 202) (Opd.tmp 204)), guard := none }]) (ACode.clr [204, 203, 202])) (ACode.cond (Opd.tmp 205) (ACode.seq (ACode.clr [205]) ACode.skip) (ACode.seq (ACode.clr [205, 14, 9]) (ACode.exit 7)))) (ACode.seq (ACode.block 8 (ACode.seq (ACode.seq (ACode.region [{ dst := (some 208), op := (AOp.move (Opd.tmp 9)), guard := none }, { dst := (some 209), op := (AOp.move (Opd.tmp 14)), guard := none }, { dst := (some 210), op := (AOp.iaddrS 101 (Opd.tmp 208) (Opd.tmp 209)), guard := none }, { dst := (some 211), op := (AOp.faddr 100 (Opd.tmp 210)), guard := none }, { dst := (some 212), op := (AOp.load none (Opd.tmp 211)), guard := none }, { dst := (some 213), op := (AOp.move (Opd.tmp 212)), guard := none }, { dst := (some 214), op := (AOp.move (Opd.tmp 9)), guard := (some (213, false)) }, { dst := (some 215), op := (AOp.move (Opd.tmp 14)), guard := (some (213, false)) }, { dst := (some 216), op := (AOp.iaddrS 101 (Opd.tmp 214) (Opd.tmp 215)), guard := (some (213, false)) }, { dst := (some 217), op := (AOp.faddr 0 (Opd.tmp 216)), guard := (some (213, false)) }, { dst := (some 218), op := (AOp.load (some 2) (Opd.tmp 217)), guard := (some (213, false)) }, { dst := (some 219), op := (AOp.faddr 3 (Opd.tmp 6)), guard := (some (213, false)) }, { dst := (some 220), op := (AOp.load (some 2) (Opd.tmp 219)), guard := (some (213, false)) }, { dst := (some 221), op := (AOp.eqc true true [(CK.i IntKind.i64), (CK.i IntKind.i64)] (Opd.tmp 218) (Opd.tmp 220)), guard := (some (213, false)) }, { dst := (some 222), op := (AOp.pick (Opd.tmp 213) (Opd.cst (V.bool true)) (Opd.tmp 221)), guard := none }, { dst := (some 223), op := (AOp.move (Opd.tmp 222)), guard := none }, { dst := (some 224), op := (AOp.faddr 0 (Opd.tmp 6)), guard := (some (223, false)) }, { dst := (some 225), op := (AOp.load none (Opd.tmp 224)), guard := (some (223, false)) }, { dst := (some 226), op := (AOp.bin BinOp.neq (Opd.tmp 225) (Opd.cst (V.int IntKind.i64 3))), guard := (some (223, false)) }, { dst := (some 227), op := (AOp.pick (Opd.tmp 223) (Opd.cst (V.bool true)) (Opd.tmp 226)), guard := none }]) (ACode.clr [226, 225, 224, 223, 222, 221, 220, 219, 218, 217, 216, 215, 214, 213, 212, 211, 210, 209, 208])) (ACode.cond (Opd.tmp 227) (ACode.seq (ACode.clr [227, 14, 9, 8, 7, 6, 5, 3, 0]) (ACode.seq (ACode.region [{ dst := (some 2), op := (AOp.move (Opd.cst (V.bool false))), guard := none }]) ACode.ret)) (ACode.seq (ACode.clr [227]) ACode.skip)))) (ACode.seq (ACode.region [{ dst := (some 206), op := (AOp.move (Opd.tmp 14)), guard := none }, { dst := (some 207), op := (AOp.bin BinOp.add (Opd.tmp 206) (Opd.cst (V.int IntKind.i64 1))), guard := none }, { dst := (some 14), op := (AOp.move (Opd.tmp 207)), guard := none }]) (ACode.clr [207, 206])))))
set_option maxHeartbeats 4000000 in
theorem lossA {E : Env} (hN : 5000 ≤ E.N) {v0 v3 v5 v6 v7 v8 : V} {H : Heap} {W1 W2 : V} {R1 R2 : List Nat} {a b : List Wr} (r1 : PRow H W1 a R1) (r2 : PRow H W2 b R2) (la : a.length ≤ 4096) (lb : b.length ≤ 4096)
    (hps : ∀ (k : Nat) (x : Wr), b[k]? = some x → x.ps = ((k + 1 : Nat) : Int))
    (hsame : ∀ (k : Nat) (x y : Wr), a[k]? = some x → b[k]? = some y → y.ps = x.ps ∧ y.b = x.b ∧ y.nd = x.nd ∧ y.ep = x.ep ∧ (x.du = true → y.du = true))
    (hch : ∀ (k : Nat) (x y : Wr), b[k]? = some x → b[k + 1]? = some y → x.du = false → y.du = false ∧ y.nd = x.nd ∧ y.ep = x.ep) {Q : Post}
    (hQ : Q .norm (fr 228 [(0, v0), (3, v3), (5, v5), (6, v6), (7, v7), (8, v8), (9, W1), (11, W2)]) H) :
    sx E lcA (fr 228 [(0, v0), (3, v3), (5, v5), (6, v6), (7, v7), (8, v8), (9, W1), (11, W2), (13, .int .i64 0)]) H (blkQ 5 Q) := by
  have l1 := r1.len
  have l2 := r2.len
  obtain ⟨w1, w2, w3, w4, w5, w6⟩ := r1.shape
  obtain ⟨v1, v2, v3', v4, v5', v6'⟩ := r2.shape
  unfold lcA
  refine sx_loop (fun i t h => t = fr 228 [(0, v0), (3, v3), (5, v5), (6, v6), (7, v7), (8, v8), (9, W1), (11, W2), (13, .int .i64 i)] ∧ i ≤ b.length ∧ h = H) 4096 (by omega) ⟨rfl, Nat.zero_le _, rfl⟩ ?_
  rintro i t h hi ⟨rfl, hib, rfl⟩
  by_cases hlt : i < b.length
  case neg =>
    have g1 : decide ((i : Int) < (b.length : Int)) = false := decide_eq_false (by omega)
    simp +contextual -implicitDefEqProofs (maxSteps := 10000000) only [sxb, plainD, stays, ↓selV_wt, ↓selV_wf, ↓impB_wt, ↓impB_wf, ↓selV_nor, ↓impB_nor, ↓selV_nt, ↓selV_nf, ↓impB_nt, ↓impB_nf, ↓selV_true, ↓selV_false, ↓selV_and, ↓impB_true, ↓impB_false, ↓impB_and, ↓prim_pick, ↓selV_nn, ↓impB_nn, doOp, get, ins, del, dels, Nat.reduceLT, Nat.reduceEqDiff, ↓reduceIte, reduceCtorEq, ne_eq, implies_true, prim, YLD, mkA, V.cells, Nat.reduceAdd, Nat.reduceSub, Nat.reduceMul, Nat.reduceLeDiff, loadA, cellsAt, nAg, packA, List.drop, List.take, List.head?, binA, unA, eqCells, eqCell, negB, fillA, storeA, Ob.with, indexedI, V.oneCell, intOf?, resA, resA1, packR, sealDepth, Int.reduceLT, Int.reduceLE, Int.reduceToNat, Int.reduceNeg, Int.reduceAdd, Int.reduceSub, Int.reduceMul, cond_true, cond_false, Int.reduceBNe, Int.reduceBEq, eq_self, deads, List.replicate, argsF, l2, g1]
    exact hQ
  have g1 : decide ((i : Int) < (b.length : Int)) = true := decide_eq_true (by omega)
  have hwr : IntKind.i64.wrap ((i : Int) + 1) = ((i + 1 : Nat) : Int) := (wrap64 (by omega) (by omega)).trans (by omega)
  have hy : b[i]? = some b[i] := List.getElem?_eq_getElem hlt
  generalize b[i] = y at hy
  obtain ⟨o2, ver2, rd2⟩ := r2.read (by intro e; rw [e] at hlt; simp at hlt)
  obtain ⟨yok, yi, yr⟩ := rd2 i y hy
  have y0 := (yr 0 2 (by decide)).trans (congrArg some y.c0)
  have y3 := (yr 3 1 (by decide)).trans (congrArg some y.c3)
  have yv := (yr 3 97 (by decide)).trans (congrArg some (Wr.cv yok))
  have yd := (yr 100 1 (by decide)).trans (congrArg some (Wr.cd yok))
  have yps := hps i y hy
  rw [Nat.add_zero] at y0
  rw [yps] at y3 yv
  have eq96 : eqCells [.i .u8, .i .u8, .i .u8, .i .u8, .i .u8, .i .u8, .i .u8, .i .u8, .i .u8, .i .u8, .i .u8, .i .u8, .i .u8, .i .u8, .i .u8, .i .u8, .i .u8, .i .u8, .i .u8, .i .u8, .i .u8, .i .u8, .i .u8, .i .u8, .i .u8, .i .u8, .i .u8, .i .u8, .i .u8, .i .u8, .i .u8, .i .u8, .i .u8, .i .u8, .i .u8, .i .u8, .i .u8, .i .u8, .i .u8, .i .u8, .i .u8, .i .u8, .i .u8, .i .u8, .i .u8, .i .u8, .i .u8, .i .u8, .i .u8, .i .u8, .i .u8, .i .u8, .i .u8, .i .u8, .i .u8, .i .u8, .i .u8, .i .u8, .i .u8, .i .u8, .i .u8, .i .u8, .i .u8, .i .u8, .i .u8, .i .u8, .i .u8, .i .u8, .i .u8, .i .u8, .i .u8, .i .u8, .i .u8, .i .u8, .i .u8, .i .u8, .i .u8, .i .u8, .i .u8, .i .u8, .i .u8, .i .u8, .i .u8, .i .u8, .i .u8, .i .u8, .i .u8, .i .u8, .i .u8, .i .u8, .i .u8, .i .u8, .i .u8, .i .u8, .i .u8, .i .u8] (y.b.map (V.int .u8)) (y.b.map (V.int .u8)) = some true := by
    have := @eqCells_ints .u8 96 y.b y.b yok yok
    simpa using this
  have hi1 : i + 1 ≤ b.length := hlt
  have hi4 : i < 4096 := by omega
  by_cases hi0 : i = 0
  case pos =>
    have g3 : decide ((i : Int) > 0) = false := decide_eq_false (by omega)
    by_cases hia : i < a.length
    case neg =>
      have g2 : decide ((i : Int) < (a.length : Int)) = false := decide_eq_false (by omega)
      simp +contextual -implicitDefEqProofs (maxSteps := 10000000) only [sxb, plainD, stays, ↓selV_wt, ↓selV_wf, ↓impB_wt, ↓impB_wf, ↓selV_nor, ↓impB_nor, ↓selV_nt, ↓selV_nf, ↓impB_nt, ↓impB_nf, ↓selV_true, ↓selV_false, ↓selV_and, ↓impB_true, ↓impB_false, ↓impB_and, ↓prim_pick, ↓selV_nn, ↓impB_nn, doOp, get, ins, del, dels, Nat.reduceLT, Nat.reduceEqDiff, ↓reduceIte, reduceCtorEq, ne_eq, implies_true, prim, YLD, mkA, V.cells, Nat.reduceAdd, Nat.reduceSub, Nat.reduceMul, Nat.reduceLeDiff, loadA, cellsAt, nAg, packA, List.drop, List.take, List.head?, binA, unA, eqCells, eqCell, negB, fillA, storeA, Ob.with, indexedI, V.oneCell, intOf?, resA, resA1, packR, sealDepth, Int.reduceLT, Int.reduceLE, Int.reduceToNat, Int.reduceNeg, Int.reduceAdd, Int.reduceSub, Int.reduceMul, cond_true, cond_false, Int.reduceBNe, Int.reduceBEq, eq_self, deads, List.replicate, argsF, l1, l2, g1, g2, g3, hwr, yi, y0, y3, yv, yd, yps, w1, v1, bne_self_eq_false, hi1, hi4, hlt, -loadA]
    case pos =>
      have g2 : decide ((i : Int) < (a.length : Int)) = true := decide_eq_true (by omega)
      have hx : a[i]? = some a[i] := List.getElem?_eq_getElem hia
      generalize a[i] = x at hx
      obtain ⟨o1, ver1, rd1⟩ := r1.read (by intro e; rw [e] at hia; simp at hia)
      obtain ⟨xok, xi, xr⟩ := rd1 i x hx
      obtain ⟨e1, e2, e3, e4, e5⟩ := hsame i x y hx hy
      have x0 := (xr 0 2 (by decide)).trans (congrArg some x.c0)
      have xv := (xr 3 97 (by decide)).trans (congrArg some (Wr.cv xok))
      have xd := (xr 100 1 (by decide)).trans (congrArg some (Wr.cd xok))
      rw [Nat.add_zero, ← e3, ← e4] at x0
      rw [← e1, ← e2, yps] at xv
      cases hxd : x.du with
      | true =>
        rw [hxd] at xd
        rw [e5 hxd] at yd
        simp +contextual -implicitDefEqProofs (maxSteps := 10000000) only [sxb, plainD, stays, ↓selV_wt, ↓selV_wf, ↓impB_wt, ↓impB_wf, ↓selV_nor, ↓impB_nor, ↓selV_nt, ↓selV_nf, ↓impB_nt, ↓impB_nf, ↓selV_true, ↓selV_false, ↓selV_and, ↓impB_true, ↓impB_false, ↓impB_and, ↓prim_pick, ↓selV_nn, ↓impB_nn, doOp, get, ins, del, dels, Nat.reduceLT, Nat.reduceEqDiff, ↓reduceIte, reduceCtorEq, ne_eq, implies_true, prim, YLD, mkA, V.cells, Nat.reduceAdd, Nat.reduceSub, Nat.reduceMul, Nat.reduceLeDiff, loadA, cellsAt, nAg, packA, List.drop, List.take, List.head?, binA, unA, eqCells, eqCell, negB, fillA, storeA, Ob.with, indexedI, V.oneCell, intOf?, resA, resA1, packR, sealDepth, Int.reduceLT, Int.reduceLE, Int.reduceToNat, Int.reduceNeg, Int.reduceAdd, Int.reduceSub, Int.reduceMul, cond_true, cond_false, Int.reduceBNe, Int.reduceBEq, eq_self, deads, List.replicate, argsF, l1, l2, g1, g2, g3, hwr, yi, y0, y3, yv, yd, xi, x0, xv, xd, w1, v1, eqCells, eqCell, eq96, bne_self_eq_false, beq_self_eq_true, hi1, hi4, hlt, -loadA]
      | false =>
        rw [hxd] at xd
        simp +contextual -implicitDefEqProofs (maxSteps := 10000000) only [sxb, plainD, stays, ↓selV_wt, ↓selV_wf, ↓impB_wt, ↓impB_wf, ↓selV_nor, ↓impB_nor, ↓selV_nt, ↓selV_nf, ↓impB_nt, ↓impB_nf, ↓selV_true, ↓selV_false, ↓selV_and, ↓impB_true, ↓impB_false, ↓impB_and, ↓prim_pick, ↓selV_nn, ↓impB_nn, doOp, get, ins, del, dels, Nat.reduceLT, Nat.reduceEqDiff, ↓reduceIte, reduceCtorEq, ne_eq, implies_true, prim, YLD, mkA, V.cells, Nat.reduceAdd, Nat.reduceSub, Nat.reduceMul, Nat.reduceLeDiff, loadA, cellsAt, nAg, packA, List.drop, List.take, List.head?, binA, unA, eqCells, eqCell, negB, fillA, storeA, Ob.with, indexedI, V.oneCell, intOf?, resA, resA1, packR, sealDepth, Int.reduceLT, Int.reduceLE, Int.reduceToNat, Int.reduceNeg, Int.reduceAdd, Int.reduceSub, Int.reduceMul, cond_true, cond_false, Int.reduceBNe, Int.reduceBEq, eq_self, deads, List.replicate, argsF, l1, l2, g1, g2, g3, hwr, yi, y0, y3, yv, yd, xi, x0, xv, xd, w1, v1, eqCells, eqCell, eq96, bne_self_eq_false, beq_self_eq_true, hi1, hi4, hlt, -loadA]
  case neg =>
    have g3 : decide ((i : Int) > 0) = true := decide_eq_true (by omega)
    have hwm : IntKind.i64.wrap ((i : Int) - 1) = ((i - 1 : Nat) : Int) := (wrap64 (by omega) (by omega)).trans (by omega)
    have hz : b[i - 1]? = some (b[i - 1]'(by omega)) := List.getElem?_eq_getElem (by omega)
    generalize b[i - 1]'(by omega) = z at hz
    obtain ⟨zok, zi, zr⟩ := rd2 (i - 1) z hz
    have z0 := (zr 0 2 (by decide)).trans (congrArg some z.c0)
    have zd := (zr 100 1 (by decide)).trans (congrArg some (Wr.cd zok))
    rw [Nat.add_zero] at z0
    have hc := hch (i - 1) z y hz (by rw [show i - 1 + 1 = i by omega]; exact hy)
    obtain ⟨cz, hcz⟩ : ∃ cz, z.du = cz := ⟨_, rfl⟩
    rw [hcz] at zd hc
    have hc' : cz = false → y.du = false ∧ y.nd = z.nd ∧ y.ep = z.ep := hc
    by_cases hia : i < a.length
    case neg =>
      have g2 : decide ((i : Int) < (a.length : Int)) = false := decide_eq_false (by omega)
      cases cz with
      | true => simp +contextual -implicitDefEqProofs (maxSteps := 10000000) only [sxb, plainD, stays, ↓selV_wt, ↓selV_wf, ↓impB_wt, ↓impB_wf, ↓selV_nor, ↓impB_nor, ↓selV_nt, ↓selV_nf, ↓impB_nt, ↓impB_nf, ↓selV_true, ↓selV_false, ↓selV_and, ↓impB_true, ↓impB_false, ↓impB_and, ↓prim_pick, ↓selV_nn, ↓impB_nn, doOp, get, ins, del, dels, Nat.reduceLT, Nat.reduceEqDiff, ↓reduceIte, reduceCtorEq, ne_eq, implies_true, prim, YLD, mkA, V.cells, Nat.reduceAdd, Nat.reduceSub, Nat.reduceMul, Nat.reduceLeDiff, loadA, cellsAt, nAg, packA, List.drop, List.take, List.head?, binA, unA, eqCells, eqCell, negB, fillA, storeA, Ob.with, indexedI, V.oneCell, intOf?, resA, resA1, packR, sealDepth, Int.reduceLT, Int.reduceLE, Int.reduceToNat, Int.reduceNeg, Int.reduceAdd, Int.reduceSub, Int.reduceMul, cond_true, cond_false, Int.reduceBNe, Int.reduceBEq, eq_self, deads, List.replicate, argsF, l1, l2, g1, g2, g3, hwr, hwm, yi, y0, y3, yv, yd, zi, z0, zd, w1, v1, bne_self_eq_false, hi1, hi4, hlt, -loadA]
      | false =>
        obtain ⟨q1, q2, q3⟩ := hc' rfl
        rw [q1] at yd
        rw [q2, q3] at y0
        simp +contextual -implicitDefEqProofs (maxSteps := 10000000) only [sxb, plainD, stays, ↓selV_wt, ↓selV_wf, ↓impB_wt, ↓impB_wf, ↓selV_nor, ↓impB_nor, ↓selV_nt, ↓selV_nf, ↓impB_nt, ↓impB_nf, ↓selV_true, ↓selV_false, ↓selV_and, ↓impB_true, ↓impB_false, ↓impB_and, ↓prim_pick, ↓selV_nn, ↓impB_nn, doOp, get, ins, del, dels, Nat.reduceLT, Nat.reduceEqDiff, ↓reduceIte, reduceCtorEq, ne_eq, implies_true, prim, YLD, mkA, V.cells, Nat.reduceAdd, Nat.reduceSub, Nat.reduceMul, Nat.reduceLeDiff, loadA, cellsAt, nAg, packA, List.drop, List.take, List.head?, binA, unA, eqCells, eqCell, negB, fillA, storeA, Ob.with, indexedI, V.oneCell, intOf?, resA, resA1, packR, sealDepth, Int.reduceLT, Int.reduceLE, Int.reduceToNat, Int.reduceNeg, Int.reduceAdd, Int.reduceSub, Int.reduceMul, cond_true, cond_false, Int.reduceBNe, Int.reduceBEq, eq_self, deads, List.replicate, argsF, l1, l2, g1, g2, g3, hwr, hwm, yi, y0, y3, yv, yd, zi, z0, zd, w1, v1, bne_self_eq_false, beq_self_eq_true, eqCells, eqCell, hi1, hi4, hlt, -loadA]
    case pos =>
      have g2 : decide ((i : Int) < (a.length : Int)) = true := decide_eq_true (by omega)
      have hx : a[i]? = some a[i] := List.getElem?_eq_getElem hia
      generalize a[i] = x at hx
      obtain ⟨o1, ver1, rd1⟩ := r1.read (by intro e; rw [e] at hia; simp at hia)
      obtain ⟨xok, xi, xr⟩ := rd1 i x hx
      obtain ⟨e1, e2, e3, e4, e5⟩ := hsame i x y hx hy
      have x0 := (xr 0 2 (by decide)).trans (congrArg some x.c0)
      have xv := (xr 3 97 (by decide)).trans (congrArg some (Wr.cv xok))
      have xd := (xr 100 1 (by decide)).trans (congrArg some (Wr.cd xok))
      rw [Nat.add_zero, ← e3, ← e4] at x0
      rw [← e1, ← e2, yps] at xv
      cases cz with
      | true =>
        cases hxd : x.du with
        | true =>
          rw [hxd] at xd
          rw [e5 hxd] at yd
          simp +contextual -implicitDefEqProofs (maxSteps := 10000000) only [sxb, plainD, stays, ↓selV_wt, ↓selV_wf, ↓impB_wt, ↓impB_wf, ↓selV_nor, ↓impB_nor, ↓selV_nt, ↓selV_nf, ↓impB_nt, ↓impB_nf, ↓selV_true, ↓selV_false, ↓selV_and, ↓impB_true, ↓impB_false, ↓impB_and, ↓prim_pick, ↓selV_nn, ↓impB_nn, doOp, get, ins, del, dels, Nat.reduceLT, Nat.reduceEqDiff, ↓reduceIte, reduceCtorEq, ne_eq, implies_true, prim, YLD, mkA, V.cells, Nat.reduceAdd, Nat.reduceSub, Nat.reduceMul, Nat.reduceLeDiff, loadA, cellsAt, nAg, packA, List.drop, List.take, List.head?, binA, unA, eqCells, eqCell, negB, fillA, storeA, Ob.with, indexedI, V.oneCell, intOf?, resA, resA1, packR, sealDepth, Int.reduceLT, Int.reduceLE, Int.reduceToNat, Int.reduceNeg, Int.reduceAdd, Int.reduceSub, Int.reduceMul, cond_true, cond_false, Int.reduceBNe, Int.reduceBEq, eq_self, deads, List.replicate, argsF, l1, l2, g1, g2, g3, hwr, hwm, yi, y0, y3, yv, yd, xi, x0, xv, xd, zi, z0, zd, w1, v1, eqCells, eqCell, eq96, bne_self_eq_false, beq_self_eq_true, hi1, hi4, hlt, -loadA]
        | false =>
          rw [hxd] at xd
          simp +contextual -implicitDefEqProofs (maxSteps := 10000000) only [sxb, plainD, stays, ↓selV_wt, ↓selV_wf, ↓impB_wt, ↓impB_wf, ↓selV_nor, ↓impB_nor, ↓selV_nt, ↓selV_nf, ↓impB_nt, ↓impB_nf, ↓selV_true, ↓selV_false, ↓selV_and, ↓impB_true, ↓impB_false, ↓impB_and, ↓prim_pick, ↓selV_nn, ↓impB_nn, doOp, get, ins, del, dels, Nat.reduceLT, Nat.reduceEqDiff, ↓reduceIte, reduceCtorEq, ne_eq, implies_true, prim, YLD, mkA, V.cells, Nat.reduceAdd, Nat.reduceSub, Nat.reduceMul, Nat.reduceLeDiff, loadA, cellsAt, nAg, packA, List.drop, List.take, List.head?, binA, unA, eqCells, eqCell, negB, fillA, storeA, Ob.with, indexedI, V.oneCell, intOf?, resA, resA1, packR, sealDepth, Int.reduceLT, Int.reduceLE, Int.reduceToNat, Int.reduceNeg, Int.reduceAdd, Int.reduceSub, Int.reduceMul, cond_true, cond_false, Int.reduceBNe, Int.reduceBEq, eq_self, deads, List.replicate, argsF, l1, l2, g1, g2, g3, hwr, hwm, yi, y0, y3, yv, yd, xi, x0, xv, xd, zi, z0, zd, w1, v1, eqCells, eqCell, eq96, bne_self_eq_false, beq_self_eq_true, hi1, hi4, hlt, -loadA]
      | false =>
        obtain ⟨q1, q2, q3⟩ := hc' rfl
        have hxd : x.du = false := by
          cases hxd : x.du with
          | false => rfl
          | true => rw [e5 hxd] at q1; cases q1
        rw [hxd] at xd
        rw [q1] at yd
        rw [q2, q3] at y0 x0
        simp +contextual -implicitDefEqProofs (maxSteps := 10000000) only [sxb, plainD, stays, ↓selV_wt, ↓selV_wf, ↓impB_wt, ↓impB_wf, ↓selV_nor, ↓impB_nor, ↓selV_nt, ↓selV_nf, ↓impB_nt, ↓impB_nf, ↓selV_true, ↓selV_false, ↓selV_and, ↓impB_true, ↓impB_false, ↓impB_and, ↓prim_pick, ↓selV_nn, ↓impB_nn, doOp, get, ins, del, dels, Nat.reduceLT, Nat.reduceEqDiff, ↓reduceIte, reduceCtorEq, ne_eq, implies_true, prim, YLD, mkA, V.cells, Nat.reduceAdd, Nat.reduceSub, Nat.reduceMul, Nat.reduceLeDiff, loadA, cellsAt, nAg, packA, List.drop, List.take, List.head?, binA, unA, eqCells, eqCell, negB, fillA, storeA, Ob.with, indexedI, V.oneCell, intOf?, resA, resA1, packR, sealDepth, Int.reduceLT, Int.reduceLE, Int.reduceToNat, Int.reduceNeg, Int.reduceAdd, Int.reduceSub, Int.reduceMul, cond_true, cond_false, Int.reduceBNe, Int.reduceBEq, eq_self, deads, List.replicate, argsF, l1, l2, g1, g2, g3, hwr, hwm, yi, y0, y3, yv, yd, xi, x0, xv, xd, zi, z0, zd, w1, v1, eqCells, eqCell, eq96, bne_self_eq_false, beq_self_eq_true, hi1, hi4, hlt, -loadA]
theorem lossB {E : Env} (hN : 5000 ≤ E.N) {v0 v3 v5 v7 v8 : V} {sv : Nat} {x1 x2 x4 x5 x6 x8 : List V} {H : Heap} {W1 : V} {R1 : List Nat} {a : List Wr} {lb : Nat} (r1 : PRow H W1 a R1) (la : a.length ≤ 4096) (llb : lb ≤ 4096)
    {so : Nat} {kind pg n nd ep : Int} {B : List V} (hs : H[so]? = some ⟨sv, .var (.int .i64 kind :: .int .i64 pg :: .int .i64 n :: .int .i64 nd :: .int .i64 ep :: B)⟩)
    (hB : ∀ (k : Nat) (x : Wr), lb ≤ k → a[k]? = some x → x.du = false ∧ x.nd = nd ∧ x.ep = ep ∧ kind = 3) {Q : Post}
    (hQ : Q .norm (fr 228 [(0, v0), (3, v3), (5, v5), (6, .ptr so sv 0), (7, v7), (8, v8)]) H) :
    sx E lcB (fr 228 [(0, v0), (3, v3), (5, v5), (6, .ptr so sv 0), (7, v7), (8, v8), (9, W1), (14, .int .i64 (lb : Int))]) H (blkQ 7 Q) := by
  have l1 := r1.len
  obtain ⟨w1, w2, w3, w4, w5, w6⟩ := r1.shape
  unfold lcB
  refine sx_loop (fun i t h => t = fr 228 [(0, v0), (3, v3), (5, v5), (6, .ptr so sv 0), (7, v7), (8, v8), (9, W1), (14, .int .i64 ((lb + i : Nat) : Int))] ∧ (i = 0 ∨ lb + i ≤ a.length) ∧ h = H) 4097 (by omega) ⟨rfl, .inl rfl, rfl⟩ ?_
  rintro i t h hi ⟨rfl, hib, rfl⟩
  by_cases hlt : lb + i < a.length
  case neg =>
    have g1 : decide (((lb + i : Nat) : Int) < (a.length : Int)) = false := decide_eq_false (by omega)
    simp +contextual -implicitDefEqProofs (maxSteps := 10000000) only [sxb, plainD, stays, ↓selV_wt, ↓selV_wf, ↓impB_wt, ↓impB_wf, ↓selV_nor, ↓impB_nor, ↓selV_nt, ↓selV_nf, ↓impB_nt, ↓impB_nf, ↓selV_true, ↓selV_false, ↓selV_and, ↓impB_true, ↓impB_false, ↓impB_and, ↓prim_pick, ↓selV_nn, ↓impB_nn, doOp, get, ins, del, dels, Nat.reduceLT, Nat.reduceEqDiff, ↓reduceIte, reduceCtorEq, ne_eq, implies_true, prim, YLD, mkA, V.cells, Nat.reduceAdd, Nat.reduceSub, Nat.reduceMul, Nat.reduceLeDiff, loadA, cellsAt, nAg, packA, List.drop, List.take, List.head?, binA, unA, eqCells, eqCell, negB, fillA, storeA, Ob.with, indexedI, V.oneCell, intOf?, resA, resA1, packR, sealDepth, Int.reduceLT, Int.reduceLE, Int.reduceToNat, Int.reduceNeg, Int.reduceAdd, Int.reduceSub, Int.reduceMul, cond_true, cond_false, Int.reduceBNe, Int.reduceBEq, eq_self, deads, List.replicate, argsF, l1, g1]
    exact hQ
  have g1 : decide (((lb + i : Nat) : Int) < (a.length : Int)) = true := decide_eq_true (by omega)
  have hwr : IntKind.i64.wrap (((lb + i : Nat) : Int) + 1) = ((lb + (i + 1) : Nat) : Int) := (wrap64 (by omega) (by omega)).trans (by omega)
  have hx : a[lb + i]? = some a[lb + i] := List.getElem?_eq_getElem hlt
  generalize a[lb + i] = x at hx
  obtain ⟨o1, ver1, rd1⟩ := r1.read (by intro e; rw [e] at hlt; simp at hlt)
  obtain ⟨xok, xi, xr⟩ := rd1 (lb + i) x hx
  obtain ⟨e1, e2, e3, e4⟩ := hB (lb + i) x (by omega) hx
  have x0 := (xr 0 2 (by decide)).trans (congrArg some x.c0)
  have xd := (xr 100 1 (by decide)).trans (congrArg some (Wr.cd xok))
  rw [Nat.add_zero, e2, e3] at x0
  rw [e1] at xd
  have s3 : loadA (fun o => h[o]?) 2 (.ptr so sv 3) = some [.int .i64 nd, .int .i64 ep] := by
    simp [loadA, cellsAt, hs]
  have s0 : loadA (fun o => h[o]?) 1 (.ptr so sv 0) = some [.int .i64 3] := by
    simp [loadA, cellsAt, hs, e4]
  have hi1 : lb + (i + 1) ≤ a.length := hlt
  have hi2 : i < 4097 := by omega
  generalize hkk : lb + i = kk at *
  simp +contextual -implicitDefEqProofs (maxSteps := 10000000) only [sxb, plainD, stays, ↓selV_wt, ↓selV_wf, ↓impB_wt, ↓impB_wf, ↓selV_nor, ↓impB_nor, ↓selV_nt, ↓selV_nf, ↓impB_nt, ↓impB_nf, ↓selV_true, ↓selV_false, ↓selV_and, ↓impB_true, ↓impB_false, ↓impB_and, ↓prim_pick, ↓selV_nn, ↓impB_nn, doOp, get, ins, del, dels, Nat.reduceLT, Nat.reduceEqDiff, ↓reduceIte, reduceCtorEq, ne_eq, implies_true, prim, YLD, mkA, V.cells, Nat.reduceAdd, Nat.reduceSub, Nat.reduceMul, Nat.reduceLeDiff, loadA, cellsAt, nAg, packA, List.drop, List.take, List.head?, binA, unA, eqCells, eqCell, negB, fillA, storeA, Ob.with, indexedI, V.oneCell, intOf?, resA, resA1, packR, sealDepth, Int.reduceLT, Int.reduceLE, Int.reduceToNat, Int.reduceNeg, Int.reduceAdd, Int.reduceSub, Int.reduceMul, cond_true, cond_false, Int.reduceBNe, Int.reduceBEq, eq_self, deads, List.replicate, argsF, l1, g1, hwr, xi, x0, xd, s3, s0, w1, eqCells, eqCell, bne_self_eq_false, beq_self_eq_true, hi1, hi2, or_true, -loadA]
end Go.Am.T


set_option linter.unusedVariables false
set_option linter.unusedSimpArgs false
set_option linter.unusedSectionVars false
set_option maxRecDepth 10000
namespace Go.Am.T
def opW (nn : Int) (L : List Wr) (w : Int × Int) (p : Int) (B : List Int) : (Int × Int) × List Wr :=
  if badA nn w p 0 = true then ((0, 2), L)
  else if (whoseW (pgOf L p)).2 = true ∧ (whoseW (pgOf L p)).1 ≠ w then ((0, 11), L)
  else if (pgOf L p).length = 4096 then ((0, 5), L)
  else ((((pgOf L p).length + 1 : Nat), 0), L ++ [⟨w.1, w.2, p, ((pgOf L p).length + 1 : Nat), B, false⟩])
def opD (nn : Int) (L : List Wr) (w : Int × Int) (k : Int) : (Int × Int) × List Wr :=
  if badA nn w 0 k = true then ((0, 2), L) else (((min k.toNat (plOf w [] L).length : Nat), 0), dur w k.toNat L)
def opL (nn : Int) (L : List Wr) (w : Int × Int) (k : Int) : (Int × Int) × List Wr :=
  if badA nn w 0 k = true then ((0, 2), L) else ((((plOf w [] L).length - min k.toNat (plOf w [] L).length : Nat), 0), los w (dur w k.toNat L))
structure Md (H : Heap) (a m : Nat) (nn : Int) (L : List Wr) (Q : List Pg) (O : List Od) : Prop where
  at_ : MdAt H a m nn Q O
  ab : Ab nn L Q O
  n1 : 1 ≤ nn
  n16 : nn ≤ 16
theorem badA_k {nn : Int} {w : Int × Int} {p k : Int} (h : badA nn w p k = false) : 0 ≤ k ∧ 0 ≤ p ∧ p < nn := by
  unfold badA at h
  simp only [Bool.or_eq_false_iff, decide_eq_false_iff_not] at h
  omega
theorem pgOf_len (L : List Wr) (p : Int) : (pgOf L p).length ≤ L.length := List.length_filter_le _ _
theorem Md.page {H : Heap} {a m : Nat} {nn : Int} {L : List Wr} {Q : List Pg} {O : List Od} (h : Md H a m nn L Q O) {p : Nat} (hp : p < 16) : ∃ q, Q[p]? = some q ∧ q.l = pgOf L p := by
  have hq := List.getElem?_eq_getElem (show p < Q.length by rw [h.at_.q16]; exact hp)
  exact ⟨_, hq, h.ab.pg p _ hq⟩
theorem write_md {N n : Nat} (hN : 5000 ≤ N) (hn : 8 ≤ n) {H : Heap} {a m : Nat} {nn : Int} {L : List Wr} {Q : List Pg} {O : List Od} (h : Md H a m nn L Q O) (hL : L.length ≤ 4096) (w : Int × Int) (p : Int) {B : List Int} (hB : B.length = 96) :
    ∃ H' Q' O', callA am N n 11 [.ptr a 1 0, .agg (pcs w), .int .i64 p, .agg (B.map (V.int .u8))] H = some (.tup [.int .i64 (opW nn L w p B).1.1, .int .i64 (opW nn L w p B).1.2], H') ∧ Md H' a m nn (opW nn L w p B).2 Q' O' ∧ Bey H H' a m Q Q' O O' := by
  unfold opW
  by_cases hb : badA nn w p 0 = true
  · obtain ⟨v', H', c, rfl, tl, rfl⟩ := @write_bad N n (by omega) H a m nn Q O h.at_ h.n1 w p hb (B.map (V.int .u8))
    rw [if_pos hb]
    exact ⟨_, Q, O, c, ⟨h.at_.app _, h.ab, h.n1, h.n16⟩, Bey.app _⟩
  · rw [if_neg hb]
    have hb : badA nn w p 0 = false := by simpa using hb
    obtain ⟨-, p0, pn⟩ := badA_k hb
    obtain ⟨p, rfl⟩ : ∃ p' : Nat, p = (p' : Int) := ⟨p.toNat, by omega⟩
    have n16 := h.n16
    obtain ⟨q, hq, hql⟩ := h.page (p := p) (by omega)
    have hplen := pgOf_len L p
    have hol := plOf_len w L []
    obtain ⟨v', H', c, hc⟩ := @write_spec N n hN hn H a m nn Q O h.at_ h.n1 w p hb q hq (by rw [hql]; omega) B hB (by rw [h.ab.od w]; omega)
    rw [← hql]
    rcases hc with ⟨c1, c2, rfl, M, B1⟩ | ⟨c1, c2, rfl, M, B1⟩ | ⟨c1, c2, rfl, W', R', W2, R2, M, B1⟩
    · rw [if_pos ⟨c1, c2⟩]
      exact ⟨_, Q, O, c, ⟨M, h.ab, h.n1, h.n16⟩, B1⟩
    · rw [if_neg c1, if_pos c2]
      exact ⟨_, Q, O, c, ⟨M, h.ab, h.n1, h.n16⟩, B1⟩
    · rw [if_neg c1, if_neg (by omega)]
      exact ⟨_, _, _, c, ⟨M, h.ab.write hq pn hB c1 W' R' W2 R2, h.n1, h.n16⟩, B1⟩
theorem durable_md {N n : Nat} (hN : 5000 ≤ N) (hn : 8 ≤ n) {H : Heap} {a m : Nat} {nn : Int} {L : List Wr} {Q : List Pg} {O : List Od} (h : Md H a m nn L Q O) (hL : L.length ≤ 4096) (w : Int × Int) (k : Int) :
    ∃ H' Q' O', callA am N n 12 [.ptr a 1 0, .agg (pcs w), .int .i64 k] H = some (.tup [.int .i64 (opD nn L w k).1.1, .int .i64 (opD nn L w k).1.2], H') ∧ Md H' a m nn (opD nn L w k).2 Q' O' ∧ Bey H H' a m Q Q' O O' := by
  unfold opD
  by_cases hb : badA nn w 0 k = true
  · obtain ⟨v', H', c, rfl, tl, rfl⟩ := @durable_bad N n (by omega) H a m nn Q O h.at_ h.n1 w k hb
    rw [if_pos hb]
    exact ⟨_, Q, O, c, ⟨h.at_.app _, h.ab, h.n1, h.n16⟩, Bey.app _⟩
  · rw [if_neg hb]
    have hb : badA nn w 0 k = false := by simpa using hb
    obtain ⟨k0, -, -⟩ := badA_k hb
    obtain ⟨k, rfl⟩ : ∃ k' : Nat, k = (k' : Int) := ⟨k.toNat, by omega⟩
    have hol := plOf_len w L []
    obtain ⟨v', H', c, rfl, W', M, B1⟩ := @durable_spec N n hN (by omega) H a m nn Q O h.at_ h.n1 w k hb (h.ab.valid h.at_.q16 h.n16 w) (by rw [h.ab.od w]; omega)
    simp only [Int.toNat_natCast]
    rw [h.ab.od w] at c
    exact ⟨_, _, _, c, ⟨M, h.ab.dur w k W', h.n1, h.n16⟩, B1⟩
theorem lose_md {N n : Nat} (hN : 5000 ≤ N) (hn : 8 ≤ n) {H : Heap} {a m : Nat} {nn : Int} {L : List Wr} {Q : List Pg} {O : List Od} (h : Md H a m nn L Q O) (hL : L.length ≤ 4096) (w : Int × Int) (k : Int) :
    ∃ H' Q' O', callA am N n 13 [.ptr a 1 0, .agg (pcs w), .int .i64 k] H = some (.tup [.int .i64 (opL nn L w k).1.1, .int .i64 (opL nn L w k).1.2], H') ∧ Md H' a m nn (opL nn L w k).2 Q' O' ∧ Bey H H' a m Q Q' O O' := by
  unfold opL
  by_cases hb : badA nn w 0 k = true
  · obtain ⟨v', H', c, rfl, tl, rfl⟩ := @lose_bad N n (by omega) H a m nn Q O h.at_ h.n1 w k hb
    rw [if_pos hb]
    exact ⟨_, Q, O, c, ⟨h.at_.app _, h.ab, h.n1, h.n16⟩, Bey.app _⟩
  · rw [if_neg hb]
    have hb : badA nn w 0 k = false := by simpa using hb
    obtain ⟨k0, -, -⟩ := badA_k hb
    obtain ⟨k, rfl⟩ : ∃ k' : Nat, k = (k' : Int) := ⟨k.toNat, by omega⟩
    have hol := plOf_len w L []
    obtain ⟨v', H', c, rfl, M, B1⟩ := @lose_spec N n hN (by omega) H a m nn Q O h.at_ h.n1 w k hb (h.ab.valid h.at_.q16 h.n16 w) (by rw [h.ab.od w]; omega)
    simp only [Int.toNat_natCast]
    rw [h.ab.od w] at c
    exact ⟨_, _, _, c, ⟨M, h.ab.los w k, h.n1, h.n16⟩, B1⟩
theorem copy_md {N n : Nat} (hN : 5000 ≤ N) (hn : 8 ≤ n) {H : Heap} {a m : Nat} {nn : Int} {L : List Wr} {Q : List Pg} {O : List Od} (h : Md H a m nn L Q O) (hL : L.length ≤ 4096) :
    ∃ tl Q' O', callA am N n 10 [.ptr a 1 0] H = some (.ptr (H.length + 1) 1 0, H ++ tl) ∧ Md (H ++ tl) (H.length + 1) H.length nn L Q' O' ∧ ∀ x, Own (H.length + 1) H.length Q' O' x → H.length ≤ x := by
  obtain ⟨v', H', c, tl, Q', O', rfl, rfl, M, e1, rfl, own⟩ := @copy_spec N n hN (by omega) H a m nn Q O h.at_ h.n1 (fun q hq => by
    obtain ⟨p, hp⟩ := List.getElem?_of_mem hq
    have := pgOf_len L p
    rw [h.ab.pg p q hp]; omega) (fun o ho => ⟨h.ab.ne o ho, by
    have e : o.l = ordOf O o.w := by
      obtain ⟨i, hi⟩ := List.getElem?_of_mem ho
      unfold ordOf
      cases hf : O.find? (fun x => o.w == x.w) with
      | none =>
        rw [List.find?_eq_none] at hf
        exact absurd (hf o ho) (by simp)
      | some r =>
        have hr := List.mem_of_find?_eq_some hf
        have hw := List.find?_some hf
        obtain ⟨j, hj⟩ := List.getElem?_of_mem hr
        have := same_od h.at_.ks hi hj (by simpa using hw)
        subst this
        rw [hi] at hj
        cases hj
        rfl
    have hol := plOf_len o.w L []
    rw [e, h.ab.od]; omega⟩)
  exact ⟨tl, Q', _, c, ⟨M, h.ab.copy e1 _, h.n1, h.n16⟩, own⟩
theorem Md.app {H : Heap} {a m : Nat} {nn : Int} {L : List Wr} {Q : List Pg} {O : List Od} (h : Md H a m nn L Q O) (l : Heap) : Md (H ++ l) a m nn L Q O := ⟨h.at_.app l, h.ab, h.n1, h.n16⟩
theorem Md.set {H : Heap} {a m : Nat} {nn : Int} {L : List Wr} {Q : List Pg} {O : List Od} (h : Md H a m nn L Q O) {o : Nat} (y : Ob) (ho : ¬ Own a m Q O o) : Md (H.set o y) a m nn L Q O := ⟨h.at_.set y ho, h.ab, h.n1, h.n16⟩
theorem Md.keep {H H' : Heap} {a m : Nat} {nn : Int} {L : List Wr} {Q : List Pg} {O : List Od} (h : Md H a m nn L Q O) (hk : ∀ x, Own a m Q O x → H'[x]? = H[x]?) : Md H' a m nn L Q O := ⟨h.at_.keep hk, h.ab, h.n1, h.n16⟩
structure Went (kind : Int) (w : Int × Int) (a b : List Wr) : Prop where
  same : ∀ (k : Nat) (x y : Wr), a[k]? = some x → b[k]? = some y → y.ps = x.ps ∧ y.b = x.b ∧ y.nd = x.nd ∧ y.ep = x.ep ∧ (x.du = true → y.du = true)
  gone : ∀ (k : Nat) (x : Wr), b.length ≤ k → a[k]? = some x → x.du = false ∧ x.nd = w.1 ∧ x.ep = w.2 ∧ kind = 3
  more : kind ≠ 1 → b.length ≤ a.length
theorem Went.refl (kind : Int) (w : Int × Int) (a : List Wr) : Went kind w a a :=
  ⟨fun k x y hx hy => by rw [hx] at hy; cases hy; exact ⟨rfl, rfl, rfl, rfl, fun h => h⟩, fun k x hk hx => by have := (List.getElem?_eq_some_iff.1 hx).1; omega, fun _ => Nat.le_refl _⟩
theorem Went.write (nn : Int) (L : List Wr) (w : Int × Int) (p : Int) (B : List Int) (j : Int) : Went 1 w (pgOf L j) (pgOf (opW nn L w p B).2 j) := by
  unfold opW
  split
  · exact .refl _ _ _
  split
  · exact .refl _ _ _
  split
  · exact .refl _ _ _
  · simp only
    rw [pgOf_app]
    refine ⟨fun k x y hx hy => ?_, fun k x hk hx => ?_, fun h => absurd rfl h⟩
    · rw [List.getElem?_append_left (List.getElem?_eq_some_iff.1 hx).1, hx] at hy
      cases hy
      exact ⟨rfl, rfl, rfl, rfl, fun h => h⟩
    · have := (List.getElem?_eq_some_iff.1 hx).1
      rw [List.length_append] at hk
      omega
theorem MkL.went {w : Int × Int} {kind : Int} {b a : List Wr} (h : MkL w b a) : Went kind w a b := by
  refine ⟨fun k x y hx hy => ?_, fun k x hk hx => ?_, fun _ => by rw [h.len]; exact Nat.le_refl _⟩
  · obtain ⟨z, h1, h2⟩ := h.get hy
    rw [hx] at h1
    cases h1
    rcases h2 with rfl | ⟨-, rfl⟩
    · exact ⟨rfl, rfl, rfl, rfl, fun h => h⟩
    · exact ⟨rfl, rfl, rfl, rfl, fun _ => rfl⟩
  · have := (List.getElem?_eq_some_iff.1 hx).1
    rw [h.len] at hk
    omega
theorem Went.dur (nn : Int) (L : List Wr) (w : Int × Int) (k : Int) (j : Int) : Went 2 w (pgOf L j) (pgOf (opD nn L w k).2 j) := by
  unfold opD
  split
  · exact .refl _ _ _
  · exact ((dur_mk w L _).pg j).went
theorem Went.los {nn : Int} {L : List Wr} (h : LOk nn L) (w : Int × Int) (k : Int) (j : Int) : Went 3 w (pgOf L j) (pgOf (opL nn L w k).2 j) := by
  unfold opL
  split
  · exact .refl _ _ _
  · simp only
    have hm := (dur_mk w L k.toNat).pg j
    have h1 : Went 3 w (pgOf L j) (pgOf (T.dur w k.toNat L) j) := hm.went
    obtain ⟨t, e, ht⟩ := los_pre (h.dur w k.toNat).ch w j
    refine ⟨fun i x y hx hy => ?_, fun i x hi hx => ?_, fun _ => ?_⟩
    · refine h1.same i x y hx ?_
      rw [e, List.getElem?_append_left (List.getElem?_eq_some_iff.1 hy).1]
      exact hy
    · have hil := (List.getElem?_eq_some_iff.1 hx).1
      have hlen := hm.len
      have hi' := List.getElem?_eq_getElem (show i < (pgOf (T.dur w k.toNat L) j).length by omega)
      generalize (pgOf (T.dur w k.toNat L) j)[i]'(by omega) = y at hi'
      obtain ⟨z, z1, z2⟩ := hm.get hi'
      rw [hx] at z1
      cases z1
      rw [e, List.getElem?_append_right hi] at hi'
      have hv := vol_iff.1 (ht y (List.mem_of_getElem? hi'))
      rcases z2 with rfl | ⟨-, rfl⟩
      · obtain ⟨q1, q2⟩ := hv
        unfold Wr.who at q2
        exact ⟨q1, by rw [← q2], by rw [← q2], rfl⟩
      · cases hv.1
    · have := hm.len
      rw [e, List.length_append] at this
      omega
theorem Chain.next {L : List Wr} (h : Chain L) (p : Int) : ∀ (k : Nat) (x y : Wr), (pgOf L p)[k]? = some x → (pgOf L p)[k + 1]? = some y → x.du = false → y.du = false ∧ y.nd = x.nd ∧ y.ep = x.ep := by
  intro k x y hx hy hd
  have hp := h.page x.who p
  obtain ⟨l1, e1⟩ := List.getElem?_eq_some_iff.1 hx
  obtain ⟨l2, e2⟩ := List.getElem?_eq_some_iff.1 hy
  have hh := List.pairwise_iff_getElem.1 hp k (k + 1) l1 l2 (by omega)
  rw [e1, e2] at hh
  obtain ⟨q1, q2⟩ := vol_iff.1 (hh (vol_iff.2 ⟨hd, rfl⟩))
  unfold Wr.who at q2
  simp only [Prod.mk.injEq] at q2
  exact ⟨q1, q2.1, q2.2⟩
theorem opW_len (nn : Int) (L : List Wr) (w : Int × Int) (p : Int) (B : List Int) : (opW nn L w p B).2.length ≤ L.length + 1 := by
  unfold opW
  repeat' split
  all_goals simp
theorem opD_len (nn : Int) (L : List Wr) (w : Int × Int) (k : Int) : (opD nn L w k).2.length ≤ L.length := by
  unfold opD
  split
  · exact Nat.le_refl _
  · simp only [(dur_mk w L _).len]; exact Nat.le_refl _
theorem opL_len (nn : Int) (L : List Wr) (w : Int × Int) (k : Int) : (opL nn L w k).2.length ≤ L.length := by
  unfold opL
  split
  · exact Nat.le_refl _
  · have h1 := List.length_filter_le (fun x => !vol w x) (dur w k.toNat L)
    rw [(dur_mk w L _).len] at h1
    exact h1
end Go.Am.T


set_option linter.unusedVariables false
set_option linter.unusedSimpArgs false
namespace Go.Am
variable {P : Program}
mutual
def bulkD {H : Type} : DataW H → Nat
  | .lit (.string bytes) => bytes.length + 1
  | .lit _ => 1
  | .nil => 1
  | .ptr d => bulkD d + 1
  | .slice elems spare => bulkAllD elems + bulkAllD spare + 1
  | .agg parts => bulkAllD parts + 1
  | .iface _ d => bulkD d + 1
  | .map entries => bulkEntriesD entries + 1
  | .held _ => 1
def bulkAllD {H : Type} : List (DataW H) → Nat
  | [] => 0
  | d :: r => bulkD d + bulkAllD r
def bulkEntriesD {H : Type} : List (Lit × DataW H) → Nat
  | [] => 0
  | x :: r => bulkEntryD x + bulkEntriesD r
def bulkEntryD {H : Type} : Lit × DataW H → Nat
  | (.string bytes, d) => bytes.length + bulkD d + 1
  | (_, d) => bulkD d + 1
end
section
variable {H : Type} {enc : TypeId × Value → H} {w : World} {sp : Nat → Bool} {held : Bool} {g : G} {M : Nat}
end
end Go.Am

