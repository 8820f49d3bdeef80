import Derived.Test.YtpjclkfeobhpaaaK3
set_option linter.unusedVariables false
set_option linter.unusedSimpArgs false
set_option linter.unusedSectionVars false
set_option maxRecDepth 10000
namespace Go.Am.T
attribute [local congr] selV_congr impB_congr
structure DurI (H : Heap) (a m : Nat) (nn : Int) (Q : List Pg) (O : List Od) (w : Int × Int) (l : List (Int × Int)) (L : Nat) (h : Heap) : Prop where
  md : MdAt h a m nn (marks Q l) O
  len : h.length = L
  who : h[H.length]? = some ⟨1, .var (pcs w)⟩
  site : ∃ x, h[H.length + 1]? = some x
  oth : ∀ x, x < H.length → ¬ Own a m Q O x → h[x]? = H[x]?
set_option maxHeartbeats 2000000 in
theorem durable_spec {N n : Nat} (hN : 5000 ≤ N) (hn : 6 ≤ n) {H : Heap} {a m : Nat} {nn : Int} {Q : List Pg} {O : List Od} (h : MdAt H a m nn Q O) (hp1 : 1 ≤ nn) {w : Int × Int} {k : Nat} (hb : badA nn w 0 k = false) (hv : Valid Q (ordOf O w)) (hbig : (ordOf O w).length ≤ 4900) :
    ∃ v' H', callA am N n 12 [.ptr a 1 0, .agg (pcs w), .int .i64 k] H = some (v', H') ∧ v' = .tup [.int .i64 (min k (ordOf O w).length : Nat), .int .i64 0] ∧
      ∃ W', MdAt H' a m nn (marks Q ((ordOf O w).take (min k (ordOf O w).length))) (restO O w (min k (ordOf O w).length) W') ∧
        Bey H H' a m Q (marks Q ((ordOf O w).take (min k (ordOf O w).length))) O (restO O w (min k (ordOf O w).length) W') := by
  obtain ⟨n, rfl⟩ : ∃ m, n = m + 1 := ⟨n - 1, by omega⟩
  obtain ⟨h0, e0⟩ : ∃ h0, h0 = H ++ [(⟨1, .var (pcs w)⟩ : Ob), ⟨0, .dead⟩] ++ [(⟨1, .var (pcs w)⟩ : Ob)] := ⟨_, rfl⟩
  have hm := h.app [(⟨1, .var (pcs w)⟩ : Ob), ⟨0, .dead⟩]
  have c29 := @ask_spec N n (by omega) _ a m nn Q h.q16 hp1 hm.ob' w 0 k
  have eA : askE nn w 0 k = 0 := by unfold askE; rw [hb]; rfl
  rw [eA, ← e0] at c29
  have M0 := hm.app [(⟨1, .var (pcs w)⟩ : Ob)]
  rw [← e0] at M0
  have g0 : h0[H.length]? = some ⟨1, .var (pcs w)⟩ := by rw [e0, List.append_assoc, List.cons_append, app_get0]; rfl
  have g1 : h0[H.length + 1]? = some ⟨0, .dead⟩ := by rw [e0, List.append_assoc, app_get]; rfl
  have l0 : h0.length = H.length + 3 := by rw [e0]; simp
  have D0 : DurI H a m nn Q O w [] (H.length + 3) h0 := ⟨M0, l0, g0, ⟨_, g1⟩, fun x hx _ => by rw [e0, List.append_assoc, List.getElem?_append_left hx]⟩
  have own : ∀ j, ¬ Own a m Q O (H.length + j) := fun j hj => by have := h.lt _ hj; omega
  have al := h.lta
  have ml := h.ltm
  have nam := h.ne
  have mg := mget_w (get := fun o => h0[o]?) M0.mp w
  have row0 := ord_row M0 w
  have hW := row0.len
  obtain ⟨w1, w2, w3, w4, w5, w6⟩ := row0.shape
  obtain ⟨K, hK⟩ : ∃ K, K = min k (ordOf O w).length := ⟨_, rfl⟩
  have hKl : K ≤ (ordOf O w).length := by rw [hK]; exact Nat.min_le_right _ _
  have mm : mmA false (.int .i64 (k : Int)) (.int .i64 ((ordOf O w).length : Int)) = some (.int .i64 (K : Int)) := by rw [hK]; exact mm0 _ _
  rw [← hK]
  obtain ⟨S, hS, hSl, hSn, hSat⟩ := row0.head hKl
  have oa := M0.ob'
  have qm := @mcs_m Q nn m h.q16
  have ql := @mcs_len Q nn m h.q16
  suffices T : ∃ v' H', callA am N (n + 1) 12 [.ptr a 1 0, .agg (pcs w), .int .i64 k] H = some (v', H') ∧ v' = .tup [.int .i64 K, .int .i64 0] ∧ ∃ h1 W', DurI H a m nn Q O w ((ordOf O w).take K) (H.length + 3) h1 ∧ sliceA (fun o => h1[o]?) 2 (ordV O w) (some (.int .i64 K)) none none = some W' ∧
      H' = (if K = (ordOf O w).length then h1.set m ⟨1, .map ((O.filter (fun x => !(w == x.w))).map Od.e)⟩ else h1.set m ⟨1, .map ((putO ⟨w, (ordOf O w).drop K, W', ordR O w⟩ O).map Od.e)⟩) by
    obtain ⟨v', H', hc, hv', h1, W', D, hW', rfl⟩ := T
    refine ⟨v', _, hc, hv', W', ?_⟩
    have al1 : m < h1.length := by rw [D.len]; omega
    have ownm : ∀ y, Own a m Q O y → y < H.length := h.lt
    unfold restO
    by_cases hlast : K = (ordOf O w).length
    · rw [if_pos hlast, if_pos hlast]
      refine ⟨D.md.del (List.getElem?_set_self al1) (fun x hx _ => List.getElem?_set_ne (Ne.symm hx)), ⟨by simp [D.len], fun x hx hn => ?_, fun x hx => ?_⟩⟩
      · rw [List.getElem?_set_ne (fun e => hn (.inr (.inl e.symm)))]
        exact D.oth x hx hn
      · refine .inl ((own_marks (O := O) x ((ordOf O w).take K) Q).1 ?_)
        rcases hx with h1 | h1 | h1 | ⟨o, ho, hx⟩
        · exact .inl h1
        · exact .inr (.inl h1)
        · exact .inr (.inr (.inl h1))
        · exact .inr (.inr (.inr ⟨o, (List.mem_filter.1 ho).1, hx⟩))
    · rw [if_neg hlast, if_neg hlast]
      obtain ⟨W2, hW2, hrow⟩ := (ord_row D.md w).rest hKl
      rw [hW'] at hW2
      cases hW2
      have hordm : m ∉ ordR O w := fun hx => by
        obtain ⟨r, hr, -, hxr⟩ := ord_own (a := a) (m := m) (Q := Q) w m hx
        exact h.doa r hr m hxr (by simp)
      refine ⟨D.md.ord (List.getElem?_set_ne (Ne.symm nam)) (List.getElem?_set_self al1) (fun x hx _ _ => List.getElem?_set_ne (Ne.symm hx)) (hrow (by omega) _ fun o ho => List.getElem?_set_ne fun e : m = o => hordm (by rw [e]; exact ho)) (fun x hx => .inl hx), ⟨by simp [D.len], fun x hx hn => ?_, fun x hx => ?_⟩⟩
      · rw [List.getElem?_set_ne (fun e => hn (.inr (.inl e.symm)))]
        exact D.oth x hx hn
      · refine .inl ((own_marks (O := O) x ((ordOf O w).take K) Q).1 ?_)
        rcases hx with h1 | h1 | h1 | ⟨o, ho, hx⟩
        · exact .inl h1
        · exact .inr (.inl h1)
        · exact .inr (.inr (.inl h1))
        · rcases putO_mem ho with rfl | ⟨-, ho⟩
          · obtain ⟨r, hr, -, hxr⟩ := ord_own (a := a) (m := m) (Q := Q) w x hx
            exact .inr (.inr (.inr ⟨r, hr, hxr⟩))
          · exact .inr (.inr (.inr ⟨o, ho, hx⟩))
  have g0' := g0
  unfold pcs at c29 g0 ⊢
  have e0' : h0 = H ++ [(⟨1, .var [.int .i64 w.1, .int .i64 w.2]⟩ : Ob), ⟨0, .dead⟩, ⟨1, .var [.int .i64 w.1, .int .i64 w.2]⟩] := by rw [e0, List.append_assoc]; rfl
  refine am12_wp rfl ?_
  generalize hcs : mcs Q nn m = cs at *
  unfold pcs at mg
  simp +contextual -implicitDefEqProofs (maxSteps := 10000000) only [sxb, plainD, stays, ↓selV_wt, ↓selV_wf, ↓impB_wt, ↓impB_wf, ↓selV_nor, ↓impB_nor, ↓selV_nt, ↓selV_nf, ↓impB_nt, ↓impB_nf, ↓selV_true, ↓selV_false, ↓selV_and, ↓impB_true, ↓impB_false, ↓impB_and, ↓prim_pick, ↓selV_nn, ↓impB_nn, doOp, get, ins, del, dels, Nat.reduceLT, Nat.reduceEqDiff, ↓reduceIte, reduceCtorEq, ne_eq, implies_true, prim, YLD, mkA, V.cells, Nat.reduceAdd, Nat.reduceSub, Nat.reduceMul, Nat.reduceLeDiff, loadA, cellsAt, nAg, packA, List.drop, List.take, List.head?, binA, unA, eqCells, eqCell, negB, fillA, storeA, Ob.with, indexedI, V.oneCell, intOf?, resA, resA1, packR, sealDepth, Int.reduceLT, Int.reduceLE, Int.reduceToNat, Int.reduceNeg, Int.reduceAdd, Int.reduceSub, Int.reduceMul, cond_true, cond_false, Int.reduceBNe, Int.reduceBEq, eq_self, deads, List.replicate, argsF, am12, app_get0, app_get, app_set0, app_set, c29, g0, g1, oa, qm, ql, mg, hW, mm, List.foldlM_cons, List.foldlM_nil, List.map_cons, List.map_nil, Option.bind_eq_bind, Option.pure_def, Option.bind_some, hS, hSl, w1, -List.drop, -List.take]
  refine sx_loop (fun i t h => t = fr 67 [(0, .ptr a 1 0), (2, .int .i64 K), (4, .ptr H.length 1 0), (9, ordV O w), (31, S), (32, .int .i64 K), (33, .int .i64 i)] ∧ i ≤ K ∧ DurI H a m nn Q O w ((ordOf O w).take i) (H.length + 3) h) K (by show K < N; omega) ⟨rfl, Nat.zero_le _, D0⟩ ?_
  rintro i t h1 hi ⟨rfl, hiK, D⟩
  have sl1 : H.length + 1 < h1.length := by rw [D.len]; omega
  by_cases hlt : i < K
  · have gi : decide ((i : Int) < (K : Int)) = true := decide_eq_true (by omega)
    have w4 : IntKind.i64.wrap ((i : Int) + 1) = ((i + 1 : Nat) : Int) := (wrap64 (by omega) (by omega)).trans (by omega)
    have hi1 : i + 1 ≤ K := by omega
    have hx : (ordOf O w)[i]? = some (ordOf O w)[i] := List.getElem?_eq_getElem (by omega)
    generalize (ordOf O w)[i] = x at hx
    have hxm := List.mem_of_getElem? hx
    have hvx := (Valid.marks (l' := (ordOf O w).take i) hv) x hxm
    obtain ⟨x0, hsite⟩ := D.site
    obtain ⟨oo, vo, off, c, hSv, hoo, hole, hoat⟩ := hSat h1 (ord_row D.md w) i x hlt hx
    obtain ⟨p, j⟩ := x
    obtain ⟨p, rfl⟩ : ∃ p' : Nat, p = p' := ⟨p.toNat, by have := hvx.1; simp only at this; omega⟩
    obtain ⟨j, rfl⟩ : ∃ j' : Nat, j = j' := ⟨j.toNat, by have := hvx.2.1; simp only at this; omega⟩
    simp only [Int.toNat_natCast] at hvx
    obtain ⟨-, -, q, hq, hj⟩ := hvx
    have htk : (ordOf O w).take (i + 1) = (ordOf O w).take i ++ [((p : Int), (j : Int))] := by rw [List.take_add_one, hx]; rfl
    have M1 : MdAt (h1.set (H.length + 1) ⟨x0.ver + 1, .var (pcs ((p : Int), (j : Int)))⟩) a m nn (marks Q ((ordOf O w).take i)) O := D.md.set _ (by rw [own_marks]; exact own 1)
    obtain ⟨oq, vq, cap, A, r1, r2, r3, r4, M2⟩ := M1.mark hq hj
    have hoqm : Own a m Q O oq := (own_marks _ _ _).1 (.inr (.inr (.inl ⟨q, List.mem_of_getElem? hq, by rw [r1]; simp⟩)))
    have ca1 : (h1.set (H.length + 1) ⟨x0.ver + 1, .var (pcs ((p : Int), (j : Int)))⟩)[a]? = some ⟨1, .var cs⟩ := by rw [← hcs, ← mcs_marks Q ((ordOf O w).take i)]; exact M1.ob'
    have qp : List.take 1 (List.drop p cs) = [q.W] := by
      rw [← hcs, ← mcs_marks Q ((ordOf O w).take i)]
      exact mcs_p hq
    have hp16 : p < 16 := by
      have := (List.getElem?_eq_some_iff.1 hq).1
      rw [(marks_q16 _ Q).1, h.q16] at this
      exact this
    have hp16' : ((p : Int) < 16) := by omega
    have hpl : p + 1 ≤ 18 := by omega
    have hjl : (j : Int) < (q.l.length : Int) := by omega
    have r4' : j * 101 + 100 + 1 ≤ A.length := by omega
    have hrd : (h1.set (H.length + 1) ⟨x0.ver + 1, .var [.int .i64 p, .int .i64 j]⟩)[H.length + 1]? = some ⟨x0.ver + 1, .var [.int .i64 p, .int .i64 j]⟩ := List.getElem?_set_self sl1
    have hiK' : (i : Int) < (K : Int) := by omega
    have t1 : ∀ a b : V, List.take 1 [a, b] = [a] := fun _ _ => rfl
    have t2 : ∀ a b : V, List.take 1 (List.drop 1 [a, b]) = [b] := fun _ _ => rfl
    unfold pcs at hoat M1 r3 M2 ca1
    simp only at hoat M1 r3 M2 ca1
    rw [hSv]
    rw [r2] at qp
    simp +contextual -implicitDefEqProofs (maxSteps := 10000000) only [sxb, plainD, stays, ↓selV_wt, ↓selV_wf, ↓impB_wt, ↓impB_wf, ↓selV_nor, ↓impB_nor, ↓selV_nt, ↓selV_nf, ↓impB_nt, ↓impB_nf, ↓selV_true, ↓selV_false, ↓selV_and, ↓impB_true, ↓impB_false, ↓impB_and, ↓prim_pick, ↓selV_nn, ↓impB_nn, doOp, get, ins, del, dels, Nat.reduceLT, Nat.reduceEqDiff, ↓reduceIte, reduceCtorEq, ne_eq, implies_true, prim, YLD, mkA, V.cells, Nat.reduceAdd, Nat.reduceSub, Nat.reduceMul, Nat.reduceLeDiff, loadA, cellsAt, nAg, packA, List.drop, List.take, List.head?, binA, unA, eqCells, eqCell, negB, fillA, storeA, Ob.with, indexedI, V.oneCell, intOf?, resA, resA1, packR, sealDepth, Int.reduceLT, Int.reduceLE, Int.reduceToNat, Int.reduceNeg, Int.reduceAdd, Int.reduceSub, Int.reduceMul, cond_true, cond_false, Int.reduceBNe, Int.reduceBEq, eq_self, deads, List.replicate, argsF, gi, iaddrSA, hiK', hoo, hole, hoat, hsite, sl1, hrd, ca1, ql, qp, hp16', hpl, t1, t2, hjl, r3, r4', w4, hi1, hlt, List.getElem?_set_self, List.length_set, List.set_set, List.drop_zero, -List.drop, -List.take]
    have nq : ∀ y, H.length ≤ y → y ≠ oq := fun y hy e => by have := h.lt _ hoqm; omega
    refine ⟨?_, by simp [D.len], ?_, ⟨_, by rw [List.getElem?_set_ne (Ne.symm (nq _ (by omega)))]; exact hrd⟩, fun y hy hn => ?_⟩
    · rw [htk, marks_snoc]
      exact M2
    · rw [List.getElem?_set_ne (Ne.symm (nq _ (Nat.le_refl _))), List.getElem?_set_ne (by omega)]
      exact D.who
    · rw [List.getElem?_set_ne (fun e : oq = y => hn (by rw [← e]; exact hoqm)), List.getElem?_set_ne (by omega)]
      exact D.oth y hy hn
  · have eK : i = K := by omega
    subst eK
    have gi : decide ((i : Int) < (i : Int)) = false := decide_eq_false (by omega)
    obtain ⟨W', hW', -⟩ := (ord_row D.md w).rest hKl
    have ca1 : h1[a]? = some ⟨1, .var cs⟩ := by rw [← hcs, ← mcs_marks Q ((ordOf O w).take i)]; exact D.md.ob'
    have gw : h1[H.length]? = some ⟨1, .var [.int .i64 w.1, .int .i64 w.2]⟩ := D.who
    have mp := mput_w (get := fun o => h1[o]?) D.md.mp ⟨w, (ordOf O w).drop i, W', ordR O w⟩
    simp only at mp
    have al1 : m < h1.length := by rw [D.len]; omega
    have t2 : ∀ a b : V, List.take 2 [a, b] = [a, b] := fun _ _ => rfl
    have gm : (h1.set m ⟨1, .map ((putO ⟨w, (ordOf O w).drop i, W', ordR O w⟩ O).map Od.e)⟩)[m]? = some ⟨1, .map ((putO ⟨w, (ordOf O w).drop i, W', ordR O w⟩ O).map Od.e)⟩ := List.getElem?_set_self al1
    have md := mdel_w (get := fun o => (h1.set m ⟨1, .map ((putO ⟨w, (ordOf O w).drop i, W', ordR O w⟩ O).map Od.e)⟩)[o]?) gm w
    have ca2 : (h1.set m ⟨1, .map ((putO ⟨w, (ordOf O w).drop i, W', ordR O w⟩ O).map Od.e)⟩)[a]? = some ⟨1, .var cs⟩ := by rw [List.getElem?_set_ne (Ne.symm nam)]; exact ca1
    have gw2 : (h1.set m ⟨1, .map ((putO ⟨w, (ordOf O w).drop i, W', ordR O w⟩ O).map Od.e)⟩)[H.length]? = some ⟨1, .var [.int .i64 w.1, .int .i64 w.2]⟩ := by rw [List.getElem?_set_ne (by omega)]; exact gw
    have hf := filter_putO ⟨w, (ordOf O w).drop i, W', ordR O w⟩ O
    simp only at hf
    rw [hf] at md
    unfold pcs at mp md
    by_cases hlast : i = (ordOf O w).length
    · have gl : ((i : Int) == ((ordOf O w).length : Int)) = true := by rw [← hlast]; simp
      have hfin : (if i = (ordOf O w).length then h1.set m ⟨1, .map ((O.filter (fun x => !(w == x.w))).map Od.e)⟩ else h1.set m ⟨1, .map ((putO ⟨w, (ordOf O w).drop i, W', ordR O w⟩ O).map Od.e)⟩) = h1.set m ⟨1, .map ((O.filter (fun x => !(w == x.w))).map Od.e)⟩ := if_pos hlast
      simp +contextual -implicitDefEqProofs (maxSteps := 10000000) only [sxb, plainD, stays, ↓selV_wt, ↓selV_wf, ↓impB_wt, ↓impB_wf, ↓selV_nor, ↓impB_nor, ↓selV_nt, ↓selV_nf, ↓impB_nt, ↓impB_nf, ↓selV_true, ↓selV_false, ↓selV_and, ↓impB_true, ↓impB_false, ↓impB_and, ↓prim_pick, ↓selV_nn, ↓impB_nn, doOp, get, ins, del, dels, Nat.reduceLT, Nat.reduceEqDiff, ↓reduceIte, reduceCtorEq, ne_eq, implies_true, prim, YLD, mkA, V.cells, Nat.reduceAdd, Nat.reduceSub, Nat.reduceMul, Nat.reduceLeDiff, loadA, cellsAt, nAg, packA, List.drop, List.take, List.head?, binA, unA, eqCells, eqCell, negB, fillA, storeA, Ob.with, indexedI, V.oneCell, intOf?, resA, resA1, packR, sealDepth, Int.reduceLT, Int.reduceLE, Int.reduceToNat, Int.reduceNeg, Int.reduceAdd, Int.reduceSub, Int.reduceMul, cond_true, cond_false, Int.reduceBNe, Int.reduceBEq, eq_self, deads, List.replicate, argsF, gi, ca1, ql, qm, gw, hW', mp, hW, gl, ca2, gw2, md, t2, w1, List.set_set, List.drop_zero, -List.drop, -List.take]
      exact ⟨h1, W', D, hW', hfin.symm⟩
    · have gl : ((i : Int) == ((ordOf O w).length : Int)) = false := by simp; omega
      have hfin : (if i = (ordOf O w).length then h1.set m ⟨1, .map ((O.filter (fun x => !(w == x.w))).map Od.e)⟩ else h1.set m ⟨1, .map ((putO ⟨w, (ordOf O w).drop i, W', ordR O w⟩ O).map Od.e)⟩) = h1.set m ⟨1, .map ((putO ⟨w, (ordOf O w).drop i, W', ordR O w⟩ O).map Od.e)⟩ := if_neg hlast
      simp +contextual -implicitDefEqProofs (maxSteps := 10000000) only [sxb, plainD, stays, ↓selV_wt, ↓selV_wf, ↓impB_wt, ↓impB_wf, ↓selV_nor, ↓impB_nor, ↓selV_nt, ↓selV_nf, ↓impB_nt, ↓impB_nf, ↓selV_true, ↓selV_false, ↓selV_and, ↓impB_true, ↓impB_false, ↓impB_and, ↓prim_pick, ↓selV_nn, ↓impB_nn, doOp, get, ins, del, dels, Nat.reduceLT, Nat.reduceEqDiff, ↓reduceIte, reduceCtorEq, ne_eq, implies_true, prim, YLD, mkA, V.cells, Nat.reduceAdd, Nat.reduceSub, Nat.reduceMul, Nat.reduceLeDiff, loadA, cellsAt, nAg, packA, List.drop, List.take, List.head?, binA, unA, eqCells, eqCell, negB, fillA, storeA, Ob.with, indexedI, V.oneCell, intOf?, resA, resA1, packR, sealDepth, Int.reduceLT, Int.reduceLE, Int.reduceToNat, Int.reduceNeg, Int.reduceAdd, Int.reduceSub, Int.reduceMul, cond_true, cond_false, Int.reduceBNe, Int.reduceBEq, eq_self, deads, List.replicate, argsF, gi, ca1, ql, qm, gw, hW', mp, hW, gl, ca2, gw2, md, t2, w1, List.set_set, List.drop_zero, -List.drop, -List.take]
      exact ⟨h1, W', D, hW', hfin.symm⟩
end Go.Am.T


set_option linter.unusedVariables false
set_option linter.unusedSimpArgs false
set_option linter.unusedSectionVars false
set_option maxRecDepth 10000
namespace Go.Am.T
attribute [local congr] selV_congr impB_congr
def cutW (W : V) (i : Nat) : V := match W with | .view o ver off _ s _ => .view o ver off i s (some i) | v => v
def cutP (q : Pg) (i : Nat) : Pg := if i < q.l.length then ⟨q.l.take i, cutW q.W i, q.R⟩ else q
def cutQ (Q : List Pg) (p i : Nat) : List Pg := match Q[p]? with | some q => Q.set p (cutP q i) | none => Q
def cuts (Q : List Pg) (l : List (Int × Int)) : List Pg := l.foldl (fun Q p => cutQ Q p.1.toNat p.2.toNat) Q
theorem PRow.cut {H : Heap} {W : V} {l : List Wr} {R : List Nat} (h : PRow H W l R) {i : Nat} (hi : i < l.length) :
    sliceA (fun o => H[o]?) 101 W none (some (.int .i64 i)) (some (.int .i64 i)) = some (cutW W i) ∧ PRow H (cutW W i) (l.take i) R := by
  obtain ⟨hall, ⟨rfl, -⟩ | ⟨o, ver, cap, rest, rfl, rfl, ho, hc⟩⟩ := h
  · simp at hi
  · have hlen := flatW_len hall
    have hil : (l.take i).length = i := by rw [List.length_take]; omega
    refine ⟨?_, fun x hx => hall x (List.mem_of_mem_take hx), .inr ⟨o, ver, some i, flatW (l.drop i) ++ rest, rfl, by rw [hil]; rfl, ?_, .inr (by rw [hil])⟩⟩
    · have e0 : (if i = 0 then 0 else 0 + 0 * 101) = 0 := by split <;> rfl
      rcases hc with ⟨rfl, rfl⟩ | rfl
      · have hcap : ((flatW l ++ []).length - 0) / 101 = l.length := by rw [List.append_nil, hlen, Nat.sub_zero]; omega
        simp only [sliceA, ↓reduceIte, cellsAt, ho, hcap]
        simp [boundsA, intOf?, show i ≤ l.length by omega, cutW]
      · simp only [sliceA, ↓reduceIte]
        simp [boundsA, intOf?, show i ≤ l.length by omega, cutW]
    · rw [ho, ← List.append_assoc, ← flatW_app, List.take_append_drop]
theorem cutQ_len (Q : List Pg) (p i : Nat) : (cutQ Q p i).length = Q.length := by
  unfold cutQ
  cases Q[p]? <;> simp
theorem cutP_R (q : Pg) (i : Nat) : (cutP q i).R = q.R := by
  unfold cutP
  split <;> rfl
theorem own_cut {a m : Nat} {Q : List Pg} {O : List Od} {p i : Nat} (x : Nat) : Own a m (cutQ Q p i) O x ↔ Own a m Q O x := by
  have key : (∃ q ∈ cutQ Q p i, x ∈ q.R) ↔ ∃ q ∈ Q, x ∈ q.R := by
    unfold cutQ
    cases hp : Q[p]? with
    | none => exact Iff.rfl
    | some r =>
      simp only
      constructor
      · rintro ⟨q, hq, hx⟩
        rcases List.mem_or_eq_of_mem_set hq with hq | rfl
        · exact ⟨q, hq, hx⟩
        · rw [cutP_R] at hx
          exact ⟨r, List.mem_of_getElem? hp, hx⟩
      · rintro ⟨q, hq, hx⟩
        obtain ⟨j, hj⟩ := List.getElem?_of_mem hq
        by_cases e : p = j
        · subst e
          rw [hp] at hj
          cases hj
          exact ⟨_, List.mem_iff_getElem?.2 ⟨p, List.getElem?_set_self (List.getElem?_eq_some_iff.1 hp).1⟩, by rw [cutP_R]; exact hx⟩
        · exact ⟨q, List.mem_iff_getElem?.2 ⟨j, by rw [List.getElem?_set_ne e]; exact hj⟩, hx⟩
  unfold Own
  rw [key]
theorem cuts_cons (Q : List Pg) (l : List (Int × Int)) (x : Int × Int) : cuts Q (x :: l) = cuts (cutQ Q x.1.toNat x.2.toNat) l := rfl
theorem cuts_snoc (Q : List Pg) (l : List (Int × Int)) (x : Int × Int) : cuts Q (l ++ [x]) = cutQ (cuts Q l) x.1.toNat x.2.toNat := by simp [cuts]
theorem cuts_len : ∀ (l : List (Int × Int)) (Q : List Pg), (cuts Q l).length = Q.length
  | [], Q => rfl
  | x :: l, Q => by rw [cuts_cons, cuts_len l, cutQ_len]
theorem own_cuts {a m : Nat} {O : List Od} (x : Nat) : ∀ (l : List (Int × Int)) (Q : List Pg), Own a m (cuts Q l) O x ↔ Own a m Q O x
  | [], Q => Iff.rfl
  | y :: l, Q => by rw [cuts_cons, own_cuts x l, own_cut]
theorem MdAt.cut {H : Heap} {a m : Nat} {n : Int} {Q : List Pg} {O : List Od} (h : MdAt H a m n Q O) {p i : Nat} {q : Pg} (hq : Q[p]? = some q) (hi : i < q.l.length) : MdAt (H.set a ⟨1, .var (mcs (cutQ Q p i) n m)⟩) a m n (cutQ Q p i) O := by
  have hqm := List.mem_of_getElem? hq
  have eq : cutQ Q p i = Q.set p ⟨q.l.take i, cutW q.W i, q.R⟩ := by unfold cutQ cutP; rw [hq]; simp [hi]
  rw [eq]
  refine h.page hq (List.getElem?_set_self h.lta) (List.getElem?_set_ne h.ne) (fun j r hj hr x hx => List.getElem?_set_ne fun e : a = x => h.dqa r (List.mem_of_getElem? hr) x hx (by simp [e])) (fun r hr x hx => List.getElem?_set_ne fun e : a = x => h.doa r hr x hx (by simp [e])) ?_ (fun x hx => .inl hx)
  exact ((h.pg q hqm).cut hi).2.keep fun x hx => List.getElem?_set_ne fun e : a = x => h.dqa q hqm x hx (by simp [e])
theorem am13_wp {N n : Nat} {args : List V} {h : Heap} {C : V → Heap → Prop} (ha : args.length = 3) (H : sx ⟨pureOf am, callA am N n, N, h.length⟩ am13.body (fr am13.nt (argsF 0 args)) (h ++ deads am13.sites) (retQ am13.res C)) : ∃ v h', callA am N (n + 1) 13 args h = some (v, h') ∧ C v h' :=
  call_keep at13 rfl ha (by decide) (sx_wp H)
theorem lose_bad {N n : Nat} (hn : 7 ≤ n) {H : Heap} {a m : Nat} {nn : Int} {Q : List Pg} {O : List Od} (h : MdAt H a m nn Q O) (hp1 : 1 ≤ nn) (w : Int × Int) (k : Int) (hb : badA nn w 0 k = true) :
    ∃ v' H', callA am N n 13 [.ptr a 1 0, .agg (pcs w), .int .i64 k] H = some (v', H') ∧ v' = .tup [.int .i64 0, .int .i64 2] ∧ ∃ tl, H' = H ++ tl := by
  obtain ⟨n, rfl⟩ : ∃ m, n = m + 1 := ⟨n - 1, by omega⟩
  have hm := h.app [(⟨1, .var (pcs w)⟩ : Ob), ⟨0, .dead⟩]
  obtain ⟨v', H', c12, rfl, tl, rfl⟩ := @durable_bad N n (by omega) _ a m nn Q O hm hp1 w k hb
  unfold pcs at c12 ⊢
  refine am13_wp rfl ?_
  simp +contextual -implicitDefEqProofs (maxSteps := 10000000) only [sxb, plainD, stays, ↓selV_wt, ↓selV_wf, ↓impB_wt, ↓impB_wf, ↓selV_nor, ↓impB_nor, ↓selV_nt, ↓selV_nf, ↓impB_nt, ↓impB_nf, ↓selV_true, ↓selV_false, ↓selV_and, ↓impB_true, ↓impB_false, ↓impB_and, ↓prim_pick, ↓selV_nn, ↓impB_nn, doOp, get, ins, del, dels, Nat.reduceLT, Nat.reduceEqDiff, ↓reduceIte, reduceCtorEq, ne_eq, implies_true, prim, YLD, mkA, V.cells, Nat.reduceAdd, Nat.reduceSub, Nat.reduceMul, Nat.reduceLeDiff, loadA, cellsAt, nAg, packA, List.drop, List.take, List.head?, binA, unA, eqCells, eqCell, negB, fillA, storeA, Ob.with, indexedI, V.oneCell, intOf?, resA, resA1, packR, sealDepth, Int.reduceLT, Int.reduceLE, Int.reduceToNat, Int.reduceNeg, Int.reduceAdd, Int.reduceSub, Int.reduceMul, cond_true, cond_false, Int.reduceBNe, Int.reduceBEq, eq_self, deads, List.replicate, argsF, am13, app_get0, app_get, app_set0, app_set, c12, List.append_assoc]
  exact ⟨_, rfl⟩
end Go.Am.T


set_option linter.unusedVariables false
set_option linter.unusedSimpArgs false
set_option linter.unusedSectionVars false
set_option maxRecDepth 10000
namespace Go.Am.T
attribute [local congr] selV_congr impB_congr
structure LosI (H1 : Heap) (b a m : Nat) (nn : Int) (Q : List Pg) (O : List Od) (w : Int × Int) (l : List (Int × Int)) (h : Heap) : Prop where
  md : MdAt h a m nn (cuts Q l) O
  len : h.length = H1.length
  who : h[b]? = some ⟨1, .var (pcs w)⟩
  site : ∃ x, h[b + 1]? = some x
  oth : ∀ x, x < b → ¬ Own a m Q O x → h[x]? = H1[x]?
def Valid0 (Q : List Pg) (l : List (Int × Int)) : Prop := ∀ x ∈ l, 0 ≤ x.1 ∧ 0 ≤ x.2 ∧ x.1.toNat < Q.length
theorem ORow.at_ {H : Heap} {W : V} {l : List (Int × Int)} {R : List Nat} (h : ORow H W l R) {k : Nat} {x : Int × Int} (hx : l[k]? = some x) :
    ∃ o ver off c, W = .view o ver off l.length 2 none ∧ H[o]? = some ⟨ver, .arr c⟩ ∧ off + k * 2 + 2 ≤ c.length ∧ (c.drop (off + k * 2)).take 2 = pcs x := by
  rcases h with ⟨rfl, rfl, rfl⟩ | ⟨o, ver, pre, hpre, rfl, rfl, ho⟩
  · simp at hx
  · have hk := (List.getElem?_eq_some_iff.1 hx).1
    refine ⟨o, ver, pre.length, _, rfl, ho, ?_, flatP_at hx pre⟩
    rw [List.length_append, flatP_len]; omega
theorem find_putO (o : Od) (O : List Od) : (putO o O).find? (fun x => o.w == x.w) = some o := by
  cases hfd : (putO o O).find? (fun x => o.w == x.w) with
  | none =>
    exfalso
    have hall := List.find?_eq_none.1 hfd
    have : o ∈ putO o O := by
      unfold putO
      cases ha : O.any (fun x => o.w == x.w) with
      | true =>
        obtain ⟨x, hx, hb⟩ := List.any_eq_true.1 ha
        exact List.mem_map.2 ⟨x, hx, by rw [hb]⟩
      | false => simp
    have := hall _ this
    simp at this
  | some r =>
    have h1 := List.find?_some hfd
    have h2 := List.mem_of_find?_eq_some hfd
    rcases putO_mem h2 with rfl | ⟨h3, -⟩
    · rfl
    · exact absurd (beq_iff_eq.1 h1).symm h3
theorem ordOf_put (o : Od) (O : List Od) : ordOf (putO o O) o.w = o.l := by
  unfold ordOf
  rw [find_putO]
theorem ordOf_filter (w : Int × Int) (O : List Od) : ordOf (O.filter (fun x => !(w == x.w))) w = [] := by
  unfold ordOf
  have : (O.filter (fun x => !(w == x.w))).find? (fun x => w == x.w) = none := by
    rw [List.find?_eq_none]
    intro x hx
    have := (List.mem_filter.1 hx).2
    simpa using this
  rw [this]
set_option maxHeartbeats 2000000 in
theorem lose_spec {N n : Nat} (hN : 5000 ≤ N) (hn : 7 ≤ n) {H : Heap} {a m : Nat} {nn : Int} {Q : List Pg} {O : List Od} (h : MdAt H a m nn Q O) (hp1 : 1 ≤ nn) {w : Int × Int} {k : Nat} (hb : badA nn w 0 k = false) (hv : Valid Q (ordOf O w)) (hbig : (ordOf O w).length ≤ 4900) :
    ∃ v' H', callA am N n 13 [.ptr a 1 0, .agg (pcs w), .int .i64 k] H = some (v', H') ∧ v' = .tup [.int .i64 ((ordOf O w).length - min k (ordOf O w).length : Nat), .int .i64 0] ∧
      MdAt H' a m nn (cuts (marks Q ((ordOf O w).take (min k (ordOf O w).length))) ((ordOf O w).drop (min k (ordOf O w).length))) (O.filter (fun x => !(w == x.w))) ∧
        Bey H H' a m Q (cuts (marks Q ((ordOf O w).take (min k (ordOf O w).length))) ((ordOf O w).drop (min k (ordOf O w).length))) O (O.filter (fun x => !(w == x.w))) := by
  obtain ⟨n, rfl⟩ : ∃ m, n = m + 1 := ⟨n - 1, by omega⟩
  have hm := h.app [(⟨1, .var (pcs w)⟩ : Ob), ⟨0, .dead⟩]
  obtain ⟨v1, H1, c12, rfl, W', M1, B1⟩ := @durable_spec N n hN (by omega) _ a m nn Q O hm hp1 w k hb hv hbig
  obtain ⟨K, hK⟩ : ∃ K, K = min k (ordOf O w).length := ⟨_, rfl⟩
  have hKl : K ≤ (ordOf O w).length := by rw [hK]; exact Nat.min_le_right _ _
  rw [← hK] at c12 M1 B1 ⊢
  have own : ∀ j, ¬ Own a m Q O (H.length + j) := fun j hj => by have := h.lt _ hj; omega
  have hH0 : (H ++ [(⟨1, .var (pcs w)⟩ : Ob), ⟨0, .dead⟩]).length = H.length + 2 := by simp
  have own1 : ∀ j, j < 2 → ¬ Own a m (marks Q ((ordOf O w).take K)) (restO O w K W') (H.length + j) := fun j hj hx => by
    rcases B1.new _ hx with h1 | h1
    · exact own j h1
    · rw [hH0] at h1; omega
  have l1 : H.length + 2 ≤ H1.length := by have := B1.len; rw [hH0] at this; exact this
  have g0 : H1[H.length]? = some ⟨1, .var (pcs w)⟩ := by rw [B1.oth H.length (by rw [hH0]; omega) (own 0), app_get0]; rfl
  have g1 : H1[H.length + 1]? = some ⟨0, .dead⟩ := by rw [B1.oth _ (by rw [hH0]; omega) (own 1), app_get]; rfl
  have gl : ∀ x, x < H.length → ¬ Own a m Q O x → H1[x]? = H[x]? := fun x hx hn => by rw [B1.oth x (by rw [hH0]; omega) hn, List.getElem?_append_left hx]
  -- what is left of the places
  have hl1 : ordOf (restO O w K W') w = (ordOf O w).drop K := by
    unfold restO
    by_cases e : K = (ordOf O w).length
    · rw [if_pos e, e, List.drop_length]
      exact ordOf_filter w O
    · rw [if_neg e]
      exact ordOf_put ⟨w, (ordOf O w).drop K, W', ordR O w⟩ O
  have hfil : (restO O w K W').filter (fun x => !(w == x.w)) = O.filter (fun x => !(w == x.w)) := by
    unfold restO
    by_cases e : K = (ordOf O w).length
    · rw [if_pos e, List.filter_filter]
      simp
    · rw [if_neg e]
      exact filter_putO ⟨w, (ordOf O w).drop K, W', ordR O w⟩ O
  have ha16 : (marks Q ((ordOf O w).take K)).length = 16 := by rw [(marks_q16 _ Q).1, h.q16]
  have hv1 : Valid0 (marks Q ((ordOf O w).take K)) ((ordOf O w).drop K) := fun x hx => by
    obtain ⟨h1, h2, q, hq, -⟩ := hv x (List.mem_of_mem_drop hx)
    refine ⟨h1, h2, ?_⟩
    rw [(marks_q16 _ Q).1]
    exact (List.getElem?_eq_some_iff.1 hq).1
  have hnew : ∀ x, Own a m (marks Q ((ordOf O w).take K)) (restO O w K W') x → Own a m Q O x ∨ H.length ≤ x := fun x hx => by
    rcases B1.new x hx with h1 | h1
    · exact .inl h1
    · exact .inr (by rw [hH0] at h1; omega)
  have hownf : ∀ x, Own a m (cuts (marks Q ((ordOf O w).take K)) ((ordOf O w).drop K)) (O.filter (fun x => !(w == x.w))) x → Own a m (marks Q ((ordOf O w).take K)) (restO O w K W') x := fun x hx => by
    rw [own_cuts] at hx
    rcases hx with h1 | h1 | h1 | ⟨o, ho, hx⟩
    · exact .inl h1
    · exact .inr (.inl h1)
    · exact .inr (.inr (.inl h1))
    · rw [← hfil] at ho
      exact .inr (.inr (.inr ⟨o, (List.mem_filter.1 ho).1, hx⟩))
  have hownQ : ∀ x, x < H.length → Own a m (marks Q ((ordOf O w).take K)) (restO O w K W') x → Own a m Q O x := fun x hx h1 => by
    rcases hnew x h1 with h2 | h2
    · exact h2
    · omega
  have hlen1 : ((ordOf O w).drop K).length = (ordOf O w).length - K := List.length_drop
  have hbig1 : (ordOf (restO O w K W') w).length ≤ 4900 := by rw [hl1, List.length_drop]; omega
  rw [← hfil, ← hlen1, ← hl1] at *
  have hgoal : ∀ H' v', callA am N (n + 1) 13 [.ptr a 1 0, .agg (pcs w), .int .i64 k] H = some (v', H') → v' = .tup [.int .i64 ((ordOf (restO O w K W') w).length : Nat), .int .i64 0] → (∃ h1, LosI H1 H.length a m nn (marks Q ((ordOf O w).take K)) (restO O w K W') w (ordOf (restO O w K W') w) h1 ∧ H' = h1.set m ⟨1, .map (((restO O w K W').filter (fun x => !(w == x.w))).map Od.e)⟩) →
      ∃ v' H', callA am N (n + 1) 13 [.ptr a 1 0, .agg (pcs w), .int .i64 k] H = some (v', H') ∧ v' = .tup [.int .i64 ((ordOf (restO O w K W') w).length : Nat), .int .i64 0] ∧
      MdAt H' a m nn (cuts (marks Q ((ordOf O w).take K)) (ordOf (restO O w K W') w)) ((restO O w K W').filter (fun x => !(w == x.w))) ∧
        Bey H H' a m Q (cuts (marks Q ((ordOf O w).take K)) (ordOf (restO O w K W') w)) O ((restO O w K W').filter (fun x => !(w == x.w))) := by
    rintro H' v' hc hv' ⟨h1, D, rfl⟩
    have ml1 : m < h1.length := D.md.ltm
    refine ⟨v', _, hc, hv', D.md.del (List.getElem?_set_self ml1) (fun x hx _ => List.getElem?_set_ne (Ne.symm hx)), ⟨?_, fun x hx hn => ?_, fun x hx => hnew x (hownf x hx)⟩⟩
    · rw [List.length_set, D.len]; omega
    · rw [List.getElem?_set_ne (fun e => hn (.inr (.inl e.symm))), D.oth x hx (fun h1 => hn (hownQ x hx h1))]
      exact gl x hx hn
  generalize hQ1 : marks Q ((ordOf O w).take K) = Q1 at *
  clear hownf hownQ hnew gl B1 hb hQ1
  generalize restO O w K W' = O1 at *
  have D0 : LosI H1 H.length a m nn Q1 O1 w [] H1 := ⟨M1, rfl, g0, ⟨_, g1⟩, fun _ _ _ => rfl⟩
  have mg := mget_w (get := fun o => H1[o]?) M1.mp w
  have row0 := ord_row M1 w
  have hW := row0.len
  obtain ⟨w1, w2, w3, w4, w5, w6⟩ := row0.shape
  have oa := M1.ob'
  have qm := @mcs_m Q1 nn m ha16
  have ql := @mcs_len Q1 nn m ha16
  have al := h.lta
  have ml := h.ltm
  have nam := h.ne
  have t2 : ∀ a b : V, List.take 2 [a, b] = [a, b] := fun _ _ => rfl
  suffices T : ∃ v' H', callA am N (n + 1) 13 [.ptr a 1 0, .agg (pcs w), .int .i64 k] H = some (v', H') ∧ v' = .tup [.int .i64 ((ordOf O1 w).length : Nat), .int .i64 0] ∧ ∃ h1, LosI H1 H.length a m nn Q1 O1 w (ordOf O1 w) h1 ∧ H' = h1.set m ⟨1, .map ((O1.filter (fun x => !(w == x.w))).map Od.e)⟩ by
    obtain ⟨v', H', hc, hv', hI⟩ := T
    exact hgoal H' v' hc hv' hI
  clear hgoal
  have g0' := g0
  have own0 := own1 0 (by omega)
  have own2 := own1 1 (by omega)
  unfold pcs at c12 g0
  refine am13_wp rfl ?_
  have hcs0 : mcs (cuts Q1 []) nn m = mcs Q1 nn m := rfl
  generalize hcs : mcs Q1 nn m = cs at *
  unfold pcs at mg ⊢
  simp +contextual -implicitDefEqProofs (maxSteps := 10000000) only [sxb, plainD, stays, ↓selV_wt, ↓selV_wf, ↓impB_wt, ↓impB_wf, ↓selV_nor, ↓impB_nor, ↓selV_nt, ↓selV_nf, ↓impB_nt, ↓impB_nf, ↓selV_true, ↓selV_false, ↓selV_and, ↓impB_true, ↓impB_false, ↓impB_and, ↓prim_pick, ↓selV_nn, ↓impB_nn, doOp, get, ins, del, dels, Nat.reduceLT, Nat.reduceEqDiff, ↓reduceIte, reduceCtorEq, ne_eq, implies_true, prim, YLD, mkA, V.cells, Nat.reduceAdd, Nat.reduceSub, Nat.reduceMul, Nat.reduceLeDiff, loadA, cellsAt, nAg, packA, List.drop, List.take, List.head?, binA, unA, eqCells, eqCell, negB, fillA, storeA, Ob.with, indexedI, V.oneCell, intOf?, resA, resA1, packR, sealDepth, Int.reduceLT, Int.reduceLE, Int.reduceToNat, Int.reduceNeg, Int.reduceAdd, Int.reduceSub, Int.reduceMul, cond_true, cond_false, Int.reduceBNe, Int.reduceBEq, eq_self, deads, List.replicate, argsF, am13, app_get0, app_get, app_set0, app_set, c12, g0, g1, oa, qm, ql, mg, hW, t2, w1, List.drop_zero, -List.drop, -List.take]
  refine sx_loop (fun i t h => t = fr 72 [(0, .ptr a 1 0), (4, .ptr H.length 1 0), (10, ordV O1 w), (29, ordV O1 w), (30, .int .i64 ((ordOf O1 w).length : Nat)), (31, .int .i64 i)] ∧ i ≤ (ordOf O1 w).length ∧ LosI H1 H.length a m nn Q1 O1 w ((ordOf O1 w).take i) h) (ordOf O1 w).length (by show (ordOf O1 w).length < N; omega) ⟨rfl, Nat.zero_le _, D0⟩ ?_
  rintro i t h1 hi ⟨rfl, hiK, D⟩
  have sl1 : H.length + 1 < h1.length := by rw [D.len]; omega
  by_cases hlt : i < (ordOf O1 w).length
  · have gi : decide ((i : Int) < ((ordOf O1 w).length : Int)) = true := decide_eq_true (by omega)
    have w4 : IntKind.i64.wrap ((i : Int) + 1) = ((i + 1 : Nat) : Int) := (wrap64 (by omega) (by omega)).trans (by omega)
    have hi1 : i + 1 ≤ (ordOf O1 w).length := by omega
    have hx : (ordOf O1 w)[i]? = some (ordOf O1 w)[i] := List.getElem?_eq_getElem (by omega)
    generalize (ordOf O1 w)[i] = x at hx
    have hxm := List.mem_of_getElem? hx
    have hvx := hv1 x hxm
    obtain ⟨x0, hsite⟩ := D.site
    obtain ⟨oo, vo, off, c, hSv, hoo, hole, hoat⟩ := (ord_row D.md w).at_ hx
    obtain ⟨p, j⟩ := x
    obtain ⟨p, rfl⟩ : ∃ p' : Nat, p = p' := ⟨p.toNat, by have := hvx.1; simp only at this; omega⟩
    obtain ⟨j, rfl⟩ : ∃ j' : Nat, j = j' := ⟨j.toNat, by have := hvx.2.1; simp only at this; omega⟩
    simp only [Int.toNat_natCast] at hvx
    obtain ⟨-, -, hpl0⟩ := hvx
    have hcl := cuts_len ((ordOf O1 w).take i) Q1
    have hq : (cuts Q1 ((ordOf O1 w).take i))[p]? = some (cuts Q1 ((ordOf O1 w).take i))[p] := List.getElem?_eq_getElem (by omega)
    generalize (cuts Q1 ((ordOf O1 w).take i))[p]'(by omega) = q at hq
    have htk : (ordOf O1 w).take (i + 1) = (ordOf O1 w).take i ++ [((p : Int), (j : Int))] := by rw [List.take_add_one, hx]; rfl
    have M2 : MdAt (h1.set (H.length + 1) ⟨x0.ver + 1, .var (pcs ((p : Int), (j : Int)))⟩) a m nn (cuts Q1 ((ordOf O1 w).take i)) O1 := D.md.set _ (by rw [own_cuts]; exact own2)
    have hrow := M2.pg q (List.mem_of_getElem? hq)
    have hrl := hrow.len
    obtain ⟨r1, r2, r3, r4, r5, r6⟩ := hrow.shape
    have ca1 := M2.ob'
    have qp := @mcs_p (cuts Q1 ((ordOf O1 w).take i)) nn m p q hq
    have ql1 := @mcs_len (cuts Q1 ((ordOf O1 w).take i)) nn m (by omega)
    have hp16 : p < 16 := by omega
    have hp16' : ((p : Int) < 16) := by omega
    have hpl : p + 1 ≤ 18 := by omega
    have hrd : (h1.set (H.length + 1) ⟨x0.ver + 1, .var [.int .i64 p, .int .i64 j]⟩)[H.length + 1]? = some ⟨x0.ver + 1, .var [.int .i64 p, .int .i64 j]⟩ := List.getElem?_set_self sl1
    have hiK' : (i : Int) < ((ordOf O1 w).length : Int) := by omega
    have t1 : ∀ a b : V, List.take 1 [a, b] = [a] := fun _ _ => rfl
    have t2' : ∀ a b : V, List.take 1 (List.drop 1 [a, b]) = [b] := fun _ _ => rfl
    have al1 : a < (h1.set (H.length + 1) ⟨x0.ver + 1, .var [.int .i64 p, .int .i64 j]⟩).length := M2.lta
    by_cases hj : j < q.l.length
    · have gj : decide ((j : Int) < (q.l.length : Int)) = true := decide_eq_true (by omega)
      obtain ⟨hsl, -⟩ := hrow.cut hj
      have M3 := M2.cut hq hj
      have eq : cutQ (cuts Q1 ((ordOf O1 w).take i)) p j = (cuts Q1 ((ordOf O1 w).take i)).set p ⟨q.l.take j, cutW q.W j, q.R⟩ := by unfold cutQ cutP; rw [hq]; simp [hj]
      have qs := @mcs_set (cuts Q1 ((ordOf O1 w).take i)) nn m p q ⟨q.l.take j, cutW q.W j, q.R⟩ hq
      rw [← eq] at qs
      simp only at qs
      have cw : (cutW q.W j).cells = [cutW q.W j] := by
        obtain ⟨-, ⟨-, hw | hw, -⟩ | ⟨_, _, _, _, -, hw, -⟩⟩ := hrow <;> rw [hw] <;> rfl
      have cw1 : (cutW q.W j).oneCell = true := by
        obtain ⟨-, ⟨-, hw | hw, -⟩ | ⟨_, _, _, _, -, hw, -⟩⟩ := hrow <;> rw [hw] <;> rfl
      unfold pcs at hoat ca1 M2 hsl M3
      simp only at hoat ca1 M2 hsl M3
      rw [hSv]
      have cI : ∀ k n, (V.int k n).cells = [.int k n] := fun _ _ => rfl
      have cO : ∀ k n, (V.int k n).oneCell = true := fun _ _ => rfl
      have cA : ∀ l, (V.agg l).cells = l := fun _ => rfl
      generalize hW3 : cutW q.W j = W3 at *
      generalize mcs (cutQ (cuts Q1 ((ordOf O1 w).take i)) p j) nn m = cs3 at *
      generalize mcs (cuts Q1 ((ordOf O1 w).take i)) nn m = cs2 at *
      simp +contextual -implicitDefEqProofs (maxSteps := 10000000) only [sxb, plainD, stays, ↓selV_wt, ↓selV_wf, ↓impB_wt, ↓impB_wf, ↓selV_nor, ↓impB_nor, ↓selV_nt, ↓selV_nf, ↓impB_nt, ↓impB_nf, ↓selV_true, ↓selV_false, ↓selV_and, ↓impB_true, ↓impB_false, ↓impB_and, ↓prim_pick, ↓selV_nn, ↓impB_nn, doOp, get, ins, del, dels, Nat.reduceLT, Nat.reduceEqDiff, ↓reduceIte, reduceCtorEq, ne_eq, implies_true, prim, YLD, mkA, V.cells, Nat.reduceAdd, Nat.reduceSub, Nat.reduceMul, Nat.reduceLeDiff, loadA, cellsAt, nAg, packA, List.drop, List.take, List.head?, binA, unA, eqCells, eqCell, negB, fillA, storeA, Ob.with, indexedI, V.oneCell, intOf?, resA, resA1, packR, sealDepth, Int.reduceLT, Int.reduceLE, Int.reduceToNat, Int.reduceNeg, Int.reduceAdd, Int.reduceSub, Int.reduceMul, cond_true, cond_false, Int.reduceBNe, Int.reduceBEq, eq_self, deads, List.replicate, argsF, gi, iaddrSA, hiK', hoo, hole, hoat, hsite, sl1, hrd, ca1, ql1, qp, hp16', hpl, t1, t2', hrl, gj, hsl, qs, cw, cw1, r1, w4, hi1, hlt, al1, List.getElem?_set_self, List.length_set, List.set_set, List.drop_zero, cI, cA, cO, List.all_cons, List.all_nil, Bool.and_self, -List.drop, -List.take, -V.cells, -V.oneCell]
      refine ⟨?_, by simp [D.len], ?_, ⟨_, by rw [List.getElem?_set_ne (by omega)]; exact hrd⟩, fun y hy hn => ?_⟩
      · rw [htk, cuts_snoc]
        exact M3
      · rw [List.getElem?_set_ne (by omega), List.getElem?_set_ne (by omega)]
        exact D.who
      · rw [List.getElem?_set_ne (fun e => hn (.inl e.symm)), List.getElem?_set_ne (by omega)]
        exact D.oth y hy hn
    · have gj : decide ((j : Int) < (q.l.length : Int)) = false := decide_eq_false (by omega)
      have eq : cutQ (cuts Q1 ((ordOf O1 w).take i)) p j = cuts Q1 ((ordOf O1 w).take i) := by
        unfold cutQ cutP
        rw [hq]
        simp only [if_neg hj]
        apply List.ext_getElem?
        intro y
        by_cases e : p = y
        · subst e; rw [List.getElem?_set_self (by omega), hq]
        · rw [List.getElem?_set_ne e]
      unfold pcs at hoat ca1 M2
      simp only at hoat ca1 M2
      rw [hSv]
      generalize mcs (cuts Q1 ((ordOf O1 w).take i)) nn m = cs2 at *
      simp +contextual -implicitDefEqProofs (maxSteps := 10000000) only [sxb, plainD, stays, ↓selV_wt, ↓selV_wf, ↓impB_wt, ↓impB_wf, ↓selV_nor, ↓impB_nor, ↓selV_nt, ↓selV_nf, ↓impB_nt, ↓impB_nf, ↓selV_true, ↓selV_false, ↓selV_and, ↓impB_true, ↓impB_false, ↓impB_and, ↓prim_pick, ↓selV_nn, ↓impB_nn, doOp, get, ins, del, dels, Nat.reduceLT, Nat.reduceEqDiff, ↓reduceIte, reduceCtorEq, ne_eq, implies_true, prim, YLD, mkA, V.cells, Nat.reduceAdd, Nat.reduceSub, Nat.reduceMul, Nat.reduceLeDiff, loadA, cellsAt, nAg, packA, List.drop, List.take, List.head?, binA, unA, eqCells, eqCell, negB, fillA, storeA, Ob.with, indexedI, V.oneCell, intOf?, resA, resA1, packR, sealDepth, Int.reduceLT, Int.reduceLE, Int.reduceToNat, Int.reduceNeg, Int.reduceAdd, Int.reduceSub, Int.reduceMul, cond_true, cond_false, Int.reduceBNe, Int.reduceBEq, eq_self, deads, List.replicate, argsF, gi, iaddrSA, hiK', hoo, hole, hoat, hsite, sl1, hrd, ca1, ql1, qp, hp16', hpl, t1, t2', hrl, gj, r1, w4, hi1, hlt, al1, List.getElem?_set_self, List.length_set, List.set_set, List.drop_zero, -List.drop, -List.take]
      refine ⟨?_, by simp [D.len], ?_, ⟨_, hrd⟩, fun y hy hn => ?_⟩
      · rw [htk, cuts_snoc]
        exact eq.symm ▸ M2
      · rw [List.getElem?_set_ne (by omega)]
        exact D.who
      · rw [List.getElem?_set_ne (by omega)]
        exact D.oth y hy hn
  · have eK : i = (ordOf O1 w).length := by omega
    subst eK
    have gi : decide (((ordOf O1 w).length : Int) < ((ordOf O1 w).length : Int)) = false := decide_eq_false (by omega)
    have ca1 := D.md.ob'
    have qm1 := @mcs_m (cuts Q1 ((ordOf O1 w).take (ordOf O1 w).length)) nn m (by rw [cuts_len]; exact ha16)
    have ql1 := @mcs_len (cuts Q1 ((ordOf O1 w).take (ordOf O1 w).length)) nn m (by rw [cuts_len]; exact ha16)
    have gw : h1[H.length]? = some ⟨1, .var [.int .i64 w.1, .int .i64 w.2]⟩ := D.who
    have md := mdel_w (get := fun o => h1[o]?) D.md.mp w
    unfold pcs at md
    generalize mcs (cuts Q1 ((ordOf O1 w).take (ordOf O1 w).length)) nn m = cs2 at *
    simp +contextual -implicitDefEqProofs (maxSteps := 10000000) only [sxb, plainD, stays, ↓selV_wt, ↓selV_wf, ↓impB_wt, ↓impB_wf, ↓selV_nor, ↓impB_nor, ↓selV_nt, ↓selV_nf, ↓impB_nt, ↓impB_nf, ↓selV_true, ↓selV_false, ↓selV_and, ↓impB_true, ↓impB_false, ↓impB_and, ↓prim_pick, ↓selV_nn, ↓impB_nn, doOp, get, ins, del, dels, Nat.reduceLT, Nat.reduceEqDiff, ↓reduceIte, reduceCtorEq, ne_eq, implies_true, prim, YLD, mkA, V.cells, Nat.reduceAdd, Nat.reduceSub, Nat.reduceMul, Nat.reduceLeDiff, loadA, cellsAt, nAg, packA, List.drop, List.take, List.head?, binA, unA, eqCells, eqCell, negB, fillA, storeA, Ob.with, indexedI, V.oneCell, intOf?, resA, resA1, packR, sealDepth, Int.reduceLT, Int.reduceLE, Int.reduceToNat, Int.reduceNeg, Int.reduceAdd, Int.reduceSub, Int.reduceMul, cond_true, cond_false, Int.reduceBNe, Int.reduceBEq, eq_self, deads, List.replicate, argsF, gi, ca1, ql1, qm1, gw, hW, md, t2, w1, List.set_set, List.drop_zero, -List.drop, -List.take]
    refine ⟨h1, by rw [List.take_length] at D; exact D, rfl⟩
end Go.Am.T


set_option linter.unusedVariables false
set_option linter.unusedSimpArgs false
set_option linter.unusedSectionVars false
set_option maxRecDepth 10000
namespace Go.Am.T
attribute [local congr] selV_congr impB_congr
def noQ : List Pg := List.replicate 16 ⟨[], .nils, []⟩
theorem am8_wp {N n : Nat} {args : List V} {h h' : Heap} {v : V} (ha : args.length = 1) (H : sx ⟨pureOf am, callA am N n, N, h.length⟩ am8.body (fr am8.nt (argsF 0 args)) (h ++ deads am8.sites) (retQ am8.res fun x k => x = v ∧ k = h')) : callA am N (n + 1) 8 args h = some (v, h') :=
  call_keep_eq at8 rfl ha (by decide) (sx_wp H)
theorem new_spec {N n : Nat} (hn : 1 ≤ n) {nn : Int} (h1 : 1 ≤ nn) (h2 : nn ≤ 16) (H : Heap) : callA am N n 8 [.int .i64 nn] H = some (.tup [.ptr (H.length + 1) 1 0, .int .i64 0], H ++ [⟨1, .map []⟩, ⟨1, .var (mcs noQ nn H.length)⟩]) := by
  obtain ⟨n, rfl⟩ : ∃ m, n = m + 1 := ⟨n - 1, by omega⟩
  have g1 : decide (nn < 1) = false := decide_eq_false (by omega)
  have g2 : decide (nn > 16) = false := decide_eq_false (by omega)
  refine am8_wp rfl ?_
  simp +contextual -implicitDefEqProofs (maxSteps := 10000000) only [sxb, plainD, stays, ↓selV_wt, ↓selV_wf, ↓impB_wt, ↓impB_wf, ↓selV_nor, ↓impB_nor, ↓selV_nt, ↓selV_nf, ↓impB_nt, ↓impB_nf, ↓selV_true, ↓selV_false, ↓selV_and, ↓impB_true, ↓impB_false, ↓impB_and, ↓prim_pick, ↓selV_nn, ↓impB_nn, doOp, get, ins, del, dels, Nat.reduceLT, Nat.reduceEqDiff, ↓reduceIte, reduceCtorEq, ne_eq, implies_true, prim, YLD, mkA, V.cells, Nat.reduceAdd, Nat.reduceSub, Nat.reduceMul, Nat.reduceLeDiff, loadA, cellsAt, nAg, packA, List.drop, List.take, List.head?, binA, unA, eqCells, eqCell, negB, fillA, storeA, Ob.with, indexedI, V.oneCell, intOf?, resA, resA1, packR, sealDepth, Int.reduceLT, Int.reduceLE, Int.reduceToNat, Int.reduceNeg, Int.reduceAdd, Int.reduceSub, Int.reduceMul, cond_true, cond_false, Int.reduceBNe, Int.reduceBEq, eq_self, deads, List.replicate, argsF, am8, g1, g2, app_get0, app_get, app_set0, app_set]
  rfl
theorem new_at {H : Heap} {a m : Nat} {nn : Int} (ha : H[a]? = some ⟨1, .var (mcs noQ nn m)⟩) (hm : H[m]? = some ⟨1, .map []⟩) (hne : a ≠ m) : MdAt H a m nn noQ [] := by
  have hq : ∀ q ∈ noQ, q = ⟨[], .nils, []⟩ := fun q hq => (List.mem_replicate.1 hq).2
  refine ⟨ha, hm, rfl, fun q h => ?_, (fun o h => by cases h), fun i j q r hi _ _ x hx => ?_, (fun i j q r hi => by simp at hi), (fun q _ o h => by cases h), fun q h x hx => ?_, (fun o h => by cases h), hne, by simp⟩
  · rw [hq q h]
    exact ⟨by simp, .inl ⟨rfl, .inl rfl, rfl⟩⟩
  · rw [hq q (List.mem_of_getElem? hi)] at hx
    cases hx
  · rw [hq q h] at hx
    cases hx
end Go.Am.T


set_option linter.unusedVariables false
set_option linter.unusedSimpArgs false
set_option linter.unusedSectionVars false
set_option maxRecDepth 10000
namespace Go.Am.T
attribute [local congr] selV_congr impB_congr
theorem am14_wp {N n : Nat} {args : List V} {h : Heap} {C : V → Heap → Prop} (ha : args.length = 2) (H : sx ⟨pureOf am, callA am N n, N, h.length⟩ am14.body (fr am14.nt (argsF 0 args)) (h ++ deads am14.sites) (retQ am14.res C)) : ∃ v h', callA am N (n + 1) 14 args h = some (v, h') ∧ C v h' :=
  call_keep at14 rfl ha (by decide) (sx_wp H)
end Go.Am.T


set_option linter.unusedVariables false
set_option linter.unusedSimpArgs false
set_option linter.unusedSectionVars false
set_option maxRecDepth 10000
namespace Go.Am.T
attribute [local congr] selV_congr impB_congr
end Go.Am.T


set_option linter.unusedVariables false
set_option linter.unusedSimpArgs false
set_option linter.unusedSectionVars false
set_option maxRecDepth 10000
namespace Go.Am.T
attribute [local congr] selV_congr impB_congr
theorem sx_rangeM {E : Env} {m : Opd} {it nx ok en site : Nat} {clr kill : List Nat} {b : ACode} {t : List V} {h : Heap} {Q : Post} {x : Ob} {om : Option (Nat × Nat)} {es : List (V × V)} {r : Ex × List V × Heap} {e : Ex} {t' : List V} {h' : Heap}
    (hx : h[E.fb + site]? = some x) (hm : mapOf h (ev t m) = some (om, es))
    (hr : roundsM (exec E.pureF E.call E.N E.fb b) it nx ok en (.ptr (E.fb + site) (x.ver + 1) 0) es (t.set it (.ptr (E.fb + site) (x.ver + 1) 0)) ((hideM om h).set (E.fb + site) ⟨x.ver + 1, .dead⟩) = some r)
    (ha : Clo h t → AnyOrder (exec E.pureF E.call E.N E.fb b) it nx ok en (.ptr (E.fb + site) (x.ver + 1) 0) clr kill E.fb es (t.set it (.ptr (E.fb + site) (x.ver + 1) 0)) ((hideM om h).set (E.fb + site) ⟨x.ver + 1, .dead⟩) r)
    (hs : showM om es (leaveM clr kill E.fb r) = some (e, t', h')) (HQ : Q e t' h') : sx E (.rangeM m it nx ok en site clr kill b) t h Q := by
  show wp E (.rangeM m it nx ok en site clr kill b) t h Q
  unfold wp
  simp only [exec, hx, hm, rangeC, hr, if_pos ha, hs]
  exact HQ
end Go.Am.T


set_option linter.unusedVariables false
set_option linter.unusedSimpArgs false
set_option linter.unusedSectionVars false
set_option maxRecDepth 10000
namespace Go.Am.T
attribute [local congr] selV_congr impB_congr
theorem known_spec {N n : Nat} (hN : 5000 ≤ N) (hn : 20 ≤ n) (h : Heap) : callA am N n 7 [] h = some (.bool true, h) :=
  closed_quick pm7 (show callB am 5000 20 7 [] [] = some (.bool true, []) by kernel_rfl) hN hn h
theorem num_spec {N n : Nat} (hn : 1 ≤ n) (e : Int) (h : Heap) : callA am N n 9 [.int .i64 e] h = some (.int .i64 e, h) := by
  obtain ⟨n, rfl⟩ : ∃ m, n = m + 1 := ⟨n - 1, by omega⟩
  refine call_pure at9 rfl rfl (by decide) rfl (sx_wp ?_)
  simp +contextual -implicitDefEqProofs (maxSteps := 10000000) only [sxb, plainD, stays, ↓selV_wt, ↓selV_wf, ↓impB_wt, ↓impB_wf, ↓selV_nor, ↓impB_nor, ↓selV_nt, ↓selV_nf, ↓impB_nt, ↓impB_nf, ↓selV_true, ↓selV_false, ↓selV_and, ↓impB_true, ↓impB_false, ↓impB_and, ↓prim_pick, ↓selV_nn, ↓impB_nn, doOp, get, ins, del, dels, Nat.reduceLT, Nat.reduceEqDiff, ↓reduceIte, reduceCtorEq, ne_eq, implies_true, prim, YLD, mkA, V.cells, Nat.reduceAdd, Nat.reduceSub, Nat.reduceMul, Nat.reduceLeDiff, loadA, cellsAt, nAg, packA, List.drop, List.take, List.head?, binA, unA, eqCells, eqCell, negB, fillA, storeA, Ob.with, indexedI, V.oneCell, intOf?, resA, resA1, packR, sealDepth, Int.reduceLT, Int.reduceLE, Int.reduceToNat, Int.reduceNeg, Int.reduceAdd, Int.reduceSub, Int.reduceMul, cond_true, cond_false, Int.reduceBNe, Int.reduceBEq, eq_self, deads, List.replicate, argsF, am9]
end Go.Am.T


set_option linter.unusedVariables false
set_option linter.unusedSimpArgs false
set_option linter.unusedSectionVars false
set_option maxRecDepth 10000
namespace Go.Am.T
attribute [local congr] selV_congr impB_congr
end Go.Am.T


set_option linter.unusedVariables false
set_option linter.unusedSimpArgs false
set_option linter.unusedSectionVars false
set_option maxRecDepth 10000
namespace Go.Am.T
attribute [local congr] selV_congr impB_congr
theorem rounds_inv {f : List V → Heap → Option (Ex × List V × Heap)} {it nx ok en : Nat} {itv : V} (Inv : Nat → List V → Heap → Prop) : ∀ (es : List (V × V)) (k : Nat) (t : List V) (h : Heap), Inv k t h →
    (∀ i e t h, es[i]? = some e → Inv (k + i) t h → rdyM it nx ok itv t = true ∧ ∃ t' h', f (roundM nx ok en e t) h = some (.norm, t', h') ∧ Inv (k + i + 1) t' h') → (∀ t h, Inv (k + es.length) t h → rdyM it nx ok itv t = true) →
    ∃ t' h', Inv (k + es.length) t' h' ∧ roundsM f it nx ok en itv es t h = some (.norm, overM nx ok t', h')
  | [], k, t, h, h0, _, hr => ⟨t, h, h0, by simp only [roundsM, hr t h h0]⟩
  | e :: es, k, t, h, h0, hs, hr => by
    obtain ⟨h1, t1, k1, h2, h3⟩ := hs 0 e t h rfl h0
    obtain ⟨t', h', i1, i2⟩ := rounds_inv Inv es (k + 1) t1 k1 h3 (fun i e' t h hi hI => by
      have := hs (i + 1) e' t h (by simpa using hi) (by rw [show k + (i + 1) = k + 1 + i by omega]; exact hI)
      rwa [show k + (i + 1) + 1 = k + 1 + i + 1 by omega] at this) (fun t h hI => hr t h (by rw [List.length_cons, show k + (es.length + 1) = k + 1 + es.length by omega]; exact hI))
    refine ⟨t', h', by rw [List.length_cons, show k + (es.length + 1) = k + 1 + es.length by omega]; exact i1, ?_⟩
    simp only [roundsM, h1, h2]
    exact i2
theorem sx_exec {E : Env} {b : ACode} {t : List V} {h : Heap} {P : List V → Heap → Prop} (H : sx E b t h fun e t' h' => e = .norm ∧ P t' h') : ∃ t' h', exec E.pureF E.call E.N E.fb b t h = some (.norm, t', h') ∧ P t' h' := by
  have H1 := sx_wp H
  unfold wp at H1
  split at H1
  case h_2 => exact H1.elim
  rename_i e t1 h1 he
  obtain ⟨rfl, hp⟩ := H1
  exact ⟨t1, h1, he, hp⟩
theorem rdy_fr {it nx ok n : Nat} {l : List (Nat × V)} {v : V} (hi : it < n) (hg : V.same (get l it) v = true) (h1 : nx < n) (h2 : ok < n) : rdyM it nx ok v (fr n l) = true := by
  unfold rdyM
  rw [fr_getD hi, hg, fr_length]
  simp [h1, h2]
theorem round_fr {nx ok en n : Nat} {l : List (Nat × V)} {e : V × V} : roundM nx ok en e (fr n l) = fr n (ins en (.tup [e.1, e.2]) (ins ok (.bool true) (ins nx (.tup [.bool true, e.1, e.2]) l))) := by
  unfold roundM
  rw [fr_set, fr_set, fr_set]
theorem over_fr {nx ok n : Nat} {l : List (Nat × V)} : overM nx ok (fr n l) = fr n (ins ok (.bool false) (ins nx (.tup [.bool false]) l)) := by
  unfold overM
  rw [fr_set, fr_set]
def news (P : List Od) : Heap := P.map fun o => ⟨1, .arr (flatP o.l)⟩
def cpO (L0 : Nat) : List Od → List Od
  | [] => []
  | o :: l => ⟨o.w, o.l, .view L0 1 0 o.l.length 2 none, [L0]⟩ :: cpO (L0 + 1) l
theorem cpO_len : ∀ (P : List Od) (L0 : Nat), (cpO L0 P).length = P.length
  | [], _ => rfl
  | p :: P, L0 => by simp only [cpO, List.length_cons, cpO_len P]
theorem cpO_get : ∀ {P : List Od} {L0 i : Nat} {o : Od}, P[i]? = some o → (cpO L0 P)[i]? = some ⟨o.w, o.l, .view (L0 + i) 1 0 o.l.length 2 none, [L0 + i]⟩
  | p :: P, L0, 0, o, h => by
    simp only [List.getElem?_cons_zero, Option.some.injEq] at h
    subst h
    rfl
  | p :: P, L0, i + 1, o, h => by
    have := cpO_get (P := P) (L0 := L0 + 1) (i := i) (o := o) (by simpa using h)
    simp only [cpO, List.getElem?_cons_succ, this]
    rw [show L0 + 1 + i = L0 + (i + 1) by omega]
end Go.Am.T


set_option linter.unusedVariables false
set_option linter.unusedSimpArgs false
set_option linter.unusedSectionVars false
set_option maxRecDepth 10000
namespace Go.Am.T
attribute [local congr] selV_congr impB_congr
mutual
theorem V.ren_same {σ : Nat → Nat} : ∀ (v : V), (∀ o ∈ v.objs, σ o = o) → v.ren σ = v
  | .junk, _ => rfl
  | .bool _, _ => rfl
  | .int _ _, _ => rfl
  | .str _, _ => rfl
  | .nilp, _ => rfl
  | .ptr o v f, h => by simp only [V.ren, h o (by simp [V.objs])]
  | .iptr cs f, h => by simp only [V.ren, V.renL_same cs fun o ho => h o (by simpa [V.objs] using ho)]
  | .nils, _ => rfl
  | .view o v f l s c, h => by simp only [V.ren, h o (by simp [V.objs])]
  | .vend o v s, h => by simp only [V.ren, h o (by simp [V.objs])]
  | .sl L s c, h => by simp only [V.ren, V.renL_same L fun o ho => h o (by simpa [V.objs] using ho)]
  | .nilm, _ => rfl
  | .map o v, h => by simp only [V.ren, h o (by simp [V.objs])]
  | .nilf, _ => rfl
  | .func f x y, h => by simp only [V.ren, V.renL_same x fun o ho => h o (by simp [V.objs, ho]), V.renL_same y fun o ho => h o (by simp [V.objs, ho])]
  | .yld o v, h => by simp only [V.ren, h o (by simp [V.objs])]
  | .nili, _ => rfl
  | .iface t v, h => by simp only [V.ren, V.ren_same v fun o ho => h o (by simpa [V.objs] using ho)]
  | .agg cs, h => by simp only [V.ren, V.renL_same cs fun o ho => h o (by simpa [V.objs] using ho)]
  | .tup cs, h => by simp only [V.ren, V.renL_same cs fun o ho => h o (by simpa [V.objs] using ho)]
  termination_by structural v => v
theorem V.renL_same {σ : Nat → Nat} : ∀ (l : List V), (∀ o ∈ V.objsL l, σ o = o) → V.renL σ l = l
  | [], _ => rfl
  | v :: l, h => by simp only [V.renL, V.ren_same v fun o ho => h o (by simp [V.objsL, ho]), V.renL_same l fun o ho => h o (by simp [V.objsL, ho])]
  termination_by structural l => l
end
theorem map_ren_same {σ : Nat → Nat} {l : List V} (h : ∀ o ∈ V.objsL l, σ o = o) : l.map (V.ren σ) = l := by rw [← renL_map]; exact V.renL_same l h
theorem BdEq.same {σ : Nat → Nat} {b : Bd} (hl : b.lives = true) (h : ∀ o ∈ b.objs, σ o = o) : BdEq σ b b := by
  cases b with
  | dead => cases hl
  | var cs => exact (map_ren_same h).symm
  | arr cs => exact (map_ren_same h).symm
  | map es =>
    have key : ∀ e ∈ es, e.1.ren σ = e.1 ∧ e.2.ren σ = e.2 := fun e he =>
      ⟨V.ren_same _ fun o ho => h o (List.mem_flatMap.2 ⟨e, he, by simp [ho]⟩), V.ren_same _ fun o ho => h o (List.mem_flatMap.2 ⟨e, he, by simp [ho]⟩)⟩
    refine ⟨fun e he => (key e he).1, ?_⟩
    have : es.map (fun e => (e.1, e.2.ren σ)) = es := by
      rw [List.map_congr_left (g := id) fun e he => by rw [(key e he).2]; rfl]
      simp
    rw [this]
  | loop st p t fb f k => exact ⟨rfl, rfl, rfl, rfl, (map_ren_same h).symm⟩
theorem perm_map {f : Od → V × V} {π es : List (V × V)} (hp : π.Perm es) : ∀ O : List Od, es = O.map f → ∃ P : List Od, P.Perm O ∧ π = P.map f := by
  induction hp with
  | nil =>
    intro O h
    cases O with
    | nil => exact ⟨[], List.Perm.nil, rfl⟩
    | cons _ _ => cases h
  | cons x _ ih =>
    intro O h
    cases O with
    | nil => cases h
    | cons o O =>
      simp only [List.map_cons, List.cons.injEq] at h
      obtain ⟨P, h1, rfl⟩ := ih O h.2
      exact ⟨o :: P, h1.cons o, by rw [h.1]; rfl⟩
  | swap x y l =>
    intro O h
    match O, h with
    | o :: q :: O, h =>
      simp only [List.map_cons, List.cons.injEq] at h
      obtain ⟨rfl, rfl, rfl⟩ := h
      exact ⟨q :: o :: O, List.Perm.swap o q O, rfl⟩
  | trans _ _ ih1 ih2 =>
    intro O h
    obtain ⟨P, h1, e1⟩ := ih2 O h
    obtain ⟨Q, h2, e2⟩ := ih1 P e1
    exact ⟨Q, h2.trans h1, e2⟩
end Go.Am.T


set_option linter.unusedVariables false
set_option linter.unusedSimpArgs false
set_option linter.unusedSectionVars false
set_option maxRecDepth 10000
namespace Go.Am.T
attribute [local congr] selV_congr impB_congr
structure CpI (H : Heap) (Q : List Pg) (nn : Int) (p : Nat) (Qc : List Pg) (xs : Heap) : Prop where
  q16 : Qc.length = 16
  xl : xs.length = p
  old : ∀ j q, p ≤ j → Qc[j]? = some q → q = ⟨[], .nils, []⟩
  new : ∀ j q, j < p → Qc[j]? = some q → ∃ r, Q[j]? = some r ∧ q.l = r.l ∧ (∀ o ∈ q.R, o = H.length + 4 + j) ∧ ∀ x0 x1 x2 x3 : Ob, PRow (H ++ ([x0, x1, x2, x3] ++ xs)) q.W q.l q.R
theorem CpI.next {H : Heap} {Q : List Pg} {nn : Int} {p : Nat} {Qc : List Pg} {xs : Heap} (C : CpI H Q nn p Qc xs) (hp : p < 16) {q r : Pg} (hq : Q[p]? = some q) (hr : r.l = q.l) (ho : ∀ o ∈ r.R, o = H.length + 4 + p) {x : Ob} (hx : ∀ x0 x1 x2 x3 : Ob, PRow (H ++ ([x0, x1, x2, x3] ++ (xs ++ [x]))) r.W r.l r.R) :
    CpI H Q nn (p + 1) (Qc.set p r) (xs ++ [x]) := by
  have hpl : p < Qc.length := by rw [C.q16]; exact hp
  refine ⟨by simp [C.q16], by simp [C.xl], fun j q' hj hq' => ?_, fun j q' hj hq' => ?_⟩
  · rw [List.getElem?_set_ne (by omega)] at hq'
    exact C.old j q' (by omega) hq'
  · by_cases e : p = j
    · subst e
      rw [List.getElem?_set_self hpl] at hq'
      cases hq'
      exact ⟨q, hq, hr, ho, hx⟩
    · rw [List.getElem?_set_ne e] at hq'
      obtain ⟨s, h1, h2, h3, h4⟩ := C.new j q' (by omega) hq'
      refine ⟨s, h1, h2, h3, fun x0 x1 x2 x3 => (h4 x0 x1 x2 x3).keep fun o ho' => ?_⟩
      have e1 : H ++ ([x0, x1, x2, x3] ++ (xs ++ [x])) = (H ++ ([x0, x1, x2, x3] ++ xs)) ++ [x] := by simp
      rw [e1, List.getElem?_append_left]
      have := h3 o ho'
      have := C.xl
      simp
      omega
end Go.Am.T


set_option linter.unusedVariables false
set_option linter.unusedSimpArgs false
set_option linter.unusedSectionVars false
set_option maxRecDepth 10000
namespace Go.Am.T
def Wr.who (x : Wr) : Int × Int := (x.nd, x.ep)
def vol (w : Int × Int) (x : Wr) : Bool := !x.du && (x.who == w)
def pgOf (L : List Wr) (p : Int) : List Wr := L.filter (fun x => x.pg == p)
def plOf (w : Int × Int) : List Wr → List Wr → List (Int × Int)
  | _, [] => []
  | pre, x :: l => if vol w x = true then (x.pg, ((pgOf pre x.pg).length : Int)) :: plOf w (pre ++ [x]) l else plOf w (pre ++ [x]) l
def dur (w : Int × Int) : Nat → List Wr → List Wr
  | _, [] => []
  | k, x :: l => if vol w x = true then (match k with | 0 => x :: l | k + 1 => x.mark :: dur w k l) else x :: dur w k l
def los (w : Int × Int) (L : List Wr) : List Wr := L.filter (fun x => !vol w x)
theorem vol_iff {w : Int × Int} {x : Wr} : vol w x = true ↔ x.du = false ∧ x.who = w := by
  unfold vol
  simp
theorem pgOf_app (a b : List Wr) (p : Int) : pgOf (a ++ b) p = pgOf a p ++ pgOf b p := by simp [pgOf]
theorem pgOf_cons (x : Wr) (l : List Wr) (p : Int) : pgOf (x :: l) p = if x.pg = p then x :: pgOf l p else pgOf l p := by
  unfold pgOf
  rw [List.filter_cons]
  simp only [beq_iff_eq]
theorem pgOf_one (x : Wr) (p : Int) : pgOf [x] p = if x.pg = p then [x] else [] := by rw [pgOf_cons]; rfl
theorem mark_pg (x : Wr) : x.mark.pg = x.pg := rfl
theorem plOf_congr (w : Int × Int) : ∀ (l pre pre' : List Wr), (∀ p, (pgOf pre p).length = (pgOf pre' p).length) → plOf w pre l = plOf w pre' l
  | [], _, _, _ => rfl
  | x :: l, pre, pre', h => by
    have ih := plOf_congr w l (pre ++ [x]) (pre' ++ [x]) fun p => by rw [pgOf_app, pgOf_app, List.length_append, List.length_append, h p]
    unfold plOf
    rw [h x.pg, ih]
theorem plOf_snoc (w : Int × Int) (x : Wr) : ∀ (l pre : List Wr), plOf w pre (l ++ [x]) = plOf w pre l ++ (if vol w x = true then [(x.pg, ((pgOf (pre ++ l) x.pg).length : Int))] else [])
  | [], pre => by
    simp only [List.nil_append, plOf, List.append_nil]
  | y :: l, pre => by
    have ih := plOf_snoc w x l (pre ++ [y])
    simp only [List.cons_append, plOf, ih, List.append_assoc, List.nil_append]
    split <;> simp
def Pgs (Q : List Pg) (L : List Wr) : Prop := ∀ (p : Nat) (q : Pg), Q[p]? = some q → q.l = pgOf L p
theorem marks_dur (w : Int × Int) : ∀ (l pre : List Wr) (k : Nat) (Q : List Pg), Pgs Q (pre ++ l) → (∀ x ∈ l, 0 ≤ x.pg) → Pgs (marks Q ((plOf w pre l).take k)) (pre ++ dur w k l)
  | [], pre, k, Q, h, _ => by simpa [plOf, dur, marks] using h
  | x :: l, pre, k, Q, h, hp => by
    unfold plOf dur
    by_cases hv : vol w x = true
    · rw [if_pos hv, if_pos hv]
      cases k with
      | zero => simpa [marks] using h
      | succ k =>
        rw [List.take_succ_cons, marks_cons]
        have ih := marks_dur w l (pre ++ [x.mark]) k (markQ Q x.pg.toNat (pgOf pre x.pg).length) ?_ fun y hy => hp y (by simp [hy])
        · rw [plOf_congr w l (pre ++ [x]) (pre ++ [x.mark]) fun p => by rw [pgOf_app, pgOf_app, pgOf_one, pgOf_one, mark_pg]; split <;> simp]
          simpa using ih
        · intro p q hq
          obtain ⟨r, hr, -, -, hl⟩ := markQ_get hq
          have e := h p r hr
          have hx := hp x (by simp)
          rw [hl, e, pgOf_app, pgOf_app, pgOf_app, pgOf_one, pgOf_cons, mark_pg]
          by_cases ep : p = x.pg.toNat
          · have ep' : x.pg = (p : Int) := by omega
            rw [if_pos ep, if_pos ep', if_pos ep', ep']
            unfold markL
            rw [List.getElem?_append_right (Nat.le_refl _), Nat.sub_self]
            simp
          · have ep' : ¬ x.pg = (p : Int) := by omega
            rw [if_neg ep, if_neg ep', if_neg ep']
            simp
    · rw [if_neg hv, if_neg hv]
      have ih := marks_dur w l (pre ++ [x]) k Q (by simpa using h) fun y hy => hp y (by simp [hy])
      simpa using ih
def Chain (L : List Wr) : Prop := L.Pairwise (fun x y => x.pg = y.pg → x.du = false → y.du = false ∧ y.who = x.who)
theorem Chain.vol {L : List Wr} (h : Chain L) (w : Int × Int) : L.Pairwise (fun x y => x.pg = y.pg → vol w x = true → vol w y = true) := by
  refine List.Pairwise.imp (fun {x y} hxy e hx => ?_) h
  obtain ⟨h1, h2⟩ := vol_iff.1 hx
  obtain ⟨h3, h4⟩ := hxy e h1
  exact vol_iff.2 ⟨h3, h4.trans h2⟩
theorem cutQ_get {Q : List Pg} {p i j : Nat} {q : Pg} (h : (cutQ Q p i)[j]? = some q) : ∃ r, Q[j]? = some r ∧ q.l = (if j = p ∧ i < r.l.length then r.l.take i else r.l) := by
  unfold cutQ at h
  cases hp : Q[p]? with
  | none =>
    rw [hp] at h
    refine ⟨q, h, ?_⟩
    by_cases e : j = p
    · subst e; rw [hp] at h; cases h
    · rw [if_neg (fun h => e h.1)]
  | some r =>
    rw [hp] at h
    simp only at h
    by_cases e : p = j
    · subst e
      rw [List.getElem?_set_self (List.getElem?_eq_some_iff.1 hp).1] at h
      cases h
      refine ⟨r, hp, ?_⟩
      unfold cutP
      by_cases e2 : i < r.l.length
      · rw [if_pos e2, if_pos ⟨rfl, e2⟩]
      · rw [if_neg e2, if_neg (fun h => e2 h.2)]
    · rw [List.getElem?_set_ne e] at h
      exact ⟨q, h, by rw [if_neg (fun h => e h.1.symm)]⟩
theorem cuts_los (w : Int × Int) : ∀ (l pre org : List Wr) (Q : List Pg), (∀ x ∈ l, 0 ≤ x.pg) → l.Pairwise (fun x y => x.pg = y.pg → vol w x = true → vol w y = true) →
    (∀ (p : Nat) q, Q[p]? = some q → (q.l = pgOf pre p ++ pgOf l p ∧ (pgOf org p).length = (pgOf pre p).length) ∨ (q.l = pgOf pre p ∧ (pgOf pre p).length ≤ (pgOf org p).length ∧ ∀ x ∈ l, x.pg = (p : Int) → vol w x = true)) →
    Pgs (cuts Q (plOf w org l)) (pre ++ los w l)
  | [], pre, org, Q, _, _, h => by
    intro p q hq
    have hq : Q[p]? = some q := hq
    show q.l = pgOf (pre ++ []) p
    rw [List.append_nil]
    rcases h p q hq with ⟨h1, -⟩ | ⟨h1, -⟩
    · rw [h1]; simp [pgOf]
    · exact h1
  | x :: l, pre, org, Q, hp, hw, h => by
    obtain ⟨hw1, hw2⟩ := List.pairwise_cons.1 hw
    have hx := hp x (by simp)
    unfold plOf
    by_cases hv : vol w x = true
    · rw [if_pos hv, cuts_cons]
      have hl : los w (x :: l) = los w l := by simp [los, hv]
      rw [hl]
      refine cuts_los w l pre (org ++ [x]) _ (fun y hy => hp y (by simp [hy])) hw2 fun p q hq => ?_
      obtain ⟨r, hr, hql⟩ := cutQ_get hq
      simp only [Int.toNat_natCast] at hql
      rw [pgOf_app, pgOf_one]
      by_cases ep : p = x.pg.toNat
      · have ep' : x.pg = (p : Int) := by omega
        rw [if_pos ep']
        rcases h p r hr with ⟨h1, h2⟩ | ⟨h1, h2, h3⟩
        · rw [pgOf_cons, if_pos ep'] at h1
          refine .inr ⟨?_, by simp; omega, fun y hy hyp => hw1 y hy (ep'.trans hyp.symm) hv⟩
          rw [hql, if_pos ⟨ep, by rw [h1, ep', h2]; simp⟩, h1, ep', h2]
          simp
        · refine .inr ⟨?_, by simp; omega, fun y hy hyp => h3 y (by simp [hy]) hyp⟩
          rw [hql, if_neg (fun hh => by have := hh.2; rw [h1, ep'] at this; omega), h1]
      · have ep' : ¬ x.pg = (p : Int) := by omega
        rw [if_neg ep', List.append_nil]
        rw [if_neg (fun hh => ep hh.1)] at hql
        rcases h p r hr with ⟨h1, h2⟩ | ⟨h1, h2, h3⟩
        · rw [pgOf_cons, if_neg ep'] at h1
          exact .inl ⟨hql.trans h1, h2⟩
        · exact .inr ⟨hql.trans h1, h2, fun y hy hyp => h3 y (by simp [hy]) hyp⟩
    · rw [if_neg hv]
      have hl : los w (x :: l) = x :: los w l := by simp [los, hv]
      rw [hl]
      have := cuts_los w l (pre ++ [x]) (org ++ [x]) Q (fun y hy => hp y (by simp [hy])) hw2 fun p q hq => ?_
      · simpa using this
      · rw [pgOf_app, pgOf_app, pgOf_one]
        rcases h p q hq with ⟨h1, h2⟩ | ⟨h1, h2, h3⟩
        · rw [pgOf_cons] at h1
          refine .inl ⟨?_, by split <;> simp [h2]⟩
          rw [h1]
          split <;> simp
        · have ep' : ¬ x.pg = (p : Int) := fun e => hv (h3 x (by simp) e)
          rw [if_neg ep', List.append_nil, List.append_nil]
          exact .inr ⟨h1, h2, fun y hy hyp => h3 y (by simp [hy]) hyp⟩
end Go.Am.T


set_option linter.unusedVariables false
set_option linter.unusedSimpArgs false
set_option linter.unusedSectionVars false
set_option maxRecDepth 10000
namespace Go.Am.T
inductive MkL (w : Int × Int) : List Wr → List Wr → Prop
  | nil : MkL w [] []
  | same (x : Wr) {l' l : List Wr} : MkL w l' l → MkL w (x :: l') (x :: l)
  | mark (x : Wr) {l' l : List Wr} : vol w x = true → MkL w l' l → MkL w (x.mark :: l') (x :: l)
theorem MkL.refl (w : Int × Int) : ∀ l, MkL w l l
  | [] => .nil
  | x :: l => .same x (MkL.refl w l)
theorem MkL.len {w : Int × Int} {l' l : List Wr} (h : MkL w l' l) : l'.length = l.length := by
  induction h with
  | nil => rfl
  | same x _ ih => simp [ih]
  | mark x _ _ ih => simp [ih]
theorem MkL.get {w : Int × Int} {l' l : List Wr} (h : MkL w l' l) : ∀ {k : Nat} {x' : Wr}, l'[k]? = some x' → ∃ x, l[k]? = some x ∧ (x' = x ∨ vol w x = true ∧ x' = x.mark) := by
  induction h with
  | nil => intro k x' h; simp at h
  | same x _ ih =>
    intro k x' h
    cases k with
    | zero => exact ⟨x, rfl, .inl (by simpa using h.symm)⟩
    | succ k => exact ih (by simpa using h)
  | mark x hv _ ih =>
    intro k x' h
    cases k with
    | zero => exact ⟨x, rfl, .inr ⟨hv, by simpa using h.symm⟩⟩
    | succ k => exact ih (by simpa using h)
theorem MkL.mem {w : Int × Int} {l' l : List Wr} (h : MkL w l' l) {x' : Wr} (hx : x' ∈ l') : ∃ x ∈ l, x' = x ∨ vol w x = true ∧ x' = x.mark := by
  obtain ⟨k, hk⟩ := List.getElem?_of_mem hx
  obtain ⟨x, h1, h2⟩ := h.get hk
  exact ⟨x, List.mem_of_getElem? h1, h2⟩
theorem MkL.pg {w : Int × Int} {l' l : List Wr} (h : MkL w l' l) (p : Int) : MkL w (pgOf l' p) (pgOf l p) := by
  induction h with
  | nil => exact .nil
  | same x _ ih =>
    rw [pgOf_cons, pgOf_cons]
    split
    · exact .same x ih
    · exact ih
  | mark x hv _ ih =>
    rw [pgOf_cons, pgOf_cons, mark_pg]
    split
    · exact .mark x hv ih
    · exact ih
theorem dur_mk (w : Int × Int) : ∀ (l : List Wr) (k : Nat), MkL w (dur w k l) l
  | [], k => .nil
  | x :: l, k => by
    unfold dur
    by_cases hv : vol w x = true
    · rw [if_pos hv]
      cases k with
      | zero => exact .refl w _
      | succ k => exact .mark x hv (dur_mk w l k)
    · rw [if_neg hv]
      exact .same x (dur_mk w l k)
theorem dur_chain (w : Int × Int) : ∀ (l : List Wr) (k : Nat), Chain l → Chain (dur w k l)
  | [], k, h => h
  | x :: l, k, h => by
    obtain ⟨h1, h2⟩ := List.pairwise_cons.1 h
    unfold dur
    by_cases hv : vol w x = true
    · rw [if_pos hv]
      cases k with
      | zero => exact h
      | succ k => exact List.pairwise_cons.2 ⟨fun y _ _ hd => absurd hd (by simp [Wr.mark]), dur_chain w l k h2⟩
    · rw [if_neg hv]
      refine List.pairwise_cons.2 ⟨fun y' hy' e hd => ?_, dur_chain w l k h2⟩
      obtain ⟨y, hy, rfl | ⟨hvy, rfl⟩⟩ := (dur_mk w l k).mem hy'
      · exact h1 _ hy e hd
      · obtain ⟨q1, q2⟩ := h1 y hy e hd
        obtain ⟨r1, r2⟩ := vol_iff.1 hvy
        exact absurd (vol_iff.2 ⟨hd, q2.symm.trans r2⟩) hv
theorem mark_vol (w : Int × Int) (x : Wr) : vol w x.mark = false := by simp [vol, Wr.mark]
theorem plOf_dur (w : Int × Int) : ∀ (l pre : List Wr) (k : Nat), plOf w pre (dur w k l) = (plOf w pre l).drop k
  | [], pre, k => by simp [plOf, dur]
  | x :: l, pre, k => by
    unfold dur
    by_cases hv : vol w x = true
    · rw [if_pos hv]
      cases k with
      | zero => rfl
      | succ k =>
        have ih := plOf_dur w l (pre ++ [x]) k
        have e := plOf_congr w (dur w k l) (pre ++ [x.mark]) (pre ++ [x]) fun p => by rw [pgOf_app, pgOf_app, pgOf_one, pgOf_one, mark_pg]; split <;> simp
        simp only [plOf, hv, mark_vol, ↓reduceIte, Bool.false_eq_true, e, ih, List.drop_succ_cons]
    · rw [if_neg hv]
      simp only [plOf, hv, ↓reduceIte, Bool.false_eq_true]
      exact plOf_dur w l (pre ++ [x]) k
theorem vol_other {w w' : Int × Int} {x : Wr} (h : vol w x = true) (hne : w' ≠ w) : vol w' x = false := by
  obtain ⟨h1, h2⟩ := vol_iff.1 h
  cases e : vol w' x with
  | false => rfl
  | true => exact absurd ((vol_iff.1 e).2.symm.trans h2) hne
theorem plOf_mk {w w' : Int × Int} (hne : w' ≠ w) {l' l : List Wr} (h : MkL w l' l) : ∀ pre, plOf w' pre l' = plOf w' pre l := by
  induction h with
  | nil => intro pre; rfl
  | same x _ ih => intro pre; simp only [plOf, ih]
  | mark x hv hh ih =>
    rename_i l1 l2
    intro pre
    have e := plOf_congr w' l1 (pre ++ [x.mark]) (pre ++ [x]) fun p => by rw [pgOf_app, pgOf_app, pgOf_one, pgOf_one, mark_pg]; split <;> simp
    simp only [plOf, mark_vol, vol_other hv hne, ↓reduceIte, Bool.false_eq_true, e, ih]
theorem plOf_none (w : Int × Int) : ∀ (l pre : List Wr), (∀ x ∈ l, vol w x = false) → plOf w pre l = []
  | [], _, _ => rfl
  | x :: l, pre, h => by
    simp only [plOf, h x (by simp), ↓reduceIte, Bool.false_eq_true]
    exact plOf_none w l _ fun y hy => h y (by simp [hy])
theorem plOf_los {w w' : Int × Int} (hne : w' ≠ w) : ∀ (l pre org : List Wr), l.Pairwise (fun x y => x.pg = y.pg → vol w x = true → vol w y = true) →
    (∀ p : Int, (pgOf pre p).length = (pgOf org p).length ∨ ∀ x ∈ l, x.pg = p → vol w x = true) → plOf w' pre (los w l) = plOf w' org l
  | [], _, _, _, _ => rfl
  | x :: l, pre, org, hw, h => by
    obtain ⟨hw1, hw2⟩ := List.pairwise_cons.1 hw
    by_cases hv : vol w x = true
    · have hl : los w (x :: l) = los w l := by simp [los, hv]
      rw [hl]
      simp only [plOf, vol_other hv hne, ↓reduceIte, Bool.false_eq_true]
      refine plOf_los hne l pre (org ++ [x]) hw2 fun p => ?_
      by_cases e : x.pg = p
      · exact .inr fun y hy hyp => hw1 y hy (e.trans hyp.symm) hv
      · rw [pgOf_app, pgOf_one, if_neg e, List.append_nil]
        rcases h p with h1 | h1
        · exact .inl h1
        · exact .inr fun y hy hyp => h1 y (by simp [hy]) hyp
    · have hl : los w (x :: l) = x :: los w l := by simp [los, hv]
      have hp : (pgOf pre x.pg).length = (pgOf org x.pg).length := by
        rcases h x.pg with h1 | h1
        · exact h1
        · exact absurd (h1 x (by simp) rfl) hv
      have ih := plOf_los hne l (pre ++ [x]) (org ++ [x]) hw2 fun p => ?_
      · rw [hl]
        simp only [plOf, hp, ih]
      · rw [pgOf_app, pgOf_app, List.length_append, List.length_append]
        rcases h p with h1 | h1
        · exact .inl (by rw [h1])
        · exact .inr fun y hy hyp => h1 y (by simp [hy]) hyp
theorem pg_los (w : Int × Int) (L : List Wr) (p : Int) : pgOf (los w L) p = (pgOf L p).filter (fun x => !vol w x) := by
  unfold pgOf los
  rw [List.filter_filter, List.filter_filter]
  congr 1
  funext x
  exact Bool.and_comm _ _
theorem filter_pre (w : Int × Int) : ∀ (A : List Wr), A.Pairwise (fun x y => vol w x = true → vol w y = true) → ∃ t, A = A.filter (fun x => !vol w x) ++ t ∧ ∀ x ∈ t, vol w x = true
  | [], _ => ⟨[], rfl, by simp⟩
  | x :: A, h => by
    obtain ⟨h1, h2⟩ := List.pairwise_cons.1 h
    by_cases hv : vol w x = true
    · refine ⟨x :: A, ?_, fun y hy => ?_⟩
      · have : (x :: A).filter (fun x => !vol w x) = [] := by
          rw [List.filter_eq_nil_iff]
          intro y hy
          rcases List.mem_cons.1 hy with rfl | hy
          · simp [hv]
          · simp [h1 y hy hv]
        rw [this]
        rfl
      · rcases List.mem_cons.1 hy with rfl | hy
        · exact hv
        · exact h1 y hy hv
    · obtain ⟨t, e, ht⟩ := filter_pre w A h2
      refine ⟨t, ?_, ht⟩
      rw [List.filter_cons]
      simp only [hv, Bool.not_false, ↓reduceIte, List.cons_append]
      rw [← e]
theorem Chain.page {L : List Wr} (h : Chain L) (w : Int × Int) (p : Int) : (pgOf L p).Pairwise (fun x y => T.vol w x = true → T.vol w y = true) := by
  have h1 := List.Pairwise.sublist (List.filter_sublist (p := fun x : Wr => x.pg == p)) (h.vol w)
  refine List.Pairwise.imp_of_mem (fun {x y} hx hy hxy => hxy ?_) h1
  have ex := (List.mem_filter.1 hx).2
  have ey := (List.mem_filter.1 hy).2
  simp only [beq_iff_eq] at ex ey
  exact ex.trans ey.symm
theorem los_pre {L : List Wr} (h : Chain L) (w : Int × Int) (p : Int) : ∃ t, pgOf L p = pgOf (los w L) p ++ t ∧ ∀ x ∈ t, vol w x = true := by
  rw [pg_los]
  exact filter_pre w _ (h.page w p)
structure LOk (nn : Int) (L : List Wr) : Prop where
  ok : ∀ x ∈ L, x.Ok
  pg : ∀ x ∈ L, 0 ≤ x.pg ∧ x.pg < nn
  ps : ∀ p k x, (pgOf L p)[k]? = some x → x.ps = ((k + 1 : Nat) : Int)
  ch : Chain L
theorem LOk.dur {nn : Int} {L : List Wr} (h : LOk nn L) (w : Int × Int) (k : Nat) : LOk nn (T.dur w k L) := by
  refine ⟨fun x' hx => ?_, fun x' hx => ?_, fun p i x' hx => ?_, dur_chain w L k h.ch⟩
  · obtain ⟨x, h1, rfl | ⟨-, rfl⟩⟩ := (dur_mk w L k).mem hx
    · exact h.ok _ h1
    · exact mark_ok (h.ok _ h1)
  · obtain ⟨x, h1, rfl | ⟨-, rfl⟩⟩ := (dur_mk w L k).mem hx
    · exact h.pg _ h1
    · exact h.pg x h1
  · obtain ⟨x, h1, rfl | ⟨-, rfl⟩⟩ := ((dur_mk w L k).pg p).get hx
    · exact h.ps p i _ h1
    · exact h.ps p i x h1
theorem LOk.los {nn : Int} {L : List Wr} (h : LOk nn L) (w : Int × Int) : LOk nn (los w L) := by
  have hm : ∀ x ∈ T.los w L, x ∈ L := fun x hx => (List.mem_filter.1 hx).1
  refine ⟨fun x hx => h.ok x (hm x hx), fun x hx => h.pg x (hm x hx), fun p i x hx => ?_, List.Pairwise.sublist List.filter_sublist h.ch⟩
  obtain ⟨t, e, -⟩ := los_pre h.ch w p
  refine h.ps p i x ?_
  rw [e, List.getElem?_append_left (List.getElem?_eq_some_iff.1 hx).1]
  exact hx
theorem LOk.nil (nn : Int) : LOk nn [] := ⟨by simp, by simp, fun p k x h => by simp [pgOf] at h, List.Pairwise.nil⟩
theorem lastK_eq {l : List Wr} {x : Wr} (h : l.getLast? = some x) : lastK l l.length = x := by
  unfold lastK
  rw [List.take_length, List.getLastD_eq_getLast?, h]
  rfl
theorem whose_vol {nn : Int} {L : List Wr} (h : LOk nn L) {x : Wr} (hx : x ∈ L) (hd : x.du = false) : whoseW (pgOf L x.pg) = (x.who, true) := by
  have hm : x ∈ pgOf L x.pg := List.mem_filter.2 ⟨hx, by simp⟩
  obtain ⟨z, hz⟩ : ∃ z, (pgOf L x.pg).getLast? = some z := by
    cases e : (pgOf L x.pg).getLast? with
    | none => rw [List.getLast?_eq_none_iff] at e; rw [e] at hm; cases hm
    | some z => exact ⟨z, rfl⟩
  have hz' := hz
  rw [List.getLast?_eq_getElem?] at hz'
  have hps := h.ps _ _ _ hz'
  have hv := (h.ch.page x.who x.pg)
  have hvz : vol x.who z = true := by
    obtain ⟨i, hi⟩ := List.getElem?_of_mem hm
    have hil := (List.getElem?_eq_some_iff.1 hi).1
    rcases Nat.lt_or_ge i ((pgOf L x.pg).length - 1) with hlt | hge
    · have hh := List.pairwise_iff_getElem.1 hv i ((pgOf L x.pg).length - 1) hil (by omega) hlt
      have e1 := (List.getElem?_eq_some_iff.1 hi).2
      have e2 := (List.getElem?_eq_some_iff.1 hz').2
      rw [e1, e2] at hh
      exact hh (vol_iff.2 ⟨hd, rfl⟩)
    · have : i = (pgOf L x.pg).length - 1 := by omega
      subst this
      rw [hi] at hz'
      cases hz'
      exact vol_iff.2 ⟨hd, rfl⟩
  obtain ⟨v1, v2⟩ := vol_iff.1 hvz
  unfold whoseW
  rw [lastK_eq hz, if_neg (by
    rintro (e | e)
    · omega
    · rw [v1] at e; cases e)]
  exact congrArg (·, true) v2
theorem LOk.write {nn : Int} {L : List Wr} (h : LOk nn L) {w : Int × Int} {p : Nat} (hp : (p : Int) < nn) {B : List Int} (hB : B.length = 96) (hw : ¬ ((whoseW (pgOf L p)).2 = true ∧ (whoseW (pgOf L p)).1 ≠ w)) :
    LOk nn (L ++ [⟨w.1, w.2, p, ((pgOf L p).length + 1 : Nat), B, false⟩]) := by
  refine ⟨fun x hx => ?_, fun x hx => ?_, fun q k x hx => ?_, ?_⟩
  · rcases List.mem_append.1 hx with hx | hx
    · exact h.ok x hx
    · obtain rfl : x = _ := by simpa using hx
      exact hB
  · rcases List.mem_append.1 hx with hx | hx
    · exact h.pg x hx
    · obtain rfl : x = _ := by simpa using hx
      exact ⟨Int.natCast_nonneg _, hp⟩
  · rw [pgOf_app, pgOf_one] at hx
    split at hx
    · rename_i e
      have e : (p : Int) = q := e
      subst e
      rcases Nat.lt_or_ge k (pgOf L p).length with hk | hk
      · rw [List.getElem?_append_left hk] at hx
        exact h.ps _ _ _ hx
      · have hl := (List.getElem?_eq_some_iff.1 hx).1
        simp only [List.length_append, List.length_singleton] at hl
        have : k = (pgOf L p).length := by omega
        subst this
        rw [List.getElem?_append_right (Nat.le_refl _), Nat.sub_self] at hx
        cases hx
        rfl
    · rw [List.append_nil] at hx
      exact h.ps _ _ _ hx
  · refine List.pairwise_append.2 ⟨h.ch, List.pairwise_singleton _ _, fun x hx y hy e hd => ?_⟩
    obtain rfl : y = _ := by simpa using hy
    refine ⟨rfl, ?_⟩
    have e : x.pg = (p : Int) := e
    have hv := whose_vol h hx hd
    rw [e] at hv
    rw [hv] at hw
    exact (Classical.not_not.1 fun hne => hw ⟨rfl, fun e => hne e.symm⟩)
structure Ab (nn : Int) (L : List Wr) (Q : List Pg) (O : List Od) : Prop where
  pg : Pgs Q L
  od : ∀ w, ordOf O w = plOf w [] L
  ne : ∀ o ∈ O, o.l ≠ []
  ok : LOk nn L
theorem plOf_len (w : Int × Int) : ∀ (l pre : List Wr), (plOf w pre l).length ≤ l.length
  | [], _ => Nat.le_refl _
  | x :: l, pre => by
    have := plOf_len w l (pre ++ [x])
    unfold plOf
    split <;> simp only [List.length_cons] <;> omega
theorem plOf_mem (w : Int × Int) : ∀ (l pre : List Wr) (y : Int × Int), y ∈ plOf w pre l → ∃ x ∈ l, y.1 = x.pg ∧ ∃ k : Nat, y.2 = (k : Int) ∧ k < (pgOf (pre ++ l) x.pg).length
  | [], _, y, h => by cases h
  | x :: l, pre, y, h => by
    have ih := plOf_mem w l (pre ++ [x]) y
    rw [List.append_assoc] at ih
    unfold plOf at h
    split at h
    · rcases List.mem_cons.1 h with rfl | h
      · refine ⟨x, by simp, rfl, _, rfl, ?_⟩
        rw [pgOf_app, List.length_append, pgOf_cons, if_pos rfl]
        simp
      · obtain ⟨z, hz, h1⟩ := ih h
        exact ⟨z, by simp [hz], h1⟩
    · obtain ⟨z, hz, h1⟩ := ih h
      exact ⟨z, by simp [hz], h1⟩
theorem Ab.valid {nn : Int} {L : List Wr} {Q : List Pg} {O : List Od} (h : Ab nn L Q O) (hQ : Q.length = 16) (hn : nn ≤ 16) (w : Int × Int) : Valid Q (ordOf O w) := by
  rw [h.od w]
  intro y hy
  obtain ⟨x, hx, h1, k, h2, h3⟩ := plOf_mem w L [] y hy
  obtain ⟨p1, p2⟩ := h.ok.pg x hx
  have hlt : y.1.toNat < Q.length := by rw [hQ]; omega
  have hq := List.getElem?_eq_getElem hlt
  refine ⟨by omega, by omega, _, hq, ?_⟩
  rw [h.pg _ _ hq, show ((y.1.toNat : Nat) : Int) = x.pg by omega, h2]
  exact h3
theorem ordOf_putW (o : Od) (O : List Od) (w : Int × Int) : ordOf (putO o O) w = if w = o.w then o.l else ordOf O w := by
  unfold putO
  cases ha : O.any (fun x => o.w == x.w) with
  | true =>
    simp only
    induction O with
    | nil => simp at ha
    | cons x O ih =>
      unfold ordOf at ih ⊢
      simp only [List.map_cons, List.find?_cons]
      by_cases e : o.w = x.w
      · have e1 : (o.w == x.w) = true := beq_iff_eq.2 e
        simp only [e1]
        by_cases e2 : w = o.w
        · have e3 : (w == o.w) = true := beq_iff_eq.2 e2
          simp [e3, e2]
        · have e3 : (w == o.w) = false := beq_eq_false_iff_ne.2 e2
          have e4 : (w == x.w) = false := beq_eq_false_iff_ne.2 fun e5 => e2 (e5.trans e.symm)
          simp only [e3, e4, if_neg e2]
          cases ha2 : O.any (fun x => o.w == x.w) with
          | true => rw [ih ha2, if_neg e2]
          | false =>
            rw [List.map_congr_left (l := O) (g := id), List.map_id]
            intro y hy
            have := List.any_eq_false.1 ha2 y hy
            simp only [Bool.not_eq_true] at this
            rw [this]
            rfl
      · have e1 : (o.w == x.w) = false := beq_eq_false_iff_ne.2 e
        have ha2 : O.any (fun x => o.w == x.w) = true := by simpa [List.any_cons, e1] using ha
        simp only [e1]
        by_cases e2 : w = x.w
        · have e3 : (w == x.w) = true := beq_iff_eq.2 e2
          have e4 : ¬ w = o.w := fun e5 => e (e5.symm.trans e2)
          simp [e3, e4]
        · have e3 : (w == x.w) = false := beq_eq_false_iff_ne.2 e2
          simp only [e3]
          exact ih ha2
  | false =>
    simp only
    unfold ordOf
    rw [List.find?_append]
    by_cases e2 : w = o.w
    · subst e2
      have : O.find? (fun x => o.w == x.w) = none := by
        rw [List.find?_eq_none]
        intro x hx
        have := List.any_eq_false.1 ha x hx
        simpa using this
      simp [this]
    · have e3 : (w == o.w) = false := beq_eq_false_iff_ne.2 e2
      rw [if_neg e2]
      simp only [List.find?_cons, e3, List.find?_nil, Option.or_none]
theorem ordOf_filterW (O : List Od) (w u : Int × Int) : ordOf (O.filter (fun x => !(w == x.w))) u = if u = w then [] else ordOf O u := by
  induction O with
  | nil => unfold ordOf; simp
  | cons x O ih =>
    unfold ordOf at ih ⊢
    rw [List.filter_cons]
    by_cases e : w = x.w
    · have e1 : (w == x.w) = true := beq_iff_eq.2 e
      simp only [e1, Bool.not_true, Bool.false_eq_true, ↓reduceIte, ih, List.find?_cons]
      by_cases e2 : u = w
      · simp [e2]
      · have e3 : (u == x.w) = false := beq_eq_false_iff_ne.2 fun h => e2 (h.trans e.symm)
        simp only [if_neg e2, e3]
    · have e1 : (w == x.w) = false := beq_eq_false_iff_ne.2 e
      simp only [e1, Bool.not_false, ↓reduceIte, List.find?_cons]
      by_cases e3 : u = x.w
      · have e4 : (u == x.w) = true := beq_iff_eq.2 e3
        have e5 : ¬ u = w := fun h => e (h.symm.trans e3)
        simp only [e4, if_neg e5]
      · have e4 : (u == x.w) = false := beq_eq_false_iff_ne.2 e3
        simp only [e4]
        exact ih
theorem Ab.write {nn : Int} {L : List Wr} {Q : List Pg} {O : List Od} (h : Ab nn L Q O) {w : Int × Int} {p : Nat} {q : Pg} (hq : Q[p]? = some q) (hp : (p : Int) < nn) {B : List Int} (hB : B.length = 96) (hw : ¬ ((whoseW q.l).2 = true ∧ (whoseW q.l).1 ≠ w)) (W' : V) (R' : List Nat) (W2 : V) (R2 : List Nat) :
    Ab nn (L ++ [⟨w.1, w.2, p, (q.l.length + 1 : Nat), B, false⟩]) (Q.set p ⟨q.l ++ [⟨w.1, w.2, p, (q.l.length + 1 : Nat), B, false⟩], W', R'⟩) (putO ⟨w, ordOf O w ++ [((p : Int), (q.l.length : Int))], W2, R2⟩ O) := by
  have hql := h.pg p q hq
  have hpl := (List.getElem?_eq_some_iff.1 hq).1
  refine ⟨fun j r hj => ?_, fun u => ?_, fun o ho => ?_, ?_⟩
  · rw [pgOf_app, pgOf_one]
    by_cases e : p = j
    · subst e
      rw [List.getElem?_set_self hpl] at hj
      cases hj
      rw [if_pos rfl, ← hql]
    · rw [List.getElem?_set_ne e] at hj
      rw [if_neg (fun h : (p : Int) = (j : Int) => e (by omega)), List.append_nil]
      exact h.pg j r hj
  · rw [ordOf_putW, plOf_snoc, List.nil_append]
    by_cases e : u = w
    · subst e
      rw [if_pos rfl, if_pos (by simp [vol, Wr.who]), h.od u, hql]
    · rw [if_neg e, if_neg (fun hv => e ((vol_iff.1 hv).2.symm)), List.append_nil]
      exact h.od u
  · rcases putO_mem ho with rfl | ⟨-, ho⟩
    · simp
    · exact h.ne o ho
  · rw [hql]
    refine h.ok.write hp hB ?_
    rw [← hql]
    exact hw
theorem Ab.dur {nn : Int} {L : List Wr} {Q : List Pg} {O : List Od} (h : Ab nn L Q O) (w : Int × Int) (k : Nat) (W' : V) : Ab nn (T.dur w k L) (marks Q ((ordOf O w).take (min k (ordOf O w).length))) (restO O w (min k (ordOf O w).length) W') := by
  refine ⟨?_, fun u => ?_, fun o ho => ?_, h.ok.dur w k⟩
  · have := marks_dur w L [] k Q h.pg fun x hx => (h.ok.pg x hx).1
    rw [h.od w]
    have e : (plOf w [] L).take (min k (plOf w [] L).length) = (plOf w [] L).take k := by
      rcases Nat.le_total k (plOf w [] L).length with hk | hk
      · rw [Nat.min_eq_left hk]
      · rw [Nat.min_eq_right hk, List.take_length, List.take_of_length_le hk]
    rw [e]
    exact this
  · have hown : (ordOf O w).drop (min k (ordOf O w).length) = plOf w [] (T.dur w k L) := by
      rw [plOf_dur, ← h.od w]
      rcases Nat.le_total k (ordOf O w).length with hk | hk
      · rw [Nat.min_eq_left hk]
      · rw [Nat.min_eq_right hk, List.drop_length, List.drop_of_length_le hk]
    unfold restO
    split
    · rename_i e
      rw [ordOf_filterW]
      split
      · rename_i eu
        subst eu
        rw [← hown, e, List.drop_length]
      · rename_i eu
        rw [plOf_mk eu (dur_mk w L k), h.od u]
    · rw [ordOf_putW]
      simp only
      split
      · rename_i eu
        subst eu
        exact hown
      · rename_i eu
        rw [plOf_mk eu (dur_mk w L k), h.od u]
  · unfold restO at ho
    split at ho
    · exact h.ne o (List.mem_filter.1 ho).1
    · rename_i e
      rcases putO_mem ho with rfl | ⟨-, ho⟩
      · simp only
        intro e'
        rw [List.drop_eq_nil_iff] at e'
        omega
      · exact h.ne o ho
theorem Ab.los {nn : Int} {L : List Wr} {Q : List Pg} {O : List Od} (h : Ab nn L Q O) (w : Int × Int) (k : Nat) : Ab nn (T.los w (T.dur w k L)) (cuts (marks Q ((ordOf O w).take (min k (ordOf O w).length))) ((ordOf O w).drop (min k (ordOf O w).length))) (O.filter (fun x => !(w == x.w))) := by
  have h1 := Ab.dur h w k .nils
  have hdrop : (ordOf O w).drop (min k (ordOf O w).length) = plOf w [] (T.dur w k L) := by
    rw [plOf_dur, ← h.od w]
    rcases Nat.le_total k (ordOf O w).length with hk | hk
    · rw [Nat.min_eq_left hk]
    · rw [Nat.min_eq_right hk, List.drop_length, List.drop_of_length_le hk]
  refine ⟨?_, fun u => ?_, fun o ho => h.ne o (List.mem_filter.1 ho).1, h1.ok.los w⟩
  · rw [hdrop]
    exact cuts_los w (T.dur w k L) [] [] _ (fun x hx => (h1.ok.pg x hx).1) (h1.ok.ch.vol w) fun p q hq => .inl ⟨h1.pg p q hq, rfl⟩
  · rw [ordOf_filterW]
    split
    · rename_i e
      subst e
      exact (plOf_none u _ _ fun x hx => by simpa using (List.mem_filter.1 hx).2).symm
    · rename_i e
      rw [plOf_los e _ [] [] (h1.ok.ch.vol w) (fun p => .inl rfl), plOf_mk e (dur_mk w L k), h.od u]
theorem Ab.new (nn : Int) : Ab nn [] noQ [] := by
  refine ⟨fun p q hq => ?_, fun w => rfl, by simp, LOk.nil nn⟩
  have := (List.mem_replicate.1 (List.mem_of_getElem? hq)).2
  rw [this]
  rfl
theorem ordOf_cp (O : List Od) (w : Int × Int) : ∀ L0, ordOf (cpO L0 O) w = ordOf O w := by
  induction O with
  | nil => intro L0; rfl
  | cons o O ih =>
    intro L0
    unfold ordOf at ih ⊢
    simp only [cpO, List.find?_cons]
    cases w == o.w with
    | true => rfl
    | false => exact ih (L0 + 1)
theorem Ab.copy {nn : Int} {L : List Wr} {Q Q' : List Pg} {O : List Od} (h : Ab nn L Q O) (hQ : Q'.map Pg.l = Q.map Pg.l) (L0 : Nat) : Ab nn L Q' (cpO L0 O) := by
  refine ⟨fun p q hq => ?_, fun w => by rw [ordOf_cp]; exact h.od w, fun o ho => ?_, h.ok⟩
  · have h1 : (Q'.map Pg.l)[p]? = some q.l := by rw [List.getElem?_map, hq]; rfl
    rw [hQ, List.getElem?_map, Option.map_eq_some_iff] at h1
    obtain ⟨r, hr, e⟩ := h1
    rw [← e]
    exact h.pg p r hr
  · obtain ⟨i, hi⟩ := List.getElem?_of_mem ho
    have hil : i < O.length := by have := (List.getElem?_eq_some_iff.1 hi).1; rwa [cpO_len] at this
    have hr := List.getElem?_eq_getElem hil
    rw [cpO_get hr] at hi
    cases hi
    exact h.ne (O[i]) (List.getElem_mem hil)
end Go.Am.T


set_option linter.unusedVariables false
set_option linter.unusedSimpArgs false
set_option linter.unusedSectionVars false
set_option maxRecDepth 10000
namespace Go.Am.T
attribute [local congr] selV_congr impB_congr
theorem PRow.read {H : Heap} {W : V} {l : List Wr} {R : List Nat} (h : PRow H W l R) (hne : l ≠ []) : ∃ o ver, ∀ (k : Nat) (x : Wr), l[k]? = some x → x.Ok ∧ iaddrSA 101 W (.int .i64 (k : Int)) = some (.ret (.ptr o ver (k * 101))) ∧
    (∀ j n, j + n ≤ 101 → loadA (fun o => H[o]?) n (.ptr o ver (k * 101 + j)) = some ((x.cs.drop j).take n)) := by
  obtain ⟨hall, ⟨h0, -⟩ | ⟨o, ver, cap, rest, -, hW, ho, hc⟩⟩ := h
  · exact absurd h0 hne
  · refine ⟨o, ver, fun k x hk => ?_⟩
    have hkl := (List.getElem?_eq_some_iff.1 hk).1
    have hl := flatW_len hall
    refine ⟨hall x (List.mem_of_getElem? hk), ?_, fun j n hjn => ?_⟩
    · rw [hW]
      have g0 : (0 : Int) ≤ (k : Int) := by omega
      have g1 : (k : Int) < (l.length : Int) := by omega
      simp [iaddrSA, indexedI, intOf?, g0, g1]
    · simp only [loadA, cellsAt, ho, ↓reduceIte]
      rw [if_pos (by rw [List.length_append, hl]; omega), ← flatW_at hall hk rest, List.drop_take, List.take_take, List.drop_drop, Nat.min_eq_left (by omega)]
theorem Wr.c0 (x : Wr) : (x.cs.drop 0).take 2 = [.int .i64 x.nd, .int .i64 x.ep] := rfl
theorem Wr.c3 (x : Wr) : (x.cs.drop 3).take 1 = [.int .i64 x.ps] := rfl
theorem Wr.cv {x : Wr} (h : x.Ok) : (x.cs.drop 3).take 97 = .int .i64 x.ps :: x.b.map (V.int .u8) := by
  unfold Wr.Ok at h
  have : x.cs.drop 3 = (.int .i64 x.ps :: x.b.map (V.int .u8)) ++ [.bool x.du] := rfl
  rw [this, List.take_append_of_le_length (by simp [h]), List.take_of_length_le (by simp [h])]
theorem Wr.cd {x : Wr} (h : x.Ok) : (x.cs.drop 100).take 1 = [.bool x.du] := by
  unfold Wr.Ok at h
  unfold Wr.cs Wr.hd
  rw [List.drop_append, List.drop_of_length_le (by simp), List.nil_append, List.drop_append, List.drop_of_length_le (by simp; omega), List.length_map, h]
  rfl
end Go.Am.T


set_option linter.unusedVariables false
set_option linter.unusedSimpArgs false
set_option linter.unusedSectionVars false
set_option maxRecDepth 10000
namespace Go.Am.T
def opW (nn : Int) (L : List Wr) (w : Int × Int) (p : Int) (B : List Int) : (Int × Int) × List Wr :=
  if badA nn w p 0 = true then ((0, 2), L)
  else if (whoseW (pgOf L p)).2 = true ∧ (whoseW (pgOf L p)).1 ≠ w then ((0, 11), L)
  else if (pgOf L p).length = 4096 then ((0, 5), L)
  else ((((pgOf L p).length + 1 : Nat), 0), L ++ [⟨w.1, w.2, p, ((pgOf L p).length + 1 : Nat), B, false⟩])
def opD (nn : Int) (L : List Wr) (w : Int × Int) (k : Int) : (Int × Int) × List Wr :=
  if badA nn w 0 k = true then ((0, 2), L) else (((min k.toNat (plOf w [] L).length : Nat), 0), dur w k.toNat L)
def opL (nn : Int) (L : List Wr) (w : Int × Int) (k : Int) : (Int × Int) × List Wr :=
  if badA nn w 0 k = true then ((0, 2), L) else ((((plOf w [] L).length - min k.toNat (plOf w [] L).length : Nat), 0), los w (dur w k.toNat L))
structure Md (H : Heap) (a m : Nat) (nn : Int) (L : List Wr) (Q : List Pg) (O : List Od) : Prop where
  at_ : MdAt H a m nn Q O
  ab : Ab nn L Q O
  n1 : 1 ≤ nn
  n16 : nn ≤ 16
theorem badA_k {nn : Int} {w : Int × Int} {p k : Int} (h : badA nn w p k = false) : 0 ≤ k ∧ 0 ≤ p ∧ p < nn := by
  unfold badA at h
  simp only [Bool.or_eq_false_iff, decide_eq_false_iff_not] at h
  omega
theorem pgOf_len (L : List Wr) (p : Int) : (pgOf L p).length ≤ L.length := List.length_filter_le _ _
theorem Md.page {H : Heap} {a m : Nat} {nn : Int} {L : List Wr} {Q : List Pg} {O : List Od} (h : Md H a m nn L Q O) {p : Nat} (hp : p < 16) : ∃ q, Q[p]? = some q ∧ q.l = pgOf L p := by
  have hq := List.getElem?_eq_getElem (show p < Q.length by rw [h.at_.q16]; exact hp)
  exact ⟨_, hq, h.ab.pg p _ hq⟩
theorem write_md {N n : Nat} (hN : 5000 ≤ N) (hn : 8 ≤ n) {H : Heap} {a m : Nat} {nn : Int} {L : List Wr} {Q : List Pg} {O : List Od} (h : Md H a m nn L Q O) (hL : L.length ≤ 4096) (w : Int × Int) (p : Int) {B : List Int} (hB : B.length = 96) :
    ∃ H' Q' O', callA am N n 11 [.ptr a 1 0, .agg (pcs w), .int .i64 p, .agg (B.map (V.int .u8))] H = some (.tup [.int .i64 (opW nn L w p B).1.1, .int .i64 (opW nn L w p B).1.2], H') ∧ Md H' a m nn (opW nn L w p B).2 Q' O' ∧ Bey H H' a m Q Q' O O' := by
  unfold opW
  by_cases hb : badA nn w p 0 = true
  · obtain ⟨v', H', c, rfl, tl, rfl⟩ := @write_bad N n (by omega) H a m nn Q O h.at_ h.n1 w p hb (B.map (V.int .u8))
    rw [if_pos hb]
    exact ⟨_, Q, O, c, ⟨h.at_.app _, h.ab, h.n1, h.n16⟩, Bey.app _⟩
  · rw [if_neg hb]
    have hb : badA nn w p 0 = false := by simpa using hb
    obtain ⟨-, p0, pn⟩ := badA_k hb
    obtain ⟨p, rfl⟩ : ∃ p' : Nat, p = (p' : Int) := ⟨p.toNat, by omega⟩
    have n16 := h.n16
    obtain ⟨q, hq, hql⟩ := h.page (p := p) (by omega)
    have hplen := pgOf_len L p
    have hol := plOf_len w L []
    obtain ⟨v', H', c, hc⟩ := @write_spec N n hN hn H a m nn Q O h.at_ h.n1 w p hb q hq (by rw [hql]; omega) B hB (by rw [h.ab.od w]; omega)
    rw [← hql]
    rcases hc with ⟨c1, c2, rfl, M, B1⟩ | ⟨c1, c2, rfl, M, B1⟩ | ⟨c1, c2, rfl, W', R', W2, R2, M, B1⟩
    · rw [if_pos ⟨c1, c2⟩]
      exact ⟨_, Q, O, c, ⟨M, h.ab, h.n1, h.n16⟩, B1⟩
    · rw [if_neg c1, if_pos c2]
      exact ⟨_, Q, O, c, ⟨M, h.ab, h.n1, h.n16⟩, B1⟩
    · rw [if_neg c1, if_neg (by omega)]
      exact ⟨_, _, _, c, ⟨M, h.ab.write hq pn hB c1 W' R' W2 R2, h.n1, h.n16⟩, B1⟩
theorem lose_md {N n : Nat} (hN : 5000 ≤ N) (hn : 8 ≤ n) {H : Heap} {a m : Nat} {nn : Int} {L : List Wr} {Q : List Pg} {O : List Od} (h : Md H a m nn L Q O) (hL : L.length ≤ 4096) (w : Int × Int) (k : Int) :
    ∃ H' Q' O', callA am N n 13 [.ptr a 1 0, .agg (pcs w), .int .i64 k] H = some (.tup [.int .i64 (opL nn L w k).1.1, .int .i64 (opL nn L w k).1.2], H') ∧ Md H' a m nn (opL nn L w k).2 Q' O' ∧ Bey H H' a m Q Q' O O' := by
  unfold opL
  by_cases hb : badA nn w 0 k = true
  · obtain ⟨v', H', c, rfl, tl, rfl⟩ := @lose_bad N n (by omega) H a m nn Q O h.at_ h.n1 w k hb
    rw [if_pos hb]
    exact ⟨_, Q, O, c, ⟨h.at_.app _, h.ab, h.n1, h.n16⟩, Bey.app _⟩
  · rw [if_neg hb]
    have hb : badA nn w 0 k = false := by simpa using hb
    obtain ⟨k0, -, -⟩ := badA_k hb
    obtain ⟨k, rfl⟩ : ∃ k' : Nat, k = (k' : Int) := ⟨k.toNat, by omega⟩
    have hol := plOf_len w L []
    obtain ⟨v', H', c, rfl, M, B1⟩ := @lose_spec N n hN (by omega) H a m nn Q O h.at_ h.n1 w k hb (h.ab.valid h.at_.q16 h.n16 w) (by rw [h.ab.od w]; omega)
    simp only [Int.toNat_natCast]
    rw [h.ab.od w] at c
    exact ⟨_, _, _, c, ⟨M, h.ab.los w k, h.n1, h.n16⟩, B1⟩
theorem Md.app {H : Heap} {a m : Nat} {nn : Int} {L : List Wr} {Q : List Pg} {O : List Od} (h : Md H a m nn L Q O) (l : Heap) : Md (H ++ l) a m nn L Q O := ⟨h.at_.app l, h.ab, h.n1, h.n16⟩
theorem Md.set {H : Heap} {a m : Nat} {nn : Int} {L : List Wr} {Q : List Pg} {O : List Od} (h : Md H a m nn L Q O) {o : Nat} (y : Ob) (ho : ¬ Own a m Q O o) : Md (H.set o y) a m nn L Q O := ⟨h.at_.set y ho, h.ab, h.n1, h.n16⟩
theorem Md.keep {H H' : Heap} {a m : Nat} {nn : Int} {L : List Wr} {Q : List Pg} {O : List Od} (h : Md H a m nn L Q O) (hk : ∀ x, Own a m Q O x → H'[x]? = H[x]?) : Md H' a m nn L Q O := ⟨h.at_.keep hk, h.ab, h.n1, h.n16⟩
structure Went (kind : Int) (w : Int × Int) (a b : List Wr) : Prop where
  same : ∀ (k : Nat) (x y : Wr), a[k]? = some x → b[k]? = some y → y.ps = x.ps ∧ y.b = x.b ∧ y.nd = x.nd ∧ y.ep = x.ep ∧ (x.du = true → y.du = true)
  gone : ∀ (k : Nat) (x : Wr), b.length ≤ k → a[k]? = some x → x.du = false ∧ x.nd = w.1 ∧ x.ep = w.2 ∧ kind = 3
  more : kind ≠ 1 → b.length ≤ a.length
theorem Went.refl (kind : Int) (w : Int × Int) (a : List Wr) : Went kind w a a :=
  ⟨fun k x y hx hy => by rw [hx] at hy; cases hy; exact ⟨rfl, rfl, rfl, rfl, fun h => h⟩, fun k x hk hx => by have := (List.getElem?_eq_some_iff.1 hx).1; omega, fun _ => Nat.le_refl _⟩
theorem Went.write (nn : Int) (L : List Wr) (w : Int × Int) (p : Int) (B : List Int) (j : Int) : Went 1 w (pgOf L j) (pgOf (opW nn L w p B).2 j) := by
  unfold opW
  split
  · exact .refl _ _ _
  split
  · exact .refl _ _ _
  split
  · exact .refl _ _ _
  · simp only
    rw [pgOf_app]
    refine ⟨fun k x y hx hy => ?_, fun k x hk hx => ?_, fun h => absurd rfl h⟩
    · rw [List.getElem?_append_left (List.getElem?_eq_some_iff.1 hx).1, hx] at hy
      cases hy
      exact ⟨rfl, rfl, rfl, rfl, fun h => h⟩
    · have := (List.getElem?_eq_some_iff.1 hx).1
      rw [List.length_append] at hk
      omega
theorem MkL.went {w : Int × Int} {kind : Int} {b a : List Wr} (h : MkL w b a) : Went kind w a b := by
  refine ⟨fun k x y hx hy => ?_, fun k x hk hx => ?_, fun _ => by rw [h.len]; exact Nat.le_refl _⟩
  · obtain ⟨z, h1, h2⟩ := h.get hy
    rw [hx] at h1
    cases h1
    rcases h2 with rfl | ⟨-, rfl⟩
    · exact ⟨rfl, rfl, rfl, rfl, fun h => h⟩
    · exact ⟨rfl, rfl, rfl, rfl, fun _ => rfl⟩
  · have := (List.getElem?_eq_some_iff.1 hx).1
    rw [h.len] at hk
    omega
theorem Went.dur (nn : Int) (L : List Wr) (w : Int × Int) (k : Int) (j : Int) : Went 2 w (pgOf L j) (pgOf (opD nn L w k).2 j) := by
  unfold opD
  split
  · exact .refl _ _ _
  · exact ((dur_mk w L _).pg j).went
theorem Went.los {nn : Int} {L : List Wr} (h : LOk nn L) (w : Int × Int) (k : Int) (j : Int) : Went 3 w (pgOf L j) (pgOf (opL nn L w k).2 j) := by
  unfold opL
  split
  · exact .refl _ _ _
  · simp only
    have hm := (dur_mk w L k.toNat).pg j
    have h1 : Went 3 w (pgOf L j) (pgOf (T.dur w k.toNat L) j) := hm.went
    obtain ⟨t, e, ht⟩ := los_pre (h.dur w k.toNat).ch w j
    refine ⟨fun i x y hx hy => ?_, fun i x hi hx => ?_, fun _ => ?_⟩
    · refine h1.same i x y hx ?_
      rw [e, List.getElem?_append_left (List.getElem?_eq_some_iff.1 hy).1]
      exact hy
    · have hil := (List.getElem?_eq_some_iff.1 hx).1
      have hlen := hm.len
      have hi' := List.getElem?_eq_getElem (show i < (pgOf (T.dur w k.toNat L) j).length by omega)
      generalize (pgOf (T.dur w k.toNat L) j)[i]'(by omega) = y at hi'
      obtain ⟨z, z1, z2⟩ := hm.get hi'
      rw [hx] at z1
      cases z1
      rw [e, List.getElem?_append_right hi] at hi'
      have hv := vol_iff.1 (ht y (List.mem_of_getElem? hi'))
      rcases z2 with rfl | ⟨-, rfl⟩
      · obtain ⟨q1, q2⟩ := hv
        unfold Wr.who at q2
        exact ⟨q1, by rw [← q2], by rw [← q2], rfl⟩
      · cases hv.1
    · have := hm.len
      rw [e, List.length_append] at this
      omega
theorem Chain.next {L : List Wr} (h : Chain L) (p : Int) : ∀ (k : Nat) (x y : Wr), (pgOf L p)[k]? = some x → (pgOf L p)[k + 1]? = some y → x.du = false → y.du = false ∧ y.nd = x.nd ∧ y.ep = x.ep := by
  intro k x y hx hy hd
  have hp := h.page x.who p
  obtain ⟨l1, e1⟩ := List.getElem?_eq_some_iff.1 hx
  obtain ⟨l2, e2⟩ := List.getElem?_eq_some_iff.1 hy
  have hh := List.pairwise_iff_getElem.1 hp k (k + 1) l1 l2 (by omega)
  rw [e1, e2] at hh
  obtain ⟨q1, q2⟩ := vol_iff.1 (hh (vol_iff.2 ⟨hd, rfl⟩))
  unfold Wr.who at q2
  simp only [Prod.mk.injEq] at q2
  exact ⟨q1, q2.1, q2.2⟩
end Go.Am.T


set_option linter.unusedVariables false
set_option linter.unusedSimpArgs false
namespace Go.Am
variable {P : Program}
mutual
def bulkD {H : Type} : DataW H → Nat
  | .lit (.string bytes) => bytes.length + 1
  | .lit _ => 1
  | .nil => 1
  | .ptr d => bulkD d + 1
  | .slice elems spare => bulkAllD elems + bulkAllD spare + 1
  | .agg parts => bulkAllD parts + 1
  | .iface _ d => bulkD d + 1
  | .map entries => bulkEntriesD entries + 1
  | .held _ => 1
def bulkAllD {H : Type} : List (DataW H) → Nat
  | [] => 0
  | d :: r => bulkD d + bulkAllD r
def bulkEntriesD {H : Type} : List (Lit × DataW H) → Nat
  | [] => 0
  | x :: r => bulkEntryD x + bulkEntriesD r
def bulkEntryD {H : Type} : Lit × DataW H → Nat
  | (.string bytes, d) => bytes.length + bulkD d + 1
  | (_, d) => bulkD d + 1
end
section
variable {H : Type} {enc : TypeId × Value → H} {w : World} {sp : Nat → Bool} {held : Bool} {g : G} {M : Nat}
end
end Go.Am


set_option linter.unusedVariables false
set_option linter.unusedSimpArgs false
set_option linter.unusedSectionVars false
set_option maxRecDepth 10000
namespace Go.Am.T
attribute [local congr] selV_congr impB_congr
structure St where
  kind : Int
  pg : Int
  n : Int
  nd : Int
  ep : Int
  b : List Int
def St.cs (x : St) : List V := .int .i64 x.kind :: .int .i64 x.pg :: .int .i64 x.n :: .int .i64 x.nd :: .int .i64 x.ep :: x.b.map (V.int .u8)
theorem Own.app {a m : Nat} {Q : List Pg} {O : List Od} {H : Heap} {nn : Int} {L : List Wr} (M : Md H a m nn L Q O) {x : Nat} (h : Own a m Q O x) : x < H.length := M.at_.lt x h
end Go.Am.T


set_option linter.unusedVariables false
set_option linter.unusedSimpArgs false
set_option linter.unusedSectionVars false
set_option maxRecDepth 10000
namespace Go.Am.T
attribute [local congr] selV_congr impB_congr
def Gone (N : Nat) (m : V) (H : Heap) : Prop := ∀ n T, 1 ≤ n → callA am N n 26 [m] (H ++ T) = some (.bool false, H ++ T)
theorem Gone.app {N : Nat} {m : V} {H : Heap} (h : Gone N m H) (T : Heap) : Gone N m (H ++ T) := fun n T' hn => by rw [List.append_assoc]; exact h n (T ++ T') hn
theorem Gone.self {N n : Nat} {m : V} {H : Heap} (h : Gone N m H) (hn : 1 ≤ n) : callA am N n 26 [m] H = some (.bool false, H) := by have := h n [] hn; rwa [List.append_nil] at this
theorem gone_nil (N : Nat) (H : Heap) : Gone N .nilp H := fun n T hn => by
  obtain ⟨n, rfl⟩ : ∃ m, n = m + 1 := ⟨n - 1, by omega⟩
  refine call_keep_eq at26 rfl rfl (by decide) (sx_wp ?_)
  simp +contextual -implicitDefEqProofs (maxSteps := 10000000) only [sxb, plainD, stays, ↓selV_wt, ↓selV_wf, ↓impB_wt, ↓impB_wf, ↓selV_nor, ↓impB_nor, ↓selV_nt, ↓selV_nf, ↓impB_nt, ↓impB_nf, ↓selV_true, ↓selV_false, ↓selV_and, ↓impB_true, ↓impB_false, ↓impB_and, ↓prim_pick, ↓selV_nn, ↓impB_nn, doOp, get, ins, del, dels, Nat.reduceLT, Nat.reduceEqDiff, ↓reduceIte, reduceCtorEq, ne_eq, implies_true, prim, YLD, mkA, V.cells, Nat.reduceAdd, Nat.reduceSub, Nat.reduceMul, Nat.reduceLeDiff, loadA, cellsAt, nAg, packA, List.drop, List.take, List.head?, binA, unA, eqCells, eqCell, negB, fillA, storeA, Ob.with, indexedI, V.oneCell, intOf?, resA, resA1, packR, sealDepth, Int.reduceLT, Int.reduceLE, Int.reduceToNat, Int.reduceNeg, Int.reduceAdd, Int.reduceSub, Int.reduceMul, cond_true, cond_false, Int.reduceBNe, Int.reduceBEq, eq_self, deads, List.replicate, argsF, am26, isNil, List.append_nil]
def zMd : List V := [.nils, .nils, .nils, .nils, .nils, .nils, .nils, .nils, .nils, .nils, .nils, .nils, .nils, .nils, .nils, .nils, .int .i64 0, .nilm]
theorem gone_zero (N : Nat) {H : Heap} {a v : Nat} (ha : H[a]? = some ⟨v, .var zMd⟩) : Gone N (.ptr a v 0) H := fun n T hn => by
  obtain ⟨n, rfl⟩ : ∃ m, n = m + 1 := ⟨n - 1, by omega⟩
  have hT : (H ++ T)[a]? = some ⟨v, .var zMd⟩ := by rw [List.getElem?_append_left (lt_of_get ha)]; exact ha
  unfold zMd at hT
  have g : decide ((0 : Int) > 0) = false := rfl
  refine call_keep_eq at26 rfl rfl (by decide) (sx_wp ?_)
  simp +contextual -implicitDefEqProofs (maxSteps := 10000000) only [sxb, plainD, stays, ↓selV_wt, ↓selV_wf, ↓impB_wt, ↓impB_wf, ↓selV_nor, ↓impB_nor, ↓selV_nt, ↓selV_nf, ↓impB_nt, ↓impB_nf, ↓selV_true, ↓selV_false, ↓selV_and, ↓impB_true, ↓impB_false, ↓impB_and, ↓prim_pick, ↓selV_nn, ↓impB_nn, doOp, get, ins, del, dels, Nat.reduceLT, Nat.reduceEqDiff, ↓reduceIte, reduceCtorEq, ne_eq, implies_true, prim, YLD, mkA, V.cells, Nat.reduceAdd, Nat.reduceSub, Nat.reduceMul, Nat.reduceLeDiff, loadA, cellsAt, nAg, packA, List.drop, List.take, List.head?, binA, unA, eqCells, eqCell, negB, fillA, storeA, Ob.with, indexedI, V.oneCell, intOf?, resA, resA1, packR, sealDepth, Int.reduceLT, Int.reduceLE, Int.reduceToNat, Int.reduceNeg, Int.reduceAdd, Int.reduceSub, Int.reduceMul, cond_true, cond_false, Int.reduceBNe, Int.reduceBEq, eq_self, deads, List.replicate, argsF, am26, isNil, List.append_nil, hT, g]
theorem ask_gone {N n : Nat} (hn : 2 ≤ n) {m : V} {H : Heap} (h : Gone N m H) (w : List V) (p k : V) (hw : w.length = 2) : callA am N n 29 [m, .agg w, p, k] H = some (.int .i64 1, H ++ [⟨1, .var w⟩]) := by
  obtain ⟨n, rfl⟩ : ∃ m, n = m + 1 := ⟨n - 1, by omega⟩
  have c := h n [⟨1, .var w⟩] (by omega)
  refine am29_wp rfl ?_
  simp +contextual -implicitDefEqProofs (maxSteps := 10000000) only [sxb, plainD, stays, ↓selV_wt, ↓selV_wf, ↓impB_wt, ↓impB_wf, ↓selV_nor, ↓impB_nor, ↓selV_nt, ↓selV_nf, ↓impB_nt, ↓impB_nf, ↓selV_true, ↓selV_false, ↓selV_and, ↓impB_true, ↓impB_false, ↓impB_and, ↓prim_pick, ↓selV_nn, ↓impB_nn, doOp, get, ins, del, dels, Nat.reduceLT, Nat.reduceEqDiff, ↓reduceIte, reduceCtorEq, ne_eq, implies_true, prim, YLD, mkA, V.cells, Nat.reduceAdd, Nat.reduceSub, Nat.reduceMul, Nat.reduceLeDiff, loadA, cellsAt, nAg, packA, List.drop, List.take, List.head?, binA, unA, eqCells, eqCell, negB, fillA, storeA, Ob.with, indexedI, V.oneCell, intOf?, resA, resA1, packR, sealDepth, Int.reduceLT, Int.reduceLE, Int.reduceToNat, Int.reduceNeg, Int.reduceAdd, Int.reduceSub, Int.reduceMul, cond_true, cond_false, Int.reduceBNe, Int.reduceBEq, eq_self, deads, List.replicate, argsF, am29, app_get0, app_get, app_set0, app_set, c]
theorem write_gone {N n : Nat} (hn : 3 ≤ n) {m : V} {H : Heap} (h : Gone N m H) (nd ep : V) (p : V) (B : List V) : ∃ v' H', callA am N n 11 [m, .agg [nd, ep], p, .agg B] H = some (v', H') ∧ v' = .tup [.int .i64 0, .int .i64 1] ∧ ∃ tl, H' = H ++ tl := by
  obtain ⟨n, rfl⟩ : ∃ m, n = m + 1 := ⟨n - 1, by omega⟩
  have c29 := fun T => @ask_gone N n (by omega) _ _ (h.app T) [nd, ep] p (.int .i64 0) rfl
  refine am11_wp rfl ?_
  simp +contextual -implicitDefEqProofs (maxSteps := 10000000) only [sxb, plainD, stays, ↓selV_wt, ↓selV_wf, ↓impB_wt, ↓impB_wf, ↓selV_nor, ↓impB_nor, ↓selV_nt, ↓selV_nf, ↓impB_nt, ↓impB_nf, ↓selV_true, ↓selV_false, ↓selV_and, ↓impB_true, ↓impB_false, ↓impB_and, ↓prim_pick, ↓selV_nn, ↓impB_nn, doOp, get, ins, del, dels, Nat.reduceLT, Nat.reduceEqDiff, ↓reduceIte, reduceCtorEq, ne_eq, implies_true, prim, YLD, mkA, V.cells, Nat.reduceAdd, Nat.reduceSub, Nat.reduceMul, Nat.reduceLeDiff, loadA, cellsAt, nAg, packA, List.drop, List.take, List.head?, binA, unA, eqCells, eqCell, negB, fillA, storeA, Ob.with, indexedI, V.oneCell, intOf?, resA, resA1, packR, sealDepth, Int.reduceLT, Int.reduceLE, Int.reduceToNat, Int.reduceNeg, Int.reduceAdd, Int.reduceSub, Int.reduceMul, cond_true, cond_false, Int.reduceBNe, Int.reduceBEq, eq_self, deads, List.replicate, argsF, am11, app_get0, app_get, app_set0, app_set, c29, List.append_assoc]
  exact ⟨_, rfl⟩
theorem durable_gone {N n : Nat} (hn : 3 ≤ n) {m : V} {H : Heap} (h : Gone N m H) (nd ep k : V) : ∃ v' H', callA am N n 12 [m, .agg [nd, ep], k] H = some (v', H') ∧ v' = .tup [.int .i64 0, .int .i64 1] ∧ ∃ tl, H' = H ++ tl := by
  obtain ⟨n, rfl⟩ : ∃ m, n = m + 1 := ⟨n - 1, by omega⟩
  have c29 := fun T => @ask_gone N n (by omega) _ _ (h.app T) [nd, ep] (.int .i64 0) k rfl
  refine am12_wp rfl ?_
  simp +contextual -implicitDefEqProofs (maxSteps := 10000000) only [sxb, plainD, stays, ↓selV_wt, ↓selV_wf, ↓impB_wt, ↓impB_wf, ↓selV_nor, ↓impB_nor, ↓selV_nt, ↓selV_nf, ↓impB_nt, ↓impB_nf, ↓selV_true, ↓selV_false, ↓selV_and, ↓impB_true, ↓impB_false, ↓impB_and, ↓prim_pick, ↓selV_nn, ↓impB_nn, doOp, get, ins, del, dels, Nat.reduceLT, Nat.reduceEqDiff, ↓reduceIte, reduceCtorEq, ne_eq, implies_true, prim, YLD, mkA, V.cells, Nat.reduceAdd, Nat.reduceSub, Nat.reduceMul, Nat.reduceLeDiff, loadA, cellsAt, nAg, packA, List.drop, List.take, List.head?, binA, unA, eqCells, eqCell, negB, fillA, storeA, Ob.with, indexedI, V.oneCell, intOf?, resA, resA1, packR, sealDepth, Int.reduceLT, Int.reduceLE, Int.reduceToNat, Int.reduceNeg, Int.reduceAdd, Int.reduceSub, Int.reduceMul, cond_true, cond_false, Int.reduceBNe, Int.reduceBEq, eq_self, deads, List.replicate, argsF, am12, app_get0, app_get, app_set0, app_set, c29, List.append_assoc]
  exact ⟨_, rfl⟩
theorem lose_gone {N n : Nat} (hn : 4 ≤ n) {m : V} {H : Heap} (h : Gone N m H) (nd ep k : V) : ∃ v' H', callA am N n 13 [m, .agg [nd, ep], k] H = some (v', H') ∧ v' = .tup [.int .i64 0, .int .i64 1] ∧ ∃ tl, H' = H ++ tl := by
  obtain ⟨n, rfl⟩ : ∃ m, n = m + 1 := ⟨n - 1, by omega⟩
  obtain ⟨v', H', c12, rfl, tl, rfl⟩ := @durable_gone N n (by omega) _ _ (h.app [⟨1, .var [nd, ep]⟩, ⟨0, .dead⟩]) nd ep k
  refine am13_wp rfl ?_
  simp +contextual -implicitDefEqProofs (maxSteps := 10000000) only [sxb, plainD, stays, ↓selV_wt, ↓selV_wf, ↓impB_wt, ↓impB_wf, ↓selV_nor, ↓impB_nor, ↓selV_nt, ↓selV_nf, ↓impB_nt, ↓impB_nf, ↓selV_true, ↓selV_false, ↓selV_and, ↓impB_true, ↓impB_false, ↓impB_and, ↓prim_pick, ↓selV_nn, ↓impB_nn, doOp, get, ins, del, dels, Nat.reduceLT, Nat.reduceEqDiff, ↓reduceIte, reduceCtorEq, ne_eq, implies_true, prim, YLD, mkA, V.cells, Nat.reduceAdd, Nat.reduceSub, Nat.reduceMul, Nat.reduceLeDiff, loadA, cellsAt, nAg, packA, List.drop, List.take, List.head?, binA, unA, eqCells, eqCell, negB, fillA, storeA, Ob.with, indexedI, V.oneCell, intOf?, resA, resA1, packR, sealDepth, Int.reduceLT, Int.reduceLE, Int.reduceToNat, Int.reduceNeg, Int.reduceAdd, Int.reduceSub, Int.reduceMul, cond_true, cond_false, Int.reduceBNe, Int.reduceBEq, eq_self, deads, List.replicate, argsF, am13, app_get0, app_get, app_set0, app_set, c12, List.append_assoc]
  exact ⟨_, rfl⟩
theorem am45_wp {N n : Nat} {args : List V} {h : Heap} {C : V → Heap → Prop} (ha : args.length = 3) (H : sx ⟨pureOf am, callA am N n, N, h.length⟩ am45.body (fr am45.nt (argsF 0 args)) (h ++ deads am45.sites) (retQ am45.res C)) : ∃ v h', callA am N (n + 1) 45 args h = some (v, h') ∧ C v h' :=
  call_keep at45 rfl ha (by decide) (sx_wp H)
theorem am21_wp {N n : Nat} {args : List V} {h : Heap} {C : V → Heap → Prop} (ha : args.length = 2) (H : sx ⟨pureOf am, callA am N n, N, h.length⟩ am21.body (fr am21.nt (argsF 0 args)) (h ++ deads am21.sites) (retQ am21.res C)) : ∃ v h', callA am N (n + 1) 21 args h = some (v, h') ∧ C v h' :=
  call_keep at21 rfl ha (by decide) (sx_wp H)
theorem am23_wp {N n : Nat} {args : List V} {h : Heap} {C : V → Heap → Prop} (ha : args.length = 2) (H : sx ⟨pureOf am, callA am N n, N, h.length⟩ am23.body (fr am23.nt (argsF 0 args)) (h ++ deads am23.sites) (retQ am23.res C)) : ∃ v h', callA am N (n + 1) 23 args h = some (v, h') ∧ C v h' :=
  call_keep at23 rfl ha (by decide) (sx_wp H)
def zV : List V := [.int .i64 0, .int .u8 0, .int .u8 0, .int .u8 0, .int .u8 0, .int .u8 0, .int .u8 0, .int .u8 0, .int .u8 0, .int .u8 0, .int .u8 0, .int .u8 0, .int .u8 0, .int .u8 0, .int .u8 0, .int .u8 0, .int .u8 0, .int .u8 0, .int .u8 0, .int .u8 0, .int .u8 0, .int .u8 0, .int .u8 0, .int .u8 0, .int .u8 0, .int .u8 0, .int .u8 0, .int .u8 0, .int .u8 0, .int .u8 0, .int .u8 0, .int .u8 0, .int .u8 0, .int .u8 0, .int .u8 0, .int .u8 0, .int .u8 0, .int .u8 0, .int .u8 0, .int .u8 0, .int .u8 0, .int .u8 0, .int .u8 0, .int .u8 0, .int .u8 0, .int .u8 0, .int .u8 0, .int .u8 0, .int .u8 0, .int .u8 0, .int .u8 0, .int .u8 0, .int .u8 0, .int .u8 0, .int .u8 0, .int .u8 0, .int .u8 0, .int .u8 0, .int .u8 0, .int .u8 0, .int .u8 0, .int .u8 0, .int .u8 0, .int .u8 0, .int .u8 0, .int .u8 0, .int .u8 0, .int .u8 0, .int .u8 0, .int .u8 0, .int .u8 0, .int .u8 0, .int .u8 0, .int .u8 0, .int .u8 0, .int .u8 0, .int .u8 0, .int .u8 0, .int .u8 0, .int .u8 0, .int .u8 0, .int .u8 0, .int .u8 0, .int .u8 0, .int .u8 0, .int .u8 0, .int .u8 0, .int .u8 0, .int .u8 0, .int .u8 0, .int .u8 0, .int .u8 0, .int .u8 0, .int .u8 0, .int .u8 0, .int .u8 0, .int .u8 0]
theorem top_bad {N n : Nat} (hn : 3 ≤ n) {m : V} {H : Heap} {e : Int} (he : e ≠ 0) (p : V) (f : Nat) (h : ∀ T, callA am N (n - 1) 29 [m, .agg [.int .i64 0, .int .i64 1], p, .int .i64 0] (H ++ T) = some (.int .i64 e, H ++ T ++ [⟨1, .var [.int .i64 0, .int .i64 1]⟩])) : ∃ v' H', callA am N n 45 [m, p, .func f [] []] H = some (v', H') ∧ v' = .tup [.agg zV, .int .i64 e] ∧ ∃ tl, H' = H ++ tl := by
  obtain ⟨n, rfl⟩ : ∃ m, n = m + 1 := ⟨n - 1, by omega⟩
  have he' : (e != 0) = true := by simpa using he
  rw [Nat.add_sub_cancel] at h
  refine am45_wp rfl ?_
  simp +contextual -implicitDefEqProofs (maxSteps := 10000000) only [sxb, plainD, stays, ↓selV_wt, ↓selV_wf, ↓impB_wt, ↓impB_wf, ↓selV_nor, ↓impB_nor, ↓selV_nt, ↓selV_nf, ↓impB_nt, ↓impB_nf, ↓selV_true, ↓selV_false, ↓selV_and, ↓impB_true, ↓impB_false, ↓impB_and, ↓prim_pick, ↓selV_nn, ↓impB_nn, doOp, get, ins, del, dels, Nat.reduceLT, Nat.reduceEqDiff, ↓reduceIte, reduceCtorEq, ne_eq, implies_true, prim, YLD, mkA, V.cells, Nat.reduceAdd, Nat.reduceSub, Nat.reduceMul, Nat.reduceLeDiff, loadA, cellsAt, nAg, packA, List.drop, List.take, List.head?, binA, unA, eqCells, eqCell, negB, fillA, storeA, Ob.with, indexedI, V.oneCell, intOf?, resA, resA1, packR, sealDepth, Int.reduceLT, Int.reduceLE, Int.reduceToNat, Int.reduceNeg, Int.reduceAdd, Int.reduceSub, Int.reduceMul, cond_true, cond_false, Int.reduceBNe, Int.reduceBEq, eq_self, deads, List.replicate, argsF, am45, app_get0, app_get, app_set0, app_set, h, List.append_assoc, he']
  exact ⟨rfl, _, rfl⟩
theorem base_gone {N n : Nat} (hn : 4 ≤ n) {m : V} {H : Heap} (h : Gone N m H) (p : V) : ∃ v' H', callA am N n 21 [m, p] H = some (v', H') ∧ v' = .tup [.agg zV, .int .i64 1] ∧ ∃ tl, H' = H ++ tl := by
  obtain ⟨n, rfl⟩ : ∃ m, n = m + 1 := ⟨n - 1, by omega⟩
  obtain ⟨v', H', c, rfl, tl, rfl⟩ := @top_bad N n (by omega) m (H ++ [⟨1, .var zV⟩]) 1 (by decide) p 46 fun T => ask_gone (by omega) ((h.app [⟨1, .var zV⟩]).app T) _ _ _ rfl
  unfold zV at c ⊢
  refine am21_wp rfl ?_
  simp +contextual -implicitDefEqProofs (maxSteps := 10000000) only [sxb, plainD, stays, ↓selV_wt, ↓selV_wf, ↓impB_wt, ↓impB_wf, ↓selV_nor, ↓impB_nor, ↓selV_nt, ↓selV_nf, ↓impB_nt, ↓impB_nf, ↓selV_true, ↓selV_false, ↓selV_and, ↓impB_true, ↓impB_false, ↓impB_and, ↓prim_pick, ↓selV_nn, ↓impB_nn, doOp, get, ins, del, dels, Nat.reduceLT, Nat.reduceEqDiff, ↓reduceIte, reduceCtorEq, ne_eq, implies_true, prim, YLD, mkA, V.cells, Nat.reduceAdd, Nat.reduceSub, Nat.reduceMul, Nat.reduceLeDiff, loadA, cellsAt, nAg, packA, List.drop, List.take, List.head?, binA, unA, eqCells, eqCell, negB, fillA, storeA, Ob.with, indexedI, V.oneCell, intOf?, resA, resA1, packR, sealDepth, Int.reduceLT, Int.reduceLE, Int.reduceToNat, Int.reduceNeg, Int.reduceAdd, Int.reduceSub, Int.reduceMul, cond_true, cond_false, Int.reduceBNe, Int.reduceBEq, eq_self, deads, List.replicate, argsF, am21, app_get0, app_get, app_set0, app_set, c, List.append_assoc]
  exact ⟨_, rfl⟩
theorem youngest_gone {N n : Nat} (hn : 4 ≤ n) {m : V} {H : Heap} (h : Gone N m H) (p : V) : ∃ v' H', callA am N n 23 [m, p] H = some (v', H') ∧ v' = .tup [.agg zV, .int .i64 1] ∧ ∃ tl, H' = H ++ tl := by
  obtain ⟨n, rfl⟩ : ∃ m, n = m + 1 := ⟨n - 1, by omega⟩
  obtain ⟨v', H', c, rfl, tl, rfl⟩ := @top_bad N n (by omega) m (H ++ [⟨1, .var zV⟩]) 1 (by decide) p 48 fun T => ask_gone (by omega) ((h.app [⟨1, .var zV⟩]).app T) _ _ _ rfl
  unfold zV at c ⊢
  refine am23_wp rfl ?_
  simp +contextual -implicitDefEqProofs (maxSteps := 10000000) only [sxb, plainD, stays, ↓selV_wt, ↓selV_wf, ↓impB_wt, ↓impB_wf, ↓selV_nor, ↓impB_nor, ↓selV_nt, ↓selV_nf, ↓impB_nt, ↓impB_nf, ↓selV_true, ↓selV_false, ↓selV_and, ↓impB_true, ↓impB_false, ↓impB_and, ↓prim_pick, ↓selV_nn, ↓impB_nn, doOp, get, ins, del, dels, Nat.reduceLT, Nat.reduceEqDiff, ↓reduceIte, reduceCtorEq, ne_eq, implies_true, prim, YLD, mkA, V.cells, Nat.reduceAdd, Nat.reduceSub, Nat.reduceMul, Nat.reduceLeDiff, loadA, cellsAt, nAg, packA, List.drop, List.take, List.head?, binA, unA, eqCells, eqCell, negB, fillA, storeA, Ob.with, indexedI, V.oneCell, intOf?, resA, resA1, packR, sealDepth, Int.reduceLT, Int.reduceLE, Int.reduceToNat, Int.reduceNeg, Int.reduceAdd, Int.reduceSub, Int.reduceMul, cond_true, cond_false, Int.reduceBNe, Int.reduceBEq, eq_self, deads, List.replicate, argsF, am23, app_get0, app_get, app_set0, app_set, c, List.append_assoc]
  exact ⟨_, rfl⟩
theorem writes_gone {N n : Nat} (hn : 1 ≤ n) {m : V} (hm : m = .nilp ∨ ∃ a v, m = .ptr a v 0) (p : Int) (H : Heap) : callA am N n 30 [m, .int .i64 p] H = some (.func 49 [] [.ptr H.length 1 0, .ptr (H.length + 1) 1 0], H ++ [⟨1, .var [m]⟩, ⟨1, .var [.int .i64 p]⟩]) := by
  obtain ⟨n, rfl⟩ : ∃ m, n = m + 1 := ⟨n - 1, by omega⟩
  rcases hm with rfl | ⟨a, v, rfl⟩ <;>
  · refine call_keep_eq at30 rfl rfl (by decide) (sx_wp ?_)
    simp +contextual -implicitDefEqProofs (maxSteps := 10000000) only [sxb, plainD, stays, ↓selV_wt, ↓selV_wf, ↓impB_wt, ↓impB_wf, ↓selV_nor, ↓impB_nor, ↓selV_nt, ↓selV_nf, ↓impB_nt, ↓impB_nf, ↓selV_true, ↓selV_false, ↓selV_and, ↓impB_true, ↓impB_false, ↓impB_and, ↓prim_pick, ↓selV_nn, ↓impB_nn, doOp, get, ins, del, dels, Nat.reduceLT, Nat.reduceEqDiff, ↓reduceIte, reduceCtorEq, ne_eq, implies_true, prim, YLD, mkA, V.cells, Nat.reduceAdd, Nat.reduceSub, Nat.reduceMul, Nat.reduceLeDiff, loadA, cellsAt, nAg, packA, List.drop, List.take, List.head?, binA, unA, eqCells, eqCell, negB, fillA, storeA, Ob.with, indexedI, V.oneCell, intOf?, resA, resA1, packR, sealDepth, Int.reduceLT, Int.reduceLE, Int.reduceToNat, Int.reduceNeg, Int.reduceAdd, Int.reduceSub, Int.reduceMul, cond_true, cond_false, Int.reduceBNe, Int.reduceBEq, eq_self, deads, List.replicate, argsF, am30, app_get0, app_get, app_set0, app_set]
theorem iter_gone {N n : Nat} (hn : 3 ≤ n) {m : V} (hm : m = .nilp ∨ ∃ a v, m = .ptr a v 0) {H : Heap} (h : Gone N m H) {b1 b2 : Nat} (h1 : H[b1]? = some ⟨1, .var [m]⟩) {p : Int} (h2 : H[b2]? = some ⟨1, .var [.int .i64 p]⟩) (y : V) :
    callA am N n 49 [y, .ptr b1 1 0, .ptr b2 1 0] H = some (.tup [], H ++ [⟨0, .dead⟩, ⟨1, .var (pcs (0, 1))⟩]) := by
  obtain ⟨n, rfl⟩ : ∃ m, n = m + 1 := ⟨n - 1, by omega⟩
  have c29 := @ask_gone N n (by omega) _ _ (h.app [⟨0, .dead⟩]) [.int .i64 0, .int .i64 1] (.int .i64 p) (.int .i64 0) rfl
  have g1 : (H ++ [(⟨0, .dead⟩ : Ob)])[b1]? = some ⟨1, .var [m]⟩ := by rw [List.getElem?_append_left (lt_of_get h1)]; exact h1
  have g2 : (H ++ [(⟨0, .dead⟩ : Ob)])[b2]? = some ⟨1, .var [.int .i64 p]⟩ := by rw [List.getElem?_append_left (lt_of_get h2)]; exact h2
  have g0 : ((1 : Int) != 0) = true := rfl
  unfold pcs
  rcases hm with rfl | ⟨a, v, rfl⟩ <;>
  · refine call_keep_eq at49 rfl rfl (by decide) (sx_wp ?_)
    simp +contextual -implicitDefEqProofs (maxSteps := 10000000) only [sxb, plainD, stays, ↓selV_wt, ↓selV_wf, ↓impB_wt, ↓impB_wf, ↓selV_nor, ↓impB_nor, ↓selV_nt, ↓selV_nf, ↓impB_nt, ↓impB_nf, ↓selV_true, ↓selV_false, ↓selV_and, ↓impB_true, ↓impB_false, ↓impB_and, ↓prim_pick, ↓selV_nn, ↓impB_nn, doOp, get, ins, del, dels, Nat.reduceLT, Nat.reduceEqDiff, ↓reduceIte, reduceCtorEq, ne_eq, implies_true, prim, YLD, mkA, V.cells, Nat.reduceAdd, Nat.reduceSub, Nat.reduceMul, Nat.reduceLeDiff, loadA, cellsAt, nAg, packA, List.drop, List.take, List.head?, binA, unA, eqCells, eqCell, negB, fillA, storeA, Ob.with, indexedI, V.oneCell, intOf?, resA, resA1, packR, sealDepth, Int.reduceLT, Int.reduceLE, Int.reduceToNat, Int.reduceNeg, Int.reduceAdd, Int.reduceSub, Int.reduceMul, cond_true, cond_false, Int.reduceBNe, Int.reduceBEq, eq_self, deads, List.replicate, argsF, am49, g1, g2, c29, g0, List.append_assoc]
theorem whose_gone {N n : Nat} (hn : 6 ≤ n) {m : V} (hm : m = .nilp ∨ ∃ a v, m = .ptr a v 0) {H : Heap} (h : Gone N m H) (p : Int) : ∃ v' H', callA am N n 24 [m, .int .i64 p] H = some (v', H') ∧ v' = .tup [.agg (pcs (0, 0)), .bool false] ∧ ∃ tl, H' = H ++ tl := by
  obtain ⟨n, rfl⟩ : ∃ m, n = m + 1 := ⟨n - 1, by omega⟩
  have c30 := fun H => @writes_gone N n (by omega) m hm p H
  have c49 := fun (x1 x2 x3 x4 : Ob) (y : V) => @iter_gone N n (by omega) m hm (H ++ [x1, x2, x3, x4, ⟨1, .var [m]⟩, ⟨1, .var [.int .i64 p]⟩]) (h.app _) (H.length + 4) (H.length + 5) (by rw [app_get]; rfl) p (by rw [app_get]; rfl) y
  unfold pcs at *
  refine am24_wp rfl ?_
  simp +contextual -implicitDefEqProofs (maxSteps := 10000000) only [sxb, plainD, stays, ↓selV_wt, ↓selV_wf, ↓impB_wt, ↓impB_wf, ↓selV_nor, ↓impB_nor, ↓selV_nt, ↓selV_nf, ↓impB_nt, ↓impB_nf, ↓selV_true, ↓selV_false, ↓selV_and, ↓impB_true, ↓impB_false, ↓impB_and, ↓prim_pick, ↓selV_nn, ↓impB_nn, doOp, get, ins, del, dels, Nat.reduceLT, Nat.reduceEqDiff, ↓reduceIte, reduceCtorEq, ne_eq, implies_true, prim, YLD, mkA, V.cells, Nat.reduceAdd, Nat.reduceSub, Nat.reduceMul, Nat.reduceLeDiff, loadA, cellsAt, nAg, packA, List.drop, List.take, List.head?, binA, unA, eqCells, eqCell, negB, fillA, storeA, Ob.with, indexedI, V.oneCell, intOf?, resA, resA1, packR, sealDepth, Int.reduceLT, Int.reduceLE, Int.reduceToNat, Int.reduceNeg, Int.reduceAdd, Int.reduceSub, Int.reduceMul, cond_true, cond_false, Int.reduceBNe, Int.reduceBEq, eq_self, deads, List.replicate, argsF, am24, app_get0, app_get, app_set0, app_set, c30, List.length_append, List.append_assoc]
  refine sx_rangeF (x := ⟨0, .dead⟩) (g := 49) (xs := []) (ys := [.ptr (H.length + 4) 1 0, .ptr (H.length + 5) 1 0]) (by rw [app_get]; rfl) rfl (by rw [app_set]; exact c49 _ _ _ _ _) (by rw [List.append_assoc, app_get]; rfl) (by decide) ?_
  simp +contextual -implicitDefEqProofs (maxSteps := 10000000) only [sxb, plainD, stays, ↓selV_wt, ↓selV_wf, ↓impB_wt, ↓impB_wf, ↓selV_nor, ↓impB_nor, ↓selV_nt, ↓selV_nf, ↓impB_nt, ↓impB_nf, ↓selV_true, ↓selV_false, ↓selV_and, ↓impB_true, ↓impB_false, ↓impB_and, ↓prim_pick, ↓selV_nn, ↓impB_nn, doOp, get, ins, del, dels, Nat.reduceLT, Nat.reduceEqDiff, ↓reduceIte, reduceCtorEq, ne_eq, implies_true, prim, YLD, mkA, V.cells, Nat.reduceAdd, Nat.reduceSub, Nat.reduceMul, Nat.reduceLeDiff, loadA, cellsAt, nAg, packA, List.drop, List.take, List.head?, binA, unA, eqCells, eqCell, negB, fillA, storeA, Ob.with, indexedI, V.oneCell, intOf?, resA, resA1, packR, sealDepth, Int.reduceLT, Int.reduceLE, Int.reduceToNat, Int.reduceNeg, Int.reduceAdd, Int.reduceSub, Int.reduceMul, cond_true, cond_false, Int.reduceBNe, Int.reduceBEq, eq_self, deads, List.replicate, argsF, app_get0, app_get, app_set0, app_set, jumpE, List.append_assoc]
  exact ⟨_, rfl⟩
theorem all_gone {N n : Nat} (hn : 6 ≤ n) {m : V} (hm : m = .nilp ∨ ∃ a v, m = .ptr a v 0) {H : Heap} (h : Gone N m H) (p : Int) : ∃ v' H', callA am N n 14 [m, .int .i64 p] H = some (v', H') ∧ v' = .tup [.nils, .bool true] ∧ ∃ tl, H' = H ++ tl := by
  obtain ⟨n, rfl⟩ : ∃ m, n = m + 1 := ⟨n - 1, by omega⟩
  have c30 := fun H => @writes_gone N n (by omega) m hm p H
  have c49 := fun (x1 x2 x3 x4 : Ob) (y : V) => @iter_gone N n (by omega) m hm (H ++ [x1, x2, x3, x4, ⟨1, .var [m]⟩, ⟨1, .var [.int .i64 p]⟩]) (h.app _) (H.length + 4) (H.length + 5) (by rw [app_get]; rfl) p (by rw [app_get]; rfl) y
  unfold pcs at *
  refine am14_wp rfl ?_
  simp +contextual -implicitDefEqProofs (maxSteps := 10000000) only [sxb, plainD, stays, ↓selV_wt, ↓selV_wf, ↓impB_wt, ↓impB_wf, ↓selV_nor, ↓impB_nor, ↓selV_nt, ↓selV_nf, ↓impB_nt, ↓impB_nf, ↓selV_true, ↓selV_false, ↓selV_and, ↓impB_true, ↓impB_false, ↓impB_and, ↓prim_pick, ↓selV_nn, ↓impB_nn, doOp, get, ins, del, dels, Nat.reduceLT, Nat.reduceEqDiff, ↓reduceIte, reduceCtorEq, ne_eq, implies_true, prim, YLD, mkA, V.cells, Nat.reduceAdd, Nat.reduceSub, Nat.reduceMul, Nat.reduceLeDiff, loadA, cellsAt, nAg, packA, List.drop, List.take, List.head?, binA, unA, eqCells, eqCell, negB, fillA, storeA, Ob.with, indexedI, V.oneCell, intOf?, resA, resA1, packR, sealDepth, Int.reduceLT, Int.reduceLE, Int.reduceToNat, Int.reduceNeg, Int.reduceAdd, Int.reduceSub, Int.reduceMul, cond_true, cond_false, Int.reduceBNe, Int.reduceBEq, eq_self, deads, List.replicate, argsF, am14, isNil, app_get0, app_get, app_set0, app_set, c30, List.length_append, List.append_assoc]
  refine sx_rangeF (x := ⟨0, .dead⟩) (g := 49) (xs := []) (ys := [.ptr (H.length + 4) 1 0, .ptr (H.length + 5) 1 0]) (by rw [app_get]; rfl) rfl (by rw [app_set]; exact c49 _ _ _ _ _) (by rw [List.append_assoc, app_get]; rfl) (by decide) ?_
  simp +contextual -implicitDefEqProofs (maxSteps := 10000000) only [sxb, plainD, stays, ↓selV_wt, ↓selV_wf, ↓impB_wt, ↓impB_wf, ↓selV_nor, ↓impB_nor, ↓selV_nt, ↓selV_nf, ↓impB_nt, ↓impB_nf, ↓selV_true, ↓selV_false, ↓selV_and, ↓impB_true, ↓impB_false, ↓impB_and, ↓prim_pick, ↓selV_nn, ↓impB_nn, doOp, get, ins, del, dels, Nat.reduceLT, Nat.reduceEqDiff, ↓reduceIte, reduceCtorEq, ne_eq, implies_true, prim, YLD, mkA, V.cells, Nat.reduceAdd, Nat.reduceSub, Nat.reduceMul, Nat.reduceLeDiff, loadA, cellsAt, nAg, packA, List.drop, List.take, List.head?, binA, unA, eqCells, eqCell, negB, fillA, storeA, Ob.with, indexedI, V.oneCell, intOf?, resA, resA1, packR, sealDepth, Int.reduceLT, Int.reduceLE, Int.reduceToNat, Int.reduceNeg, Int.reduceAdd, Int.reduceSub, Int.reduceMul, cond_true, cond_false, Int.reduceBNe, Int.reduceBEq, eq_self, deads, List.replicate, argsF, app_get0, app_get, app_set0, app_set, jumpE, List.append_assoc]
  exact ⟨_, rfl⟩
theorem vola_gone {N n : Nat} (hn : 6 ≤ n) {m : V} {H : Heap} (h : Gone N m H) (a b : V) : ∃ v' H', callA am N n 41 [m, .agg [a, b]] H = some (v', H') ∧ v' = .nils ∧ ∃ tl, H' = H ++ tl := by
  obtain ⟨n, rfl⟩ : ∃ m, n = m + 1 := ⟨n - 1, by omega⟩
  have c := fun T => @h n T (by omega)
  refine call_keep at41 rfl rfl (by decide) (sx_wp ?_)
  simp +contextual -implicitDefEqProofs (maxSteps := 10000000) only [sxb, plainD, stays, ↓selV_wt, ↓selV_wf, ↓impB_wt, ↓impB_wf, ↓selV_nor, ↓impB_nor, ↓selV_nt, ↓selV_nf, ↓impB_nt, ↓impB_nf, ↓selV_true, ↓selV_false, ↓selV_and, ↓impB_true, ↓impB_false, ↓impB_and, ↓prim_pick, ↓selV_nn, ↓impB_nn, doOp, get, ins, del, dels, Nat.reduceLT, Nat.reduceEqDiff, ↓reduceIte, reduceCtorEq, ne_eq, implies_true, prim, YLD, mkA, V.cells, Nat.reduceAdd, Nat.reduceSub, Nat.reduceMul, Nat.reduceLeDiff, loadA, cellsAt, nAg, packA, List.drop, List.take, List.head?, binA, unA, eqCells, eqCell, negB, fillA, storeA, Ob.with, indexedI, V.oneCell, intOf?, resA, resA1, packR, sealDepth, Int.reduceLT, Int.reduceLE, Int.reduceToNat, Int.reduceNeg, Int.reduceAdd, Int.reduceSub, Int.reduceMul, cond_true, cond_false, Int.reduceBNe, Int.reduceBEq, eq_self, deads, List.replicate, argsF, am41, app_get0, app_get, app_set0, app_set, c]
  exact ⟨_, rfl⟩
theorem pages_gone {N n : Nat} (hn : 6 ≤ n) {m : V} {H : Heap} (h : Gone N m H) : callA am N n 39 [m] H = some (.int .i64 0, H) := by
  obtain ⟨n, rfl⟩ : ∃ m, n = m + 1 := ⟨n - 1, by omega⟩
  have c := @Gone.self N n _ _ h (by omega)
  refine call_keep_eq at39 rfl rfl (by decide) (sx_wp ?_)
  simp +contextual -implicitDefEqProofs (maxSteps := 10000000) only [sxb, plainD, stays, ↓selV_wt, ↓selV_wf, ↓impB_wt, ↓impB_wf, ↓selV_nor, ↓impB_nor, ↓selV_nt, ↓selV_nf, ↓impB_nt, ↓impB_nf, ↓selV_true, ↓selV_false, ↓selV_and, ↓impB_true, ↓impB_false, ↓impB_and, ↓prim_pick, ↓selV_nn, ↓impB_nn, doOp, get, ins, del, dels, Nat.reduceLT, Nat.reduceEqDiff, ↓reduceIte, reduceCtorEq, ne_eq, implies_true, prim, YLD, mkA, V.cells, Nat.reduceAdd, Nat.reduceSub, Nat.reduceMul, Nat.reduceLeDiff, loadA, cellsAt, nAg, packA, List.drop, List.take, List.head?, binA, unA, eqCells, eqCell, negB, fillA, storeA, Ob.with, indexedI, V.oneCell, intOf?, resA, resA1, packR, sealDepth, Int.reduceLT, Int.reduceLE, Int.reduceToNat, Int.reduceNeg, Int.reduceAdd, Int.reduceSub, Int.reduceMul, cond_true, cond_false, Int.reduceBNe, Int.reduceBEq, eq_self, deads, List.replicate, argsF, am39, List.append_nil, c]
theorem bases_gone {N n : Nat} (hN : 5000 ≤ N) (hn : 7 ≤ n) {m : V} {H : Heap} (h : Gone N m H) : ∃ v' H', callA am N n 47 [m] H = some (v', H') ∧ v' = .nils ∧ ∃ tl, H' = H ++ tl := by
  obtain ⟨n, rfl⟩ : ∃ m, n = m + 1 := ⟨n - 1, by omega⟩
  have c := fun T => @pages_gone N n (by omega) m _ (h.app T)
  refine call_keep at47 rfl rfl (by decide) (sx_wp ?_)
  simp +contextual -implicitDefEqProofs (maxSteps := 10000000) only [sxb, plainD, stays, ↓selV_wt, ↓selV_wf, ↓impB_wt, ↓impB_wf, ↓selV_nor, ↓impB_nor, ↓selV_nt, ↓selV_nf, ↓impB_nt, ↓impB_nf, ↓selV_true, ↓selV_false, ↓selV_and, ↓impB_true, ↓impB_false, ↓impB_and, ↓prim_pick, ↓selV_nn, ↓impB_nn, doOp, get, ins, del, dels, Nat.reduceLT, Nat.reduceEqDiff, ↓reduceIte, reduceCtorEq, ne_eq, implies_true, prim, YLD, mkA, V.cells, Nat.reduceAdd, Nat.reduceSub, Nat.reduceMul, Nat.reduceLeDiff, loadA, cellsAt, nAg, packA, List.drop, List.take, List.head?, binA, unA, eqCells, eqCell, negB, fillA, storeA, Ob.with, indexedI, V.oneCell, intOf?, resA, resA1, packR, sealDepth, Int.reduceLT, Int.reduceLE, Int.reduceToNat, Int.reduceNeg, Int.reduceAdd, Int.reduceSub, Int.reduceMul, cond_true, cond_false, Int.reduceBNe, Int.reduceBEq, eq_self, deads, List.replicate, argsF, am47, app_get0, app_get, app_set0, app_set, c]
  refine sx_unroll 1 (by show 1 ≤ N; omega) ?_
  simp +contextual -implicitDefEqProofs (maxSteps := 10000000) only [sxb, plainD, stays, ↓selV_wt, ↓selV_wf, ↓impB_wt, ↓impB_wf, ↓selV_nor, ↓impB_nor, ↓selV_nt, ↓selV_nf, ↓impB_nt, ↓impB_nf, ↓selV_true, ↓selV_false, ↓selV_and, ↓impB_true, ↓impB_false, ↓impB_and, ↓prim_pick, ↓selV_nn, ↓impB_nn, doOp, get, ins, del, dels, Nat.reduceLT, Nat.reduceEqDiff, ↓reduceIte, reduceCtorEq, ne_eq, implies_true, prim, YLD, mkA, V.cells, Nat.reduceAdd, Nat.reduceSub, Nat.reduceMul, Nat.reduceLeDiff, loadA, cellsAt, nAg, packA, List.drop, List.take, List.head?, binA, unA, eqCells, eqCell, negB, fillA, storeA, Ob.with, indexedI, V.oneCell, intOf?, resA, resA1, packR, sealDepth, Int.reduceLT, Int.reduceLE, Int.reduceToNat, Int.reduceNeg, Int.reduceAdd, Int.reduceSub, Int.reduceMul, cond_true, cond_false, Int.reduceBNe, Int.reduceBEq, eq_self, deads, List.replicate, argsF]
  exact ⟨_, rfl⟩
theorem copy_gone {N n : Nat} (hn : 7 ≤ n) {m : V} {H : Heap} (h : Gone N m H) : ∃ v' H', callA am N n 10 [m] H = some (v', H') ∧ v' = .nilp ∧ ∃ tl, H' = H ++ tl := by
  obtain ⟨n, rfl⟩ : ∃ m, n = m + 1 := ⟨n - 1, by omega⟩
  have c := fun T => @h n T (by omega)
  refine call_keep at10 rfl rfl (by decide) (sx_wp ?_)
  simp +contextual -implicitDefEqProofs (maxSteps := 10000000) only [sxb, plainD, stays, ↓selV_wt, ↓selV_wf, ↓impB_wt, ↓impB_wf, ↓selV_nor, ↓impB_nor, ↓selV_nt, ↓selV_nf, ↓impB_nt, ↓impB_nf, ↓selV_true, ↓selV_false, ↓selV_and, ↓impB_true, ↓impB_false, ↓impB_and, ↓prim_pick, ↓selV_nn, ↓impB_nn, doOp, get, ins, del, dels, Nat.reduceLT, Nat.reduceEqDiff, ↓reduceIte, reduceCtorEq, ne_eq, implies_true, prim, YLD, mkA, V.cells, Nat.reduceAdd, Nat.reduceSub, Nat.reduceMul, Nat.reduceLeDiff, loadA, cellsAt, nAg, packA, List.drop, List.take, List.head?, binA, unA, eqCells, eqCell, negB, fillA, storeA, Ob.with, indexedI, V.oneCell, intOf?, resA, resA1, packR, sealDepth, Int.reduceLT, Int.reduceLE, Int.reduceToNat, Int.reduceNeg, Int.reduceAdd, Int.reduceSub, Int.reduceMul, cond_true, cond_false, Int.reduceBNe, Int.reduceBEq, eq_self, deads, List.replicate, argsF, am10, app_get0, app_get, app_set0, app_set, c]
  exact ⟨_, rfl⟩
theorem same_gone {N n : Nat} (hn : 7 ≤ n) {m : V} {H : Heap} (h : Gone N m H) : ∃ v' H', callA am N n 17 [m, .nilp] H = some (v', H') ∧ v' = .bool true ∧ ∃ tl, H' = H ++ tl := by
  obtain ⟨n, rfl⟩ : ∃ m, n = m + 1 := ⟨n - 1, by omega⟩
  have c := fun T => @h n T (by omega)
  have c' := fun T => @gone_nil N H n T (by omega)
  refine call_keep at17 rfl rfl (by decide) (sx_wp ?_)
  simp +contextual -implicitDefEqProofs (maxSteps := 10000000) only [sxb, plainD, stays, ↓selV_wt, ↓selV_wf, ↓impB_wt, ↓impB_wf, ↓selV_nor, ↓impB_nor, ↓selV_nt, ↓selV_nf, ↓impB_nt, ↓impB_nf, ↓selV_true, ↓selV_false, ↓selV_and, ↓impB_true, ↓impB_false, ↓impB_and, ↓prim_pick, ↓selV_nn, ↓impB_nn, doOp, get, ins, del, dels, Nat.reduceLT, Nat.reduceEqDiff, ↓reduceIte, reduceCtorEq, ne_eq, implies_true, prim, YLD, mkA, V.cells, Nat.reduceAdd, Nat.reduceSub, Nat.reduceMul, Nat.reduceLeDiff, loadA, cellsAt, nAg, packA, List.drop, List.take, List.head?, binA, unA, eqCells, eqCell, negB, fillA, storeA, Ob.with, indexedI, V.oneCell, intOf?, resA, resA1, packR, sealDepth, Int.reduceLT, Int.reduceLE, Int.reduceToNat, Int.reduceNeg, Int.reduceAdd, Int.reduceSub, Int.reduceMul, cond_true, cond_false, Int.reduceBNe, Int.reduceBEq, eq_self, deads, List.replicate, argsF, am17, app_get0, app_get, app_set0, app_set, c, c', pm26, eqCells, eqCell]
  exact ⟨rfl, _, rfl⟩
theorem body_spec {N n : Nat} (hn : 1 ≤ n) (x : Int) (H : Heap) : callA am N n 20 [.int .u8 x] H = some (.agg (.int .u8 x :: [.int .u8 0, .int .u8 0, .int .u8 0, .int .u8 0, .int .u8 0, .int .u8 0, .int .u8 0, .int .u8 0, .int .u8 0, .int .u8 0, .int .u8 0, .int .u8 0, .int .u8 0, .int .u8 0, .int .u8 0, .int .u8 0, .int .u8 0, .int .u8 0, .int .u8 0, .int .u8 0, .int .u8 0, .int .u8 0, .int .u8 0, .int .u8 0, .int .u8 0, .int .u8 0, .int .u8 0, .int .u8 0, .int .u8 0, .int .u8 0, .int .u8 0, .int .u8 0, .int .u8 0, .int .u8 0, .int .u8 0, .int .u8 0, .int .u8 0, .int .u8 0, .int .u8 0, .int .u8 0, .int .u8 0, .int .u8 0, .int .u8 0, .int .u8 0, .int .u8 0, .int .u8 0, .int .u8 0, .int .u8 0, .int .u8 0, .int .u8 0, .int .u8 0, .int .u8 0, .int .u8 0, .int .u8 0, .int .u8 0, .int .u8 0, .int .u8 0, .int .u8 0, .int .u8 0, .int .u8 0, .int .u8 0, .int .u8 0, .int .u8 0, .int .u8 0, .int .u8 0, .int .u8 0, .int .u8 0, .int .u8 0, .int .u8 0, .int .u8 0, .int .u8 0, .int .u8 0, .int .u8 0, .int .u8 0, .int .u8 0, .int .u8 0, .int .u8 0, .int .u8 0, .int .u8 0, .int .u8 0, .int .u8 0, .int .u8 0, .int .u8 0, .int .u8 0, .int .u8 0, .int .u8 0, .int .u8 0, .int .u8 0, .int .u8 0, .int .u8 0, .int .u8 0, .int .u8 0, .int .u8 0, .int .u8 0, .int .u8 0]), H) := by
  obtain ⟨n, rfl⟩ : ∃ m, n = m + 1 := ⟨n - 1, by omega⟩
  refine call_pure at20 rfl rfl (by decide) rfl (sx_wp ?_)
  simp +contextual -implicitDefEqProofs (maxSteps := 10000000) only [sxb, plainD, stays, ↓selV_wt, ↓selV_wf, ↓impB_wt, ↓impB_wf, ↓selV_nor, ↓impB_nor, ↓selV_nt, ↓selV_nf, ↓impB_nt, ↓impB_nf, ↓selV_true, ↓selV_false, ↓selV_and, ↓impB_true, ↓impB_false, ↓impB_and, ↓prim_pick, ↓selV_nn, ↓impB_nn, doOp, get, ins, del, dels, Nat.reduceLT, Nat.reduceEqDiff, ↓reduceIte, reduceCtorEq, ne_eq, implies_true, prim, YLD, mkA, V.cells, Nat.reduceAdd, Nat.reduceSub, Nat.reduceMul, Nat.reduceLeDiff, loadA, cellsAt, nAg, packA, List.drop, List.take, List.head?, binA, unA, eqCells, eqCell, negB, fillA, storeA, Ob.with, indexedI, V.oneCell, intOf?, resA, resA1, packR, sealDepth, Int.reduceLT, Int.reduceLE, Int.reduceToNat, Int.reduceNeg, Int.reduceAdd, Int.reduceSub, Int.reduceMul, cond_true, cond_false, Int.reduceBNe, Int.reduceBEq, eq_self, deads, List.replicate, argsF, am20]
theorem wcall_x {o : Option (V × Heap)} {K : V → Heap → Prop} {v : V} {H T : Heap} (h : ∃ v' H', o = some (v', H') ∧ v' = v ∧ ∃ tl, H' = H ++ T ++ tl) (hk : ∀ tl, K v (H ++ (T ++ tl))) : wcall o K := by
  obtain ⟨v', H', rfl, rfl, tl, rfl⟩ := h
  rw [wcall_some, List.append_assoc]
  exact hk tl
set_option maxHeartbeats 4000000 in
theorem nothing_spec {N n : Nat} (hN : 5000 ≤ N) (hn : 9 ≤ n) {m : V} (hm : m = .nilp ∨ ∃ a v, m = .ptr a v 0) {H : Heap} (h : Gone N m H) : ∃ v' H', callA am N n 22 [m] H = some (v', H') ∧ v' = .bool true ∧ ∃ tl, H' = H ++ tl := by
  obtain ⟨n, rfl⟩ : ∃ m, n = m + 1 := ⟨n - 1, by omega⟩
  have c20 := @body_spec N n (by omega)
  have c9 := @num_spec N n (by omega)
  have c11 := fun T B => @write_gone N n (by omega) m _ (h.app T) (.int .i64 0) (.int .i64 1) (.int .i64 0) B
  have c12 := fun T => @durable_gone N n (by omega) m _ (h.app T) (.int .i64 0) (.int .i64 1) (.int .i64 0)
  have c13 := fun T => @lose_gone N n (by omega) m _ (h.app T) (.int .i64 0) (.int .i64 1) (.int .i64 0)
  have c23 := fun T => @youngest_gone N n (by omega) m _ (h.app T) (.int .i64 0)
  have c21 := fun T => @base_gone N n (by omega) m _ (h.app T) (.int .i64 0)
  have c24 := fun T => @whose_gone N n (by omega) m hm _ (h.app T) 0
  have c14 := fun T => @all_gone N n (by omega) m hm _ (h.app T) 0
  have c41 := fun T => @vola_gone N n (by omega) m _ (h.app T) (.int .i64 0) (.int .i64 1)
  have c39 := fun T => @pages_gone N n (by omega) m _ (h.app T)
  have c47 := fun T => @bases_gone N n (by omega) (by omega) m _ (h.app T)
  have c10 := fun T => @copy_gone N n (by omega) m _ (h.app T)
  have c17 := fun T => @same_gone N n (by omega) m _ (h.app T)
  have hml : m.cells = [m] := by rcases hm with rfl | ⟨a, v, rfl⟩ <;> rfl
  unfold zV at c23 c21
  refine call_keep at22 rfl rfl (by decide) (sx_wp ?_)
  simp +contextual -implicitDefEqProofs (maxSteps := 10000000) only [sxb, plainD, stays, ↓selV_wt, ↓selV_wf, ↓impB_wt, ↓impB_wf, ↓selV_nor, ↓impB_nor, ↓selV_nt, ↓selV_nf, ↓impB_nt, ↓impB_nf, ↓selV_true, ↓selV_false, ↓selV_and, ↓impB_true, ↓impB_false, ↓impB_and, ↓prim_pick, ↓selV_nn, ↓impB_nn, doOp, get, ins, del, dels, Nat.reduceLT, Nat.reduceEqDiff, ↓reduceIte, reduceCtorEq, ne_eq, implies_true, prim, YLD, mkA, V.cells, Nat.reduceAdd, Nat.reduceSub, Nat.reduceMul, Nat.reduceLeDiff, loadA, cellsAt, nAg, packA, List.drop, List.take, List.head?, binA, unA, eqCells, eqCell, negB, fillA, storeA, Ob.with, indexedI, V.oneCell, intOf?, resA, resA1, packR, sealDepth, Int.reduceLT, Int.reduceLE, Int.reduceToNat, Int.reduceNeg, Int.reduceAdd, Int.reduceSub, Int.reduceMul, cond_true, cond_false, Int.reduceBNe, Int.reduceBEq, eq_self, deads, List.replicate, argsF, am22, app_get0, app_get, app_set0, app_set, c20, pm20, List.append_assoc]
  refine wcall_x (c11 _ _) fun t1 => ?_
  simp +contextual -implicitDefEqProofs (maxSteps := 10000000) only [sxb, plainD, stays, ↓selV_wt, ↓selV_wf, ↓impB_wt, ↓impB_wf, ↓selV_nor, ↓impB_nor, ↓selV_nt, ↓selV_nf, ↓impB_nt, ↓impB_nf, ↓selV_true, ↓selV_false, ↓selV_and, ↓impB_true, ↓impB_false, ↓impB_and, ↓prim_pick, ↓selV_nn, ↓impB_nn, doOp, get, ins, del, dels, Nat.reduceLT, Nat.reduceEqDiff, ↓reduceIte, reduceCtorEq, ne_eq, implies_true, prim, YLD, mkA, V.cells, Nat.reduceAdd, Nat.reduceSub, Nat.reduceMul, Nat.reduceLeDiff, loadA, cellsAt, nAg, packA, List.drop, List.take, List.head?, binA, unA, eqCells, eqCell, negB, fillA, storeA, Ob.with, indexedI, V.oneCell, intOf?, resA, resA1, packR, sealDepth, Int.reduceLT, Int.reduceLE, Int.reduceToNat, Int.reduceNeg, Int.reduceAdd, Int.reduceSub, Int.reduceMul, cond_true, cond_false, Int.reduceBNe, Int.reduceBEq, eq_self, deads, List.replicate, argsF, app_get0, app_get, app_set0, app_set, List.append_assoc]
  refine wcall_x (c12 _) fun t2 => ?_
  simp +contextual -implicitDefEqProofs (maxSteps := 10000000) only [sxb, plainD, stays, ↓selV_wt, ↓selV_wf, ↓impB_wt, ↓impB_wf, ↓selV_nor, ↓impB_nor, ↓selV_nt, ↓selV_nf, ↓impB_nt, ↓impB_nf, ↓selV_true, ↓selV_false, ↓selV_and, ↓impB_true, ↓impB_false, ↓impB_and, ↓prim_pick, ↓selV_nn, ↓impB_nn, doOp, get, ins, del, dels, Nat.reduceLT, Nat.reduceEqDiff, ↓reduceIte, reduceCtorEq, ne_eq, implies_true, prim, YLD, mkA, V.cells, Nat.reduceAdd, Nat.reduceSub, Nat.reduceMul, Nat.reduceLeDiff, loadA, cellsAt, nAg, packA, List.drop, List.take, List.head?, binA, unA, eqCells, eqCell, negB, fillA, storeA, Ob.with, indexedI, V.oneCell, intOf?, resA, resA1, packR, sealDepth, Int.reduceLT, Int.reduceLE, Int.reduceToNat, Int.reduceNeg, Int.reduceAdd, Int.reduceSub, Int.reduceMul, cond_true, cond_false, Int.reduceBNe, Int.reduceBEq, eq_self, deads, List.replicate, argsF, app_get0, app_get, app_set0, app_set, List.append_assoc]
  refine wcall_x (c13 _) fun t3 => ?_
  simp +contextual -implicitDefEqProofs (maxSteps := 10000000) only [sxb, plainD, stays, ↓selV_wt, ↓selV_wf, ↓impB_wt, ↓impB_wf, ↓selV_nor, ↓impB_nor, ↓selV_nt, ↓selV_nf, ↓impB_nt, ↓impB_nf, ↓selV_true, ↓selV_false, ↓selV_and, ↓impB_true, ↓impB_false, ↓impB_and, ↓prim_pick, ↓selV_nn, ↓impB_nn, doOp, get, ins, del, dels, Nat.reduceLT, Nat.reduceEqDiff, ↓reduceIte, reduceCtorEq, ne_eq, implies_true, prim, YLD, mkA, V.cells, Nat.reduceAdd, Nat.reduceSub, Nat.reduceMul, Nat.reduceLeDiff, loadA, cellsAt, nAg, packA, List.drop, List.take, List.head?, binA, unA, eqCells, eqCell, negB, fillA, storeA, Ob.with, indexedI, V.oneCell, intOf?, resA, resA1, packR, sealDepth, Int.reduceLT, Int.reduceLE, Int.reduceToNat, Int.reduceNeg, Int.reduceAdd, Int.reduceSub, Int.reduceMul, cond_true, cond_false, Int.reduceBNe, Int.reduceBEq, eq_self, deads, List.replicate, argsF, app_get0, app_get, app_set0, app_set, List.append_assoc]
  refine wcall_x (c23 _) fun t4 => ?_
  simp +contextual -implicitDefEqProofs (maxSteps := 10000000) only [sxb, plainD, stays, ↓selV_wt, ↓selV_wf, ↓impB_wt, ↓impB_wf, ↓selV_nor, ↓impB_nor, ↓selV_nt, ↓selV_nf, ↓impB_nt, ↓impB_nf, ↓selV_true, ↓selV_false, ↓selV_and, ↓impB_true, ↓impB_false, ↓impB_and, ↓prim_pick, ↓selV_nn, ↓impB_nn, doOp, get, ins, del, dels, Nat.reduceLT, Nat.reduceEqDiff, ↓reduceIte, reduceCtorEq, ne_eq, implies_true, prim, YLD, mkA, V.cells, Nat.reduceAdd, Nat.reduceSub, Nat.reduceMul, Nat.reduceLeDiff, loadA, cellsAt, nAg, packA, List.drop, List.take, List.head?, binA, unA, eqCells, eqCell, negB, fillA, storeA, Ob.with, indexedI, V.oneCell, intOf?, resA, resA1, packR, sealDepth, Int.reduceLT, Int.reduceLE, Int.reduceToNat, Int.reduceNeg, Int.reduceAdd, Int.reduceSub, Int.reduceMul, cond_true, cond_false, Int.reduceBNe, Int.reduceBEq, eq_self, deads, List.replicate, argsF, app_get0, app_get, app_set0, app_set, List.append_assoc]
  refine wcall_x (c21 _) fun t5 => ?_
  simp +contextual -implicitDefEqProofs (maxSteps := 10000000) only [sxb, plainD, stays, ↓selV_wt, ↓selV_wf, ↓impB_wt, ↓impB_wf, ↓selV_nor, ↓impB_nor, ↓selV_nt, ↓selV_nf, ↓impB_nt, ↓impB_nf, ↓selV_true, ↓selV_false, ↓selV_and, ↓impB_true, ↓impB_false, ↓impB_and, ↓prim_pick, ↓selV_nn, ↓impB_nn, doOp, get, ins, del, dels, Nat.reduceLT, Nat.reduceEqDiff, ↓reduceIte, reduceCtorEq, ne_eq, implies_true, prim, YLD, mkA, V.cells, Nat.reduceAdd, Nat.reduceSub, Nat.reduceMul, Nat.reduceLeDiff, loadA, cellsAt, nAg, packA, List.drop, List.take, List.head?, binA, unA, eqCells, eqCell, negB, fillA, storeA, Ob.with, indexedI, V.oneCell, intOf?, resA, resA1, packR, sealDepth, Int.reduceLT, Int.reduceLE, Int.reduceToNat, Int.reduceNeg, Int.reduceAdd, Int.reduceSub, Int.reduceMul, cond_true, cond_false, Int.reduceBNe, Int.reduceBEq, eq_self, deads, List.replicate, argsF, app_get0, app_get, app_set0, app_set, List.append_assoc]
  refine wcall_x (c24 _) fun t6 => ?_
  unfold pcs
  simp +contextual -implicitDefEqProofs (maxSteps := 10000000) only [sxb, plainD, stays, ↓selV_wt, ↓selV_wf, ↓impB_wt, ↓impB_wf, ↓selV_nor, ↓impB_nor, ↓selV_nt, ↓selV_nf, ↓impB_nt, ↓impB_nf, ↓selV_true, ↓selV_false, ↓selV_and, ↓impB_true, ↓impB_false, ↓impB_and, ↓prim_pick, ↓selV_nn, ↓impB_nn, doOp, get, ins, del, dels, Nat.reduceLT, Nat.reduceEqDiff, ↓reduceIte, reduceCtorEq, ne_eq, implies_true, prim, YLD, mkA, V.cells, Nat.reduceAdd, Nat.reduceSub, Nat.reduceMul, Nat.reduceLeDiff, loadA, cellsAt, nAg, packA, List.drop, List.take, List.head?, binA, unA, eqCells, eqCell, negB, fillA, storeA, Ob.with, indexedI, V.oneCell, intOf?, resA, resA1, packR, sealDepth, Int.reduceLT, Int.reduceLE, Int.reduceToNat, Int.reduceNeg, Int.reduceAdd, Int.reduceSub, Int.reduceMul, cond_true, cond_false, Int.reduceBNe, Int.reduceBEq, eq_self, deads, List.replicate, argsF, app_get0, app_get, app_set0, app_set, List.append_assoc]
  refine wcall_x (c14 _) fun t7 => ?_
  simp +contextual -implicitDefEqProofs (maxSteps := 10000000) only [sxb, plainD, stays, ↓selV_wt, ↓selV_wf, ↓impB_wt, ↓impB_wf, ↓selV_nor, ↓impB_nor, ↓selV_nt, ↓selV_nf, ↓impB_nt, ↓impB_nf, ↓selV_true, ↓selV_false, ↓selV_and, ↓impB_true, ↓impB_false, ↓impB_and, ↓prim_pick, ↓selV_nn, ↓impB_nn, doOp, get, ins, del, dels, Nat.reduceLT, Nat.reduceEqDiff, ↓reduceIte, reduceCtorEq, ne_eq, implies_true, prim, YLD, mkA, V.cells, Nat.reduceAdd, Nat.reduceSub, Nat.reduceMul, Nat.reduceLeDiff, loadA, cellsAt, nAg, packA, List.drop, List.take, List.head?, binA, unA, eqCells, eqCell, negB, fillA, storeA, Ob.with, indexedI, V.oneCell, intOf?, resA, resA1, packR, sealDepth, Int.reduceLT, Int.reduceLE, Int.reduceToNat, Int.reduceNeg, Int.reduceAdd, Int.reduceSub, Int.reduceMul, cond_true, cond_false, Int.reduceBNe, Int.reduceBEq, eq_self, deads, List.replicate, argsF, app_get0, app_get, app_set0, app_set, List.append_assoc, c9, pm9, lenA, pm41]
  refine wcall_x (c41 _) fun t8 => ?_
  simp +contextual -implicitDefEqProofs (maxSteps := 10000000) only [sxb, plainD, stays, ↓selV_wt, ↓selV_wf, ↓impB_wt, ↓impB_wf, ↓selV_nor, ↓impB_nor, ↓selV_nt, ↓selV_nf, ↓impB_nt, ↓impB_nf, ↓selV_true, ↓selV_false, ↓selV_and, ↓impB_true, ↓impB_false, ↓impB_and, ↓prim_pick, ↓selV_nn, ↓impB_nn, doOp, get, ins, del, dels, Nat.reduceLT, Nat.reduceEqDiff, ↓reduceIte, reduceCtorEq, ne_eq, implies_true, prim, YLD, mkA, V.cells, Nat.reduceAdd, Nat.reduceSub, Nat.reduceMul, Nat.reduceLeDiff, loadA, cellsAt, nAg, packA, List.drop, List.take, List.head?, binA, unA, eqCells, eqCell, negB, fillA, storeA, Ob.with, indexedI, V.oneCell, intOf?, resA, resA1, packR, sealDepth, Int.reduceLT, Int.reduceLE, Int.reduceToNat, Int.reduceNeg, Int.reduceAdd, Int.reduceSub, Int.reduceMul, cond_true, cond_false, Int.reduceBNe, Int.reduceBEq, eq_self, deads, List.replicate, argsF, app_get0, app_get, app_set0, app_set, List.append_assoc, lenA, pm39, c39, pm47]
  refine wcall_x (c47 _) fun t9 => ?_
  simp +contextual -implicitDefEqProofs (maxSteps := 10000000) only [sxb, plainD, stays, ↓selV_wt, ↓selV_wf, ↓impB_wt, ↓impB_wf, ↓selV_nor, ↓impB_nor, ↓selV_nt, ↓selV_nf, ↓impB_nt, ↓impB_nf, ↓selV_true, ↓selV_false, ↓selV_and, ↓impB_true, ↓impB_false, ↓impB_and, ↓prim_pick, ↓selV_nn, ↓impB_nn, doOp, get, ins, del, dels, Nat.reduceLT, Nat.reduceEqDiff, ↓reduceIte, reduceCtorEq, ne_eq, implies_true, prim, YLD, mkA, V.cells, Nat.reduceAdd, Nat.reduceSub, Nat.reduceMul, Nat.reduceLeDiff, loadA, cellsAt, nAg, packA, List.drop, List.take, List.head?, binA, unA, eqCells, eqCell, negB, fillA, storeA, Ob.with, indexedI, V.oneCell, intOf?, resA, resA1, packR, sealDepth, Int.reduceLT, Int.reduceLE, Int.reduceToNat, Int.reduceNeg, Int.reduceAdd, Int.reduceSub, Int.reduceMul, cond_true, cond_false, Int.reduceBNe, Int.reduceBEq, eq_self, deads, List.replicate, argsF, app_get0, app_get, app_set0, app_set, List.append_assoc, lenA, pm10]
  refine wcall_x (c10 _) fun t10 => ?_
  simp +contextual -implicitDefEqProofs (maxSteps := 10000000) only [sxb, plainD, stays, ↓selV_wt, ↓selV_wf, ↓impB_wt, ↓impB_wf, ↓selV_nor, ↓impB_nor, ↓selV_nt, ↓selV_nf, ↓impB_nt, ↓impB_nf, ↓selV_true, ↓selV_false, ↓selV_and, ↓impB_true, ↓impB_false, ↓impB_and, ↓prim_pick, ↓selV_nn, ↓impB_nn, doOp, get, ins, del, dels, Nat.reduceLT, Nat.reduceEqDiff, ↓reduceIte, reduceCtorEq, ne_eq, implies_true, prim, YLD, mkA, V.cells, Nat.reduceAdd, Nat.reduceSub, Nat.reduceMul, Nat.reduceLeDiff, loadA, cellsAt, nAg, packA, List.drop, List.take, List.head?, binA, unA, eqCells, eqCell, negB, fillA, storeA, Ob.with, indexedI, V.oneCell, intOf?, resA, resA1, packR, sealDepth, Int.reduceLT, Int.reduceLE, Int.reduceToNat, Int.reduceNeg, Int.reduceAdd, Int.reduceSub, Int.reduceMul, cond_true, cond_false, Int.reduceBNe, Int.reduceBEq, eq_self, deads, List.replicate, argsF, app_get0, app_get, app_set0, app_set, List.append_assoc, lenA, isNil, pm17]
  refine wcall_x (c17 _) fun t11 => ?_
  simp +contextual -implicitDefEqProofs (maxSteps := 10000000) only [sxb, plainD, stays, ↓selV_wt, ↓selV_wf, ↓impB_wt, ↓impB_wf, ↓selV_nor, ↓impB_nor, ↓selV_nt, ↓selV_nf, ↓impB_nt, ↓impB_nf, ↓selV_true, ↓selV_false, ↓selV_and, ↓impB_true, ↓impB_false, ↓impB_and, ↓prim_pick, ↓selV_nn, ↓impB_nn, doOp, get, ins, del, dels, Nat.reduceLT, Nat.reduceEqDiff, ↓reduceIte, reduceCtorEq, ne_eq, implies_true, prim, YLD, mkA, V.cells, Nat.reduceAdd, Nat.reduceSub, Nat.reduceMul, Nat.reduceLeDiff, loadA, cellsAt, nAg, packA, List.drop, List.take, List.head?, binA, unA, eqCells, eqCell, negB, fillA, storeA, Ob.with, indexedI, V.oneCell, intOf?, resA, resA1, packR, sealDepth, Int.reduceLT, Int.reduceLE, Int.reduceToNat, Int.reduceNeg, Int.reduceAdd, Int.reduceSub, Int.reduceMul, cond_true, cond_false, Int.reduceBNe, Int.reduceBEq, eq_self, deads, List.replicate, argsF, app_get0, app_get, app_set0, app_set, List.append_assoc]
  exact ⟨_, rfl⟩
end Go.Am.T


set_option linter.unusedVariables false
set_option linter.unusedSimpArgs false
set_option linter.unusedSectionVars false
set_option maxRecDepth 10000
namespace Go.Am.T
attribute [local congr] selV_congr impB_congr
theorem flatMap_agg {α : Type} (f : α → List V) (l : List α) : (l.map fun x => V.agg (f x)).flatMap V.cells = l.flatMap f := by
  induction l with
  | nil => rfl
  | cons x l ih => rw [List.map_cons, List.flatMap_cons, List.flatMap_cons, ih]; rfl
theorem PRow.shut {H : Heap} {W : V} {l : List Wr} {R : List Nat} (h : PRow H W l R) : ∃ m, V.shut (fun o => H[o]?) sealDepth W = some m ∧ IsL m 101 (l.map Wr.cs) := by
  obtain ⟨hall, ⟨rfl, rfl | rfl, -⟩ | ⟨o, ver, cap, rest, -, rfl, ho, hc⟩⟩ := h
  · exact ⟨.nils, rfl, isL_nils 101⟩
  · exact ⟨.sl [] 101 (some 0), rfl, isL_sl rfl rfl⟩
  · refine ⟨.sl (l.map fun x => V.agg x.cs) 101 cap, shut_view (by decide) ?_ (by simp) ?_, isL_sl (freeL_of_mem fun b hb => ?_) (by rw [List.map_map]; rfl)⟩
    · intro e he
      obtain ⟨x, hx, rfl⟩ := List.mem_map.1 he
      refine ⟨Wr.len (hall x hx), ?_, fun c hc => ⟨?_, List.all_eq_true.1 x.one c hc⟩⟩
      · show wrapV x.cs = .agg x.cs
        rfl
      · have hc : c ∈ x.cs := hc
        unfold Wr.cs Wr.hd at hc
        simp only [List.mem_append, List.mem_cons, List.not_mem_nil, or_false, List.mem_map] at hc
        rcases hc with (rfl | rfl | rfl | rfl) | ⟨y, -, rfl⟩ | rfl <;> rfl
    · rw [flatMap_agg]
      have hl := flatW_len hall
      simp only [loadA, cellsAt, ho, ↓reduceIte, Nat.zero_add, List.length_append, hl, List.drop_zero]
      rw [if_pos (by omega), List.take_append, hl, Nat.sub_self, List.take_zero, List.append_nil, List.take_of_length_le (by omega)]
      rfl
    · obtain ⟨x, hx, rfl⟩ := List.mem_map.1 hb
      refine freeL_of_mem fun c hc => ?_
      unfold Wr.cs Wr.hd at hc
      simp only [List.mem_append, List.mem_cons, List.not_mem_nil, or_false, List.mem_map] at hc
      rcases hc with (rfl | rfl | rfl | rfl) | ⟨y, -, rfl⟩ | rfl <;> rfl
theorem ORow.shut {H : Heap} {W : V} {l : List (Int × Int)} {R : List Nat} (h : ORow H W l R) : ∃ m, V.shut (fun o => H[o]?) sealDepth W = some m ∧ IsL m 2 (l.map pcs) := by
  rcases h with ⟨rfl, rfl, -⟩ | ⟨o, ver, pre, hpre, -, rfl, ho⟩
  · exact ⟨.nils, rfl, isL_nils 2⟩
  · refine ⟨.sl (l.map fun x => V.agg (pcs x)) 2 none, shut_view (by decide) ?_ (by simp) ?_, isL_sl (freeL_of_mem fun b hb => ?_) (by rw [List.map_map]; rfl)⟩
    · intro e he
      obtain ⟨x, hx, rfl⟩ := List.mem_map.1 he
      refine ⟨rfl, rfl, fun c hc => ?_⟩
      have hc : c ∈ pcs x := hc
      simp only [pcs, List.mem_cons, List.not_mem_nil, or_false] at hc
      rcases hc with rfl | rfl <;> exact ⟨rfl, rfl⟩
    · rw [flatMap_agg]
      have hl := flatP_len l
      simp only [loadA, cellsAt, ho, ↓reduceIte, List.length_append, hl, List.drop_left]
      rw [if_pos (by omega), List.take_of_length_le (by omega)]
      rfl
    · obtain ⟨x, hx, rfl⟩ := List.mem_map.1 hb
      rfl
theorem am34_wp {N n : Nat} {args args' : List V} {h : Heap} {v : V} (ha : args.length = 2) (hs : args.mapM (V.shut (fun o => h[o]?) sealDepth) = some args')
    (H : sx ⟨pureOf am, callA am N n, N, 0⟩ am34.body (fr am34.nt (argsF 0 args')) (deads am34.sites) (retQ am34.res fun x h' => x = v ∧ v.plain = true)) : callA am N (n + 1) 34 args h = some (v, h) :=
  call_look at34 rfl ha (by decide) hs (sx_wp H)
theorem am35_wp {N n : Nat} {args args' : List V} {h : Heap} {v : V} (ha : args.length = 2) (hs : args.mapM (V.shut (fun o => h[o]?) sealDepth) = some args')
    (H : sx ⟨pureOf am, callA am N n, N, 0⟩ am35.body (fr am35.nt (argsF 0 args')) (deads am35.sites) (retQ am35.res fun x h' => x = v ∧ v.plain = true)) : callA am N (n + 1) 35 args h = some (v, h) :=
  call_look at35 rfl ha (by decide) hs (sx_wp H)
theorem eq_bytes_b (b : List Int) (d : Bool) : ∀ n, b.length = n → eqCells (List.replicate n (.i .u8) ++ [.b]) (b.map (V.int .u8) ++ [.bool d]) (b.map (V.int .u8) ++ [.bool d]) = some true := by
  induction b with
  | nil => intro n hn; subst hn; simp [eqCells, eqCell]
  | cons x b ih =>
    intro n hn
    obtain ⟨n, rfl⟩ : ∃ m, n = m + 1 := ⟨n - 1, by simp at hn; omega⟩
    have := ih n (by simpa using hn)
    simp only [List.replicate, List.map_cons, List.cons_append, eqCells, eqCell, ↓reduceIte, this]
    simp
theorem eqW_spec {N n : Nat} (hN : 5000 ≤ N) (hn : 1 ≤ n) {u v : V} {l : List Wr} {R1 R2 : List Nat} {H : Heap} (r1 : PRow H u l R1) (r2 : PRow H v l R2) (hl : l.length ≤ 4096) : callA am N n 34 [u, v] H = some (.bool true, H) := by
  obtain ⟨n, rfl⟩ : ∃ m, n = m + 1 := ⟨n - 1, by omega⟩
  obtain ⟨m1, s1, i1⟩ := r1.shut
  obtain ⟨m2, s2, i2⟩ := r2.shut
  have la := i1.len
  have lb := i2.len
  rw [List.length_map] at la lb
  have na := i1.nstr
  have nb := i2.nstr
  have d0 : ((l.length : Int) != (l.length : Int)) = false := by simp
  refine am34_wp (args' := [m1, m2]) rfl (by rw [List.mapM_cons, s1, List.mapM_cons, s2]; rfl) ?_
  simp +contextual -implicitDefEqProofs (maxSteps := 10000000) only [sxb, plainD, stays, ↓selV_wt, ↓selV_wf, ↓impB_wt, ↓impB_wf, ↓selV_nor, ↓impB_nor, ↓selV_nt, ↓selV_nf, ↓impB_nt, ↓impB_nf, ↓selV_true, ↓selV_false, ↓selV_and, ↓impB_true, ↓impB_false, ↓impB_and, ↓prim_pick, ↓selV_nn, ↓impB_nn, doOp, get, ins, del, dels, Nat.reduceLT, Nat.reduceEqDiff, ↓reduceIte, reduceCtorEq, ne_eq, implies_true, prim, YLD, mkA, V.cells, Nat.reduceAdd, Nat.reduceSub, Nat.reduceMul, Nat.reduceLeDiff, loadA, cellsAt, nAg, packA, List.drop, List.take, List.head?, binA, unA, eqCells, eqCell, negB, fillA, storeA, Ob.with, indexedI, V.oneCell, intOf?, resA, resA1, packR, sealDepth, Int.reduceLT, Int.reduceLE, Int.reduceToNat, Int.reduceNeg, Int.reduceAdd, Int.reduceSub, Int.reduceMul, cond_true, cond_false, Int.reduceBNe, Int.reduceBEq, eq_self, deads, List.replicate, argsF, am34, la, lb, d0]
  refine sx_loop (fun i t k => t = fr 26 [(0, m1), (1, m2), (12, .int .i64 (l.length : Nat)), (13, .int .i64 i)] ∧ i ≤ l.length ∧ k = []) 4096 (by show 4096 < N; omega) ⟨rfl, Nat.zero_le _, rfl⟩ ?_
  rintro i t k hi ⟨rfl, hiA, rfl⟩
  by_cases hlt : i < l.length
  · have hlt' : decide ((i : Int) < (l.length : Int)) = true := decide_eq_true (by omega)
    have ha := i1.at_ i
    have hb := i2.at_ i
    have hx : l[i]? = some l[i] := List.getElem?_eq_getElem hlt
    have hok := r1.1 l[i] (List.getElem_mem hlt)
    generalize l[i] = x at hx hok
    rw [List.getElem?_map, hx] at ha hb
    simp only [Option.map_some] at ha hb
    have hcl := Wr.len hok
    have htk : List.take 101 x.cs = x.cs := List.take_of_length_le (by omega)
    have sall : ∀ g, loadA g 101 (.iptr x.cs 0) = some x.cs := fun g => by simp [loadA, hcl, htk]
    have heq : eqCells [.i .i64, .i .i64, .i .i64, .i .i64, .i .u8, .i .u8, .i .u8, .i .u8, .i .u8, .i .u8, .i .u8, .i .u8, .i .u8, .i .u8, .i .u8, .i .u8, .i .u8, .i .u8, .i .u8, .i .u8, .i .u8, .i .u8, .i .u8, .i .u8, .i .u8, .i .u8, .i .u8, .i .u8, .i .u8, .i .u8, .i .u8, .i .u8, .i .u8, .i .u8, .i .u8, .i .u8, .i .u8, .i .u8, .i .u8, .i .u8, .i .u8, .i .u8, .i .u8, .i .u8, .i .u8, .i .u8, .i .u8, .i .u8, .i .u8, .i .u8, .i .u8, .i .u8, .i .u8, .i .u8, .i .u8, .i .u8, .i .u8, .i .u8, .i .u8, .i .u8, .i .u8, .i .u8, .i .u8, .i .u8, .i .u8, .i .u8, .i .u8, .i .u8, .i .u8, .i .u8, .i .u8, .i .u8, .i .u8, .i .u8, .i .u8, .i .u8, .i .u8, .i .u8, .i .u8, .i .u8, .i .u8, .i .u8, .i .u8, .i .u8, .i .u8, .i .u8, .i .u8, .i .u8, .i .u8, .i .u8, .i .u8, .i .u8, .i .u8, .i .u8, .i .u8, .i .u8, .i .u8, .i .u8, .i .u8, .i .u8, .b] x.cs x.cs = some true := by
      have := eq_bytes_b x.b x.du 96 hok
      simp only [List.replicate, List.cons_append, List.nil_append] at this
      simp only [Wr.cs, Wr.hd, List.cons_append, List.nil_append, eqCells, eqCell, ↓reduceIte, this]
      simp
    have w2 : IntKind.i64.wrap ((i : Int) + 1) = ((i + 1 : Nat) : Int) := (wrap64 (by omega) (by omega)).trans (by omega)
    have hi1 : i + 1 ≤ l.length := by omega
    have hi2 : i < 4096 := by omega
    simp +contextual -implicitDefEqProofs (maxSteps := 10000000) only [sxb, plainD, stays, ↓selV_wt, ↓selV_wf, ↓impB_wt, ↓impB_wf, ↓selV_nor, ↓impB_nor, ↓selV_nt, ↓selV_nf, ↓impB_nt, ↓impB_nf, ↓selV_true, ↓selV_false, ↓selV_and, ↓impB_true, ↓impB_false, ↓impB_and, ↓prim_pick, ↓selV_nn, ↓impB_nn, doOp, get, ins, del, dels, Nat.reduceLT, Nat.reduceEqDiff, ↓reduceIte, reduceCtorEq, ne_eq, implies_true, prim, YLD, mkA, V.cells, Nat.reduceAdd, Nat.reduceSub, Nat.reduceMul, Nat.reduceLeDiff, loadA, cellsAt, nAg, packA, List.drop, List.take, List.head?, binA, unA, eqCells, eqCell, negB, fillA, storeA, Ob.with, indexedI, V.oneCell, intOf?, resA, resA1, packR, sealDepth, Int.reduceLT, Int.reduceLE, Int.reduceToNat, Int.reduceNeg, Int.reduceAdd, Int.reduceSub, Int.reduceMul, cond_true, cond_false, Int.reduceBNe, Int.reduceBEq, eq_self, deads, List.replicate, argsF, la, hlt', ha, hb, sall, heq, w2, hi1, hi2, hlt, -loadA]
  · have e : i = l.length := by omega
    subst e
    have hlt' : decide ((l.length : Int) < (l.length : Int)) = false := decide_eq_false (by omega)
    simp +contextual -implicitDefEqProofs (maxSteps := 10000000) only [sxb, plainD, stays, ↓selV_wt, ↓selV_wf, ↓impB_wt, ↓impB_wf, ↓selV_nor, ↓impB_nor, ↓selV_nt, ↓selV_nf, ↓impB_nt, ↓impB_nf, ↓selV_true, ↓selV_false, ↓selV_and, ↓impB_true, ↓impB_false, ↓impB_and, ↓prim_pick, ↓selV_nn, ↓impB_nn, doOp, get, ins, del, dels, Nat.reduceLT, Nat.reduceEqDiff, ↓reduceIte, reduceCtorEq, ne_eq, implies_true, prim, YLD, mkA, V.cells, Nat.reduceAdd, Nat.reduceSub, Nat.reduceMul, Nat.reduceLeDiff, loadA, cellsAt, nAg, packA, List.drop, List.take, List.head?, binA, unA, eqCells, eqCell, negB, fillA, storeA, Ob.with, indexedI, V.oneCell, intOf?, resA, resA1, packR, sealDepth, Int.reduceLT, Int.reduceLE, Int.reduceToNat, Int.reduceNeg, Int.reduceAdd, Int.reduceSub, Int.reduceMul, cond_true, cond_false, Int.reduceBNe, Int.reduceBEq, eq_self, deads, List.replicate, argsF, la, hlt', plain_bool]
theorem eqP_spec {N n : Nat} (hN : 5000 ≤ N) (hn : 1 ≤ n) {u v : V} {A B : List (Int × Int)} {R1 R2 : List Nat} {H : Heap} (r1 : ORow H u A R1) (r2 : ORow H v B R2) (hl : A.length ≤ 4096) : callA am N n 35 [u, v] H = some (.bool (decide (A = B)), H) := by
  obtain ⟨n, rfl⟩ : ∃ m, n = m + 1 := ⟨n - 1, by omega⟩
  obtain ⟨m1, s1, i1⟩ := r1.shut
  obtain ⟨m2, s2, i2⟩ := r2.shut
  have la := i1.len
  have lb := i2.len
  rw [List.length_map] at la lb
  have na := i1.nstr
  have nb := i2.nstr
  refine am35_wp (args' := [m1, m2]) rfl (by rw [List.mapM_cons, s1, List.mapM_cons, s2]; rfl) ?_
  by_cases hlen : A.length = B.length
  case neg =>
    have d0 : ((A.length : Int) != (B.length : Int)) = true := by simp; omega
    have d2 : decide (A = B) = false := decide_eq_false (fun e => hlen (by rw [e]))
    simp +contextual -implicitDefEqProofs (maxSteps := 10000000) only [sxb, plainD, stays, ↓selV_wt, ↓selV_wf, ↓impB_wt, ↓impB_wf, ↓selV_nor, ↓impB_nor, ↓selV_nt, ↓selV_nf, ↓impB_nt, ↓impB_nf, ↓selV_true, ↓selV_false, ↓selV_and, ↓impB_true, ↓impB_false, ↓impB_and, ↓prim_pick, ↓selV_nn, ↓impB_nn, doOp, get, ins, del, dels, Nat.reduceLT, Nat.reduceEqDiff, ↓reduceIte, reduceCtorEq, ne_eq, implies_true, prim, YLD, mkA, V.cells, Nat.reduceAdd, Nat.reduceSub, Nat.reduceMul, Nat.reduceLeDiff, loadA, cellsAt, nAg, packA, List.drop, List.take, List.head?, binA, unA, eqCells, eqCell, negB, fillA, storeA, Ob.with, indexedI, V.oneCell, intOf?, resA, resA1, packR, sealDepth, Int.reduceLT, Int.reduceLE, Int.reduceToNat, Int.reduceNeg, Int.reduceAdd, Int.reduceSub, Int.reduceMul, cond_true, cond_false, Int.reduceBNe, Int.reduceBEq, eq_self, deads, List.replicate, argsF, am35, la, lb, d0, d2, plain_bool]
  have d0 : ((A.length : Int) != (B.length : Int)) = false := by rw [hlen]; simp
  simp +contextual -implicitDefEqProofs (maxSteps := 10000000) only [sxb, plainD, stays, ↓selV_wt, ↓selV_wf, ↓impB_wt, ↓impB_wf, ↓selV_nor, ↓impB_nor, ↓selV_nt, ↓selV_nf, ↓impB_nt, ↓impB_nf, ↓selV_true, ↓selV_false, ↓selV_and, ↓impB_true, ↓impB_false, ↓impB_and, ↓prim_pick, ↓selV_nn, ↓impB_nn, doOp, get, ins, del, dels, Nat.reduceLT, Nat.reduceEqDiff, ↓reduceIte, reduceCtorEq, ne_eq, implies_true, prim, YLD, mkA, V.cells, Nat.reduceAdd, Nat.reduceSub, Nat.reduceMul, Nat.reduceLeDiff, loadA, cellsAt, nAg, packA, List.drop, List.take, List.head?, binA, unA, eqCells, eqCell, negB, fillA, storeA, Ob.with, indexedI, V.oneCell, intOf?, resA, resA1, packR, sealDepth, Int.reduceLT, Int.reduceLE, Int.reduceToNat, Int.reduceNeg, Int.reduceAdd, Int.reduceSub, Int.reduceMul, cond_true, cond_false, Int.reduceBNe, Int.reduceBEq, eq_self, deads, List.replicate, argsF, am35, la, lb, d0]
  refine sx_loop (fun i t k => t = fr 26 [(0, m1), (1, m2), (12, .int .i64 (A.length : Nat)), (13, .int .i64 i)] ∧ i ≤ A.length ∧ A.take i = B.take i ∧ k = []) 4096 (by show 4096 < N; omega) ⟨rfl, Nat.zero_le _, rfl, rfl⟩ ?_
  rintro i t k hi ⟨rfl, hiA, hpre, rfl⟩
  by_cases hlt : i < A.length
  · have hlt' : decide ((i : Int) < (A.length : Int)) = true := decide_eq_true (by omega)
    have ha := i1.at_ i
    have hb := i2.at_ i
    rw [List.getElem?_map, List.getElem?_eq_getElem hlt] at ha
    rw [List.getElem?_map, List.getElem?_eq_getElem (by omega : i < B.length)] at hb
    simp only [Option.map_some, pcs] at ha hb
    have w2 : IntKind.i64.wrap ((i : Int) + 1) = ((i + 1 : Nat) : Int) := (wrap64 (by omega) (by omega)).trans (by omega)
    by_cases he : A[i] = B[i]'(by omega)
    · have d1 : (A[i].1 == (B[i]'(by omega)).1) = true := by simp [he]
      have d1' : (A[i].2 == (B[i]'(by omega)).2) = true := by simp [he]
      have hpre' : A.take (i + 1) = B.take (i + 1) := by
        rw [List.take_add_one, List.take_add_one, hpre, List.getElem?_eq_getElem hlt, List.getElem?_eq_getElem (by omega : i < B.length), he]
      have hi1 : i + 1 ≤ A.length := by omega
      have hi2 : i < 4096 := by omega
      simp +contextual -implicitDefEqProofs (maxSteps := 10000000) only [sxb, plainD, stays, ↓selV_wt, ↓selV_wf, ↓impB_wt, ↓impB_wf, ↓selV_nor, ↓impB_nor, ↓selV_nt, ↓selV_nf, ↓impB_nt, ↓impB_nf, ↓selV_true, ↓selV_false, ↓selV_and, ↓impB_true, ↓impB_false, ↓impB_and, ↓prim_pick, ↓selV_nn, ↓impB_nn, doOp, get, ins, del, dels, Nat.reduceLT, Nat.reduceEqDiff, ↓reduceIte, reduceCtorEq, ne_eq, implies_true, prim, YLD, mkA, V.cells, Nat.reduceAdd, Nat.reduceSub, Nat.reduceMul, Nat.reduceLeDiff, loadA, cellsAt, nAg, packA, List.drop, List.take, List.head?, binA, unA, eqCells, eqCell, negB, fillA, storeA, Ob.with, indexedI, V.oneCell, intOf?, resA, resA1, packR, sealDepth, Int.reduceLT, Int.reduceLE, Int.reduceToNat, Int.reduceNeg, Int.reduceAdd, Int.reduceSub, Int.reduceMul, cond_true, cond_false, Int.reduceBNe, Int.reduceBEq, eq_self, deads, List.replicate, argsF, la, hlt', ha, hb, d1, d1', w2, hpre', hi1, hi2, hlt, eqCells, eqCell]
    · have d1 : (A[i].1 == (B[i]'(by omega)).1 && A[i].2 == (B[i]'(by omega)).2) = false := by
        cases e : (A[i].1 == (B[i]'(by omega)).1 && A[i].2 == (B[i]'(by omega)).2) with
        | false => rfl
        | true =>
          rw [Bool.and_eq_true, beq_iff_eq, beq_iff_eq] at e
          exact absurd (Prod.ext e.1 e.2) he
      have d2 : decide (A = B) = false := decide_eq_false (fun e => he (by subst e; rfl))
      simp +contextual -implicitDefEqProofs (maxSteps := 10000000) only [sxb, plainD, stays, ↓selV_wt, ↓selV_wf, ↓impB_wt, ↓impB_wf, ↓selV_nor, ↓impB_nor, ↓selV_nt, ↓selV_nf, ↓impB_nt, ↓impB_nf, ↓selV_true, ↓selV_false, ↓selV_and, ↓impB_true, ↓impB_false, ↓impB_and, ↓prim_pick, ↓selV_nn, ↓impB_nn, doOp, get, ins, del, dels, Nat.reduceLT, Nat.reduceEqDiff, ↓reduceIte, reduceCtorEq, ne_eq, implies_true, prim, YLD, mkA, V.cells, Nat.reduceAdd, Nat.reduceSub, Nat.reduceMul, Nat.reduceLeDiff, loadA, cellsAt, nAg, packA, List.drop, List.take, List.head?, binA, unA, eqCells, eqCell, negB, fillA, storeA, Ob.with, indexedI, V.oneCell, intOf?, resA, resA1, packR, sealDepth, Int.reduceLT, Int.reduceLE, Int.reduceToNat, Int.reduceNeg, Int.reduceAdd, Int.reduceSub, Int.reduceMul, cond_true, cond_false, Int.reduceBNe, Int.reduceBEq, eq_self, deads, List.replicate, argsF, la, hlt', ha, hb, d1, d2, plain_bool, eqCells, eqCell]
  · have e : i = A.length := by omega
    subst e
    have hlt' : decide ((A.length : Int) < (A.length : Int)) = false := decide_eq_false (by omega)
    have d2 : decide (A = B) = true := decide_eq_true (by
      rw [List.take_of_length_le (Nat.le_refl _), List.take_of_length_le (by omega)] at hpre
      exact hpre)
    simp +contextual -implicitDefEqProofs (maxSteps := 10000000) only [sxb, plainD, stays, ↓selV_wt, ↓selV_wf, ↓impB_wt, ↓impB_wf, ↓selV_nor, ↓impB_nor, ↓selV_nt, ↓selV_nf, ↓impB_nt, ↓impB_nf, ↓selV_true, ↓selV_false, ↓selV_and, ↓impB_true, ↓impB_false, ↓impB_and, ↓prim_pick, ↓selV_nn, ↓impB_nn, doOp, get, ins, del, dels, Nat.reduceLT, Nat.reduceEqDiff, ↓reduceIte, reduceCtorEq, ne_eq, implies_true, prim, YLD, mkA, V.cells, Nat.reduceAdd, Nat.reduceSub, Nat.reduceMul, Nat.reduceLeDiff, loadA, cellsAt, nAg, packA, List.drop, List.take, List.head?, binA, unA, eqCells, eqCell, negB, fillA, storeA, Ob.with, indexedI, V.oneCell, intOf?, resA, resA1, packR, sealDepth, Int.reduceLT, Int.reduceLE, Int.reduceToNat, Int.reduceNeg, Int.reduceAdd, Int.reduceSub, Int.reduceMul, cond_true, cond_false, Int.reduceBNe, Int.reduceBEq, eq_self, deads, List.replicate, argsF, la, hlt', d2, plain_bool]
end Go.Am.T


set_option linter.unusedVariables false
set_option linter.unusedSimpArgs false
set_option linter.unusedSectionVars false
set_option maxRecDepth 10000
namespace Go.Am.T
attribute [local congr] selV_congr impB_congr
def smB : ACode := (ACode.block 3 (ACode.seq (ACode.region [{ dst := (some 73), op := (AOp.extract (Opd.tmp 72) 0), guard := none }, { dst := (some 74), op := (AOp.extract (Opd.tmp 72) 1), guard := none }, { dst := (some 6), op := (AOp.allocz 1 [(V.int IntKind.i64 0), (V.int IntKind.i64 0)]), guard := none }, { dst := none, op := (AOp.store 2 (Opd.tmp 6) (Opd.tmp 73)), guard := none }, { dst := (some 7), op := (AOp.move (Opd.tmp 74)), guard := none }]) (ACode.seq (ACode.seq (ACode.region [{ dst := (some 75), op := (AOp.move (Opd.tmp 7)), guard := none }, { dst := (some 76), op := (AOp.move (Opd.tmp 1)), guard := none }, { dst := (some 77), op := (AOp.nilck (Opd.tmp 76)), guard := none }, { dst := (some 78), op := (AOp.faddr 17 (Opd.tmp 77)), guard := none }, { dst := (some 79), op := (AOp.load none (Opd.tmp 78)), guard := none }, { dst := (some 80), op := (AOp.load (some 2) (Opd.tmp 6)), guard := none }, { dst := (some 81), op := (AOp.mget true [(CK.i IntKind.i64), (CK.i IntKind.i64)] V.nils false (Opd.tmp 79) (Opd.tmp 80)), guard := none }, { dst := (some 82), op := (AOp.call 35 [(Opd.tmp 75), (Opd.tmp 81)]), guard := none }, { dst := (some 83), op := (AOp.un UnOp.not (Opd.tmp 82)), guard := none }]) (ACode.clr [82, 81, 80, 79, 78, 77, 76, 75, 7, 6])) (ACode.cond (Opd.tmp 83) (ACode.seq (ACode.clr [83, 69, 1]) (ACode.seq (ACode.region [{ dst := (some 4), op := (AOp.move (Opd.cst (V.bool false))), guard := none }]) ACode.ret)) (ACode.seq (ACode.clr [83]) ACode.skip)))))
def smT (L a b ma : Nat) : List (Nat × V) := [(0, .ptr a 1 0), (1, .ptr b 1 0), (65, .ptr a 1 0), (66, .ptr a 1 0), (67, .ptr a 1 17), (68, .map ma 1), (69, .ptr L 1 0)]
def JSm (J : List (Nat × V)) : Prop := J = [] ∨ ∃ v1 v2 v3 v4 v5, J = [(70, v1), (71, v2), (72, v3), (73, v4), (74, v5)]
def smK (Hh : Heap) (q : Ob) : Heap := Hh ++ [⟨1, .dead⟩, q]
def smClr : List Nat := [83, 82, 81, 80, 79, 78, 77, 76, 75, 74, 73, 72, 71, 70, 7, 6]
set_option maxHeartbeats 1000000 in
theorem sm_round {N n : Nat} (hN : 5000 ≤ N) (hn : 1 ≤ n) {Hh : Heap} {a b ma mb : Nat} {o : Od} {Ob' : List Od} {cs : List V} {k : Nat} {bd : Bd} {J : List (Nat × V)} (hJ : JSm J) (hb : ∀ l, (Hh ++ l)[b]? = some ⟨1, .var cs⟩) (hcl : cs.length = 18) (hcm : (cs.drop 17).take 1 = [.map mb 1])
    (hmb : Hh[mb]? = some ⟨1, .map (Ob'.map Od.e)⟩) (hr : ORow Hh o.W o.l o.R) (hr' : ORow Hh (ordV Ob' o.w) (ordOf Ob' o.w) (ordR Ob' o.w)) (hl : o.l.length ≤ 4096) :
    (o.l = ordOf Ob' o.w → ∃ t' h', exec (pureOf am) (callA am N n) N Hh.length smB (roundM 70 71 72 o.e (fr 84 (smT Hh.length a b ma ++ J))) (smK Hh ⟨k, bd⟩) = some (.norm, t', h') ∧ ∃ J' b', t' = fr 84 (smT Hh.length a b ma ++ J') ∧ JSm J' ∧ h' = smK Hh ⟨k + 1, b'⟩) ∧
    (o.l ≠ ordOf Ob' o.w → ∃ t' h', exec (pureOf am) (callA am N n) N Hh.length smB (roundM 70 71 72 o.e (fr 84 (smT Hh.length a b ma ++ J))) (smK Hh ⟨k, bd⟩) = some (.ret, t', h') ∧ leaveM smClr [1] Hh.length (.ret, t', h') = (.ret, fr 84 [(0, .ptr a 1 0), (4, .bool false), (65, .ptr a 1 0), (66, .ptr a 1 0), (67, .ptr a 1 17), (68, .map ma 1)], smK Hh ⟨k + 1, .dead⟩)) := by
  obtain ⟨w1, w2, w3, w4, w5, w6⟩ := hr.shape
  obtain ⟨z1, z2, z3, z4, z5, z6⟩ := hr'.shape
  have c35 : ∀ l, callA am N n 35 [o.W, ordV Ob' o.w] (Hh ++ l) = some (.bool (decide (o.l = ordOf Ob' o.w)), Hh ++ l) := fun l =>
    eqP_spec hN hn (hr.keep fun x hx => List.getElem?_append_left (hr.lt x hx)) (hr'.keep fun x hx => List.getElem?_append_left (hr'.lt x hx)) hl
  have hmb' : ∀ l : Heap, (Hh ++ l)[mb]? = some ⟨1, .map (Ob'.map Od.e)⟩ := fun l => by rw [List.getElem?_append_left (lt_of_get hmb)]; exact hmb
  have mg := fun l => mget_w (get := fun x => (Hh ++ l)[x]?) (hmb' l) o.w
  obtain ⟨⟨nd, ep⟩, ol, oW, oR⟩ := o
  rw [round_fr]
  unfold smK smB
  unfold Od.e kw pcs at *
  simp only at *
  constructor
  · intro he
    have hd : decide (ol = ordOf Ob' (nd, ep)) = true := decide_eq_true he
    rw [hd] at c35
    refine @sx_exec ⟨pureOf am, callA am N n, N, Hh.length⟩ _ _ _ _ ?_
    rcases hJ with rfl | ⟨v1, v2, v3, v4, v5, rfl⟩ <;>
    · unfold smT
      simp +contextual -implicitDefEqProofs (maxSteps := 10000000) only [sxb, plainD, stays, ↓selV_wt, ↓selV_wf, ↓impB_wt, ↓impB_wf, ↓selV_nor, ↓impB_nor, ↓selV_nt, ↓selV_nf, ↓impB_nt, ↓impB_nf, ↓selV_true, ↓selV_false, ↓selV_and, ↓impB_true, ↓impB_false, ↓impB_and, ↓prim_pick, ↓selV_nn, ↓impB_nn, doOp, get, ins, del, dels, Nat.reduceLT, Nat.reduceEqDiff, ↓reduceIte, reduceCtorEq, ne_eq, implies_true, prim, YLD, mkA, V.cells, Nat.reduceAdd, Nat.reduceSub, Nat.reduceMul, Nat.reduceLeDiff, loadA, cellsAt, nAg, packA, List.drop, List.take, List.head?, binA, unA, eqCells, eqCell, negB, fillA, storeA, Ob.with, indexedI, V.oneCell, intOf?, resA, resA1, packR, sealDepth, Int.reduceLT, Int.reduceLE, Int.reduceToNat, Int.reduceNeg, Int.reduceAdd, Int.reduceSub, Int.reduceMul, cond_true, cond_false, Int.reduceBNe, Int.reduceBEq, eq_self, deads, List.replicate, argsF, app_get0, app_get, app_set0, app_set, hb, hcl, hcm, w1, z1, mg, c35, pm35]
      exact ⟨_, _, rfl, .inr ⟨_, _, _, _, _, rfl⟩, rfl⟩
  · intro he
    have hd : decide (ol = ordOf Ob' (nd, ep)) = false := decide_eq_false he
    rw [hd] at c35
    have key : sx ⟨pureOf am, callA am N n, N, Hh.length⟩ smB (fr 84 (ins 72 (.tup [.agg [.int .i64 nd, .int .i64 ep], oW]) (ins 71 (.bool true) (ins 70 (.tup [.bool true, .agg [.int .i64 nd, .int .i64 ep], oW]) (smT Hh.length a b ma ++ J))))) (Hh ++ [⟨1, .dead⟩, ⟨k, bd⟩]) fun e t' h' => e = .ret ∧ leaveM smClr [1] Hh.length (.ret, t', h') = (.ret, fr 84 [(0, .ptr a 1 0), (4, .bool false), (65, .ptr a 1 0), (66, .ptr a 1 0), (67, .ptr a 1 17), (68, .map ma 1)], Hh ++ [⟨1, .dead⟩, ⟨k + 1, .dead⟩]) := by
      unfold smB
      rcases hJ with rfl | ⟨v1, v2, v3, v4, v5, rfl⟩ <;>
      · unfold smT
        simp +contextual -implicitDefEqProofs (maxSteps := 10000000) only [sxb, plainD, stays, ↓selV_wt, ↓selV_wf, ↓impB_wt, ↓impB_wf, ↓selV_nor, ↓impB_nor, ↓selV_nt, ↓selV_nf, ↓impB_nt, ↓impB_nf, ↓selV_true, ↓selV_false, ↓selV_and, ↓impB_true, ↓impB_false, ↓impB_and, ↓prim_pick, ↓selV_nn, ↓impB_nn, doOp, get, ins, del, dels, Nat.reduceLT, Nat.reduceEqDiff, ↓reduceIte, reduceCtorEq, ne_eq, implies_true, prim, YLD, mkA, V.cells, Nat.reduceAdd, Nat.reduceSub, Nat.reduceMul, Nat.reduceLeDiff, loadA, cellsAt, nAg, packA, List.drop, List.take, List.head?, binA, unA, eqCells, eqCell, negB, fillA, storeA, Ob.with, indexedI, V.oneCell, intOf?, resA, resA1, packR, sealDepth, Int.reduceLT, Int.reduceLE, Int.reduceToNat, Int.reduceNeg, Int.reduceAdd, Int.reduceSub, Int.reduceMul, cond_true, cond_false, Int.reduceBNe, Int.reduceBEq, eq_self, deads, List.replicate, argsF, app_get0, app_get, app_set0, app_set, hb, hcl, hcm, w1, z1, mg, c35, pm35, leaveM, smClr, fr_clear, killA, List.foldl_cons, List.foldl_nil]
    have H1 := sx_wp key
    unfold wp at H1
    split at H1
    case h_2 => exact H1.elim
    rename_i e t1 h1 he'
    obtain ⟨rfl, hp⟩ := H1
    exact ⟨t1, h1, he', hp⟩
end Go.Am.T


set_option linter.unusedVariables false
set_option linter.unusedSimpArgs false
set_option linter.unusedSectionVars false
set_option maxRecDepth 10000
namespace Go.Am.T
attribute [local congr] selV_congr impB_congr
theorem Alike.refl {lo : Nat} {r : Ex × List V × Heap} (h : lo ≤ r.2.2.length) : Alike lo r r := by
  have hs : ∀ l : List V, l.map (V.ren (fun o => o)) = l := fun l => map_ren_same fun o _ => rfl
  exact ⟨rfl, fun o => o, fun o => o, Ren.id lo _ h, (hs _).symm, rfl, fun o y hy => ⟨y, hy, rfl, fun hl => BdEq.same hl fun _ _ => rfl⟩⟩
theorem ORow.not_map {H : Heap} {W : V} {l : List (Int × Int)} {R : List Nat} (h : ORow H W l R) {m : Nat} {es : List (V × V)} (hm : H[m]? = some ⟨1, .map es⟩) : ∀ o ∈ R, m ≠ o := by
  rcases h with ⟨-, -, rfl⟩ | ⟨o, ver, pre, -, rfl, -, ho⟩
  · intro o h; cases h
  · rintro o' h' rfl
    obtain rfl : m = o := by simpa using h'
    rw [hm] at ho
    cases ho
theorem sm_rounds {N n : Nat} (hN : 5000 ≤ N) (hn : 1 ≤ n) {Hh : Heap} {a b ma mb : Nat} {P Ob' : List Od} {cs : List V} (hb : ∀ l, (Hh ++ l)[b]? = some ⟨1, .var cs⟩) (hcl : cs.length = 18) (hcm : (cs.drop 17).take 1 = [.map mb 1])
    (hmb : Hh[mb]? = some ⟨1, .map (Ob'.map Od.e)⟩) (hr : ∀ o ∈ P, ORow Hh o.W o.l o.R ∧ ORow Hh (ordV Ob' o.w) (ordOf Ob' o.w) (ordR Ob' o.w) ∧ o.l.length ≤ 4096 ∧ o.l = ordOf Ob' o.w) :
    ∃ r, roundsM (exec (pureOf am) (callA am N n) N Hh.length smB) 69 70 71 72 (.ptr Hh.length 1 0) (P.map Od.e) (fr 84 (smT Hh.length a b ma)) (smK Hh ⟨0, .dead⟩) = some r ∧
      leaveM smClr [1] Hh.length r = (.norm, fr 84 (smT Hh.length a b ma), smK Hh ⟨P.length, .dead⟩) := by
  have rdy : ∀ J : List (Nat × V), JSm J → rdyM 69 70 71 (.ptr Hh.length 1 0) (fr 84 (smT Hh.length a b ma ++ J)) = true := fun J hJ =>
    rdy_fr (by decide) (by rcases hJ with rfl | ⟨v1, v2, v3, v4, v5, rfl⟩ <;> simp [smT, get, V.same]) (by decide) (by decide)
  obtain ⟨t', h', ⟨J, bd, rfl, hJ, rfl⟩, hrs⟩ := rounds_inv (f := exec (pureOf am) (callA am N n) N Hh.length smB) (it := 69) (nx := 70) (ok := 71) (en := 72) (itv := .ptr Hh.length 1 0)
    (fun i t h => ∃ J bd, t = fr 84 (smT Hh.length a b ma ++ J) ∧ JSm J ∧ h = smK Hh ⟨i, bd⟩) (P.map Od.e) 0 (fr 84 (smT Hh.length a b ma)) (smK Hh ⟨0, .dead⟩)
    ⟨[], .dead, by rw [List.append_nil], .inl rfl, rfl⟩ (fun i e t h hi hI => by
      obtain ⟨J, bd, rfl, hJ, rfl⟩ := hI
      rw [Nat.zero_add]
      refine ⟨rdy J hJ, ?_⟩
      rw [List.getElem?_map, Option.map_eq_some_iff] at hi
      obtain ⟨o, ho, rfl⟩ := hi
      obtain ⟨r1, r2, r3, r4⟩ := hr o (List.mem_of_getElem? ho)
      obtain ⟨t', h', c1, J', b', e1, e2, e3⟩ := (@sm_round N n hN hn Hh a b ma mb o Ob' cs i bd J hJ hb hcl hcm hmb r1 r2 r3).1 r4
      exact ⟨t', h', c1, J', b', e1, e2, e3⟩) (fun t h hI => by
      obtain ⟨J, bd, rfl, hJ, rfl⟩ := hI
      exact rdy J hJ)
  refine ⟨_, hrs, ?_⟩
  rw [Nat.zero_add, List.length_map]
  unfold leaveM
  simp only [over_fr, smClr, fr_clear]
  have hk3 : ∀ v b, killA Hh.length [1] (smK Hh ⟨v, b⟩) = smK Hh ⟨v, .dead⟩ := fun v b => by
    unfold killA smK
    simp only [List.foldl_cons, List.foldl_nil, app_get, List.getElem?_cons_succ, List.getElem?_cons_zero, app_set, List.set_cons_succ, List.set_cons_zero]
  rw [hk3]
  rcases hJ with rfl | ⟨v1, v2, v3, v4, v5, rfl⟩ <;> simp [smT, ins, dels, del]
theorem am17_wp {N n : Nat} {args : List V} {h : Heap} {C : V → Heap → Prop} (ha : args.length = 2) (H : sx ⟨pureOf am, callA am N n, N, h.length⟩ am17.body (fr am17.nt (argsF 0 args)) (h ++ deads am17.sites) (retQ am17.res C)) : ∃ v h', callA am N (n + 1) 17 args h = some (v, h') ∧ C v h' :=
  call_keep at17 rfl ha (by decide) (sx_wp H)
set_option maxHeartbeats 2000000 in
theorem same_md {N n : Nat} (hN : 5000 ≤ N) (hn : 4 ≤ n) {H : Heap} {a ma b mb : Nat} {nn : Int} {LA LB : List Wr} {QA QB : List Pg} {OA OB : List Od} (MA : Md H a ma nn LA QA OA) (MB : Md H b mb nn LB QB OB) (hp : ∀ p : Int, pgOf LA p = pgOf LB p) (hm : ma ≠ mb) (ho : OA.length = OB.length) (hL : LA.length ≤ 4096) {r : Bool}
    (hc : (r = true ∧ ∀ o ∈ OA, o.l = ordOf OB o.w) ∨ (r = false ∧ ∃ o, OA = [o] ∧ o.l ≠ ordOf OB o.w)) (hOl : ∀ o ∈ OA, o.l.length ≤ 4096) :
    ∃ v' H', callA am N n 17 [.ptr a 1 0, .ptr b 1 0] H = some (v', H') ∧ v' = .bool r ∧ ∃ tl, H' = H ++ tl := by
  obtain ⟨n, rfl⟩ : ∃ m, n = m + 1 := ⟨n - 1, by omega⟩
  have c26 := fun l => @there_spec N n (by omega) _ a ma nn QA MA.at_.q16 MA.n1 (MA.app l).at_.ob'
  have c26' := fun l => @there_spec N n (by omega) _ b mb nn QB MB.at_.q16 MB.n1 (MB.app l).at_.ob'
  have oa : ∀ l : Heap, (H ++ l)[a]? = some ⟨1, .var (mcs QA nn ma)⟩ := fun l => (MA.app l).at_.ob'
  have ob : ∀ l : Heap, (H ++ l)[b]? = some ⟨1, .var (mcs QB nn mb)⟩ := fun l => (MB.app l).at_.ob'
  have om : ∀ l : Heap, (H ++ l)[ma]? = some ⟨1, .map (OA.map Od.e)⟩ := fun l => (MA.app l).at_.mp
  have om' : ∀ l : Heap, (H ++ l)[mb]? = some ⟨1, .map (OB.map Od.e)⟩ := fun l => (MB.app l).at_.mp
  have q1 := @mcs_n QA nn ma MA.at_.q16
  have q1' := @mcs_n QB nn mb MB.at_.q16
  have q2 := @mcs_m QA nn ma MA.at_.q16
  have q2' := @mcs_m QB nn mb MB.at_.q16
  have ql := @mcs_len QA nn ma MA.at_.q16
  have ql' := @mcs_len QB nn mb MB.at_.q16
  have qp := @mcs_p QA nn ma
  have qp' := @mcs_p QB nn mb
  have n1 := MA.n1
  have n16 := MA.n16
  have d0 : (nn != nn) = false := by simp
  have d1 : ((OA.length : Int) != (OB.length : Int)) = false := by rw [ho]; simp
  have hml : ∀ l, mlenA (fun x => (H ++ l)[x]?) (.map ma 1) = some (.int .i64 (OA.length : Nat)) := fun l => by simp [mlenA, mapAt, om]
  have hml' : ∀ l, mlenA (fun x => (H ++ l)[x]?) (.map mb 1) = some (.int .i64 (OB.length : Nat)) := fun l => by simp [mlenA, mapAt, om']
  refine am17_wp rfl ?_
  generalize hA : mcs QA nn ma = cA at *
  generalize hB : mcs QB nn mb = cB at *
  simp +contextual -implicitDefEqProofs (maxSteps := 10000000) only [sxb, plainD, stays, ↓selV_wt, ↓selV_wf, ↓impB_wt, ↓impB_wf, ↓selV_nor, ↓impB_nor, ↓selV_nt, ↓selV_nf, ↓impB_nt, ↓impB_nf, ↓selV_true, ↓selV_false, ↓selV_and, ↓impB_true, ↓impB_false, ↓impB_and, ↓prim_pick, ↓selV_nn, ↓impB_nn, doOp, get, ins, del, dels, Nat.reduceLT, Nat.reduceEqDiff, ↓reduceIte, reduceCtorEq, ne_eq, implies_true, prim, YLD, mkA, V.cells, Nat.reduceAdd, Nat.reduceSub, Nat.reduceMul, Nat.reduceLeDiff, loadA, cellsAt, nAg, packA, List.drop, List.take, List.head?, binA, unA, eqCells, eqCell, negB, fillA, storeA, Ob.with, indexedI, V.oneCell, intOf?, resA, resA1, packR, sealDepth, Int.reduceLT, Int.reduceLE, Int.reduceToNat, Int.reduceNeg, Int.reduceAdd, Int.reduceSub, Int.reduceMul, cond_true, cond_false, Int.reduceBNe, Int.reduceBEq, eq_self, deads, List.replicate, argsF, am17, c26, c26', pm26, oa, ob, q1, q1', q2, q2', ql, ql', d0, d1, hml, hml']
  obtain ⟨k, rfl⟩ : ∃ k : Nat, nn = (k : Int) := ⟨nn.toNat, by omega⟩
  refine sx_loop (fun i t h => t = fr 84 [(0, .ptr a 1 0), (1, .ptr b 1 0), (46, .int .i64 (k : Int)), (47, .int .i64 i)] ∧ i ≤ k ∧ h = H ++ [⟨0, .dead⟩, ⟨0, .dead⟩]) 16 (by show 16 < N; omega) ⟨rfl, Nat.zero_le _, rfl⟩ ?_
  rintro i t h hi ⟨rfl, hik, rfl⟩
  by_cases hlt : i < k
  · have g1 : decide ((i : Int) < (k : Int)) = true := decide_eq_true (by omega)
    have hwr : IntKind.i64.wrap ((i : Int) + 1) = ((i + 1 : Nat) : Int) := (wrap64 (by omega) (by omega)).trans (by omega)
    obtain ⟨q, hq, eq⟩ := MA.page (p := i) (by omega)
    obtain ⟨q', hq', eq'⟩ := MB.page (p := i) (by omega)
    have l1 := pgOf_len LA i
    have r1 := (MA.app [⟨0, .dead⟩, ⟨0, .dead⟩]).at_.pg q (List.mem_of_getElem? hq)
    have r2 := (MB.app [⟨0, .dead⟩, ⟨0, .dead⟩]).at_.pg q' (List.mem_of_getElem? hq')
    rw [eq] at r1
    rw [eq', ← hp] at r2
    have c34 := @eqW_spec N n hN (by omega) _ _ _ _ _ _ r1 r2 (by omega)
    have p1 := qp hq
    have p2 := qp' hq'
    have hi15 : i ≤ 15 := by omega
    have hi17 : i + 1 ≤ 18 := by omega
    have hi16 : i < 16 := by omega
    obtain ⟨w1, w2, w3, w4, w5, w6⟩ := r1.shape
    obtain ⟨v1, v2, v3, v4, v5, v6⟩ := r2.shape
    have hi16' : (i : Int) < 16 := by omega
    have hi17' : i ≤ 17 := by omega
    simp +contextual -implicitDefEqProofs (maxSteps := 10000000) only [sxb, plainD, stays, ↓selV_wt, ↓selV_wf, ↓impB_wt, ↓impB_wf, ↓selV_nor, ↓impB_nor, ↓selV_nt, ↓selV_nf, ↓impB_nt, ↓impB_nf, ↓selV_true, ↓selV_false, ↓selV_and, ↓impB_true, ↓impB_false, ↓impB_and, ↓prim_pick, ↓selV_nn, ↓impB_nn, doOp, get, ins, del, dels, Nat.reduceLT, Nat.reduceEqDiff, ↓reduceIte, reduceCtorEq, ne_eq, implies_true, prim, YLD, mkA, V.cells, Nat.reduceAdd, Nat.reduceSub, Nat.reduceMul, Nat.reduceLeDiff, loadA, cellsAt, nAg, packA, List.drop, List.take, List.head?, binA, unA, eqCells, eqCell, negB, fillA, storeA, Ob.with, indexedI, V.oneCell, intOf?, resA, resA1, packR, sealDepth, Int.reduceLT, Int.reduceLE, Int.reduceToNat, Int.reduceNeg, Int.reduceAdd, Int.reduceSub, Int.reduceMul, cond_true, cond_false, Int.reduceBNe, Int.reduceBEq, eq_self, deads, List.replicate, argsF, g1, hwr, oa, ob, ql, ql', p1, p2, c34, pm34, hi15, hi16, hi16', hi17, hi17', hlt, w1, v1]
    omega
  have e16 : i = k := by omega
  subst e16
  have g1 : decide ((i : Int) < (i : Int)) = false := decide_eq_false (by omega)
  simp +contextual -implicitDefEqProofs (maxSteps := 10000000) only [sxb, plainD, stays, ↓selV_wt, ↓selV_wf, ↓impB_wt, ↓impB_wf, ↓selV_nor, ↓impB_nor, ↓selV_nt, ↓selV_nf, ↓impB_nt, ↓impB_nf, ↓selV_true, ↓selV_false, ↓selV_and, ↓impB_true, ↓impB_false, ↓impB_and, ↓prim_pick, ↓selV_nn, ↓impB_nn, doOp, get, ins, del, dels, Nat.reduceLT, Nat.reduceEqDiff, ↓reduceIte, reduceCtorEq, ne_eq, implies_true, prim, YLD, mkA, V.cells, Nat.reduceAdd, Nat.reduceSub, Nat.reduceMul, Nat.reduceLeDiff, loadA, cellsAt, nAg, packA, List.drop, List.take, List.head?, binA, unA, eqCells, eqCell, negB, fillA, storeA, Ob.with, indexedI, V.oneCell, intOf?, resA, resA1, packR, sealDepth, Int.reduceLT, Int.reduceLE, Int.reduceToNat, Int.reduceNeg, Int.reduceAdd, Int.reduceSub, Int.reduceMul, cond_true, cond_false, Int.reduceBNe, Int.reduceBEq, eq_self, deads, List.replicate, argsF, g1, oa, ql, q2]
  have hml0 := MA.at_.ltm
  have hHl : (H.set ma ⟨1, .dead⟩).length = H.length := by simp
  obtain ⟨Hh, eHh⟩ : ∃ Hh, Hh = H.set ma ⟨1, .dead⟩ := ⟨_, rfl⟩
  rw [← eHh] at hHl
  have hba : ma ≠ b := fun e => by
    have h1 := MA.at_.mp
    rw [e, MB.at_.ob] at h1
    cases h1
  have obh : ∀ l, (Hh ++ l)[b]? = some ⟨1, .var cB⟩ := fun l => by
    rw [List.getElem?_append_left (by rw [hHl]; exact MB.at_.lta), eHh, List.getElem?_set_ne hba, ← hB]
    exact MB.at_.ob'
  have mbh : Hh[mb]? = some ⟨1, .map (OB.map Od.e)⟩ := by rw [eHh, List.getElem?_set_ne hm]; exact MB.at_.mp
  have ro : ∀ o ∈ OA, ORow Hh o.W o.l o.R := fun o ho' => ((MA.at_.od o ho')).keep fun x hx => by rw [eHh]; exact List.getElem?_set_ne ((MA.at_.od o ho').not_map MA.at_.mp x hx)
  have ro' : ∀ w, ORow Hh (ordV OB w) (ordOf OB w) (ordR OB w) := fun w => (ord_row MB.at_ w).keep fun x hx => by rw [eHh]; exact List.getElem?_set_ne ((ord_row MB.at_ w).not_map MA.at_.mp x hx)
  have t69 : (fr 84 [(0, V.ptr a 1 0), (1, V.ptr b 1 0), (65, V.ptr a 1 0), (66, V.ptr a 1 0), (67, V.ptr a 1 17), (68, V.map ma 1)]).set 69 (.ptr H.length 1 0) = fr 84 (smT H.length a b ma) := by rw [fr_set]; simp [ins, smT]
  have hide : ((H ++ [(⟨0, .dead⟩ : Ob), ⟨0, .dead⟩]).set ma ⟨1, .dead⟩).set H.length ⟨1, .dead⟩ = smK Hh ⟨0, .dead⟩ := by
    rw [List.set_append_left _ _ hml0, ← eHh, ← hHl]
    unfold smK
    rw [app_set0]
    rfl
  have hshow : ∀ v, (smK Hh ⟨v, .dead⟩)[ma]? = some ⟨1, .dead⟩ ∧ (smK Hh ⟨v, .dead⟩).set ma ⟨1, .map (OA.map Od.e)⟩ = H ++ [⟨1, .dead⟩, ⟨v, .dead⟩] := fun v => by
    unfold smK
    rw [eHh]
    refine ⟨by rw [List.getElem?_append_left (by simpa using hml0), List.getElem?_set_self hml0], ?_⟩
    rw [List.set_append_left _ _ (by simpa using hml0), List.set_set]
    have : H.set ma ⟨1, .map (OA.map Od.e)⟩ = H := by
      apply List.ext_getElem?
      intro j
      by_cases e : ma = j
      · subst e; rw [List.getElem?_set_self hml0, MA.at_.mp]
      · rw [List.getElem?_set_ne e]
    rw [this]
  have hsl : ∀ v, (smK Hh ⟨v, .dead⟩).length = H.length + 2 := fun v => by simp [smK, hHl]
  rcases hc with ⟨rfl, hall⟩ | ⟨rfl, o, hOA, hne⟩
  · have hrs : ∀ P : List Od, P.Perm OA → _ := fun P hP => @sm_rounds N n hN (by omega) Hh a b ma mb P OB cB obh ql' q2' mbh (fun o ho' => ⟨ro o (hP.mem_iff.1 ho'), ro' o.w, hOl o (hP.mem_iff.1 ho'), hall o (hP.mem_iff.1 ho')⟩)
    obtain ⟨r, r1, r2⟩ := hrs OA (List.Perm.refl _)
    rw [hHl] at r1 r2
    refine sx_rangeM (x := ⟨0, .dead⟩) (om := some (ma, 1)) (es := OA.map Od.e) (r := r) (e := .norm) (t' := fr 84 (smT H.length a b ma)) (h' := H ++ [⟨1, .dead⟩, ⟨OA.length, .dead⟩]) (by rw [app_get]; rfl) ?_ ?_ ?_ ?_ ?_
    · rw [ev_fr (by decide)]
      simp [get, mapOf, mapAt, om]
    · show roundsM _ 69 70 71 72 (.ptr H.length 1 0) _ (List.set (fr 84 _) 69 (.ptr H.length 1 0)) ((List.set (H ++ _) ma ⟨1, .dead⟩).set H.length ⟨1, .dead⟩) = _
      rw [t69, hide]
      exact r1
    · intro hclo
      show AnyOrder _ 69 70 71 72 (.ptr H.length 1 0) smClr [1] H.length _ (List.set (fr 84 _) 69 (.ptr H.length 1 0)) ((List.set (H ++ _) ma ⟨1, .dead⟩).set H.length ⟨1, .dead⟩) r
      rw [t69, hide]
      intro π hπ
      obtain ⟨P, hP, rfl⟩ := perm_map hπ OA rfl
      obtain ⟨r', r1', r2'⟩ := hrs P hP
      rw [hHl] at r1' r2'
      refine ⟨r', r1', ?_⟩
      rw [r2, r2', hP.length_eq]
      exact Alike.refl (by simp only [hsl]; exact Nat.le_refl _)
    · show (match (leaveM smClr [1] H.length r).2.2[ma]? with | some ⟨v, .dead⟩ => if v = 1 then some ((leaveM smClr [1] H.length r).1, (leaveM smClr [1] H.length r).2.1, (leaveM smClr [1] H.length r).2.2.set ma ⟨1, .map (OA.map Od.e)⟩) else none | _ => none) = _
      rw [r2]
      simp only [hshow, ↓reduceIte]
    · unfold smT
      simp +contextual -implicitDefEqProofs (maxSteps := 10000000) only [sxb, plainD, stays, ↓selV_wt, ↓selV_wf, ↓impB_wt, ↓impB_wf, ↓selV_nor, ↓impB_nor, ↓selV_nt, ↓selV_nf, ↓impB_nt, ↓impB_nf, ↓selV_true, ↓selV_false, ↓selV_and, ↓impB_true, ↓impB_false, ↓impB_and, ↓prim_pick, ↓selV_nn, ↓impB_nn, doOp, get, ins, del, dels, Nat.reduceLT, Nat.reduceEqDiff, ↓reduceIte, reduceCtorEq, ne_eq, implies_true, prim, YLD, mkA, V.cells, Nat.reduceAdd, Nat.reduceSub, Nat.reduceMul, Nat.reduceLeDiff, loadA, cellsAt, nAg, packA, List.drop, List.take, List.head?, binA, unA, eqCells, eqCell, negB, fillA, storeA, Ob.with, indexedI, V.oneCell, intOf?, resA, resA1, packR, sealDepth, Int.reduceLT, Int.reduceLE, Int.reduceToNat, Int.reduceNeg, Int.reduceAdd, Int.reduceSub, Int.reduceMul, cond_true, cond_false, Int.reduceBNe, Int.reduceBEq, eq_self, deads, List.replicate, argsF]
      exact ⟨_, rfl⟩
  · subst hOA
    obtain ⟨t', h', c1, c2⟩ := (@sm_round N n hN (by omega) Hh a b ma mb o OB cB 0 .dead [] (.inl rfl) obh ql' q2' mbh (ro o (by simp)) (ro' o.w) (hOl o (by simp))).2 hne
    rw [List.append_nil, hHl] at c1
    rw [hHl] at c2
    have hrdy : rdyM 69 70 71 (.ptr H.length 1 0) (fr 84 (smT H.length a b ma)) = true := rdy_fr (by decide) (by simp [smT, get, V.same]) (by decide) (by decide)
    have hrun : roundsM (exec (pureOf am) (callA am N n) N H.length smB) 69 70 71 72 (.ptr H.length 1 0) [o.e] (fr 84 (smT H.length a b ma)) (smK Hh ⟨0, .dead⟩) = some (.ret, t', h') := by
      simp only [roundsM, hrdy, c1]
    refine sx_rangeM (x := ⟨0, .dead⟩) (om := some (ma, 1)) (es := [o.e]) (r := (.ret, t', h')) (e := .ret) (t' := fr 84 [(0, .ptr a 1 0), (4, .bool false), (65, .ptr a 1 0), (66, .ptr a 1 0), (67, .ptr a 1 17), (68, .map ma 1)]) (h' := H ++ [⟨1, .dead⟩, ⟨1, .dead⟩]) (by rw [app_get]; rfl) ?_ ?_ ?_ ?_ ?_
    · rw [ev_fr (by decide)]
      simp [get, mapOf, mapAt, om]
    · show roundsM _ 69 70 71 72 (.ptr H.length 1 0) _ (List.set (fr 84 _) 69 (.ptr H.length 1 0)) ((List.set (H ++ _) ma ⟨1, .dead⟩).set H.length ⟨1, .dead⟩) = _
      rw [t69, hide]
      exact hrun
    · intro hclo
      show AnyOrder _ 69 70 71 72 (.ptr H.length 1 0) smClr [1] H.length _ (List.set (fr 84 _) 69 (.ptr H.length 1 0)) ((List.set (H ++ _) ma ⟨1, .dead⟩).set H.length ⟨1, .dead⟩) _
      rw [t69, hide]
      intro π hπ
      have : π = [o.e] := List.perm_singleton.1 hπ
      subst this
      refine ⟨_, hrun, ?_⟩
      rw [c2]
      exact Alike.refl (by simp only [hsl]; exact Nat.le_refl _)
    · show (match (leaveM smClr [1] H.length (.ret, t', h')).2.2[ma]? with | some ⟨v, .dead⟩ => if v = 1 then some ((leaveM smClr [1] H.length (.ret, t', h')).1, (leaveM smClr [1] H.length (.ret, t', h')).2.1, (leaveM smClr [1] H.length (.ret, t', h')).2.2.set ma ⟨1, .map ([o].map Od.e)⟩) else none | _ => none) = _
      rw [c2]
      simp only [hshow, ↓reduceIte]
    · simp +contextual -implicitDefEqProofs (maxSteps := 10000000) only [sxb, plainD, stays, ↓selV_wt, ↓selV_wf, ↓impB_wt, ↓impB_wf, ↓selV_nor, ↓impB_nor, ↓selV_nt, ↓selV_nf, ↓impB_nt, ↓impB_nf, ↓selV_true, ↓selV_false, ↓selV_and, ↓impB_true, ↓impB_false, ↓impB_and, ↓prim_pick, ↓selV_nn, ↓impB_nn, doOp, get, ins, del, dels, Nat.reduceLT, Nat.reduceEqDiff, ↓reduceIte, reduceCtorEq, ne_eq, implies_true, prim, YLD, mkA, V.cells, Nat.reduceAdd, Nat.reduceSub, Nat.reduceMul, Nat.reduceLeDiff, loadA, cellsAt, nAg, packA, List.drop, List.take, List.head?, binA, unA, eqCells, eqCell, negB, fillA, storeA, Ob.with, indexedI, V.oneCell, intOf?, resA, resA1, packR, sealDepth, Int.reduceLT, Int.reduceLE, Int.reduceToNat, Int.reduceNeg, Int.reduceAdd, Int.reduceSub, Int.reduceMul, cond_true, cond_false, Int.reduceBNe, Int.reduceBEq, eq_self, deads, List.replicate, argsF]
      exact ⟨_, rfl⟩
end Go.Am.T


set_option linter.unusedVariables false
set_option linter.unusedSimpArgs false
set_option linter.unusedSectionVars false
set_option maxRecDepth 10000
namespace Go.Am.T
attribute [local congr] selV_congr impB_congr
structure BTaker (l : List Wr) (W : V) (R : List Nat) (N n o ver s : Nat) (stop : Wr → Bool) (Inv : Bool → Nat → Heap → Prop) : Prop where
  row : ∀ b k h, Inv b k h → PRow h W l R ∧ h[s]? = some ⟨1, .var [W]⟩
  round : ∀ (k : Nat) (h : Heap) (x : Wr), k < l.length → l[l.length - 1 - k]? = some x → Inv true k h → ∃ h', callA am N n YLD [.yld o ver, .int .i64 ((l.length - 1 - k : Nat) : Int), .agg x.cs] h = some (.bool (!stop x), h') ∧ Inv (!stop x) (k + 1) h'
structure BTaken (l : List Wr) (stop : Wr → Bool) (Inv : Bool → Nat → Heap → Prop) (b : Bool) (K : Nat) (h : Heap) : Prop where
  inv : Inv b K h
  all : b = true → K = l.length ∧ ∀ x ∈ l, stop x = false
  left : b = false → ∃ k x, K = k + 1 ∧ k < l.length ∧ l[l.length - 1 - k]? = some x ∧ stop x = true ∧ ∀ j y, j < k → l[l.length - 1 - j]? = some y → stop y = false
theorem am52_wp {N n : Nat} {args : List V} {h : Heap} {C : V → Heap → Prop} (ha : args.length = 2) (H : sx ⟨pureOf am, callA am N n, N, h.length⟩ am52.body (fr am52.nt (argsF 0 args)) (h ++ deads am52.sites) (retQ am52.res C)) : ∃ v h', callA am N (n + 1) 52 args h = some (v, h') ∧ C v h' :=
  call_keep at52 rfl ha (by decide) (sx_wp H)
theorem back_spec {N n : Nat} (hN : 5000 ≤ N) {H : Heap} {l : List Wr} {W : V} {R : List Nat} {o ver s : Nat} {stop : Wr → Bool} {Inv : Bool → Nat → Heap → Prop} (T : BTaker l W R N n o ver s stop Inv) (hl : l.length ≤ 4096) (hI : Inv true 0 H) :
    ∃ v' h', callA am N (n + 1) 52 [.yld o ver, .ptr s 1 0] H = some (v', h') ∧ v' = .tup [] ∧ ∃ b K, BTaken l stop Inv b K h' := by
  obtain ⟨hrow, hs⟩ := T.row _ _ _ hI
  have hlen := hrow.len
  obtain ⟨w1, w2, w3, w4, w5, w6⟩ := hrow.shape
  have hw0 : IntKind.i64.wrap ((l.length : Int) - 1) = (l.length : Int) - 1 - ((0 : Nat) : Int) := (wrap64 (by omega) (by omega)).trans (by omega)
  refine am52_wp rfl ?_
  simp +contextual -implicitDefEqProofs (maxSteps := 10000000) only [sxb, plainD, stays, ↓selV_wt, ↓selV_wf, ↓impB_wt, ↓impB_wf, ↓selV_nor, ↓impB_nor, ↓selV_nt, ↓selV_nf, ↓impB_nt, ↓impB_nf, ↓selV_true, ↓selV_false, ↓selV_and, ↓impB_true, ↓impB_false, ↓impB_and, ↓prim_pick, ↓selV_nn, ↓impB_nn, doOp, get, ins, del, dels, Nat.reduceLT, Nat.reduceEqDiff, ↓reduceIte, reduceCtorEq, ne_eq, implies_true, prim, YLD, mkA, V.cells, Nat.reduceAdd, Nat.reduceSub, Nat.reduceMul, Nat.reduceLeDiff, loadA, cellsAt, nAg, packA, List.drop, List.take, List.head?, binA, unA, eqCells, eqCell, negB, fillA, storeA, Ob.with, indexedI, V.oneCell, intOf?, resA, resA1, packR, sealDepth, Int.reduceLT, Int.reduceLE, Int.reduceToNat, Int.reduceNeg, Int.reduceAdd, Int.reduceSub, Int.reduceMul, cond_true, cond_false, Int.reduceBNe, Int.reduceBEq, eq_self, deads, List.replicate, argsF, am52, hs, hlen, hw0, List.append_nil]
  refine sx_loop (fun i t h => t = fr 19 [(0, .yld o ver), (1, .ptr s 1 0), (3, .int .i64 ((l.length : Int) - 1 - (i : Int)))] ∧ i ≤ l.length ∧ Inv true i h ∧ ∀ j y, j < i → l[l.length - 1 - j]? = some y → stop y = false) 4096 (by show 4096 < N; omega) ⟨rfl, Nat.zero_le _, hI, fun j y hj => by omega⟩ ?_
  rintro i t h hi ⟨rfl, hil, hI1, hf⟩
  by_cases hlt : i < l.length
  · have g1 : decide ((l.length : Int) - 1 - (i : Int) ≥ 0) = true := decide_eq_true (by omega)
    have w4 : IntKind.i64.wrap ((l.length : Int) - 1 - (i : Int) - 1) = (l.length : Int) - 1 - ((i + 1 : Nat) : Int) := (wrap64 (by omega) (by omega)).trans (by omega)
    have ei : (l.length : Int) - 1 - (i : Int) = ((l.length - 1 - i : Nat) : Int) := by omega
    have hk : l[l.length - 1 - i]? = some (l[l.length - 1 - i]'(by omega)) := List.getElem?_eq_getElem (by omega)
    generalize l[l.length - 1 - i]'(by omega) = x at hk
    obtain ⟨hr1, hs1⟩ := T.row _ _ _ hI1
    obtain ⟨o', ver', rd⟩ := hr1.read (by intro e; rw [e] at hlt; simp at hlt)
    obtain ⟨xok, xi, xr⟩ := rd _ x hk
    have hcl := Wr.len xok
    have htk : List.take 101 x.cs = x.cs := List.take_of_length_le (by omega)
    have xall := xr 0 101 (by decide)
    rw [List.drop_zero, htk, Nat.add_zero] at xall
    have hone := x.one
    obtain ⟨h2, hr, hI2⟩ := T.round i _ x hlt hk hI1
    have hs1' : loadA (fun o => h[o]?) 1 (.ptr s 1 0) = some [W] := by simp [loadA, cellsAt, hs1]
    rw [← ei] at xi hr
    have hi1 : i + 1 ≤ l.length := hlt
    have hi2 : i < 4096 := by omega
    cases hst : stop x with
    | true =>
      rw [hst] at hr hI2
      simp +contextual -implicitDefEqProofs (maxSteps := 10000000) only [sxb, plainD, stays, ↓selV_wt, ↓selV_wf, ↓impB_wt, ↓impB_wf, ↓selV_nor, ↓impB_nor, ↓selV_nt, ↓selV_nf, ↓impB_nt, ↓impB_nf, ↓selV_true, ↓selV_false, ↓selV_and, ↓impB_true, ↓impB_false, ↓impB_and, ↓prim_pick, ↓selV_nn, ↓impB_nn, doOp, get, ins, del, dels, Nat.reduceLT, Nat.reduceEqDiff, ↓reduceIte, reduceCtorEq, ne_eq, implies_true, prim, YLD, mkA, V.cells, Nat.reduceAdd, Nat.reduceSub, Nat.reduceMul, Nat.reduceLeDiff, loadA, cellsAt, nAg, packA, List.drop, List.take, List.head?, binA, unA, eqCells, eqCell, negB, fillA, storeA, Ob.with, indexedI, V.oneCell, intOf?, resA, resA1, packR, sealDepth, Int.reduceLT, Int.reduceLE, Int.reduceToNat, Int.reduceNeg, Int.reduceAdd, Int.reduceSub, Int.reduceMul, cond_true, cond_false, Int.reduceBNe, Int.reduceBEq, eq_self, deads, List.replicate, argsF, g1, hs1', xi, xall, cvP_yld, hr, -loadA]
      exact ⟨false, _, hI2, fun h => (by cases h), fun _ => ⟨_, x, rfl, hlt, hk, hst, hf⟩⟩
    | false =>
      rw [hst] at hr hI2
      simp +contextual -implicitDefEqProofs (maxSteps := 10000000) only [sxb, plainD, stays, ↓selV_wt, ↓selV_wf, ↓impB_wt, ↓impB_wf, ↓selV_nor, ↓impB_nor, ↓selV_nt, ↓selV_nf, ↓impB_nt, ↓impB_nf, ↓selV_true, ↓selV_false, ↓selV_and, ↓impB_true, ↓impB_false, ↓impB_and, ↓prim_pick, ↓selV_nn, ↓impB_nn, doOp, get, ins, del, dels, Nat.reduceLT, Nat.reduceEqDiff, ↓reduceIte, reduceCtorEq, ne_eq, implies_true, prim, YLD, mkA, V.cells, Nat.reduceAdd, Nat.reduceSub, Nat.reduceMul, Nat.reduceLeDiff, loadA, cellsAt, nAg, packA, List.drop, List.take, List.head?, binA, unA, eqCells, eqCell, negB, fillA, storeA, Ob.with, indexedI, V.oneCell, intOf?, resA, resA1, packR, sealDepth, Int.reduceLT, Int.reduceLE, Int.reduceToNat, Int.reduceNeg, Int.reduceAdd, Int.reduceSub, Int.reduceMul, cond_true, cond_false, Int.reduceBNe, Int.reduceBEq, eq_self, deads, List.replicate, argsF, g1, hs1', xi, xall, cvP_yld, hr, w4, hi1, hi2, -loadA]
      refine ⟨hI2, fun j y hj hy => ?_⟩
      by_cases ej : j = i
      · subst ej
        rw [hk] at hy
        cases hy
        exact hst
      · exact hf j y (by omega) hy
  · have e8 : i = l.length := by omega
    subst e8
    have g1 : decide ((l.length : Int) - 1 - (l.length : Int) ≥ 0) = false := decide_eq_false (by omega)
    simp +contextual -implicitDefEqProofs (maxSteps := 10000000) only [sxb, plainD, stays, ↓selV_wt, ↓selV_wf, ↓impB_wt, ↓impB_wf, ↓selV_nor, ↓impB_nor, ↓selV_nt, ↓selV_nf, ↓impB_nt, ↓impB_nf, ↓selV_true, ↓selV_false, ↓selV_and, ↓impB_true, ↓impB_false, ↓impB_and, ↓prim_pick, ↓selV_nn, ↓impB_nn, doOp, get, ins, del, dels, Nat.reduceLT, Nat.reduceEqDiff, ↓reduceIte, reduceCtorEq, ne_eq, implies_true, prim, YLD, mkA, V.cells, Nat.reduceAdd, Nat.reduceSub, Nat.reduceMul, Nat.reduceLeDiff, loadA, cellsAt, nAg, packA, List.drop, List.take, List.head?, binA, unA, eqCells, eqCell, negB, fillA, storeA, Ob.with, indexedI, V.oneCell, intOf?, resA, resA1, packR, sealDepth, Int.reduceLT, Int.reduceLE, Int.reduceToNat, Int.reduceNeg, Int.reduceAdd, Int.reduceSub, Int.reduceMul, cond_true, cond_false, Int.reduceBNe, Int.reduceBEq, eq_self, deads, List.replicate, argsF, g1]
    refine ⟨true, _, hI1, fun _ => ⟨rfl, fun x hx => ?_⟩, fun h => by cases h⟩
    obtain ⟨i, hi'⟩ := List.getElem?_of_mem hx
    have hil := (List.getElem?_eq_some_iff.1 hi').1
    exact hf (l.length - 1 - i) x (by omega) (by rw [show l.length - 1 - (l.length - 1 - i) = i by omega]; exact hi')
def topW (f : Wr → Bool) (l : List Wr) : Option Wr := (l.filter f).getLast?
def verCs (x : Option Wr) : List V := match x with | some x => .int .i64 x.ps :: x.b.map (V.int .u8) | none => zV
def holdsF : Nat → Wr → Bool
  | 46, x => x.du
  | _, _ => true
theorem holds_spec {N n : Nat} (hn : 1 ≤ n) {g : Nat} (hg : g = 46 ∨ g = 48) {x : Wr} (hx : x.Ok) (H : Heap) : callA am N n g [.agg x.cs] H = some (.bool (holdsF g x), H) := by
  obtain ⟨n, rfl⟩ : ∃ m, n = m + 1 := ⟨n - 1, by omega⟩
  have hcl := Wr.len hx
  have hcd := Wr.cd hx
  have hfree : V.freeL x.cs = true := by
    refine freeL_of_mem fun c hc => ?_
    unfold Wr.cs Wr.hd at hc
    simp only [List.mem_append, List.mem_cons, List.not_mem_nil, or_false, List.mem_map] at hc
    rcases hc with (rfl | rfl | rfl | rfl) | ⟨y, -, rfl⟩ | rfl <;> rfl
  rcases hg with rfl | rfl
  · refine call_pure at46 rfl rfl (by decide) (by simp only [freeL_cons, freeL_nil, free_agg, hfree, Bool.and_self]) (sx_wp ?_)
    simp +contextual -implicitDefEqProofs (maxSteps := 10000000) only [sxb, plainD, stays, ↓selV_wt, ↓selV_wf, ↓impB_wt, ↓impB_wf, ↓selV_nor, ↓impB_nor, ↓selV_nt, ↓selV_nf, ↓impB_nt, ↓impB_nf, ↓selV_true, ↓selV_false, ↓selV_and, ↓impB_true, ↓impB_false, ↓impB_and, ↓prim_pick, ↓selV_nn, ↓impB_nn, doOp, get, ins, del, dels, Nat.reduceLT, Nat.reduceEqDiff, ↓reduceIte, reduceCtorEq, ne_eq, implies_true, prim, YLD, mkA, V.cells, Nat.reduceAdd, Nat.reduceSub, Nat.reduceMul, Nat.reduceLeDiff, loadA, cellsAt, nAg, packA, List.drop, List.take, List.head?, binA, unA, eqCells, eqCell, negB, fillA, storeA, Ob.with, indexedI, V.oneCell, intOf?, resA, resA1, packR, sealDepth, Int.reduceLT, Int.reduceLE, Int.reduceToNat, Int.reduceNeg, Int.reduceAdd, Int.reduceSub, Int.reduceMul, cond_true, cond_false, Int.reduceBNe, Int.reduceBEq, eq_self, deads, List.replicate, argsF, am46, hcl, hcd, holdsF]
  · refine call_pure at48 rfl rfl (by decide) (by simp only [freeL_cons, freeL_nil, free_agg, hfree, Bool.and_self]) (sx_wp ?_)
    simp +contextual -implicitDefEqProofs (maxSteps := 10000000) only [sxb, plainD, stays, ↓selV_wt, ↓selV_wf, ↓impB_wt, ↓impB_wf, ↓selV_nor, ↓impB_nor, ↓selV_nt, ↓selV_nf, ↓impB_nt, ↓impB_nf, ↓selV_true, ↓selV_false, ↓selV_and, ↓impB_true, ↓impB_false, ↓impB_and, ↓prim_pick, ↓selV_nn, ↓impB_nn, doOp, get, ins, del, dels, Nat.reduceLT, Nat.reduceEqDiff, ↓reduceIte, reduceCtorEq, ne_eq, implies_true, prim, YLD, mkA, V.cells, Nat.reduceAdd, Nat.reduceSub, Nat.reduceMul, Nat.reduceLeDiff, loadA, cellsAt, nAg, packA, List.drop, List.take, List.head?, binA, unA, eqCells, eqCell, negB, fillA, storeA, Ob.with, indexedI, V.oneCell, intOf?, resA, resA1, packR, sealDepth, Int.reduceLT, Int.reduceLE, Int.reduceToNat, Int.reduceNeg, Int.reduceAdd, Int.reduceSub, Int.reduceMul, cond_true, cond_false, Int.reduceBNe, Int.reduceBEq, eq_self, deads, List.replicate, argsF, am48, holdsF]
def topT (n0 g : Nat) : List V := fr 35 [(5, .ptr n0 1 0), (6, .ptr (n0 + 1) 1 0), (7, .int .i64 0), (9, .ptr (n0 + 2) 1 0), (26, .func 52 [] [.ptr (n0 + 6) 1 0])]
def topH (H : Heap) (g : Nat) (W : V) (L : List V) (x3 : Ob) (st : Nat) (pd : Option (Option Nat)) : Heap :=
  H ++ [⟨1, .var [.func g [] []]⟩, ⟨1, .var zV⟩, ⟨1, .var L⟩, x3, ⟨1, .loop st pd (topT H.length g) H.length 45 0⟩, ⟨1, .var (pcs (0, 1))⟩, ⟨1, .var [W]⟩]
def topI (H : Heap) (g : Nat) (l : List Wr) (W : V) (b : Bool) (k : Nat) (h : Heap) : Prop :=
  (b = true ∧ ∃ x3, h = topH H g W zV x3 0 none) ∨ (b = false ∧ ∃ x x3 k', k = k' + 1 ∧ l[l.length - 1 - k']? = some x ∧ h = topH H g W (verCs (some x)) x3 2 (some (some 0)))
theorem top_taker {N n : Nat} {H : Heap} {g : Nat} (hg : g = 46 ∨ g = 48) {l : List Wr} {W : V} {R : List Nat} (hr : PRow H W l R) : BTaker l W R N (n + 2) (H.length + 4) 1 (H.length + 6) (holdsF g) (topI H g l W) := by
  refine ⟨?_, ?_⟩
  · rintro b k h (⟨-, x3, rfl⟩ | ⟨-, x, x3, k', -, -, rfl⟩)
    · exact ⟨hr.keep fun o ho => List.getElem?_append_left (hr.lt o ho), by unfold topH; rw [app_get]; rfl⟩
    · exact ⟨hr.keep fun o ho => List.getElem?_append_left (hr.lt o ho), by unfold topH; rw [app_get]; rfl⟩
  · rintro k h x hkl hk (⟨-, x3, rfl⟩ | ⟨h, -⟩)
    case inr => cases h
    have hx := hr.1 x (List.mem_of_getElem? hk)
    have hxl := Wr.len hx
    have hone := x.one
    have tk : List.take 101 x.cs = x.cs := List.take_of_length_le (by omega)
    have c46 := fun H => @holds_spec N (n + 1) (by omega) g hg x hx H
    have hcv := Wr.cv hx
    have hcvl : (V.int .i64 x.ps :: x.b.map (V.int .u8)).length = 97 := by simp; exact hx
    have hvl : (x.b.map (V.int .u8)).length = 96 := by simp; exact hx
    have hvone : (x.b.map (V.int .u8)).all V.oneCell = true := allOne_ints _ _
    have e1 : (x.b.map (V.int .u8)).length + 1 = 97 := by omega
    have tk96 : List.take 96 (x.b.map (V.int .u8)) = x.b.map (V.int .u8) := List.take_of_length_le (by omega)
    have pmg : pureOf am g = .pure := by rcases hg with rfl | rfl <;> rfl
    have gy : g ≠ YLD := by rcases hg with rfl | rfl <;> decide
    have sr97 : setRange zV 0 (.int .i64 x.ps :: x.b.map (V.int .u8)) = .int .i64 x.ps :: x.b.map (V.int .u8) := by
      unfold setRange
      rw [hcvl, show List.drop (0 + 97) zV = [] from rfl, List.append_nil]
      rfl
    unfold zV at sr97
    cases hs : holdsF g x with
    | true =>
      refine ⟨topH H g W (verCs (some x)) ⟨x3.ver + 1, .var x.cs⟩ 2 (some (some 0)), ?_, .inr ⟨rfl, x, _, k, rfl, hk, rfl⟩⟩
      unfold topH zV verCs
      refine call_yld (ho := by rw [app_get]; rfl) (hp := at45) (hr := rfl) (hl := rfl) ?_
      unfold topT
      rw [hs] at c46
      generalize x.cs = X at *
      simp +contextual -implicitDefEqProofs (maxSteps := 10000000) only [sxb, plainD, stays, ↓selV_wt, ↓selV_wf, ↓impB_wt, ↓impB_wf, ↓selV_nor, ↓impB_nor, ↓selV_nt, ↓selV_nf, ↓impB_nt, ↓impB_nf, ↓selV_true, ↓selV_false, ↓selV_and, ↓impB_true, ↓impB_false, ↓impB_and, ↓prim_pick, ↓selV_nn, ↓impB_nn, doOp, get, ins, del, dels, Nat.reduceLT, Nat.reduceEqDiff, ↓reduceIte, reduceCtorEq, ne_eq, implies_true, prim, YLD, mkA, V.cells, Nat.reduceAdd, Nat.reduceSub, Nat.reduceMul, Nat.reduceLeDiff, loadA, cellsAt, nAg, packA, List.drop, List.take, List.head?, binA, unA, eqCells, eqCell, negB, fillA, storeA, Ob.with, indexedI, V.oneCell, intOf?, resA, resA1, packR, sealDepth, Int.reduceLT, Int.reduceLE, Int.reduceToNat, Int.reduceNeg, Int.reduceAdd, Int.reduceSub, Int.reduceMul, cond_true, cond_false, Int.reduceBNe, Int.reduceBEq, eq_self, deads, List.replicate, argsF, setPs_cons, setPs_nil, app_get0, app_get, app_set0, app_set, hxl, hone, tk, c46, hcv, hvl, hvone, e1, tk96, sr97, cvP_func, gy]
      exact ⟨_, _, _, _, _, rfl, _, _, _, _, _, _, rfl, rfl, rfl⟩
    | false =>
      refine ⟨topH H g W zV ⟨x3.ver + 1, .var x.cs⟩ 0 none, ?_, .inl ⟨rfl, _, rfl⟩⟩
      unfold topH zV
      refine call_yld (ho := by rw [app_get]; rfl) (hp := at45) (hr := rfl) (hl := rfl) ?_
      unfold topT
      rw [hs] at c46
      generalize x.cs = X at *
      simp +contextual -implicitDefEqProofs (maxSteps := 10000000) only [sxb, plainD, stays, ↓selV_wt, ↓selV_wf, ↓impB_wt, ↓impB_wf, ↓selV_nor, ↓impB_nor, ↓selV_nt, ↓selV_nf, ↓impB_nt, ↓impB_nf, ↓selV_true, ↓selV_false, ↓selV_and, ↓impB_true, ↓impB_false, ↓impB_and, ↓prim_pick, ↓selV_nn, ↓impB_nn, doOp, get, ins, del, dels, Nat.reduceLT, Nat.reduceEqDiff, ↓reduceIte, reduceCtorEq, ne_eq, implies_true, prim, YLD, mkA, V.cells, Nat.reduceAdd, Nat.reduceSub, Nat.reduceMul, Nat.reduceLeDiff, loadA, cellsAt, nAg, packA, List.drop, List.take, List.head?, binA, unA, eqCells, eqCell, negB, fillA, storeA, Ob.with, indexedI, V.oneCell, intOf?, resA, resA1, packR, sealDepth, Int.reduceLT, Int.reduceLE, Int.reduceToNat, Int.reduceNeg, Int.reduceAdd, Int.reduceSub, Int.reduceMul, cond_true, cond_false, Int.reduceBNe, Int.reduceBEq, eq_self, deads, List.replicate, argsF, setPs_cons, setPs_nil, app_get0, app_get, app_set0, app_set, hxl, hone, tk, c46, hcv, hvl, hvone, e1, tk96, sr97, cvP_func, gy]
      exact ⟨_, _, _, _, _, rfl, _, _, _, _, _, _, rfl, rfl, rfl⟩
theorem topW_some {f : Wr → Bool} {l : List Wr} {i : Nat} {x : Wr} (hi : l[i]? = some x) (hx : f x = true) (hl : ∀ j y, i < j → l[j]? = some y → f y = false) : topW f l = some x := by
  have hil := (List.getElem?_eq_some_iff.1 hi).1
  have e : l = l.take i ++ (x :: l.drop (i + 1)) := by
    rw [← (List.getElem?_eq_some_iff.1 hi).2, ← List.drop_eq_getElem_cons hil, List.take_append_drop]
  have e2 : (l.drop (i + 1)).filter f = [] := by
    rw [List.filter_eq_nil_iff]
    intro y hy
    obtain ⟨j, hj⟩ := List.getElem?_of_mem hy
    rw [List.getElem?_drop] at hj
    simp [hl _ y (by omega) hj]
  unfold topW
  rw [e, List.filter_append, List.filter_cons, if_pos hx, e2]
  simp
theorem topW_none {f : Wr → Bool} {l : List Wr} (h : ∀ x ∈ l, f x = false) : topW f l = none := by
  unfold topW
  rw [List.filter_eq_nil_iff.2 fun x hx => by simp [h x hx]]
  rfl
def badP (nn p : Int) : Bool := badA nn (0, 1) p 0
set_option maxHeartbeats 1000000 in
theorem top_spec {N n : Nat} (hN : 5000 ≤ N) (hn : 7 ≤ n) {g : Nat} (hg : g = 46 ∨ g = 48) {H : Heap} {a m : Nat} {nn : Int} {L : List Wr} {Q : List Pg} {O : List Od} (M : Md H a m nn L Q O) {p : Nat} (hb : badP nn p = false) (hL : L.length ≤ 4096) :
    ∃ v' H', callA am N n 45 [.ptr a 1 0, .int .i64 p, .func g [] []] H = some (v', H') ∧ v' = .tup [.agg (verCs (topW (holdsF g) (pgOf L p))), .int .i64 0] ∧ ∃ tl, H' = H ++ tl := by
  obtain ⟨n, rfl⟩ : ∃ m, n = m + 4 := ⟨n - 4, by omega⟩
  obtain ⟨-, -, pn⟩ := badA_k hb
  have n16 := M.n16
  obtain ⟨q, hq, eq⟩ := M.page (p := p) (by omega)
  have pl := pgOf_len L p
  have c29 := fun l => @ask_spec N (n + 3) (by omega) (H ++ l) a m nn Q M.at_.q16 M.n1 (M.app l).at_.ob' (0, 1) p 0
  have eA : askE nn (0, 1) p 0 = 0 := by unfold askE; rw [show badA nn (0, 1) p 0 = false from hb]; rfl
  rw [eA] at c29
  unfold pcs at c29
  simp only at c29
  have oa : ∀ l : Heap, (H ++ l)[a]? = some ⟨1, .var (mcs Q nn m)⟩ := fun l => (M.app l).at_.ob'
  have ql := @mcs_len Q nn m M.at_.q16
  have qp := @mcs_p Q nn m p q hq
  have hrow := M.at_.pg q (List.mem_of_getElem? hq)
  rw [eq] at hrow
  obtain ⟨w1, w2, w3, w4, w5, w6⟩ := hrow.shape
  have T := @top_taker N n H g hg _ _ _ hrow
  obtain ⟨v0, h', c52, rfl, b, K, hI, hall, hleft⟩ := @back_spec N (n + 2) hN (H ++ [⟨1, .var [.func g [] []]⟩, ⟨1, .var zV⟩, ⟨1, .var zV⟩, ⟨0, .dead⟩, ⟨1, .loop 0 none (topT H.length g) H.length 45 0⟩, ⟨1, .var (pcs (0, 1))⟩, ⟨1, .var [q.W]⟩]) _ _ _ _ _ _ _ _ T (by omega) (Or.inl ⟨rfl, ⟨0, .dead⟩, rfl⟩)
  have hp16 : (p : Int) < 16 := by omega
  have hp15 : p ≤ 15 := by omega
  have hpl : p + 1 ≤ 18 := by omega
  have hp17 : p ≤ 17 := by omega
  have c51 : ∀ K : Heap, callA am N (n + 3) 51 [q.W] K = some (.func 52 [] [.ptr K.length 1 0], K ++ [⟨1, .var [q.W]⟩]) := fun K => by
    refine call_keep_eq at51 rfl rfl (by decide) (sx_wp ?_)
    simp +contextual -implicitDefEqProofs (maxSteps := 10000000) only [sxb, plainD, stays, ↓selV_wt, ↓selV_wf, ↓impB_wt, ↓impB_wf, ↓selV_nor, ↓impB_nor, ↓selV_nt, ↓selV_nf, ↓impB_nt, ↓impB_nf, ↓selV_true, ↓selV_false, ↓selV_and, ↓impB_true, ↓impB_false, ↓impB_and, ↓prim_pick, ↓selV_nn, ↓impB_nn, doOp, get, ins, del, dels, Nat.reduceLT, Nat.reduceEqDiff, ↓reduceIte, reduceCtorEq, ne_eq, implies_true, prim, YLD, mkA, V.cells, Nat.reduceAdd, Nat.reduceSub, Nat.reduceMul, Nat.reduceLeDiff, loadA, cellsAt, nAg, packA, List.drop, List.take, List.head?, binA, unA, eqCells, eqCell, negB, fillA, storeA, Ob.with, indexedI, V.oneCell, intOf?, resA, resA1, packR, sealDepth, Int.reduceLT, Int.reduceLE, Int.reduceToNat, Int.reduceNeg, Int.reduceAdd, Int.reduceSub, Int.reduceMul, cond_true, cond_false, Int.reduceBNe, Int.reduceBEq, eq_self, deads, List.replicate, argsF, am51, app_get0, app_set0, w1]
  have g0 : ((0 : Int) != 0) = false := rfl
  have hres : ∃ st pd x3 vv, h' = topH H g q.W vv x3 st pd ∧ st ≠ 1 ∧ (pd = none ∨ pd = some (some 0)) ∧ vv = verCs (topW (holdsF g) (pgOf L p)) := by
    rcases hI with ⟨rfl, x3, rfl⟩ | ⟨rfl, x, x3, k', rfl, hx, rfl⟩
    · obtain ⟨-, h2⟩ := hall rfl
      exact ⟨0, none, x3, zV, rfl, by decide, .inl rfl, by rw [topW_none h2]; rfl⟩
    · obtain ⟨k, x', e1, h2, h3, h4, h5⟩ := hleft rfl
      obtain rfl : k = k' := by omega
      rw [hx] at h3
      cases h3
      refine ⟨2, some (some 0), x3, _, rfl, by decide, .inr rfl, ?_⟩
      rw [topW_some hx h4 fun j y hj hy => ?_]
      have hjl := (List.getElem?_eq_some_iff.1 hy).1
      exact h5 ((pgOf L p).length - 1 - j) y (by omega) (by rw [show (pgOf L p).length - 1 - ((pgOf L p).length - 1 - j) = j by omega]; exact hy)
  obtain ⟨st, pd, x3, vv, rfl, hst, hpd, hvv⟩ := hres
  rw [← hvv]
  have hvl : vv.length = 97 ∧ vv.all V.oneCell = true := by
    rw [hvv]
    cases hx : topW (holdsF g) (pgOf L p) with
    | none => exact ⟨rfl, rfl⟩
    | some x =>
      have hok := M.ab.ok.ok x (by
        unfold topW at hx
        have := List.mem_of_getLast? hx
        exact (List.mem_filter.1 (List.mem_filter.1 this).1).1)
      have := allOne_ints .u8 x.b
      refine ⟨by simp [verCs]; exact hok, ?_⟩
      simp only [verCs, List.all_cons, this, V.oneCell, Bool.and_self]
  obtain ⟨hv1, hv2⟩ := hvl
  have hv3 : List.take 97 vv = vv := List.take_of_length_le (by omega)
  have sr97 : setRange zV 0 vv = vv := by
    unfold setRange
    rw [hv1, show List.drop (0 + 97) zV = [] from rfl, List.append_nil]
    rfl
  unfold zV at sr97
  clear hall hleft hI
  refine am45_wp rfl ?_
  generalize mcs Q nn m = cs at *
  simp +contextual -implicitDefEqProofs (maxSteps := 10000000) only [sxb, plainD, stays, ↓selV_wt, ↓selV_wf, ↓impB_wt, ↓impB_wf, ↓selV_nor, ↓impB_nor, ↓selV_nt, ↓selV_nf, ↓impB_nt, ↓impB_nf, ↓selV_true, ↓selV_false, ↓selV_and, ↓impB_true, ↓impB_false, ↓impB_and, ↓prim_pick, ↓selV_nn, ↓impB_nn, doOp, get, ins, del, dels, Nat.reduceLT, Nat.reduceEqDiff, ↓reduceIte, reduceCtorEq, ne_eq, implies_true, prim, YLD, mkA, V.cells, Nat.reduceAdd, Nat.reduceSub, Nat.reduceMul, Nat.reduceLeDiff, loadA, cellsAt, nAg, packA, List.drop, List.take, List.head?, binA, unA, eqCells, eqCell, negB, fillA, storeA, Ob.with, indexedI, V.oneCell, intOf?, resA, resA1, packR, sealDepth, Int.reduceLT, Int.reduceLE, Int.reduceToNat, Int.reduceNeg, Int.reduceAdd, Int.reduceSub, Int.reduceMul, cond_true, cond_false, Int.reduceBNe, Int.reduceBEq, eq_self, deads, List.replicate, argsF, am45, app_get0, app_get, app_set0, app_set, c29, g0, oa, ql, qp, hp16, hp15, hpl, hp17, c51, w1, List.length_append, List.append_assoc]
  refine sx_rangeF (x := ⟨0, .dead⟩) (g := 52) (xs := []) (ys := [.ptr (H.length + 6) 1 0]) (by rw [app_get]; rfl) rfl (by rw [app_set]; exact c52) (by show (topH _ _ _ _ _ _ _)[_]? = _; unfold topH; rw [app_get]; rfl) hst ?_
  unfold topH zV
  rcases hpd with rfl | rfl <;>
  · simp +contextual -implicitDefEqProofs (maxSteps := 10000000) only [sxb, plainD, stays, ↓selV_wt, ↓selV_wf, ↓impB_wt, ↓impB_wf, ↓selV_nor, ↓impB_nor, ↓selV_nt, ↓selV_nf, ↓impB_nt, ↓impB_nf, ↓selV_true, ↓selV_false, ↓selV_and, ↓impB_true, ↓impB_false, ↓impB_and, ↓prim_pick, ↓selV_nn, ↓impB_nn, doOp, get, ins, del, dels, Nat.reduceLT, Nat.reduceEqDiff, ↓reduceIte, reduceCtorEq, ne_eq, implies_true, prim, YLD, mkA, V.cells, Nat.reduceAdd, Nat.reduceSub, Nat.reduceMul, Nat.reduceLeDiff, loadA, cellsAt, nAg, packA, List.drop, List.take, List.head?, binA, unA, eqCells, eqCell, negB, fillA, storeA, Ob.with, indexedI, V.oneCell, intOf?, resA, resA1, packR, sealDepth, Int.reduceLT, Int.reduceLE, Int.reduceToNat, Int.reduceNeg, Int.reduceAdd, Int.reduceSub, Int.reduceMul, cond_true, cond_false, Int.reduceBNe, Int.reduceBEq, eq_self, deads, List.replicate, argsF, app_get0, app_get, app_set0, app_set, jumpE, hv1, hv2, hv3, sr97]
    exact ⟨_, rfl⟩
end Go.Am.T


set_option linter.unusedVariables false
set_option linter.unusedSimpArgs false
set_option linter.unusedSectionVars false
set_option maxRecDepth 10000
namespace Go.Am.T
attribute [local congr] selV_congr impB_congr
def wE : Int × Int := (7, 2147483647)
def bdL (x : Int) : List Int := x :: List.replicate 95 0
def wN (i : Nat) : Wr := ⟨7, 2147483647, 15, ((i + 1 : Nat) : Int), bdL (IntKind.u8.wrap (i : Int)), false⟩
def LN (k : Nat) : List Wr := (List.range k).map wN
theorem LN_succ (k : Nat) : LN (k + 1) = LN k ++ [wN k] := by simp [LN, List.range_succ]
theorem LN_len (k : Nat) : (LN k).length = k := by simp [LN]
theorem pgOf_LN (k : Nat) : pgOf (LN k) 15 = LN k := by
  unfold pgOf
  rw [List.filter_eq_self]
  intro x hx
  obtain ⟨i, -, rfl⟩ := List.mem_map.1 hx
  rfl
theorem whose_LN (k : Nat) : whoseW (LN k) = if k = 0 then ((0, 0), false) else (wE, true) := by
  cases k with
  | zero => rfl
  | succ k =>
    have h : (LN (k + 1)).getLast? = some (wN k) := by rw [LN_succ]; simp
    unfold whoseW
    rw [lastK_eq h, if_neg (by
      rintro (e | e)
      · have : ((k + 1 : Nat) : Int) = 0 := e
        omega
      · cases e), if_neg (by omega)]
    rfl
theorem opW_LN {k : Nat} (hk : k < 4096) : opW 16 (LN k) wE 15 (bdL (IntKind.u8.wrap (k : Int))) = ((((k + 1 : Nat) : Int), 0), LN (k + 1)) := by
  unfold opW
  rw [pgOf_LN, LN_len, whose_LN, if_neg (by decide), if_neg, if_neg (by omega), LN_succ]
  · rfl
  · split
    · simp
    · simp
theorem opW_full (B : List Int) : opW 16 (LN 4096) wE 15 B = ((0, 5), LN 4096) := by
  unfold opW
  rw [pgOf_LN, LN_len, whose_LN, if_neg (by decide), if_neg (by simp), if_pos rfl]
theorem opW_bad {nn : Int} {L : List Wr} {w : Int × Int} {p : Int} (h : badA nn w p 0 = true) (B : List Int) : opW nn L w p B = ((0, 2), L) := by
  unfold opW
  rw [if_pos h]
theorem dur_all (w : Int × Int) : ∀ (l : List Wr) (k : Nat), (∀ x ∈ l, vol w x = true) → dur w k l = (l.take k).map Wr.mark ++ l.drop k
  | [], k, _ => by simp [dur]
  | x :: l, k, h => by
    unfold dur
    rw [if_pos (h x (by simp))]
    cases k with
    | zero => rfl
    | succ k =>
      simp only [List.take_succ_cons, List.map_cons, List.drop_succ_cons, List.cons_append]
      rw [dur_all w l k fun y hy => h y (by simp [hy])]
theorem plOf_all (w : Int × Int) : ∀ (l pre : List Wr), (∀ x ∈ l, vol w x = true) → (plOf w pre l).length = l.length
  | [], _, _ => rfl
  | x :: l, pre, h => by
    unfold plOf
    rw [if_pos (h x (by simp)), List.length_cons, plOf_all w l _ fun y hy => h y (by simp [hy]), List.length_cons]
theorem LN_vol (k : Nat) : ∀ x ∈ LN k, vol wE x = true := fun x hx => by
  obtain ⟨i, -, rfl⟩ := List.mem_map.1 hx
  rfl
theorem opL_LN : opL 16 (LN 4096) wE 4095 = ((1, 0), (LN 4095).map Wr.mark) := by
  unfold opL
  rw [if_neg (by decide), plOf_all _ _ _ (LN_vol _), LN_len, dur_all _ _ _ (LN_vol _)]
  have e1 : (LN 4096).take (4095 : Int).toNat = LN 4095 := by
    rw [show (4095 : Int).toNat = 4095 from rfl, show (4096 : Nat) = 4095 + 1 from rfl, LN_succ, List.take_append_of_le_length (by rw [LN_len]; exact Nat.le_refl _), List.take_of_length_le (by rw [LN_len]; exact Nat.le_refl _)]
  have e2 : (LN 4096).drop (4095 : Int).toNat = [wN 4095] := by
    rw [show (4095 : Int).toNat = 4095 from rfl, show (4096 : Nat) = 4095 + 1 from rfl, LN_succ, List.drop_append, List.drop_of_length_le (by rw [LN_len]; exact Nat.le_refl _), LN_len]
    rfl
  rw [e1, e2]
  unfold los
  rw [List.filter_append, List.filter_eq_self.2]
  · have : [wN 4095].filter (fun x => !vol wE x) = [] := rfl
    rw [this, List.append_nil]
    rfl
  · intro x hx
    obtain ⟨y, -, rfl⟩ := List.mem_map.1 hx
    rw [mark_vol]
    rfl
theorem top_LN : topW (holdsF 46) (pgOf ((LN 4095).map Wr.mark) 15) = some (wN 4094).mark := by
  have e : pgOf ((LN 4095).map Wr.mark) 15 = (LN 4095).map Wr.mark := by
    unfold pgOf
    rw [List.filter_eq_self]
    intro x hx
    obtain ⟨y, hy, rfl⟩ := List.mem_map.1 hx
    obtain ⟨i, -, rfl⟩ := List.mem_map.1 hy
    rfl
  rw [e]
  refine topW_some (i := 4094) ?_ rfl fun j y hj hy => ?_
  · rw [show (4095 : Nat) = 4094 + 1 from rfl, LN_succ, List.map_append, List.getElem?_append_right (by rw [List.length_map, LN_len]; exact Nat.le_refl _), List.length_map, LN_len]
    rfl
  · have := (List.getElem?_eq_some_iff.1 hy).1
    rw [List.length_map, LN_len] at this
    omega
def Apart (a m : Nat) (Q : List Pg) (O : List Od) (b k : Nat) (Q2 : List Pg) (O2 : List Od) : Prop := ∀ x, Own a m Q O x → ¬ Own b k Q2 O2 x
theorem Md.beside {H H' : Heap} {a m b k : Nat} {kk : Int} {L2 : List Wr} {Q Q' Q2 : List Pg} {O O' O2 : List Od} (M2 : Md H b k kk L2 Q2 O2) (B : Bey H H' a m Q Q' O O') (hd : Apart a m Q O b k Q2 O2) : Md H' b k kk L2 Q2 O2 ∧ Apart a m Q' O' b k Q2 O2 := by
  refine ⟨M2.keep fun x hx => B.oth x (M2.at_.lt x hx) fun e => hd x e hx, fun x hx hx2 => ?_⟩
  rcases B.new x hx with h | h
  · exact hd x h hx2
  · have := M2.at_.lt x hx2
    omega
theorem Apart.symm {a m b k : Nat} {Q Q2 : List Pg} {O O2 : List Od} (h : Apart a m Q O b k Q2 O2) : Apart b k Q2 O2 a m Q O := fun x h1 h2 => h x h2 h1
theorem new_md {N n : Nat} (hn : 1 ≤ n) {nn : Int} (h1 : 1 ≤ nn) (h2 : nn ≤ 16) (H : Heap) : ∃ tl, callA am N n 8 [.int .i64 nn] H = some (.tup [.ptr (H.length + 1) 1 0, .int .i64 0], H ++ tl) ∧ Md (H ++ tl) (H.length + 1) H.length nn [] noQ [] ∧ ∀ x, Own (H.length + 1) H.length noQ [] x → H.length ≤ x := by
  refine ⟨_, new_spec hn h1 h2 H, ⟨new_at (by rw [app_get]; rfl) (by rw [app_get0]; rfl) (by omega), Ab.new nn, h1, h2⟩, ?_⟩
  rintro x (rfl | rfl | ⟨q, hq, hx⟩ | ⟨o, ho, -⟩)
  · omega
  · omega
  · rw [(List.mem_replicate.1 hq).2] at hx
    cases hx
  · cases ho
theorem new_bad {N n : Nat} (hn : 1 ≤ n) {nn : Int} (h : nn < 1 ∨ nn > 16) (H : Heap) : ∃ tl, callA am N n 8 [.int .i64 nn] H = some (.tup [.nilp, .int .i64 2], H ++ tl) := by
  obtain ⟨n, rfl⟩ : ∃ m, n = m + 1 := ⟨n - 1, by omega⟩
  refine ⟨[⟨0, .dead⟩, ⟨0, .dead⟩], am8_wp rfl ?_⟩
  by_cases h1 : nn < 1
  · have g1 : decide (nn < 1) = true := decide_eq_true h1
    simp +contextual -implicitDefEqProofs (maxSteps := 10000000) only [sxb, plainD, stays, ↓selV_wt, ↓selV_wf, ↓impB_wt, ↓impB_wf, ↓selV_nor, ↓impB_nor, ↓selV_nt, ↓selV_nf, ↓impB_nt, ↓impB_nf, ↓selV_true, ↓selV_false, ↓selV_and, ↓impB_true, ↓impB_false, ↓impB_and, ↓prim_pick, ↓selV_nn, ↓impB_nn, doOp, get, ins, del, dels, Nat.reduceLT, Nat.reduceEqDiff, ↓reduceIte, reduceCtorEq, ne_eq, implies_true, prim, YLD, mkA, V.cells, Nat.reduceAdd, Nat.reduceSub, Nat.reduceMul, Nat.reduceLeDiff, loadA, cellsAt, nAg, packA, List.drop, List.take, List.head?, binA, unA, eqCells, eqCell, negB, fillA, storeA, Ob.with, indexedI, V.oneCell, intOf?, resA, resA1, packR, sealDepth, Int.reduceLT, Int.reduceLE, Int.reduceToNat, Int.reduceNeg, Int.reduceAdd, Int.reduceSub, Int.reduceMul, cond_true, cond_false, Int.reduceBNe, Int.reduceBEq, eq_self, deads, List.replicate, argsF, am8, g1]
  · have g1 : decide (nn < 1) = false := decide_eq_false h1
    have g2 : decide (nn > 16) = true := decide_eq_true (by omega)
    simp +contextual -implicitDefEqProofs (maxSteps := 10000000) only [sxb, plainD, stays, ↓selV_wt, ↓selV_wf, ↓impB_wt, ↓impB_wf, ↓selV_nor, ↓impB_nor, ↓selV_nt, ↓selV_nf, ↓impB_nt, ↓impB_nf, ↓selV_true, ↓selV_false, ↓selV_and, ↓impB_true, ↓impB_false, ↓impB_and, ↓prim_pick, ↓selV_nn, ↓impB_nn, doOp, get, ins, del, dels, Nat.reduceLT, Nat.reduceEqDiff, ↓reduceIte, reduceCtorEq, ne_eq, implies_true, prim, YLD, mkA, V.cells, Nat.reduceAdd, Nat.reduceSub, Nat.reduceMul, Nat.reduceLeDiff, loadA, cellsAt, nAg, packA, List.drop, List.take, List.head?, binA, unA, eqCells, eqCell, negB, fillA, storeA, Ob.with, indexedI, V.oneCell, intOf?, resA, resA1, packR, sealDepth, Int.reduceLT, Int.reduceLE, Int.reduceToNat, Int.reduceNeg, Int.reduceAdd, Int.reduceSub, Int.reduceMul, cond_true, cond_false, Int.reduceBNe, Int.reduceBEq, eq_self, deads, List.replicate, argsF, am8, g1, g2]
theorem same_nil {N n : Nat} (hn : 4 ≤ n) {H : Heap} {a m : Nat} {nn : Int} {L : List Wr} {Q : List Pg} {O : List Od} (M : Md H a m nn L Q O) : ∃ v' H', callA am N n 17 [.ptr a 1 0, .nilp] H = some (v', H') ∧ v' = .bool false ∧ ∃ tl, H' = H ++ tl := by
  obtain ⟨n, rfl⟩ : ∃ m, n = m + 1 := ⟨n - 1, by omega⟩
  have c26 := fun l => @there_spec N n (by omega) _ a m nn Q M.at_.q16 M.n1 (M.app l).at_.ob'
  have c26' := fun T => @gone_nil N H n T (by omega)
  refine am17_wp rfl ?_
  simp +contextual -implicitDefEqProofs (maxSteps := 10000000) only [sxb, plainD, stays, ↓selV_wt, ↓selV_wf, ↓impB_wt, ↓impB_wf, ↓selV_nor, ↓impB_nor, ↓selV_nt, ↓selV_nf, ↓impB_nt, ↓impB_nf, ↓selV_true, ↓selV_false, ↓selV_and, ↓impB_true, ↓impB_false, ↓impB_and, ↓prim_pick, ↓selV_nn, ↓impB_nn, doOp, get, ins, del, dels, Nat.reduceLT, Nat.reduceEqDiff, ↓reduceIte, reduceCtorEq, ne_eq, implies_true, prim, YLD, mkA, V.cells, Nat.reduceAdd, Nat.reduceSub, Nat.reduceMul, Nat.reduceLeDiff, loadA, cellsAt, nAg, packA, List.drop, List.take, List.head?, binA, unA, eqCells, eqCell, negB, fillA, storeA, Ob.with, indexedI, V.oneCell, intOf?, resA, resA1, packR, sealDepth, Int.reduceLT, Int.reduceLE, Int.reduceToNat, Int.reduceNeg, Int.reduceAdd, Int.reduceSub, Int.reduceMul, cond_true, cond_false, Int.reduceBNe, Int.reduceBEq, eq_self, deads, List.replicate, argsF, am17, c26, c26', pm26, eqCells, eqCell]
  exact ⟨rfl, _, rfl⟩
theorem base_md {N n : Nat} (hN : 5000 ≤ N) (hn : 9 ≤ n) {H : Heap} {a m : Nat} {nn : Int} {L : List Wr} {Q : List Pg} {O : List Od} (M : Md H a m nn L Q O) {p : Nat} (hb : badP nn p = false) (hL : L.length ≤ 4096) :
    ∃ v' H', callA am N n 21 [.ptr a 1 0, .int .i64 p] H = some (v', H') ∧ v' = .tup [.agg (verCs (topW (holdsF 46) (pgOf L p))), .int .i64 0] ∧ ∃ tl, H' = H ++ tl := by
  obtain ⟨n, rfl⟩ : ∃ m, n = m + 1 := ⟨n - 1, by omega⟩
  obtain ⟨v', H', c, rfl, tl, rfl⟩ := @top_spec N n hN (by omega) 46 (.inl rfl) _ a m nn L Q O (M.app [⟨1, .var zV⟩]) p hb hL
  have hvl : (verCs (topW (holdsF 46) (pgOf L p))).length = 97 ∧ (verCs (topW (holdsF 46) (pgOf L p))).all V.oneCell = true := by
    cases hx : topW (holdsF 46) (pgOf L p) with
    | none => exact ⟨rfl, rfl⟩
    | some x =>
      have hok := M.ab.ok.ok x (by
        unfold topW at hx
        have := List.mem_of_getLast? hx
        exact (List.mem_filter.1 (List.mem_filter.1 this).1).1)
      have := allOne_ints .u8 x.b
      refine ⟨by simp [verCs]; exact hok, ?_⟩
      simp only [verCs, List.all_cons, this, V.oneCell, Bool.and_self]
  obtain ⟨hv1, hv2⟩ := hvl
  generalize verCs (topW (holdsF 46) (pgOf L p)) = vv at *
  have hv3 : List.take 97 vv = vv := List.take_of_length_le (by omega)
  have sr97 : setRange zV 0 vv = vv := by
    unfold setRange
    rw [hv1, show List.drop (0 + 97) zV = [] from rfl, List.append_nil]
    rfl
  unfold zV at sr97 c
  refine am21_wp rfl ?_
  simp +contextual -implicitDefEqProofs (maxSteps := 10000000) only [sxb, plainD, stays, ↓selV_wt, ↓selV_wf, ↓impB_wt, ↓impB_wf, ↓selV_nor, ↓impB_nor, ↓selV_nt, ↓selV_nf, ↓impB_nt, ↓impB_nf, ↓selV_true, ↓selV_false, ↓selV_and, ↓impB_true, ↓impB_false, ↓impB_and, ↓prim_pick, ↓selV_nn, ↓impB_nn, doOp, get, ins, del, dels, Nat.reduceLT, Nat.reduceEqDiff, ↓reduceIte, reduceCtorEq, ne_eq, implies_true, prim, YLD, mkA, V.cells, Nat.reduceAdd, Nat.reduceSub, Nat.reduceMul, Nat.reduceLeDiff, loadA, cellsAt, nAg, packA, List.drop, List.take, List.head?, binA, unA, eqCells, eqCell, negB, fillA, storeA, Ob.with, indexedI, V.oneCell, intOf?, resA, resA1, packR, sealDepth, Int.reduceLT, Int.reduceLE, Int.reduceToNat, Int.reduceNeg, Int.reduceAdd, Int.reduceSub, Int.reduceMul, cond_true, cond_false, Int.reduceBNe, Int.reduceBEq, eq_self, deads, List.replicate, argsF, am21, app_get0, app_get, app_set0, app_set, c, List.append_assoc, hv1, hv2, hv3, sr97]
  exact ⟨_, rfl⟩
end Go.Am.T


set_option linter.unusedVariables false
set_option linter.unusedSimpArgs false
set_option linter.unusedSectionVars false
set_option maxRecDepth 10000
namespace Go.Am.T
attribute [local congr] selV_congr impB_congr
theorem ab_single {nn : Int} {L : List Wr} {Q : List Pg} {O : List Od} (h : Ab nn L Q O) (hk : (O.map Od.w).Nodup) {w : Int × Int} (hw : ∀ x ∈ L, x.who = w) (hne : plOf w [] L ≠ []) : ∃ o, O = [o] ∧ o.w = w ∧ o.l = plOf w [] L := by
  have self : ∀ o ∈ O, o.l = ordOf O o.w := fun o ho => by
    obtain ⟨i, hi⟩ := List.getElem?_of_mem ho
    unfold ordOf
    cases hf : O.find? (fun x => o.w == x.w) with
    | none =>
      rw [List.find?_eq_none] at hf
      exact absurd (hf o ho) (by simp)
    | some r =>
      have hr := List.mem_of_find?_eq_some hf
      have hw := List.find?_some hf
      obtain ⟨j, hj⟩ := List.getElem?_of_mem hr
      have := same_od hk hi hj (by simpa using hw)
      subst this
      rw [hi] at hj
      cases hj
      rfl
  have all : ∀ o ∈ O, o.w = w := fun o ho => by
    have h1 := h.ne o ho
    rw [self o ho, h.od] at h1
    cases hp : plOf o.w [] L with
    | nil => exact absurd hp h1
    | cons y l =>
      have : ∃ x ∈ L, vol o.w x = true := by
        refine Classical.byContradiction fun hno => h1 (plOf_none _ _ _ fun x hx => ?_)
        cases e : vol o.w x with
        | false => rfl
        | true => exact absurd ⟨x, hx, e⟩ hno
      obtain ⟨x, hx, hv⟩ := this
      exact (vol_iff.1 hv).2.symm.trans (hw x hx)
  match O, h, hk, self, all with
  | [], h, _, _, _ => exact absurd (show plOf w [] L = [] from (h.od w).symm) hne
  | [o], h, _, self, all => exact ⟨o, rfl, all o (by simp), by rw [self o (by simp), all o (by simp), h.od]⟩
  | o :: p :: O, _, hk, _, all =>
    have h1 := all o (by simp)
    have h2 := all p (by simp)
    simp [h1, h2] at hk
structure Trio (H : Heap) (LM LX LY : List Wr) (ax mx ay my : Nat) (QM QX QY : List Pg) (OM OX OY : List Od) : Prop where
  s0 : H[0]? = some ⟨1, .var (pcs wE)⟩
  M : Md H 4 3 16 LM QM OM
  X : Md H ax mx 2 LX QX OX
  Y : Md H ay my 2 LY QY OY
  oM : ∀ x, Own 4 3 QM OM x → 3 ≤ x
  oX : ∀ x, Own ax mx QX OX x → 3 ≤ x
  oY : ∀ x, Own ay my QY OY x → 3 ≤ x
  aMX : Apart 4 3 QM OM ax mx QX OX
  aMY : Apart 4 3 QM OM ay my QY OY
  aXY : Apart ax mx QX OX ay my QY OY
theorem Trio.len {H : Heap} {LM LX LY : List Wr} {ax mx ay my : Nat} {QM QX QY : List Pg} {OM OX OY : List Od} (T : Trio H LM LX LY ax mx ay my QM QX QY OM OX OY) : 5 ≤ H.length := T.M.at_.lta
theorem Trio.swap {H : Heap} {LM LX LY : List Wr} {ax mx ay my : Nat} {QM QX QY : List Pg} {OM OX OY : List Od} (T : Trio H LM LX LY ax mx ay my QM QX QY OM OX OY) : Trio H LM LY LX ay my ax mx QM QY QX OM OY OX :=
  ⟨T.s0, T.M, T.Y, T.X, T.oM, T.oY, T.oX, T.aMY, T.aMX, T.aXY.symm⟩
theorem Trio.opX {H H' : Heap} {LM LX LX' LY : List Wr} {ax mx ay my : Nat} {QM QX QX' QY : List Pg} {OM OX OX' OY : List Od} (T : Trio H LM LX LY ax mx ay my QM QX QY OM OX OY) (M : Md H' ax mx 2 LX' QX' OX') (B : Bey H H' ax mx QX QX' OX OX') :
    Trio H' LM LX' LY ax mx ay my QM QX' QY OM OX' OY := by
  obtain ⟨a1, a2⟩ := T.M.beside B T.aMX.symm
  obtain ⟨b1, b2⟩ := T.Y.beside B T.aXY
  have hl := T.len
  refine ⟨?_, a1, M, b1, T.oM, fun x hx => ?_, T.oY, a2.symm, T.aMY, b2⟩
  · rw [B.oth 0 (by omega) fun e => by have := T.oX 0 e; omega]
    exact T.s0
  · rcases B.new x hx with h | h
    · exact T.oX x h
    · omega
theorem Trio.app {H : Heap} {LM LX LY : List Wr} {ax mx ay my : Nat} {QM QX QY : List Pg} {OM OX OY : List Od} (T : Trio H LM LX LY ax mx ay my QM QX QY OM OX OY) (l : Heap) : Trio (H ++ l) LM LX LY ax mx ay my QM QX QY OM OX OY := by
  have hl := T.len
  exact ⟨by rw [List.getElem?_append_left (by omega)]; exact T.s0, T.M.app l, T.X.app l, T.Y.app l, T.oM, T.oX, T.oY, T.aMX, T.aMY, T.aXY⟩
structure One (H : Heap) (L : List Wr) (Q : List Pg) (O : List Od) : Prop where
  s0 : H[0]? = some ⟨1, .var (pcs wE)⟩
  M : Md H 4 3 16 L Q O
  own : ∀ x, Own 4 3 Q O x → 3 ≤ x
theorem One.op {H H' : Heap} {L L' : List Wr} {Q Q' : List Pg} {O O' : List Od} (T : One H L Q O) (M : Md H' 4 3 16 L' Q' O') (B : Bey H H' 4 3 Q Q' O O') : One H' L' Q' O' := by
  have hl := T.M.at_.lta
  refine ⟨?_, M, fun x hx => ?_⟩
  · rw [B.oth 0 (by omega) fun e => by have := T.own 0 e; omega]
    exact T.s0
  · rcases B.new x hx with h | h
    · exact T.own x h
    · omega
def wX0 : Wr := ⟨7, 2147483647, 0, 1, bdL 1, false⟩
def wX1 : Wr := ⟨7, 2147483647, 1, 1, bdL 2, false⟩
theorem am6_wp {N n : Nat} {h : Heap} {v : V} (H : sx ⟨pureOf am, callA am N n, N, 0⟩ am6.body (fr am6.nt []) (deads am6.sites) (retQ am6.res fun x h' => V.shut (fun o => h'[o]?) sealDepth x = some v)) : callA am N (n + 1) 6 [] h = some (v, h) :=
  call_pure at6 rfl rfl (by decide) rfl (sx_wp H)
set_option maxHeartbeats 4000000 in
theorem nil_spec {N n : Nat} (hN : 5000 ≤ N) (hn : 25 ≤ n) (h : Heap) : callA am N n 6 [] h = some (.bool true, h) := by
  obtain ⟨n, rfl⟩ : ∃ m, n = m + 1 := ⟨n - 1, by omega⟩
  have c7 := @known_spec N n (by omega) (by omega)
  have c9 := @num_spec N n (by omega)
  have c20 := @body_spec N n (by omega)
  obtain ⟨tl0, c8, M0, own0⟩ := @new_md N n (by omega) 16 (by omega) (by omega) [⟨0, .dead⟩, ⟨0, .dead⟩, ⟨0, .dead⟩]
  simp only [List.length_cons, List.length_nil, Nat.zero_add, Nat.reduceAdd] at c8 M0 own0
  obtain ⟨K0, eK0⟩ : ∃ K0, K0 = [(⟨0, .dead⟩ : Ob), ⟨0, .dead⟩, ⟨0, .dead⟩] ++ tl0 := ⟨_, rfl⟩
  rw [← eK0] at c8 M0
  have k0l := M0.at_.lta
  have k00 : K0[0]? = some ⟨0, .dead⟩ := by rw [eK0]; rfl
  have l0 : 0 < K0.length := by omega
  obtain ⟨K1, eK1⟩ : ∃ K1, K1 = K0.set 0 ⟨1, .var (pcs wE)⟩ := ⟨_, rfl⟩
  have T1 : One K1 [] noQ [] := ⟨by rw [eK1, List.getElem?_set_self l0], by rw [eK1]; exact M0.set _ fun e => by have := own0 0 e; omega, own0⟩
  have eK1' := eK1.symm
  unfold pcs wE at eK1'
  simp only at eK1'
  refine am6_wp ?_
  simp +contextual -implicitDefEqProofs (maxSteps := 10000000) only [sxb, plainD, stays, ↓selV_wt, ↓selV_wf, ↓impB_wt, ↓impB_wf, ↓selV_nor, ↓impB_nor, ↓selV_nt, ↓selV_nf, ↓impB_nt, ↓impB_nf, ↓selV_true, ↓selV_false, ↓selV_and, ↓impB_true, ↓impB_false, ↓impB_and, ↓prim_pick, ↓selV_nn, ↓impB_nn, doOp, get, ins, del, dels, Nat.reduceLT, Nat.reduceEqDiff, ↓reduceIte, reduceCtorEq, ne_eq, implies_true, prim, YLD, mkA, V.cells, Nat.reduceAdd, Nat.reduceSub, Nat.reduceMul, Nat.reduceLeDiff, loadA, cellsAt, nAg, packA, List.drop, List.take, List.head?, binA, unA, eqCells, eqCell, negB, fillA, storeA, Ob.with, indexedI, V.oneCell, intOf?, resA, resA1, packR, sealDepth, Int.reduceLT, Int.reduceLE, Int.reduceToNat, Int.reduceNeg, Int.reduceAdd, Int.reduceSub, Int.reduceMul, cond_true, cond_false, Int.reduceBNe, Int.reduceBEq, eq_self, deads, List.replicate, argsF, am6, c8, k00, l0, List.getElem?_set_self, List.length_set, List.set_set, eK1']
  refine sx_loop (fun i t h => t = fr 178 [(1, .ptr 4 1 0), (2, .int .i64 0), (3, .ptr 0 1 0), (4, .int .i64 (i : Nat))] ∧ i ≤ 4096 ∧ ∃ Q O, One h (LN i) Q O) 4096 (by show 4096 < N; omega) ⟨rfl, by omega, noQ, [], T1⟩ ?_
  rintro i t K hi ⟨rfl, hi2, Q, O, T⟩
  by_cases hlt : i < 4096
  · have g1 : decide ((i : Int) < 4096) = true := decide_eq_true (by omega)
    have hwr : IntKind.i64.wrap ((i : Int) + 1) = ((i + 1 : Nat) : Int) := (wrap64 (by omega) (by omega)).trans (by omega)
    obtain ⟨K2, Q2, O2, c11, M2, B2⟩ := @write_md N n hN (by omega) _ _ _ _ _ _ _ T.M (by rw [LN_len]; omega) wE 15 (B := bdL (IntKind.u8.wrap (i : Int))) rfl
    rw [opW_LN hlt] at c11 M2
    have hs0 : loadA (fun o => K[o]?) 2 (.ptr 0 1 0) = some [.int .i64 7, .int .i64 2147483647] := by simp [loadA, cellsAt, T.s0, pcs, wE]
    have g0 : ((0 : Int) != 0) = false := rfl
    unfold pcs wE bdL at c11
    have e95 : List.map (V.int .u8) (IntKind.u8.wrap (i : Int) :: List.replicate 95 0) = .int .u8 (IntKind.u8.wrap (i : Int)) :: [.int .u8 0, .int .u8 0, .int .u8 0, .int .u8 0, .int .u8 0, .int .u8 0, .int .u8 0, .int .u8 0, .int .u8 0, .int .u8 0, .int .u8 0, .int .u8 0, .int .u8 0, .int .u8 0, .int .u8 0, .int .u8 0, .int .u8 0, .int .u8 0, .int .u8 0, .int .u8 0, .int .u8 0, .int .u8 0, .int .u8 0, .int .u8 0, .int .u8 0, .int .u8 0, .int .u8 0, .int .u8 0, .int .u8 0, .int .u8 0, .int .u8 0, .int .u8 0, .int .u8 0, .int .u8 0, .int .u8 0, .int .u8 0, .int .u8 0, .int .u8 0, .int .u8 0, .int .u8 0, .int .u8 0, .int .u8 0, .int .u8 0, .int .u8 0, .int .u8 0, .int .u8 0, .int .u8 0, .int .u8 0, .int .u8 0, .int .u8 0, .int .u8 0, .int .u8 0, .int .u8 0, .int .u8 0, .int .u8 0, .int .u8 0, .int .u8 0, .int .u8 0, .int .u8 0, .int .u8 0, .int .u8 0, .int .u8 0, .int .u8 0, .int .u8 0, .int .u8 0, .int .u8 0, .int .u8 0, .int .u8 0, .int .u8 0, .int .u8 0, .int .u8 0, .int .u8 0, .int .u8 0, .int .u8 0, .int .u8 0, .int .u8 0, .int .u8 0, .int .u8 0, .int .u8 0, .int .u8 0, .int .u8 0, .int .u8 0, .int .u8 0, .int .u8 0, .int .u8 0, .int .u8 0, .int .u8 0, .int .u8 0, .int .u8 0, .int .u8 0, .int .u8 0, .int .u8 0, .int .u8 0, .int .u8 0, .int .u8 0] := rfl
    rw [e95] at c11
    have T2 := T.op M2 B2
    generalize hu : IntKind.u8.wrap (i : Int) = u at *
    simp +contextual -implicitDefEqProofs (maxSteps := 10000000) only [sxb, plainD, stays, ↓selV_wt, ↓selV_wf, ↓impB_wt, ↓impB_wf, ↓selV_nor, ↓impB_nor, ↓selV_nt, ↓selV_nf, ↓impB_nt, ↓impB_nf, ↓selV_true, ↓selV_false, ↓selV_and, ↓impB_true, ↓impB_false, ↓impB_and, ↓prim_pick, ↓selV_nn, ↓impB_nn, doOp, get, ins, del, dels, Nat.reduceLT, Nat.reduceEqDiff, ↓reduceIte, reduceCtorEq, ne_eq, implies_true, prim, YLD, mkA, V.cells, Nat.reduceAdd, Nat.reduceSub, Nat.reduceMul, Nat.reduceLeDiff, loadA, cellsAt, nAg, packA, List.drop, List.take, List.head?, binA, unA, eqCells, eqCell, negB, fillA, storeA, Ob.with, indexedI, V.oneCell, intOf?, resA, resA1, packR, sealDepth, Int.reduceLT, Int.reduceLE, Int.reduceToNat, Int.reduceNeg, Int.reduceAdd, Int.reduceSub, Int.reduceMul, cond_true, cond_false, Int.reduceBNe, Int.reduceBEq, eq_self, deads, List.replicate, argsF, g1, hs0, hu, c20, pm20, c11, hwr, bne_self_eq_false, c9, pm9, g0, hlt, -loadA]
    exact ⟨by omega, Q2, O2, T2⟩
  have e16 : i = 4096 := by omega
  subst e16
  have g1 : decide (((4096 : Nat) : Int) < 4096) = false := rfl
  clear hi hi2 hlt
  -- four more
  have bz : (bdL 0).map (V.int .u8) = .int .u8 0 :: [.int .u8 0, .int .u8 0, .int .u8 0, .int .u8 0, .int .u8 0, .int .u8 0, .int .u8 0, .int .u8 0, .int .u8 0, .int .u8 0, .int .u8 0, .int .u8 0, .int .u8 0, .int .u8 0, .int .u8 0, .int .u8 0, .int .u8 0, .int .u8 0, .int .u8 0, .int .u8 0, .int .u8 0, .int .u8 0, .int .u8 0, .int .u8 0, .int .u8 0, .int .u8 0, .int .u8 0, .int .u8 0, .int .u8 0, .int .u8 0, .int .u8 0, .int .u8 0, .int .u8 0, .int .u8 0, .int .u8 0, .int .u8 0, .int .u8 0, .int .u8 0, .int .u8 0, .int .u8 0, .int .u8 0, .int .u8 0, .int .u8 0, .int .u8 0, .int .u8 0, .int .u8 0, .int .u8 0, .int .u8 0, .int .u8 0, .int .u8 0, .int .u8 0, .int .u8 0, .int .u8 0, .int .u8 0, .int .u8 0, .int .u8 0, .int .u8 0, .int .u8 0, .int .u8 0, .int .u8 0, .int .u8 0, .int .u8 0, .int .u8 0, .int .u8 0, .int .u8 0, .int .u8 0, .int .u8 0, .int .u8 0, .int .u8 0, .int .u8 0, .int .u8 0, .int .u8 0, .int .u8 0, .int .u8 0, .int .u8 0, .int .u8 0, .int .u8 0, .int .u8 0, .int .u8 0, .int .u8 0, .int .u8 0, .int .u8 0, .int .u8 0, .int .u8 0, .int .u8 0, .int .u8 0, .int .u8 0, .int .u8 0, .int .u8 0, .int .u8 0, .int .u8 0, .int .u8 0, .int .u8 0, .int .u8 0, .int .u8 0] := rfl
  have hL : (LN 4096).length ≤ 4096 := by rw [LN_len]; exact Nat.le_refl _
  obtain ⟨K2, Q2, O2, d1, M2, B2⟩ := @write_md N n hN (by omega) _ _ _ _ _ _ _ T.M hL wE 15 (B := bdL 0) rfl
  rw [opW_full] at d1 M2
  have T2 := T.op M2 B2
  obtain ⟨K3, Q3, O3, d2, M3, B3⟩ := @write_md N n hN (by omega) _ _ _ _ _ _ _ T2.M hL (8, 1) 0 (B := bdL 0) rfl
  rw [opW_bad (by decide)] at d2 M3
  have T3 := T2.op M3 B3
  obtain ⟨K4, Q4, O4, d3, M4, B4⟩ := @write_md N n hN (by omega) _ _ _ _ _ _ _ T3.M hL (0, 0) 0 (B := bdL 0) rfl
  rw [opW_bad (by decide)] at d3 M4
  have T4 := T3.op M4 B4
  obtain ⟨K5, Q5, O5, d4, M5, B5⟩ := @write_md N n hN (by omega) _ _ _ _ _ _ _ T4.M hL (0, 2147483648) 0 (B := bdL 0) rfl
  rw [opW_bad (by decide)] at d4 M5
  have T5 := T4.op M5 B5
  obtain ⟨tl6, d5⟩ := @new_bad N n (by omega) 17 (.inr (by omega)) K5
  have k5l := T5.M.at_.lta
  obtain ⟨K6, eK6⟩ : ∃ K6, K6 = K5 ++ tl6 := ⟨_, rfl⟩
  rw [← eK6] at d5
  have T6 : One K6 (LN 4096) Q5 O5 := ⟨by rw [eK6, List.getElem?_append_left (by omega)]; exact T5.s0, by rw [eK6]; exact T5.M.app _, T5.own⟩
  have k6l := T6.M.at_.lta
  obtain ⟨tl7, d6, X0, ox0⟩ := @new_md N n (by omega) 2 (by omega) (by omega) K6
  obtain ⟨K7, eK7⟩ : ∃ K7, K7 = K6 ++ tl7 := ⟨_, rfl⟩
  rw [← eK7] at d6 X0
  have k7l := X0.at_.lta
  obtain ⟨tl8, d7, Y0, oy0⟩ := @new_md N n (by omega) 2 (by omega) (by omega) K7
  obtain ⟨K8, eK8⟩ : ∃ K8, K8 = K7 ++ tl8 := ⟨_, rfl⟩
  rw [← eK8] at d7 Y0
  have R0 : Trio K8 (LN 4096) [] [] (K6.length + 1) K6.length (K7.length + 1) K7.length Q5 noQ noQ O5 [] [] := by
    have m8 : Md K8 4 3 16 (LN 4096) Q5 O5 := by rw [eK8, eK7, List.append_assoc]; exact T6.M.app _
    refine ⟨?_, m8, by rw [eK8]; exact X0.app _, Y0, T6.own, fun x hx => by have := ox0 x hx; omega, fun x hx => by have := oy0 x hx; omega, fun x hx hx2 => ?_, fun x hx hx2 => ?_, fun x hx hx2 => ?_⟩
    · rw [eK8, eK7, List.append_assoc, List.getElem?_append_left (by omega)]
      exact T6.s0
    · have := T6.M.at_.lt x hx
      have := ox0 x hx2
      omega
    · have := T6.M.at_.lt x hx
      have := oy0 x hx2
      omega
    · have := X0.at_.lt x hx
      have := oy0 x hx2
      omega
  obtain ⟨K9, QX1, OX1, f1, N1, C1⟩ := @write_md N n hN (by omega) _ _ _ _ _ _ _ R0.X (by simp) wE 0 (B := bdL 1) rfl
  rw [show opW 2 [] wE 0 (bdL 1) = ((1, 0), [wX0]) from rfl] at f1 N1
  have R1 := R0.opX N1 C1
  obtain ⟨K10, QX2, OX2, f2, N2, C2⟩ := @write_md N n hN (by omega) _ _ _ _ _ _ _ R1.X (by simp) wE 1 (B := bdL 2) rfl
  rw [show opW 2 [wX0] wE 1 (bdL 2) = ((1, 0), [wX0, wX1]) from rfl] at f2 N2
  have R2 := (R1.opX N2 C2).swap
  obtain ⟨K11, QY1, OY1, f3, N3, C3⟩ := @write_md N n hN (by omega) _ _ _ _ _ _ _ R2.X (by simp) wE 1 (B := bdL 2) rfl
  rw [show opW 2 [] wE 1 (bdL 2) = ((1, 0), [wX1]) from rfl] at f3 N3
  have R3 := R2.opX N3 C3
  obtain ⟨K12, QY2, OY2, f4, N4, C4⟩ := @write_md N n hN (by omega) _ _ _ _ _ _ _ R3.X (by simp) wE 0 (B := bdL 1) rfl
  rw [show opW 2 [wX1] wE 0 (bdL 1) = ((1, 0), [wX1, wX0]) from rfl] at f4 N4
  have R4 := (R3.opX N4 C4).swap
  -- they are not the same
  have hwX : ∀ x ∈ [wX0, wX1], x.who = wE := by
    intro x hx
    simp only [List.mem_cons, List.not_mem_nil, or_false] at hx
    rcases hx with rfl | rfl <;> rfl
  have hwY : ∀ x ∈ [wX1, wX0], x.who = wE := by
    intro x hx
    simp only [List.mem_cons, List.not_mem_nil, or_false] at hx
    rcases hx with rfl | rfl <;> rfl
  have pX : plOf wE [] [wX0, wX1] = [(0, 0), (1, 0)] := rfl
  have pY : plOf wE [] [wX1, wX0] = [(1, 0), (0, 0)] := rfl
  obtain ⟨oX, eOX, wOX, lOX⟩ := ab_single R4.X.ab R4.X.at_.ks hwX (by rw [pX]; simp)
  obtain ⟨oY, eOY, wOY, lOY⟩ := ab_single R4.Y.ab R4.Y.at_.ks hwY (by rw [pY]; simp)
  have hpp : ∀ p : Int, pgOf [wX0, wX1] p = pgOf [wX1, wX0] p := fun p => by
    simp only [pgOf_cons]
    have e0 : wX0.pg = 0 := rfl
    have e1 : wX1.pg = 1 := rfl
    rw [e0, e1]
    by_cases h0 : (0 : Int) = p
    · have h1 : ¬ (1 : Int) = p := by omega
      simp [h0, h1]
    · simp [h0]
  have hmne : K6.length ≠ K7.length := by omega
  obtain ⟨v', H', f5, rfl, tl12, rfl⟩ := @same_md N n hN (by omega) _ _ _ _ _ _ _ _ _ _ _ _ R4.X R4.Y hpp hmne (by rw [eOX, eOY]; rfl) (by simp) false (.inr ⟨rfl, oX, eOX, by rw [lOX, pX, wOX, R4.Y.ab.od, pY]; decide⟩) (fun o ho => by
    rw [eOX] at ho
    obtain rfl : o = oX := by simpa using ho
    rw [lOX, pX]; simp)
  have R5 := R4.app tl12
  obtain ⟨K13, QM2, OM2, f6, N6, C6⟩ := @lose_md N n hN (by omega) _ _ _ _ _ _ _ R5.M hL wE 4095
  rw [opL_LN] at f6 N6
  obtain ⟨v', H', f7, rfl, tl13, rfl⟩ := @base_md N n hN (by omega) _ _ _ _ _ _ _ N6 15 (by decide) (by rw [List.length_map, LN_len]; omega)
  rw [show (((15 : Nat) : Int)) = 15 from rfl, top_LN] at f7
  have own13 : ∀ x, Own 4 3 QM2 OM2 x → 3 ≤ x := fun x hx => by
    rcases C6.new x hx with h | h
    · exact R5.oM x h
    · have := R5.len; omega
  have N7 := N6.app tl13
  have k13l := N7.at_.lta
  have k131 : (K13 ++ tl13)[1]? = some ((K13 ++ tl13)[1]'(by omega)) := List.getElem?_eq_getElem (by omega)
  generalize (K13 ++ tl13)[1]'(by omega) = y1 at k131
  obtain ⟨vv, evv⟩ : ∃ vv, vv = verCs (some (wN 4094).mark) := ⟨_, rfl⟩
  have hvv : vv = .int .i64 4095 :: ((bdL (IntKind.u8.wrap ((4094 : Nat) : Int))).map (V.int .u8)) := evv
  have hv1 : vv.length = 97 := by rw [hvv]; rfl
  have hv2 : vv.all V.oneCell = true := by rw [hvv]; rfl
  have hv3 : List.take 97 vv = vv := List.take_of_length_le (by omega)
  have hv4 : List.take 1 vv = [.int .i64 4095] := by rw [hvv]; rfl
  have sr97 : setRange zV 0 vv = vv := by
    unfold setRange
    rw [hv1, show List.drop (0 + 97) zV = [] from rfl, List.append_nil]
    rfl
  unfold zV at sr97
  rw [← evv] at f7
  obtain ⟨K14, eK14⟩ : ∃ K14, K14 = (K13 ++ tl13).set 1 ⟨y1.ver + 1, .var vv⟩ := ⟨_, rfl⟩
  have N8 : Md K14 4 3 16 ((LN 4095).map Wr.mark) QM2 OM2 := by rw [eK14]; exact N7.set _ fun e => by have := own13 1 e; omega
  have k14l := N8.at_.lta
  have k141 : K14[1]? = some ⟨y1.ver + 1, .var vv⟩ := by rw [eK14, List.getElem?_set_self (by omega)]
  obtain ⟨v', H', g1', rfl, tl14, rfl⟩ := @nothing_spec N n hN (by omega) .nilp (.inl rfl) K14 (gone_nil N K14)
  have N9 := N8.app tl14
  have k15l := N9.at_.lta
  have k152 : (K14 ++ tl14)[2]? = some ((K14 ++ tl14)[2]'(by omega)) := List.getElem?_eq_getElem (by omega)
  generalize (K14 ++ tl14)[2]'(by omega) = y2 at k152
  obtain ⟨K15, eK15⟩ : ∃ K15, K15 = (K14 ++ tl14).set 2 ⟨y2.ver + 1, .var zMd⟩ := ⟨_, rfl⟩
  have N10 : Md K15 4 3 16 ((LN 4095).map Wr.mark) QM2 OM2 := by rw [eK15]; exact N9.set _ fun e => by have := own13 2 e; omega
  have k152' : K15[2]? = some ⟨y2.ver + 1, .var zMd⟩ := by rw [eK15, List.getElem?_set_self (by omega)]
  obtain ⟨v', H', g2', rfl, tl15, rfl⟩ := @nothing_spec N n hN (by omega) (.ptr 2 (y2.ver + 1) 0) (.inr ⟨2, _, rfl⟩) K15 (gone_zero N k152')
  obtain ⟨v', H', g3', rfl, tl16, rfl⟩ := @same_nil N n (by omega) _ _ _ _ _ _ _ (N10.app tl15)
  have ld : ∀ K : Heap, K[0]? = some ⟨1, .var (pcs wE)⟩ → loadA (fun o => K[o]?) 2 (.ptr 0 1 0) = some [.int .i64 7, .int .i64 2147483647] := fun K hK => by simp [loadA, cellsAt, hK, pcs, wE]
  have s1 := ld _ T.s0
  have s8 := ld _ R0.s0
  have s9 := ld _ R1.s0
  have s10 := ld _ R2.s0
  have s11 := ld _ R3.s0
  have s12 := ld _ R5.s0
  have b1 : (bdL 1).map (V.int .u8) = .int .u8 1 :: [.int .u8 0, .int .u8 0, .int .u8 0, .int .u8 0, .int .u8 0, .int .u8 0, .int .u8 0, .int .u8 0, .int .u8 0, .int .u8 0, .int .u8 0, .int .u8 0, .int .u8 0, .int .u8 0, .int .u8 0, .int .u8 0, .int .u8 0, .int .u8 0, .int .u8 0, .int .u8 0, .int .u8 0, .int .u8 0, .int .u8 0, .int .u8 0, .int .u8 0, .int .u8 0, .int .u8 0, .int .u8 0, .int .u8 0, .int .u8 0, .int .u8 0, .int .u8 0, .int .u8 0, .int .u8 0, .int .u8 0, .int .u8 0, .int .u8 0, .int .u8 0, .int .u8 0, .int .u8 0, .int .u8 0, .int .u8 0, .int .u8 0, .int .u8 0, .int .u8 0, .int .u8 0, .int .u8 0, .int .u8 0, .int .u8 0, .int .u8 0, .int .u8 0, .int .u8 0, .int .u8 0, .int .u8 0, .int .u8 0, .int .u8 0, .int .u8 0, .int .u8 0, .int .u8 0, .int .u8 0, .int .u8 0, .int .u8 0, .int .u8 0, .int .u8 0, .int .u8 0, .int .u8 0, .int .u8 0, .int .u8 0, .int .u8 0, .int .u8 0, .int .u8 0, .int .u8 0, .int .u8 0, .int .u8 0, .int .u8 0, .int .u8 0, .int .u8 0, .int .u8 0, .int .u8 0, .int .u8 0, .int .u8 0, .int .u8 0, .int .u8 0, .int .u8 0, .int .u8 0, .int .u8 0, .int .u8 0, .int .u8 0, .int .u8 0, .int .u8 0, .int .u8 0, .int .u8 0, .int .u8 0, .int .u8 0, .int .u8 0] := rfl
  have b2 : (bdL 2).map (V.int .u8) = .int .u8 2 :: [.int .u8 0, .int .u8 0, .int .u8 0, .int .u8 0, .int .u8 0, .int .u8 0, .int .u8 0, .int .u8 0, .int .u8 0, .int .u8 0, .int .u8 0, .int .u8 0, .int .u8 0, .int .u8 0, .int .u8 0, .int .u8 0, .int .u8 0, .int .u8 0, .int .u8 0, .int .u8 0, .int .u8 0, .int .u8 0, .int .u8 0, .int .u8 0, .int .u8 0, .int .u8 0, .int .u8 0, .int .u8 0, .int .u8 0, .int .u8 0, .int .u8 0, .int .u8 0, .int .u8 0, .int .u8 0, .int .u8 0, .int .u8 0, .int .u8 0, .int .u8 0, .int .u8 0, .int .u8 0, .int .u8 0, .int .u8 0, .int .u8 0, .int .u8 0, .int .u8 0, .int .u8 0, .int .u8 0, .int .u8 0, .int .u8 0, .int .u8 0, .int .u8 0, .int .u8 0, .int .u8 0, .int .u8 0, .int .u8 0, .int .u8 0, .int .u8 0, .int .u8 0, .int .u8 0, .int .u8 0, .int .u8 0, .int .u8 0, .int .u8 0, .int .u8 0, .int .u8 0, .int .u8 0, .int .u8 0, .int .u8 0, .int .u8 0, .int .u8 0, .int .u8 0, .int .u8 0, .int .u8 0, .int .u8 0, .int .u8 0, .int .u8 0, .int .u8 0, .int .u8 0, .int .u8 0, .int .u8 0, .int .u8 0, .int .u8 0, .int .u8 0, .int .u8 0, .int .u8 0, .int .u8 0, .int .u8 0, .int .u8 0, .int .u8 0, .int .u8 0, .int .u8 0, .int .u8 0, .int .u8 0, .int .u8 0, .int .u8 0] := rfl
  have l14 : loadA (fun o => K14[o]?) 1 (.ptr 1 (y1.ver + 1) 0) = some [.int .i64 4095] := by simp [loadA, cellsAt, k141, hv1, hv4]
  simp only [bz] at d1 d2 d3 d4
  simp only [b1] at f1 f4
  simp only [b2] at f2 f3
  unfold pcs wE at d1 f1 f2 f3 f4 f6
  unfold pcs at d2 d3 d4
  simp only at d1 d2 d3 d4 f1 f2 f3 f4 f6
  have eK14' := eK14.symm
  have eK15' := eK15.symm
  unfold zMd at eK15'
  have l13 : 1 < (K13 ++ tl13).length := by omega
  have l15 : 2 < (K14 ++ tl14).length := by omega
  have sg1 : ∀ y, ((K13 ++ tl13).set 1 y)[1]? = some y := fun y => List.getElem?_set_self l13
  generalize hKX : K12 ++ tl12 = KX at *
  generalize hKY : K13 ++ tl13 = KY at *
  generalize hKZ : K14 ++ tl14 = KZ at *
  simp +contextual -implicitDefEqProofs (maxSteps := 10000000) only [sxb, plainD, stays, ↓selV_wt, ↓selV_wf, ↓impB_wt, ↓impB_wf, ↓selV_nor, ↓impB_nor, ↓selV_nt, ↓selV_nf, ↓impB_nt, ↓impB_nf, ↓selV_true, ↓selV_false, ↓selV_and, ↓impB_true, ↓impB_false, ↓impB_and, ↓prim_pick, ↓selV_nn, ↓impB_nn, doOp, get, ins, del, dels, Nat.reduceLT, Nat.reduceEqDiff, ↓reduceIte, reduceCtorEq, ne_eq, implies_true, prim, YLD, mkA, V.cells, Nat.reduceAdd, Nat.reduceSub, Nat.reduceMul, Nat.reduceLeDiff, loadA, cellsAt, nAg, packA, List.drop, List.take, List.head?, binA, unA, eqCells, eqCell, negB, fillA, storeA, Ob.with, indexedI, V.oneCell, intOf?, resA, resA1, packR, sealDepth, Int.reduceLT, Int.reduceLE, Int.reduceToNat, Int.reduceNeg, Int.reduceAdd, Int.reduceSub, Int.reduceMul, cond_true, cond_false, Int.reduceBNe, Int.reduceBEq, eq_self, deads, List.replicate, argsF, g1, s1, c20, pm20, d1, d2, d3, d4, d5, d6, d7, s8, f1, s9, f2, s10, f3, s11, f4, f5, s12, f6, f7, k131, sg1, hv1, hv2, hv3, sr97, List.set_set, l13, List.length_set, eK14', c9, pm9, l14, pm22, g1', k152, eK15', g2', pm17, g3', c7, pm7, -loadA]
theorem runsModelNil : callA am 6000 40 6 [] [] = some (.bool true, []) := nil_spec (by omega) (by omega) []
end Go.Am.T

